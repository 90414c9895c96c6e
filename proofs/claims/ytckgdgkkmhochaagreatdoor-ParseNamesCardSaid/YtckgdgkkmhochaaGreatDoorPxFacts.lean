/- What is read is thin, and no deeper than it has parts. No program in sight. -/
import Derived.Test.YtckgdgkkmhochaaGreatDoorPxPlain
import Derived.Lib.ParseIntBTie
namespace Px
open Go
open Lx hiding none run first
set_option linter.unusedVariables false
set_option linter.unusedSimpArgs false
mutual
/-- no tree has more than so many args, its texts and numbers are in bounds -/
def thin : Ex → Bool
  | .mk _ _ n t nm l => (decide (l.length ≤ 1000) && (decide (t.length ≤ 140737488351232) && (decide (nm.length ≤ 140737488351232) && (decide (-9223372036854775808 ≤ n) && decide (n ≤ 9223372036854775807))))) && thins l
def thins : List Ex → Bool
  | [] => true
  | e :: l => thin e && thins l
end
theorem thin_mem {l : List Ex} {e : Ex} (h : thins l = true) (he : e ∈ l) : thin e = true := by
  induction l with
  | nil => cases he
  | cons x l ih =>
    simp only [thins, Bool.and_eq_true] at h
    rcases List.mem_cons.1 he with rfl | he
    · exact h.1
    · exact ih h.2 he
theorem deeps_snoc (l : List Ex) (e : Ex) : deeps (l ++ [e]) = max (deeps l) (deep e) := by
  induction l with
  | nil => simp [deeps]
  | cons x l ih => simp only [List.cons_append, deeps, ih]; omega
theorem deep_mem {l : List Ex} {e : Ex} (h : e ∈ l) : deep e ≤ deeps l := by
  induction l with
  | nil => cases h
  | cons x l ih =>
    simp only [deeps]
    rcases List.mem_cons.1 h with rfl | h
    · omega
    · have := ih h; omega
theorem deeps_take (l : List Ex) : ∀ i : Nat, deeps (l.take i) ≤ deeps l := by
  induction l with
  | nil => simp
  | cons x l ih => intro i; cases i with
    | zero => simp [deeps]
    | succ i => have := ih i; simp only [List.take_succ_cons, deeps]; omega
theorem deep_pos (e : Ex) : 1 ≤ deep e := by cases e; simp [deep]
def Fine (n : Nat) (e : Ex) (r : List Tok) : Prop := thin e = true ∧ deep e + r.length ≤ n
theorem fine_op1 {n : Nat} {o : Int} {e : Ex} {r : List Tok} (h : Fine n e r) : Fine (n + 1) (op1 o e) r := by
  obtain ⟨h1, h2⟩ := h
  refine ⟨by simp [op1, thin, thins, h1], ?_⟩
  simp only [op1, deep, deeps]; omega
theorem fine_leaf {n k m : Int} {t nm : Bs} {r : List Tok} (h1 : t.length ≤ 1000) (h2 : nm.length ≤ 1000) (h3 : -9223372036854775808 ≤ n ∧ n ≤ 9223372036854775807) : Fine (r.length + 1) (.mk k m n t nm []) r := ⟨by simp [thin, thins]; omega, by simp [deep, deeps]; omega⟩
theorem numOf_fit (l : Bs) : -9223372036854775808 ≤ numOf l ∧ numOf l ≤ 9223372036854775807 := by
  unfold numOf
  split
  · rename_i n h
    have := Lib.parseIntB_bounds h
    omega
  · decide
def Small (ts : List Tok) : Prop := ∀ t ∈ ts, t.t.length ≤ 1000
theorem Small.less {ts r : List Tok} (h : Small ts) (k : Less ts r) : Small r := by
  obtain ⟨_, k, rfl⟩ := k
  exact fun t ht => h t (List.mem_of_mem_drop ht)
theorem Small.tail {t : Tok} {ts : List Tok} (h : Small (t :: ts)) : Small ts := fun u hu => h u (List.mem_cons_of_mem _ hu)
theorem Fine.le {n m : Nat} {e : Ex} {r s : List Tok} (h : Fine n e r) (hl : s.length + n ≤ m + r.length) : Fine m e s := ⟨h.1, by have := h.2; omega⟩
theorem fine_all : ∀ n : Nat, (∀ ts e r, Small ts → one n ts = some (e, r) → Fine ts.length e r) ∧ (∀ m ts e r, Small ts → two n m ts = some (e, r) → Fine ts.length e r) ∧ (∀ m l x ts e r T, Small ts → loop n m l x ts = some (e, r) → Fine T x ts → Fine T e r)
  | 0 => ⟨fun _ _ _ _ h => by simp [one] at h, fun _ _ _ _ _ h => by simp [two] at h, fun _ _ _ _ _ _ _ _ h => by simp [loop] at h⟩
  | n + 1 => by
    obtain ⟨h1, h2, h3⟩ := fine_all n
    refine ⟨fun ts e r hs h => ?_, fun m ts e r hs h => ?_, fun m l x ts e r T hs h hx => ?_⟩
    · cases ts with
      | nil => simp [one] at h
      | cons t s =>
        have ht := hs t (List.mem_cons_self ..)
        simp only [one] at h
        split at h
        · split at h
          · obtain ⟨p, hp, he⟩ := map_some h
            obtain ⟨rfl, rfl⟩ := Prod.mk.inj he
            exact fine_op1 (h1 _ _ _ hs.tail hp)
          · split at h
            · obtain ⟨p, hp, he⟩ := map_some h
              obtain ⟨rfl, rfl⟩ := Prod.mk.inj he
              exact fine_op1 (h1 _ _ _ hs.tail hp)
            · split at h
              · obtain ⟨p, hp, he⟩ := bind_some h
                obtain ⟨q, hq, he⟩ := map_some he
                obtain ⟨rfl, rfl⟩ := Prod.mk.inj he
                have := (sign_len hq).1
                exact (h2 _ _ _ _ hs.tail hp).le (by simp only [List.length_cons]; omega)
              · cases h
        · split at h
          · obtain ⟨rfl, rfl⟩ := Prod.mk.inj (Option.some.inj h); exact fine_leaf (by simp) (by simp) (numOf_fit _)
          · split at h
            · obtain ⟨rfl, rfl⟩ := Prod.mk.inj (Option.some.inj h); exact fine_leaf ht (by simp) (by decide)
            · split at h
              · obtain ⟨rfl, rfl⟩ := Prod.mk.inj (Option.some.inj h); exact fine_leaf (by simp) (by simp) (by decide)
              · split at h
                · obtain ⟨rfl, rfl⟩ := Prod.mk.inj (Option.some.inj h); exact fine_leaf (by simp) (by simp) (by decide)
                · split at h
                  · obtain ⟨r1, hr, he⟩ := bind_some h
                    obtain ⟨p, hp, he⟩ := bind_some he
                    obtain ⟨q, hq, he⟩ := map_some he
                    obtain ⟨rfl, rfl⟩ := Prod.mk.inj he
                    have hq := (sign_len hq).1
                    have hr' := (sign_len hr).1
                    refine (fine_op1 (h2 _ _ _ _ (hs.tail.less (sign_len hr)) hp)).le (by simp only [List.length_cons]; omega)
                  · obtain ⟨rfl, rfl⟩ := Prod.mk.inj (Option.some.inj h); exact fine_leaf (by simp) ht (by decide)
    · simp only [two] at h
      obtain ⟨p, hp, he⟩ := bind_some h
      exact h3 _ _ _ _ _ _ _ (hs.less (one_less hp)) he (h1 _ _ _ hs hp)
    · cases ts with
      | nil => simp only [loop] at h; obtain ⟨rfl, rfl⟩ := Prod.mk.inj (Option.some.inj h); exact hx
      | cons t s =>
        simp only [loop] at h
        split at h
        · split at h
          · obtain ⟨rfl, rfl⟩ := Prod.mk.inj (Option.some.inj h); exact hx
          · split at h
            · obtain ⟨rfl, rfl⟩ := Prod.mk.inj (Option.some.inj h); exact hx
            · obtain ⟨p, hp, he⟩ := bind_some h
              have hf := h2 _ _ _ _ hs.tail hp
              refine h3 _ _ _ _ _ _ _ (hs.tail.less (two_less hp)) he ⟨?_, ?_⟩
              · simp [op2, thin, thins, hx.1, hf.1]
              · have k1 := hx.2
                have k2 := hf.2
                have k3 := (two_less hp).1
                have k4 := deep_pos p.1
                simp only [op2, deep, deeps, List.length_cons] at k1 ⊢
                omega
        · obtain ⟨rfl, rfl⟩ := Prod.mk.inj (Option.some.inj h); exact hx
mutual
/-- the same tree? -/
def same : Ex → Ex → Bool
  | .mk o k n t nm l, .mk o' k' n' t' nm' l' => (o == o' && ((k == k' && (n == n' && t == t')) && nm == nm')) && sames l l'
def sames : List Ex → List Ex → Bool
  | [], [] => true
  | a :: l, b :: m => same a b && sames l m
  | _, _ => false
end
mutual
theorem same_eq : ∀ {a b : Ex}, same a b = true → a = b
  | .mk o k n t nm l, .mk o' k' n' t' nm' l', h => by
    simp only [same, Bool.and_eq_true, beq_iff_eq] at h
    obtain ⟨⟨rfl, ⟨rfl, rfl, rfl⟩, rfl⟩, h⟩ := h
    rw [sames_eq h]
theorem sames_eq : ∀ {l m : List Ex}, sames l m = true → l = m
  | [], [], _ => rfl
  | a :: l, b :: m, h => by
    simp only [sames, Bool.and_eq_true] at h
    rw [same_eq h.1, sames_eq h.2]
  | [], _ :: _, h => by simp [sames] at h
  | _ :: _, [], h => by simp [sames] at h
end
mutual
theorem same_refl : ∀ a : Ex, same a a = true
  | .mk o k n t nm l => by simp [same, sames_refl l]
theorem sames_refl : ∀ l : List Ex, sames l l = true
  | [] => rfl
  | a :: l => by simp [sames, same_refl a, sames_refl l]
end
theorem sames_len : ∀ {l m : List Ex}, sames l m = true → l.length = m.length := fun h => by rw [sames_eq h]
theorem two_fine {n : Nat} {m : Int} {ts r : List Tok} {e : Ex} (hs : Small ts) (h : two n m ts = some (e, r)) : Fine ts.length e r := (fine_all n).2.1 _ _ _ _ hs h
end Px
