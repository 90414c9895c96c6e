/- A tree's text. -/
import Derived.Test.YtckgdgkkmhochaaGreatDoorPxMay
import Derived.Lib.ItoaLen
namespace Go.Proofs.YtckgdgkkmhochaaGreatDoor
open Go Go.RowKit Go.SF
set_option linter.unusedSimpArgs false
set_option linter.unusedVariables false

theorem much_q (x : Px.Ex) (vs : List Value) (W : Wd) (hx : ExI W x vs) : CallsQ Tryz.prog 64 #[.agg vs.toArray] W (.int .i64 (Px.much x)) := by
  obtain ⟨op, k, nn, t, nm, args⟩ := x
  simp only [ExI, ExAt] at hx
  obtain ⟨a, c, ls, rfl, hS, hE⟩ := hx
  refine vc_much op k nn args.length c ⟨t.toArray⟩ ⟨nm.toArray⟩ a W.all _ ?_
  have hb := by_q ⟨#[110, 111, 110, 101]⟩ op
  simp only [Px.much, Px.opOf]
  have e0 : (⟨#[110, 111, 110, 101]⟩ : ByteArray).data.toList = [110, 111, 110, 101] := rfl
  rw [e0] at hb
  refine den_new fun m0 W1 _ x1 => ?_
  cases hy : Px.by_ [110, 111, 110, 101] op with
  | none =>
    rw [hy] at hb
    refine den_call_q (fun _ _ => hb W1) ⟨0, 0, false, ⟨#[]⟩, rfl, fun V1 y1 => ?_⟩
    simp only [Env.push, List.cons_append, List.nil_append, List.append_nil]
    refine den_new fun _ _ _ _ => den_wr fun _ _ => den_br_f rfl (den_br (fun c1 => den_ret fun _ _ _ => ⟨_, rfl, ?_⟩) fun c1 => den_ret fun _ _ _ => ⟨_, rfl, ?_⟩)
    · have c1 : (op == 3 || op == 4) = true := c1
      have c1 : op = 3 ∨ op = 4 := by simpa using c1
      show _ = Value.int .i64 (if op = 3 ∨ op = 4 then 6 else 7)
      rw [if_pos c1]; rfl
    · have c1 : (op == 3 || op == 4) = false := c1
      have c1 : ¬ (op = 3 ∨ op = 4) := by simpa using c1
      show _ = Value.int .i64 (if op = 3 ∨ op = 4 then 6 else 7)
      rw [if_neg c1]; rfl
  | some b =>
    rw [hy] at hb
    refine den_call_q (fun _ _ => hb W1) ⟨b.2.1, b.2.2, true, ⟨b.1.toArray⟩, rfl, fun V1 y1 => ?_⟩
    simp only [Env.push, List.cons_append, List.nil_append, List.append_nil]
    exact den_new fun _ _ _ _ => den_wr fun _ _ => den_br_t rfl (den_ret fun _ _ _ => ⟨_, rfl, rfl⟩)

/-! ### how long -/
theorem head_facts {op k n : Int} {t nm : Lx.Bs} {l : List Px.Ex} (h : Px.head (.mk op k n t nm l) = true) : 1 ≤ op ∧ op ≤ 16 ∧ l.length = Px.argsOf op ∧ (op = 2 → Px.word nm = true) ∧ (op = 1 → Va.may ⟨k, n, ⟨t.toArray⟩⟩ = true ∧ ¬ k = 0) := by
  simp only [Px.head, Bool.and_eq_true, decide_eq_true_eq, beq_iff_eq] at h
  obtain ⟨⟨h1, h2, h3⟩, _, h4, _, h5⟩ := h
  refine ⟨h1, h2, h3, fun e => by rw [← h4, e]; rfl, fun e => ?_⟩
  subst e
  simp at h5
  exact ⟨h5.1, h5.2.1⟩
theorem shown_len {k n : Int} {t : Lx.Bs} (h : Va.may ⟨k, n, ⟨t.toArray⟩⟩ = true) (h0 : -9223372036854775808 ≤ n ∧ n ≤ 9223372036854775807) : (Va.shown ⟨k, n, ⟨t.toArray⟩⟩).data.toList.length ≤ 64 := by
  unfold Va.shown
  split
  · have := Lib.itoa_length_le n h0.1 h0.2
    simp; omega
  · split
    · split <;> simp
    · split
      · rename_i h1 h2 h3
        have h3 : k = 3 := h3
        subst h3
        simp [Va.may, Va.plain] at h
        have e : (⟨t.toArray⟩ : ByteArray).size = t.length := by simp [← size_len]
        rw [size_len, ByteArray.size_append, ByteArray.size_append, e]
        have e1 : (⟨#[39]⟩ : ByteArray).size = 1 := rfl
        have := h.2.2
        omega
      · simp
theorem arg_facts {n : Nat} {op k m : Int} {t nm : Lx.Bs} {l : List Px.Ex} (h : Px.may (n + 1) (.mk op k m t nm l) = true) (ht : Px.thin (.mk op k m t nm l) = true) {i : Nat} (hi : i < l.length) :
    l[i]? = some (Px.arg (.mk op k m t nm l) i) ∧ Px.may n (Px.arg (.mk op k m t nm l) i) = true ∧ Px.thin (Px.arg (.mk op k m t nm l) i) = true := by
  have e : Px.arg (.mk op k m t nm l) i = l[i] := by simp [Px.arg, Px.Ex.args, List.getD_eq_getElem?_getD, List.getElem?_eq_getElem hi]
  rw [e]
  simp only [Px.may, Bool.and_eq_true, List.all_eq_true, Px.Ex.args] at h
  simp only [Px.thin, Bool.and_eq_true] at ht
  exact ⟨List.getElem?_eq_getElem hi, h.2 _ (List.getElem_mem hi), Px.thin_mem ht.2 (List.getElem_mem hi)⟩
theorem show_eq (n : Nat) (op k m : Int) (t nm : Lx.Bs) (l : List Px.Ex) : Px.show_ (n + 1) (.mk op k m t nm l) =
    if op = 1 then (Va.shown ⟨k, m, ⟨t.toArray⟩⟩).data.toList
    else if op = 2 then nm
    else if op = 3 then 45 :: Px.within (Px.show_ n (Px.arg (.mk op k m t nm l) 0)) (Px.much (Px.arg (.mk op k m t nm l) 0)) 6
    else if op = 4 then 33 :: Px.within (Px.show_ n (Px.arg (.mk op k m t nm l) 0)) (Px.much (Px.arg (.mk op k m t nm l) 0)) 6
    else if op = 16 then [108, 101, 110, 40] ++ Px.show_ n (Px.arg (.mk op k m t nm l) 0) ++ [41]
    else match Px.by_ [110, 111, 110, 101] op with
      | some b => Px.within (Px.show_ n (Px.arg (.mk op k m t nm l) 0)) (Px.much (Px.arg (.mk op k m t nm l) 0)) (if b.2.2 = 3 then 4 else b.2.2) ++ [32] ++ b.1 ++ [32] ++ Px.within (Px.show_ n (Px.arg (.mk op k m t nm l) 1)) (Px.much (Px.arg (.mk op k m t nm l) 1)) (b.2.2 + 1)
      | none => [] := rfl
theorem show_len : ∀ (n : Nat) (x : Px.Ex), Px.may n x = true → Px.thin x = true → (Px.show_ n x).length ≤ Px.lim n
  | 0, x, h, _ => by simp [Px.may] at h
  | n + 1, .mk op k m t nm l, h, ht => by
    have hp := Px.lim_pos n
    have hs := Px.lim_succ n
    have hh : Px.head (.mk op k m t nm l) = true := by
      simp only [Px.may, Bool.and_eq_true] at h; exact h.1
    obtain ⟨h1, h2, h3, h4, h5⟩ := head_facts hh
    have ht' := ht
    simp only [Px.thin, Bool.and_eq_true, decide_eq_true_eq] at ht'
    have ih : ∀ i, i < l.length → (Px.show_ n (Px.arg (.mk op k m t nm l) i)).length ≤ Px.lim n := fun i hi => by
      obtain ⟨_, g1, g2⟩ := arg_facts h ht hi
      exact show_len n _ g1 g2
    rw [show_eq]
    by_cases e1 : op = 1
    · rw [if_pos e1]
      have := shown_len (h5 e1).1 ht'.1.2.2.2
      omega
    rw [if_neg e1]
    by_cases e2 : op = 2
    · rw [if_pos e2]
      have := Px.word_len (h4 e2)
      omega
    rw [if_neg e2]
    by_cases e3 : op = 3
    · rw [if_pos e3]
      have := ih 0 (by rw [h3, e3]; decide)
      have := Px.within_len (Px.show_ n (Px.arg (.mk op k m t nm l) 0)) (Px.much (Px.arg (.mk op k m t nm l) 0)) 6
      simp only [List.length_cons]; omega
    rw [if_neg e3]
    by_cases e4 : op = 4
    · rw [if_pos e4]
      have := ih 0 (by rw [h3, e4]; decide)
      have := Px.within_len (Px.show_ n (Px.arg (.mk op k m t nm l) 0)) (Px.much (Px.arg (.mk op k m t nm l) 0)) 6
      simp only [List.length_cons]; omega
    rw [if_neg e4]
    by_cases e5 : op = 16
    · rw [if_pos e5]
      have := ih 0 (by rw [h3, e5]; decide)
      simp only [List.length_append, List.length_cons, List.length_nil]; omega
    rw [if_neg e5]
    have ha : Px.argsOf op = 2 := by simp [Px.argsOf, e1, e2, e3, e4, e5]
    cases hb : Px.by_ [110, 111, 110, 101] op with
    | none => simp
    | some b =>
      have := Px.by_sign hb
      have i0 := ih 0 (by omega)
      have i1 := ih 1 (by omega)
      have w0 := Px.within_len (Px.show_ n (Px.arg (.mk op k m t nm l) 0)) (Px.much (Px.arg (.mk op k m t nm l) 0)) (if b.2.2 = 3 then 4 else b.2.2)
      have w1 := Px.within_len (Px.show_ n (Px.arg (.mk op k m t nm l) 1)) (Px.much (Px.arg (.mk op k m t nm l) 1)) (b.2.2 + 1)
      simp only [List.length_append, List.length_cons, List.length_nil]; omega
theorem lim_16 : ∀ n : Nat, n ≤ 16 → Px.lim n ≤ 274877906944 := by decide
end Go.Proofs.YtckgdgkkmhochaaGreatDoor
