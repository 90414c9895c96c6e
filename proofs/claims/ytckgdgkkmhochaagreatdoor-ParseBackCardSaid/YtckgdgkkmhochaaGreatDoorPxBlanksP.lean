/- Spaces ahead and behind, brackets around all of it: the tree stays. No program in sight. -/
import Derived.Test.YtckgdgkkmhochaaGreatDoorPxFacts
import Derived.Test.YtckgdgkkmhochaaGreatDoorLxPiecesP
namespace Lx
open Go
set_option linter.unusedVariables false
set_option linter.unusedSimpArgs false
theorem run_ap4 {p : UInt8 → Bool} (hp : p 41 = false) (l t : Bs) : run p (l ++ 41 :: t) = run p l := by
  induction l with
  | nil => simp [run, List.takeWhile_cons, hp]
  | cons c s ih =>
    by_cases h : p c = true
    · rw [List.cons_append, run_cons_t h, run_cons_t h, ih]
    · rw [List.cons_append, run_cons_f (by simpa using h), run_cons_f (by simpa using h)]
theorem prefix_ap4 : ∀ (x l t : Bs), (∀ c ∈ x, c ≠ 41) → x.isPrefixOf (l ++ 41 :: t) = x.isPrefixOf l
  | [], l, t, _ => by simp
  | c :: x, [], t, h => by
    have := h c (List.mem_cons_self ..)
    simp [List.isPrefixOf, this]
  | c :: x, d :: l, t, h => by
    simp only [List.cons_append, List.isPrefixOf]
    rw [prefix_ap4 x l t fun y hy => h y (List.mem_cons_of_mem _ hy)]
theorem signs_ap4 : ∀ x ∈ signs, (∀ c ∈ x, c ≠ 41) ∨ x = [41] := by
  have : signs.all (fun x => (x.all fun c => c != 41) || x == [41]) = true := by decide
  intro x hx
  have := List.all_eq_true.1 this x hx
  simp only [Bool.or_eq_true, beq_iff_eq] at this
  rcases this with h | h
  · left
    intro c hc
    have := List.all_eq_true.1 h c hc
    simpa using this
  · exact .inr h
theorem first_ap4 {l : Bs} (h0 : (first l).2 ≠ 0) (t : Bs) : first (l ++ 41 :: t) = first l := by
  cases l with
  | nil => exact absurd rfl h0
  | cons c r =>
    have e1 := run_ap4 (p := digit) (by decide) (c :: r) t
    have e2 := run_ap4 (p := behind) (by decide) (c :: r) t
    have e3 := take_run_app (p := digit) (c :: r) (41 :: t)
    have e4 := take_run_app (p := behind) (c :: r) (41 :: t)
    rw [List.cons_append] at e1 e2 e3 e4 ⊢
    rw [first_cons] at h0 ⊢
    rw [first_cons, e1, e2, e3, e4]
    by_cases h1 : digit c = true
    · rw [if_pos h1, if_pos h1]
    · rw [if_neg h1] at h0 ⊢
      rw [if_neg h1]
      by_cases h2 : letter c = true
      · rw [if_pos h2, if_pos h2]
      · rw [if_neg h2] at h0 ⊢
        rw [if_neg h2]
        by_cases h3 : c = 39
        · rw [if_pos h3] at h0 ⊢
          rw [if_pos h3]
          cases e : cutQ r with
          | none => rw [e] at h0; exact absurd rfl h0
          | some q => rw [cutQ_some_app e]
        · rw [if_neg h3, if_neg h3]
          have e : (signs.find? fun x => x.isPrefixOf (c :: (r ++ 41 :: t))) = signs.find? fun x => x.isPrefixOf (c :: r) := find_congr fun x hx => by
            rcases signs_ap4 x hx with h | rfl
            · exact prefix_ap4 x (c :: r) t h
            · simp [List.isPrefixOf]
          rw [e]
theorem trim_ap4 (a t : Bs) : trim (a ++ 41 :: t) = trim a ++ 41 :: t := by
  induction a with
  | nil => rfl
  | cons c s ih =>
    by_cases h : c = 32
    · subst h; rw [List.cons_append, trim_sp, trim_sp, ih]
    · rw [List.cons_append, trim_idem h, trim_idem h]; rfl
theorem lexT_ap4 : ∀ (n : Nat) (l : Bs) (ts : List Tok), lexT n l = some ts → ∀ (t : Bs) (m k : Nat), l.length + t.length + 2 < m → t.length + 1 < k → lexT m (trim (l ++ 41 :: t)) = (lexT k (41 :: t)).map (ts ++ ·)
  | n, l, ts, h, t, m, k, hm, hk => by
    rcases lexT_one h with ⟨rfl, rfl⟩ | ⟨n', t0, us, rfl, rfl, hmay, hl, hf, hd, hu⟩
    · rw [List.nil_append, trim_idem (by decide)]
      rw [lexT_fuel m k _ (by simp only [List.length_cons]; omega) (by simp only [List.length_cons]; omega)]
      cases lexT k (41 :: t) <;> rfl
    · cases l with
      | nil =>
        obtain ⟨c, r, e, _⟩ := text_head hmay
        rw [e] at hl; simp at hl
      | cons c r =>
        have h0 : (first (c :: r)).2 ≠ 0 := fun e => by
          simp only [lexT] at h
          rw [if_pos (by simp [e])] at h
          cases h
        have hc : c ≠ 32 := fun e => by subst e; exact h0 (first_sp r)
        have hfa := first_ap4 h0 t
        rw [List.cons_append] at hfa ⊢
        rw [trim_idem hc]
        cases m with
        | zero => omega
        | succ m =>
          have hb := first_stands h0
          have hle := first_le (c :: r)
          have hdr : (c :: (r ++ 41 :: t)).drop (first (c :: r)).2 = (c :: r).drop (first (c :: r)).2 ++ 41 :: t := by
            rw [← List.cons_append, List.drop_append_of_le_length hle]
          rw [lexT_cons, hfa, hdr, hf, if_neg (by rw [hf] at h0; simp only at h0; simp [h0, hmay])]
          rw [← hf, trim_ap4]
          have h2 := trim_le ((c :: r).drop (first (c :: r)).2)
          rw [List.length_drop] at h2
          simp only [List.length_cons] at hm h2
          have ef : (first (c :: r)).1 = t0 := by rw [hf]
          have ih := lexT_ap4 n' _ us hu t m k (by omega) hk
          rw [trim_ap4] at ih
          have tt : trim (trim ((c :: r).drop (first (c :: r)).2)) = trim ((c :: r).drop (first (c :: r)).2) := by
            generalize (c :: r).drop (first (c :: r)).2 = z
            induction z with
            | nil => rfl
            | cons d z ih =>
              by_cases h : d = 32
              · subst h; rw [trim_sp]; exact ih
              · rw [trim_idem h, trim_idem h]
          rw [tt] at ih
          rw [ih, Option.map_map, ef]
          congr 1
def lp : Tok := ⟨4, [40]⟩
def rp : Tok := ⟨4, [41]⟩
theorem lex_some {s : Bs} {a : List Tok} (h : lex s = (a, 0)) : lexT (s.length + 1) (trim s) = some a := by
  unfold lex at h
  split at h
  · injection h with h1 h2; cases h2
  · split at h
    · rename_i ts h1; injection h with h2 h3; rw [h1, h2]
    · injection h with h2 h3; cases h3
theorem lex_of {s : Bs} {a : List Tok} {n : Nat} (hl : s.length ≤ 100) (hn : s.length < n) (h : lexT n (trim s) = some a) : lex s = (a, 0) := by
  have := trim_le s
  rw [lexT_fuel n (s.length + 1) _ (by omega) (by omega)] at h
  unfold lex
  rw [if_neg (by omega), h]
theorem lexT_open (n : Nat) (l : Bs) : lexT (n + 1) (40 :: l) = (lexT n (trim l)).map (lp :: ·) := by
  rw [lexT_cons]
  have e : first (40 :: l) = (lp, 1) := by
    rw [first_cons, if_neg (by decide), if_neg (by decide), if_neg (by decide)]
    have : (signs.find? fun x => x.isPrefixOf (40 :: l)) = some [40] := by simp [signs, List.find?, List.isPrefixOf]
    rw [this]; rfl
  rw [e]
  rfl
theorem lexT_close (n : Nat) (l : Bs) : lexT (n + 1) (41 :: l) = (lexT n (trim l)).map (rp :: ·) := by
  rw [lexT_cons]
  have e : first (41 :: l) = (rp, 1) := by
    rw [first_cons, if_neg (by decide), if_neg (by decide), if_neg (by decide)]
    have : (signs.find? fun x => x.isPrefixOf (41 :: l)) = some [41] := by simp [signs, List.find?, List.isPrefixOf]
    rw [this]; rfl
  rw [e]
  rfl
theorem trim_trim' (z : Bs) : trim (trim z) = trim z := by
  induction z with
  | nil => rfl
  | cons d z ih =>
    by_cases h : d = 32
    · subst h; rw [trim_sp]; exact ih
    · rw [trim_idem h, trim_idem h]
/-- in brackets -/
theorem lex_brack {s : Bs} {a : List Tok} (h : lex s = (a, 0)) (hl : (40 :: (s ++ [41])).length ≤ 100) : lex (40 :: (s ++ [41])) = (lp :: (a ++ [rp]), 0) := by
  have hs := lex_some h
  have ht := trim_le s
  refine lex_of (n := s.length + 10) hl (by simp) ?_
  rw [trim_idem (by decide), lexT_open, trim_ap4]
  have := lexT_ap4 _ _ _ hs [] (s.length + 9) 5 (by simp; omega) (by simp)
  rw [trim_ap4, trim_trim'] at this
  rw [this, lexT_close]
  rfl
/-- spaces ahead -/
theorem lex_ahead {s : Bs} {a : List Tok} (k : Nat) (h : lex s = (a, 0)) (hl : (List.replicate k 32 ++ s).length ≤ 100) : lex (List.replicate k 32 ++ s) = (a, 0) := by
  have hs := lex_some h
  refine lex_of (n := (List.replicate k 32 ++ s).length + 1) hl (by omega) ?_
  rw [trim_sps]
  have := trim_le s
  rw [lexT_fuel _ (s.length + 1) _ (by simp; omega) (by omega), hs]
/-- spaces behind -/
theorem lex_behind {s : Bs} {a : List Tok} (k : Nat) (h : lex s = (a, 0)) (hl : (s ++ List.replicate k 32).length ≤ 100) : lex (s ++ List.replicate k 32) = (a, 0) := by
  cases k with
  | zero => simpa using h
  | succ k =>
    have e : lex (List.replicate k 32) = ([], 0) := by
      refine lex_of (n := (List.replicate k (32 : UInt8)).length + 1) (by simp at hl ⊢; omega) (by omega) ?_
      have := trim_sps k []
      rw [List.append_nil] at this
      rw [this]; rfl
    rw [List.replicate_succ] at hl ⊢
    rw [lex_pieces h hl, e]
    simp
end Lx
namespace Px
open Go
open Lx hiding none run first
/-! ### more steps do no harm -/
theorem fuel_all : ∀ n : Nat, (∀ ts p, one n ts = some p → one (n + 1) ts = some p) ∧ (∀ m ts p, two n m ts = some p → two (n + 1) m ts = some p) ∧ (∀ m l x ts p, loop n m l x ts = some p → loop (n + 1) m l x ts = some p)
  | 0 => ⟨fun _ _ h => by simp [one] at h, fun _ _ _ h => by simp [two] at h, fun _ _ _ _ _ h => by simp [loop] at h⟩
  | n + 1 => by
    obtain ⟨h1, h2, h3⟩ := fuel_all n
    refine ⟨fun ts p h => ?_, fun m ts p h => ?_, fun m l x ts p h => ?_⟩
    · cases ts with
      | nil => simp [one] at h
      | cons t s =>
        unfold one at h ⊢
        split at h
        · rename_i k4
          rw [if_pos k4]
          split at h
          · rename_i k; rw [if_pos k]
            obtain ⟨q, hq, rfl⟩ := map_some h
            rw [h1 _ _ hq]; rfl
          · rename_i k; rw [if_neg k]
            split at h
            · rename_i k; rw [if_pos k]
              obtain ⟨q, hq, rfl⟩ := map_some h
              rw [h1 _ _ hq]; rfl
            · rename_i k; rw [if_neg k]
              split at h
              · rename_i k; rw [if_pos k]
                obtain ⟨q, hq, he⟩ := bind_some h
                rw [h2 _ _ _ hq, Option.bind_some]; exact he
              · cases h
        · rename_i k4
          rw [if_neg k4]
          split at h
          · rename_i k; rw [if_pos k]; exact h
          · rename_i k; rw [if_neg k]
            split at h
            · rename_i k; rw [if_pos k]; exact h
            · rename_i k; rw [if_neg k]
              split at h
              · rename_i k; rw [if_pos k]; exact h
              · rename_i k; rw [if_neg k]
                split at h
                · rename_i k; rw [if_pos k]; exact h
                · rename_i k; rw [if_neg k]
                  split at h
                  · rename_i k; rw [if_pos k]
                    obtain ⟨r1, hr, he⟩ := bind_some h
                    rw [hr, Option.bind_some]
                    obtain ⟨q, hq, he⟩ := bind_some he
                    rw [h2 _ _ _ hq, Option.bind_some]; exact he
                  · rename_i k; rw [if_neg k]; exact h
    · unfold two at h ⊢
      obtain ⟨q, hq, he⟩ := bind_some h
      rw [h1 _ _ hq, Option.bind_some]
      exact h3 _ _ _ _ _ he
    · cases ts with
      | nil => exact h
      | cons t s =>
        unfold loop at h ⊢
        split at h
        · rename_i k4
          rw [if_pos k4]
          cases hb : by_ t.t 0 with
          | none => rw [hb] at h; exact h
          | some b =>
            rw [hb] at h
            simp only at h ⊢
            split at h
            · rename_i k; rw [if_pos k]; exact h
            · rename_i k; rw [if_neg k]
              obtain ⟨q, hq, he⟩ := bind_some h
              rw [h2 _ _ _ hq, Option.bind_some]
              exact h3 _ _ _ _ _ he
        · rename_i k4
          rw [if_neg k4]; exact h
theorem two_fuel {n m : Nat} {k : Int} {ts : List Tok} {p : Ex × List Tok} (h : two n k ts = some p) (hl : n ≤ m) : two m k ts = some p := by
  induction m with
  | zero => obtain rfl : n = 0 := by omega
            exact h
  | succ m ih =>
    by_cases e : n = m + 1
    · rw [← e]; exact h
    · exact (fuel_all m).2.1 _ _ _ (ih (by omega))
/-! ### a bracket behind -/
theorem sign_app {s : Bs} {ts r : List Tok} (h : sign s ts = some r) (u : List Tok) : sign s (ts ++ u) = some (r ++ u) := by
  cases ts with
  | nil => cases h
  | cons t l =>
    simp only [sign, List.cons_append] at h ⊢
    split at h
    · rename_i k; rw [if_pos k, Option.some.inj h]
    · cases h
theorem app_all (u : List Tok) : ∀ n : Nat, (∀ ts e r, one n ts = some (e, r) → one n (ts ++ rp :: u) = some (e, r ++ rp :: u)) ∧ (∀ m ts e r, two n m ts = some (e, r) → two n m (ts ++ rp :: u) = some (e, r ++ rp :: u)) ∧ (∀ m l x ts e r, loop n m l x ts = some (e, r) → loop n m l x (ts ++ rp :: u) = some (e, r ++ rp :: u))
  | 0 => ⟨fun _ _ _ h => by simp [one] at h, fun _ _ _ _ h => by simp [two] at h, fun _ _ _ _ _ _ h => by simp [loop] at h⟩
  | n + 1 => by
    obtain ⟨h1, h2, h3⟩ := app_all u n
    refine ⟨fun ts e r h => ?_, fun m ts e r h => ?_, fun m l x ts e r h => ?_⟩
    · cases ts with
      | nil => simp [one] at h
      | cons t s =>
        rw [List.cons_append]
        unfold one at h ⊢
        split at h
        · rename_i k4
          rw [if_pos k4]
          split at h
          · rename_i k; rw [if_pos k]
            obtain ⟨⟨q, z⟩, hq, he⟩ := map_some h
            obtain ⟨rfl, rfl⟩ := Prod.mk.inj he
            rw [h1 _ _ _ hq]; rfl
          · rename_i k; rw [if_neg k]
            split at h
            · rename_i k; rw [if_pos k]
              obtain ⟨⟨q, z⟩, hq, he⟩ := map_some h
              obtain ⟨rfl, rfl⟩ := Prod.mk.inj he
              rw [h1 _ _ _ hq]; rfl
            · rename_i k; rw [if_neg k]
              split at h
              · rename_i k; rw [if_pos k]
                obtain ⟨⟨q, z⟩, hq, he⟩ := bind_some h
                obtain ⟨y, hy, he⟩ := map_some he
                obtain ⟨rfl, rfl⟩ := Prod.mk.inj he
                rw [h2 _ _ _ _ hq, Option.bind_some]
                simp only
                rw [sign_app hy]; rfl
              · cases h
        · rename_i k4
          rw [if_neg k4]
          split at h
          · rename_i k; rw [if_pos k]; obtain ⟨rfl, rfl⟩ := Prod.mk.inj (Option.some.inj h); rfl
          · rename_i k; rw [if_neg k]
            split at h
            · rename_i k; rw [if_pos k]; obtain ⟨rfl, rfl⟩ := Prod.mk.inj (Option.some.inj h); rfl
            · rename_i k; rw [if_neg k]
              split at h
              · rename_i k; rw [if_pos k]; obtain ⟨rfl, rfl⟩ := Prod.mk.inj (Option.some.inj h); rfl
              · rename_i k; rw [if_neg k]
                split at h
                · rename_i k; rw [if_pos k]; obtain ⟨rfl, rfl⟩ := Prod.mk.inj (Option.some.inj h); rfl
                · rename_i k; rw [if_neg k]
                  split at h
                  · rename_i k; rw [if_pos k]
                    obtain ⟨r1, hr, he⟩ := bind_some h
                    obtain ⟨⟨q, z⟩, hq, he⟩ := bind_some he
                    obtain ⟨y, hy, he⟩ := map_some he
                    obtain ⟨rfl, rfl⟩ := Prod.mk.inj he
                    rw [sign_app hr, Option.bind_some, h2 _ _ _ _ hq, Option.bind_some]
                    simp only
                    rw [sign_app hy]; rfl
                  · rename_i k; rw [if_neg k]; obtain ⟨rfl, rfl⟩ := Prod.mk.inj (Option.some.inj h); rfl
    · unfold two at h ⊢
      obtain ⟨⟨q, z⟩, hq, he⟩ := bind_some h
      rw [h1 _ _ _ hq, Option.bind_some]
      exact h3 _ _ _ _ _ _ he
    · cases ts with
      | nil =>
        simp only [loop] at h
        obtain ⟨rfl, rfl⟩ := Prod.mk.inj (Option.some.inj h)
        have hb : by_ rp.t 0 = none := by decide
        simp only [List.nil_append, loop, hb, ite_self]
      | cons t s =>
        rw [List.cons_append]
        unfold loop at h ⊢
        split at h
        · rename_i k4
          rw [if_pos k4]
          cases hb : by_ t.t 0 with
          | none => rw [hb] at h; obtain ⟨rfl, rfl⟩ := Prod.mk.inj (Option.some.inj h); rfl
          | some b =>
            rw [hb] at h
            simp only at h ⊢
            split at h
            · rename_i k; rw [if_pos k]; obtain ⟨rfl, rfl⟩ := Prod.mk.inj (Option.some.inj h); rfl
            · rename_i k; rw [if_neg k]
              obtain ⟨⟨q, z⟩, hq, he⟩ := bind_some h
              rw [h2 _ _ _ _ hq, Option.bind_some]
              exact h3 _ _ _ _ _ _ he
        · rename_i k4
          rw [if_neg k4]; obtain ⟨rfl, rfl⟩ := Prod.mk.inj (Option.some.inj h); rfl
theorem whole_some {ts : List Tok} {e : Ex} (h : whole ts = some e) : two (3 * ts.length + 2) 1 ts = some (e, []) := by
  unfold whole at h
  split at h
  · rename_i x h1; rw [h1, Option.some.inj h]
  · cases h
theorem whole_brack {ts : List Tok} {e : Ex} (h : whole ts = some e) : whole (lp :: (ts ++ [rp])) = some e := by
  have h1 := (app_all [] (3 * ts.length + 2)).2.1 _ _ _ _ (whole_some h)
  rw [List.nil_append] at h1
  have h2 := two_fuel h1 (m := 3 * (lp :: (ts ++ [rp])).length) (by simp; omega)
  have e1 : ∀ k, one (k + 1) (lp :: (ts ++ [rp])) = (two k 1 (ts ++ [rp])).bind fun p => (sign [41] p.2).map fun q => (p.1, q) := fun k => by
    unfold one; rw [if_pos (by decide), if_neg (by decide), if_neg (by decide), if_pos (by decide)]
  have e2 : two (3 * (lp :: (ts ++ [rp])).length + 2) 1 (lp :: (ts ++ [rp])) = some (e, []) := by
    show (one (3 * (lp :: (ts ++ [rp])).length + 1) (lp :: (ts ++ [rp]))).bind _ = _
    rw [e1, h2]
    rfl
  unfold whole
  rw [e2]
theorem parse_ok {s : Bs} (h : (parse s).2 = 0) : ∃ a e, lex s = (a, 0) ∧ whole a = some e ∧ ¬ 16 < deep e ∧ parse s = (e, 0) := by
  unfold parse at h ⊢
  by_cases h0 : (lex s).2 = 0
  · rw [if_pos h0] at h ⊢
    cases hw : whole (lex s).1 with
    | none => rw [hw] at h; cases h
    | some e =>
      rw [hw] at h
      simp only at h ⊢
      by_cases hd : 16 < deep e
      · rw [if_pos hd] at h; cases h
      · exact ⟨(lex s).1, e, Prod.ext rfl h0, hw, hd, by rw [if_neg hd]⟩
  · rw [if_neg h0] at h; exact absurd h h0
theorem parse_of {s : Bs} {a : List Tok} {e : Ex} (h : lex s = (a, 0)) (hw : whole a = some e) (hd : ¬ 16 < deep e) : parse s = (e, 0) := by
  unfold parse
  rw [h]
  simp only [if_true, hw, if_neg hd]
theorem parse_brack {s : Bs} (h : (parse s).2 = 0) (hl : (40 :: (s ++ [41])).length ≤ 100) : parse (40 :: (s ++ [41])) = parse s := by
  obtain ⟨a, e, h1, h2, h3, h4⟩ := parse_ok h
  rw [h4]
  exact parse_of (lex_brack h1 hl) (whole_brack h2) h3
theorem parse_sp {s : Bs} (k j : Nat) (h : (parse s).2 = 0) (hl : (List.replicate k 32 ++ (s ++ List.replicate j 32)).length ≤ 100) : parse (List.replicate k 32 ++ (s ++ List.replicate j 32)) = parse s := by
  obtain ⟨a, e, h1, h2, h3, h4⟩ := parse_ok h
  rw [h4]
  exact parse_of (lex_ahead k (lex_behind j h1 (by simp at hl ⊢; omega)) hl) h2 h3
end Px
