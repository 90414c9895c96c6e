/- What an expression that has a type comes to, in plain Lean. No program in sight. -/
import Derived.Test.YtijinopghlpdbaaGreatDoorTyLaws
import Derived.Test.YtijinopghlpdbaaGreatDoorVaRefPlain
namespace Tx
open Go
open Px
set_option linter.unusedVariables false
set_option linter.unusedSimpArgs false
def valOf (v : Var) : Va.V := ⟨v.k, v.n, ⟨v.t.toArray⟩⟩
mutual
def come (vars : List Var) : Ex → Va.V × Int
  | .mk op k n t nm l => if op = 1 then (⟨k, n, ⟨t.toArray⟩⟩, 0) else if op = 2 then (match vars.find? fun v => v.name == nm with
      | some v => (valOf v, 0)
      | none => (Va.none, 22)) else match comes vars l with
    | [] => (Va.none, 4)
    | [a] => if a.2 = 0 then Va.one op a.1 else (Va.none, a.2)
    | a :: b :: _ => if a.2 = 0 then (if (op = 13 ∧ Va.yes a.1 = false) ∨ (op = 14 ∧ Va.yes a.1 = true) then (a.1, 0) else if b.2 = 0 then Va.two op a.1 b.1 else (Va.none, b.2)) else (Va.none, a.2)
def comes (vars : List Var) : List Ex → List (Va.V × Int)
  | [] => []
  | e :: l => come vars e :: comes vars l
end
/-- of that type, and fine; or refused so -/
def Good (t : Int) (p : Va.V × Int) : Prop := (p.2 = 0 → p.1.k = t ∧ Va.may p.1 = true ∧ Va.Fit p.1.n) ∧ (p.2 ≠ 0 → p.2 = 20 ∨ p.2 = 21)
theorem good_told (x : Int) : Good 1 (Va.told x) := by
  unfold Va.told
  split
  · rename_i h
    exact ⟨fun _ => ⟨rfl, by simp [Va.may, Va.num], Va.Fit.iff.2 h⟩, fun h => absurd rfl h⟩
  · exact ⟨fun h => (by cases h), fun _ => .inl rfl⟩
theorem good_truth (b : Bool) : Good 2 (Va.truth b, 0) := ⟨fun _ => ⟨rfl, by cases b <;> simp [Va.may, Va.truth], by cases b <;> simp [Va.truth, Va.Fit]⟩, fun h => absurd rfl h⟩
theorem may_text {v : Va.V} (h : Va.may v = true) (hk : v.k = 3) : Va.plain v.t = true ∧ v.t.size ≤ 40 := by
  unfold Va.may at h
  rw [if_neg (by omega), if_neg (by omega), if_neg (by omega), if_pos hk] at h
  simp only [Bool.and_eq_true] at h
  refine ⟨h.2, ?_⟩
  have := h.2
  unfold Va.plain at this
  simp only [Bool.and_eq_true, decide_eq_true_eq] at this
  omega
theorem good_sum {s t : ByteArray} (hs : Va.plain s = true) (ht : Va.plain t = true) : Good 3 (Va.sum s t) := by
  unfold Va.sum
  split
  · exact ⟨fun h => (by cases h), fun _ => .inl rfl⟩
  · rename_i h
    refine ⟨fun _ => ⟨rfl, ?_, by simp [Va.text, Va.Fit]⟩, fun h => absurd rfl h⟩
    unfold Va.plain at hs ht
    simp only [Bool.and_eq_true, decide_eq_true_eq] at hs ht
    simp only [Va.may, Va.text, Va.plain, ByteArray.data_append, Array.toList_append, List.all_append, ByteArray.size_append]
    simp [hs.1, ht.1]
    omega
theorem good_numbers {op a b : Int} (ho : op = 5 ∨ op = 6 ∨ op = 7 ∨ op = 8 ∨ op = 15) (ha : Va.Fit a) : Good 1 (Va.numbers op a b) := by
  unfold Va.numbers
  rcases ho with rfl | rfl | rfl | rfl | rfl
  · exact good_told _
  · rw [if_neg (by decide), if_pos rfl]
    split
    · exact ⟨fun h => (by cases h), fun _ => .inr rfl⟩
    · exact good_told _
  · rw [if_neg (by decide), if_neg (by decide), if_pos rfl]
    split
    · exact ⟨fun h => (by cases h), fun _ => .inr rfl⟩
    · split
      · exact ⟨fun _ => ⟨rfl, by simp [Va.may, Va.num], Va.tmod_fit _ _ ha⟩, fun h => absurd rfl h⟩
      · exact ⟨fun h => (by cases h), fun _ => .inl rfl⟩
  · rw [if_neg (by decide), if_neg (by decide), if_neg (by decide), if_pos rfl]; exact good_told _
  · rw [if_neg (by decide), if_neg (by decide), if_neg (by decide), if_neg (by decide)]; exact good_told _
/-- operators of one -/
theorem good_one {op ta : Int} {a : Va.V × Int} (ho : op = 3 ∨ op = 4 ∨ op = 16) (hs : (sorted op [ta]).2 = 0) (hg : Good ta a) (h0 : a.2 = 0) : Good (sorted op [ta]).1 (Va.one op a.1) := by
  obtain ⟨hk, hm, hf⟩ := hg.1 h0
  rcases ho with rfl | rfl | rfl
  · have ht : ta = 1 := by
      by_cases h : ta = 1
      · exact h
      · have : (sorted 3 [ta]).2 = 23 := by simp [sorted, sortsOf, sortTab, h]
        rw [this] at hs; cases hs
    subst ht
    have e : (sorted 3 [1]).1 = 1 := by decide
    rw [e]
    simp only [Va.one, if_true, hk]
    exact good_told _
  · have ht : ta = 2 := by
      by_cases h : ta = 2
      · exact h
      · have : (sorted 4 [ta]).2 = 23 := by simp [sorted, sortsOf, sortTab, h]
        rw [this] at hs; cases hs
    subst ht
    have e : (sorted 4 [2]).1 = 2 := by decide
    rw [e]
    unfold Va.one
    rw [if_neg (by decide), if_pos rfl, if_pos hk]
    exact good_truth _
  · have ht : ta = 3 := by
      by_cases h : ta = 3
      · exact h
      · have : (sorted 16 [ta]).2 = 23 := by simp [sorted, sortsOf, sortTab, h]
        rw [this] at hs; cases hs
    subst ht
    have e : (sorted 16 [3]).1 = 1 := by decide
    rw [e]
    unfold Va.one
    rw [if_neg (by decide), if_neg (by decide), if_pos rfl, if_pos hk]
    have := (may_text hm hk).2
    exact ⟨fun _ => ⟨rfl, by simp [Va.may, Va.num], by simp only [Va.num, Va.Fit]; omega⟩, fun h => absurd rfl h⟩
/-- operators of two: what sides they have -/
theorem sides_two {op ta tb : Int} (ho : 5 ≤ op ∧ op ≤ 15) (hs : (sorted op [ta, tb]).2 = 0) : ta = tb ∧
    (((op = 5 ∨ op = 6 ∨ op = 7 ∨ op = 8 ∨ op = 15) ∧ ta = 1 ∧ (sorted op [ta, tb]).1 = 1) ∨ (op = 8 ∧ ta = 3 ∧ (sorted op [ta, tb]).1 = 3) ∨ ((op = 9 ∨ op = 10) ∧ (ta = 1 ∨ ta = 3) ∧ (sorted op [ta, tb]).1 = 2) ∨ ((op = 11 ∨ op = 12) ∧ (ta = 1 ∨ ta = 2 ∨ ta = 3) ∧ (sorted op [ta, tb]).1 = 2) ∨
      ((op = 13 ∨ op = 14) ∧ ta = 2 ∧ (sorted op [ta, tb]).1 = 2)) := by
  have hop : op = 5 ∨ op = 6 ∨ op = 7 ∨ op = 8 ∨ op = 9 ∨ op = 10 ∨ op = 11 ∨ op = 12 ∨ op = 13 ∨ op = 14 ∨ op = 15 := by omega
  unfold sorted at *
  cases hf : (sortsOf op).find? fun s => [ta, tb].all (· == s.1) with
  | none => rw [hf] at hs; cases hs
  | some s =>
    have hm := List.mem_of_find?_eq_some hf
    have hp := List.find?_some hf
    simp only [List.all_cons, List.all_nil, Bool.and_true, Bool.and_eq_true, beq_iff_eq] at hp
    obtain ⟨rfl, rfl⟩ := hp
    refine ⟨rfl, ?_⟩
    rcases hop with rfl | rfl | rfl | rfl | rfl | rfl | rfl | rfl | rfl | rfl | rfl <;>
      (simp [sortsOf, sortTab] at hm
       first
        | (subst hm; decide)
        | (rcases hm with rfl | rfl <;> decide)
        | (rcases hm with rfl | rfl | rfl <;> decide))
theorem good_two {op ta tb : Int} {a b : Va.V × Int} (ho : 5 ≤ op ∧ op ≤ 15) (hs : (sorted op [ta, tb]).2 = 0) (hg : Good ta a) (hb : Good tb b) (h0 : a.2 = 0) (h1 : b.2 = 0) : Good (sorted op [ta, tb]).1 (Va.two op a.1 b.1) := by
  obtain ⟨hk, hm, hf⟩ := hg.1 h0
  obtain ⟨hk', hm', hf'⟩ := hb.1 h1
  obtain ⟨rfl, h⟩ := sides_two ho hs
  have hno : ¬ (op < 5 ∨ 15 < op) := by omega
  unfold Va.two
  rw [if_neg hno, hk, hk']
  rcases h with ⟨hop, rfl, e⟩ | ⟨rfl, rfl, e⟩ | ⟨hop, ht, e⟩ | ⟨hop, ht, e⟩ | ⟨hop, rfl, e⟩
  · rw [e]
    have hfit : ¬ Va.fits op 1 1 = false := by rcases hop with rfl | rfl | rfl | rfl | rfl <;> decide
    rw [if_neg hfit, if_neg (by omega), if_neg (by omega), if_neg (by omega), if_neg (by omega), if_neg (by omega), if_neg (by omega), if_neg (by decide)]
    exact good_numbers hop hf
  · rw [e]
    rw [if_neg (by decide), if_neg (by decide), if_neg (by decide), if_neg (by decide), if_neg (by decide), if_neg (by decide), if_neg (by decide), if_pos rfl]
    exact good_sum (may_text hm hk).1 (may_text hm' hk').1
  · rw [e]
    have hfit : ¬ Va.fits op ta ta = false := by rcases hop with rfl | rfl <;> rcases ht with rfl | rfl <;> decide
    rw [if_neg hfit]
    rcases hop with rfl | rfl
    · rw [if_pos rfl]; exact good_truth _
    · rw [if_neg (by decide), if_pos rfl]; exact good_truth _
  · rw [e]
    have hfit : ¬ Va.fits op ta ta = false := by rcases hop with rfl | rfl <;> rcases ht with rfl | rfl | rfl <;> decide
    rw [if_neg hfit]
    rcases hop with rfl | rfl
    · rw [if_neg (by decide), if_neg (by decide), if_pos rfl]; exact good_truth _
    · rw [if_neg (by decide), if_neg (by decide), if_neg (by decide), if_pos rfl]; exact good_truth _
  · rw [e]
    have hfit : ¬ Va.fits op 2 2 = false := by rcases hop with rfl | rfl <;> decide
    rw [if_neg hfit]
    rcases hop with rfl | rfl
    · rw [if_neg (by decide), if_neg (by decide), if_neg (by decide), if_neg (by decide), if_pos rfl]; exact good_truth _
    · rw [if_neg (by decide), if_neg (by decide), if_neg (by decide), if_neg (by decide), if_neg (by decide), if_pos rfl]; exact good_truth _
theorem good_two_a {op ta tb : Int} {a : Va.V × Int} (ho : op = 13 ∨ op = 14) (hs : (sorted op [ta, tb]).2 = 0) (hg : Good ta a) (h0 : a.2 = 0) : Good (sorted op [ta, tb]).1 (a.1, 0) := by
  obtain ⟨rfl, h⟩ := sides_two (by omega) hs
  have : ta = 2 ∧ (sorted op [ta, ta]).1 = 2 := by
    rcases h with ⟨hop, _⟩ | ⟨rfl, _⟩ | ⟨hop, _⟩ | ⟨hop, _⟩ | ⟨_, rfl, e⟩
    · omega
    · omega
    · omega
    · omega
    · exact ⟨rfl, e⟩
  rw [this.2]
  obtain ⟨rfl, _⟩ := this
  exact ⟨fun _ => hg.1 h0, fun h => absurd rfl h⟩
theorem argN_cases {op : Int} (h : 1 ≤ op ∧ op ≤ 16) (h1 : ¬ op = 1) (h2 : ¬ op = 2) : (argN op = 1 ∧ (op = 3 ∨ op = 4 ∨ op = 16)) ∨ (argN op = 2 ∧ 5 ≤ op ∧ op ≤ 15) := by
  have : op = 3 ∨ op = 4 ∨ op = 5 ∨ op = 6 ∨ op = 7 ∨ op = 8 ∨ op = 9 ∨ op = 10 ∨ op = 11 ∨ op = 12 ∨ op = 13 ∨ op = 14 ∨ op = 15 ∨ op = 16 := by omega
  rcases this with rfl | rfl | rfl | rfl | rfl | rfl | rfl | rfl | rfl | rfl | rfl | rfl | rfl | rfl <;> decide
/-- what has a type comes to that -/
theorem come_good {vars : List Var} (hv : ∀ v ∈ vars, Va.may (valOf v) = true ∧ Va.Fit v.n) : ∀ (n : Nat) (e : Ex), (typed vars e).2 = 0 → whole n e = true → thin e = true → Good (typed vars e).1 (come vars e)
  | 0, _, _, h, _ => by cases h
  | n + 1, .mk op k m t nm l, ht, hw, hth => by
    simp only [whole, Bool.and_eq_true, decide_eq_true_eq, Bool.or_eq_true, bne_iff_ne, ne_eq, beq_iff_eq] at hw
    obtain ⟨hop, hln, hmy, hwl⟩ := hw
    simp only [thin, Bool.and_eq_true, decide_eq_true_eq] at hth
    simp only [typed] at ht ⊢
    simp only [come]
    by_cases c1 : op = 1
    · rw [if_pos c1] at ht
      rw [if_pos c1, if_pos c1]
      have := known_ok ht
      rw [this.2.2]
      exact ⟨fun _ => ⟨rfl, hmy.resolve_left (fun h => h c1), hth.1.2.2.2⟩, fun h => absurd rfl h⟩
    · rw [if_neg c1] at ht
      rw [if_neg c1, if_neg c1]
      by_cases c2 : op = 2
      · rw [if_pos c2] at ht
        rw [if_pos c2, if_pos c2]
        unfold named at *
        cases hf : vars.find? fun v => v.name == nm with
        | none => rw [hf] at ht; cases ht
        | some v =>
          rw [hf] at ht
          have := known_ok ht
          dsimp only
          rw [this.2.2]
          have hm := hv v (List.mem_of_find?_eq_some hf)
          exact ⟨fun _ => ⟨rfl, hm.1, hm.2⟩, fun h => absurd rfl h⟩
      · rw [if_neg c2] at ht
        rw [if_neg c2, if_neg c2]
        rcases argN_cases hop c1 c2 with ⟨ha, ho⟩ | ⟨ha, ho⟩
        · rw [ha] at hln
          match l, hln with
          | [x], _ =>
            simp only [typeds] at ht ⊢
            by_cases cx : (typed vars x).2 = 0
            · rw [if_pos cx] at ht
              rw [if_pos cx]
              have hg := come_good hv n x cx (whole_all hwl (List.mem_cons_self ..)) (thin_mem hth.2 (List.mem_cons_self ..))
              simp only [comes]
              by_cases c0 : (come vars x).2 = 0
              · rw [if_pos c0]; exact good_one ho ht hg c0
              · rw [if_neg c0]; exact ⟨fun h => absurd h c0, fun _ => hg.2 c0⟩
            · rw [if_neg cx] at ht; exact absurd ht cx
        · rw [ha] at hln
          match l, hln with
          | [x, y], _ =>
            simp only [typeds] at ht ⊢
            by_cases cx : (typed vars x).2 = 0
            · rw [if_pos cx] at ht
              rw [if_pos cx]
              by_cases cy : (typed vars y).2 = 0
              · rw [if_pos cy] at ht
                rw [if_pos cy]
                have hg := come_good hv n x cx (whole_all hwl (by simp)) (thin_mem hth.2 (by simp))
                have hg' := come_good hv n y cy (whole_all hwl (by simp)) (thin_mem hth.2 (by simp))
                simp only [comes]
                by_cases c0 : (come vars x).2 = 0
                · rw [if_pos c0]
                  split
                  · rename_i hc; exact good_two_a (by omega) ht hg c0
                  · by_cases c3 : (come vars y).2 = 0
                    · rw [if_pos c3]; exact good_two ho ht hg hg' c0 c3
                    · rw [if_neg c3]; exact ⟨fun h => absurd h c3, fun _ => hg'.2 c3⟩
                · rw [if_neg c0]; exact ⟨fun h => absurd h c0, fun _ => hg.2 c0⟩
              · rw [if_neg cy] at ht; exact absurd ht cy
            · rw [if_neg cx] at ht; exact absurd ht cx
end Tx
