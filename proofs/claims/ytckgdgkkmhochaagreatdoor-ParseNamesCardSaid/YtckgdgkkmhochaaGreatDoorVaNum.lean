/- Facts on products, sums, differences and quotients of 64 bits. -/
import Derived.IntWalk
import Derived.Test.YtckgdgkkmhochaaGreatDoorVaPlain
namespace Va
open Go Go.RowKit
theorem wrap64_def (n : Int) : wrap64 n = (n + 9223372036854775808) % 18446744073709551616 - 9223372036854775808 := by unfold wrap64; rfl
def Fit (x : Int) : Prop := -9223372036854775808 ≤ x ∧ x ≤ 9223372036854775807
theorem Fit.iff {x : Int} : Fit x ↔ inR x = true := by simp [Fit, inR]
theorem Fit.wrap {x : Int} (h : Fit x) : wrap64 x = x := IntWalk.wrap64_in x ⟨h.1, by have := h.2; omega⟩
theorem not_fit {x : Int} (h : inR x = false) : ¬ Fit x := by rw [Fit.iff, h]; simp
theorem add_ok (a b : Int) (ha : Fit a) (hb : Fit b) : (decide (wrap64 (a + b) < a) == decide (b < 0)) = inR (a + b) := by
  unfold Fit at ha hb
  rw [wrap64_def, Bool.eq_iff_iff, beq_iff_eq, decide_eq_decide, ← Fit.iff, Fit]
  omega
theorem sub_ok (a b : Int) (ha : Fit a) (hb : Fit b) : (decide (a < wrap64 (a - b)) == decide (b < 0)) = inR (a - b) := by
  unfold Fit at ha hb
  rw [wrap64_def, Bool.eq_iff_iff, beq_iff_eq, decide_eq_decide, ← Fit.iff, Fit]
  omega
theorem abs_fit (x : Int) (h : x.natAbs ≤ 9223372036854775807) : Fit x := by unfold Fit; omega
theorem tdiv_abs (a b : Int) : (a.tdiv b).natAbs ≤ a.natAbs := by rw [Int.natAbs_tdiv]; exact Nat.div_le_self _ _
theorem tdiv_abs2 (a b : Int) (h : 2 ≤ b.natAbs) : (a.tdiv b).natAbs ≤ a.natAbs / 2 := by rw [Int.natAbs_tdiv]; exact Nat.div_le_div_left h (by omega)
theorem tmod_abs (a b : Int) : (a.tmod b).natAbs ≤ a.natAbs := by rw [Int.natAbs_tmod]; exact Nat.mod_le _ _
theorem tmod_abs2 (a b : Int) (h : b ≠ 0) : (a.tmod b).natAbs < b.natAbs := by rw [Int.natAbs_tmod]; exact Nat.mod_lt _ (by omega)
theorem tdiv_fit (a b : Int) (ha : Fit a) (hb : b ≠ 0) (h : ¬ (a = -9223372036854775808 ∧ b = -1)) : Fit (a.tdiv b) := by
  have hle := tdiv_abs a b
  unfold Fit at ha
  by_cases h1 : a = -9223372036854775808
  · by_cases hb1 : b = 1
    · subst hb1; rw [Int.tdiv_one]; unfold Fit; omega
    · have := tdiv_abs2 a b (by omega)
      exact abs_fit _ (by omega)
  · exact abs_fit _ (by omega)
theorem tmod_fit (a b : Int) (ha : Fit a) : Fit (a.tmod b) := by
  have hle := tmod_abs a b
  by_cases h0 : 0 ≤ a
  · unfold Fit at ha
    exact abs_fit _ (by omega)
  · have h1 : (-a).tmod b = -(a.tmod b) := Int.neg_tmod ..
    have h2 : 0 ≤ (-a).tmod b := Int.tmod_nonneg _ (by omega)
    unfold Fit at ha ⊢
    omega
theorem tdiv_min : ((-9223372036854775808 : Int).tdiv (-1)) = 9223372036854775808 := by decide
theorem whole_ok (a b : Int) (ha : Fit a) (hb : b ≠ 0) : ((a != -9223372036854775808) || (b != -1)) = inR (a.tdiv b) := by
  rw [Bool.eq_iff_iff, ← Fit.iff]
  constructor
  · intro h
    refine tdiv_fit a b ha hb fun c => ?_
    simp [c.1, c.2] at h
  · intro h
    by_cases h1 : a = -9223372036854775808
    · by_cases h2 : b = -1
      · subst h1; subst h2; rw [tdiv_min] at h; unfold Fit at h; omega
      · simp [h2]
    · simp [h1]
theorem no_5 (a b : Int) (h : inR (a * b) = false) : numbers 5 a b = (none, 20) := by simp_all [numbers, told]
theorem yes_5 (a b : Int) (h : inR (a * b) = true) : numbers 5 a b = (num (a * b), 0) := by simp_all [numbers, told]
theorem no_6 (a b : Int) (hb : b ≠ 0) (h : inR (a.tdiv b) = false) : numbers 6 a b = (none, 20) := by simp_all [numbers, told]
theorem yes_6 (a b : Int) (hb : b ≠ 0) (h : inR (a.tdiv b) = true) : numbers 6 a b = (num (a.tdiv b), 0) := by simp_all [numbers, told]
theorem no_7 (a b : Int) (hb : b ≠ 0) (h : inR (a.tdiv b) = false) : numbers 7 a b = (none, 20) := by simp_all [numbers]
theorem yes_7 (a b : Int) (hb : b ≠ 0) (h : inR (a.tdiv b) = true) : numbers 7 a b = (num (a.tmod b), 0) := by simp_all [numbers]
theorem no_8 (a b : Int) (h : inR (a + b) = false) : numbers 8 a b = (none, 20) := by simp_all [numbers, told]
theorem yes_8 (a b : Int) (h : inR (a + b) = true) : numbers 8 a b = (num (a + b), 0) := by simp_all [numbers, told]
theorem no_15 (a b : Int) (h : inR (a - b) = false) : numbers 15 a b = (none, 20) := by simp_all [numbers, told]
theorem yes_15 (a b : Int) (h : inR (a - b) = true) : numbers 15 a b = (num (a - b), 0) := by simp_all [numbers, told]
theorem mul_ok (a b : Int) (ha : Fit a) (hb : Fit b) (hb0 : b ≠ 0) (hy : ¬ (b = -1 ∧ a = -9223372036854775808)) :
    (wrap64 ((wrap64 (a * b)).tdiv b) == a) = inR (a * b) := by
  have hc : Fit (wrap64 (a * b)) := by rw [wrap64_def, Fit]; omega
  rw [Bool.eq_iff_iff, beq_iff_eq, ← Fit.iff]
  constructor
  · intro h
    by_cases hm : wrap64 (a * b) = -9223372036854775808 ∧ b = -1
    · exfalso
      rw [hm.1, hm.2, tdiv_min] at h
      exact hy ⟨hm.2, by rw [← h, wrap64_def]; decide⟩
    · have ht := (tdiv_fit _ b hc hb0 hm).wrap
      rw [ht] at h
      have e := Int.mul_tdiv_add_tmod (wrap64 (a * b)) b
      rw [h] at e
      have hl := tmod_abs2 (wrap64 (a * b)) b hb0
      rw [Int.mul_comm b a] at e
      generalize a * b = p at *
      generalize (wrap64 p).tmod b = r at *
      have hw := wrap64_def p
      unfold Fit at hc hb ⊢
      omega
  · intro h
    rw [h.wrap, Int.mul_tdiv_cancel a hb0, ha.wrap]
end Va
