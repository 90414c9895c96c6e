/- Plain facts for the document's own answer, layer 9. -/
import Derived.WalkLawsBesides
import Derived.Test.YtckgdgkkmhochaaGreatDoorVaNum
namespace Va
open Go Go.RowKit
theorem bytesLess_list : ∀ a b : List UInt8, Op.bytesLess a b = decide (Lib.compareBytes a b < 0)
  | [], [] => rfl
  | [], _ :: _ => rfl
  | _ :: _, [] => rfl
  | x :: a, y :: b => by
    have ih := bytesLess_list a b
    unfold Lib.compareBytes
    simp only [Op.bytesLess]
    by_cases h : x < y
    · simp [h]
    · rw [if_neg h]
      by_cases k : y < x
      · rw [if_pos k]
        have e : (x == y) = false := by rw [beq_eq_false_iff_ne]; intro c; subst c; exact h k
        simp [h, e]
      · rw [if_neg k, ← ih]
        have e : x = y := by
          have h1 : ¬ x.toNat < y.toNat := h
          have h2 : ¬ y.toNat < x.toNat := k
          exact UInt8.toNat_inj.1 (by omega)
        simp [e]
theorem bytesLess_eq (a b : ByteArray) : Op.bytesLess a.toList b.toList = decide (Lib.compareBytes a.data.toList b.data.toList < 0) := by
  rw [ByteArray.toList_eq, ByteArray.toList_eq, bytesLess_list]
theorem cmpi_lt_iff (a b : Int) : (cmpi a b < 0) = (a < b) := by
  unfold cmpi
  split
  · simp_all
  · split <;> simp_all
theorem cmp_int_lt (a b : V) (h : a.k ≠ 3) : decide (cmp a b < 0) = decide (a.n < b.n) := by
  unfold cmp; rw [if_neg h]; simp only [cmpi_lt_iff]
theorem fit_iff (x : Int) : inR x = true ↔ -9223372036854775808 ≤ x ∧ x ≤ 9223372036854775807 := by simp [inR]
theorem fit_not (x : Int) : inR x = false ↔ ¬ (-9223372036854775808 ≤ x ∧ x ≤ 9223372036854775807) := by rw [← fit_iff]; simp
theorem mul_pp (a b : Int) (ha : 0 < a) (hb : 0 < b) : inR (a * b) = true ↔ ¬ 9223372036854775807 / b < a := by
  rw [fit_iff, Int.ediv_lt_iff_lt_mul hb]
  have : 0 < a * b := Int.mul_pos ha hb
  omega
theorem mul_nn (a b : Int) (ha : a < 0) (hb : b < 0) : inR (a * b) = true ↔ ¬ 9223372036854775807 / (-b) < -a := by
  rw [← Int.neg_mul_neg]; exact mul_pp (-a) (-b) (by omega) (by omega)
theorem least_nn (a b : Int) (ha : a < 0) (hb : b < 0) (h : a = -9223372036854775808 ∨ b = -9223372036854775808) : inR (a * b) = false := by
  rw [← Int.neg_mul_neg, fit_not]
  have h1 : 1 ≤ -a := by omega
  have h2 : 1 ≤ -b := by omega
  rcases h with h | h
  · have : (-a) * 1 ≤ (-a) * (-b) := Int.mul_le_mul_of_nonneg_left h2 (by omega)
    omega
  · have : 1 * (-b) ≤ (-a) * (-b) := Int.mul_le_mul_of_nonneg_right h1 (by omega)
    omega
theorem mul_pn (a b : Int) (ha : 0 < a) (hb : b < 0) : inR (a * b) = true ↔ ¬ b < (-9223372036854775808 : Int).tdiv a := by
  have e : (-9223372036854775808 : Int).tdiv a = -(9223372036854775808 / a) := by
    rw [show (-9223372036854775808 : Int) = -(9223372036854775808) from rfl, Int.neg_tdiv, Int.tdiv_eq_ediv_of_nonneg (by decide)]
  have k := @Int.ediv_lt_iff_lt_mul 9223372036854775808 (-b) a ha
  have m : (-b) * a = -(a * b) := by rw [Int.neg_mul, Int.mul_comm]
  have p : 0 < (-b) * a := Int.mul_pos (by omega) ha
  rw [fit_iff, e]
  rw [m] at k p
  omega
theorem quo_nn (b : Int) (hb : b < 0) : wrap64 (-Int.tdiv 9223372036854775807 b) = 9223372036854775807 / (-b) := by
  have e : -Int.tdiv 9223372036854775807 b = 9223372036854775807 / (-b) := by
    rw [← Int.tdiv_neg, Int.tdiv_eq_ediv_of_nonneg (by decide)]
  have h0 : (0 : Int) ≤ 9223372036854775807 / (-b) := Int.ediv_nonneg (by decide) (by omega)
  have h1 : (9223372036854775807 : Int) / (-b) ≤ 9223372036854775807 := Int.ediv_le_self _ (by decide)
  rw [e]
  exact Fit.wrap ⟨by omega, h1⟩
theorem quo_pn (a : Int) (ha : 0 < a) : wrap64 (-Int.tdiv 9223372036854775808 a) = (-9223372036854775808 : Int).tdiv a := by
  have e : (-9223372036854775808 : Int).tdiv a = -Int.tdiv 9223372036854775808 a := by
    rw [show (-9223372036854775808 : Int) = -(9223372036854775808) from rfl, Int.neg_tdiv]
  rw [← e]
  refine (tdiv_fit _ a (by unfold Fit; omega) (by omega) (fun c => ?_)).wrap
  omega
theorem mul_nn' (a b : Int) (ha : a < 0) (hb : b < 0) : inR (a * b) = true ↔ ¬ wrap64 (-Int.tdiv 9223372036854775807 b) < -a := by
  rw [quo_nn b hb]; exact mul_nn a b ha hb
theorem mul_pn' (a b : Int) (ha : 0 < a) (hb : b < 0) : inR (a * b) = true ↔ ¬ b < wrap64 (-Int.tdiv 9223372036854775808 a) := by
  rw [quo_pn a ha]; exact mul_pn a b ha hb
theorem mul_np' (a b : Int) (ha : a < 0) (hb : 0 < b) : inR (a * b) = true ↔ ¬ a < wrap64 (-Int.tdiv 9223372036854775808 b) := by
  rw [Int.mul_comm]; exact mul_pn' b a hb ha
theorem cmpB_swap : ∀ a b : List UInt8, Lib.compareBytes b a = -Lib.compareBytes a b
  | [], [] => rfl
  | [], _ :: _ => rfl
  | _ :: _, [] => rfl
  | x :: a, y :: b => by
    have ih := cmpB_swap a b
    unfold Lib.compareBytes
    by_cases h : x < y
    · have k : ¬ y < x := fun c => by have h1 : x.toNat < y.toNat := h; have h2 : y.toNat < x.toNat := c; omega
      simp [h, k]
    · by_cases k : y < x
      · simp [h, k]
      · simp [h, k, ih]
theorem cmp_swap (a b : V) (h : a.k = b.k) : cmp b a = -cmp a b := by
  unfold cmp
  rw [← h]
  split
  · exact cmpB_swap _ _
  · unfold cmpi; split <;> split <;> (try split) <;> omega
theorem le_not_gt (a b : V) (h : a.k = b.k) : decide (cmp a b ≤ 0) = !decide (cmp b a < 0) := by
  rw [cmp_swap a b h, Bool.eq_iff_iff]; simp
theorem equal_not (a b : V) (h : a.k = b.k) (h2 : a.k ≠ 2) : equal a b = (!decide (cmp a b < 0) && !decide (cmp b a < 0)) := by
  unfold equal
  rw [if_neg h2, cmp_swap a b h, Bool.eq_iff_iff]
  simp; omega
theorem equal_truth (an bn : Int) (at_ bt : ByteArray) : equal ⟨2, an, at_⟩ ⟨2, bn, bt⟩ = ((an != 0) == (bn != 0)) := by simp [equal, yes]
theorem big_4 {s t : ByteArray} (h : (40 : Int) < t.size) : sum s t = (none, 20) := by unfold sum; rw [if_pos (by omega)]
end Va
