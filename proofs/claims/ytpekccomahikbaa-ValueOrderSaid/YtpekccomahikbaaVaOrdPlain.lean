/- Plain facts on the order of values. -/
import Derived.Test.YtpekccomahikbaaVaRefPlain
namespace Va
open Go Go.RowKit
theorem two_less (a b : V) (hk : a.k = b.k) (h : a.k = 1 ∨ a.k = 3) : two 9 a b = (truth (decide (cmp a b < 0)), 0) := by
  have hf : fits 9 a.k b.k = true := by rw [← hk]; rcases h with h | h <;> rw [h] <;> decide
  simp [two, hf]
theorem two_leq (a b : V) (hk : a.k = b.k) (h : a.k = 1 ∨ a.k = 3) : two 10 a b = (truth (decide (cmp a b ≤ 0)), 0) := by
  have hf : fits 10 a.k b.k = true := by rw [← hk]; rcases h with h | h <;> rw [h] <;> decide
  simp [two, hf]
theorem equal_ord (a b : V) (h : a.k = 1 ∨ a.k = 3) : equal a b = (cmp a b == 0) := by
  unfold equal; rw [if_neg (by omega)]
theorem two_eq (a b : V) (hk : a.k = b.k) (h : a.k = 1 ∨ a.k = 3) : two 11 a b = (truth (cmp a b == 0), 0) := by
  have hf : fits 11 a.k b.k = true := by rw [← hk]; rcases h with h | h <;> rw [h] <;> decide
  simp [two, hf, equal_ord a b h]
theorem two_ne (a b : V) (hk : a.k = b.k) (h : a.k = 1 ∨ a.k = 3) : two 12 a b = (truth (!(cmp a b == 0)), 0) := by
  have hf : fits 12 a.k b.k = true := by rw [← hk]; rcases h with h | h <;> rw [h] <;> decide
  simp [two, hf, equal_ord a b h]
theorem fits9 (a b : Int) : fits 9 a b = true ↔ a = b ∧ (a = 1 ∨ a = 3) := by
  unfold fits
  simp
theorem two_unlike (a b : V) (h : ¬ (a.k = b.k ∧ (a.k = 1 ∨ a.k = 3))) : two 9 a b = (none, 23) := by
  have hf : fits 9 a.k b.k = false := by rw [Bool.eq_false_iff, ne_eq, fits9]; exact h
  simp [two, hf]
theorem cmpB_trans : ∀ a b c : List UInt8, Lib.compareBytes a b < 0 → Lib.compareBytes b c < 0 → Lib.compareBytes a c < 0
  | [], [], _, h, _ => by simp [Lib.compareBytes] at h
  | [], _ :: _, [], _, h => by simp [Lib.compareBytes] at h
  | [], _ :: _, _ :: _, _, _ => by simp [Lib.compareBytes]
  | _ :: _, [], _, h, _ => by simp [Lib.compareBytes] at h
  | _ :: _, _ :: _, [], _, h => by simp [Lib.compareBytes] at h
  | x :: a, y :: b, z :: c, h, k => by
    have ih := cmpB_trans a b c
    unfold Lib.compareBytes at h k ⊢
    by_cases h1 : x < y
    · by_cases k1 : y < z
      · rw [if_pos (show x < z from Nat.lt_trans (show x.toNat < y.toNat from h1) (show y.toNat < z.toNat from k1))]; decide
      · rw [if_neg k1] at k
        by_cases k2 : z < y
        · rw [if_pos k2] at k; omega
        · have e : y = z := UInt8.toNat_inj.1 (by have a1 : ¬ y.toNat < z.toNat := k1; have a2 : ¬ z.toNat < y.toNat := k2; omega)
          subst e; rw [if_pos h1]; decide
    · rw [if_neg h1] at h
      by_cases h2 : y < x
      · rw [if_pos h2] at h; omega
      · rw [if_neg h2] at h
        have e : x = y := UInt8.toNat_inj.1 (by have a1 : ¬ x.toNat < y.toNat := h1; have a2 : ¬ y.toNat < x.toNat := h2; omega)
        subst e
        by_cases k1 : x < z
        · rw [if_pos k1]; decide
        · rw [if_neg k1] at k ⊢
          by_cases k2 : z < x
          · rw [if_pos k2] at k; omega
          · rw [if_neg k2] at k ⊢; exact ih h k
theorem cmp_trans (a b c : V) (hab : a.k = b.k) (h : cmp a b < 0) (k : cmp b c < 0) : cmp a c < 0 := by
  unfold cmp at *
  rw [← hab] at k
  by_cases h3 : a.k = 3
  · rw [if_pos h3] at *; exact cmpB_trans _ _ _ h k
  · rw [if_neg h3] at *; rw [cmpi_lt_iff] at *; omega
theorem truth_n (b : Bool) : (truth b).n = 0 ∨ (truth b).n = 1 := by cases b <;> simp [truth]
end Va
