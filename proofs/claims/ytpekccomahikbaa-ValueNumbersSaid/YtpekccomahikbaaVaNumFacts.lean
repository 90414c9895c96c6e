/- What sums, differences, products and quotients come to, in the terms of ValueNumbers. -/
import Derived.Test.YtpekccomahikbaaVaRefPlain
namespace Va
open Go Go.RowKit
theorem two_num (op n m : Int) (h : op = 5 ∨ op = 6 ∨ op = 7 ∨ op = 8 ∨ op = 15) : two op ⟨1, n, ⟨#[]⟩⟩ ⟨1, m, ⟨#[]⟩⟩ = numbers op n m := by
  rcases h with h | h | h | h | h <;> subst h <;> simp [two, fits]
theorem numF1 (n m : Int) (hn : Fit n) (hm : Fit m) (s : Int) (hs : wrap64 (n + m) = s) :
    ((numbers 8 n m).2 = 0 ∧ (numbers 8 n m).1.k = 1 ∧ (numbers 8 n m).1.n = s ∧ (numbers 8 n m).1.t = ⟨#[]⟩ ∧ ((decide (n < 0) != decide (m < 0)) || (decide (s < 0) == decide (n < 0))) = true) ∨ ((numbers 8 n m).2 = 20 ∧ ((decide (n < 0) != decide (m < 0)) || (decide (s < 0) == decide (n < 0))) = false) := by
  cases h : inR (n + m)
  · right
    refine ⟨by rw [no_8 n m h], ?_⟩
    have h2 := not_fit h
    rw [wrap64_def] at hs
    unfold Fit at *
    by_cases a : n < 0 <;> by_cases b : m < 0 <;> by_cases c : s < 0 <;> simp [a, b, c] <;> omega
  · left
    have h2 := Fit.iff.2 h
    rw [h2.wrap] at hs
    subst hs
    rw [yes_8 n m h]
    refine ⟨rfl, rfl, rfl, rfl, ?_⟩
    unfold Fit at *
    by_cases a : n < 0 <;> by_cases b : m < 0 <;> by_cases c : n + m < 0 <;> simp [a, b, c] <;> omega
theorem numF2 (n m : Int) (hn : Fit n) (hm : Fit m) (s : Int) (hs : wrap64 (n - m) = s) :
    ((numbers 15 n m).2 = 0 ∧ (numbers 15 n m).1.k = 1 ∧ (numbers 15 n m).1.n = s ∧ (numbers 15 n m).1.t = ⟨#[]⟩ ∧ ((decide (n < 0) == decide (m < 0)) || (decide (s < 0) == decide (n < 0))) = true) ∨ ((numbers 15 n m).2 = 20 ∧ ((decide (n < 0) == decide (m < 0)) || (decide (s < 0) == decide (n < 0))) = false) := by
  cases h : inR (n - m)
  · right
    refine ⟨by rw [no_15 n m h], ?_⟩
    have h2 := not_fit h
    rw [wrap64_def] at hs
    unfold Fit at *
    by_cases a : n < 0 <;> by_cases b : m < 0 <;> by_cases c : s < 0 <;> simp [a, b, c] <;> omega
  · left
    have h2 := Fit.iff.2 h
    rw [h2.wrap] at hs
    subst hs
    rw [yes_15 n m h]
    refine ⟨rfl, rfl, rfl, rfl, ?_⟩
    unfold Fit at *
    by_cases a : n < 0 <;> by_cases b : m < 0 <;> by_cases c : n - m < 0 <;> simp [a, b, c] <;> omega
theorem small_mul (n m : Int) (h : ¬ (n ≤ -2147483648 ∨ 2147483648 ≤ n ∨ m ≤ -2147483648 ∨ 2147483648 ≤ m)) : Fit (n * m) := by
  have e := Int.natAbs_mul n m
  have := Nat.mul_le_mul (show n.natAbs ≤ 2147483647 by omega) (show m.natAbs ≤ 2147483647 by omega)
  exact abs_fit _ (by omega)
theorem numF3 (n m : Int) (hn : Fit n) (hm : Fit m) (p : Int) (hp : wrap64 (n * m) = p) :
    ((numbers 5 n m).2 = 0 ∧ (numbers 5 n m).1.k = 1 ∧ (numbers 5 n m).1.n = p ∧ (numbers 5 n m).1.t = ⟨#[]⟩ ∧ ((m != 0) = true → (m != -1) = true → m ≠ 0 ∧ IntKind.i64.wrap (p.tdiv m) = n ∧ wrap64 (p.tdiv m) = n ∧ p.tmod m = 0)) ∨ ((numbers 5 n m).2 = 20 ∧ n ≠ 0 ∧ m ≠ 0 ∧ n ≠ 1 ∧ m ≠ 1 ∧ (n ≤ -2147483648 ∨ 2147483648 ≤ n ∨ m ≤ -2147483648 ∨ 2147483648 ≤ m)) := by
  cases h : inR (n * m)
  · right
    have h2 := not_fit h
    refine ⟨by rw [no_5 n m h], ?_, ?_, ?_, ?_, ?_⟩
    · rintro rfl; exact h2 (by rw [Int.zero_mul]; unfold Fit; omega)
    · rintro rfl; exact h2 (by rw [Int.mul_zero]; unfold Fit; omega)
    · rintro rfl; exact h2 (by rw [Int.one_mul]; exact hm)
    · rintro rfl; exact h2 (by rw [Int.mul_one]; exact hn)
    · by_cases c : n ≤ -2147483648 ∨ 2147483648 ≤ n ∨ m ≤ -2147483648 ∨ 2147483648 ≤ m
      · exact c
      · exact absurd (small_mul n m c) h2
  · left
    have h2 := Fit.iff.2 h
    rw [h2.wrap] at hp
    subst hp
    rw [yes_5 n m h]
    refine ⟨rfl, rfl, rfl, rfl, fun a _ => ?_⟩
    have hm0 : m ≠ 0 := by simpa using a
    have e : wrap64 ((n * m).tdiv m) = n := by rw [Int.mul_tdiv_cancel n hm0, hn.wrap]
    exact ⟨hm0, (IntWalk.i64_left _).trans e, e, Int.mul_tmod_left ..⟩
theorem numFQ (n m : Int) (hn : Fit n) (hm : Fit m) :
    ((numbers 6 n m).2 = 21 ∧ (numbers 7 n m).2 = 21 ∧ m = 0) ∨ ((numbers 6 n m).2 = 20 ∧ (numbers 7 n m).2 = 20 ∧ n = -9223372036854775808 ∧ m = -1) ∨ ((numbers 6 n m).2 = 0 ∧ (numbers 7 n m).2 = 0 ∧ m ≠ 0 ∧ ((m == -1) && (n == -9223372036854775808)) = false ∧ (wrap64 (wrap64 ((numbers 6 n m).1.n * m) + (numbers 7 n m).1.n) != n) = false ∧ (((numbers 7 n m).1.n != 0) = true → (decide ((numbers 7 n m).1.n < 0) != decide (n < 0)) = false) ∧
      ((m == -9223372036854775808) = true ∨ ((m == -9223372036854775808) = false ∧ (-9223372036854775807 ≤ m ∧ m ≤ 9223372036854775807) ∧ (-9223372036854775807 ≤ (numbers 7 n m).1.n ∧ (numbers 7 n m).1.n ≤ 9223372036854775807) ∧ (((numbers 7 n m).1.n < 0 ∧ m < 0 ∧ m < (numbers 7 n m).1.n) ∨ ((numbers 7 n m).1.n < 0 ∧ 0 < m ∧ -m < (numbers 7 n m).1.n) ∨ (0 ≤ (numbers 7 n m).1.n ∧ m < 0 ∧ m < -(numbers 7 n m).1.n) ∨ (0 ≤ (numbers 7 n m).1.n ∧ 0 < m ∧ (numbers 7 n m).1.n < m))))) := by
  by_cases hm0 : m = 0
  · left; subst hm0; exact ⟨by simp [numbers], by simp [numbers], rfl⟩
  have hw := whole_ok n m hn hm0
  cases h : inR (n.tdiv m)
  · right; left
    rw [h] at hw
    simp only [Bool.or_eq_false_iff, bne_eq_false_iff_eq] at hw
    exact ⟨by rw [no_6 n m hm0 h], by rw [no_7 n m hm0 h], hw.1, hw.2⟩
  · right; right
    rw [h] at hw
    rw [yes_6 n m hm0 h, yes_7 n m hm0 h]
    have e := Int.mul_tdiv_add_tmod n m
    rw [Int.mul_comm m] at e
    have hl := tmod_abs2 n m hm0
    have hsg : (0 ≤ n → 0 ≤ n.tmod m) ∧ (n ≤ 0 → n.tmod m ≤ 0) := by
      refine ⟨fun c => Int.tmod_nonneg _ c, fun c => ?_⟩
      have h1 : (-n).tmod m = -(n.tmod m) := Int.neg_tmod ..
      have h2 : 0 ≤ (-n).tmod m := Int.tmod_nonneg _ (by omega)
      omega
    show _ ∧ _ ∧ _ ∧ _ ∧ (wrap64 (wrap64 (n.tdiv m * m) + n.tmod m) != n) = false ∧ ((n.tmod m != 0) = true → (decide (n.tmod m < 0) != decide (n < 0)) = false) ∧ _
    refine ⟨rfl, rfl, hm0, ?_, ?_, ?_, ?_⟩
    · rw [Bool.eq_false_iff]; intro c
      simp only [Bool.and_eq_true, beq_iff_eq] at c
      rw [c.1, c.2] at hw
      simp at hw
    · generalize n.tdiv m * m = x at *
      generalize n.tmod m = y at *
      have hx := wrap64_def x
      have hy := wrap64_def (wrap64 x + y)
      unfold Fit at hn
      rw [bne_eq_false_iff_eq]
      omega
    · intro c
      have c' : n.tmod m ≠ 0 := by simpa using c
      have : (n.tmod m < 0) ↔ (n < 0) := by omega
      rw [bne_eq_false_iff_eq, decide_eq_decide]
      exact this
    · by_cases c : m = -9223372036854775808
      · left; rw [c]; rfl
      · right
        have hr : (num (n.tmod m)).n = n.tmod m := rfl
        rw [hr]
        unfold Fit at hm
        refine ⟨by simpa using c, by omega, by omega, ?_⟩
        generalize n.tmod m = y at *
        omega
end Va
