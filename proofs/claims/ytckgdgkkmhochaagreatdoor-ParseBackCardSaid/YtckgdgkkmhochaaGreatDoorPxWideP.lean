/- Trees that are handed in: in bounds; how much a statement counts of them. No program in sight. -/
import Derived.Test.YtckgdgkkmhochaaGreatDoorPxFacts
namespace Tx
open Go
open Px
set_option linter.unusedVariables false
set_option linter.unusedSimpArgs false
mutual
/-- its lengths and numbers are in bounds -/
def wide : Ex → Bool
  | .mk _ _ n t nm l => (decide (l.length ≤ 140737488355328) && (decide (t.length ≤ 140737488351232) && (decide (nm.length ≤ 140737488351232) && (decide (-9223372036854775808 ≤ n) && decide (n ≤ 9223372036854775807))))) && wides l
def wides : List Ex → Bool
  | [] => true
  | e :: l => wide e && wides l
end
theorem wide_mem {l : List Ex} {e : Ex} (h : wides l = true) (he : e ∈ l) : wide e = true := by
  induction l with
  | nil => cases he
  | cons x l ih =>
    simp only [wides, Bool.and_eq_true] at h
    rcases List.mem_cons.1 he with rfl | he
    · exact h.1
    · exact ih h.2 he
mutual
/-- how many parts, counted to n -/
def sz : Ex → Nat → Nat
  | .mk _ _ _ _ _ l, n => szs l 1 n
def szs : List Ex → Nat → Nat → Nat
  | [], w, _ => w
  | e :: l, w, n => if w < n then szs l (w + sz e (n - w)) n else w
end
mutual
theorem sz_ge : ∀ (e : Ex) (n : Nat), 1 ≤ sz e n
  | .mk _ _ _ _ _ l, n => by simp only [sz]; exact szs_ge l 1 n
theorem szs_ge : ∀ (l : List Ex) (w n : Nat), w ≤ szs l w n
  | [], w, n => by simp [szs]
  | e :: l, w, n => by
    simp only [szs]
    split
    · have := szs_ge l (w + sz e (n - w)) n; omega
    · exact Nat.le_refl _
end
mutual
theorem sz_le : ∀ (e : Ex) (n : Nat), 1 ≤ n → sz e n ≤ n
  | .mk _ _ _ _ _ l, n, h => by simp only [sz]; exact szs_le l 1 n h
theorem szs_le : ∀ (l : List Ex) (w n : Nat), w ≤ n → szs l w n ≤ n
  | [], w, n, h => by simpa [szs] using h
  | e :: l, w, n, h => by
    simp only [szs]
    split
    · have := sz_le e (n - w) (by omega)
      exact szs_le l _ n (by omega)
    · exact h
end
mutual
theorem sz_thin : ∀ (e : Ex) (n : Nat), n ≤ 300 → sz e n < n → wide e = true → thin e = true ∧ deep e ≤ n
  | .mk op k m t nm l, n, hn, h, hw => by
    simp only [sz] at h
    simp only [wide, Bool.and_eq_true, decide_eq_true_eq] at hw
    have h2 := szs_thin l 1 n hn h hw.2
    simp only [thin, deep, Bool.and_eq_true, decide_eq_true_eq]
    exact ⟨⟨⟨by omega, hw.1.2.1, hw.1.2.2.1, hw.1.2.2.2⟩, h2.1⟩, by omega⟩
theorem szs_thin : ∀ (l : List Ex) (w n : Nat), n ≤ 300 → szs l w n < n → wides l = true → thins l = true ∧ w + l.length ≤ n ∧ w + deeps l ≤ n
  | [], w, n, hn, h, _ => by simp only [szs] at h; simp [thins, deeps]; omega
  | e :: l, w, n, hn, h, hw => by
    simp only [wides, Bool.and_eq_true] at hw
    simp only [szs] at h
    split at h
    · rename_i hc
      have h1 := szs_ge l (w + sz e (n - w)) n
      have h2 := sz_ge e (n - w)
      have h3 := szs_thin l _ n hn h hw.2
      have h4 := sz_thin e (n - w) (by omega) (by omega) hw.1
      simp only [thins, deeps, List.length_cons, Bool.and_eq_true]
      exact ⟨⟨h4.1, h3.1⟩, by omega, by omega⟩
    · omega
end
def large (e : Ex) : Bool := decide (300 ≤ sz e 300)
theorem large_thin {e : Ex} (h : large e = false) (hw : wide e = true) : thin e = true ∧ deep e ≤ 300 := by
  unfold large at h
  exact sz_thin e 300 (Nat.le_refl _) (by simpa using h) hw
end Tx
