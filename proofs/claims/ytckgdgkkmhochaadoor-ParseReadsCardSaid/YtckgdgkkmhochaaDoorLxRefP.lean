/- Plain laws of parts: the first sign, what the document tells. No program in sight. -/
import Derived.Test.YtckgdgkkmhochaaDoorLxNumP
import Derived.Test.YtckgdgkkmhochaaDoorLxPiecesP
namespace Lx
open Go
set_option linter.unusedVariables false
set_option linter.unusedSimpArgs false
theorem sign_mem {x : Bs} : signs.contains x = true ↔ x = [60, 61] ∨ x = [61, 61] ∨ x = [33, 61] ∨ x = [124] ∨ x = [38] ∨ x = [60] ∨ x = [43] ∨ x = [45] ∨ x = [42] ∨ x = [47] ∨ x = [37] ∨ x = [33] ∨ x = [40] ∨ x = [41] := by
  rw [List.contains_iff_mem]; simp [signs]
theorem first_find {c : UInt8} {r : Bs} (h1 : digit c = false) (h2 : letter c = false) (h3 : c ≠ 39) : first (c :: r) = match signs.find? fun x => x.isPrefixOf (c :: r) with
    | some x => (⟨4, x⟩, x.length)
    | Option.none => none := by rw [first_cons, if_neg (by rw [h1]; decide), if_neg (by rw [h2]; decide), if_neg h3]; rfl
theorem first_sign2 {c d : UInt8} {r : Bs} (h1 : digit c = false) (h2 : letter c = false) (h3 : c ≠ 39) (h : signs.contains [c, d] = true) : first (c :: d :: r) = (⟨4, [c, d]⟩, 2) := by
  rw [first_find h1 h2 h3]
  rw [sign_mem] at h
  simp only [List.cons.injEq, and_true, reduceCtorEq, and_false, or_false] at h
  rcases h with ⟨rfl, rfl⟩ | ⟨rfl, rfl⟩ | ⟨rfl, rfl⟩ <;> simp [signs, List.find?, List.isPrefixOf]
theorem first_sign1 {c : UInt8} {r : Bs} (h1 : digit c = false) (h2 : letter c = false) (h3 : c ≠ 39) (hno : ∀ d s, r = d :: s → signs.contains [c, d] = false) (h : signs.contains [c] = true) : first (c :: r) = (⟨4, [c]⟩, 1) := by
  rw [first_find h1 h2 h3]
  rw [sign_mem] at h
  simp only [List.cons.injEq, and_true, reduceCtorEq, and_false, false_or] at h
  cases r with
  | nil => rcases h with rfl | rfl | rfl | rfl | rfl | rfl | rfl | rfl | rfl | rfl | rfl <;> simp [signs, List.find?, List.isPrefixOf]
  | cons d s =>
    have hd := hno d s rfl
    have hd : ¬ (c = 60 ∧ d = 61) ∧ ¬ (c = 33 ∧ d = 61) := by
      refine ⟨fun ⟨e1, e2⟩ => ?_, fun ⟨e1, e2⟩ => ?_⟩ <;> subst e1 e2 <;> revert hd <;> decide
    have hd' : c = 60 ∨ c = 33 → (61 == d) = false := fun h => by
      rw [beq_eq_false_iff_ne]
      rintro rfl
      rcases h with h | h
      · exact hd.1 ⟨h, rfl⟩
      · exact hd.2 ⟨h, rfl⟩
    rcases h with rfl | rfl | rfl | rfl | rfl | rfl | rfl | rfl | rfl | rfl | rfl <;> first
      | (have h5 := hd' (.inl rfl); simp [signs, List.find?, List.isPrefixOf, h5]; done)
      | (have h5 := hd' (.inr rfl); simp [signs, List.find?, List.isPrefixOf, h5]; done)
      | (simp [signs, List.find?, List.isPrefixOf]; done)
theorem first_sign0 {c : UInt8} {r : Bs} (h1 : digit c = false) (h2 : letter c = false) (h3 : c ≠ 39) (hno : ∀ d s, r = d :: s → signs.contains [c, d] = false) (h : signs.contains [c] = false) : (first (c :: r)).2 = 0 := by
  rw [first_find h1 h2 h3]
  have : (signs.find? fun x => x.isPrefixOf (c :: r)) = Option.none := by
    rw [List.find?_eq_none]
    intro x hx hp
    rw [List.isPrefixOf_iff_prefix] at hp
    obtain ⟨z, hz⟩ := hp
    have hx' := List.contains_iff_mem.2 hx
    have hx2 := sign_mem.1 hx'
    match x, hz, hx', hx2 with
    | [], _, _, k => simp at k
    | [a], e, k, _ =>
      simp only [List.cons_append, List.nil_append, List.cons.injEq] at e
      obtain ⟨rfl, _⟩ := e
      rw [h] at k; cases k
    | [a, b], e, k, _ =>
      simp only [List.cons_append, List.nil_append, List.cons.injEq] at e
      obtain ⟨rfl, e⟩ := e
      have := hno b z e.symm
      rw [k] at this; cases this
    | a :: b :: e :: y, _, _, k => simp at k
  rw [this]; rfl
theorem shown_snoc : ∀ (ts : List Tok) (t : Tok), shown (ts ++ [t]) = if ts = [] then text t else shown ts ++ 32 :: text t
  | [], t => by simp [shown, Lib.join]
  | [u], t => by simp [shown, Lib.join]
  | u :: v :: ts, t => by
    have := shown_snoc (v :: ts) t
    rw [if_neg (by simp)] at this ⊢
    rw [List.cons_append, List.cons_append] at *
    rw [join_cons, this, join_cons]
    simp
theorem trim_drop {s : Bs} {i : Nat} (h : i < s.length) (h32 : s[i]? = some 32) : trim (s.drop i) = trim (s.drop (i + 1)) := by
  have e : s.drop i = 32 :: s.drop (i + 1) := by
    have := List.drop_eq_getElem_cons h
    rw [List.getElem?_eq_getElem h] at h32
    rw [this, Option.some.inj h32]
  rw [e, trim_sp]
end Lx
