/- Types of expressions in plain Lean. No program in sight. -/
import Derived.Test.YtijinopghlpdbaaGreatDoorPxFacts
import Derived.Test.YtijinopghlpdbaaGreatDoorVdPlain
namespace Tx
open Go
open Px
set_option linter.unusedVariables false
set_option linter.unusedSimpArgs false
/-- a variable: its name, and its first value -/
structure Var where
  name : Lx.Bs
  k : Int
  n : Int
  t : Lx.Bs
def argTab : List Int := [0, 0, 0, 1, 1, 2, 2, 2, 2, 2, 2, 2, 2, 2, 2, 2, 1]
def argN (o : Int) : Int := argTab.getD o.toNat 0
def sortTab : List (List (Int × Int)) := [[], [], [], [(1, 1)], [(2, 2)], [(1, 1)], [(1, 1)], [(1, 1)], [(1, 1), (3, 3)], [(1, 2), (3, 2)], [(1, 2), (3, 2)], [(1, 2), (2, 2), (3, 2)], [(1, 2), (2, 2), (3, 2)], [(2, 2)], [(2, 2)], [(1, 1)], [(3, 1)]]
def sortsOf (o : Int) : List (Int × Int) := sortTab.getD o.toNat []
/-- whether it is whole, with so many in a row at most -/
def whole : Nat → Ex → Bool
  | 0, _ => false
  | n + 1, .mk op k m t nm l => (decide (1 ≤ op) && decide (op ≤ 16)) && (((l.length : Int) == argN op) && ((op != 1 || Va.may ⟨k, m, ⟨t.toArray⟩⟩) && l.all (whole n)))
def known (k : Int) : Int × Int := if k < 1 ∨ 3 < k then (0, 23) else (k, 0)
def sorted (o : Int) (sides : List Int) : Int × Int := match (sortsOf o).find? fun s => sides.all (· == s.1) with
  | some s => (s.2, 0)
  | none => (0, 23)
def named (vars : List Var) (nm : Lx.Bs) : Int × Int := match vars.find? fun v => v.name == nm with
  | some v => known v.k
  | none => (0, 22)
mutual
/-- the type, or what it is refused by -/
def typed (vars : List Var) : Ex → Int × Int
  | .mk op k n t nm l => if op = 1 then known k else if op = 2 then named vars nm else match typeds vars l with
    | .error f => (0, f)
    | .ok sides => sorted op sides
def typeds (vars : List Var) : List Ex → Except Int (List Int)
  | [] => .ok []
  | e :: l => if (typed vars e).2 = 0 then (match typeds vars l with
      | .error f => .error f
      | .ok r => .ok ((typed vars e).1 :: r)) else .error (typed vars e).2
end
def type (vars : List Var) (e : Ex) : Int × Int := if whole 16 e then typed vars e else (0, 4)

theorem whole_all {n : Nat} {l : List Ex} (h : l.all (whole n) = true) {e : Ex} (he : e ∈ l) : whole n e = true := List.all_eq_true.1 h e he
theorem typeds_snoc (vars : List Var) (l : List Ex) (e : Ex) : typeds vars (l ++ [e]) = match typeds vars l with
    | .error f => .error f
    | .ok r => if (typed vars e).2 = 0 then .ok (r ++ [(typed vars e).1]) else .error (typed vars e).2 := by
  induction l with
  | nil =>
    simp only [List.nil_append, typeds]
  | cons x l ih =>
    simp only [List.cons_append, typeds, ih]
    by_cases hx : (typed vars x).2 = 0
    · rw [if_pos hx, if_pos hx]
      cases typeds vars l with
      | error f => rfl
      | ok r =>
        dsimp only
        by_cases he : (typed vars e).2 = 0
        · rw [if_pos he, if_pos he]; rfl
        · rw [if_neg he, if_neg he]
    · rw [if_neg hx, if_neg hx]
theorem typeds_err {vars : List Var} {l : List Ex} {f : Int} (m : List Ex) (h : typeds vars l = .error f) : typeds vars (l ++ m) = .error f := by
  induction l with
  | nil => cases h
  | cons x l ih =>
    simp only [List.cons_append, typeds] at h ⊢
    by_cases hx : (typed vars x).2 = 0
    · rw [if_pos hx] at h ⊢
      cases hl : typeds vars l with
      | error g => rw [hl] at h ih; injection h with h; subst h; rw [ih rfl]
      | ok r => rw [hl] at h; cases h
    · rw [if_neg hx] at h ⊢; exact h
theorem typeds_len {vars : List Var} : ∀ {l : List Ex} {r : List Int}, typeds vars l = .ok r → r.length = l.length
  | [], r, h => by injection h with h; subst h; rfl
  | e :: l, r, h => by
    simp only [typeds] at h
    split at h
    · split at h
      · cases h
      · rename_i r' hr
        injection h with h
        subst h
        simp [typeds_len hr]
    · cases h
end Tx
