/- Whether a tree may be, and its text, in plain Lean. No program in sight. -/
import Derived.Test.YtckgdgkkmhochaaGreatDoorPxFacts
import Derived.Test.YtckgdgkkmhochaaGreatDoorVdPlain
namespace Px
open Go
open Lx hiding none run first may
set_option linter.unusedVariables false
set_option linter.unusedSimpArgs false
def word (s : Bs) : Bool := (!(s == [121, 101, 115]) && !(s == [110, 111])) && (!(s == [108, 101, 110]) && Lx.may 2 s)
def argsOf (o : Int) : Nat := if o = 1 then 0 else if o = 2 then 0 else if o = 3 then 1 else if o = 4 then 1 else if o = 16 then 1 else 2
def valOf : Ex → Va.V
  | .mk _ k n t _ _ => ⟨k, n, ⟨t.toArray⟩⟩
/-- what is asked of a tree, but for its args -/
def head : Ex → Bool
  | .mk o k n t nm l => (decide (1 ≤ o) && (decide (o ≤ 16) && (l.length == argsOf o))) &&
    ((o == 1 || (k == 0 && (n == 0 && t == []))) && (((o == 2) == word nm) && ((o == 2 || nm == []) && (!(o == 1) || (Va.may ⟨k, n, ⟨t.toArray⟩⟩ && (!(k == 0) && !(k == 1 && decide (n < 0))))))))
def may : Nat → Ex → Bool
  | 0, _ => false
  | n + 1, e => head e && e.args.all (may n)
def opOf : Ex → Int
  | .mk o _ _ _ _ _ => o
def nmOf : Ex → Bs
  | .mk _ _ _ _ nm _ => nm
def much (e : Ex) : Int := match by_ [110, 111, 110, 101] (opOf e) with
  | some b => b.2.2
  | none => if opOf e = 3 ∨ opOf e = 4 then 6 else 7
def arg (e : Ex) (i : Nat) : Ex := e.args.getD i none_
/-- in brackets if it binds less than is needed -/
def within (s : Bs) (m need : Int) : Bs := if need ≤ m then s else 40 :: (s ++ [41])
def show_ : Nat → Ex → Bs
  | 0, _ => []
  | n + 1, e =>
    if opOf e = 1 then (Va.shown (valOf e)).data.toList
    else if opOf e = 2 then nmOf e
    else if opOf e = 3 then 45 :: within (show_ n (arg e 0)) (much (arg e 0)) 6
    else if opOf e = 4 then 33 :: within (show_ n (arg e 0)) (much (arg e 0)) 6
    else if opOf e = 16 then [108, 101, 110, 40] ++ show_ n (arg e 0) ++ [41]
    else match by_ [110, 111, 110, 101] (opOf e) with
      | some b => within (show_ n (arg e 0)) (much (arg e 0)) (if b.2.2 = 3 then 4 else b.2.2) ++ [32] ++ b.1 ++ [32] ++ within (show_ n (arg e 1)) (much (arg e 1)) (b.2.2 + 1)
      | none => []
def show' (e : Ex) : Bs × Int := if may 16 e then (if 100 < (show_ 16 e).length then ([], 40) else (show_ 16 e, 0)) else ([], 4)
theorem may_deep : ∀ (n : Nat) (e : Ex), may n e = true → deep e ≤ n
  | 0, e, h => by simp [may] at h
  | n + 1, .mk o k m t nm l, h => by
    simp only [may, Bool.and_eq_true, List.all_eq_true] at h
    simp only [deep]
    have : deeps l ≤ n := by
      have h2 := h.2
      simp only [Ex.args] at h2
      clear h
      induction l with
      | nil => simp [deeps]
      | cons a l ih =>
        simp only [deeps]
        have h3 := may_deep n a (h2 a (List.mem_cons_self ..))
        have h4 := ih fun x hx => h2 x (List.mem_cons_of_mem _ hx)
        omega
    omega
/-- how long a text is, at most -/
def lim (n : Nat) : Nat := 64 * 4 ^ n
theorem lim_succ (n : Nat) : lim (n + 1) = 4 * lim n := by unfold lim; rw [Nat.pow_succ]; omega
theorem lim_pos (n : Nat) : 64 ≤ lim n := by unfold lim; have := Nat.pos_of_ne_zero (show 4 ^ n ≠ 0 from by simp [Nat.pow_eq_zero]); omega
theorem within_len (s : Bs) (m k : Int) : (within s m k).length ≤ s.length + 2 := by unfold within; split <;> simp
theorem by_sign {s : Bs} {o : Int} {b : Bs × Int × Int} (h : by_ s o = some b) : b.1.length ≤ 2 := by
  have := List.mem_of_find?_eq_some h
  simp only [binds, List.mem_cons, List.not_mem_nil, or_false] at this
  rcases this with rfl | rfl | rfl | rfl | rfl | rfl | rfl | rfl | rfl | rfl | rfl <;> decide
theorem word_len {s : Bs} (h : word s = true) : s.length ≤ 12 := by
  unfold word at h
  simp only [Bool.and_eq_true] at h
  have := h.2.2
  cases s with
  | nil => simp
  | cons c r =>
    simp only [Lx.may] at this
    simp [Lx.wordOk] at this
    simp; omega
end Px
