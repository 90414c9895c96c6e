/- Items, states, and what is found in a row, plainly. -/
import Derived.Test.YtamnfdmmjjekhaaVrP
import Derived.Test.YtamnfdmmjjekhaaSfE
set_option linter.unusedSimpArgs false
namespace Vr
open Go
/-- an item -/
structure It where
  id : Int
  up : Int
  is : Int
  proc : Bs
  node : Int
  frm : Int
  wait : Int
  code : Bs
  deriving DecidableEq, Inhabited
def It.zero : It := ⟨0, 0, 0, [], 0, 0, 0, []⟩
def Ce.zero : Ce := ⟨0, [], ⟨0, 0, []⟩⟩
def It.enc (x : It) : List Value := [.int .i64 x.id, .int .i64 x.up, .int .u8 x.is, .string ⟨x.proc.toArray⟩, .int .i64 x.node, .int .i64 x.frm, .int .u8 x.wait, .string ⟨x.code.toArray⟩]
theorem It.enc_len (x : It) : x.enc.length = 8 := rfl
/-- a slice as a value -/
structure Sl where
  a : Option Addr
  n : Nat
  c : Nat
def Sl.val (s : Sl) : Value := .slice s.a s.n s.c
/-- a state as a value -/
structure StV where
  ck : Int
  nx : Int
  d : Sl
  i : Sl
  c : Sl
  h : Sl
def StV.val (s : StV) : Value := .agg #[.int .i64 s.ck, .int .i64 s.nx, .slice s.d.a s.d.n s.d.c, .slice s.i.a s.i.n s.i.c, .slice s.c.a s.c.n s.c.c, .slice s.h.a s.h.n s.h.c]
def isId (id : Int) (x : It) : Bool := x.id == id
def isCe (id : Int) (nm : Bs) (x : Ce) : Bool := (x.sc == id) && (x.nm == nm)
def isIn (l : List Int) (x : Ce) : Bool := l.any fun y => y == x.sc
/-- where the first one stands; -1: there is none -/
def idx {α : Type} (p : α → Bool) (l : List α) : Int := match l.findIdx? p with
  | some i => (i : Int)
  | none => -1
theorem idx_some {α : Type} {p : α → Bool} {l : List α} {i : Nat} {x : α} (hx : l[i]? = some x) (hp : p x = true) (hb : ∀ (j : Nat) y, j < i → l[j]? = some y → p y = false) : idx p l = (i : Int) := by
  have hil := (List.getElem?_eq_some_iff.1 hx).1
  have : l.findIdx? p = some i := by
    rw [List.findIdx?_eq_some_iff_getElem]
    refine ⟨hil, ?_, fun j hj => ?_⟩
    · rw [(List.getElem?_eq_some_iff.1 hx).2]; exact hp
    · have := hb j l[j] hj (List.getElem?_eq_getElem (by omega))
      rw [this]; simp
  unfold idx; rw [this]
theorem idx_none {α : Type} {p : α → Bool} {l : List α} (h : ∀ (j : Nat) x, l[j]? = some x → p x = false) : idx p l = -1 := by
  have : l.findIdx? p = none := by
    rw [List.findIdx?_eq_none_iff]
    intro x hx
    obtain ⟨j, hj⟩ := List.mem_iff_getElem?.1 hx
    exact h j x hj
  unfold idx; rw [this]
theorem idx_find {α : Type} (p : α → Bool) (l : List α) : (idx p l = -1 ∧ l.find? p = none) ∨ ∃ i x, idx p l = ((i : Nat) : Int) ∧ l.find? p = some x ∧ l[i]? = some x := by
  unfold idx
  cases h : l.findIdx? p with
  | none =>
    left
    refine ⟨rfl, ?_⟩
    rw [List.findIdx?_eq_none_iff] at h
    rw [List.find?_eq_none]
    intro x hx
    rw [h x hx]; simp
  | some i =>
    right
    rw [List.findIdx?_eq_some_iff_getElem] at h
    obtain ⟨hi, hp, hb⟩ := h
    refine ⟨i, l[i], rfl, ?_, List.getElem?_eq_getElem hi⟩
    rw [List.find?_eq_some_iff_getElem]
    exact ⟨hp, i, hi, rfl, fun j hj => by simpa using hb j hj⟩
theorem idx_le {α : Type} (p : α → Bool) (l : List α) : SF.leB 0 (idx p l) = l.any p := by
  rcases idx_find p l with ⟨e1, e2⟩ | ⟨i, x, e1, e2, hx⟩
  · rw [e1]
    have : l.any p = false := by
      rw [List.find?_eq_none] at e2
      rw [List.any_eq_false]; exact e2
    rw [this]; rfl
  · rw [e1]
    have : l.any p = true := by
      rw [List.any_eq_true]
      exact ⟨x, List.mem_of_find?_eq_some e2, List.find?_some e2⟩
    rw [this]
    simp [SF.leB]
end Vr
