/- Lists of boxes (blocks of three cells), rows of cells; Yes at literals. -/
import Derived.Test.YtpekccomahikbaaVaLaws
import Derived.Lib.QuietBelow
namespace Go.Proofs.Ytpekccomahikbaa
open Go.RowKit Go.Own Go.Sort

def Boxes (l : List (Nat × Value × Value × Value)) (w : World) : Prop := ∀ p ∈ l, Box3 p.1 p.2.1 p.2.2.1 p.2.2.2 w
theorem Boxes.up {l : List (Nat × Value × Value × Value)} {w w' : World} (h : Boxes l w) (u : Up w w') : Boxes l w' := fun p hp => (h p hp).up u
theorem Boxes.nil (w : World) : Boxes [] w := fun p hp => by simp at hp
theorem Boxes.cons {l : List (Nat × Value × Value × Value)} {w : World} {B : Nat} {x y z : Value} (hb : Box3 B x y z w) (h : Boxes l w) : Boxes ((B, x, y, z) :: l) w := by
  intro p hp
  rcases List.mem_cons.1 hp with rfl | hp
  · exact hb
  · exact h p hp
theorem Boxes.get {l : List (Nat × Value × Value × Value)} {w : World} (h : Boxes l w) (i : Nat) {B : Nat} {x y z : Value} (hi : l[i]? = some (B, x, y, z)) : Box3 B x y z w := h _ (List.mem_of_getElem? hi)

/-- a row of cells -/
def RowOf (S : Nat) (vs : List Value) (w : World) : Prop := S < w.heap.size ∧ ∀ j v, vs[j]? = some v → w.cell? ⟨S, j, none⟩ = some v
theorem RowOf.up {S : Nat} {vs : List Value} {w w' : World} (h : RowOf S vs w) (u : Up w w') : RowOf S vs w' := ⟨Nat.lt_of_lt_of_le h.1 u.size, fun j v hv => u.keeps (h.2 j v hv) h.1⟩
theorem RowOf.new (vs : Array Value) (w : World) (t : TypeId) : RowOf w.heap.size vs.toList (w.alloc (.cells vs t)) := by
  refine ⟨by simp, fun j v hv => ?_⟩
  rw [World.cell?_alloc_new]
  simpa using hv

theorem yes_lit (n : Int) (b : Bool) (t : ByteArray) (h : (n != 0) = b) (w : World) :
    Calls Try.prog 12 #[.agg #[.int .u8 2, .int .i64 n, .string t]] w fun e w' => e = .returned (.bool b) ∧ Up w w' := by
  have := yes_any 2 n t w
  rwa [h] at this
end Go.Proofs.Ytpekccomahikbaa
