/- Small general lemmas of mine, over any program. -/
import Derived.WalkKit
import Derived.Lib.Hide
import Derived.ShutString
import Derived.Deep.Draws
namespace Go.Own
open Go Go.RowKit

/-- the world has only grown: nothing that was there is another one -/
def Up (w w' : World) : Prop := Below w.heap.size w w'
theorem Up.refl (w : World) : Up w w := Below.refl _ _
theorem Up.of {w w' : World} (h : Below w.heap.size w w') : Up w w' := h
theorem Up.out {w w' : World} (h : Up w w') : Below w.heap.size w w' := h
theorem Up.size {w w' : World} (h : Up w w') : w.heap.size ≤ w'.heap.size := Below.size h
theorem Up.trans {a b c : World} (h : Up a b) (k : Up b c) : Up a c := Below.trans h (Below.mono k h.size)
theorem Up.alloc {a w : World} (h : Up a w) (o : Obj) : Up a (w.alloc o) := Below.alloc h h.size o
theorem Up.drew {a w : World} (h : Up a w) : Up a w.drew := Below.drew h
theorem Up.drewN {a w : World} (h : Up a w) (n : Nat) : Up a (w.drewN n) := ⟨h.out.os, h.out.tape, h.out.output, h.out.size, h.out.block⟩
theorem Up.setCell {a w : World} (h : Up a w) {p : Addr} (hp : a.heap.size ≤ p.block) (u : Value) : Up a (w.setCell p u) := Below.setCell h hp u
theorem Up.cell {w w' : World} (h : Up w w') {b o : Nat} (hp : b < w.heap.size) : w'.cell? ⟨b, o, none⟩ = w.cell? ⟨b, o, none⟩ := Below.cell (p := ⟨b, o, none⟩) h hp
theorem Up.frozen {w w' : World} (h : Up w w') {b o : Nat} (hp : b < w.heap.size) : w'.frozen? ⟨b, o, none⟩ = w.frozen? ⟨b, o, none⟩ := Below.frozen (p := ⟨b, o, none⟩) h hp
theorem Up.block {a w : World} (h : Up a w) {n : Nat} (hn : w.heap.size = n) : a.heap.size ≤ n := hn ▸ h.size
theorem Up.block' {a w : World} {n : Nat} (h : Up a w) (hn : w.heap.size ≤ n) : a.heap.size ≤ n := Nat.le_trans h.size hn
theorem Up.cells {W w1 : World} (h : Up W w1) : (∀ b o, b < W.heap.size → w1.cell? ⟨b, o, none⟩ = W.cell? ⟨b, o, none⟩) ∧ (∀ b o, b < W.heap.size → w1.frozen? ⟨b, o, none⟩ = W.frozen? ⟨b, o, none⟩) :=
  ⟨fun _ _ hb => h.cell hb, fun _ _ hb => h.frozen hb⟩
theorem Up.same {w w' : World} (h : w = w') : Up w w' := h ▸ Up.refl w
theorem Up.keeps {w w' : World} (h : Up w w') {b o : Nat} {v : Value} (hp : w.cell? ⟨b, o, none⟩ = some v) (hb : b < w.heap.size) : w'.cell? ⟨b, o, none⟩ = some v := by rw [h.cell hb, hp]

theorem ret_int {k : IntKind} {a b : Int} (h : a = b) : Ending.returned (.int k a) = .returned (.int k b) := by rw [h]
theorem ret_bool {a b : Bool} (h : a = b) : Ending.returned (.bool a) = .returned (.bool b) := by rw [h]
theorem size_mk (l : List UInt8) : (ByteArray.mk l.toArray).size = l.length := by simp [ByteArray.size]
theorem uint_mod (a : Int) (m : Nat) (h : 0 < m) (hm : m ≤ 4611686018427387904) : ∃ K : Nat, K < m ∧ wrap64 ((IntKind.u64.wrap a).tmod m) = K := by
  have h0 : 0 ≤ IntKind.u64.wrap a := by simp [IntKind.wrap, IntKind.bits, IntKind.signed]; omega
  obtain ⟨b, hb⟩ := Int.eq_ofNat_of_zero_le h0
  refine ⟨b % m, Nat.mod_lt _ h, ?_⟩
  rw [hb]
  have e : ((b : Int)).tmod m = ((b % m : Nat) : Int) := rfl
  have hl := Nat.mod_lt b h
  rw [e]
  exact IntWalk.wrap64_in _ ⟨by omega, by omega⟩
theorem reach_maxLen {n : Nat} (h : n ≤ 140737488351232) : n ≤ maxLen := by unfold maxLen; omega
theorem u8_of_wf {a : Int} (h : (Lit.int .u8 a).wf = true) : 0 ≤ a ∧ a < 256 := by
  have : 0 ≤ a ∧ a ≤ 255 := by simpa [Lit.wf, IntKind.min, IntKind.max, IntKind.signed, IntKind.bits] using h
  omega
theorem u32_of_wf {a : Int} (h : (Lit.int .u32 a).wf = true) : 0 ≤ a ∧ a < 4294967296 := by
  have : 0 ≤ a ∧ a ≤ 4294967295 := by simpa [Lit.wf, IntKind.min, IntKind.max, IntKind.signed, IntKind.bits] using h
  omega
theorem i64_of_wf {a : Int} (h : (Lit.int .i64 a).wf = true) : -9223372036854775808 ≤ a ∧ a ≤ 9223372036854775807 := by
  simpa [Lit.wf, IntKind.min, IntKind.max, IntKind.signed, IntKind.bits] using h
end Go.Own
