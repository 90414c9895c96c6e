/- Small steps of the walks. -/
import Derived.Test.YtamnfdmmjjekhaaSfE
namespace Go.Proofs.Ytamnfdmmjjekhaa
open Go Go.RowKit Go.SF
set_option linter.unusedSimpArgs false
set_option linter.unusedVariables false
abbrev Bs := List UInt8
theorem size_len (t : ByteArray) : t.data.toList.length = t.size := by rw [Array.length_toList]; rfl
theorem w64i {x : Int} (h0 : -9223372036854775808 ≤ x) (h1 : x ≤ 9223372036854775807) : IntKind.i64.wrap x = x := wrap_in .i64 x (by simpa [IntKind.min, IntKind.bits, IntKind.signed] using h0) (by simpa [IntKind.max, IntKind.bits, IntKind.signed] using h1)
theorem ba_ext {s t : ByteArray} (h : s.data.toList = t.data.toList) : s = t := by
  obtain ⟨⟨l⟩⟩ := s; obtain ⟨⟨m⟩⟩ := t
  simp at h; subst h; rfl
theorem ba_list (l : Bs) : (⟨l.toArray⟩ : ByteArray).data.toList = l := by simp
theorem ba_app (a b : Bs) : (⟨a.toArray⟩ : ByteArray) ++ ⟨b.toArray⟩ = ⟨(a ++ b).toArray⟩ := ba_ext (by simp)
theorem ba_size (a : Bs) : (⟨a.toArray⟩ : ByteArray).size = a.length := by rw [← size_len]
theorem ltB_t {a b : Int} (h : a < b) : ltB a b = true := by simpa [ltB] using h
theorem leB_t {a b : Int} (h : a ≤ b) : leB a b = true := by simpa [leB] using h
theorem ltB_f {a b : Int} (h : b ≤ a) : ltB a b = false := by rw [ltB_false]; exact h
theorem chk_le {a b : E} {ρ : Env} (h : a.i ρ ≤ b.i ρ) : (E.bin .le a b).b ρ = true := leB_t h
theorem chk_lt {a b : E} {ρ : Env} (h : a.i ρ < b.i ρ) : (E.bin .lt a b).b ρ = true := ltB_t h
theorem ext_trans {W W' W'' : Wd} (x : Ext W W') (y : Ext W' W'') : Ext W W'' :=
  ⟨Nat.le_trans x.size y.size, fun b hb => y.sub b (x.sub b hb), fun b hb => (y.keep b (x.sub b hb)).trans (x.keep b hb), y.os.trans x.os, y.tape.trans x.tape, y.output.trans x.output⟩
theorem blk_ext {W W' : Wd} (x : Ext W W') {b : Nat} (hI : W.I b) : W'.w.heap[b]? = W.w.heap[b]? := x.keep b hI
/-- what a load of an element of a row yields -/
theorem row_cell {w : World} {n0 : Nat} {e : TypeId} {sz : Nat} {a : Option Addr} {n c k : Nat} {xs : List Value} (h : w.ownsRow n0 e sz (.slice a n c) k xs) {j : Nat} {u : Value} (hu : xs[j]? = some u) : w.cell? ((a.getD default).add j) = some u := by
  obtain ⟨_, _, ⟨_, z1, z2⟩ | ⟨b, o, rfl, _, _, hc⟩⟩ := owns_sl h
  · have := h.1
    rcases h.2 with ⟨_, rfl⟩ | ⟨g, cap, cur, hv, _, hg, r1, r2, r3, r4⟩
    · simp at this; subst this; simp at hu
    · injection hv with e1 e2 e3
      subst e2
      have : xs.length = 0 := by rw [this, z1]; simp
      rw [List.eq_nil_of_length_eq_zero this] at hu
      simp at hu
  · simp only [Option.getD_some]
    rw [add_none]; exact hc j u hu
theorem row_look {α : Type} {f : α → List Value} {sz : Nat} (hf : ∀ x, (f x).length = sz) {l : List α} {n0 : Nat} {ρ : Env} {r : RowS} {w : World} (h : r.at n0 ρ w) {a : Option Addr} {n c : Nat} (hv : r.v.den ρ = .slice a n c) (hx : conts ρ r.xs = l.flatMap f)
    {P : Program} {t : TypeId} (hA : aggT P t = some true) (hS : sizeT P t = some sz) {i : Nat} {x : α} (hi : l[i]? = some x) :
    (Instr.loadAt t (.pointer (some ((a.getD default).add (i * sz + 0))))).run P w = .ok (.agg (f x).toArray) w := by
  have h1 := h.1
  rw [hv, hx] at h1
  have hl := h1.1
  rw [flat_len hf] at hl
  have hil := (List.getElem?_eq_some_iff.1 hi).1
  rcases h1.2 with ⟨_, z⟩ | ⟨g, cap, cur, hv2, _, hg, r1, r2, r3, r4⟩
  · rw [z, Nat.zero_mul] at hl
    rcases Nat.eq_zero_or_pos sz with hz | hz
    · subst hz
      have e : f x = [] := List.eq_nil_of_length_eq_zero (hf x)
      rw [e]
      exact look_agg hA hS (vs := []) rfl fun j u hu => by simp at hu
    · have := Nat.mul_le_mul_right sz (show 1 ≤ l.length by omega); omega
  · injection hv2 with e1 e2 e3
    subst e1
    refine look_agg hA hS (hf x) fun j u hu => ?_
    have hj : j < sz := by rw [← hf x]; exact (List.getElem?_eq_some_iff.1 hu).1
    have := row_cell h1 (j := i * sz + j) (u := u) (by rw [flat_get hf j hi hj]; exact hu)
    simp only [Option.getD_some, Nat.add_zero] at this ⊢
    rw [add_none] at this ⊢
    rw [add_none, show 0 + i * sz + j = 0 + (i * sz + j) from by omega]
    exact this
/-- a row whose element is another one -/
theorem setL_flat {α : Type} {f : α → List Value} {sz : Nat} (hf : ∀ x, (f x).length = sz) : ∀ {l : List α} {i : Nat} (y : α), i < l.length → setL (l.flatMap f) (i * sz + 0) (f y) = (l.set i y).flatMap f
  | [], i, y, h => by simp at h
  | x :: l, 0, y, h => by
    simp only [setL, List.flatMap_cons, Nat.zero_mul, Nat.zero_add, List.take_zero, List.nil_append, List.set_cons_zero]
    rw [List.drop_append, hf y, List.drop_of_length_le (by rw [hf]; omega), hf x]; simp
  | x :: l, i + 1, y, h => by
    have ih := setL_flat hf (l := l) (i := i) y (by simpa using h)
    simp only [List.set_cons_succ, List.flatMap_cons]
    rw [← ih]
    simp only [setL, Nat.add_zero]
    have e : (i + 1) * sz = (f x).length + i * sz := by rw [hf, Nat.add_mul, Nat.one_mul]; omega
    rw [e, Nat.add_assoc, List.take_length_add_append, List.drop_length_add_append]
    simp
end Go.Proofs.Ytamnfdmmjjekhaa
