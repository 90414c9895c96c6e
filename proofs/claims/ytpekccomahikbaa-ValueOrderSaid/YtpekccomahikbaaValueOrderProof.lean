/- The statement ValueOrder of callboardlaw09: for every input the law returns true, and each argument reads afterwards as it read before. No condition. -/
import Derived.Test.YtpekccomahikbaaRows
import Derived.WalkKit
import Derived.ProofKit
import Derived.OpenShut
import Derived.ShutString
import Derived.ChangeOld
import Derived.Below
import Derived.SizedLaws
import Derived.Lib.SmallJoins
import Derived.Test.YtpekccomahikbaaValueOrder
namespace Go.Proofs.Ytpekccomahikbaa.valueOrder
open Go.ChangeShapes Go.WideShapes Go.ChangeAt Go.RowKit Go.Own
open Go.ChangeMaps (open_string shut_string)
set_option linter.unusedVariables false
theorem own : ownKnob Try.prog.godebug = none := by kernel_rfl
theorem cellsV : Try.prog.cellsOf 23 = 3 := by kernel_rfl
theorem laidOut : laidOutB Try.prog = true := by kernel_rfl
set_option maxRecDepth 100000 in
theorem lifted (os : Os) (started : os.Started) (H : Type) (enc : TypeId × Value → H) :
    ReturnsInHanded {} Try.checked os 5 .any (Rows.valueOrderSpec.pre6 enc Try.prog Try.f5 Rows.valueOrderRow.domain false) (Rows.valueOrderSpec.post enc Try.prog Try.f5 false true false false) := by
  refine returnsInHanded_of_change_sized (C := Try.checked) own started (by kernel_rfl) Try.func5
    (ChangeSpec.witness6 (enc := enc) (C := Try.checked) false ⟨#[], #[.agg #[.int .u8 0, .int .i64 0, .string ByteArray.empty], .agg #[.int .u8 0, .int .i64 0, .string ByteArray.empty], .agg #[.int .u8 0, .int .i64 0, .string ByteArray.empty]], []⟩ 8 (by kernel_rfl) (by kernel_rfl) (by kernel_rfl) (by kernel_rfl)) ?_
  intro W base args ds gs before hval0 hW hcnd hsz0 _
  have hval : ∀ (j : Nat) t v, Try.f5.params[j]? = some t → args[j]? = some v → Value.okWide Try.prog W .any base t v := hval0
  have hW' := hW
  obtain ⟨p, q, hA0, hV, rfl, hfz, hnd⟩ := hW
  have hA : DataW.TrodAll enc Try.prog W 0 (fun _ => true) true Try.f5.params.toList args.toList ds p := hA0
  have hsz : (DataW.weightsEach Try.prog (Try.f5.params.toList ++ Rows.valueOrderSpec.plain.varTypes Try.prog) (ds ++ gs)).all (· ≤ reachBytes) = true := hsz0
  rw [Try.params5] at hA hval hsz
  obtain ⟨v0, vs0, d0, ds0, p0, q0, hargs, rfl, rfl, h0, r0⟩ := trodAll_cons hA
  obtain ⟨v1, vs1, d1, ds1, p1, q1, rfl, rfl, rfl, h1, r1⟩ := trodAll_cons r0
  obtain ⟨v2, vs2, d2, ds2, p2, q2, rfl, rfl, rfl, h2, r2⟩ := trodAll_cons r1
  obtain ⟨rfl, rfl, rfl⟩ := trodAll_nil r2
  obtain rfl : args = #[v0, v1, v2] := by cases args; simp_all
  obtain ⟨rfl, rfl⟩ := trodVars_none hV
  have q0' := h0
  have lt0 : ∀ x ∈ p0, x.block < W.heap.size := by obtain ⟨m, hm⟩ := q0'; exact DataW.trod_lt m _ _ _ hm
  obtain ⟨c0, c1, c2, y0, y1, y2, m, rfl, _, _, hy0, hy1, hy2⟩ := Joins.open_agg3 Try.underlying23 (by kernel_rfl) cellsV (hval 0 23 v0 rfl rfl) h0
  obtain ⟨k0, e0, _, wk0⟩ := DataW.trod_int Try.underlying5 hy0
  obtain ⟨n0, e1, _, wn0⟩ := DataW.trod_int Try.underlying2 hy1
  obtain ⟨t0, e2, _, wt0⟩ := DataW.trod_string Try.underlying9 hy2
  obtain rfl : c0 = .int .u8 k0 := by simpa using e0
  obtain rfl : c1 = .int .i64 n0 := by simpa using e1
  obtain rfl : c2 = .string t0 := by simpa using e2
  clear e0 e1 e2 hy0 hy1 hy2
  have q1' := h1
  have lt1 : ∀ x ∈ p1, x.block < W.heap.size := by obtain ⟨m, hm⟩ := q1'; exact DataW.trod_lt m _ _ _ hm
  obtain ⟨c0, c1, c2, y0, y1, y2, m, rfl, _, _, hy0, hy1, hy2⟩ := Joins.open_agg3 Try.underlying23 (by kernel_rfl) cellsV (hval 1 23 v1 rfl rfl) h1
  obtain ⟨k1, e0, _, wk1⟩ := DataW.trod_int Try.underlying5 hy0
  obtain ⟨n1, e1, _, wn1⟩ := DataW.trod_int Try.underlying2 hy1
  obtain ⟨t1, e2, _, wt1⟩ := DataW.trod_string Try.underlying9 hy2
  obtain rfl : c0 = .int .u8 k1 := by simpa using e0
  obtain rfl : c1 = .int .i64 n1 := by simpa using e1
  obtain rfl : c2 = .string t1 := by simpa using e2
  clear e0 e1 e2 hy0 hy1 hy2
  have q2' := h2
  have lt2 : ∀ x ∈ p2, x.block < W.heap.size := by obtain ⟨m, hm⟩ := q2'; exact DataW.trod_lt m _ _ _ hm
  obtain ⟨c0, c1, c2, y0, y1, y2, m, rfl, _, _, hy0, hy1, hy2⟩ := Joins.open_agg3 Try.underlying23 (by kernel_rfl) cellsV (hval 2 23 v2 rfl rfl) h2
  obtain ⟨k2, e0, _, wk2⟩ := DataW.trod_int Try.underlying5 hy0
  obtain ⟨n2, e1, _, wn2⟩ := DataW.trod_int Try.underlying2 hy1
  obtain ⟨t2, e2, _, wt2⟩ := DataW.trod_string Try.underlying9 hy2
  obtain rfl : c0 = .int .u8 k2 := by simpa using e0
  obtain rfl : c1 = .int .i64 n2 := by simpa using e1
  obtain rfl : c2 = .string t2 := by simpa using e2
  clear e0 e1 e2 hy0 hy1 hy2
  clear hA0 hval0 hsz0
  refine (valueOrder_walk k0 n0 t0 k1 n1 t1 k2 n2 t2 W wk0 wn0 wt0 wk1 wn1 wt1 wk2 wn2 wt2).mono fun e W' ⟨he, bel⟩ => ?_
  subst he
  exact ⟨_, rfl, _, _, _, [], _, [], hW', trodAll_mk1 (shut_bool Try.underlying4 _), (trodAll_cons_mk (Below.trod laidOut (by kernel_rfl) (of_decide_eq_true (by kernel_rfl)) q0' bel lt0) (trodAll_cons_mk (Below.trod laidOut (by kernel_rfl) (of_decide_eq_true (by kernel_rfl)) q1' bel lt1) (trodAll_cons_mk (Below.trod laidOut (by kernel_rfl) (of_decide_eq_true (by kernel_rfl)) q2' bel lt2) trodAll_mk0))), rfl, bel.out.frame _, fun h => by cases h⟩
theorem over : Rows.valueOrderRow.holds Try.pinned (OpenSpec.ofChange Rows.valueOrderSpec) :=
  OpenClaim.holds_of_wide 5 Try.f5 rfl rfl rfl rfl rfl rfl rfl ⟨rfl, rfl, rfl, rfl, rfl⟩ rfl rfl rfl rfl rfl (by kernel_rfl) Try.func5 (by kernel_rfl)
    (of_decide_eq_true (by kernel_rfl)) (by unfold Func.isWrapper; first | (rw [if_pos (by decide +kernel)]; kernel_rfl) | (rw [if_neg (by decide +kernel)]; exact ⟨rfl, rfl⟩))
    (fun os started H enc _ => lifted os started H enc)
theorem proved : Rows.ValueOrderSaid := over
#print axioms proved
end Go.Proofs.Ytpekccomahikbaa.valueOrder
