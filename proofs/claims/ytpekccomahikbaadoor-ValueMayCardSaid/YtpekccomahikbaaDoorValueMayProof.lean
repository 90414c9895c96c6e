/- The statement ValueMay of callboardlaw09: for every input the law returns true, and each argument reads afterwards as it read before. No condition. -/
import Derived.Test.YtpekccomahikbaaDoorRows
import Derived.WalkKit
import Derived.ProofKit
import Derived.OpenShut
import Derived.ShutString
import Derived.ChangeOld
import Derived.Below
import Derived.SizedLaws
import Derived.Lib.SmallJoins
import Derived.Test.YtpekccomahikbaaDoorCards
import Derived.Test.YtpekccomahikbaaDoorTie
import Derived.Deep.DeepHandedRow
import Derived.LaidMore
import Derived.Test.YtpekccomahikbaaDoorValueMayJoin
namespace Go.Proofs.YtpekccomahikbaaDoor.valueMay
open Go.ChangeShapes Go.WideShapes Go.ChangeAt Go.RowKit Go.Own
open Go.ChangeMaps (open_string shut_string)
set_option linter.unusedVariables false
theorem own : ownKnob Tryd.prog.godebug = none := by kernel_rfl
theorem cellsV : Tryd.prog.cellsOf 23 = 3 := by kernel_rfl
theorem laidOut : laidOutB Tryd.prog = true := by kernel_rfl
noncomputable abbrev start (os : Os) : World := World.doorLaid Tryd.prog 4000 os
theorem laid_met (os : Os) : laidMetH Tryd.prog Rows.valueMayRow.laid ((start os).forCall (fun _ _ => 0) ⟨#[], #[.int .u8 0, .agg #[.int .u8 0, .int .i64 0, .string ByteArray.empty], .agg #[.int .u8 0, .int .i64 0, .string ByteArray.empty]], []⟩).memory := laidMet_of_run' 8 (by kernel_rfl) (by kernel_rfl)
theorem reads (os : Os) {H : Type} (enc : TypeId × Value → H) : ∃ places, DataW.whole enc Tryd.prog ((start os).forCall (fun _ _ => 0) ⟨#[], #[.int .u8 0, .agg #[.int .u8 0, .int .i64 0, .string ByteArray.empty], .agg #[.int .u8 0, .int .i64 0, .string ByteArray.empty]], []⟩).memory Tryd.f5.params.toList Rows.valueMaySpec.vars false (#[.int .u8 0, .agg #[.int .u8 0, .int .i64 0, .string ByteArray.empty], .agg #[.int .u8 0, .int .i64 0, .string ByteArray.empty]] : Array Value).toList 8 = some ([.lit (.int .u8 0), .agg [.lit (.int .u8 0), .lit (.int .i64 0), .lit (.string [])], .agg [.lit (.int .u8 0), .lit (.int .i64 0), .lit (.string [])]], [], places) := ⟨[], by kernel_rfl⟩
set_option maxRecDepth 100000 in
theorem lifted (os : Os) (started : os.Started) (H : Type) (enc : TypeId × Value → H) (F : Stop.Interp) :
    ReturnsInHanded {} Tryd.checked os 5 .any ((OpenSpec.ofChange Rows.valueMaySpec).preRow enc Tryd.prog Tryd.f5 Rows.valueMayRow.domain false Rows.valueMayRow.laid) (((OpenSpec.ofChange Rows.valueMaySpec).at F).post enc Tryd.prog Tryd.f5 false true false false) := by
  obtain ⟨places, hx⟩ := reads os enc
  refine returnsInHanded_of_row (C := Tryd.checked) (s := OpenSpec.ofChange Rows.valueMaySpec) own started (by kernel_rfl) Tryd.func5
    (witness_row_at (enc := enc) (C := Tryd.checked) false (start os) #[.int .u8 0, .agg #[.int .u8 0, .int .i64 0, .string ByteArray.empty], .agg #[.int .u8 0, .int .i64 0, .string ByteArray.empty]] rfl (by kernel_rfl) (by kernel_rfl) (by kernel_rfl)
      (OpenSpec.preRow_of_cond 8 hx (by kernel_rfl) (fun k hk => by cases hk) (by kernel_rfl) (laid_met os))) ?_
  intro W base args ds gs before hval0 hW hcnd _ hsz0 hL _ _
  have hval : ∀ (j : Nat) t v, Tryd.f5.params[j]? = some t → args[j]? = some v → Value.okWide Tryd.prog W .any base t v := hval0
  have hW' := hW
  obtain ⟨p, q, hA0, hV, rfl, hfz, hnd⟩ := hW
  have hA : DataW.TrodAll enc Tryd.prog W 0 (fun _ => true) true Tryd.f5.params.toList args.toList ds p := hA0
  have hsz : (DataW.weightsEach Tryd.prog (Tryd.f5.params.toList ++ Rows.valueMaySpec.plain.varTypes Tryd.prog) (ds ++ gs)).all (· ≤ reachBytes) = true := hsz0
  rw [Tryd.params5] at hA hval hsz
  obtain ⟨v0, vs0, d0, ds0, p0, q0, hargs, rfl, rfl, h0, r0⟩ := trodAll_cons hA
  obtain ⟨v1, vs1, d1, ds1, p1, q1, rfl, rfl, rfl, h1, r1⟩ := trodAll_cons r0
  obtain ⟨v2, vs2, d2, ds2, p2, q2, rfl, rfl, rfl, h2, r2⟩ := trodAll_cons r1
  obtain ⟨rfl, rfl, rfl⟩ := trodAll_nil r2
  obtain rfl : args = #[v0, v1, v2] := by cases args; simp_all
  obtain ⟨rfl, rfl⟩ := trodVars_none hV
  obtain ⟨a0, rfl, rfl, rfl, w0⟩ := open_int Tryd.underlying5 (hval 0 5 v0 rfl rfl) h0
  have q1' := h1
  have lt1 : ∀ x ∈ p1, x.block < W.heap.size := by obtain ⟨m, hm⟩ := q1'; exact DataW.trod_lt m _ _ _ hm
  obtain ⟨c0, c1, c2, y0, y1, y2, m, rfl, _, _, hy0, hy1, hy2⟩ := Joins.open_agg3 Tryd.underlying23 (by kernel_rfl) cellsV (hval 1 23 v1 rfl rfl) h1
  obtain ⟨k1, e0, _, wk1⟩ := DataW.trod_int Tryd.underlying5 hy0
  obtain ⟨n1, e1, _, wn1⟩ := DataW.trod_int Tryd.underlying2 hy1
  obtain ⟨t1, e2, _, wt1⟩ := DataW.trod_string Tryd.underlying9 hy2
  obtain rfl : c0 = .int .u8 k1 := by simpa using e0
  obtain rfl : c1 = .int .i64 n1 := by simpa using e1
  obtain rfl : c2 = .string t1 := by simpa using e2
  clear e0 e1 e2 hy0 hy1 hy2
  have q2' := h2
  have lt2 : ∀ x ∈ p2, x.block < W.heap.size := by obtain ⟨m, hm⟩ := q2'; exact DataW.trod_lt m _ _ _ hm
  obtain ⟨c0, c1, c2, y0, y1, y2, m, rfl, _, _, hy0, hy1, hy2⟩ := Joins.open_agg3 Tryd.underlying23 (by kernel_rfl) cellsV (hval 2 23 v2 rfl rfl) h2
  obtain ⟨k2, e0, _, wk2⟩ := DataW.trod_int Tryd.underlying5 hy0
  obtain ⟨n2, e1, _, wn2⟩ := DataW.trod_int Tryd.underlying2 hy1
  obtain ⟨t2, e2, _, wt2⟩ := DataW.trod_string Tryd.underlying9 hy2
  obtain rfl : c0 = .int .u8 k2 := by simpa using e0
  obtain rfl : c1 = .int .i64 n2 := by simpa using e1
  obtain rfl : c2 = .string t2 := by simpa using e2
  clear e0 e1 e2 hy0 hy1 hy2
  clear hA0 hval0 hsz0
  refine (valueMay_walk a0 k1 n1 t1 k2 n2 t2 W w0 wk1 wn1 wt1 wk2 wn2 wt2 hL).mono fun e W' ⟨he, bel⟩ => ?_
  subst he
  exact ⟨_, rfl, _, _, _, [], _, [], hW', trodAll_mk1 (shut_bool Tryd.underlying4 _), (trodAll_cons_mk (shut_int Tryd.underlying5 w0) (trodAll_cons_mk (Below.trod laidOut (by kernel_rfl) (of_decide_eq_true (by kernel_rfl)) q1' bel lt1) (trodAll_cons_mk (Below.trod laidOut (by kernel_rfl) (of_decide_eq_true (by kernel_rfl)) q2' bel lt2) trodAll_mk0))), rfl, bel.out.frame _, fun h => by cases h⟩
theorem said : Rows.ValueMaySaid :=
  OpenClaim.holds_of_cond 5 Tryd.f5 rfl rfl rfl rfl rfl rfl rfl ⟨rfl, rfl, rfl, rfl, rfl⟩ rfl rfl rfl rfl rfl (by kernel_rfl) Tryd.func5 (by kernel_rfl)
    (of_decide_eq_true (by kernel_rfl)) (by unfold Func.isWrapper; first | (rw [if_pos (by decide +kernel)]; kernel_rfl) | (rw [if_neg (by decide +kernel)]; exact ⟨rfl, rfl⟩))
    (fun os started H enc _ F => by rw [OpenClaim.pre_eq_preRow]; exact lifted os started H enc F)
theorem plain (f : FuncId) (fn : Func) (hf : Tryd.pinned.checked.prog.funcNamed "callboard/callboardlaw09.ValueMay" = some f) (hfn : Tryd.pinned.checked.prog.funcs[f]? = some fn) :
    false = Tryd.pinned.checked.prog.looks [] ∧ ∀ (j : Nat) t, fn.params[j]? = some t → Tryd.pinned.checked.prog.wantsStandIn t = false := by
  obtain rfl : f = 5 := Option.some.inj ((show Tryd.prog.funcNamed "callboard/callboardlaw09.ValueMay" = some 5 by kernel_rfl).symm.trans hf) |>.symm
  obtain rfl : fn = Tryd.f5 := (Option.some.inj (Tryd.func5.symm.trans hfn)).symm
  refine ⟨by kernel_rfl, fun j t ht => ?_⟩
  rw [Tryd.params5] at ht
  have hm : t ∈ ([5, 23, 23] : List TypeId) := by simpa using Array.mem_of_getElem? ht
  have hall : (([5, 23, 23] : List TypeId).all fun u => !Tryd.prog.wantsStandIn u) = true := by kernel_rfl
  exact (show Tryd.prog.wantsStandIn t = false by simpa using List.all_eq_true.1 hall t hm)
theorem proved : Rows.ValueMayCardSaid :=
  Claim7.holds_tied_plain_at .later [] _ _ _ _ said (fun _ h => by cases h) (by kernel_rfl) (fun _ h => by cases h) valueMay_row_tie rfl ⟨rfl, rfl⟩ (by kernel_rfl) rfl plain (by kernel_rfl)
#print axioms proved
end Go.Proofs.YtpekccomahikbaaDoor.valueMay
