/- The walk of ValueTwo. -/
import Derived.Test.YtpekccomahikbaaVaTwoAny
import Derived.Test.YtpekccomahikbaaVaRTwoAny
namespace Go.Proofs.Ytpekccomahikbaa
open Go.RowKit Go.Own

theorem i64_fit {a : Int} (h : (Lit.int .i64 a).wf = true) : Va.Fit a := i64_of_wf h

set_option maxRecDepth 100000 in
set_option maxHeartbeats 1600000 in
theorem valueTwo_walk (op k1 n1 : Int) (t1 : ByteArray) (k2 n2 : Int) (t2 : ByteArray) (w : World) (_wo : (Lit.int .u8 op).wf = true)
    (_wk1 : (Lit.int .u8 k1).wf = true) (wn1 : (Lit.int .i64 n1).wf = true) (wt1 : t1.size ≤ maxLen) (_wk2 : (Lit.int .u8 k2).wf = true) (wn2 : (Lit.int .i64 n2).wf = true) (wt2 : t2.size ≤ maxLen) :
    Calls Try.prog 3 #[.int .u8 op, .agg #[.int .u8 k1, .int .i64 n1, .string t1], .agg #[.int .u8 k2, .int .i64 n2, .string t2]] w fun e w' => e = .returned (.bool true) ∧ Up w w' := by
  have hA := Lib.hid (fun w => two_any op k1 n1 k2 n2 t1 t2 w (i64_fit wn1) (i64_fit wn2) wt1 wt2)
  have hB := Lib.hid (fun w => rtwo_any op k1 n1 k2 n2 t1 t2 w (i64_fit wn1) (i64_fit wn2) wt1 wt2)
  generalize Va.two op ⟨k1, n1, t1⟩ ⟨k2, n2, t2⟩ = r at hA hB
  obtain ⟨⟨rk, rn, rt⟩, re⟩ := r
  have m1 : t1.size ≤ 9223372036854775807 := wt1
  have m2 : t2.size ≤ 9223372036854775807 := wt2
  clear wn1 wt1 wn2 wt2
  by_cases h1 : (2000 : Int) < t1.size
  · go_enter Try.func3, Try.ntmps3
    go_wp2_with fail
    go_ret
    exact ⟨rfl, by (repeat (first | exact Up.refl _ | assumption | refine Up.drew ?_ | refine Up.drewN ?_ _ | refine Up.alloc ?_ _ | refine Up.setCell ?_ (by simp <;> omega) _ | refine Up.trans ?_ (by assumption)))⟩
  by_cases h2 : (2000 : Int) < t2.size
  · go_enter Try.func3, Try.ntmps3
    go_wp2_with fail
    go_ret
    exact ⟨rfl, by (repeat (first | exact Up.refl _ | assumption | refine Up.drew ?_ | refine Up.drewN ?_ _ | refine Up.alloc ?_ _ | refine Up.setCell ?_ (by simp <;> omega) _ | refine Up.trans ?_ (by assumption)))⟩
  · go_enter Try.func3, Try.ntmps3
    go_wp2_with fail
    refine (hA.out _).mono ?_; rintro e w1 ⟨rfl, u1⟩
    have hc1 := u1.cells
    have hz1 := u1.size
    simp at hz1
    have hl0 : w.heap.size < w1.heap.size := by omega
    have hl1 : w.heap.size + 1 < w1.heap.size := by omega
    go_wp2_with fail
    refine (hB.out _).mono ?_; rintro e w2 ⟨rfl, u2⟩
    have hc2 := u2.cells
    have hz2 := u2.size
    simp at hz2
    have hl2 : w1.heap.size < w2.heap.size := by omega
    go_wp2_with fail
    go_ret
    exact ⟨rfl, by (repeat (first | exact Up.refl _ | assumption | refine Up.drew ?_ | refine Up.drewN ?_ _ | refine Up.alloc ?_ _ | refine Up.setCell ?_ (by simp <;> omega) _ | refine Up.trans ?_ (by assumption)))⟩
end Go.Proofs.Ytpekccomahikbaa
