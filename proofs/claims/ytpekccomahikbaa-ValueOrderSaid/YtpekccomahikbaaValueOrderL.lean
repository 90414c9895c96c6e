/- The walk of ValueOrder (written by wip/gen_order.py). -/
import Derived.Test.YtpekccomahikbaaVaBox
import Derived.Test.YtpekccomahikbaaVaOrdPlain
import Derived.Deep.DeepCutAuto
import Derived.Deep.QuietTactic
namespace Go.Proofs.Ytpekccomahikbaa
open Go.RowKit Go.Own Go.Sort

set_option maxRecDepth 100000 in
set_option maxHeartbeats 6400000 in
theorem order_long (ak an bk bn ck cn : Int) (at_ bt ct : ByteArray) (w : World) (ha : at_.size ≤ maxLen) (hb : bt.size ≤ maxLen) (hc : ct.size ≤ maxLen) (h : (2000 : Int) < at_.size ∨ (2000 : Int) < bt.size ∨ (2000 : Int) < ct.size) :
    Calls Try.prog 5 #[.agg #[.int .u8 ak, .int .i64 an, .string at_], .agg #[.int .u8 bk, .int .i64 bn, .string bt], .agg #[.int .u8 ck, .int .i64 cn, .string ct]] w fun e w' => e = .returned (.bool true) ∧ Up w w' := by
  have m1 : at_.size ≤ 9223372036854775807 := ha
  have m2 : bt.size ≤ 9223372036854775807 := hb
  have m3 : ct.size ≤ 9223372036854775807 := hc
  clear ha hb hc
  by_cases h1 : (2000 : Int) < at_.size
  · clear h
    go_enter Try.func5, Try.ntmps5
    go_wp2_with fail
    refine (works_any _).mono ?_; rintro e w1 ⟨rfl, u1⟩
    have hc1 := u1.cells
    go_wp2_with fail
    refine (works_any _).mono ?_; rintro e w2 ⟨rfl, u2⟩
    go_wp2_with fail
    go_ret
    exact ⟨rfl, by (repeat (first | exact Up.refl _ | assumption | refine Up.drew ?_ | refine Up.drewN ?_ _ | refine Up.alloc ?_ _ | refine Up.setCell ?_ (by simp <;> omega) _ | refine Up.trans ?_ (by assumption)))⟩
  by_cases h2 : (2000 : Int) < bt.size
  · clear h
    go_enter Try.func5, Try.ntmps5
    go_wp2_with fail
    refine (works_any _).mono ?_; rintro e w1 ⟨rfl, u1⟩
    have hc1 := u1.cells
    go_wp2_with fail
    refine (works_any _).mono ?_; rintro e w2 ⟨rfl, u2⟩
    go_wp2_with fail
    go_ret
    exact ⟨rfl, by (repeat (first | exact Up.refl _ | assumption | refine Up.drew ?_ | refine Up.drewN ?_ _ | refine Up.alloc ?_ _ | refine Up.setCell ?_ (by simp <;> omega) _ | refine Up.trans ?_ (by assumption)))⟩
  · have h3 : (2000 : Int) < ct.size := by omega
    clear h
    go_enter Try.func5, Try.ntmps5
    go_wp2_with fail
    refine (works_any _).mono ?_; rintro e w1 ⟨rfl, u1⟩
    have hc1 := u1.cells
    go_wp2_with fail
    refine (works_any _).mono ?_; rintro e w2 ⟨rfl, u2⟩
    go_wp2_with fail
    go_ret
    exact ⟨rfl, by (repeat (first | exact Up.refl _ | assumption | refine Up.drew ?_ | refine Up.drewN ?_ _ | refine Up.alloc ?_ _ | refine Up.setCell ?_ (by simp <;> omega) _ | refine Up.trans ?_ (by assumption)))⟩

end Go.Proofs.Ytpekccomahikbaa
