/- The walk of ValueOrder (written by wip/gen_order.py). -/
import Derived.Test.YtpekccomahikbaaVaBox
import Derived.Test.YtpekccomahikbaaVaOrdPlain
import Derived.Deep.DeepCutAuto
import Derived.Deep.QuietTactic
namespace Go.Proofs.Ytpekccomahikbaa
open Go.RowKit Go.Own Go.Sort

set_option maxRecDepth 100000 in
set_option maxHeartbeats 6400000 in
theorem order_unlike (ak an bk bn ck cn : Int) (at_ bt ct : ByteArray) (w : World) (ha : at_.size ≤ 2000) (hb : bt.size ≤ 2000) (hc : ct.size ≤ 2000) (zk zn : Int) (zt : ByteArray) (ze : Int) (hx : ∀ w, Calls Try.prog 8 #[.int .u8 9, .agg #[.int .u8 ak, .int .i64 an, .string at_], .agg #[.int .u8 bk, .int .i64 bn, .string bt]] w fun e w' => e = .returned (.tuple #[.agg #[.int .u8 0, .int .i64 0, .string ⟨#[]⟩], .int .i64 23]) ∧ Up w w') (hy : ∀ w, Calls Try.prog 8 #[.int .u8 9, .agg #[.int .u8 bk, .int .i64 bn, .string bt], .agg #[.int .u8 ak, .int .i64 an, .string at_]] w fun e w' => e = .returned (.tuple #[.agg #[.int .u8 0, .int .i64 0, .string ⟨#[]⟩], .int .i64 23]) ∧ Up w w') (hz : ∀ w, Calls Try.prog 8 #[.int .u8 11, .agg #[.int .u8 ak, .int .i64 an, .string at_], .agg #[.int .u8 bk, .int .i64 bn, .string bt]] w fun e w' => e = .returned (.tuple #[.agg #[.int .u8 zk, .int .i64 zn, .string zt], .int .i64 ze]) ∧ Up w w') :
    Calls Try.prog 5 #[.agg #[.int .u8 ak, .int .i64 an, .string at_], .agg #[.int .u8 bk, .int .i64 bn, .string bt], .agg #[.int .u8 ck, .int .i64 cn, .string ct]] w fun e w' => e = .returned (.bool true) ∧ Up w w' := by
  have HX := Lib.hid hx
  clear hx
  have HY := Lib.hid hy
  clear hy
  have HZ := Lib.hid hz
  clear hz
  go_enter Try.func5, Try.ntmps5
  go_upto_region 1 with fail
  go_cut [43] (fun s1 wx => s1 = .bool false ∧ Boxes [(w.heap.size, .int .u8 ak, .int .i64 an, .string at_), (w.heap.size + 1, .int .u8 bk, .int .i64 bn, .string bt), (w.heap.size + 1 + 1, .int .u8 ck, .int .i64 cn, .string ct)] wx ∧ Up w wx)
  case first =>
    go_wp2_with fail
    refine (works_any _).mono ?_; rintro e w1 ⟨rfl, u1⟩
    have hc1 := u1.cells
    go_wp2_with fail
    go_meet
    refine ⟨congrArg Value.bool (by simp only [Bool.or_eq_false_iff, decide_eq_false_iff_not]; omega), Boxes.cons ?_ (Boxes.cons ?_ (Boxes.cons ?_ (Boxes.nil _))), by (repeat (first | exact Up.refl _ | assumption | refine Up.drew ?_ | refine Up.drewN ?_ _ | refine Up.alloc ?_ _ | refine Up.setCell ?_ (by simp <;> omega) _ | refine Up.trans ?_ (by assumption)))⟩
    · exact (Box3.new (.int .u8 ak) (.int .i64 an) (.string at_) w 23).up (by (repeat (first | exact Up.refl _ | assumption | refine Up.drew ?_ | refine Up.drewN ?_ _ | refine Up.alloc ?_ _ | refine Up.setCell ?_ (by simp <;> omega) _ | refine Up.trans ?_ (by assumption))))
    · have := (Box3.new (.int .u8 bk) (.int .i64 bn) (.string bt) (w.alloc (.cells #[.int .u8 ak, .int .i64 an, .string at_] 23)) 23).up (w' := w1) (by (repeat (first | exact Up.refl _ | assumption | refine Up.drew ?_ | refine Up.drewN ?_ _ | refine Up.alloc ?_ _ | refine Up.setCell ?_ (by simp <;> omega) _ | refine Up.trans ?_ (by assumption))))
      simpa using this
    · have := (Box3.new (.int .u8 ck) (.int .i64 cn) (.string ct) ((w.alloc (.cells #[.int .u8 ak, .int .i64 an, .string at_] 23)).alloc (.cells #[.int .u8 bk, .int .i64 bn, .string bt] 23)) 23).up (w' := w1) (by (repeat (first | exact Up.refl _ | assumption | refine Up.drew ?_ | refine Up.drewN ?_ _ | refine Up.alloc ?_ _ | refine Up.setCell ?_ (by simp <;> omega) _ | refine Up.trans ?_ (by assumption))))
      simpa using this
  case rest =>
    obtain ⟨rfl, bs, u⟩ := hcut
    go_upto_region 3 with fail
    go_cut [7, 8] (fun s1 s2 wx => ∃ B, s1 = .pointer (some ⟨B, 0, none⟩) ∧ s2 = .int .i64 23 ∧ Boxes ((B, .int .u8 0, .int .i64 0, .string ⟨#[]⟩) :: [(w.heap.size, .int .u8 ak, .int .i64 an, .string at_), (w.heap.size + 1, .int .u8 bk, .int .i64 bn, .string bt), (w.heap.size + 1 + 1, .int .u8 ck, .int .i64 cn, .string ct)]) wx ∧ Up w wx)
    case first =>
      obtain ⟨l0, p0, q0, r0⟩ := bs.get 0 rfl
      obtain ⟨l1, p1, q1, r1⟩ := bs.get 1 rfl
      go_wp2_with fail
      refine (HX.out _).mono ?_; rintro e w1 ⟨rfl, u1⟩
      go_wp2_with fail
      go_meet
      exact ⟨_, rfl, rfl, Boxes.cons (Box3.new _ _ _ _ _) (bs.up (by (repeat (first | exact Up.refl _ | assumption | refine Up.drew ?_ | refine Up.drewN ?_ _ | refine Up.alloc ?_ _ | refine Up.setCell ?_ (by simp <;> omega) _ | refine Up.trans ?_ (by assumption))))), by (repeat (first | exact Up.refl _ | assumption | refine Up.drew ?_ | refine Up.drewN ?_ _ | refine Up.alloc ?_ _ | refine Up.setCell ?_ (by simp <;> omega) _ | refine Up.trans ?_ (by assumption)))⟩
    case rest =>
      obtain ⟨B7, rfl, rfl, bs, u⟩ := hcut
      go_upto_region 4 with fail
      go_cut [9, 10] (fun s1 s2 wx => ∃ B, s1 = .pointer (some ⟨B, 0, none⟩) ∧ s2 = .int .i64 23 ∧ Boxes ((B, .int .u8 0, .int .i64 0, .string ⟨#[]⟩) :: [(B7, .int .u8 0, .int .i64 0, .string ⟨#[]⟩), (w.heap.size, .int .u8 ak, .int .i64 an, .string at_), (w.heap.size + 1, .int .u8 bk, .int .i64 bn, .string bt), (w.heap.size + 1 + 1, .int .u8 ck, .int .i64 cn, .string ct)]) wx ∧ Up w wx)
      case first =>
        obtain ⟨l1, p1, q1, r1⟩ := bs.get 1 rfl
        obtain ⟨l2, p2, q2, r2⟩ := bs.get 2 rfl
        go_wp2_with fail
        refine (HY.out _).mono ?_; rintro e w1 ⟨rfl, u1⟩
        go_wp2_with fail
        go_meet
        exact ⟨_, rfl, rfl, Boxes.cons (Box3.new _ _ _ _ _) (bs.up (by (repeat (first | exact Up.refl _ | assumption | refine Up.drew ?_ | refine Up.drewN ?_ _ | refine Up.alloc ?_ _ | refine Up.setCell ?_ (by simp <;> omega) _ | refine Up.trans ?_ (by assumption))))), by (repeat (first | exact Up.refl _ | assumption | refine Up.drew ?_ | refine Up.drewN ?_ _ | refine Up.alloc ?_ _ | refine Up.setCell ?_ (by simp <;> omega) _ | refine Up.trans ?_ (by assumption)))⟩
      case rest =>
        obtain ⟨B9, rfl, rfl, bs, u⟩ := hcut
        go_upto_region 5 with fail
        go_cut [11, 12] (fun s1 s2 wx => ∃ B, s1 = .pointer (some ⟨B, 0, none⟩) ∧ s2 = .int .i64 ze ∧ Boxes ((B, .int .u8 zk, .int .i64 zn, .string zt) :: [(B9, .int .u8 0, .int .i64 0, .string ⟨#[]⟩), (B7, .int .u8 0, .int .i64 0, .string ⟨#[]⟩), (w.heap.size, .int .u8 ak, .int .i64 an, .string at_), (w.heap.size + 1, .int .u8 bk, .int .i64 bn, .string bt), (w.heap.size + 1 + 1, .int .u8 ck, .int .i64 cn, .string ct)]) wx ∧ Up w wx)
        case first =>
          obtain ⟨l2, p2, q2, r2⟩ := bs.get 2 rfl
          obtain ⟨l3, p3, q3, r3⟩ := bs.get 3 rfl
          go_wp2_with fail
          refine (HZ.out _).mono ?_; rintro e w1 ⟨rfl, u1⟩
          go_wp2_with fail
          go_meet
          exact ⟨_, rfl, rfl, Boxes.cons (Box3.new _ _ _ _ _) (bs.up (by (repeat (first | exact Up.refl _ | assumption | refine Up.drew ?_ | refine Up.drewN ?_ _ | refine Up.alloc ?_ _ | refine Up.setCell ?_ (by simp <;> omega) _ | refine Up.trans ?_ (by assumption))))), by (repeat (first | exact Up.refl _ | assumption | refine Up.drew ?_ | refine Up.drewN ?_ _ | refine Up.alloc ?_ _ | refine Up.setCell ?_ (by simp <;> omega) _ | refine Up.trans ?_ (by assumption)))⟩
        case rest =>
          obtain ⟨B11, rfl, rfl, bs, u⟩ := hcut
          go_wp2_with fail
          go_ret
          exact ⟨rfl, u⟩

end Go.Proofs.Ytpekccomahikbaa
