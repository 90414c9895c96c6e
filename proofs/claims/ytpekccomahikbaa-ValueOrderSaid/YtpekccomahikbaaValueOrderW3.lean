/- The walk of ValueOrder (written by wip/gen_order.py). -/
import Derived.Test.YtpekccomahikbaaVaBox
import Derived.Test.YtpekccomahikbaaVaOrdPlain
import Derived.Deep.DeepCutAuto
import Derived.Deep.QuietTactic
namespace Go.Proofs.Ytpekccomahikbaa
open Go.RowKit Go.Own Go.Sort

set_option maxRecDepth 100000 in
set_option maxHeartbeats 12000000 in
theorem order_eq (ak an bk bn ck cn : Int) (at_ bt ct : ByteArray) (w : World) (ha : at_.size ≤ 2000) (hb : bt.size ≤ 2000) (hc : ct.size ≤ 2000) (pk pn : Int) (pt : ByteArray) (pe qk qn : Int) (qt : ByteArray) (qe : Int) (hx : ∀ w, Calls Try.prog 8 #[.int .u8 9, .agg #[.int .u8 ak, .int .i64 an, .string at_], .agg #[.int .u8 bk, .int .i64 bn, .string bt]] w fun e w' => e = .returned (.tuple #[.agg #[.int .u8 2, .int .i64 0, .string ⟨#[]⟩], .int .i64 0]) ∧ Up w w') (hy : ∀ w, Calls Try.prog 8 #[.int .u8 9, .agg #[.int .u8 bk, .int .i64 bn, .string bt], .agg #[.int .u8 ak, .int .i64 an, .string at_]] w fun e w' => e = .returned (.tuple #[.agg #[.int .u8 2, .int .i64 0, .string ⟨#[]⟩], .int .i64 0]) ∧ Up w w') (hz : ∀ w, Calls Try.prog 8 #[.int .u8 11, .agg #[.int .u8 ak, .int .i64 an, .string at_], .agg #[.int .u8 bk, .int .i64 bn, .string bt]] w fun e w' => e = .returned (.tuple #[.agg #[.int .u8 2, .int .i64 1, .string ⟨#[]⟩], .int .i64 0]) ∧ Up w w') (hu : ∀ w, Calls Try.prog 8 #[.int .u8 10, .agg #[.int .u8 ak, .int .i64 an, .string at_], .agg #[.int .u8 bk, .int .i64 bn, .string bt]] w fun e w' => e = .returned (.tuple #[.agg #[.int .u8 2, .int .i64 1, .string ⟨#[]⟩], .int .i64 0]) ∧ Up w w') (hv : ∀ w, Calls Try.prog 8 #[.int .u8 12, .agg #[.int .u8 ak, .int .i64 an, .string at_], .agg #[.int .u8 bk, .int .i64 bn, .string bt]] w fun e w' => e = .returned (.tuple #[.agg #[.int .u8 2, .int .i64 0, .string ⟨#[]⟩], .int .i64 0]) ∧ Up w w') (hp : ∀ w, Calls Try.prog 8 #[.int .u8 9, .agg #[.int .u8 bk, .int .i64 bn, .string bt], .agg #[.int .u8 ck, .int .i64 cn, .string ct]] w fun e w' => e = .returned (.tuple #[.agg #[.int .u8 pk, .int .i64 pn, .string pt], .int .i64 pe]) ∧ Up w w') (hq : ∀ w, Calls Try.prog 8 #[.int .u8 9, .agg #[.int .u8 ak, .int .i64 an, .string at_], .agg #[.int .u8 ck, .int .i64 cn, .string ct]] w fun e w' => e = .returned (.tuple #[.agg #[.int .u8 qk, .int .i64 qn, .string qt], .int .i64 qe]) ∧ Up w w') (hf : pe = 23 ∨ (pe = 0 ∧ pk = 2 ∧ pt = ⟨#[]⟩ ∧ qk = 2 ∧ qt = ⟨#[]⟩ ∧ (pn = 0 ∨ pn = 1) ∧ (qn = 0 ∨ qn = 1))) :
    Calls Try.prog 5 #[.agg #[.int .u8 ak, .int .i64 an, .string at_], .agg #[.int .u8 bk, .int .i64 bn, .string bt], .agg #[.int .u8 ck, .int .i64 cn, .string ct]] w fun e w' => e = .returned (.bool true) ∧ Up w w' := by
  have HX := Lib.hid hx
  clear hx
  have HY := Lib.hid hy
  clear hy
  have HZ := Lib.hid hz
  clear hz
  have HU := Lib.hid hu
  clear hu
  have HV := Lib.hid hv
  clear hv
  have HP := Lib.hid hp
  clear hp
  have HQ := Lib.hid hq
  clear hq
  have HF := Lib.hid hf
  clear hf
  go_enter Try.func5, Try.ntmps5
  go_upto_region 1 with fail
  go_cut [43] (fun s1 wx => s1 = .bool false ∧ Boxes [(w.heap.size, .int .u8 ak, .int .i64 an, .string at_), (w.heap.size + 1, .int .u8 bk, .int .i64 bn, .string bt), (w.heap.size + 1 + 1, .int .u8 ck, .int .i64 cn, .string ct)] wx ∧ Up w wx)
  case first =>
    go_wp2_with fail
    refine (works_any _).mono ?_; rintro e w1 ⟨rfl, u1⟩
    have hc1 := u1.cells
    go_wp2_with fail
    go_meet
    refine ⟨congrArg Value.bool (by simp only [Bool.or_eq_false_iff, decide_eq_false_iff_not]; omega), Boxes.cons ?_ (Boxes.cons ?_ (Boxes.cons ?_ (Boxes.nil _))), by (repeat (first | exact Up.refl _ | assumption | refine Up.drew ?_ | refine Up.drewN ?_ _ | refine Up.alloc ?_ _ | refine Up.setCell ?_ (by simp <;> omega) _ | refine Up.trans ?_ (by assumption)))⟩
    · exact (Box3.new (.int .u8 ak) (.int .i64 an) (.string at_) w 23).up (by (repeat (first | exact Up.refl _ | assumption | refine Up.drew ?_ | refine Up.drewN ?_ _ | refine Up.alloc ?_ _ | refine Up.setCell ?_ (by simp <;> omega) _ | refine Up.trans ?_ (by assumption))))
    · have := (Box3.new (.int .u8 bk) (.int .i64 bn) (.string bt) (w.alloc (.cells #[.int .u8 ak, .int .i64 an, .string at_] 23)) 23).up (w' := w1) (by (repeat (first | exact Up.refl _ | assumption | refine Up.drew ?_ | refine Up.drewN ?_ _ | refine Up.alloc ?_ _ | refine Up.setCell ?_ (by simp <;> omega) _ | refine Up.trans ?_ (by assumption))))
      simpa using this
    · have := (Box3.new (.int .u8 ck) (.int .i64 cn) (.string ct) ((w.alloc (.cells #[.int .u8 ak, .int .i64 an, .string at_] 23)).alloc (.cells #[.int .u8 bk, .int .i64 bn, .string bt] 23)) 23).up (w' := w1) (by (repeat (first | exact Up.refl _ | assumption | refine Up.drew ?_ | refine Up.drewN ?_ _ | refine Up.alloc ?_ _ | refine Up.setCell ?_ (by simp <;> omega) _ | refine Up.trans ?_ (by assumption))))
      simpa using this
  case rest =>
    obtain ⟨rfl, bs, u⟩ := hcut
    go_upto_region 3 with fail
    go_cut [7, 8] (fun s1 s2 wx => ∃ B, s1 = .pointer (some ⟨B, 0, none⟩) ∧ s2 = .int .i64 0 ∧ Boxes ((B, .int .u8 2, .int .i64 0, .string ⟨#[]⟩) :: [(w.heap.size, .int .u8 ak, .int .i64 an, .string at_), (w.heap.size + 1, .int .u8 bk, .int .i64 bn, .string bt), (w.heap.size + 1 + 1, .int .u8 ck, .int .i64 cn, .string ct)]) wx ∧ Up w wx)
    case first =>
      obtain ⟨l0, p0, q0, r0⟩ := bs.get 0 rfl
      obtain ⟨l1, p1, q1, r1⟩ := bs.get 1 rfl
      go_wp2_with fail
      refine (HX.out _).mono ?_; rintro e w1 ⟨rfl, u1⟩
      go_wp2_with fail
      go_meet
      exact ⟨_, rfl, rfl, Boxes.cons (Box3.new _ _ _ _ _) (bs.up (by (repeat (first | exact Up.refl _ | assumption | refine Up.drew ?_ | refine Up.drewN ?_ _ | refine Up.alloc ?_ _ | refine Up.setCell ?_ (by simp <;> omega) _ | refine Up.trans ?_ (by assumption))))), by (repeat (first | exact Up.refl _ | assumption | refine Up.drew ?_ | refine Up.drewN ?_ _ | refine Up.alloc ?_ _ | refine Up.setCell ?_ (by simp <;> omega) _ | refine Up.trans ?_ (by assumption)))⟩
    case rest =>
      obtain ⟨B7, rfl, rfl, bs, u⟩ := hcut
      go_upto_region 4 with fail
      go_cut [9, 10] (fun s1 s2 wx => ∃ B, s1 = .pointer (some ⟨B, 0, none⟩) ∧ s2 = .int .i64 0 ∧ Boxes ((B, .int .u8 2, .int .i64 0, .string ⟨#[]⟩) :: [(B7, .int .u8 2, .int .i64 0, .string ⟨#[]⟩), (w.heap.size, .int .u8 ak, .int .i64 an, .string at_), (w.heap.size + 1, .int .u8 bk, .int .i64 bn, .string bt), (w.heap.size + 1 + 1, .int .u8 ck, .int .i64 cn, .string ct)]) wx ∧ Up w wx)
      case first =>
        obtain ⟨l1, p1, q1, r1⟩ := bs.get 1 rfl
        obtain ⟨l2, p2, q2, r2⟩ := bs.get 2 rfl
        go_wp2_with fail
        refine (HY.out _).mono ?_; rintro e w1 ⟨rfl, u1⟩
        go_wp2_with fail
        go_meet
        exact ⟨_, rfl, rfl, Boxes.cons (Box3.new _ _ _ _ _) (bs.up (by (repeat (first | exact Up.refl _ | assumption | refine Up.drew ?_ | refine Up.drewN ?_ _ | refine Up.alloc ?_ _ | refine Up.setCell ?_ (by simp <;> omega) _ | refine Up.trans ?_ (by assumption))))), by (repeat (first | exact Up.refl _ | assumption | refine Up.drew ?_ | refine Up.drewN ?_ _ | refine Up.alloc ?_ _ | refine Up.setCell ?_ (by simp <;> omega) _ | refine Up.trans ?_ (by assumption)))⟩
      case rest =>
        obtain ⟨B9, rfl, rfl, bs, u⟩ := hcut
        go_upto_region 5 with fail
        go_cut [11, 12] (fun s1 s2 wx => ∃ B, s1 = .pointer (some ⟨B, 0, none⟩) ∧ s2 = .int .i64 0 ∧ Boxes ((B, .int .u8 2, .int .i64 1, .string ⟨#[]⟩) :: [(B9, .int .u8 2, .int .i64 0, .string ⟨#[]⟩), (B7, .int .u8 2, .int .i64 0, .string ⟨#[]⟩), (w.heap.size, .int .u8 ak, .int .i64 an, .string at_), (w.heap.size + 1, .int .u8 bk, .int .i64 bn, .string bt), (w.heap.size + 1 + 1, .int .u8 ck, .int .i64 cn, .string ct)]) wx ∧ Up w wx)
        case first =>
          obtain ⟨l2, p2, q2, r2⟩ := bs.get 2 rfl
          obtain ⟨l3, p3, q3, r3⟩ := bs.get 3 rfl
          go_wp2_with fail
          refine (HZ.out _).mono ?_; rintro e w1 ⟨rfl, u1⟩
          go_wp2_with fail
          go_meet
          exact ⟨_, rfl, rfl, Boxes.cons (Box3.new _ _ _ _ _) (bs.up (by (repeat (first | exact Up.refl _ | assumption | refine Up.drew ?_ | refine Up.drewN ?_ _ | refine Up.alloc ?_ _ | refine Up.setCell ?_ (by simp <;> omega) _ | refine Up.trans ?_ (by assumption))))), by (repeat (first | exact Up.refl _ | assumption | refine Up.drew ?_ | refine Up.drewN ?_ _ | refine Up.alloc ?_ _ | refine Up.setCell ?_ (by simp <;> omega) _ | refine Up.trans ?_ (by assumption)))⟩
        case rest =>
          obtain ⟨B11, rfl, rfl, bs, u⟩ := hcut
          obtain ⟨l0, p0, q0, r0⟩ := bs.get 0 rfl
          obtain ⟨l1, p1, q1, r1⟩ := bs.get 1 rfl
          obtain ⟨l2, p2, q2, r2⟩ := bs.get 2 rfl
          go_wp2_with fail
          have row0 : RowOf wc.heap.size [.int .u8 2, .int .i64 0, .string ⟨#[]⟩, .int .u8 2, .int .i64 0, .string ⟨#[]⟩, .int .u8 2, .int .i64 1, .string ⟨#[]⟩] (wc.alloc (.cells #[.int .u8 2, .int .i64 0, .string ⟨#[]⟩, .int .u8 2, .int .i64 0, .string ⟨#[]⟩, .int .u8 2, .int .i64 1, .string ⟨#[]⟩] 23)) := RowOf.new #[.int .u8 2, .int .i64 0, .string ⟨#[]⟩, .int .u8 2, .int .i64 0, .string ⟨#[]⟩, .int .u8 2, .int .i64 1, .string ⟨#[]⟩] wc _
          have bs0 := bs.up (w' := wc.alloc (.cells #[.int .u8 2, .int .i64 0, .string ⟨#[]⟩, .int .u8 2, .int .i64 0, .string ⟨#[]⟩, .int .u8 2, .int .i64 1, .string ⟨#[]⟩] 23)) (by (repeat (first | exact Up.refl _ | assumption | refine Up.drew ?_ | refine Up.drewN ?_ _ | refine Up.alloc ?_ _ | refine Up.setCell ?_ (by simp <;> omega) _ | refine Up.trans ?_ (by assumption))))
          have u0 := u.alloc (.cells #[.int .u8 2, .int .i64 0, .string ⟨#[]⟩, .int .u8 2, .int .i64 0, .string ⟨#[]⟩, .int .u8 2, .int .i64 1, .string ⟨#[]⟩] 23)
          clear l0 p0 q0 r0 l1 p1 q1 r1 l2 p2 q2 r2
          go_loopw [13, 72] (fun n i wr => ((n = .int .i64 0 ∧ i = .int .i64 0) ∨ (n = .int .i64 0 ∧ i = .int .i64 1) ∨ (n = .int .i64 0 ∧ i = .int .i64 2) ∨ (n = .int .i64 1 ∧ i = .int .i64 3)) ∧ RowOf wc.heap.size [.int .u8 2, .int .i64 0, .string ⟨#[]⟩, .int .u8 2, .int .i64 0, .string ⟨#[]⟩, .int .u8 2, .int .i64 1, .string ⟨#[]⟩] wr ∧ Boxes [(B11, .int .u8 2, .int .i64 1, .string ⟨#[]⟩), (B9, .int .u8 2, .int .i64 0, .string ⟨#[]⟩), (B7, .int .u8 2, .int .i64 0, .string ⟨#[]⟩), (w.heap.size, .int .u8 ak, .int .i64 an, .string at_), (w.heap.size + 1, .int .u8 bk, .int .i64 bn, .string bt), (w.heap.size + 1 + 1, .int .u8 ck, .int .i64 cn, .string ct)] wr ∧ Up w wr) (fun _ i _ => 3 - (intOf i).toNat)
          case atStart => exact ⟨.inl ⟨rfl, rfl⟩, row0, bs0, u0⟩
          case round =>
            obtain ⟨hk, row, bs, u⟩ := hrel
            rcases hk with ⟨rfl, rfl⟩ | ⟨rfl, rfl⟩ | ⟨rfl, rfl⟩ | ⟨rfl, rfl⟩
            · have s0 := row.2 0 _ rfl; have s1 := row.2 1 _ rfl; have s2 := row.2 2 _ rfl; have hls := row.1
              go_wp2_with fail
              refine (yes_lit 0 false _ rfl _).mono ?_; rintro e w1 ⟨rfl, u1⟩
              go_wp2_with fail
              go_roundw
              case rel => exact ⟨.inr (.inl ⟨rfl, rfl⟩), row.up (by (repeat (first | exact Up.refl _ | assumption | refine Up.drew ?_ | refine Up.drewN ?_ _ | refine Up.alloc ?_ _ | refine Up.setCell ?_ (by simp <;> omega) _ | refine Up.trans ?_ (by assumption)))), bs.up (by (repeat (first | exact Up.refl _ | assumption | refine Up.drew ?_ | refine Up.drewN ?_ _ | refine Up.alloc ?_ _ | refine Up.setCell ?_ (by simp <;> omega) _ | refine Up.trans ?_ (by assumption)))), by (repeat (first | exact Up.refl _ | assumption | refine Up.drew ?_ | refine Up.drewN ?_ _ | refine Up.alloc ?_ _ | refine Up.setCell ?_ (by simp <;> omega) _ | refine Up.trans ?_ (by assumption)))⟩
              case measure => simp [intOf]
            · have s0 := row.2 3 _ rfl; have s1 := row.2 4 _ rfl; have s2 := row.2 5 _ rfl; have hls := row.1
              go_wp2_with fail
              refine (yes_lit 0 false _ rfl _).mono ?_; rintro e w1 ⟨rfl, u1⟩
              go_wp2_with fail
              go_roundw
              case rel => exact ⟨.inr (.inr (.inl ⟨rfl, rfl⟩)), row.up (by (repeat (first | exact Up.refl _ | assumption | refine Up.drew ?_ | refine Up.drewN ?_ _ | refine Up.alloc ?_ _ | refine Up.setCell ?_ (by simp <;> omega) _ | refine Up.trans ?_ (by assumption)))), bs.up (by (repeat (first | exact Up.refl _ | assumption | refine Up.drew ?_ | refine Up.drewN ?_ _ | refine Up.alloc ?_ _ | refine Up.setCell ?_ (by simp <;> omega) _ | refine Up.trans ?_ (by assumption)))), by (repeat (first | exact Up.refl _ | assumption | refine Up.drew ?_ | refine Up.drewN ?_ _ | refine Up.alloc ?_ _ | refine Up.setCell ?_ (by simp <;> omega) _ | refine Up.trans ?_ (by assumption)))⟩
              case measure => simp [intOf]
            · have s0 := row.2 6 _ rfl; have s1 := row.2 7 _ rfl; have s2 := row.2 8 _ rfl; have hls := row.1
              go_wp2_with fail
              refine (yes_lit 1 true _ rfl _).mono ?_; rintro e w1 ⟨rfl, u1⟩
              go_wp2_with fail
              go_roundw
              case rel => exact ⟨.inr (.inr (.inr ⟨rfl, rfl⟩)), row.up (by (repeat (first | exact Up.refl _ | assumption | refine Up.drew ?_ | refine Up.drewN ?_ _ | refine Up.alloc ?_ _ | refine Up.setCell ?_ (by simp <;> omega) _ | refine Up.trans ?_ (by assumption)))), bs.up (by (repeat (first | exact Up.refl _ | assumption | refine Up.drew ?_ | refine Up.drewN ?_ _ | refine Up.alloc ?_ _ | refine Up.setCell ?_ (by simp <;> omega) _ | refine Up.trans ?_ (by assumption)))), by (repeat (first | exact Up.refl _ | assumption | refine Up.drew ?_ | refine Up.drewN ?_ _ | refine Up.alloc ?_ _ | refine Up.setCell ?_ (by simp <;> omega) _ | refine Up.trans ?_ (by assumption)))⟩
              case measure => simp [intOf]
            · clear row0 bs0 u0 row
              go_upto_region 15 with fail
              go_cut [16, 17] (fun s1 s2 wx => ∃ B, s1 = .pointer (some ⟨B, 0, none⟩) ∧ s2 = .int .i64 0 ∧ Boxes ((B, .int .u8 2, .int .i64 1, .string ⟨#[]⟩) :: [(B11, .int .u8 2, .int .i64 1, .string ⟨#[]⟩), (B9, .int .u8 2, .int .i64 0, .string ⟨#[]⟩), (B7, .int .u8 2, .int .i64 0, .string ⟨#[]⟩), (w.heap.size, .int .u8 ak, .int .i64 an, .string at_), (w.heap.size + 1, .int .u8 bk, .int .i64 bn, .string bt), (w.heap.size + 1 + 1, .int .u8 ck, .int .i64 cn, .string ct)]) wx ∧ Up w wx)
              case first =>
                obtain ⟨l3, p3, q3, r3⟩ := bs.get 3 rfl
                obtain ⟨l4, p4, q4, r4⟩ := bs.get 4 rfl
                go_wp2_with fail
                refine (HU.out _).mono ?_; rintro e w1 ⟨rfl, u1⟩
                go_wp2_with fail
                go_meet
                exact ⟨_, rfl, rfl, Boxes.cons (Box3.new _ _ _ _ _) (bs.up (by (repeat (first | exact Up.refl _ | assumption | refine Up.drew ?_ | refine Up.drewN ?_ _ | refine Up.alloc ?_ _ | refine Up.setCell ?_ (by simp <;> omega) _ | refine Up.trans ?_ (by assumption))))), by (repeat (first | exact Up.refl _ | assumption | refine Up.drew ?_ | refine Up.drewN ?_ _ | refine Up.alloc ?_ _ | refine Up.setCell ?_ (by simp <;> omega) _ | refine Up.trans ?_ (by assumption)))⟩
              case rest =>
                obtain ⟨B16, rfl, rfl, bs, u⟩ := hcut
                go_upto_region 16 with fail
                go_cut [18, 19] (fun s1 s2 wx => ∃ B, s1 = .pointer (some ⟨B, 0, none⟩) ∧ s2 = .int .i64 0 ∧ Boxes ((B, .int .u8 2, .int .i64 0, .string ⟨#[]⟩) :: [(B16, .int .u8 2, .int .i64 1, .string ⟨#[]⟩), (B11, .int .u8 2, .int .i64 1, .string ⟨#[]⟩), (B9, .int .u8 2, .int .i64 0, .string ⟨#[]⟩), (B7, .int .u8 2, .int .i64 0, .string ⟨#[]⟩), (w.heap.size, .int .u8 ak, .int .i64 an, .string at_), (w.heap.size + 1, .int .u8 bk, .int .i64 bn, .string bt), (w.heap.size + 1 + 1, .int .u8 ck, .int .i64 cn, .string ct)]) wx ∧ Up w wx)
                case first =>
                  obtain ⟨l4, p4, q4, r4⟩ := bs.get 4 rfl
                  obtain ⟨l5, p5, q5, r5⟩ := bs.get 5 rfl
                  go_wp2_with fail
                  refine (HV.out _).mono ?_; rintro e w1 ⟨rfl, u1⟩
                  go_wp2_with fail
                  go_meet
                  exact ⟨_, rfl, rfl, Boxes.cons (Box3.new _ _ _ _ _) (bs.up (by (repeat (first | exact Up.refl _ | assumption | refine Up.drew ?_ | refine Up.drewN ?_ _ | refine Up.alloc ?_ _ | refine Up.setCell ?_ (by simp <;> omega) _ | refine Up.trans ?_ (by assumption))))), by (repeat (first | exact Up.refl _ | assumption | refine Up.drew ?_ | refine Up.drewN ?_ _ | refine Up.alloc ?_ _ | refine Up.setCell ?_ (by simp <;> omega) _ | refine Up.trans ?_ (by assumption)))⟩
                case rest =>
                  obtain ⟨B18, rfl, rfl, bs, u⟩ := hcut
                  go_upto_region 17 with fail
                  go_cut [120] (fun s1 wx => s1 = .bool false ∧ Boxes [(B18, .int .u8 2, .int .i64 0, .string ⟨#[]⟩), (B16, .int .u8 2, .int .i64 1, .string ⟨#[]⟩), (B11, .int .u8 2, .int .i64 1, .string ⟨#[]⟩), (B9, .int .u8 2, .int .i64 0, .string ⟨#[]⟩), (B7, .int .u8 2, .int .i64 0, .string ⟨#[]⟩), (w.heap.size, .int .u8 ak, .int .i64 an, .string at_), (w.heap.size + 1, .int .u8 bk, .int .i64 bn, .string bt), (w.heap.size + 1 + 1, .int .u8 ck, .int .i64 cn, .string ct)] wx ∧ Up w wx)
                  case first =>
                    obtain ⟨l1, p1, q1, r1⟩ := bs.get 1 rfl
                    obtain ⟨l4, p4, q4, r4⟩ := bs.get 4 rfl
                    obtain ⟨l2, p2, q2, r2⟩ := bs.get 2 rfl
                    obtain ⟨l0, p0, q0, r0⟩ := bs.get 0 rfl
                    have kp1 := cell_regrown p1
                    have kq1 := cell_regrown q1
                    have kr1 := cell_regrown r1
                    have kp4 := cell_regrown p4
                    have kq4 := cell_regrown q4
                    have kr4 := cell_regrown r4
                    have kp2 := cell_regrown p2
                    have kq2 := cell_regrown q2
                    have kr2 := cell_regrown r2
                    have kp0 := cell_regrown p0
                    have kq0 := cell_regrown q0
                    have kr0 := cell_regrown r0
                    clear l1 p1 q1 r1 l4 p4 q4 r4 l2 p2 q2 r2 l0 p0 q0 r0
                    have gT := fun d os => Calls.regrown_of (yes_lit 1 true ⟨#[]⟩ rfl (grow (redrawn wc d) os))
                    have gF := fun d os => Calls.regrown_of (yes_lit 0 false ⟨#[]⟩ rfl (grow (redrawn wc d) os))
                    refine wp_region_quiet_below (by kernel_rfl) (by kernel_rfl) ?_
                    repeat (quiet_step (first | (with_reducible exact gT _ _) | (with_reducible exact gF _ _)))
                    refine wpQuiet_nil ?_
                    intro _ hw'
                    obtain ⟨⟨dq, osq⟩, hw''⟩ := hw'
                    subst hw''
                    go_wp2_with fail
                    go_meet
                    exact ⟨rfl, bs.up (below_regrown wc dq osq), u.trans (below_regrown wc dq osq)⟩
                  case rest =>
                    obtain ⟨rfl, bs, u⟩ := hcut
                    go_upto_region 19 with fail
                    go_cut [20, 21] (fun s1 s2 wx => ∃ B, s1 = .pointer (some ⟨B, 0, none⟩) ∧ s2 = .int .i64 pe ∧ Boxes ((B, .int .u8 pk, .int .i64 pn, .string pt) :: [(B18, .int .u8 2, .int .i64 0, .string ⟨#[]⟩), (B16, .int .u8 2, .int .i64 1, .string ⟨#[]⟩), (B11, .int .u8 2, .int .i64 1, .string ⟨#[]⟩), (B9, .int .u8 2, .int .i64 0, .string ⟨#[]⟩), (B7, .int .u8 2, .int .i64 0, .string ⟨#[]⟩), (w.heap.size, .int .u8 ak, .int .i64 an, .string at_), (w.heap.size + 1, .int .u8 bk, .int .i64 bn, .string bt), (w.heap.size + 1 + 1, .int .u8 ck, .int .i64 cn, .string ct)]) wx ∧ Up w wx)
                    case first =>
                      obtain ⟨l6, p6, q6, r6⟩ := bs.get 6 rfl
                      obtain ⟨l7, p7, q7, r7⟩ := bs.get 7 rfl
                      go_wp2_with fail
                      refine (HP.out _).mono ?_; rintro e w1 ⟨rfl, u1⟩
                      go_wp2_with fail
                      go_meet
                      exact ⟨_, rfl, rfl, Boxes.cons (Box3.new _ _ _ _ _) (bs.up (by (repeat (first | exact Up.refl _ | assumption | refine Up.drew ?_ | refine Up.drewN ?_ _ | refine Up.alloc ?_ _ | refine Up.setCell ?_ (by simp <;> omega) _ | refine Up.trans ?_ (by assumption))))), by (repeat (first | exact Up.refl _ | assumption | refine Up.drew ?_ | refine Up.drewN ?_ _ | refine Up.alloc ?_ _ | refine Up.setCell ?_ (by simp <;> omega) _ | refine Up.trans ?_ (by assumption)))⟩
                    case rest =>
                      obtain ⟨B20, rfl, rfl, bs, u⟩ := hcut
                      go_upto_region 20 with fail
                      go_cut [22, 23] (fun s1 s2 wx => ∃ B, s1 = .pointer (some ⟨B, 0, none⟩) ∧ s2 = .int .i64 qe ∧ Boxes ((B, .int .u8 qk, .int .i64 qn, .string qt) :: [(B20, .int .u8 pk, .int .i64 pn, .string pt), (B18, .int .u8 2, .int .i64 0, .string ⟨#[]⟩), (B16, .int .u8 2, .int .i64 1, .string ⟨#[]⟩), (B11, .int .u8 2, .int .i64 1, .string ⟨#[]⟩), (B9, .int .u8 2, .int .i64 0, .string ⟨#[]⟩), (B7, .int .u8 2, .int .i64 0, .string ⟨#[]⟩), (w.heap.size, .int .u8 ak, .int .i64 an, .string at_), (w.heap.size + 1, .int .u8 bk, .int .i64 bn, .string bt), (w.heap.size + 1 + 1, .int .u8 ck, .int .i64 cn, .string ct)]) wx ∧ Up w wx)
                      case first =>
                        obtain ⟨l6, p6, q6, r6⟩ := bs.get 6 rfl
                        obtain ⟨l8, p8, q8, r8⟩ := bs.get 8 rfl
                        go_wp2_with fail
                        refine (HQ.out _).mono ?_; rintro e w1 ⟨rfl, u1⟩
                        go_wp2_with fail
                        go_meet
                        exact ⟨_, rfl, rfl, Boxes.cons (Box3.new _ _ _ _ _) (bs.up (by (repeat (first | exact Up.refl _ | assumption | refine Up.drew ?_ | refine Up.drewN ?_ _ | refine Up.alloc ?_ _ | refine Up.setCell ?_ (by simp <;> omega) _ | refine Up.trans ?_ (by assumption))))), by (repeat (first | exact Up.refl _ | assumption | refine Up.drew ?_ | refine Up.drewN ?_ _ | refine Up.alloc ?_ _ | refine Up.setCell ?_ (by simp <;> omega) _ | refine Up.trans ?_ (by assumption)))⟩
                      case rest =>
                        obtain ⟨B22, rfl, rfl, bs, u⟩ := hcut
                        rcases HF.out with rfl | ⟨rfl, rfl, rfl, rfl, rfl, hpn, hqn⟩
                        · go_wp2_with fail
                          go_ret
                          exact ⟨rfl, u⟩
                        · obtain ⟨l0, p0, q0, r0⟩ := bs.get 6 rfl
                          go_wp2_with fail
                          refine (yes_lit 0 false _ rfl _).mono ?_; rintro e w1 ⟨rfl, u1⟩
                          go_wp2_with fail
                          go_ret
                          exact ⟨rfl, by (repeat (first | exact Up.refl _ | assumption | refine Up.drew ?_ | refine Up.drewN ?_ _ | refine Up.alloc ?_ _ | refine Up.setCell ?_ (by simp <;> omega) _ | refine Up.trans ?_ (by assumption)))⟩

end Go.Proofs.Ytpekccomahikbaa
