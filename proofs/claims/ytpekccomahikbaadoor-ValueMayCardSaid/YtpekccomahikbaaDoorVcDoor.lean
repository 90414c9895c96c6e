/- What is left to show of functions, as the walk that the kernel computes finds it (written by wip/vc.py). -/
import Derived.Test.YtpekccomahikbaaDoorProg
import Derived.Test.YtpekccomahikbaaDoorSeC
namespace Go.Proofs.YtpekccomahikbaaDoor
open Go Go.RowKit Go.SE
set_option maxRecDepth 100000

-- callboard/value.plain
@[reducible] def t_plain_1 : Tree := (.chk (.bin .le (.il 0) (.iv 0)) (.br (.bin .bor (.bin .bor (.bin .lt (.bin .byte (.tv 0) (.iv 0)) (.il 32)) (.bin .lt (.il 126) (.bin .byte (.tv 0) (.iv 0)))) (.bin .ieq (.bin .byte (.tv 0) (.iv 0)) (.il 39))) (.ret (.bool (.bl false)) []) (.again 0 [(.int .i64 (.un (.wrap .i64) (.bin .add (.iv 0) (.il 1))))])))
@[reducible] def t_plain_2 : Tree := (.br (.bin .lt (.iv 0) (.un .len (.tv 0))) t_plain_1 (.ret (.bool (.bin .le (.un .len (.tv 0)) (.il 40))) []))
@[reducible] def t_plain : Tree :=
(.loop [(.int .i64 (.il 0))] [(.int .i64 (.iv 0))] ⟨1, 0, 0, 0, 0, 0, 0⟩ t_plain_2)
theorem x_plain : xfn Tryd.prog { ex := false, inl := [16, 18, 12, 29, 31], loops := [⟨2, [.tm 6]⟩] } Tryd.f30 [(.str (.tv 0))] [] ⟨0, 0, 0, 1, 0, 0, 0⟩ = some t_plain := by kernel_rfl
theorem vc_plain (t0 : ByteArray) (W : Wd) (R : Value → Wd → Prop) (h : t_plain.den Tryd.prog W.w.heap.size R [] { T := [t0] } W) : CallsI Tryd.prog 30 #[.string t0] W R :=
  fn_calls Tryd.func30 _ _ { T := [t0] } _ x_plain (fun v hv => by cases hv) h

-- callboard/value.May
@[reducible] def t_may_1 : Tree := (.ret (.bool (.bin .band (.bin .ieq (.iv 0) (.il 0)) (.bin .band (.bin .ieq (.iv 1) (.il 0)) (.bin .teq (.tv 0) (.tl []))))) [])
@[reducible] def t_may_2 : Tree := (.grow (.ret (.bool (.bin .band (.bin .ieq (.iv 0) (.il 1)) (.bin .band (.bin .ieq (.iv 1) (.iv 1)) (.bin .teq (.tv 0) (.tl []))))) []))
@[reducible] def t_may_3 : Tree := (.grow (.ret (.bool (.bin .band (.bin .ieq (.iv 0) (.il 2)) (.bin .band (.bin .ieq (.iv 1) (.il 1)) (.bin .teq (.tv 0) (.tl []))))) []))
@[reducible] def t_may_4 : Tree := (.grow (.ret (.bool (.bin .band (.bin .ieq (.iv 0) (.il 2)) (.bin .band (.bin .ieq (.iv 1) (.il 0)) (.bin .teq (.tv 0) (.tl []))))) []))
@[reducible] def t_may_5 : Tree := (.callq 30 [(.str (.tv 0))] [] (.bool (.bv 0)) ⟨0, 0, 1, 0, 0, 0, 0⟩ (.grow (.ret (.bool (.bv 0)) [])))
@[reducible] def t_may_6 : Tree := (.br (.bin .band (.bin .ieq (.iv 0) (.il 3)) (.bin .band (.bin .ieq (.iv 1) (.il 0)) (.bin .teq (.tv 0) (.tv 0)))) t_may_5 (.grow (.ret (.bool (.bl false)) [])))
@[reducible] def t_may_7 : Tree := (.br (.bin .ieq (.iv 0) (.il 2)) (.br (.un .not (.bin .ieq (.iv 1) (.il 0))) t_may_3 t_may_4) (.br (.bin .ieq (.iv 0) (.il 3)) t_may_6 (.ret (.bool (.bl false)) [])))
@[reducible] def t_may : Tree :=
(.new (.br (.bin .ieq (.iv 0) (.il 0)) t_may_1 (.br (.bin .ieq (.iv 0) (.il 1)) t_may_2 t_may_7)))
theorem x_may : xfn Tryd.prog { ex := false, inl := [16, 18, 12, 29, 31], loops := [] } Tryd.f8 [(.agg [(.int .u8 (.iv 0)), (.int .i64 (.iv 1)), (.str (.tv 0))])] [] ⟨2, 0, 0, 1, 0, 0, 0⟩ = some t_may := by kernel_rfl
theorem vc_may (i0 i1 : Int) (t0 : ByteArray) (W : Wd) (R : Value → Wd → Prop) (h : t_may.den Tryd.prog W.w.heap.size R [] { I := [i0, i1], T := [t0] } W) : CallsI Tryd.prog 8 #[.agg #[.int .u8 i0, .int .i64 i1, .string t0]] W R :=
  fn_calls Tryd.func8 _ _ { I := [i0, i1], T := [t0] } _ x_may (fun v hv => by cases hv) h

-- callboard/value.Is
@[reducible] def t_vis_1 : Tree := (.call 8 [(.agg [(.int .u8 (.iv 0)), (.int .i64 (.iv 1)), (.str (.tv 0))])] [] (.bool (.bv 0)) ⟨0, 0, 1, 0, 0, 0, 0⟩ (.ret (.bool (.bv 0)) []))
@[reducible] def t_vis : Tree :=
(.new (.br (.bin .ieq (.iv 0) (.iv 2)) t_vis_1 (.ret (.bool (.bl false)) [])))
theorem x_vis : xfn Tryd.prog { ex := false, inl := [16, 18, 12, 29, 31], loops := [] } Tryd.f10 [(.agg [(.int .u8 (.iv 0)), (.int .i64 (.iv 1)), (.str (.tv 0))]), (.int .u8 (.iv 2))] [] ⟨3, 0, 0, 1, 0, 0, 0⟩ = some t_vis := by kernel_rfl
theorem vc_vis (i0 i1 i2 : Int) (t0 : ByteArray) (W : Wd) (R : Value → Wd → Prop) (h : t_vis.den Tryd.prog W.w.heap.size R [] { I := [i0, i1, i2], T := [t0] } W) : CallsI Tryd.prog 10 #[.agg #[.int .u8 i0, .int .i64 i1, .string t0], .int .u8 i2] W R :=
  fn_calls Tryd.func10 _ _ { I := [i0, i1, i2], T := [t0] } _ x_vis (fun v hv => by cases hv) h

-- strconv.FormatInt
@[reducible] def t_fmtint : Tree :=
(.call 41 [(.int .i64 (.iv 0)), (.int .i64 (.iv 1))] [] (.str (.tv 0)) ⟨0, 0, 0, 1, 0, 0, 0⟩ (.ret (.str (.tv 0)) []))
theorem x_fmtint : xfn Tryd.prog { ex := false, inl := [16, 18, 12, 29, 31], loops := [] } Tryd.f31 [(.int .i64 (.iv 0)), (.int .i64 (.iv 1))] [] ⟨2, 0, 0, 0, 0, 0, 0⟩ = some t_fmtint := by kernel_rfl
theorem vc_fmtint (i0 i1 : Int) (W : Wd) (R : Value → Wd → Prop) (h : t_fmtint.den Tryd.prog W.w.heap.size R [] { I := [i0, i1] } W) : CallsI Tryd.prog 31 #[.int .i64 i0, .int .i64 i1] W R :=
  fn_calls Tryd.func31 _ _ { I := [i0, i1] } _ x_fmtint (fun v hv => by cases hv) h

-- callboard/value.Show
@[reducible] def t_show_1 : Tree := (.call 31 [(.int .i64 (.iv 1)), (.int .i64 (.il 10))] [] (.str (.tv 1)) ⟨0, 0, 0, 1, 0, 0, 0⟩ (.ret (.str (.tv 1)) []))
@[reducible] def t_show_2 : Tree := (.grow (.br (.bin .band (.bin .ieq (.iv 0) (.il 2)) (.un .not (.bin .ieq (.iv 1) (.il 0)))) (.ret (.str (.tl [121, 101, 115])) []) (.ret (.str (.tl [110, 111])) [])))
@[reducible] def t_show_3 : Tree := (.chk (.bin .le (.bin .add (.un .len (.tl [39])) (.un .len (.tv 0))) (.il 9223372036854775807)) (.chk (.bin .le (.bin .add (.un .len (.bin .cat (.tl [39]) (.tv 0))) (.un .len (.tl [39]))) (.il 9223372036854775807)) (.ret (.str (.bin .cat (.bin .cat (.tl [39]) (.tv 0)) (.tl [39]))) [])))
@[reducible] def t_show_4 : Tree := (.br (.bin .ieq (.iv 0) (.il 2)) t_show_2 (.br (.bin .ieq (.iv 0) (.il 3)) t_show_3 (.ret (.str (.tl [110, 111, 110, 101])) [])))
@[reducible] def t_show : Tree :=
(.new (.br (.bin .ieq (.iv 0) (.il 1)) t_show_1 t_show_4))
theorem x_show : xfn Tryd.prog { ex := false, inl := [16, 18, 12, 29, 31], loops := [] } Tryd.f14 [(.agg [(.int .u8 (.iv 0)), (.int .i64 (.iv 1)), (.str (.tv 0))])] [] ⟨2, 0, 0, 1, 0, 0, 0⟩ = some t_show := by kernel_rfl
theorem vc_show (i0 i1 : Int) (t0 : ByteArray) (W : Wd) (R : Value → Wd → Prop) (h : t_show.den Tryd.prog W.w.heap.size R [] { I := [i0, i1], T := [t0] } W) : CallsI Tryd.prog 14 #[.agg #[.int .u8 i0, .int .i64 i1, .string t0]] W R :=
  fn_calls Tryd.func14 _ _ { I := [i0, i1], T := [t0] } _ x_show (fun v hv => by cases hv) h

-- callboard/callboardref09.One
@[reducible] def t_rone_1 : Tree := (.grow (.grow (.wr (.ret (.tup [(.agg [(.int .u8 (.il 0)), (.int .i64 (.il 0)), (.str (.tl []))]), (.int .i64 (.il 20))]) []))))
@[reducible] def t_rone_2 : Tree := (.grow (.grow (.wr (.ret (.tup [(.agg [(.int .u8 (.il 1)), (.int .i64 (.un (.wrap .i64) (.bin .sub (.il 0) (.iv 2)))), (.str (.tl []))]), (.int .i64 (.il 0))]) []))))
@[reducible] def t_rone_3 : Tree := (.br (.bin .bor (.bin .band (.bin .lt (.iv 2) (.il 0)) (.bin .lt (.un (.wrap .i64) (.bin .add (.il 9223372036854775807) (.iv 2))) (.il 0))) (.bin .band (.bin .lt (.il 0) (.iv 2)) (.bin .lt (.il 0) (.un (.wrap .i64) (.bin .add (.il (-9223372036854775808)) (.iv 2)))))) t_rone_1 t_rone_2)
@[reducible] def t_rone_4 : Tree := (.grow (.wr (.ret (.tup [(.agg [(.int .u8 (.il 2)), (.int .i64 (.il 1)), (.str (.tl []))]), (.int .i64 (.il 0))]) [])))
@[reducible] def t_rone_5 : Tree := (.grow (.wr (.ret (.tup [(.agg [(.int .u8 (.il 2)), (.int .i64 (.il 0)), (.str (.tl []))]), (.int .i64 (.il 0))]) [])))
@[reducible] def t_rone_6 : Tree := (.grow (.br (.un .not (.bin .band (.bin .ieq (.iv 1) (.il 2)) (.un .not (.bin .ieq (.iv 2) (.il 0))))) t_rone_4 t_rone_5))
@[reducible] def t_rone_7 : Tree := (.grow (.wr (.ret (.tup [(.agg [(.int .u8 (.il 1)), (.int .i64 (.un .len (.tv 0))), (.str (.tl []))]), (.int .i64 (.il 0))]) [])))
@[reducible] def t_rone_8 : Tree := (.wr (.ret (.tup [(.agg [(.int .u8 (.il 0)), (.int .i64 (.il 0)), (.str (.tl []))]), (.int .i64 (.il 23))]) []))
@[reducible] def t_rone_9 : Tree := (.wr (.ret (.tup [(.agg [(.int .u8 (.il 0)), (.int .i64 (.il 0)), (.str (.tl []))]), (.int .i64 (.il 4))]) []))
@[reducible] def t_rone_10 : Tree := (.br (.bin .bor (.bin .bor (.bin .ieq (.iv 0) (.il 3)) (.bin .ieq (.iv 0) (.il 4))) (.bin .ieq (.iv 0) (.il 16))) t_rone_8 t_rone_9)
@[reducible] def t_rone_11 : Tree := (.br (.bin .band (.bin .ieq (.iv 0) (.il 16)) (.bin .ieq (.iv 1) (.il 3))) t_rone_7 t_rone_10)
@[reducible] def t_rone_12 : Tree := (.br (.bin .band (.bin .ieq (.iv 0) (.il 4)) (.bin .ieq (.iv 1) (.il 2))) t_rone_6 t_rone_11)
@[reducible] def t_rone : Tree :=
(.new (.new (.br (.bin .band (.bin .ieq (.iv 0) (.il 3)) (.bin .ieq (.iv 1) (.il 1))) t_rone_3 t_rone_12)))
theorem x_rone : xfn Tryd.prog { ex := false, inl := [16, 18, 12, 29, 31, 17, 19, 13, 27, 28], loops := [] } Tryd.f7 [(.int .u8 (.iv 0)), (.agg [(.int .u8 (.iv 1)), (.int .i64 (.iv 2)), (.str (.tv 0))])] [] ⟨3, 0, 0, 1, 0, 0, 0⟩ = some t_rone := by kernel_rfl
theorem vc_rone (i0 i1 i2 : Int) (t0 : ByteArray) (W : Wd) (R : Value → Wd → Prop) (h : t_rone.den Tryd.prog W.w.heap.size R [] { I := [i0, i1, i2], T := [t0] } W) : CallsI Tryd.prog 7 #[.int .u8 i0, .agg #[.int .u8 i1, .int .i64 i2, .string t0]] W R :=
  fn_calls Tryd.func7 _ _ { I := [i0, i1, i2], T := [t0] } _ x_rone (fun v hv => by cases hv) h

-- callboard/callboardref09.May
@[reducible] def t_rmay_1 : Tree := (.ret (.bool (.bin .band (.bin .bor (.bin .ieq (.iv 1) (.il 0)) (.bin .ieq (.iv 1) (.il 1))) (.bin .teq (.tv 0) (.tl [])))) [])
@[reducible] def t_rmay_2 : Tree := (.chk (.bin .le (.il 0) (.iv 2)) (.br (.bin .bor (.bin .bor (.bin .lt (.bin .byte (.tv 0) (.iv 2)) (.il 32)) (.bin .lt (.il 126) (.bin .byte (.tv 0) (.iv 2)))) (.bin .ieq (.bin .byte (.tv 0) (.iv 2)) (.il 39))) (.ret (.bool (.bl false)) []) (.again 0 [(.int .i64 (.un (.wrap .i64) (.bin .add (.iv 2) (.il 1))))])))
@[reducible] def t_rmay_3 : Tree := (.ret (.bool (.bin .band (.bin .ieq (.iv 1) (.il 0)) (.bin .le (.un .len (.tv 0)) (.il 40)))) [])
@[reducible] def t_rmay_4 : Tree := (.loop [(.int .i64 (.il 0))] [(.int .i64 (.iv 2))] ⟨1, 0, 0, 0, 0, 0, 0⟩ (.br (.bin .lt (.iv 2) (.un .len (.tv 0))) t_rmay_2 t_rmay_3))
@[reducible] def t_rmay_5 : Tree := (.br (.bin .ieq (.iv 0) (.il 2)) t_rmay_1 (.br (.bin .ieq (.iv 0) (.il 3)) t_rmay_4 (.ret (.bool (.bl false)) [])))
@[reducible] def t_rmay : Tree :=
(.new (.br (.bin .ieq (.iv 0) (.il 0)) (.ret (.bool (.bin .band (.bin .ieq (.iv 1) (.il 0)) (.bin .teq (.tv 0) (.tl [])))) []) (.br (.bin .ieq (.iv 0) (.il 1)) (.ret (.bool (.bin .teq (.tv 0) (.tl []))) []) t_rmay_5)))
theorem x_rmay : xfn Tryd.prog { ex := false, inl := [16, 18, 12, 29, 31, 17, 19, 13, 27, 28], loops := [⟨10, [.tm 3]⟩] } Tryd.f9 [(.agg [(.int .u8 (.iv 0)), (.int .i64 (.iv 1)), (.str (.tv 0))])] [] ⟨2, 0, 0, 1, 0, 0, 0⟩ = some t_rmay := by kernel_rfl
theorem vc_rmay (i0 i1 : Int) (t0 : ByteArray) (W : Wd) (R : Value → Wd → Prop) (h : t_rmay.den Tryd.prog W.w.heap.size R [] { I := [i0, i1], T := [t0] } W) : CallsI Tryd.prog 9 #[.agg #[.int .u8 i0, .int .i64 i1, .string t0]] W R :=
  fn_calls Tryd.func9 _ _ { I := [i0, i1], T := [t0] } _ x_rmay (fun v hv => by cases hv) h

-- callboard/callboardref09.Is
@[reducible] def t_ris : Tree :=
(.new (.call 9 [(.agg [(.int .u8 (.iv 0)), (.int .i64 (.iv 1)), (.str (.tv 0))])] [] (.bool (.bv 0)) ⟨0, 0, 1, 0, 0, 0, 0⟩ (.ret (.bool (.bin .band (.bv 0) (.bin .ieq (.iv 0) (.iv 2)))) [])))
theorem x_ris : xfn Tryd.prog { ex := false, inl := [16, 18, 12, 29, 31, 17, 19, 13, 27, 28], loops := [] } Tryd.f11 [(.agg [(.int .u8 (.iv 0)), (.int .i64 (.iv 1)), (.str (.tv 0))]), (.int .u8 (.iv 2))] [] ⟨3, 0, 0, 1, 0, 0, 0⟩ = some t_ris := by kernel_rfl
theorem vc_ris (i0 i1 i2 : Int) (t0 : ByteArray) (W : Wd) (R : Value → Wd → Prop) (h : t_ris.den Tryd.prog W.w.heap.size R [] { I := [i0, i1, i2], T := [t0] } W) : CallsI Tryd.prog 11 #[.agg #[.int .u8 i0, .int .i64 i1, .string t0], .int .u8 i2] W R :=
  fn_calls Tryd.func11 _ _ { I := [i0, i1, i2], T := [t0] } _ x_ris (fun v hv => by cases hv) h

-- callboard/callboardref09.Digits
@[reducible] def t_digits_1 : Tree := (.new (.chk (.bin .le (.bin .add (.un .len (.un .chr (.un (.wrap .u8) (.un (.wrap .i64) (.bin .sub (.il 48) (.bin .rem (.iv 1) (.il 10))))))) (.un .len (.tv 0))) (.il 9223372036854775807)) (.again 0 [(.str (.bin .cat (.un .chr (.un (.wrap .u8) (.un (.wrap .i64) (.bin .sub (.il 48) (.bin .rem (.iv 1) (.il 10)))))) (.tv 0))), (.int .i64 (.un (.wrap .i64) (.bin .quo (.iv 1) (.il 10))))])))
@[reducible] def t_digits_2 : Tree := (.chk (.bin .le (.bin .add (.un .len (.tl [45])) (.un .len (.tv 0))) (.il 9223372036854775807)) (.ret (.str (.bin .cat (.tl [45]) (.tv 0))) []))
@[reducible] def t_digits_3 : Tree := (.loop [(.str (.tl [])), (.int .i64 (.iv 0))] [(.str (.tv 0)), (.int .i64 (.iv 1))] ⟨1, 0, 0, 1, 0, 0, 0⟩ (.br (.un .not (.bin .ieq (.iv 1) (.il 0))) t_digits_1 t_digits_2))
@[reducible] def t_digits_4 : Tree := (.new (.chk (.bin .le (.bin .add (.un .len (.un .chr (.un (.wrap .u8) (.un (.wrap .i64) (.bin .add (.il 48) (.bin .rem (.iv 1) (.il 10))))))) (.un .len (.tv 0))) (.il 9223372036854775807)) (.again 0 [(.str (.bin .cat (.un .chr (.un (.wrap .u8) (.un (.wrap .i64) (.bin .add (.il 48) (.bin .rem (.iv 1) (.il 10)))))) (.tv 0))), (.int .i64 (.un (.wrap .i64) (.bin .quo (.iv 1) (.il 10))))])))
@[reducible] def t_digits_5 : Tree := (.br (.bin .bor (.bin .lt (.il 0) (.iv 1)) (.bin .teq (.tv 0) (.tl []))) t_digits_4 (.ret (.str (.tv 0)) []))
@[reducible] def t_digits_6 : Tree := (.loop [(.str (.tl [])), (.int .i64 (.iv 0))] [(.str (.tv 0)), (.int .i64 (.iv 1))] ⟨1, 0, 0, 1, 0, 0, 0⟩ t_digits_5)
@[reducible] def t_digits : Tree :=
(.br (.bin .lt (.iv 0) (.il 0)) t_digits_3 t_digits_6)
theorem x_digits : xfn Tryd.prog { ex := false, inl := [16, 18, 12, 29, 31, 17, 19, 13, 27, 28], loops := [⟨3, [.tm 3, .tm 0]⟩, ⟨8, [.tm 4, .tm 0]⟩] } Tryd.f32 [(.int .i64 (.iv 0))] [] ⟨1, 0, 0, 0, 0, 0, 0⟩ = some t_digits := by kernel_rfl
theorem vc_digits (i0 : Int) (W : Wd) (R : Value → Wd → Prop) (h : t_digits.den Tryd.prog W.w.heap.size R [] { I := [i0] } W) : CallsI Tryd.prog 32 #[.int .i64 i0] W R :=
  fn_calls Tryd.func32 _ _ { I := [i0] } _ x_digits (fun v hv => by cases hv) h

-- callboard/callboardref09.Show
@[reducible] def t_rshow_1 : Tree := (.call 32 [(.int .i64 (.iv 1))] [] (.str (.tv 1)) ⟨0, 0, 0, 1, 0, 0, 0⟩ (.ret (.str (.tv 1)) []))
@[reducible] def t_rshow_2 : Tree := (.br (.un .not (.bin .ieq (.iv 1) (.il 0))) (.ret (.str (.tl [121, 101, 115])) []) (.ret (.str (.tl [110, 111])) []))
@[reducible] def t_rshow_3 : Tree := (.chk (.bin .le (.bin .add (.un .len (.tl [39])) (.un .len (.tv 0))) (.il 9223372036854775807)) (.chk (.bin .le (.bin .add (.un .len (.bin .cat (.tl [39]) (.tv 0))) (.un .len (.tl [39]))) (.il 9223372036854775807)) (.ret (.str (.bin .cat (.bin .cat (.tl [39]) (.tv 0)) (.tl [39]))) [])))
@[reducible] def t_rshow_4 : Tree := (.br (.bin .ieq (.iv 0) (.il 2)) t_rshow_2 (.br (.bin .ieq (.iv 0) (.il 3)) t_rshow_3 (.ret (.str (.tl [110, 111, 110, 101])) [])))
@[reducible] def t_rshow : Tree :=
(.new (.br (.bin .ieq (.iv 0) (.il 1)) t_rshow_1 t_rshow_4))
theorem x_rshow : xfn Tryd.prog { ex := false, inl := [16, 18, 12, 29, 31, 17, 19, 13, 27, 28], loops := [] } Tryd.f15 [(.agg [(.int .u8 (.iv 0)), (.int .i64 (.iv 1)), (.str (.tv 0))])] [] ⟨2, 0, 0, 1, 0, 0, 0⟩ = some t_rshow := by kernel_rfl
theorem vc_rshow (i0 i1 : Int) (t0 : ByteArray) (W : Wd) (R : Value → Wd → Prop) (h : t_rshow.den Tryd.prog W.w.heap.size R [] { I := [i0, i1], T := [t0] } W) : CallsI Tryd.prog 15 #[.agg #[.int .u8 i0, .int .i64 i1, .string t0]] W R :=
  fn_calls Tryd.func15 _ _ { I := [i0, i1], T := [t0] } _ x_rshow (fun v hv => by cases hv) h

-- callboard/callboardlaw09.ValueOne
@[reducible] def t_valueOne_1 : Tree := (.grow (.ret (.bool (.bin .band (.bin .ieq (.il 2) (.il 2)) (.bin .band (.bin .ieq (.il 1) (.il 1)) (.bin .teq (.tl []) (.tl []))))) []))
@[reducible] def t_valueOne_2 : Tree := (.grow (.ret (.bool (.bin .band (.bin .ieq (.il 2) (.il 2)) (.bin .band (.bin .ieq (.il 0) (.il 0)) (.bin .teq (.tl []) (.tl []))))) []))
@[reducible] def t_valueOne_3 : Tree := (.br (.bin .band (.bin .ieq (.il 1) (.il 1)) (.bin .band (.bin .ieq (.iv 1) (.iv 1)) (.bin .teq (.tl []) (.tl [])))) (.br (.bin .lt (.il 0) (.iv 1)) t_valueOne_1 t_valueOne_2) (.grow (.ret (.bool (.bl false)) [])))
@[reducible] def t_valueOne_4 : Tree := (.br (.bin .band (.bin .band (.bin .teq (.tv 3) (.tv 4)) (.bin .band (.bin .ieq (.iv 3) (.iv 6)) (.bin .band (.bin .ieq (.iv 4) (.iv 7)) (.bin .teq (.tv 1) (.tv 2))))) (.bin .ieq (.iv 5) (.iv 8))) t_valueOne_3 (.grow (.ret (.bool (.bl false)) [])))
@[reducible] def t_valueOne_5 : Tree := (.callq 15 [(.agg [(.int .u8 (.iv 0)), (.int .i64 (.iv 1)), (.str (.tv 0))])] [] (.str (.tv 4)) ⟨0, 0, 0, 1, 0, 0, 0⟩ t_valueOne_4)
@[reducible] def t_valueOne_6 : Tree := (.callq 14 [(.agg [(.int .u8 (.iv 0)), (.int .i64 (.iv 1)), (.str (.tv 0))])] [] (.str (.tv 3)) ⟨0, 0, 0, 1, 0, 0, 0⟩ t_valueOne_5)
@[reducible] def t_valueOne_7 : Tree := (.br (.bin .beq (.bin .band (.bin .ieq (.iv 0) (.il 2)) (.un .not (.bin .ieq (.iv 1) (.il 0)))) (.bin .band (.bin .ieq (.iv 0) (.il 2)) (.un .not (.bin .ieq (.iv 1) (.il 0))))) t_valueOne_6 (.grow (.ret (.bool (.bl false)) [])))
@[reducible] def t_valueOne_8 : Tree := (.callq 11 [(.agg [(.int .u8 (.iv 0)), (.int .i64 (.iv 1)), (.str (.tv 0))]), (.int .u8 (.iv 2))] [] (.bool (.bv 3)) ⟨0, 0, 1, 0, 0, 0, 0⟩ (.br (.bin .beq (.bv 2) (.bv 3)) t_valueOne_7 (.grow (.ret (.bool (.bl false)) []))))
@[reducible] def t_valueOne_9 : Tree := (.callq 10 [(.agg [(.int .u8 (.iv 0)), (.int .i64 (.iv 1)), (.str (.tv 0))]), (.int .u8 (.iv 2))] [] (.bool (.bv 2)) ⟨0, 0, 1, 0, 0, 0, 0⟩ t_valueOne_8)
@[reducible] def t_valueOne_10 : Tree := (.callq 9 [(.agg [(.int .u8 (.iv 0)), (.int .i64 (.iv 1)), (.str (.tv 0))])] [] (.bool (.bv 1)) ⟨0, 0, 1, 0, 0, 0, 0⟩ (.br (.bin .beq (.bv 0) (.bv 1)) t_valueOne_9 (.grow (.ret (.bool (.bl false)) []))))
@[reducible] def t_valueOne_11 : Tree := (.new (.wr (.callq 8 [(.agg [(.int .u8 (.iv 0)), (.int .i64 (.iv 1)), (.str (.tv 0))])] [] (.bool (.bv 0)) ⟨0, 0, 1, 0, 0, 0, 0⟩ t_valueOne_10)))
@[reducible] def t_valueOne_12 : Tree := (.new (.wr (.call 7 [(.int .u8 (.iv 2)), (.agg [(.int .u8 (.iv 0)), (.int .i64 (.iv 1)), (.str (.tv 0))])] [] (.tup [(.agg [(.int .u8 (.iv 6)), (.int .i64 (.iv 7)), (.str (.tv 2))]), (.int .i64 (.iv 8))]) ⟨3, 0, 0, 1, 0, 0, 0⟩ t_valueOne_11)))
@[reducible] def t_valueOne_13 : Tree := (.call 6 [(.int .u8 (.iv 2)), (.agg [(.int .u8 (.iv 0)), (.int .i64 (.iv 1)), (.str (.tv 0))])] [] (.tup [(.agg [(.int .u8 (.iv 3)), (.int .i64 (.iv 4)), (.str (.tv 1))]), (.int .i64 (.iv 5))]) ⟨3, 0, 0, 1, 0, 0, 0⟩ t_valueOne_12)
@[reducible] def t_valueOne : Tree :=
(.new (.br (.bin .lt (.il 2000) (.un .len (.tv 0))) (.ret (.bool (.bl true)) []) t_valueOne_13))
theorem x_valueOne : xfn Tryd.prog { ex := false, inl := [16, 18, 12, 29, 31, 17, 19, 13, 27, 28], loops := [] } Tryd.f3 [(.agg [(.int .u8 (.iv 0)), (.int .i64 (.iv 1)), (.str (.tv 0))]), (.int .u8 (.iv 2))] [] ⟨3, 0, 0, 1, 0, 0, 0⟩ = some t_valueOne := by kernel_rfl
theorem vc_valueOne (i0 i1 i2 : Int) (t0 : ByteArray) (W : Wd) (R : Value → Wd → Prop) (h : t_valueOne.den Tryd.prog W.w.heap.size R [] { I := [i0, i1, i2], T := [t0] } W) : CallsI Tryd.prog 3 #[.agg #[.int .u8 i0, .int .i64 i1, .string t0], .int .u8 i2] W R :=
  fn_calls Tryd.func3 _ _ { I := [i0, i1, i2], T := [t0] } _ x_valueOne (fun v hv => by cases hv) h

-- callboard/callboardlaw09.ValueMay
@[reducible] def t_valueMay_1 : Tree := (.callq 10 [(.agg [(.int .u8 (.iv 1)), (.int .i64 (.iv 2)), (.str (.tv 0))]), (.int .u8 (.un (.wrap .u8) (.bin .add (.iv 1) (.il 1))))] [] (.bool (.bv 6)) ⟨0, 0, 1, 0, 0, 0, 0⟩ (.grow (.ret (.bool (.un .not (.bv 6))) [])))
@[reducible] def t_valueMay_2 : Tree := (.callq 10 [(.agg [(.int .u8 (.iv 1)), (.int .i64 (.iv 2)), (.str (.tv 0))]), (.int .u8 (.iv 1))] [] (.bool (.bv 5)) ⟨0, 0, 1, 0, 0, 0, 0⟩ (.br (.bv 5) t_valueMay_1 (.grow (.ret (.bool (.bl false)) []))))
@[reducible] def t_valueMay_3 : Tree := (.br (.bin .beq (.bin .teq (.tv 4) (.tv 5)) (.bin .band (.bin .ieq (.iv 1) (.iv 3)) (.bin .band (.bin .ieq (.iv 2) (.iv 4)) (.bin .teq (.tv 0) (.tv 1))))) t_valueMay_2 (.grow (.ret (.bool (.bl false)) [])))
@[reducible] def t_valueMay_4 : Tree := (.callq 14 [(.agg [(.int .u8 (.iv 3)), (.int .i64 (.iv 4)), (.str (.tv 1))])] [] (.str (.tv 5)) ⟨0, 0, 0, 1, 0, 0, 0⟩ t_valueMay_3)
@[reducible] def t_valueMay_5 : Tree := (.callq 14 [(.agg [(.int .u8 (.iv 1)), (.int .i64 (.iv 2)), (.str (.tv 0))])] [] (.str (.tv 4)) ⟨0, 0, 0, 1, 0, 0, 0⟩ t_valueMay_4)
@[reducible] def t_valueMay_6 : Tree := (.br (.bin .band (.bv 4) (.bin .bor (.un .not (.bin .ieq (.iv 7) (.il 0))) (.un .not (.bin .ieq (.iv 5) (.il 0))))) t_valueMay_5 (.grow (.ret (.bool (.bl false)) [])))
@[reducible] def t_valueMay_7 : Tree := (.callq 8 [(.agg [(.int .u8 (.iv 8)), (.int .i64 (.iv 9)), (.str (.tv 3))])] [] (.bool (.bv 4)) ⟨0, 0, 1, 0, 0, 0, 0⟩ t_valueMay_6)
@[reducible] def t_valueMay_8 : Tree := (.callq 8 [(.agg [(.int .u8 (.iv 5)), (.int .i64 (.iv 6)), (.str (.tv 2))])] [] (.bool (.bv 3)) ⟨0, 0, 1, 0, 0, 0, 0⟩ (.br (.bv 3) t_valueMay_7 (.grow (.ret (.bool (.bl false)) []))))
@[reducible] def t_valueMay_9 : Tree := (.call 8 [(.agg [(.int .u8 (.iv 3)), (.int .i64 (.iv 4)), (.str (.tv 1))])] [] (.bool (.bv 2)) ⟨0, 0, 1, 0, 0, 0, 0⟩ (.br (.un .not (.bv 2)) (.ret (.bool (.bl true)) []) t_valueMay_8))
@[reducible] def t_valueMay_10 : Tree := (.call 8 [(.agg [(.int .u8 (.iv 1)), (.int .i64 (.iv 2)), (.str (.tv 0))])] [] (.bool (.bv 1)) ⟨0, 0, 1, 0, 0, 0, 0⟩ (.br (.bv 1) t_valueMay_9 (.ret (.bool (.bl true)) [])))
@[reducible] def t_valueMay_11 : Tree := (.new (.wr (.br (.bin .bor (.bin .band (.un .not (.bin .ieq (.iv 7) (.il 0))) (.un .not (.bin .band (.bin .ieq (.iv 5) (.il 0)) (.bin .band (.bin .ieq (.iv 6) (.il 0)) (.bin .teq (.tv 2) (.tl [])))))) (.bin .band (.un .not (.bin .ieq (.iv 10) (.il 0))) (.un .not (.bin .band (.bin .ieq (.iv 8) (.il 0)) (.bin .band (.bin .ieq (.iv 9) (.il 0)) (.bin .teq (.tv 3) (.tl []))))))) (.ret (.bool (.bl false)) []) t_valueMay_10)))
@[reducible] def t_valueMay_12 : Tree := (.new (.wr (.call 6 [(.int .u8 (.iv 0)), (.agg [(.int .u8 (.iv 1)), (.int .i64 (.iv 2)), (.str (.tv 0))])] [] (.tup [(.agg [(.int .u8 (.iv 8)), (.int .i64 (.iv 9)), (.str (.tv 3))]), (.int .i64 (.iv 10))]) ⟨3, 0, 0, 1, 0, 0, 0⟩ t_valueMay_11)))
@[reducible] def t_valueMay_13 : Tree := (.call 25 [(.int .u8 (.iv 0)), (.agg [(.int .u8 (.iv 1)), (.int .i64 (.iv 2)), (.str (.tv 0))]), (.agg [(.int .u8 (.iv 3)), (.int .i64 (.iv 4)), (.str (.tv 1))])] [] (.tup [(.agg [(.int .u8 (.iv 5)), (.int .i64 (.iv 6)), (.str (.tv 2))]), (.int .i64 (.iv 7))]) ⟨3, 0, 0, 1, 0, 0, 0⟩ t_valueMay_12)
@[reducible] def t_valueMay_14 : Tree := (.br (.bin .bor (.bin .bor (.un .not (.bv 0)) (.bin .lt (.il 2000) (.un .len (.tv 0)))) (.bin .lt (.il 2000) (.un .len (.tv 1)))) (.call 20 [] [] (.bool (.bv 1)) ⟨0, 0, 1, 0, 0, 0, 0⟩ (.ret (.bool (.bv 1)) [])) t_valueMay_13)
@[reducible] def t_valueMay : Tree :=
(.new (.new (.call 20 [] [] (.bool (.bv 0)) ⟨0, 0, 1, 0, 0, 0, 0⟩ t_valueMay_14)))
theorem x_valueMay : xfn Tryd.prog { ex := false, inl := [16, 18, 12, 29, 31, 17, 19, 13, 27, 28], loops := [] } Tryd.f5 [(.int .u8 (.iv 0)), (.agg [(.int .u8 (.iv 1)), (.int .i64 (.iv 2)), (.str (.tv 0))]), (.agg [(.int .u8 (.iv 3)), (.int .i64 (.iv 4)), (.str (.tv 1))])] [] ⟨5, 0, 0, 2, 0, 0, 0⟩ = some t_valueMay := by kernel_rfl
theorem vc_valueMay (i0 i1 i2 i3 i4 : Int) (t0 t1 : ByteArray) (W : Wd) (R : Value → Wd → Prop) (h : t_valueMay.den Tryd.prog W.w.heap.size R [] { I := [i0, i1, i2, i3, i4], T := [t0, t1] } W) : CallsI Tryd.prog 5 #[.int .u8 i0, .agg #[.int .u8 i1, .int .i64 i2, .string t0], .agg #[.int .u8 i3, .int .i64 i4, .string t1]] W R :=
  fn_calls Tryd.func5 _ _ { I := [i0, i1, i2, i3, i4], T := [t0, t1] } _ x_valueMay (fun v hv => by cases hv) h

end Go.Proofs.YtpekccomahikbaaDoor
