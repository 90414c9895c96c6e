/- What is left to show of functions, as the walk that the kernel computes finds it (written by wip/vc2.py). -/
import Derived.Test.YtckgdgkkmhochaaGreatDoorProg
import Derived.Test.YtckgdgkkmhochaaGreatDoorSfD
namespace Go.Proofs.YtckgdgkkmhochaaGreatDoor
open Go Go.RowKit Go.SF
set_option maxRecDepth 100000

-- callboard/value.plain
@[reducible] def t_plain_1 : Tree := (.chk (.bin .le (.il 0) (.iv 0)) (.br (.bin .bor (.bin .bor (.bin .lt (.bin .byte (.tv 0) (.iv 0)) (.il 32)) (.bin .lt (.il 126) (.bin .byte (.tv 0) (.iv 0)))) (.bin .ieq (.bin .byte (.tv 0) (.iv 0)) (.il 39))) (.ret (.bool (.bl false)) [] [] []) (.again 0 [(.int .i64 (.un (.wrap .i64) (.bin .add (.iv 0) (.il 1))))] [])))
@[reducible] def t_plain_2 : Tree := (.br (.bin .lt (.iv 0) (.un .len (.tv 0))) t_plain_1 (.ret (.bool (.bin .le (.un .len (.tv 0)) (.il 40))) [] [] []))
@[reducible] def t_plain : Tree :=
(.loop [(.int .i64 (.il 0))] [] [(.int .i64 (.iv 0))] [] ⟨1, 0, 0, 0, 0, 0, 0, 0⟩ t_plain_2)
theorem x_plain : xfn Tryz.prog { ex := false, inl := [74, 75, 63, 76], loops := [⟨2, [.tm 6]⟩], unroll := [], mu := [], mus := [], stays := [], rowT := [], rwx := false, nilR := [], rws := [] } Tryz.f77 [(.str (.tv 0))] [] [] ⟨0, 0, 0, 1, 0, 0, 0, 0⟩ = some t_plain := by kernel_rfl
theorem vc_plain (t0 : ByteArray) (W : Wd) (R : Ending → World → Prop) (h : t_plain.den Tryz.prog W.w.heap.size R [] { T := [t0] } W) : CallsE Tryz.prog 77 #[.string t0] W R :=
  fn_calls Tryz.func77 _ _ { T := [t0] } _ x_plain (fun v hv => by cases hv) h

-- callboard/value.May
@[reducible] def t_vmay_1 : Tree := (.ret (.bool (.bin .band (.bin .ieq (.iv 0) (.il 0)) (.bin .band (.bin .ieq (.iv 1) (.il 0)) (.bin .teq (.tv 0) (.tl []))))) [] [] [])
@[reducible] def t_vmay_2 : Tree := (.grow (.ret (.bool (.bin .band (.bin .ieq (.iv 0) (.il 1)) (.bin .band (.bin .ieq (.iv 1) (.iv 1)) (.bin .teq (.tv 0) (.tl []))))) [] [] []))
@[reducible] def t_vmay_3 : Tree := (.grow (.ret (.bool (.bin .band (.bin .ieq (.iv 0) (.il 2)) (.bin .band (.bin .ieq (.iv 1) (.il 1)) (.bin .teq (.tv 0) (.tl []))))) [] [] []))
@[reducible] def t_vmay_4 : Tree := (.grow (.ret (.bool (.bin .band (.bin .ieq (.iv 0) (.il 2)) (.bin .band (.bin .ieq (.iv 1) (.il 0)) (.bin .teq (.tv 0) (.tl []))))) [] [] []))
@[reducible] def t_vmay_5 : Tree := (.callq 77 [(.str (.tv 0))] [] [] (.bool (.bv 0)) ⟨0, 0, 1, 0, 0, 0, 0, 0⟩ (.grow (.ret (.bool (.bv 0)) [] [] [])))
@[reducible] def t_vmay_6 : Tree := (.br (.bin .band (.bin .ieq (.iv 0) (.il 3)) (.bin .band (.bin .ieq (.iv 1) (.il 0)) (.bin .teq (.tv 0) (.tv 0)))) t_vmay_5 (.grow (.ret (.bool (.bl false)) [] [] [])))
@[reducible] def t_vmay_7 : Tree := (.br (.bin .ieq (.iv 0) (.il 2)) (.br (.un .not (.bin .ieq (.iv 1) (.il 0))) t_vmay_3 t_vmay_4) (.br (.bin .ieq (.iv 0) (.il 3)) t_vmay_6 (.ret (.bool (.bl false)) [] [] [])))
@[reducible] def t_vmay : Tree :=
(.new (.br (.bin .ieq (.iv 0) (.il 0)) t_vmay_1 (.br (.bin .ieq (.iv 0) (.il 1)) t_vmay_2 t_vmay_7)))
theorem x_vmay : xfn Tryz.prog { ex := false, inl := [74, 75, 63, 76], loops := [], unroll := [], mu := [], mus := [], stays := [], rowT := [], rwx := false, nilR := [], rws := [] } Tryz.f52 [(.agg [(.int .u8 (.iv 0)), (.int .i64 (.iv 1)), (.str (.tv 0))])] [] [] ⟨2, 0, 0, 1, 0, 0, 0, 0⟩ = some t_vmay := by kernel_rfl
theorem vc_vmay (i0 i1 : Int) (t0 : ByteArray) (W : Wd) (R : Ending → World → Prop) (h : t_vmay.den Tryz.prog W.w.heap.size R [] { I := [i0, i1], T := [t0] } W) : CallsE Tryz.prog 52 #[.agg #[.int .u8 i0, .int .i64 i1, .string t0]] W R :=
  fn_calls Tryz.func52 _ _ { I := [i0, i1], T := [t0] } _ x_vmay (fun v hv => by cases hv) h

-- strconv.FormatInt
@[reducible] def t_fmtint : Tree :=
(.call 96 [(.int .i64 (.iv 0)), (.int .i64 (.iv 1))] [] [] [] (.str (.tv 0)) ⟨0, 0, 0, 1, 0, 0, 0, 0⟩ (.ret (.str (.tv 0)) [] [] []))
theorem x_fmtint : xfn Tryz.prog { ex := false, inl := [74, 75, 63, 76], loops := [], unroll := [], mu := [], mus := [], stays := [], rowT := [], rwx := false, nilR := [], rws := [] } Tryz.f62 [(.int .i64 (.iv 0)), (.int .i64 (.iv 1))] [] [] ⟨2, 0, 0, 0, 0, 0, 0, 0⟩ = some t_fmtint := by kernel_rfl
theorem vc_fmtint (i0 i1 : Int) (W : Wd) (R : Ending → World → Prop) (h : t_fmtint.den Tryz.prog W.w.heap.size R [] { I := [i0, i1] } W) : CallsE Tryz.prog 62 #[.int .i64 i0, .int .i64 i1] W R :=
  fn_calls Tryz.func62 _ _ { I := [i0, i1] } _ x_fmtint (fun v hv => by cases hv) h

-- callboard/value.Show
@[reducible] def t_vshow_1 : Tree := (.call 62 [(.int .i64 (.iv 1)), (.int .i64 (.il 10))] [] [] [] (.str (.tv 1)) ⟨0, 0, 0, 1, 0, 0, 0, 0⟩ (.ret (.str (.tv 1)) [] [] []))
@[reducible] def t_vshow_2 : Tree := (.grow (.br (.bin .band (.bin .ieq (.iv 0) (.il 2)) (.un .not (.bin .ieq (.iv 1) (.il 0)))) (.ret (.str (.tl [121, 101, 115])) [] [] []) (.ret (.str (.tl [110, 111])) [] [] [])))
@[reducible] def t_vshow_3 : Tree := (.chk (.bin .le (.bin .add (.un .len (.tl [39])) (.un .len (.tv 0))) (.il 9223372036854775807)) (.chk (.bin .le (.bin .add (.un .len (.bin .cat (.tl [39]) (.tv 0))) (.un .len (.tl [39]))) (.il 9223372036854775807)) (.ret (.str (.bin .cat (.bin .cat (.tl [39]) (.tv 0)) (.tl [39]))) [] [] [])))
@[reducible] def t_vshow_4 : Tree := (.br (.bin .ieq (.iv 0) (.il 3)) t_vshow_3 (.ret (.str (.tl [110, 111, 110, 101])) [] [] []))
@[reducible] def t_vshow : Tree :=
(.new (.br (.bin .ieq (.iv 0) (.il 1)) t_vshow_1 (.br (.bin .ieq (.iv 0) (.il 2)) t_vshow_2 t_vshow_4)))
theorem x_vshow : xfn Tryz.prog { ex := false, inl := [74, 75, 63, 76], loops := [], unroll := [], mu := [], mus := [], stays := [], rowT := [], rwx := false, nilR := [], rws := [] } Tryz.f41 [(.agg [(.int .u8 (.iv 0)), (.int .i64 (.iv 1)), (.str (.tv 0))])] [] [] ⟨2, 0, 0, 1, 0, 0, 0, 0⟩ = some t_vshow := by kernel_rfl
theorem vc_vshow (i0 i1 : Int) (t0 : ByteArray) (W : Wd) (R : Ending → World → Prop) (h : t_vshow.den Tryz.prog W.w.heap.size R [] { I := [i0, i1], T := [t0] } W) : CallsE Tryz.prog 41 #[.agg #[.int .u8 i0, .int .i64 i1, .string t0]] W R :=
  fn_calls Tryz.func41 _ _ { I := [i0, i1], T := [t0] } _ x_vshow (fun v hv => by cases hv) h

end Go.Proofs.YtckgdgkkmhochaaGreatDoor
