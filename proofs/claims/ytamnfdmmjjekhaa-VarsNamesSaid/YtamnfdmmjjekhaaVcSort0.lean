/- What is left to show of functions, as the walk that the kernel computes finds it (written by wip/vc2.py). -/
import Derived.Test.YtamnfdmmjjekhaaProg
import Derived.Test.YtamnfdmmjjekhaaSfD
namespace Go.Proofs.Ytamnfdmmjjekhaa
open Go Go.RowKit Go.SF
set_option maxRecDepth 100000

-- cmp.Compare[int]
@[reducible] def t_cmi_1 : Tree := (.br (.un .not (.bin .ieq (.iv 1) (.iv 1))) (.ret (.int .i64 (.il 0)) [] [] []) (.ret (.int .i64 (.il (-1))) [] [] []))
@[reducible] def t_cmi_2 : Tree := (.br (.bin .lt (.iv 1) (.iv 0)) (.ret (.int .i64 (.il 1)) [] [] []) (.ret (.int .i64 (.il 0)) [] [] []))
@[reducible] def t_cmi_3 : Tree := (.br (.un .not (.bin .ieq (.iv 1) (.iv 1))) (.ret (.int .i64 (.il 1)) [] [] []) (.br (.bin .lt (.iv 0) (.iv 1)) (.ret (.int .i64 (.il (-1))) [] [] []) t_cmi_2))
@[reducible] def t_cmi : Tree :=
(.grow (.grow (.br (.un .not (.bin .ieq (.iv 0) (.iv 0))) t_cmi_1 t_cmi_3)))
theorem x_cmi : xfn Try.prog { ex := false, inl := [44, 45], loops := [], unroll := [], mu := [], mus := [], stays := [], rowT := [], rwx := false, nilR := [], rws := [] } Try.f31 [(.int .i64 (.iv 0)), (.int .i64 (.iv 1))] [] [] ⟨2, 0, 0, 0, 0, 0, 0, 0⟩ = some t_cmi := by kernel_rfl
theorem vc_cmi (i0 i1 : Int) (W : Wd) (R : Ending → World → Prop) (h : t_cmi.den Try.prog W.w.heap.size R [] { I := [i0, i1] } W) : CallsE Try.prog 31 #[.int .i64 i0, .int .i64 i1] W R :=
  fn_calls Try.func31 _ _ { I := [i0, i1] } _ x_cmi (fun v hv => by cases hv) h

-- cmp.Compare[string]
@[reducible] def t_cmb_1 : Tree := (.br (.un .not (.bin .teq (.tv 1) (.tv 1))) (.ret (.int .i64 (.il 0)) [] [] []) (.ret (.int .i64 (.il (-1))) [] [] []))
@[reducible] def t_cmb_2 : Tree := (.br (.un .not (.bin .bor (.bin .tlt (.tv 0) (.tv 1)) (.bin .teq (.tv 0) (.tv 1)))) (.ret (.int .i64 (.il 1)) [] [] []) (.ret (.int .i64 (.il 0)) [] [] []))
@[reducible] def t_cmb_3 : Tree := (.br (.un .not (.bin .teq (.tv 1) (.tv 1))) (.ret (.int .i64 (.il 1)) [] [] []) (.br (.bin .tlt (.tv 0) (.tv 1)) (.ret (.int .i64 (.il (-1))) [] [] []) t_cmb_2))
@[reducible] def t_cmb : Tree :=
(.grow (.grow (.br (.un .not (.bin .teq (.tv 0) (.tv 0))) t_cmb_1 t_cmb_3)))
theorem x_cmb : xfn Try.prog { ex := false, inl := [44, 45], loops := [], unroll := [], mu := [], mus := [], stays := [], rowT := [], rwx := false, nilR := [], rws := [] } Try.f32 [(.str (.tv 0)), (.str (.tv 1))] [] [] ⟨0, 0, 0, 2, 0, 0, 0, 0⟩ = some t_cmb := by kernel_rfl
theorem vc_cmb (t0 t1 : ByteArray) (W : Wd) (R : Ending → World → Prop) (h : t_cmb.den Try.prog W.w.heap.size R [] { T := [t0, t1] } W) : CallsE Try.prog 32 #[.string t0, .string t1] W R :=
  fn_calls Try.func32 _ _ { T := [t0, t1] } _ x_cmb (fun v hv => by cases hv) h

-- cmp.Or[int]
@[reducible] def t_or_1 : Tree := (.br (.un .not (.bin .ieq (.iv 1) (.il 0))) (.ret (.int .i64 (.iv 1)) [] [] []) (.again 0 [(.int .i64 (.un (.wrap .i64) (.bin .add (.iv 0) (.il 1))))] []))
@[reducible] def t_or_2 : Tree := (.chk (.sm 0) (.chk (.bin .le (.il 0) (.iv 0)) (.look 3 (.elt 0 (.iv 0) 1 0) (.int .i64 (.iv 1)) ⟨1, 0, 0, 0, 0, 0, 0, 0⟩ t_or_1)))
@[reducible] def t_or : Tree :=
(.loop [(.int .i64 (.il 0))] [] [(.int .i64 (.iv 0))] [] ⟨1, 0, 0, 0, 0, 0, 0, 0⟩ (.br (.bin .lt (.iv 0) (.nv 0)) t_or_2 (.ret (.int .i64 (.il 0)) [] [] [])))
theorem x_or : xfn Try.prog { ex := false, inl := [], loops := [⟨3, [.tm 8]⟩], unroll := [], mu := [], mus := [], stays := [], rowT := [], rwx := false, nilR := [], rws := [] } Try.f30 [(.slc 0 (.nv 0) (.nv 1))] [] [] ⟨0, 2, 0, 0, 0, 1, 0, 0⟩ = some t_or := by kernel_rfl
theorem vc_or (n0 n1 : Nat) (a0 : Option Addr) (W : Wd) (R : Ending → World → Prop) (h : t_or.den Try.prog W.w.heap.size R [] { N := [n0, n1], A := [a0] } W) : CallsE Try.prog 30 #[.slice a0 n0 n1] W R :=
  fn_calls Try.func30 _ _ { N := [n0, n1], A := [a0] } _ x_or (fun v hv => by cases hv) h

-- callboard/vars.Open$2
@[reducible] def t_ocmp_1 : Tree := (.grow (.new (.callq 30 [(.slb 2 0 2 2)] [⟨2, 3, [(.int .i64 (.iv 6)), (.int .i64 (.iv 7))]⟩] [] (.int .i64 (.iv 8)) ⟨1, 0, 0, 0, 0, 0, 0, 0⟩ (.grow (.ret (.int .i64 (.iv 8)) [] [] [])))))
@[reducible] def t_ocmp_2 : Tree := (.callq 32 [(.str (.tv 0)), (.str (.tv 2))] [] [] (.int .i64 (.iv 7)) ⟨1, 0, 0, 0, 0, 0, 0, 0⟩ t_ocmp_1)
@[reducible] def t_ocmp : Tree :=
(.new (.new (.callq 31 [(.int .i64 (.iv 0)), (.int .i64 (.iv 3))] [] [] (.int .i64 (.iv 6)) ⟨1, 0, 0, 0, 0, 0, 0, 0⟩ t_ocmp_2)))
theorem x_ocmp : xfn Try.prog { ex := false, inl := [], loops := [], unroll := [], mu := [], mus := [], stays := [], rowT := [], rwx := false, nilR := [], rws := [] } Try.f29 [(.agg [(.int .i64 (.iv 0)), (.str (.tv 0)), (.int .u8 (.iv 1)), (.int .i64 (.iv 2)), (.str (.tv 1))]), (.agg [(.int .i64 (.iv 3)), (.str (.tv 2)), (.int .u8 (.iv 4)), (.int .i64 (.iv 5)), (.str (.tv 3))])] [] [] ⟨6, 0, 0, 4, 0, 0, 0, 0⟩ = some t_ocmp := by kernel_rfl
theorem vc_ocmp (i0 i1 i2 i3 i4 i5 : Int) (t0 t1 t2 t3 : ByteArray) (W : Wd) (R : Ending → World → Prop) (h : t_ocmp.den Try.prog W.w.heap.size R [] { I := [i0, i1, i2, i3, i4, i5], T := [t0, t1, t2, t3] } W) : CallsE Try.prog 29 #[.agg #[.int .i64 i0, .string t0, .int .u8 i1, .int .i64 i2, .string t1], .agg #[.int .i64 i3, .string t2, .int .u8 i4, .int .i64 i5, .string t3]] W R :=
  fn_calls Try.func29 _ _ { I := [i0, i1, i2, i3, i4, i5], T := [t0, t1, t2, t3] } _ x_ocmp (fun v hv => by cases hv) h

end Go.Proofs.Ytamnfdmmjjekhaa
