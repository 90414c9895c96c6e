/- What is left to show of functions, as the walk that the kernel computes finds it (written by wip/vc.py). -/
import Derived.Test.YtpekccomahikbaaDoorProg
import Derived.Test.YtpekccomahikbaaDoorSeC
namespace Go.Proofs.YtpekccomahikbaaDoor
open Go Go.RowKit Go.SE
set_option maxRecDepth 100000

-- callboard/callboardlaw09.is
@[reducible] def t_is_1 : Tree := (.new (.wr (.ret (.bool (.bin .band (.bin .ieq (.iv 9) (.il 0)) (.bin .band (.bin .ieq (.iv 7) (.iv 5)) (.bin .band (.bin .ieq (.iv 8) (.iv 6)) (.bin .teq (.tv 3) (.tv 2)))))) [])))
@[reducible] def t_is : Tree :=
(.new (.new (.new (.call 25 [(.int .u8 (.iv 0)), (.agg [(.int .u8 (.iv 1)), (.int .i64 (.iv 2)), (.str (.tv 0))]), (.agg [(.int .u8 (.iv 3)), (.int .i64 (.iv 4)), (.str (.tv 1))])] [] (.tup [(.agg [(.int .u8 (.iv 7)), (.int .i64 (.iv 8)), (.str (.tv 3))]), (.int .i64 (.iv 9))]) ⟨3, 0, 0, 1, 0, 0, 0⟩ t_is_1))))
theorem x_is : xfn Tryd.prog { ex := false, inl := [16, 18, 12, 29, 21, 22], loops := [] } Tryd.f24 [(.int .u8 (.iv 0)), (.agg [(.int .u8 (.iv 1)), (.int .i64 (.iv 2)), (.str (.tv 0))]), (.agg [(.int .u8 (.iv 3)), (.int .i64 (.iv 4)), (.str (.tv 1))]), (.agg [(.int .u8 (.iv 5)), (.int .i64 (.iv 6)), (.str (.tv 2))])] [] ⟨7, 0, 0, 3, 0, 0, 0⟩ = some t_is := by kernel_rfl
theorem vc_is (i0 i1 i2 i3 i4 i5 i6 : Int) (t0 t1 t2 : ByteArray) (W : Wd) (R : Value → Wd → Prop) (h : t_is.den Tryd.prog W.w.heap.size R [] { I := [i0, i1, i2, i3, i4, i5, i6], T := [t0, t1, t2] } W) : CallsI Tryd.prog 24 #[.int .u8 i0, .agg #[.int .u8 i1, .int .i64 i2, .string t0], .agg #[.int .u8 i3, .int .i64 i4, .string t1], .agg #[.int .u8 i5, .int .i64 i6, .string t2]] W R :=
  fn_calls Tryd.func24 _ _ { I := [i0, i1, i2, i3, i4, i5, i6], T := [t0, t1, t2] } _ x_is (fun v hv => by cases hv) h

-- callboard/callboardlaw09.no
@[reducible] def t_no_1 : Tree := (.new (.wr (.ret (.bool (.bin .band (.bin .ieq (.iv 8) (.iv 5)) (.bin .band (.bin .ieq (.iv 6) (.il 0)) (.bin .band (.bin .ieq (.iv 7) (.il 0)) (.bin .teq (.tv 2) (.tl [])))))) [])))
@[reducible] def t_no : Tree :=
(.new (.new (.call 25 [(.int .u8 (.iv 0)), (.agg [(.int .u8 (.iv 1)), (.int .i64 (.iv 2)), (.str (.tv 0))]), (.agg [(.int .u8 (.iv 3)), (.int .i64 (.iv 4)), (.str (.tv 1))])] [] (.tup [(.agg [(.int .u8 (.iv 6)), (.int .i64 (.iv 7)), (.str (.tv 2))]), (.int .i64 (.iv 8))]) ⟨3, 0, 0, 1, 0, 0, 0⟩ t_no_1)))
theorem x_no : xfn Tryd.prog { ex := false, inl := [16, 18, 12, 29, 21, 22], loops := [] } Tryd.f23 [(.int .u8 (.iv 0)), (.agg [(.int .u8 (.iv 1)), (.int .i64 (.iv 2)), (.str (.tv 0))]), (.agg [(.int .u8 (.iv 3)), (.int .i64 (.iv 4)), (.str (.tv 1))]), (.int .i64 (.iv 5))] [] ⟨6, 0, 0, 2, 0, 0, 0⟩ = some t_no := by kernel_rfl
theorem vc_no (i0 i1 i2 i3 i4 i5 : Int) (t0 t1 : ByteArray) (W : Wd) (R : Value → Wd → Prop) (h : t_no.den Tryd.prog W.w.heap.size R [] { I := [i0, i1, i2, i3, i4, i5], T := [t0, t1] } W) : CallsI Tryd.prog 23 #[.int .u8 i0, .agg #[.int .u8 i1, .int .i64 i2, .string t0], .agg #[.int .u8 i3, .int .i64 i4, .string t1], .int .i64 i5] W R :=
  fn_calls Tryd.func23 _ _ { I := [i0, i1, i2, i3, i4, i5], T := [t0, t1] } _ x_no (fun v hv => by cases hv) h

-- callboard/callboardlaw09.works
@[reducible] def t_works_1 : Tree := (.grow (.grow (.call 23 [(.int .u8 (.il 9)), (.agg [(.int .u8 (.il 1)), (.int .i64 (.il 1)), (.str (.tl []))]), (.agg [(.int .u8 (.il 3)), (.int .i64 (.il 0)), (.str (.tl [97]))]), (.int .i64 (.il 23))] [] (.bool (.bv 6)) ⟨0, 0, 1, 0, 0, 0, 0⟩ (.ret (.bool (.bv 6)) []))))
@[reducible] def t_works_2 : Tree := (.grow (.grow (.grow (.call 24 [(.int .u8 (.il 8)), (.agg [(.int .u8 (.il 3)), (.int .i64 (.il 0)), (.str (.tl [97]))]), (.agg [(.int .u8 (.il 3)), (.int .i64 (.il 0)), (.str (.tl [98]))]), (.agg [(.int .u8 (.il 3)), (.int .i64 (.il 0)), (.str (.tl [97, 98]))])] [] (.bool (.bv 5)) ⟨0, 0, 1, 0, 0, 0, 0⟩ (.br (.bv 5) t_works_1 (.ret (.bool (.bl false)) []))))))
@[reducible] def t_works_3 : Tree := (.grow (.grow (.call 23 [(.int .u8 (.il 6)), (.agg [(.int .u8 (.il 1)), (.int .i64 (.il 1)), (.str (.tl []))]), (.agg [(.int .u8 (.il 1)), (.int .i64 (.il 0)), (.str (.tl []))]), (.int .i64 (.il 21))] [] (.bool (.bv 4)) ⟨0, 0, 1, 0, 0, 0, 0⟩ (.br (.bv 4) t_works_2 (.ret (.bool (.bl false)) [])))))
@[reducible] def t_works_4 : Tree := (.grow (.grow (.call 23 [(.int .u8 (.il 6)), (.agg [(.int .u8 (.il 1)), (.int .i64 (.il (-9223372036854775808))), (.str (.tl []))]), (.agg [(.int .u8 (.il 1)), (.int .i64 (.il (-1))), (.str (.tl []))]), (.int .i64 (.il 20))] [] (.bool (.bv 3)) ⟨0, 0, 1, 0, 0, 0, 0⟩ (.br (.bv 3) t_works_3 (.ret (.bool (.bl false)) [])))))
@[reducible] def t_works_5 : Tree := (.grow (.grow (.grow (.call 24 [(.int .u8 (.il 7)), (.agg [(.int .u8 (.il 1)), (.int .i64 (.il (-7))), (.str (.tl []))]), (.agg [(.int .u8 (.il 1)), (.int .i64 (.il 2)), (.str (.tl []))]), (.agg [(.int .u8 (.il 1)), (.int .i64 (.il (-1))), (.str (.tl []))])] [] (.bool (.bv 2)) ⟨0, 0, 1, 0, 0, 0, 0⟩ (.br (.bv 2) t_works_4 (.ret (.bool (.bl false)) []))))))
@[reducible] def t_works_6 : Tree := (.grow (.grow (.grow (.call 24 [(.int .u8 (.il 6)), (.agg [(.int .u8 (.il 1)), (.int .i64 (.il (-7))), (.str (.tl []))]), (.agg [(.int .u8 (.il 1)), (.int .i64 (.il 2)), (.str (.tl []))]), (.agg [(.int .u8 (.il 1)), (.int .i64 (.il (-3))), (.str (.tl []))])] [] (.bool (.bv 1)) ⟨0, 0, 1, 0, 0, 0, 0⟩ (.br (.bv 1) t_works_5 (.ret (.bool (.bl false)) []))))))
@[reducible] def t_works : Tree :=
(.grow (.grow (.call 23 [(.int .u8 (.il 8)), (.agg [(.int .u8 (.il 1)), (.int .i64 (.il 9223372036854775807)), (.str (.tl []))]), (.agg [(.int .u8 (.il 1)), (.int .i64 (.il 1)), (.str (.tl []))]), (.int .i64 (.il 20))] [] (.bool (.bv 0)) ⟨0, 0, 1, 0, 0, 0, 0⟩ (.br (.bv 0) t_works_6 (.ret (.bool (.bl false)) [])))))
theorem x_works : xfn Tryd.prog { ex := false, inl := [16, 18, 12, 29, 21, 22], loops := [] } Tryd.f20 [] [] ⟨0, 0, 0, 0, 0, 0, 0⟩ = some t_works := by kernel_rfl
theorem vc_works  (W : Wd) (R : Value → Wd → Prop) (h : t_works.den Tryd.prog W.w.heap.size R [] {  } W) : CallsI Tryd.prog 20 #[] W R :=
  fn_calls Tryd.func20 _ _ {  } _ x_works (fun v hv => by cases hv) h

end Go.Proofs.YtpekccomahikbaaDoor
