/- What is left to show of functions, as the walk that the kernel computes finds it (written by wip/vc2.py). -/
import Derived.Test.YtckgdgkkmhochaaDoorProg
import Derived.Test.YtckgdgkkmhochaaDoorSfD
namespace Go.Proofs.YtckgdgkkmhochaaDoor
open Go Go.RowKit Go.SF
set_option maxRecDepth 100000

-- callboard/parse.Parse
@[reducible] def t_parse_1 : Tree := (.wr (.ret (.tup [(.agg [(.int .u8 (.il 0)), (.int .u8 (.il 0)), (.int .i64 (.il 0)), (.str (.tl [])), (.str (.tl [])), .nils]), (.int .i64 (.iv 0))]) [] [] []))
@[reducible] def t_parse_2 : Tree := (.wr (.ret (.tup [(.agg [(.int .u8 (.il 0)), (.int .u8 (.il 0)), (.int .i64 (.il 0)), (.str (.tl [])), (.str (.tl [])), .nils]), (.int .i64 (.il 4))]) [] [] []))
@[reducible] def t_parse_3 : Tree := (.wr (.ret (.tup [(.agg [(.int .u8 (.il 0)), (.int .u8 (.il 0)), (.int .i64 (.il 0)), (.str (.tl [])), (.str (.tl [])), .nils]), (.int .i64 (.il 40))]) [] [] []))
@[reducible] def t_parse_4 : Tree := (.wr (.ret (.tup [(.agg [(.int .u8 (.iv 1)), (.int .u8 (.iv 2)), (.int .i64 (.iv 3)), (.str (.tv 1)), (.str (.tv 2)), (.slc 1 (.nv 2) (.nv 3))]), (.int .i64 (.il 0))]) [] [] []))
@[reducible] def t_parse_5 : Tree := (.call 9 [(.agg [(.int .u8 (.iv 1)), (.int .u8 (.iv 2)), (.int .i64 (.iv 3)), (.str (.tv 1)), (.str (.tv 2)), (.slc 1 (.nv 2) (.nv 3))])] [] [] [] (.int .i64 (.iv 4)) ⟨1, 0, 0, 0, 0, 0, 0, 0⟩ (.br (.bin .lt (.il 16) (.iv 4)) t_parse_3 t_parse_4))
@[reducible] def t_parse_6 : Tree := (.call 8 [(.slc 0 (.nv 0) (.nv 1))] [] [] [] (.tup [(.agg [(.int .u8 (.iv 1)), (.int .u8 (.iv 2)), (.int .i64 (.iv 3)), (.str (.tv 1)), (.str (.tv 2)), (.slc 1 (.nv 2) (.nv 3))]), (.bool (.bv 0))]) ⟨3, 2, 1, 2, 0, 1, 0, 0⟩ (.new (.wr (.br (.un .not (.bv 0)) t_parse_2 t_parse_5))))
@[reducible] def t_parse : Tree :=
(.new (.call 7 [(.str (.tv 0))] [] [] [] (.tup [(.slc 0 (.nv 0) (.nv 1)), (.int .i64 (.iv 0))]) ⟨1, 2, 0, 0, 0, 1, 0, 0⟩ (.br (.un .not (.bin .ieq (.iv 0) (.il 0))) t_parse_1 t_parse_6)))
theorem x_parse : xfn Tryd.prog { ex := false, inl := [], loops := [], unroll := [], mu := [], mus := [], stays := [], rowT := [], rwx := false, rws := [] } Tryd.f4 [(.str (.tv 0))] [] [] ⟨0, 0, 0, 1, 0, 0, 0, 0⟩ = some t_parse := by kernel_rfl
theorem vc_parse (t0 : ByteArray) (W : Wd) (R : Ending → World → Prop) (h : t_parse.den Tryd.prog W.w.heap.size R [] { T := [t0] } W) : CallsE Tryd.prog 4 #[.string t0] W R :=
  fn_calls Tryd.func4 _ _ { T := [t0] } _ x_parse (fun v hv => by cases hv) h

-- callboard/callboardref11.Same
@[reducible] def t_same_1 : Tree := (.grow (.br (.un .not (.bv 0)) (.ret (.bool (.bl false)) [] [] []) (.again 0 [(.int .i64 (.un (.wrap .i64) (.bin .add (.iv 6) (.il 1))))] [])))
@[reducible] def t_same_2 : Tree := (.callq 6 [(.agg [(.int .u8 (.iv 7)), (.int .u8 (.iv 8)), (.int .i64 (.iv 9)), (.str (.tv 4)), (.str (.tv 5)), (.slc 2 (.nv 4) (.nv 5))]), (.agg [(.int .u8 (.iv 10)), (.int .u8 (.iv 11)), (.int .i64 (.iv 12)), (.str (.tv 6)), (.str (.tv 7)), (.slc 3 (.nv 6) (.nv 7))])] [] [] (.bool (.bv 0)) ⟨0, 0, 1, 0, 0, 0, 0, 0⟩ t_same_1)
@[reducible] def t_same_3 : Tree := (.chk (.sm 1) (.chk (.bin .lt (.iv 6) (.nv 2)) (.look 26 (.elt 1 (.iv 6) 6 0) (.agg [(.int .u8 (.iv 10)), (.int .u8 (.iv 11)), (.int .i64 (.iv 12)), (.str (.tv 6)), (.str (.tv 7)), (.slc 3 (.nv 6) (.nv 7))]) ⟨3, 2, 0, 2, 0, 1, 0, 0⟩ t_same_2)))
@[reducible] def t_same_4 : Tree := (.chk (.sm 0) (.chk (.bin .le (.il 0) (.iv 6)) (.look 26 (.elt 0 (.iv 6) 6 0) (.agg [(.int .u8 (.iv 7)), (.int .u8 (.iv 8)), (.int .i64 (.iv 9)), (.str (.tv 4)), (.str (.tv 5)), (.slc 2 (.nv 4) (.nv 5))]) ⟨3, 2, 0, 2, 0, 1, 0, 0⟩ t_same_3)))
@[reducible] def t_same_5 : Tree := (.loop [(.int .i64 (.il 0))] [] [(.int .i64 (.iv 6))] [] ⟨1, 0, 0, 0, 0, 0, 0, 0⟩ (.br (.bin .lt (.iv 6) (.nv 0)) t_same_4 (.ret (.bool (.bl true)) [] [] [])))
@[reducible] def t_same : Tree :=
(.new (.new (.br (.bin .bor (.bin .bor (.bin .bor (.un .not (.bin .ieq (.iv 0) (.iv 3))) (.un .not (.bin .band (.bin .ieq (.iv 1) (.iv 4)) (.bin .band (.bin .ieq (.iv 2) (.iv 5)) (.bin .teq (.tv 0) (.tv 2)))))) (.un .not (.bin .teq (.tv 1) (.tv 3)))) (.un .not (.bin .ieq (.nv 0) (.nv 2)))) (.ret (.bool (.bl false)) [] [] []) t_same_5)))
theorem x_same : xfn Tryd.prog { ex := false, inl := [], loops := [⟨4, [.tm 5]⟩], unroll := [], mu := [], mus := [], stays := [], rowT := [], rwx := false, rws := [] } Tryd.f6 [(.agg [(.int .u8 (.iv 0)), (.int .u8 (.iv 1)), (.int .i64 (.iv 2)), (.str (.tv 0)), (.str (.tv 1)), (.slc 0 (.nv 0) (.nv 1))]), (.agg [(.int .u8 (.iv 3)), (.int .u8 (.iv 4)), (.int .i64 (.iv 5)), (.str (.tv 2)), (.str (.tv 3)), (.slc 1 (.nv 2) (.nv 3))])] [] [] ⟨6, 4, 0, 4, 0, 2, 0, 0⟩ = some t_same := by kernel_rfl
theorem vc_same (i0 i1 i2 i3 i4 i5 : Int) (n0 n1 n2 n3 : Nat) (t0 t1 t2 t3 : ByteArray) (a0 a1 : Option Addr) (W : Wd) (R : Ending → World → Prop) (h : t_same.den Tryd.prog W.w.heap.size R [] { I := [i0, i1, i2, i3, i4, i5], N := [n0, n1, n2, n3], T := [t0, t1, t2, t3], A := [a0, a1] } W) : CallsE Tryd.prog 6 #[.agg #[.int .u8 i0, .int .u8 i1, .int .i64 i2, .string t0, .string t1, .slice a0 n0 n1], .agg #[.int .u8 i3, .int .u8 i4, .int .i64 i5, .string t2, .string t3, .slice a1 n2 n3]] W R :=
  fn_calls Tryd.func6 _ _ { I := [i0, i1, i2, i3, i4, i5], N := [n0, n1, n2, n3], T := [t0, t1, t2, t3], A := [a0, a1] } _ x_same (fun v hv => by cases hv) h

end Go.Proofs.YtckgdgkkmhochaaDoor
