/- What is left to show of functions, as the walk that the kernel computes finds it (written by wip/vc2.py). -/
import Derived.Test.YtijinopghlpdbaaGreatDoorProg
import Derived.Test.YtijinopghlpdbaaGreatDoorSfD
namespace Go.Proofs.YtijinopghlpdbaaGreatDoor
open Go Go.RowKit Go.SF
set_option maxRecDepth 100000

-- callboard/callboardref09.May
@[reducible] def t_xmay_1 : Tree := (.ret (.bool (.bin .band (.bin .ieq (.iv 1) (.il 0)) (.bin .teq (.tv 0) (.tl [])))) [] [] [])
@[reducible] def t_xmay_2 : Tree := (.ret (.bool (.bin .band (.bin .bor (.bin .ieq (.iv 1) (.il 0)) (.bin .ieq (.iv 1) (.il 1))) (.bin .teq (.tv 0) (.tl [])))) [] [] [])
@[reducible] def t_xmay_3 : Tree := (.chk (.bin .le (.il 0) (.iv 2)) (.br (.bin .bor (.bin .bor (.bin .lt (.bin .byte (.tv 0) (.iv 2)) (.il 32)) (.bin .lt (.il 126) (.bin .byte (.tv 0) (.iv 2)))) (.bin .ieq (.bin .byte (.tv 0) (.iv 2)) (.il 39))) (.ret (.bool (.bl false)) [] [] []) (.again 0 [(.int .i64 (.un (.wrap .i64) (.bin .add (.iv 2) (.il 1))))] [])))
@[reducible] def t_xmay_4 : Tree := (.ret (.bool (.bin .band (.bin .ieq (.iv 1) (.il 0)) (.bin .le (.un .len (.tv 0)) (.il 40)))) [] [] [])
@[reducible] def t_xmay_5 : Tree := (.loop [(.int .i64 (.il 0))] [] [(.int .i64 (.iv 2))] [] ⟨1, 0, 0, 0, 0, 0, 0, 0⟩ (.br (.bin .lt (.iv 2) (.un .len (.tv 0))) t_xmay_3 t_xmay_4))
@[reducible] def t_xmay_6 : Tree := (.br (.bin .ieq (.iv 0) (.il 2)) t_xmay_2 (.br (.bin .ieq (.iv 0) (.il 3)) t_xmay_5 (.ret (.bool (.bl false)) [] [] [])))
@[reducible] def t_xmay_7 : Tree := (.br (.bin .ieq (.iv 0) (.il 1)) (.ret (.bool (.bin .teq (.tv 0) (.tl []))) [] [] []) t_xmay_6)
@[reducible] def t_xmay : Tree :=
(.new (.br (.bin .ieq (.iv 0) (.il 0)) t_xmay_1 t_xmay_7))
theorem x_xmay : xfn Tryz.prog { ex := false, inl := [], loops := [⟨10, [.tm 3]⟩], unroll := [], mu := [], mus := [], stays := [], rowT := [], rwx := false, rws := [] } Tryz.f39 [(.agg [(.int .u8 (.iv 0)), (.int .i64 (.iv 1)), (.str (.tv 0))])] [] [] ⟨2, 0, 0, 1, 0, 0, 0, 0⟩ = some t_xmay := by kernel_rfl
theorem vc_xmay (i0 i1 : Int) (t0 : ByteArray) (W : Wd) (R : Ending → World → Prop) (h : t_xmay.den Tryz.prog W.w.heap.size R [] { I := [i0, i1], T := [t0] } W) : CallsE Tryz.prog 39 #[.agg #[.int .u8 i0, .int .i64 i1, .string t0]] W R :=
  fn_calls Tryz.func39 _ _ { I := [i0, i1], T := [t0] } _ x_xmay (fun v hv => by cases hv) h

-- callboard/callboardref12.args
@[reducible] def t_xargs_1 : Tree := (.br (.bin .band (.bin .lt (.il 4) (.iv 0)) (.bin .lt (.iv 0) (.il 16))) (.ret (.int .i64 (.il 2)) [] [] []) (.ret (.int .i64 (.il (-1))) [] [] []))
@[reducible] def t_xargs_2 : Tree := (.br (.bin .bor (.bin .bor (.bin .ieq (.iv 0) (.il 3)) (.bin .ieq (.iv 0) (.il 4))) (.bin .ieq (.iv 0) (.il 16))) (.ret (.int .i64 (.il 1)) [] [] []) t_xargs_1)
@[reducible] def t_xargs : Tree :=
(.br (.bin .bor (.bin .ieq (.iv 0) (.il 1)) (.bin .ieq (.iv 0) (.il 2))) (.ret (.int .i64 (.il 0)) [] [] []) t_xargs_2)
theorem x_xargs : xfn Tryz.prog { ex := false, inl := [], loops := [], unroll := [], mu := [], mus := [], stays := [], rowT := [], rwx := false, rws := [] } Tryz.f38 [(.int .u8 (.iv 0))] [] [] ⟨1, 0, 0, 0, 0, 0, 0, 0⟩ = some t_xargs := by kernel_rfl
theorem vc_xargs (i0 : Int) (W : Wd) (R : Ending → World → Prop) (h : t_xargs.den Tryz.prog W.w.heap.size R [] { I := [i0] } W) : CallsE Tryz.prog 38 #[.int .u8 i0] W R :=
  fn_calls Tryz.func38 _ _ { I := [i0] } _ x_xargs (fun v hv => by cases hv) h

-- callboard/callboardref12.whole
@[reducible] def t_xwhole_1 : Tree := (.br (.un .not (.bv 1)) (.ret (.bool (.bl false)) [] [] []) (.again 0 [(.int .i64 (.un (.wrap .i64) (.bin .add (.iv 5) (.il 1))))] []))
@[reducible] def t_xwhole_2 : Tree := (.call 21 [(.agg [(.int .u8 (.iv 6)), (.int .u8 (.iv 7)), (.int .i64 (.iv 8)), (.str (.tv 2)), (.str (.tv 3)), (.slc 1 (.nv 2) (.nv 3))]), (.int .i64 (.un (.wrap .i64) (.bin .sub (.iv 3) (.il 1))))] [] [] [] (.bool (.bv 1)) ⟨0, 0, 1, 0, 0, 0, 0, 0⟩ t_xwhole_1)
@[reducible] def t_xwhole_3 : Tree := (.chk (.sm 0) (.chk (.bin .le (.il 0) (.iv 5)) (.look 26 (.elt 0 (.iv 5) 6 0) (.agg [(.int .u8 (.iv 6)), (.int .u8 (.iv 7)), (.int .i64 (.iv 8)), (.str (.tv 2)), (.str (.tv 3)), (.slc 1 (.nv 2) (.nv 3))]) ⟨3, 2, 0, 2, 0, 1, 0, 0⟩ t_xwhole_2)))
@[reducible] def t_xwhole_4 : Tree := (.loop [(.int .i64 (.il 0))] [] [(.int .i64 (.iv 5))] [] ⟨1, 0, 0, 0, 0, 0, 0, 0⟩ (.br (.bin .lt (.iv 5) (.nv 0)) t_xwhole_3 (.ret (.bool (.bl true)) [] [] [])))
@[reducible] def t_xwhole_5 : Tree := (.callq 39 [(.agg [(.int .u8 (.iv 1)), (.int .i64 (.iv 2)), (.str (.tv 0))])] [] [] (.bool (.bv 0)) ⟨0, 0, 1, 0, 0, 0, 0, 0⟩ (.grow (.br (.un .not (.bv 0)) (.ret (.bool (.bl false)) [] [] []) t_xwhole_4)))
@[reducible] def t_xwhole_6 : Tree := (.br (.un .not (.bv 0)) (.ret (.bool (.bl false)) [] [] []) (.again 0 [(.int .i64 (.un (.wrap .i64) (.bin .add (.iv 5) (.il 1))))] []))
@[reducible] def t_xwhole_7 : Tree := (.call 21 [(.agg [(.int .u8 (.iv 6)), (.int .u8 (.iv 7)), (.int .i64 (.iv 8)), (.str (.tv 2)), (.str (.tv 3)), (.slc 1 (.nv 2) (.nv 3))]), (.int .i64 (.un (.wrap .i64) (.bin .sub (.iv 3) (.il 1))))] [] [] [] (.bool (.bv 0)) ⟨0, 0, 1, 0, 0, 0, 0, 0⟩ t_xwhole_6)
@[reducible] def t_xwhole_8 : Tree := (.chk (.sm 0) (.chk (.bin .le (.il 0) (.iv 5)) (.look 26 (.elt 0 (.iv 5) 6 0) (.agg [(.int .u8 (.iv 6)), (.int .u8 (.iv 7)), (.int .i64 (.iv 8)), (.str (.tv 2)), (.str (.tv 3)), (.slc 1 (.nv 2) (.nv 3))]) ⟨3, 2, 0, 2, 0, 1, 0, 0⟩ t_xwhole_7)))
@[reducible] def t_xwhole_9 : Tree := (.loop [(.int .i64 (.il 0))] [] [(.int .i64 (.iv 5))] [] ⟨1, 0, 0, 0, 0, 0, 0, 0⟩ (.br (.bin .lt (.iv 5) (.nv 0)) t_xwhole_8 (.ret (.bool (.bl true)) [] [] [])))
@[reducible] def t_xwhole_10 : Tree := (.grow (.br (.un .not (.bin .ieq (.nv 0) (.iv 4))) (.ret (.bool (.bl false)) [] [] []) t_xwhole_9))
@[reducible] def t_xwhole_11 : Tree := (.br (.bin .band (.bin .ieq (.nv 0) (.iv 4)) (.bin .ieq (.iv 0) (.il 1))) t_xwhole_5 t_xwhole_10)
@[reducible] def t_xwhole_12 : Tree := (.callq 38 [(.int .u8 (.iv 0))] [] [] (.int .i64 (.iv 4)) ⟨1, 0, 0, 0, 0, 0, 0, 0⟩ t_xwhole_11)
@[reducible] def t_xwhole : Tree :=
(.new (.br (.un .not (.bin .lt (.iv 3) (.il 1))) t_xwhole_12 (.grow (.ret (.bool (.bl false)) [] [] []))))
theorem x_xwhole : xfn Tryz.prog { ex := false, inl := [], loops := [⟨4, [.tm 5]⟩], unroll := [], mu := [], mus := [], stays := [], rowT := [], rwx := false, rws := [] } Tryz.f21 [(.agg [(.int .u8 (.iv 0)), (.int .u8 (.iv 1)), (.int .i64 (.iv 2)), (.str (.tv 0)), (.str (.tv 1)), (.slc 0 (.nv 0) (.nv 1))]), (.int .i64 (.iv 3))] [] [] ⟨4, 2, 0, 2, 0, 1, 0, 0⟩ = some t_xwhole := by kernel_rfl
theorem vc_xwhole (i0 i1 i2 i3 : Int) (n0 n1 : Nat) (t0 t1 : ByteArray) (a0 : Option Addr) (W : Wd) (R : Ending → World → Prop) (h : t_xwhole.den Tryz.prog W.w.heap.size R [] { I := [i0, i1, i2, i3], N := [n0, n1], T := [t0, t1], A := [a0] } W) : CallsE Tryz.prog 21 #[.agg #[.int .u8 i0, .int .u8 i1, .int .i64 i2, .string t0, .string t1, .slice a0 n0 n1], .int .i64 i3] W R :=
  fn_calls Tryz.func21 _ _ { I := [i0, i1, i2, i3], N := [n0, n1], T := [t0, t1], A := [a0] } _ x_xwhole (fun v hv => by cases hv) h

-- callboard/callboardref12.Whole
@[reducible] def t_xWhole : Tree :=
(.new (.call 21 [(.agg [(.int .u8 (.iv 0)), (.int .u8 (.iv 1)), (.int .i64 (.iv 2)), (.str (.tv 0)), (.str (.tv 1)), (.slc 0 (.nv 0) (.nv 1))]), (.int .i64 (.il 16))] [] [] [] (.bool (.bv 0)) ⟨0, 0, 1, 0, 0, 0, 0, 0⟩ (.ret (.bool (.bv 0)) [] [] [])))
theorem x_xWhole : xfn Tryz.prog { ex := false, inl := [], loops := [], unroll := [], mu := [], mus := [], stays := [], rowT := [], rwx := false, rws := [] } Tryz.f11 [(.agg [(.int .u8 (.iv 0)), (.int .u8 (.iv 1)), (.int .i64 (.iv 2)), (.str (.tv 0)), (.str (.tv 1)), (.slc 0 (.nv 0) (.nv 1))])] [] [] ⟨3, 2, 0, 2, 0, 1, 0, 0⟩ = some t_xWhole := by kernel_rfl
theorem vc_xWhole (i0 i1 i2 : Int) (n0 n1 : Nat) (t0 t1 : ByteArray) (a0 : Option Addr) (W : Wd) (R : Ending → World → Prop) (h : t_xWhole.den Tryz.prog W.w.heap.size R [] { I := [i0, i1, i2], N := [n0, n1], T := [t0, t1], A := [a0] } W) : CallsE Tryz.prog 11 #[.agg #[.int .u8 i0, .int .u8 i1, .int .i64 i2, .string t0, .string t1, .slice a0 n0 n1]] W R :=
  fn_calls Tryz.func11 _ _ { I := [i0, i1, i2], N := [n0, n1], T := [t0, t1], A := [a0] } _ x_xWhole (fun v hv => by cases hv) h

-- callboard/callboardref12.typed
@[reducible] def t_xtyped_1 : Tree := (.br (.bin .ieq (.iv 1) (.il 0)) (.ret (.tup [(.int .u8 (.il 0)), (.int .i64 (.il 23))]) [] [] []) (.ret (.tup [(.int .u8 (.iv 1)), (.int .i64 (.il 0))]) [] [] []))
@[reducible] def t_xtyped_2 : Tree := (.look 5 (.elt 1 (.iv 3) 4 1) (.int .u8 (.iv 6)) ⟨1, 0, 0, 0, 0, 0, 0, 0⟩ (.ret (.tup [(.int .u8 (.iv 6)), (.int .i64 (.il 0))]) [] [] []))
@[reducible] def t_xtyped_3 : Tree := (.br (.bin .lt (.il 3) (.iv 5)) (.ret (.tup [(.int .u8 (.il 0)), (.int .i64 (.il 23))]) [] [] []) t_xtyped_2)
@[reducible] def t_xtyped_4 : Tree := (.br (.un .not (.bin .lt (.iv 4) (.il 1))) (.look 5 (.elt 1 (.iv 3) 4 1) (.int .u8 (.iv 5)) ⟨1, 0, 0, 0, 0, 0, 0, 0⟩ t_xtyped_3) (.ret (.tup [(.int .u8 (.il 0)), (.int .i64 (.il 23))]) [] [] []))
@[reducible] def t_xtyped_5 : Tree := (.grow (.br (.bin .teq (.tv 2) (.tv 1)) (.look 5 (.elt 1 (.iv 3) 4 1) (.int .u8 (.iv 4)) ⟨1, 0, 0, 0, 0, 0, 0, 0⟩ t_xtyped_4) (.again 0 [(.int .i64 (.un (.wrap .i64) (.bin .add (.iv 3) (.il 1))))] [])))
@[reducible] def t_xtyped_6 : Tree := (.chk (.sm 1) (.chk (.bin .le (.il 0) (.iv 3)) (.look 9 (.elt 1 (.iv 3) 4 0) (.str (.tv 2)) ⟨0, 0, 0, 1, 0, 0, 0, 0⟩ t_xtyped_5)))
@[reducible] def t_xtyped_7 : Tree := (.br (.bin .lt (.iv 3) (.nv 2)) t_xtyped_6 (.ret (.tup [(.int .u8 (.il 0)), (.int .i64 (.il 22))]) [] [] []))
@[reducible] def t_xtyped_8 : Tree := (.loop [(.int .i64 (.il 0))] [] [(.int .i64 (.iv 3))] [] ⟨1, 0, 0, 0, 0, 0, 0, 0⟩ t_xtyped_7)
@[reducible] def t_xtyped_9 : Tree := (.br (.un .not (.bin .ieq (.iv 6) (.il 1))) (.ret (.tup [(.int .u8 (.il 0)), (.int .i64 (.il 23))]) [] [] []) (.ret (.tup [(.int .u8 (.il 1)), (.int .i64 (.il 0))]) [] [] []))
@[reducible] def t_xtyped_10 : Tree := (.br (.un .not (.bin .ieq (.iv 6) (.il 2))) (.ret (.tup [(.int .u8 (.il 0)), (.int .i64 (.il 23))]) [] [] []) (.ret (.tup [(.int .u8 (.il 2)), (.int .i64 (.il 0))]) [] [] []))
@[reducible] def t_xtyped_11 : Tree := (.br (.un .not (.bin .ieq (.iv 6) (.il 3))) (.ret (.tup [(.int .u8 (.il 0)), (.int .i64 (.il 23))]) [] [] []) (.ret (.tup [(.int .u8 (.il 1)), (.int .i64 (.il 0))]) [] [] []))
@[reducible] def t_xtyped_12 : Tree := (.br (.un .not (.bin .band (.bin .ieq (.iv 6) (.il 1)) (.bin .ieq (.iv 11) (.il 1)))) (.ret (.tup [(.int .u8 (.il 0)), (.int .i64 (.il 23))]) [] [] []) (.ret (.tup [(.int .u8 (.il 1)), (.int .i64 (.il 0))]) [] [] []))
@[reducible] def t_xtyped_13 : Tree := (.br (.un .not (.bin .band (.bin .ieq (.iv 6) (.iv 11)) (.un .not (.bin .ieq (.iv 6) (.il 2))))) (.ret (.tup [(.int .u8 (.il 0)), (.int .i64 (.il 23))]) [] [] []) (.ret (.tup [(.int .u8 (.iv 6)), (.int .i64 (.il 0))]) [] [] []))
@[reducible] def t_xtyped_14 : Tree := (.br (.un .not (.bin .band (.bin .ieq (.iv 6) (.iv 11)) (.un .not (.bin .ieq (.iv 6) (.il 2))))) (.ret (.tup [(.int .u8 (.il 0)), (.int .i64 (.il 23))]) [] [] []) (.ret (.tup [(.int .u8 (.il 2)), (.int .i64 (.il 0))]) [] [] []))
@[reducible] def t_xtyped_15 : Tree := (.br (.un .not (.bin .ieq (.iv 6) (.iv 11))) (.ret (.tup [(.int .u8 (.il 0)), (.int .i64 (.il 23))]) [] [] []) (.ret (.tup [(.int .u8 (.il 2)), (.int .i64 (.il 0))]) [] [] []))
@[reducible] def t_xtyped_16 : Tree := (.br (.un .not (.bin .band (.bin .ieq (.iv 6) (.il 2)) (.bin .ieq (.iv 11) (.il 2)))) (.ret (.tup [(.int .u8 (.il 0)), (.int .i64 (.il 23))]) [] [] []) (.ret (.tup [(.int .u8 (.il 2)), (.int .i64 (.il 0))]) [] [] []))
@[reducible] def t_xtyped_17 : Tree := (.br (.bin .ieq (.iv 0) (.il 11)) t_xtyped_15 (.br (.bin .ieq (.iv 0) (.il 12)) t_xtyped_15 t_xtyped_16))
@[reducible] def t_xtyped_18 : Tree := (.br (.bin .ieq (.iv 0) (.il 9)) t_xtyped_14 (.br (.bin .ieq (.iv 0) (.il 10)) t_xtyped_14 t_xtyped_17))
@[reducible] def t_xtyped_19 : Tree := (.br (.bin .ieq (.iv 0) (.il 15)) t_xtyped_12 (.br (.bin .ieq (.iv 0) (.il 8)) t_xtyped_13 t_xtyped_18))
@[reducible] def t_xtyped_20 : Tree := (.br (.bin .ieq (.iv 0) (.il 6)) t_xtyped_12 (.br (.bin .ieq (.iv 0) (.il 7)) t_xtyped_12 t_xtyped_19))
@[reducible] def t_xtyped_21 : Tree := (.br (.bin .ieq (.iv 0) (.il 16)) t_xtyped_11 (.br (.bin .ieq (.iv 0) (.il 5)) t_xtyped_12 t_xtyped_20))
@[reducible] def t_xtyped_22 : Tree := (.br (.bin .ieq (.iv 0) (.il 3)) t_xtyped_9 (.br (.bin .ieq (.iv 0) (.il 4)) t_xtyped_10 t_xtyped_21))
@[reducible] def t_xtyped_23 : Tree := (.br (.un .not (.bin .ieq (.iv 12) (.il 0))) (.ret (.tup [(.int .u8 (.il 0)), (.int .i64 (.iv 12))]) [] [] []) t_xtyped_22)
@[reducible] def t_xtyped_24 : Tree := (.call 19 [(.agg [(.int .u8 (.iv 8)), (.int .u8 (.iv 9)), (.int .i64 (.iv 10)), (.str (.tv 4)), (.str (.tv 5)), (.slc 3 (.nv 6) (.nv 7))]), (.slc 1 (.nv 2) (.nv 3))] [] [] [] (.tup [(.int .u8 (.iv 11)), (.int .i64 (.iv 12))]) ⟨2, 0, 0, 0, 0, 0, 0, 0⟩ t_xtyped_23)
@[reducible] def t_xtyped_25 : Tree := (.chk (.bin .le (.il 0) (.il 1)) (.chk (.bin .lt (.il 1) (.nv 0)) (.look 26 (.elt 0 (.il 1) 6 0) (.agg [(.int .u8 (.iv 8)), (.int .u8 (.iv 9)), (.int .i64 (.iv 10)), (.str (.tv 4)), (.str (.tv 5)), (.slc 3 (.nv 6) (.nv 7))]) ⟨3, 2, 0, 2, 0, 1, 0, 0⟩ t_xtyped_24)))
@[reducible] def t_xtyped_26 : Tree := (.br (.un .not (.bin .band (.bin .ieq (.iv 6) (.il 1)) (.bin .ieq (.iv 6) (.il 1)))) (.ret (.tup [(.int .u8 (.il 0)), (.int .i64 (.il 23))]) [] [] []) (.ret (.tup [(.int .u8 (.il 1)), (.int .i64 (.il 0))]) [] [] []))
@[reducible] def t_xtyped_27 : Tree := (.br (.un .not (.bin .band (.bin .ieq (.iv 6) (.iv 6)) (.un .not (.bin .ieq (.iv 6) (.il 2))))) (.ret (.tup [(.int .u8 (.il 0)), (.int .i64 (.il 23))]) [] [] []) (.ret (.tup [(.int .u8 (.iv 6)), (.int .i64 (.il 0))]) [] [] []))
@[reducible] def t_xtyped_28 : Tree := (.br (.un .not (.bin .band (.bin .ieq (.iv 6) (.iv 6)) (.un .not (.bin .ieq (.iv 6) (.il 2))))) (.ret (.tup [(.int .u8 (.il 0)), (.int .i64 (.il 23))]) [] [] []) (.ret (.tup [(.int .u8 (.il 2)), (.int .i64 (.il 0))]) [] [] []))
@[reducible] def t_xtyped_29 : Tree := (.br (.un .not (.bin .ieq (.iv 6) (.iv 6))) (.ret (.tup [(.int .u8 (.il 0)), (.int .i64 (.il 23))]) [] [] []) (.ret (.tup [(.int .u8 (.il 2)), (.int .i64 (.il 0))]) [] [] []))
@[reducible] def t_xtyped_30 : Tree := (.br (.un .not (.bin .band (.bin .ieq (.iv 6) (.il 2)) (.bin .ieq (.iv 6) (.il 2)))) (.ret (.tup [(.int .u8 (.il 0)), (.int .i64 (.il 23))]) [] [] []) (.ret (.tup [(.int .u8 (.il 2)), (.int .i64 (.il 0))]) [] [] []))
@[reducible] def t_xtyped_31 : Tree := (.br (.bin .ieq (.iv 0) (.il 11)) t_xtyped_29 (.br (.bin .ieq (.iv 0) (.il 12)) t_xtyped_29 t_xtyped_30))
@[reducible] def t_xtyped_32 : Tree := (.br (.bin .ieq (.iv 0) (.il 9)) t_xtyped_28 (.br (.bin .ieq (.iv 0) (.il 10)) t_xtyped_28 t_xtyped_31))
@[reducible] def t_xtyped_33 : Tree := (.br (.bin .ieq (.iv 0) (.il 15)) t_xtyped_26 (.br (.bin .ieq (.iv 0) (.il 8)) t_xtyped_27 t_xtyped_32))
@[reducible] def t_xtyped_34 : Tree := (.br (.bin .ieq (.iv 0) (.il 6)) t_xtyped_26 (.br (.bin .ieq (.iv 0) (.il 7)) t_xtyped_26 t_xtyped_33))
@[reducible] def t_xtyped_35 : Tree := (.br (.bin .ieq (.iv 0) (.il 16)) t_xtyped_11 (.br (.bin .ieq (.iv 0) (.il 5)) t_xtyped_26 t_xtyped_34))
@[reducible] def t_xtyped_36 : Tree := (.br (.bin .ieq (.iv 0) (.il 3)) t_xtyped_9 (.br (.bin .ieq (.iv 0) (.il 4)) t_xtyped_10 t_xtyped_35))
@[reducible] def t_xtyped_37 : Tree := (.br (.un .not (.bin .ieq (.iv 7) (.il 0))) (.ret (.tup [(.int .u8 (.il 0)), (.int .i64 (.iv 7))]) [] [] []) (.br (.bin .ieq (.nv 0) (.il 2)) t_xtyped_25 t_xtyped_36))
@[reducible] def t_xtyped_38 : Tree := (.call 19 [(.agg [(.int .u8 (.iv 3)), (.int .u8 (.iv 4)), (.int .i64 (.iv 5)), (.str (.tv 2)), (.str (.tv 3)), (.slc 2 (.nv 4) (.nv 5))]), (.slc 1 (.nv 2) (.nv 3))] [] [] [] (.tup [(.int .u8 (.iv 6)), (.int .i64 (.iv 7))]) ⟨2, 0, 0, 0, 0, 0, 0, 0⟩ t_xtyped_37)
@[reducible] def t_xtyped_39 : Tree := (.chk (.sm 0) (.chk (.bin .le (.il 0) (.il 0)) (.chk (.bin .lt (.il 0) (.nv 0)) (.look 26 (.elt 0 (.il 0) 6 0) (.agg [(.int .u8 (.iv 3)), (.int .u8 (.iv 4)), (.int .i64 (.iv 5)), (.str (.tv 2)), (.str (.tv 3)), (.slc 2 (.nv 4) (.nv 5))]) ⟨3, 2, 0, 2, 0, 1, 0, 0⟩ t_xtyped_38))))
@[reducible] def t_xtyped : Tree :=
(.new (.br (.bin .ieq (.iv 0) (.il 1)) t_xtyped_1 (.br (.bin .ieq (.iv 0) (.il 2)) t_xtyped_8 t_xtyped_39)))
theorem x_xtyped : xfn Tryz.prog { ex := false, inl := [], loops := [⟨7, [.tm 6]⟩], unroll := [], mu := [], mus := [], stays := [], rowT := [], rwx := false, rws := [] } Tryz.f19 [(.agg [(.int .u8 (.iv 0)), (.int .u8 (.iv 1)), (.int .i64 (.iv 2)), (.str (.tv 0)), (.str (.tv 1)), (.slc 0 (.nv 0) (.nv 1))]), (.slc 1 (.nv 2) (.nv 3))] [] [] ⟨3, 4, 0, 2, 0, 2, 0, 0⟩ = some t_xtyped := by kernel_rfl
theorem vc_xtyped (i0 i1 i2 : Int) (n0 n1 n2 n3 : Nat) (t0 t1 : ByteArray) (a0 a1 : Option Addr) (W : Wd) (R : Ending → World → Prop) (h : t_xtyped.den Tryz.prog W.w.heap.size R [] { I := [i0, i1, i2], N := [n0, n1, n2, n3], T := [t0, t1], A := [a0, a1] } W) : CallsE Tryz.prog 19 #[.agg #[.int .u8 i0, .int .u8 i1, .int .i64 i2, .string t0, .string t1, .slice a0 n0 n1], .slice a1 n2 n3] W R :=
  fn_calls Tryz.func19 _ _ { I := [i0, i1, i2], N := [n0, n1, n2, n3], T := [t0, t1], A := [a0, a1] } _ x_xtyped (fun v hv => by cases hv) h

-- callboard/callboardref12.Type
@[reducible] def t_xType_1 : Tree := (.call 19 [(.agg [(.int .u8 (.iv 0)), (.int .u8 (.iv 1)), (.int .i64 (.iv 2)), (.str (.tv 0)), (.str (.tv 1)), (.slc 0 (.nv 0) (.nv 1))]), (.slc 1 (.nv 2) (.nv 3))] [] [] [] (.tup [(.int .u8 (.iv 3)), (.int .i64 (.iv 4))]) ⟨2, 0, 0, 0, 0, 0, 0, 0⟩ (.ret (.tup [(.int .u8 (.iv 3)), (.int .i64 (.iv 4))]) [] [] []))
@[reducible] def t_xType_2 : Tree := (.br (.un .not (.bv 0)) (.ret (.tup [(.int .u8 (.il 0)), (.int .i64 (.il 4))]) [] [] []) t_xType_1)
@[reducible] def t_xType : Tree :=
(.new (.call 11 [(.agg [(.int .u8 (.iv 0)), (.int .u8 (.iv 1)), (.int .i64 (.iv 2)), (.str (.tv 0)), (.str (.tv 1)), (.slc 0 (.nv 0) (.nv 1))])] [] [] [] (.bool (.bv 0)) ⟨0, 0, 1, 0, 0, 0, 0, 0⟩ t_xType_2))
theorem x_xType : xfn Tryz.prog { ex := false, inl := [], loops := [], unroll := [], mu := [], mus := [], stays := [], rowT := [], rwx := false, rws := [] } Tryz.f9 [(.agg [(.int .u8 (.iv 0)), (.int .u8 (.iv 1)), (.int .i64 (.iv 2)), (.str (.tv 0)), (.str (.tv 1)), (.slc 0 (.nv 0) (.nv 1))]), (.slc 1 (.nv 2) (.nv 3))] [] [] ⟨3, 4, 0, 2, 0, 2, 0, 0⟩ = some t_xType := by kernel_rfl
theorem vc_xType (i0 i1 i2 : Int) (n0 n1 n2 n3 : Nat) (t0 t1 : ByteArray) (a0 a1 : Option Addr) (W : Wd) (R : Ending → World → Prop) (h : t_xType.den Tryz.prog W.w.heap.size R [] { I := [i0, i1, i2], N := [n0, n1, n2, n3], T := [t0, t1], A := [a0, a1] } W) : CallsE Tryz.prog 9 #[.agg #[.int .u8 i0, .int .u8 i1, .int .i64 i2, .string t0, .string t1, .slice a0 n0 n1], .slice a1 n2 n3] W R :=
  fn_calls Tryz.func9 _ _ { I := [i0, i1, i2], N := [n0, n1, n2, n3], T := [t0, t1], A := [a0, a1] } _ x_xType (fun v hv => by cases hv) h

-- callboard/callboardlaw12.TypedNames
@[reducible] def t_lnames_1 : Tree := (.frz [⟨0, 26, [(.int .u8 (.iv 0)), (.int .u8 (.il 0)), (.int .i64 (.il 0)), (.str (.tl [])), (.str (.tl [])), (.slc 2 (.il 1) (.il 2))]⟩] (.again 2 [(.int .i64 (.un (.wrap .i64) (.bin .add (.iv 2) (.il 1))))] []))
@[reducible] def t_lnames_2 : Tree := (.br (.bin .bor (.un .not (.bin .ieq (.iv 7) (.iv 9))) (.un .not (.bin .ieq (.iv 8) (.iv 10)))) (.ret (.bool (.bl false)) [] [] []) t_lnames_1)
@[reducible] def t_lnames_3 : Tree := (.call 9 [(.agg [(.int .u8 (.iv 0)), (.int .u8 (.il 0)), (.int .i64 (.il 0)), (.str (.tl [])), (.str (.tl [])), (.slc 2 (.il 1) (.il 2))]), .nils] [] [] [] (.tup [(.int .u8 (.iv 9)), (.int .i64 (.iv 10))]) ⟨2, 0, 0, 0, 0, 0, 0, 0⟩ t_lnames_2)
@[reducible] def t_lnames_4 : Tree := (.sub 1 (.il 0) (.il 1) (.il 2) 6 (.wr (.call 8 [(.agg [(.int .u8 (.iv 0)), (.int .u8 (.il 0)), (.int .i64 (.il 0)), (.str (.tl [])), (.str (.tl [])), (.slc 2 (.il 1) (.il 2))]), .nils] [] [] [] (.tup [(.int .u8 (.iv 7)), (.int .i64 (.iv 8))]) ⟨2, 0, 0, 0, 0, 0, 0, 0⟩ t_lnames_3)))
@[reducible] def t_lnames_5 : Tree := (.frz [⟨0, 26, [(.int .u8 (.iv 0)), (.int .u8 (.il 0)), (.int .i64 (.il 0)), (.str (.tl [])), (.str (.tl [])), (.slc 1 (.il 2) (.il 2))]⟩] (.again 2 [(.int .i64 (.un (.wrap .i64) (.bin .add (.iv 2) (.il 1))))] []))
@[reducible] def t_lnames_6 : Tree := (.br (.bin .bor (.un .not (.bin .ieq (.iv 7) (.iv 9))) (.un .not (.bin .ieq (.iv 8) (.iv 10)))) (.ret (.bool (.bl false)) [] [] []) t_lnames_5)
@[reducible] def t_lnames_7 : Tree := (.call 9 [(.agg [(.int .u8 (.iv 0)), (.int .u8 (.il 0)), (.int .i64 (.il 0)), (.str (.tl [])), (.str (.tl [])), (.slc 1 (.il 2) (.il 2))]), .nils] [] [] [] (.tup [(.int .u8 (.iv 9)), (.int .i64 (.iv 10))]) ⟨2, 0, 0, 0, 0, 0, 0, 0⟩ t_lnames_6)
@[reducible] def t_lnames_8 : Tree := (.call 8 [(.agg [(.int .u8 (.iv 0)), (.int .u8 (.il 0)), (.int .i64 (.il 0)), (.str (.tl [])), (.str (.tl [])), (.slc 1 (.il 2) (.il 2))]), .nils] [] [] [] (.tup [(.int .u8 (.iv 7)), (.int .i64 (.iv 8))]) ⟨2, 0, 0, 0, 0, 0, 0, 0⟩ t_lnames_7)
@[reducible] def t_lnames_9 : Tree := (.grow (.newf 26 [(.int .u8 (.il 1)), (.int .u8 (.iv 3)), (.int .i64 (.iv 4)), (.str (.tv 0)), (.str (.tl [])), .nils, (.int .u8 (.il 1)), (.int .u8 (.iv 5)), (.int .i64 (.iv 6)), (.str (.tv 1)), (.str (.tl [])), .nils] (.grow (.new (.grow (.wr (.br (.bin .bor (.bin .bor (.bin .ieq (.iv 0) (.il 3)) (.bin .ieq (.iv 0) (.il 4))) (.bin .ieq (.iv 0) (.il 16))) t_lnames_4 t_lnames_8)))))))
@[reducible] def t_lnames_10 : Tree := (.grow (.new (.grow (.newf 26 [(.int .u8 (.il 1)), (.int .u8 (.iv 3)), (.int .i64 (.iv 4)), (.str (.tv 0)), (.str (.tl [])), .nils, (.int .u8 (.il 1)), (.int .u8 (.iv 5)), (.int .i64 (.iv 6)), (.str (.tv 1)), (.str (.tl [])), .nils] (.grow (.wr (.br (.bin .bor (.bin .bor (.bin .ieq (.iv 0) (.il 3)) (.bin .ieq (.iv 0) (.il 4))) (.bin .ieq (.iv 0) (.il 16))) t_lnames_4 t_lnames_8)))))))
@[reducible] def t_lnames_11 : Tree := (.chk (.bin .le (.il 0) (.iv 2)) (.look 23 (.elt 0 (.iv 2) 3 0) (.agg [(.int .u8 (.iv 5)), (.int .i64 (.iv 6)), (.str (.tv 1))]) ⟨2, 0, 0, 1, 0, 0, 0, 0⟩ (.both t_lnames_9 t_lnames_10)))
@[reducible] def t_lnames_12 : Tree := (.chk (.sm 0) (.chk (.bin .le (.il 0) (.iv 1)) (.look 23 (.elt 0 (.iv 1) 3 0) (.agg [(.int .u8 (.iv 3)), (.int .i64 (.iv 4)), (.str (.tv 0))]) ⟨2, 0, 0, 1, 0, 0, 0, 0⟩ t_lnames_11)))
@[reducible] def t_lnames_13 : Tree := (.br (.bin .lt (.iv 2) (.il 3)) t_lnames_12 (.again 1 [(.int .i64 (.un (.wrap .i64) (.bin .add (.iv 1) (.il 1))))] []))
@[reducible] def t_lnames_14 : Tree := (.loop [(.int .i64 (.il 0))] [] [(.int .i64 (.iv 2))] [] ⟨1, 0, 0, 0, 0, 0, 0, 0⟩ t_lnames_13)
@[reducible] def t_lnames_15 : Tree := (.br (.bin .lt (.iv 1) (.il 3)) t_lnames_14 (.again 0 [(.int .u8 (.un (.wrap .u8) (.bin .add (.iv 0) (.il 1))))] []))
@[reducible] def t_lnames_16 : Tree := (.loop [(.int .i64 (.il 0))] [] [(.int .i64 (.iv 1))] [] ⟨1, 0, 0, 0, 0, 0, 0, 0⟩ t_lnames_15)
@[reducible] def t_lnames_17 : Tree := (.newf 26 [(.int .u8 (.iv 4)), (.int .u8 (.iv 5)), (.int .i64 (.iv 6)), (.str (.tv 1)), (.str (.tv 2)), (.slc 1 (.nv 0) (.nv 1))] (.wr (.again 1 [(.int .i64 (.un (.wrap .i64) (.bin .add (.iv 3) (.il 1)))), (.int .u8 (.il 3)), (.int .u8 (.il 0)), (.int .i64 (.il 0)), (.str (.tl [])), (.str (.tl [])), (.slc 2 (.il 1) (.il 1))] [])))
@[reducible] def t_lnames_18 : Tree := (.frz [⟨2, 26, [(.int .u8 (.iv 8)), (.int .u8 (.iv 9)), (.int .i64 (.iv 10)), (.str (.tv 3)), (.str (.tv 4)), (.slc 6 (.nv 2) (.nv 3))]⟩] (.again 2 [(.int .i64 (.un (.wrap .i64) (.bin .add (.iv 7) (.il 1))))] []))
@[reducible] def t_lnames_19 : Tree := (.br (.bin .bor (.bv 0) (.un .not (.bin .ieq (.iv 12) (.il 4)))) (.ret (.bool (.bl false)) [] [] []) t_lnames_18)
@[reducible] def t_lnames_20 : Tree := (.call 10 [(.agg [(.int .u8 (.iv 8)), (.int .u8 (.iv 9)), (.int .i64 (.iv 10)), (.str (.tv 3)), (.str (.tv 4)), (.slc 6 (.nv 2) (.nv 3))])] [] [] [] (.bool (.bv 0)) ⟨0, 0, 1, 0, 0, 0, 0, 0⟩ t_lnames_19)
@[reducible] def t_lnames_21 : Tree := (.new (.wr (.call 8 [(.agg [(.int .u8 (.iv 8)), (.int .u8 (.iv 9)), (.int .i64 (.iv 10)), (.str (.tv 3)), (.str (.tv 4)), (.slc 6 (.nv 2) (.nv 3))]), .nils] [] [] [] (.tup [(.int .u8 (.iv 11)), (.int .i64 (.iv 12))]) ⟨2, 0, 0, 0, 0, 0, 0, 0⟩ t_lnames_20)))
@[reducible] def t_lnames_22 : Tree := (.chk (.sm 5) (.chk (.bin .le (.il 0) (.iv 7)) (.look 26 (.elt 5 (.iv 7) 6 0) (.agg [(.int .u8 (.iv 8)), (.int .u8 (.iv 9)), (.int .i64 (.iv 10)), (.str (.tv 3)), (.str (.tv 4)), (.slc 6 (.nv 2) (.nv 3))]) ⟨3, 2, 0, 2, 0, 1, 0, 0⟩ t_lnames_21)))
@[reducible] def t_lnames_23 : Tree := (.call 7 [] [] [] [] (.bool (.bv 0)) ⟨0, 0, 1, 0, 0, 0, 0, 0⟩ (.ret (.bool (.bv 0)) [] [] []))
@[reducible] def t_lnames_24 : Tree := (.br (.bin .band (.bin .band (.bin .band (.bin .band (.bin .band (.bin .ieq (.iv 9) (.il 23)) (.bin .ieq (.iv 11) (.il 23))) (.bin .ieq (.iv 17) (.il 0))) (.bin .ieq (.iv 16) (.il 3))) (.bin .ieq (.iv 19) (.il 0))) (.bin .ieq (.iv 18) (.il 1))) t_lnames_23 (.ret (.bool (.bl false)) [] [] []))
@[reducible] def t_lnames_25 : Tree := (.grow (.call 8 [(.agg [(.int .u8 (.iv 4)), (.int .u8 (.iv 5)), (.int .i64 (.iv 6)), (.str (.tv 1)), (.str (.tv 2)), (.slc 1 (.nv 0) (.nv 1))]), .nils] [] [] [] (.tup [(.int .u8 (.iv 18)), (.int .i64 (.iv 19))]) ⟨2, 0, 0, 0, 0, 0, 0, 0⟩ t_lnames_24))
@[reducible] def t_lnames_26 : Tree := (.grow (.newf 38 [(.str (.tl [110])), (.int .u8 (.iv 12)), (.int .i64 (.iv 13)), (.str (.tv 3)), (.str (.tl [110])), (.int .u8 (.iv 14)), (.int .i64 (.iv 15)), (.str (.tv 4))] (.callq 8 [(.agg [(.int .u8 (.il 2)), (.int .u8 (.il 0)), (.int .i64 (.il 0)), (.str (.tl [])), (.str (.tl [110])), .nils]), (.slc 7 (.il 2) (.il 2))] [] [] (.tup [(.int .u8 (.iv 16)), (.int .i64 (.iv 17))]) ⟨2, 0, 0, 0, 0, 0, 0, 0⟩ t_lnames_25)))
@[reducible] def t_lnames_27 : Tree := (.look 23 (.elt 0 (.il 0) 3 0) (.agg [(.int .u8 (.iv 14)), (.int .i64 (.iv 15)), (.str (.tv 4))]) ⟨2, 0, 0, 1, 0, 0, 0, 0⟩ t_lnames_26)
@[reducible] def t_lnames_28 : Tree := (.chk (.bin .le (.il 0) (.il 2)) (.chk (.bin .lt (.il 2) (.il 3)) (.look 23 (.elt 0 (.il 2) 3 0) (.agg [(.int .u8 (.iv 12)), (.int .i64 (.iv 13)), (.str (.tv 3))]) ⟨2, 0, 0, 1, 0, 0, 0, 0⟩ t_lnames_27)))
@[reducible] def t_lnames_29 : Tree := (.newf 38 [(.str (.tl [110])), (.int .u8 (.il 0)), (.int .i64 (.il 0)), (.str (.tl []))] (.call 8 [(.agg [(.int .u8 (.il 2)), (.int .u8 (.il 0)), (.int .i64 (.il 0)), (.str (.tl [])), (.str (.tl [110])), .nils]), (.slc 6 (.il 1) (.il 1))] [] [] [] (.tup [(.int .u8 (.iv 10)), (.int .i64 (.iv 11))]) ⟨2, 0, 0, 0, 0, 0, 0, 0⟩ t_lnames_28))
@[reducible] def t_lnames_30 : Tree := (.call 8 [(.agg [(.int .u8 (.il 1)), (.int .u8 (.il 0)), (.int .i64 (.il 0)), (.str (.tl [])), (.str (.tl [])), .nils]), .nils] [] [] [] (.tup [(.int .u8 (.iv 8)), (.int .i64 (.iv 9))]) ⟨2, 0, 0, 0, 0, 0, 0, 0⟩ t_lnames_29)
@[reducible] def t_lnames_31 : Tree := (.newf 26 [(.int .u8 (.iv 4)), (.int .u8 (.iv 5)), (.int .i64 (.iv 6)), (.str (.tv 1)), (.str (.tv 2)), (.slc 1 (.nv 0) (.nv 1))] (.new (.wr (.newf 26 [(.int .u8 (.iv 4)), (.int .u8 (.iv 5)), (.int .i64 (.iv 6)), (.str (.tv 1)), (.str (.tv 2)), (.slc 1 (.nv 0) (.nv 1))] (.newf 26 [(.int .u8 (.iv 4)), (.int .u8 (.iv 5)), (.int .i64 (.iv 6)), (.str (.tv 1)), (.str (.tv 2)), (.slc 1 (.nv 0) (.nv 1))] (.newf 26 [(.int .u8 (.il 0)), (.int .u8 (.il 0)), (.int .i64 (.il 0)), (.str (.tl [])), (.str (.tl [])), .nils, (.int .u8 (.il 99)), (.int .u8 (.il 0)), (.int .i64 (.il 0)), (.str (.tl [])), (.str (.tl [])), .nils, (.int .u8 (.il 17)), (.int .u8 (.il 0)), (.int .i64 (.il 0)), (.str (.tl [])), (.str (.tl [])), .nils, (.int .u8 (.il 3)), (.int .u8 (.il 0)), (.int .i64 (.il 0)), (.str (.tl [])), (.str (.tl [])), .nils, (.int .u8 (.il 1)), (.int .u8 (.il 9)), (.int .i64 (.il 0)), (.str (.tl [])), (.str (.tl [])), .nils, (.int .u8 (.il 1)), (.int .u8 (.il 0)), (.int .i64 (.il 0)), (.str (.tl [])), (.str (.tl [])), (.slc 3 (.il 1) (.il 1)), (.int .u8 (.il 8)), (.int .u8 (.il 0)), (.int .i64 (.il 0)), (.str (.tl [])), (.str (.tl [])), (.slc 4 (.il 1) (.il 1)), (.int .u8 (.il 3)), (.int .u8 (.il 0)), (.int .i64 (.il 0)), (.str (.tl [])), (.str (.tl [])), (.slc 2 (.il 1) (.il 1))] (.loop [(.int .i64 (.il 0))] [] [(.int .i64 (.iv 7))] [] ⟨1, 0, 0, 0, 0, 0, 0, 0⟩ (.br (.bin .lt (.iv 7) (.il 8)) t_lnames_22 t_lnames_30))))))))
@[reducible] def t_lnames_32 : Tree := (.new (.wr (.loop [(.int .i64 (.il 1)), (.int .u8 (.il 1)), (.int .u8 (.iv 1)), (.int .i64 (.iv 2)), (.str (.tv 0)), (.str (.tl [])), .nils] [] [(.int .i64 (.iv 3)), (.int .u8 (.iv 4)), (.int .u8 (.iv 5)), (.int .i64 (.iv 6)), (.str (.tv 1)), (.str (.tv 2)), (.slc 1 (.nv 0) (.nv 1))] [] ⟨4, 2, 0, 2, 0, 1, 0, 0⟩ (.br (.bin .lt (.iv 3) (.il 16)) t_lnames_17 t_lnames_31))))
@[reducible] def t_lnames_33 : Tree := (.chk (.sm 0) (.chk (.bin .le (.il 0) (.il 0)) (.chk (.bin .lt (.il 0) (.il 3)) (.look 23 (.elt 0 (.il 0) 3 0) (.agg [(.int .u8 (.iv 1)), (.int .i64 (.iv 2)), (.str (.tv 0))]) ⟨2, 0, 0, 1, 0, 0, 0, 0⟩ t_lnames_32))))
@[reducible] def t_lnames : Tree :=
(.newf 23 [(.int .u8 (.il 1)), (.int .i64 (.il 3)), (.str (.tl [])), (.int .u8 (.il 2)), (.int .i64 (.il 1)), (.str (.tl [])), (.int .u8 (.il 3)), (.int .i64 (.il 0)), (.str (.tl [116]))] (.loop [(.int .u8 (.il 3))] [] [(.int .u8 (.iv 0))] [] ⟨1, 0, 0, 0, 0, 0, 0, 0⟩ (.br (.bin .le (.iv 0) (.il 16)) t_lnames_16 t_lnames_33)))
theorem x_lnames : xfn Tryz.prog { ex := false, inl := [], loops := [⟨3, [.tm 2]⟩, ⟨6, [.tm 3]⟩, ⟨9, [.tm 4]⟩, ⟨20, [.tm 11, .cell 0 0, .cell 0 1, .cell 0 2, .cell 0 3, .cell 0 4, .cell 0 5]⟩, ⟨25, [.tm 115]⟩], unroll := [], mu := [], mus := [], stays := [23, 26, 38], rowT := [], rwx := true, rws := [] } Tryz.f4 [] [] [] ⟨0, 0, 0, 0, 0, 0, 0, 0⟩ = some t_lnames := by kernel_rfl
theorem vc_lnames  (W : Wd) (R : Ending → World → Prop) (h : t_lnames.den Tryz.prog W.w.heap.size R [] {  } W) : CallsE Tryz.prog 4 #[] W R :=
  fn_calls Tryz.func4 _ _ {  } _ x_lnames (fun v hv => by cases hv) h

end Go.Proofs.YtijinopghlpdbaaGreatDoor
