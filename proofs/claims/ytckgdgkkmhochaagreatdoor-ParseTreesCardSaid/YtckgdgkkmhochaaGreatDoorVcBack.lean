/- What is left to show of functions, as the walk that the kernel computes finds it (written by wip/vc2.py). -/
import Derived.Test.YtckgdgkkmhochaaGreatDoorProg
import Derived.Test.YtckgdgkkmhochaaGreatDoorSfD
namespace Go.Proofs.YtckgdgkkmhochaaGreatDoor
open Go Go.RowKit Go.SF
set_option maxRecDepth 100000

-- callboard/callboardlaw11.size
@[reducible] def t_lsize_1 : Tree := (.again 0 [(.int .i64 (.un (.wrap .i64) (.bin .add (.iv 4) (.iv 9)))), (.int .i64 (.un (.wrap .i64) (.bin .add (.iv 5) (.il 1))))] [])
@[reducible] def t_lsize_2 : Tree := (.call 29 [(.agg [(.int .u8 (.iv 6)), (.int .u8 (.iv 7)), (.int .i64 (.iv 8)), (.str (.tv 2)), (.str (.tv 3)), (.slc 1 (.nv 2) (.nv 3))]), (.int .i64 (.un (.wrap .i64) (.bin .sub (.iv 3) (.iv 4))))] [] [] [] (.int .i64 (.iv 9)) ⟨1, 0, 0, 0, 0, 0, 0, 0⟩ t_lsize_1)
@[reducible] def t_lsize_3 : Tree := (.chk (.sm 0) (.chk (.bin .le (.il 0) (.iv 5)) (.look 26 (.elt 0 (.iv 5) 6 0) (.agg [(.int .u8 (.iv 6)), (.int .u8 (.iv 7)), (.int .i64 (.iv 8)), (.str (.tv 2)), (.str (.tv 3)), (.slc 1 (.nv 2) (.nv 3))]) ⟨3, 2, 0, 2, 0, 1, 0, 0⟩ t_lsize_2)))
@[reducible] def t_lsize_4 : Tree := (.br (.bin .band (.bin .lt (.iv 5) (.nv 0)) (.bin .lt (.iv 4) (.iv 3))) t_lsize_3 (.ret (.int .i64 (.iv 4)) [] [] []))
@[reducible] def t_lsize : Tree :=
(.new (.loop [(.int .i64 (.il 1)), (.int .i64 (.il 0))] [] [(.int .i64 (.iv 4)), (.int .i64 (.iv 5))] [] ⟨2, 0, 0, 0, 0, 0, 0, 0⟩ t_lsize_4))
theorem x_lsize : xfn Tryz.prog { ex := false, inl := [], loops := [⟨3, [.tm 5, .tm 6]⟩], unroll := [], mu := [], mus := [], stays := [], rowT := [], rwx := false, rws := [] } Tryz.f29 [(.agg [(.int .u8 (.iv 0)), (.int .u8 (.iv 1)), (.int .i64 (.iv 2)), (.str (.tv 0)), (.str (.tv 1)), (.slc 0 (.nv 0) (.nv 1))]), (.int .i64 (.iv 3))] [] [] ⟨4, 2, 0, 2, 0, 1, 0, 0⟩ = some t_lsize := by kernel_rfl
theorem vc_lsize (i0 i1 i2 i3 : Int) (n0 n1 : Nat) (t0 t1 : ByteArray) (a0 : Option Addr) (W : Wd) (R : Ending → World → Prop) (h : t_lsize.den Tryz.prog W.w.heap.size R [] { I := [i0, i1, i2, i3], N := [n0, n1], T := [t0, t1], A := [a0] } W) : CallsE Tryz.prog 29 #[.agg #[.int .u8 i0, .int .u8 i1, .int .i64 i2, .string t0, .string t1, .slice a0 n0 n1], .int .i64 i3] W R :=
  fn_calls Tryz.func29 _ _ { I := [i0, i1, i2, i3], N := [n0, n1], T := [t0, t1], A := [a0] } _ x_lsize (fun v hv => by cases hv) h

-- callboard/callboardlaw11.large
@[reducible] def t_llarge : Tree :=
(.new (.call 29 [(.agg [(.int .u8 (.iv 0)), (.int .u8 (.iv 1)), (.int .i64 (.iv 2)), (.str (.tv 0)), (.str (.tv 1)), (.slc 0 (.nv 0) (.nv 1))]), (.int .i64 (.il 300))] [] [] [] (.int .i64 (.iv 3)) ⟨1, 0, 0, 0, 0, 0, 0, 0⟩ (.ret (.bool (.bin .le (.il 300) (.iv 3))) [] [] [])))
theorem x_llarge : xfn Tryz.prog { ex := false, inl := [], loops := [], unroll := [], mu := [], mus := [], stays := [], rowT := [], rwx := false, rws := [] } Tryz.f9 [(.agg [(.int .u8 (.iv 0)), (.int .u8 (.iv 1)), (.int .i64 (.iv 2)), (.str (.tv 0)), (.str (.tv 1)), (.slc 0 (.nv 0) (.nv 1))])] [] [] ⟨3, 2, 0, 2, 0, 1, 0, 0⟩ = some t_llarge := by kernel_rfl
theorem vc_llarge (i0 i1 i2 : Int) (n0 n1 : Nat) (t0 t1 : ByteArray) (a0 : Option Addr) (W : Wd) (R : Ending → World → Prop) (h : t_llarge.den Tryz.prog W.w.heap.size R [] { I := [i0, i1, i2], N := [n0, n1], T := [t0, t1], A := [a0] } W) : CallsE Tryz.prog 9 #[.agg #[.int .u8 i0, .int .u8 i1, .int .i64 i2, .string t0, .string t1, .slice a0 n0 n1]] W R :=
  fn_calls Tryz.func9 _ _ { I := [i0, i1, i2], N := [n0, n1], T := [t0, t1], A := [a0] } _ x_llarge (fun v hv => by cases hv) h

-- callboard/callboardlaw11.ParseBack
@[reducible] def t_lback_1 : Tree := (.call 18 [] [] [] [] (.bool (.bv 2)) ⟨0, 0, 1, 0, 0, 0, 0, 0⟩ (.ret (.bool (.bv 2)) [] [] []))
@[reducible] def t_lback_2 : Tree := (.ret (.bool (.bin .band (.bv 4) (.bin .bor (.bin .ieq (.iv 7) (.il 4)) (.bin .ieq (.iv 7) (.il 40))))) [] [] [])
@[reducible] def t_lback_3 : Tree := (.call 17 [(.agg [(.int .u8 (.iv 4)), (.int .u8 (.iv 5)), (.int .i64 (.iv 6)), (.str (.tv 4)), (.str (.tv 5)), (.slc 1 (.nv 2) (.nv 3))]), (.agg [(.int .u8 (.il 0)), (.int .u8 (.il 0)), (.int .i64 (.il 0)), (.str (.tl [])), (.str (.tl [])), .nils])] [] [] [] (.bool (.bv 4)) ⟨0, 0, 1, 0, 0, 0, 0, 0⟩ t_lback_2)
@[reducible] def t_lback_4 : Tree := (.call 19 [(.str (.tv 6)), (.agg [(.int .u8 (.iv 4)), (.int .u8 (.iv 5)), (.int .i64 (.iv 6)), (.str (.tv 4)), (.str (.tv 5)), (.slc 1 (.nv 2) (.nv 3))])] [] [] [] (.bool (.bv 5)) ⟨0, 0, 1, 0, 0, 0, 0, 0⟩ (.ret (.bool (.bv 5)) [] [] []))
@[reducible] def t_lback_5 : Tree := (.br (.bin .band (.bin .band (.bv 4) (.un .not (.bin .ieq (.iv 8) (.il 40)))) (.bin .ieq (.iv 8) (.il 0))) t_lback_4 (.ret (.bool (.bin .band (.bv 4) (.bin .ieq (.iv 8) (.il 40)))) [] [] []))
@[reducible] def t_lback_6 : Tree := (.call 14 [(.agg [(.int .u8 (.iv 4)), (.int .u8 (.iv 5)), (.int .i64 (.iv 6)), (.str (.tv 4)), (.str (.tv 5)), (.slc 1 (.nv 2) (.nv 3))])] [] [] [] (.bool (.bv 4)) ⟨0, 0, 1, 0, 0, 0, 0, 0⟩ t_lback_5)
@[reducible] def t_lback_7 : Tree := (.call 10 [(.agg [(.int .u8 (.iv 4)), (.int .u8 (.iv 5)), (.int .i64 (.iv 6)), (.str (.tv 4)), (.str (.tv 5)), (.slc 1 (.nv 2) (.nv 3))])] [] [] [] (.tup [(.str (.tv 6)), (.int .i64 (.iv 8))]) ⟨1, 0, 0, 1, 0, 0, 0, 0⟩ t_lback_6)
@[reducible] def t_lback_8 : Tree := (.call 20 [(.str (.tv 2))] [] [] [] (.tup [(.agg [(.int .u8 (.iv 4)), (.int .u8 (.iv 5)), (.int .i64 (.iv 6)), (.str (.tv 4)), (.str (.tv 5)), (.slc 1 (.nv 2) (.nv 3))]), (.int .i64 (.iv 7))]) ⟨4, 2, 0, 2, 0, 1, 0, 0⟩ (.new (.wr (.br (.un .not (.bin .ieq (.iv 7) (.il 0))) t_lback_3 t_lback_7))))
@[reducible] def t_lback_9 : Tree := (.br (.bin .beq (.bin .ieq (.iv 3) (.il 4)) (.bv 3)) (.ret (.bool (.bl false)) [] [] []) t_lback_8)
@[reducible] def t_lback_10 : Tree := (.call 14 [(.agg [(.int .u8 (.iv 0)), (.int .u8 (.iv 1)), (.int .i64 (.iv 2)), (.str (.tv 0)), (.str (.tv 1)), (.slc 0 (.nv 0) (.nv 1))])] [] [] [] (.bool (.bv 3)) ⟨0, 0, 1, 0, 0, 0, 0, 0⟩ t_lback_9)
@[reducible] def t_lback_11 : Tree := (.br (.un .not (.bin .bor (.un .not (.bv 2)) (.bin .lt (.il 100) (.un .len (.tv 3))))) t_lback_10 (.ret (.bool (.bl false)) [] [] []))
@[reducible] def t_lback_12 : Tree := (.call 19 [(.str (.tv 3)), (.agg [(.int .u8 (.iv 0)), (.int .u8 (.iv 1)), (.int .i64 (.iv 2)), (.str (.tv 0)), (.str (.tv 1)), (.slc 0 (.nv 0) (.nv 1))])] [] [] [] (.bool (.bv 2)) ⟨0, 0, 1, 0, 0, 0, 0, 0⟩ t_lback_11)
@[reducible] def t_lback_13 : Tree := (.ret (.bool (.bin .band (.bv 3) (.bin .bor (.bin .ieq (.iv 7) (.il 4)) (.bin .ieq (.iv 7) (.il 40))))) [] [] [])
@[reducible] def t_lback_14 : Tree := (.call 17 [(.agg [(.int .u8 (.iv 4)), (.int .u8 (.iv 5)), (.int .i64 (.iv 6)), (.str (.tv 4)), (.str (.tv 5)), (.slc 1 (.nv 2) (.nv 3))]), (.agg [(.int .u8 (.il 0)), (.int .u8 (.il 0)), (.int .i64 (.il 0)), (.str (.tl [])), (.str (.tl [])), .nils])] [] [] [] (.bool (.bv 3)) ⟨0, 0, 1, 0, 0, 0, 0, 0⟩ t_lback_13)
@[reducible] def t_lback_15 : Tree := (.call 19 [(.str (.tv 6)), (.agg [(.int .u8 (.iv 4)), (.int .u8 (.iv 5)), (.int .i64 (.iv 6)), (.str (.tv 4)), (.str (.tv 5)), (.slc 1 (.nv 2) (.nv 3))])] [] [] [] (.bool (.bv 4)) ⟨0, 0, 1, 0, 0, 0, 0, 0⟩ (.ret (.bool (.bv 4)) [] [] []))
@[reducible] def t_lback_16 : Tree := (.br (.bin .band (.bin .band (.bv 3) (.un .not (.bin .ieq (.iv 8) (.il 40)))) (.bin .ieq (.iv 8) (.il 0))) t_lback_15 (.ret (.bool (.bin .band (.bv 3) (.bin .ieq (.iv 8) (.il 40)))) [] [] []))
@[reducible] def t_lback_17 : Tree := (.call 14 [(.agg [(.int .u8 (.iv 4)), (.int .u8 (.iv 5)), (.int .i64 (.iv 6)), (.str (.tv 4)), (.str (.tv 5)), (.slc 1 (.nv 2) (.nv 3))])] [] [] [] (.bool (.bv 3)) ⟨0, 0, 1, 0, 0, 0, 0, 0⟩ t_lback_16)
@[reducible] def t_lback_18 : Tree := (.call 10 [(.agg [(.int .u8 (.iv 4)), (.int .u8 (.iv 5)), (.int .i64 (.iv 6)), (.str (.tv 4)), (.str (.tv 5)), (.slc 1 (.nv 2) (.nv 3))])] [] [] [] (.tup [(.str (.tv 6)), (.int .i64 (.iv 8))]) ⟨1, 0, 0, 1, 0, 0, 0, 0⟩ t_lback_17)
@[reducible] def t_lback_19 : Tree := (.call 20 [(.str (.tv 2))] [] [] [] (.tup [(.agg [(.int .u8 (.iv 4)), (.int .u8 (.iv 5)), (.int .i64 (.iv 6)), (.str (.tv 4)), (.str (.tv 5)), (.slc 1 (.nv 2) (.nv 3))]), (.int .i64 (.iv 7))]) ⟨4, 2, 0, 2, 0, 1, 0, 0⟩ (.new (.wr (.br (.un .not (.bin .ieq (.iv 7) (.il 0))) t_lback_14 t_lback_18))))
@[reducible] def t_lback_20 : Tree := (.br (.bin .bor (.bin .beq (.bin .ieq (.iv 3) (.il 4)) (.bv 2)) (.un .not (.bin .teq (.tv 3) (.tl [])))) (.ret (.bool (.bl false)) [] [] []) t_lback_19)
@[reducible] def t_lback_21 : Tree := (.call 14 [(.agg [(.int .u8 (.iv 0)), (.int .u8 (.iv 1)), (.int .i64 (.iv 2)), (.str (.tv 0)), (.str (.tv 1)), (.slc 0 (.nv 0) (.nv 1))])] [] [] [] (.bool (.bv 2)) ⟨0, 0, 1, 0, 0, 0, 0, 0⟩ t_lback_20)
@[reducible] def t_lback_22 : Tree := (.call 10 [(.agg [(.int .u8 (.iv 0)), (.int .u8 (.iv 1)), (.int .i64 (.iv 2)), (.str (.tv 0)), (.str (.tv 1)), (.slc 0 (.nv 0) (.nv 1))])] [] [] [] (.tup [(.str (.tv 3)), (.int .i64 (.iv 3))]) ⟨1, 0, 0, 1, 0, 0, 0, 0⟩ (.br (.bin .ieq (.iv 3) (.il 0)) t_lback_12 t_lback_21))
@[reducible] def t_lback_23 : Tree := (.call 9 [(.agg [(.int .u8 (.iv 0)), (.int .u8 (.iv 1)), (.int .i64 (.iv 2)), (.str (.tv 0)), (.str (.tv 1)), (.slc 0 (.nv 0) (.nv 1))])] [] [] [] (.bool (.bv 1)) ⟨0, 0, 1, 0, 0, 0, 0, 0⟩ (.br (.bin .bor (.bv 1) (.bin .lt (.il 1000) (.un .len (.tv 2)))) t_lback_1 t_lback_22))
@[reducible] def t_lback_24 : Tree := (.call 18 [] [] [] [] (.bool (.bv 1)) ⟨0, 0, 1, 0, 0, 0, 0, 0⟩ (.ret (.bool (.bv 1)) [] [] []))
@[reducible] def t_lback : Tree :=
(.new (.call 18 [] [] [] [] (.bool (.bv 0)) ⟨0, 0, 1, 0, 0, 0, 0, 0⟩ (.br (.bv 0) t_lback_23 t_lback_24)))
theorem x_lback : xfn Tryz.prog { ex := false, inl := [], loops := [], unroll := [], mu := [], mus := [], stays := [], rowT := [], rwx := false, rws := [] } Tryz.f4 [(.agg [(.int .u8 (.iv 0)), (.int .u8 (.iv 1)), (.int .i64 (.iv 2)), (.str (.tv 0)), (.str (.tv 1)), (.slc 0 (.nv 0) (.nv 1))]), (.str (.tv 2))] [] [] ⟨3, 2, 0, 3, 0, 1, 0, 0⟩ = some t_lback := by kernel_rfl
theorem vc_lback (i0 i1 i2 : Int) (n0 n1 : Nat) (t0 t1 t2 : ByteArray) (a0 : Option Addr) (W : Wd) (R : Ending → World → Prop) (h : t_lback.den Tryz.prog W.w.heap.size R [] { I := [i0, i1, i2], N := [n0, n1], T := [t0, t1, t2], A := [a0] } W) : CallsE Tryz.prog 4 #[.agg #[.int .u8 i0, .int .u8 i1, .int .i64 i2, .string t0, .string t1, .slice a0 n0 n1], .string t2] W R :=
  fn_calls Tryz.func4 _ _ { I := [i0, i1, i2], N := [n0, n1], T := [t0, t1, t2], A := [a0] } _ x_lback (fun v hv => by cases hv) h

end Go.Proofs.YtckgdgkkmhochaaGreatDoor
