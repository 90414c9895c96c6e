/- What is left to show of functions, as the walk that the kernel computes finds it (written by wip/vc2.py). -/
import Derived.Test.YtckgdgkkmhochaaGreatDoorProg
import Derived.Test.YtckgdgkkmhochaaGreatDoorSfD
namespace Go.Proofs.YtckgdgkkmhochaaGreatDoor
open Go Go.RowKit Go.SF
set_option maxRecDepth 100000

-- callboard/callboardlaw11.ParseParts
@[reducible] def t_lparts_1 : Tree := (.call 18 [] [] [] [] (.bool (.bv 2)) ⟨0, 0, 1, 0, 0, 0, 0, 0⟩ (.ret (.bool (.bv 2)) [] [] []))
@[reducible] def t_lparts_2 : Tree := (.grow (.br (.bin .bor (.bin .tlt (.tv 2) (.tv 3)) (.bin .teq (.tv 2) (.tv 3))) (.ret (.bool (.bl false)) [] [] []) (.again 0 [(.int .i64 (.un (.wrap .i64) (.bin .add (.iv 3) (.il 1))))] [])))
@[reducible] def t_lparts_3 : Tree := (.chk (.bin .le (.il 0) (.un (.wrap .i64) (.bin .sub (.iv 3) (.il 1)))) (.chk (.bin .lt (.un (.wrap .i64) (.bin .sub (.iv 3) (.il 1))) (.nv 2)) (.look 9 (.elt 1 (.un (.wrap .i64) (.bin .sub (.iv 3) (.il 1))) 1 0) (.str (.tv 3)) ⟨0, 0, 0, 1, 0, 0, 0, 0⟩ t_lparts_2)))
@[reducible] def t_lparts_4 : Tree := (.chk (.bin .bor (.un .not (.bin .lt (.il 0) (.iv 3))) (.sm 1)) (.chk (.bin .bor (.un .not (.bin .lt (.il 0) (.iv 3))) (.bin .le (.il 0) (.iv 3))) (.br (.bin .lt (.il 0) (.iv 3)) (.look 9 (.elt 1 (.iv 3) 1 0) (.str (.tv 2)) ⟨0, 0, 0, 1, 0, 0, 0, 0⟩ t_lparts_3) (.grow (.again 0 [(.int .i64 (.un (.wrap .i64) (.bin .add (.iv 3) (.il 1))))] [])))))
@[reducible] def t_lparts_5 : Tree := (.call 14 [(.agg [(.int .u8 (.iv 4)), (.int .u8 (.iv 5)), (.int .i64 (.iv 6)), (.str (.tv 2)), (.str (.tv 3)), (.slc 2 (.nv 4) (.nv 5))])] [] [] [] (.bool (.bv 3)) ⟨0, 0, 1, 0, 0, 0, 0, 0⟩ (.ret (.bool (.un .not (.bv 3))) [] [] []))
@[reducible] def t_lparts_6 : Tree := (.call 25 [(.int .u8 (.il 3)), (.agg [(.int .u8 (.iv 0)), (.int .u8 (.iv 1)), (.int .i64 (.iv 2)), (.str (.tv 0)), (.str (.tv 1)), (.slc 0 (.nv 0) (.nv 1))])] [] [] [] (.agg [(.int .u8 (.iv 4)), (.int .u8 (.iv 5)), (.int .i64 (.iv 6)), (.str (.tv 2)), (.str (.tv 3)), (.slc 2 (.nv 4) (.nv 5))]) ⟨3, 2, 0, 2, 0, 1, 0, 0⟩ t_lparts_5)
@[reducible] def t_lparts_7 : Tree := (.grow (.again 3 [(.bool (.bin .teq (.tv 6) (.tv 7))), (.int .i64 (.un (.wrap .i64) (.bin .add (.iv 13) (.il 1))))] []))
@[reducible] def t_lparts_8 : Tree := (.chk (.sm 4) (.chk (.bin .le (.il 0) (.iv 12)) (.look 9 (.elt 4 (.iv 12) 1 0) (.str (.tv 7)) ⟨0, 0, 0, 1, 0, 0, 0, 0⟩ t_lparts_7)))
@[reducible] def t_lparts_9 : Tree := (.grow (.again 3 [(.bool (.bl true)), (.int .i64 (.un (.wrap .i64) (.bin .add (.iv 13) (.il 1))))] []))
@[reducible] def t_lparts_10 : Tree := (.chk (.bin .bor (.bv 4) (.sm 1)) (.chk (.bin .bor (.bv 4) (.bin .le (.il 0) (.iv 13))) (.br (.un .not (.bv 4)) (.look 9 (.elt 1 (.iv 13) 1 0) (.str (.tv 6)) ⟨0, 0, 0, 1, 0, 0, 0, 0⟩ t_lparts_8) t_lparts_9)))
@[reducible] def t_lparts_11 : Tree := (.br (.un .not (.bv 4)) (.ret (.bool (.bl false)) [] [] []) (.again 2 [(.int .i64 (.un (.wrap .i64) (.bin .add (.iv 12) (.il 1))))] []))
@[reducible] def t_lparts_12 : Tree := (.loop [(.bool (.bl false)), (.int .i64 (.il 0))] [] [(.bool (.bv 4)), (.int .i64 (.iv 13))] [] ⟨1, 0, 1, 0, 0, 0, 0, 0⟩ (.br (.bin .lt (.iv 13) (.nv 2)) t_lparts_10 t_lparts_11))
@[reducible] def t_lparts_13 : Tree := (.again 1 [(.int .i64 (.un (.wrap .i64) (.bin .add (.iv 4) (.nv 8)))), (.int .i64 (.un (.wrap .i64) (.bin .add (.iv 5) (.il 1))))] [])
@[reducible] def t_lparts_14 : Tree := (.loop [(.int .i64 (.il 0))] [] [(.int .i64 (.iv 12))] [] ⟨1, 0, 0, 0, 0, 0, 0, 0⟩ (.br (.bin .lt (.iv 12) (.nv 8)) t_lparts_12 t_lparts_13))
@[reducible] def t_lparts_15 : Tree := (.call 12 [(.agg [(.int .u8 (.iv 9)), (.int .u8 (.iv 10)), (.int .i64 (.iv 11)), (.str (.tv 4)), (.str (.tv 5)), (.slc 3 (.nv 6) (.nv 7))])] [] [] [] (.slc 4 (.nv 8) (.nv 9)) ⟨0, 2, 0, 0, 0, 1, 0, 0⟩ t_lparts_14)
@[reducible] def t_lparts_16 : Tree := (.look 26 (.elt 0 (.iv 5) 6 0) (.agg [(.int .u8 (.iv 9)), (.int .u8 (.iv 10)), (.int .i64 (.iv 11)), (.str (.tv 4)), (.str (.tv 5)), (.slc 3 (.nv 6) (.nv 7))]) ⟨3, 2, 0, 2, 0, 1, 0, 0⟩ t_lparts_15)
@[reducible] def t_lparts_17 : Tree := (.call 14 [(.agg [(.int .u8 (.iv 6)), (.int .u8 (.iv 7)), (.int .i64 (.iv 8)), (.str (.tv 2)), (.str (.tv 3)), (.slc 2 (.nv 4) (.nv 5))])] [] [] [] (.bool (.bv 3)) ⟨0, 0, 1, 0, 0, 0, 0, 0⟩ (.br (.un .not (.bv 3)) (.ret (.bool (.bl false)) [] [] []) t_lparts_16))
@[reducible] def t_lparts_18 : Tree := (.chk (.sm 0) (.chk (.bin .le (.il 0) (.iv 5)) (.look 26 (.elt 0 (.iv 5) 6 0) (.agg [(.int .u8 (.iv 6)), (.int .u8 (.iv 7)), (.int .i64 (.iv 8)), (.str (.tv 2)), (.str (.tv 3)), (.slc 2 (.nv 4) (.nv 5))]) ⟨3, 2, 0, 2, 0, 1, 0, 0⟩ t_lparts_17)))
@[reducible] def t_lparts_19 : Tree := (.ret (.bool (.bin .bor (.bin .le (.nv 2) (.iv 4)) (.bin .band (.bin .ieq (.iv 0) (.il 2)) (.bin .ieq (.nv 2) (.il 1))))) [] [] [])
@[reducible] def t_lparts_20 : Tree := (.loop [(.int .i64 (.il 0)), (.int .i64 (.il 0))] [] [(.int .i64 (.iv 4)), (.int .i64 (.iv 5))] [] ⟨2, 0, 0, 0, 0, 0, 0, 0⟩ (.br (.bin .lt (.iv 5) (.nv 0)) t_lparts_18 t_lparts_19))
@[reducible] def t_lparts_21 : Tree := (.call 14 [(.agg [(.int .u8 (.iv 0)), (.int .u8 (.iv 1)), (.int .i64 (.iv 2)), (.str (.tv 0)), (.str (.tv 1)), (.slc 0 (.nv 0) (.nv 1))])] [] [] [] (.bool (.bv 2)) ⟨0, 0, 1, 0, 0, 0, 0, 0⟩ (.br (.un .not (.bv 2)) t_lparts_6 t_lparts_20))
@[reducible] def t_lparts_22 : Tree := (.loop [(.int .i64 (.il 0))] [] [(.int .i64 (.iv 3))] [] ⟨1, 0, 0, 0, 0, 0, 0, 0⟩ (.br (.bin .lt (.iv 3) (.nv 2)) t_lparts_4 t_lparts_21))
@[reducible] def t_lparts_23 : Tree := (.call 12 [(.agg [(.int .u8 (.iv 0)), (.int .u8 (.iv 1)), (.int .i64 (.iv 2)), (.str (.tv 0)), (.str (.tv 1)), (.slc 0 (.nv 0) (.nv 1))])] [] [] [] (.slc 1 (.nv 2) (.nv 3)) ⟨0, 2, 0, 0, 0, 1, 0, 0⟩ t_lparts_22)
@[reducible] def t_lparts_24 : Tree := (.call 9 [(.agg [(.int .u8 (.iv 0)), (.int .u8 (.iv 1)), (.int .i64 (.iv 2)), (.str (.tv 0)), (.str (.tv 1)), (.slc 0 (.nv 0) (.nv 1))])] [] [] [] (.bool (.bv 1)) ⟨0, 0, 1, 0, 0, 0, 0, 0⟩ (.br (.bv 1) t_lparts_1 t_lparts_23))
@[reducible] def t_lparts_25 : Tree := (.call 18 [] [] [] [] (.bool (.bv 1)) ⟨0, 0, 1, 0, 0, 0, 0, 0⟩ (.ret (.bool (.bv 1)) [] [] []))
@[reducible] def t_lparts : Tree :=
(.new (.call 18 [] [] [] [] (.bool (.bv 0)) ⟨0, 0, 1, 0, 0, 0, 0, 0⟩ (.br (.bv 0) t_lparts_24 t_lparts_25)))
theorem x_lparts : xfn Tryz.prog { ex := false, inl := [], loops := [⟨5, [.tm 4]⟩, ⟨13, [.tm 5, .tm 6]⟩, ⟨20, [.tm 8]⟩, ⟨24, [.tm 9, .tm 10]⟩], unroll := [], mu := [], mus := [], stays := [], rowT := [], rwx := false, rws := [] } Tryz.f7 [(.agg [(.int .u8 (.iv 0)), (.int .u8 (.iv 1)), (.int .i64 (.iv 2)), (.str (.tv 0)), (.str (.tv 1)), (.slc 0 (.nv 0) (.nv 1))])] [] [] ⟨3, 2, 0, 2, 0, 1, 0, 0⟩ = some t_lparts := by kernel_rfl
theorem vc_lparts (i0 i1 i2 : Int) (n0 n1 : Nat) (t0 t1 : ByteArray) (a0 : Option Addr) (W : Wd) (R : Ending → World → Prop) (h : t_lparts.den Tryz.prog W.w.heap.size R [] { I := [i0, i1, i2], N := [n0, n1], T := [t0, t1], A := [a0] } W) : CallsE Tryz.prog 7 #[.agg #[.int .u8 i0, .int .u8 i1, .int .i64 i2, .string t0, .string t1, .slice a0 n0 n1]] W R :=
  fn_calls Tryz.func7 _ _ { I := [i0, i1, i2], N := [n0, n1], T := [t0, t1], A := [a0] } _ x_lparts (fun v hv => by cases hv) h

end Go.Proofs.YtckgdgkkmhochaaGreatDoor
