/- What is left to show of functions, as the walk that the kernel computes finds it (written by wip/vc2.py). -/
import Derived.Test.YtijinopghlpdbaaGreatDoorProg
import Derived.Test.YtijinopghlpdbaaGreatDoorSfD
namespace Go.Proofs.YtijinopghlpdbaaGreatDoor
open Go Go.RowKit Go.SF
set_option maxRecDepth 100000

-- callboard/callboardlaw12.come
@[reducible] def t_lcome_1 : Tree := (.wr (.ret (.tup [(.agg [(.int .u8 (.iv 1)), (.int .i64 (.iv 2)), (.str (.tv 0))]), (.int .i64 (.il 0))]) [] [] []))
@[reducible] def t_lcome_2 : Tree := (.wr (.ret (.tup [(.agg [(.int .u8 (.iv 4)), (.int .i64 (.iv 5)), (.str (.tv 3))]), (.int .i64 (.il 0))]) [] [] []))
@[reducible] def t_lcome_3 : Tree := (.look 23 (.elt 1 (.iv 3) 4 1) (.agg [(.int .u8 (.iv 4)), (.int .i64 (.iv 5)), (.str (.tv 3))]) ⟨2, 0, 0, 1, 0, 0, 0, 0⟩ t_lcome_2)
@[reducible] def t_lcome_4 : Tree := (.grow (.br (.bin .teq (.tv 2) (.tv 1)) t_lcome_3 (.again 0 [(.int .i64 (.un (.wrap .i64) (.bin .add (.iv 3) (.il 1))))] [])))
@[reducible] def t_lcome_5 : Tree := (.chk (.sm 1) (.chk (.bin .le (.il 0) (.iv 3)) (.look 9 (.elt 1 (.iv 3) 4 0) (.str (.tv 2)) ⟨0, 0, 0, 1, 0, 0, 0, 0⟩ t_lcome_4)))
@[reducible] def t_lcome_6 : Tree := (.wr (.ret (.tup [(.agg [(.int .u8 (.il 0)), (.int .i64 (.il 0)), (.str (.tl []))]), (.int .i64 (.il 22))]) [] [] []))
@[reducible] def t_lcome_7 : Tree := (.loop [(.int .i64 (.il 0))] [] [(.int .i64 (.iv 3))] [] ⟨1, 0, 0, 0, 0, 0, 0, 0⟩ (.br (.bin .lt (.iv 3) (.nv 2)) t_lcome_5 t_lcome_6))
@[reducible] def t_lcome_8 : Tree := (.wr (.ret (.tup [(.agg [(.int .u8 (.il 0)), (.int .i64 (.il 0)), (.str (.tl []))]), (.int .i64 (.il 4))]) [] [] []))
@[reducible] def t_lcome_9 : Tree := (.wr (.ret (.tup [(.agg [(.int .u8 (.il 0)), (.int .i64 (.il 0)), (.str (.tl []))]), (.int .i64 (.iv 8))]) [] [] []))
@[reducible] def t_lcome_10 : Tree := (.wr (.ret (.tup [(.agg [(.int .u8 (.iv 9)), (.int .i64 (.iv 10)), (.str (.tv 5))]), (.int .i64 (.iv 11))]) [] [] []))
@[reducible] def t_lcome_11 : Tree := (.call 28 [(.int .u8 (.iv 0)), (.agg [(.int .u8 (.iv 6)), (.int .i64 (.iv 7)), (.str (.tv 4))])] [] [] [] (.tup [(.agg [(.int .u8 (.iv 9)), (.int .i64 (.iv 10)), (.str (.tv 5))]), (.int .i64 (.iv 11))]) ⟨3, 0, 0, 1, 0, 0, 0, 0⟩ t_lcome_10)
@[reducible] def t_lcome_12 : Tree := (.wr (.ret (.tup [(.agg [(.int .u8 (.iv 6)), (.int .i64 (.iv 7)), (.str (.tv 4))]), (.int .i64 (.il 0))]) [] [] []))
@[reducible] def t_lcome_13 : Tree := (.wr (.ret (.tup [(.agg [(.int .u8 (.il 0)), (.int .i64 (.il 0)), (.str (.tl []))]), (.int .i64 (.iv 14))]) [] [] []))
@[reducible] def t_lcome_14 : Tree := (.wr (.ret (.tup [(.agg [(.int .u8 (.iv 15)), (.int .i64 (.iv 16)), (.str (.tv 8))]), (.int .i64 (.iv 17))]) [] [] []))
@[reducible] def t_lcome_15 : Tree := (.call 30 [(.int .u8 (.iv 0)), (.agg [(.int .u8 (.iv 6)), (.int .i64 (.iv 7)), (.str (.tv 4))]), (.agg [(.int .u8 (.iv 12)), (.int .i64 (.iv 13)), (.str (.tv 7))])] [] [] [] (.tup [(.agg [(.int .u8 (.iv 15)), (.int .i64 (.iv 16)), (.str (.tv 8))]), (.int .i64 (.iv 17))]) ⟨3, 0, 0, 1, 0, 0, 0, 0⟩ t_lcome_14)
@[reducible] def t_lcome_16 : Tree := (.call 15 [(.agg [(.int .u8 (.iv 9)), (.int .u8 (.iv 10)), (.int .i64 (.iv 11)), (.str (.tv 5)), (.str (.tv 6)), (.slc 3 (.nv 6) (.nv 7))]), (.slc 1 (.nv 2) (.nv 3))] [] [] [] (.tup [(.agg [(.int .u8 (.iv 12)), (.int .i64 (.iv 13)), (.str (.tv 7))]), (.int .i64 (.iv 14))]) ⟨3, 0, 0, 1, 0, 0, 0, 0⟩ (.new (.wr (.br (.un .not (.bin .ieq (.iv 14) (.il 0))) t_lcome_13 t_lcome_15))))
@[reducible] def t_lcome_17 : Tree := (.chk (.bin .le (.il 0) (.il 1)) (.chk (.bin .lt (.il 1) (.nv 0)) (.look 26 (.elt 0 (.il 1) 6 0) (.agg [(.int .u8 (.iv 9)), (.int .u8 (.iv 10)), (.int .i64 (.iv 11)), (.str (.tv 5)), (.str (.tv 6)), (.slc 3 (.nv 6) (.nv 7))]) ⟨3, 2, 0, 2, 0, 1, 0, 0⟩ t_lcome_16)))
@[reducible] def t_lcome_18 : Tree := (.grow (.br (.un .not (.bin .band (.bin .ieq (.iv 6) (.il 2)) (.un .not (.bin .ieq (.iv 7) (.il 0))))) t_lcome_12 t_lcome_17))
@[reducible] def t_lcome_19 : Tree := (.grow (.br (.bin .band (.bin .ieq (.iv 6) (.il 2)) (.un .not (.bin .ieq (.iv 7) (.il 0)))) t_lcome_12 t_lcome_17))
@[reducible] def t_lcome_20 : Tree := (.br (.bin .ieq (.iv 0) (.il 13)) t_lcome_18 (.br (.bin .ieq (.iv 0) (.il 14)) t_lcome_19 t_lcome_17))
@[reducible] def t_lcome_21 : Tree := (.new (.wr (.br (.un .not (.bin .ieq (.iv 8) (.il 0))) t_lcome_9 (.br (.bin .ieq (.nv 0) (.il 1)) t_lcome_11 t_lcome_20))))
@[reducible] def t_lcome_22 : Tree := (.call 15 [(.agg [(.int .u8 (.iv 3)), (.int .u8 (.iv 4)), (.int .i64 (.iv 5)), (.str (.tv 2)), (.str (.tv 3)), (.slc 2 (.nv 4) (.nv 5))]), (.slc 1 (.nv 2) (.nv 3))] [] [] [] (.tup [(.agg [(.int .u8 (.iv 6)), (.int .i64 (.iv 7)), (.str (.tv 4))]), (.int .i64 (.iv 8))]) ⟨3, 0, 0, 1, 0, 0, 0, 0⟩ t_lcome_21)
@[reducible] def t_lcome_23 : Tree := (.chk (.sm 0) (.chk (.bin .le (.il 0) (.il 0)) (.chk (.bin .lt (.il 0) (.nv 0)) (.look 26 (.elt 0 (.il 0) 6 0) (.agg [(.int .u8 (.iv 3)), (.int .u8 (.iv 4)), (.int .i64 (.iv 5)), (.str (.tv 2)), (.str (.tv 3)), (.slc 2 (.nv 4) (.nv 5))]) ⟨3, 2, 0, 2, 0, 1, 0, 0⟩ t_lcome_22))))
@[reducible] def t_lcome_24 : Tree := (.br (.bin .ieq (.iv 0) (.il 2)) t_lcome_7 (.br (.bin .ieq (.nv 0) (.il 0)) t_lcome_8 t_lcome_23))
@[reducible] def t_lcome : Tree :=
(.new (.new (.br (.bin .ieq (.iv 0) (.il 1)) t_lcome_1 t_lcome_24)))
theorem x_lcome : xfn Tryz.prog { ex := false, inl := [29], loops := [⟨6, [.tm 6]⟩], unroll := [], mu := [], mus := [], stays := [], rowT := [], rwx := false, rws := [] } Tryz.f15 [(.agg [(.int .u8 (.iv 0)), (.int .u8 (.iv 1)), (.int .i64 (.iv 2)), (.str (.tv 0)), (.str (.tv 1)), (.slc 0 (.nv 0) (.nv 1))]), (.slc 1 (.nv 2) (.nv 3))] [] [] ⟨3, 4, 0, 2, 0, 2, 0, 0⟩ = some t_lcome := by kernel_rfl
theorem vc_lcome (i0 i1 i2 : Int) (n0 n1 n2 n3 : Nat) (t0 t1 : ByteArray) (a0 a1 : Option Addr) (W : Wd) (R : Ending → World → Prop) (h : t_lcome.den Tryz.prog W.w.heap.size R [] { I := [i0, i1, i2], N := [n0, n1, n2, n3], T := [t0, t1], A := [a0, a1] } W) : CallsE Tryz.prog 15 #[.agg #[.int .u8 i0, .int .u8 i1, .int .i64 i2, .string t0, .string t1, .slice a0 n0 n1], .slice a1 n2 n3] W R :=
  fn_calls Tryz.func15 _ _ { I := [i0, i1, i2], N := [n0, n1, n2, n3], T := [t0, t1], A := [a0, a1] } _ x_lcome (fun v hv => by cases hv) h

-- callboard/callboardlaw12.TypedComes
@[reducible] def t_lcomes_1 : Tree := (.call 7 [] [] [] [] (.bool (.bv 2)) ⟨0, 0, 1, 0, 0, 0, 0, 0⟩ (.ret (.bool (.bv 2)) [] [] []))
@[reducible] def t_lcomes_2 : Tree := (.grow (.new (.chk (.bin .le (.bin .add (.nv 4) (.il 1)) (.il 2932031007402)) (.grow (.app (.bin .add (.nv 4) (.il 1)) (.grow (.frz [⟨1, 42, [(.str (.tv 3)), (.int .u8 (.iv 8)), (.int .i64 (.iv 9)), (.str (.tv 4))]⟩] (.again 0 [(.int .i64 (.un (.wrap .i64) (.bin .add (.iv 5) (.il 1)))), (.slc 3 (.bin .add (.nv 4) (.il 1)) (.nv 6))] [⟨(.slc 3 (.bin .add (.nv 4) (.il 1)) (.nv 6)), (.bin .add (.nv 4) (.il 1)), 42, 4, [(.l 0), (.s (.str (.tv 3))), (.s (.int .u8 (.iv 8))), (.s (.int .i64 (.iv 9))), (.s (.str (.tv 4)))]⟩]))))))))
@[reducible] def t_lcomes_3 : Tree := (.look 23 (.elt 1 (.iv 5) 4 1) (.agg [(.int .u8 (.iv 8)), (.int .i64 (.iv 9)), (.str (.tv 4))]) ⟨2, 0, 0, 1, 0, 0, 0, 0⟩ t_lcomes_2)
@[reducible] def t_lcomes_4 : Tree := (.br (.un .not (.bv 2)) (.ret (.bool (.bl true)) [] [] [⟨(.slc 2 (.nv 4) (.nv 5)), (.nv 4), 42, 4, [(.l 0)]⟩]) (.look 9 (.elt 1 (.iv 5) 4 0) (.str (.tv 3)) ⟨0, 0, 0, 1, 0, 0, 0, 0⟩ t_lcomes_3))
@[reducible] def t_lcomes_5 : Tree := (.call 14 [(.agg [(.int .u8 (.iv 6)), (.int .i64 (.iv 7)), (.str (.tv 2))])] [] [⟨(.slc 2 (.nv 4) (.nv 5)), (.nv 4), 42, 4, [(.l 0)]⟩] [] (.bool (.bv 2)) ⟨0, 0, 1, 0, 0, 0, 0, 0⟩ t_lcomes_4)
@[reducible] def t_lcomes_6 : Tree := (.chk (.sm 1) (.chk (.bin .le (.il 0) (.iv 5)) (.look 23 (.elt 1 (.iv 5) 4 1) (.agg [(.int .u8 (.iv 6)), (.int .i64 (.iv 7)), (.str (.tv 2))]) ⟨2, 0, 0, 1, 0, 0, 0, 0⟩ t_lcomes_5)))
@[reducible] def t_lcomes_7 : Tree := (.ret (.bool (.bin .bor (.bin .ieq (.iv 8) (.il 20)) (.bin .ieq (.iv 8) (.il 21)))) [] [] [⟨(.slc 2 (.nv 4) (.nv 5)), (.nv 4), 42, 4, [(.l 0)]⟩])
@[reducible] def t_lcomes_8 : Tree := (.call 14 [(.agg [(.int .u8 (.iv 6)), (.int .i64 (.iv 7)), (.str (.tv 2))])] [] [⟨(.slc 2 (.nv 4) (.nv 5)), (.nv 4), 42, 4, [(.l 0)]⟩] [] (.bool (.bv 2)) ⟨0, 0, 1, 0, 0, 0, 0, 0⟩ (.ret (.bool (.bv 2)) [] [] [⟨(.slc 2 (.nv 4) (.nv 5)), (.nv 4), 42, 4, [(.l 0)]⟩]))
@[reducible] def t_lcomes_9 : Tree := (.br (.bin .ieq (.iv 6) (.iv 3)) t_lcomes_8 (.ret (.bool (.bl false)) [] [] [⟨(.slc 2 (.nv 4) (.nv 5)), (.nv 4), 42, 4, [(.l 0)]⟩]))
@[reducible] def t_lcomes_10 : Tree := (.call 15 [(.agg [(.int .u8 (.iv 0)), (.int .u8 (.iv 1)), (.int .i64 (.iv 2)), (.str (.tv 0)), (.str (.tv 1)), (.slc 0 (.nv 0) (.nv 1))]), (.slc 2 (.nv 4) (.nv 5))] [] [⟨(.slc 2 (.nv 4) (.nv 5)), (.nv 4), 42, 4, [(.l 0)]⟩] [] (.tup [(.agg [(.int .u8 (.iv 6)), (.int .i64 (.iv 7)), (.str (.tv 2))]), (.int .i64 (.iv 8))]) ⟨3, 0, 0, 1, 0, 0, 0, 0⟩ (.new (.wr (.br (.un .not (.bin .ieq (.iv 8) (.il 0))) t_lcomes_7 t_lcomes_9))))
@[reducible] def t_lcomes_11 : Tree := (.loop [(.int .i64 (.il 0)), .nils] [⟨.nils, (.il 0), 42, 4, []⟩] [(.int .i64 (.iv 5)), (.slc 2 (.nv 4) (.nv 5))] [⟨(.slc 2 (.nv 4) (.nv 5)), (.nv 4), 42, 4, [(.l 0)]⟩] ⟨1, 2, 0, 0, 0, 1, 0, 1⟩ (.br (.bin .lt (.iv 5) (.nv 2)) t_lcomes_6 t_lcomes_10))
@[reducible] def t_lcomes_12 : Tree := (.br (.un .not (.bin .ieq (.iv 4) (.il 0))) (.ret (.bool (.bin .ieq (.iv 3) (.il 0))) [] [] []) t_lcomes_11)
@[reducible] def t_lcomes_13 : Tree := (.call 8 [(.agg [(.int .u8 (.iv 0)), (.int .u8 (.iv 1)), (.int .i64 (.iv 2)), (.str (.tv 0)), (.str (.tv 1)), (.slc 0 (.nv 0) (.nv 1))]), (.slc 1 (.nv 2) (.nv 3))] [] [] [] (.tup [(.int .u8 (.iv 3)), (.int .i64 (.iv 4))]) ⟨2, 0, 0, 0, 0, 0, 0, 0⟩ t_lcomes_12)
@[reducible] def t_lcomes_14 : Tree := (.call 7 [] [] [] [] (.bool (.bv 1)) ⟨0, 0, 1, 0, 0, 0, 0, 0⟩ (.br (.un .not (.bv 1)) t_lcomes_1 t_lcomes_13))
@[reducible] def t_lcomes_15 : Tree := (.call 7 [] [] [] [] (.bool (.bv 1)) ⟨0, 0, 1, 0, 0, 0, 0, 0⟩ (.ret (.bool (.bv 1)) [] [] []))
@[reducible] def t_lcomes : Tree :=
(.new (.call 6 [(.agg [(.int .u8 (.iv 0)), (.int .u8 (.iv 1)), (.int .i64 (.iv 2)), (.str (.tv 0)), (.str (.tv 1)), (.slc 0 (.nv 0) (.nv 1))]), (.slc 1 (.nv 2) (.nv 3))] [] [] [] (.bool (.bv 0)) ⟨0, 0, 1, 0, 0, 0, 0, 0⟩ (.br (.un .not (.bv 0)) t_lcomes_14 t_lcomes_15)))
theorem x_lcomes : xfn Tryz.prog { ex := false, inl := [29], loops := [⟨8, [.tm 8, .row 7 39]⟩], unroll := [], mu := [], mus := [], stays := [], rowT := [], rwx := true, rws := [] } Tryz.f5 [(.agg [(.int .u8 (.iv 0)), (.int .u8 (.iv 1)), (.int .i64 (.iv 2)), (.str (.tv 0)), (.str (.tv 1)), (.slc 0 (.nv 0) (.nv 1))]), (.slc 1 (.nv 2) (.nv 3))] [] [] ⟨3, 4, 0, 2, 0, 2, 0, 0⟩ = some t_lcomes := by kernel_rfl
theorem vc_lcomes (i0 i1 i2 : Int) (n0 n1 n2 n3 : Nat) (t0 t1 : ByteArray) (a0 a1 : Option Addr) (W : Wd) (R : Ending → World → Prop) (h : t_lcomes.den Tryz.prog W.w.heap.size R [] { I := [i0, i1, i2], N := [n0, n1, n2, n3], T := [t0, t1], A := [a0, a1] } W) : CallsE Tryz.prog 5 #[.agg #[.int .u8 i0, .int .u8 i1, .int .i64 i2, .string t0, .string t1, .slice a0 n0 n1], .slice a1 n2 n3] W R :=
  fn_calls Tryz.func5 _ _ { I := [i0, i1, i2], N := [n0, n1, n2, n3], T := [t0, t1], A := [a0, a1] } _ x_lcomes (fun v hv => by cases hv) h

end Go.Proofs.YtijinopghlpdbaaGreatDoor
