/- What is left to show of functions, as the walk that the kernel computes finds it (written by wip/vc2.py). -/
import Derived.Test.YtckgdgkkmhochaaGreatDoorProg
import Derived.Test.YtckgdgkkmhochaaGreatDoorSfD
namespace Go.Proofs.YtckgdgkkmhochaaGreatDoor
open Go Go.RowKit Go.SF
set_option maxRecDepth 100000

-- callboard/parse.by
@[reducible] def t_by_1 : Tree := (.grow (.wr (.ret (.tup [(.agg [(.str (.tl [124])), (.int .u8 (.il 14)), (.int .i64 (.il 1))]), (.bool (.bl true))]) [] [] [])))
@[reducible] def t_by_2 : Tree := (.grow (.wr (.ret (.tup [(.agg [(.str (.tl [38])), (.int .u8 (.il 13)), (.int .i64 (.il 2))]), (.bool (.bl true))]) [] [] [])))
@[reducible] def t_by_3 : Tree := (.grow (.wr (.ret (.tup [(.agg [(.str (.tl [60])), (.int .u8 (.il 9)), (.int .i64 (.il 3))]), (.bool (.bl true))]) [] [] [])))
@[reducible] def t_by_4 : Tree := (.grow (.wr (.ret (.tup [(.agg [(.str (.tl [60, 61])), (.int .u8 (.il 10)), (.int .i64 (.il 3))]), (.bool (.bl true))]) [] [] [])))
@[reducible] def t_by_5 : Tree := (.grow (.wr (.ret (.tup [(.agg [(.str (.tl [61, 61])), (.int .u8 (.il 11)), (.int .i64 (.il 3))]), (.bool (.bl true))]) [] [] [])))
@[reducible] def t_by_6 : Tree := (.grow (.wr (.ret (.tup [(.agg [(.str (.tl [33, 61])), (.int .u8 (.il 12)), (.int .i64 (.il 3))]), (.bool (.bl true))]) [] [] [])))
@[reducible] def t_by_7 : Tree := (.grow (.wr (.ret (.tup [(.agg [(.str (.tl [43])), (.int .u8 (.il 8)), (.int .i64 (.il 4))]), (.bool (.bl true))]) [] [] [])))
@[reducible] def t_by_8 : Tree := (.grow (.wr (.ret (.tup [(.agg [(.str (.tl [45])), (.int .u8 (.il 15)), (.int .i64 (.il 4))]), (.bool (.bl true))]) [] [] [])))
@[reducible] def t_by_9 : Tree := (.grow (.wr (.ret (.tup [(.agg [(.str (.tl [42])), (.int .u8 (.il 5)), (.int .i64 (.il 5))]), (.bool (.bl true))]) [] [] [])))
@[reducible] def t_by_10 : Tree := (.grow (.wr (.ret (.tup [(.agg [(.str (.tl [47])), (.int .u8 (.il 6)), (.int .i64 (.il 5))]), (.bool (.bl true))]) [] [] [])))
@[reducible] def t_by_11 : Tree := (.grow (.wr (.ret (.tup [(.agg [(.str (.tl [37])), (.int .u8 (.il 7)), (.int .i64 (.il 5))]), (.bool (.bl true))]) [] [] [])))
@[reducible] def t_by_12 : Tree := (.grow (.wr (.ret (.tup [(.agg [(.str (.tl [])), (.int .u8 (.il 0)), (.int .i64 (.il 0))]), (.bool (.bl false))]) [] [] [])))
@[reducible] def t_by_13 : Tree := (.br (.bin .bor (.bin .teq (.tl [37]) (.tv 0)) (.bin .ieq (.il 7) (.iv 0))) t_by_11 t_by_12)
@[reducible] def t_by_14 : Tree := (.br (.bin .bor (.bin .teq (.tl [47]) (.tv 0)) (.bin .ieq (.il 6) (.iv 0))) t_by_10 t_by_13)
@[reducible] def t_by_15 : Tree := (.br (.bin .bor (.bin .teq (.tl [42]) (.tv 0)) (.bin .ieq (.il 5) (.iv 0))) t_by_9 t_by_14)
@[reducible] def t_by_16 : Tree := (.br (.bin .bor (.bin .teq (.tl [45]) (.tv 0)) (.bin .ieq (.il 15) (.iv 0))) t_by_8 t_by_15)
@[reducible] def t_by_17 : Tree := (.br (.bin .bor (.bin .teq (.tl [43]) (.tv 0)) (.bin .ieq (.il 8) (.iv 0))) t_by_7 t_by_16)
@[reducible] def t_by_18 : Tree := (.br (.bin .bor (.bin .teq (.tl [33, 61]) (.tv 0)) (.bin .ieq (.il 12) (.iv 0))) t_by_6 t_by_17)
@[reducible] def t_by_19 : Tree := (.br (.bin .bor (.bin .teq (.tl [61, 61]) (.tv 0)) (.bin .ieq (.il 11) (.iv 0))) t_by_5 t_by_18)
@[reducible] def t_by_20 : Tree := (.br (.bin .bor (.bin .teq (.tl [60, 61]) (.tv 0)) (.bin .ieq (.il 10) (.iv 0))) t_by_4 t_by_19)
@[reducible] def t_by_21 : Tree := (.br (.bin .bor (.bin .teq (.tl [60]) (.tv 0)) (.bin .ieq (.il 9) (.iv 0))) t_by_3 t_by_20)
@[reducible] def t_by_22 : Tree := (.br (.bin .bor (.bin .teq (.tl [38]) (.tv 0)) (.bin .ieq (.il 13) (.iv 0))) t_by_2 t_by_21)
@[reducible] def t_by : Tree :=
(.new (.new (.new (.grow (.new (.wr (.br (.bin .bor (.bin .teq (.tl [124]) (.tv 0)) (.bin .ieq (.il 14) (.iv 0))) t_by_1 t_by_22)))))))
theorem x_by : xfn Tryz.prog { ex := false, inl := [74, 75, 63, 76, 65, 67, 66], loops := [], unroll := [(2, 13)], mu := [], mus := [], stays := [], rowT := [], rwx := false, nilR := [], rws := [] } Tryz.f43 [(.str (.tv 0)), (.int .u8 (.iv 0))] [] [] ⟨1, 0, 0, 1, 0, 0, 0, 0⟩ = some t_by := by kernel_rfl
theorem vc_by (i0 : Int) (t0 : ByteArray) (W : Wd) (R : Ending → World → Prop) (h : t_by.den Tryz.prog W.w.heap.size R [] { I := [i0], T := [t0] } W) : CallsE Tryz.prog 43 #[.string t0, .int .u8 i0] W R :=
  fn_calls Tryz.func43 _ _ { I := [i0], T := [t0] } _ x_by (fun v hv => by cases hv) h

-- (*callboard/parse.reader).sign
@[reducible] def t_sign_1 : Tree := (.chk (.bin .le (.il 1) (.nv 0)) (.sub 0 (.il 1) (.nv 0) (.nv 1) 2 (.wr (.ret (.bool (.bl true)) [⟨0, 91, [(.slc 1 (.nv 2) (.nv 3))]⟩] [] []))))
@[reducible] def t_sign_2 : Tree := (.br (.un .not (.bin .teq (.tv 1) (.tv 0))) (.ret (.bool (.bl false)) [⟨0, 91, [(.slc 0 (.nv 0) (.nv 1))]⟩] [] []) t_sign_1)
@[reducible] def t_sign_3 : Tree := (.br (.bin .ieq (.iv 0) (.il 4)) (.look 9 (.elt 0 (.il 0) 2 1) (.str (.tv 1)) ⟨0, 0, 0, 1, 0, 0, 0, 0⟩ t_sign_2) (.ret (.bool (.bl false)) [⟨0, 91, [(.slc 0 (.nv 0) (.nv 1))]⟩] [] []))
@[reducible] def t_sign : Tree :=
(.chk (.bin .bor (.bin .ieq (.nv 0) (.il 0)) (.sm 0)) (.chk (.bin .bor (.bin .ieq (.nv 0) (.il 0)) (.bin .le (.il 0) (.il 0))) (.chk (.bin .bor (.bin .ieq (.nv 0) (.il 0)) (.bin .lt (.il 0) (.nv 0))) (.br (.un .not (.bin .ieq (.nv 0) (.il 0))) (.look 5 (.elt 0 (.il 0) 2 0) (.int .u8 (.iv 0)) ⟨1, 0, 0, 0, 0, 0, 0, 0⟩ t_sign_3) (.ret (.bool (.bl false)) [⟨0, 91, [(.slc 0 (.nv 0) (.nv 1))]⟩] [] [])))))
theorem x_sign : xfn Tryz.prog { ex := false, inl := [74, 75, 63, 76, 65, 67, 66], loops := [], unroll := [], mu := [], mus := [], stays := [], rowT := [], rwx := false, nilR := [], rws := [] } Tryz.f116 [(.ptr 0 0), (.str (.tv 0))] [⟨0, 91, [(.slc 0 (.nv 0) (.nv 1))]⟩] [] ⟨0, 2, 0, 1, 0, 1, 1, 0⟩ = some t_sign := by kernel_rfl
theorem vc_sign (n0 n1 : Nat) (t0 : ByteArray) (a0 : Option Addr) (m0 : Nat) (W : Wd) (R : Ending → World → Prop) (hm : W.w.heap[m0]? = some (.cells #[.slice a0 n0 n1] 91)) (hI : ¬ W.I m0) (h : t_sign.den Tryz.prog W.w.heap.size R [] { N := [n0, n1], T := [t0], A := [a0], M := [m0] } W) : CallsE Tryz.prog 116 #[.pointer (some ⟨m0, 0, none⟩), .string t0] W R :=
  fn_calls_mu Tryz.func116 _ _ [⟨0, 91, [(.slc 0 (.nv 0) (.nv 1))]⟩] { N := [n0, n1], T := [t0], A := [a0], M := [m0] } _ x_sign (fun v hv => by cases hv) (fun b hb => by simp only [List.mem_singleton] at hb; subst hb; exact hm) (fun b hb => by simp only [List.mem_singleton] at hb; subst hb; exact hI) (List.pairwise_singleton _ _) h

-- (*callboard/parse.reader).must
@[reducible] def t_must_1 : Tree := (.br (.un .not (.bv 0)) (.pan (.ifc 88 (.agg []))) (.ret (.tup []) [⟨0, 91, [(.slc 1 (.nv 2) (.nv 3))]⟩] [] []))
@[reducible] def t_must : Tree :=
(.call 116 [(.ptr 0 0), (.str (.tv 0))] [⟨0, 91, [(.slc 0 (.nv 0) (.nv 1))]⟩] [] [⟨0, 91, [(.slc 1 (.nv 2) (.nv 3))]⟩] (.bool (.bv 0)) ⟨0, 2, 1, 0, 0, 1, 0, 0⟩ t_must_1)
theorem x_must : xfn Tryz.prog { ex := false, inl := [74, 75, 63, 76, 65, 67, 66], loops := [], unroll := [], mu := [(116, [0])], mus := [], stays := [], rowT := [], rwx := false, nilR := [], rws := [] } Tryz.f117 [(.ptr 0 0), (.str (.tv 0))] [⟨0, 91, [(.slc 0 (.nv 0) (.nv 1))]⟩] [] ⟨0, 2, 0, 1, 0, 1, 1, 0⟩ = some t_must := by kernel_rfl
theorem vc_must (n0 n1 : Nat) (t0 : ByteArray) (a0 : Option Addr) (m0 : Nat) (W : Wd) (R : Ending → World → Prop) (hm : W.w.heap[m0]? = some (.cells #[.slice a0 n0 n1] 91)) (hI : ¬ W.I m0) (h : t_must.den Tryz.prog W.w.heap.size R [] { N := [n0, n1], T := [t0], A := [a0], M := [m0] } W) : CallsE Tryz.prog 117 #[.pointer (some ⟨m0, 0, none⟩), .string t0] W R :=
  fn_calls_mu Tryz.func117 _ _ [⟨0, 91, [(.slc 0 (.nv 0) (.nv 1))]⟩] { N := [n0, n1], T := [t0], A := [a0], M := [m0] } _ x_must (fun v hv => by cases hv) (fun b hb => by simp only [List.mem_singleton] at hb; subst hb; exact hm) (fun b hb => by simp only [List.mem_singleton] at hb; subst hb; exact hI) (List.pairwise_singleton _ _) h

-- (*callboard/parse.reader).one
@[reducible] def t_one_1 : Tree := (.new (.wr (.ret (.agg [(.int .u8 (.il 3)), (.int .u8 (.il 0)), (.int .i64 (.il 0)), (.str (.tl [])), (.str (.tl [])), (.slb 2 0 1 1)]) [⟨2, 26, [(.int .u8 (.iv 0)), (.int .u8 (.iv 1)), (.int .i64 (.iv 2)), (.str (.tv 0)), (.str (.tv 1)), (.slc 2 (.nv 4) (.nv 5))]⟩, ⟨0, 91, [(.slc 3 (.nv 6) (.nv 7))]⟩] [] [])))
@[reducible] def t_one_2 : Tree := (.call 95 [(.ptr 0 0)] [⟨0, 91, [(.slc 1 (.nv 2) (.nv 3))]⟩] [] [⟨0, 91, [(.slc 3 (.nv 6) (.nv 7))]⟩] (.agg [(.int .u8 (.iv 0)), (.int .u8 (.iv 1)), (.int .i64 (.iv 2)), (.str (.tv 0)), (.str (.tv 1)), (.slc 2 (.nv 4) (.nv 5))]) ⟨3, 4, 0, 2, 0, 2, 0, 0⟩ t_one_1)
@[reducible] def t_one_3 : Tree := (.new (.wr (.ret (.agg [(.int .u8 (.il 4)), (.int .u8 (.il 0)), (.int .i64 (.il 0)), (.str (.tl [])), (.str (.tl [])), (.slb 2 0 1 1)]) [⟨2, 26, [(.int .u8 (.iv 0)), (.int .u8 (.iv 1)), (.int .i64 (.iv 2)), (.str (.tv 0)), (.str (.tv 1)), (.slc 3 (.nv 6) (.nv 7))]⟩, ⟨0, 91, [(.slc 4 (.nv 8) (.nv 9))]⟩] [] [])))
@[reducible] def t_one_4 : Tree := (.call 95 [(.ptr 0 0)] [⟨0, 91, [(.slc 2 (.nv 4) (.nv 5))]⟩] [] [⟨0, 91, [(.slc 4 (.nv 8) (.nv 9))]⟩] (.agg [(.int .u8 (.iv 0)), (.int .u8 (.iv 1)), (.int .i64 (.iv 2)), (.str (.tv 0)), (.str (.tv 1)), (.slc 3 (.nv 6) (.nv 7))]) ⟨3, 4, 0, 2, 0, 2, 0, 0⟩ t_one_3)
@[reducible] def t_one_5 : Tree := (.wr (.ret (.agg [(.int .u8 (.iv 0)), (.int .u8 (.iv 1)), (.int .i64 (.iv 2)), (.str (.tv 0)), (.str (.tv 1)), (.slc 4 (.nv 8) (.nv 9))]) [⟨0, 91, [(.slc 6 (.nv 12) (.nv 13))]⟩] [] []))
@[reducible] def t_one_6 : Tree := (.new (.wr (.call 117 [(.ptr 0 0), (.str (.tl [41]))] [⟨0, 91, [(.slc 5 (.nv 10) (.nv 11))]⟩] [] [⟨0, 91, [(.slc 6 (.nv 12) (.nv 13))]⟩] (.tup []) ⟨0, 2, 0, 0, 0, 1, 0, 0⟩ t_one_5)))
@[reducible] def t_one_7 : Tree := (.call 61 [(.ptr 0 0), (.int .i64 (.il 1))] [⟨0, 91, [(.slc 3 (.nv 6) (.nv 7))]⟩] [] [⟨0, 91, [(.slc 5 (.nv 10) (.nv 11))]⟩] (.agg [(.int .u8 (.iv 0)), (.int .u8 (.iv 1)), (.int .i64 (.iv 2)), (.str (.tv 0)), (.str (.tv 1)), (.slc 4 (.nv 8) (.nv 9))]) ⟨3, 4, 0, 2, 0, 2, 0, 0⟩ t_one_6)
@[reducible] def t_one_8 : Tree := (.grow (.wr (.ret (.agg [(.int .u8 (.il 1)), (.int .u8 (.il 1)), (.int .i64 (.iv 2)), (.str (.tl [])), (.str (.tl [])), .nils]) [⟨0, 91, [(.slc 4 (.nv 8) (.nv 9))]⟩] [] [])))
@[reducible] def t_one_9 : Tree := (.call 92 [(.str (.tv 0)), (.int .i64 (.il 10)), (.int .i64 (.il 64))] [] [] [] (.tup [(.int .i64 (.iv 2)), (.var 0)]) ⟨1, 0, 0, 0, 1, 0, 0, 0⟩ t_one_8)
@[reducible] def t_one_10 : Tree := (.wr (.ret (.agg [(.int .u8 (.il 1)), (.int .u8 (.il 3)), (.int .i64 (.il 0)), (.str (.tv 0)), (.str (.tl [])), .nils]) [⟨0, 91, [(.slc 4 (.nv 8) (.nv 9))]⟩] [] []))
@[reducible] def t_one_11 : Tree := (.grow (.wr (.ret (.agg [(.int .u8 (.il 1)), (.int .u8 (.il 2)), (.int .i64 (.il 1)), (.str (.tl [])), (.str (.tl [])), .nils]) [⟨0, 91, [(.slc 4 (.nv 8) (.nv 9))]⟩] [] [])))
@[reducible] def t_one_12 : Tree := (.grow (.wr (.ret (.agg [(.int .u8 (.il 1)), (.int .u8 (.il 2)), (.int .i64 (.il 0)), (.str (.tl [])), (.str (.tl [])), .nils]) [⟨0, 91, [(.slc 4 (.nv 8) (.nv 9))]⟩] [] [])))
@[reducible] def t_one_13 : Tree := (.new (.wr (.ret (.agg [(.int .u8 (.il 16)), (.int .u8 (.il 0)), (.int .i64 (.il 0)), (.str (.tl [])), (.str (.tl [])), (.slb 4 0 1 1)]) [⟨4, 26, [(.int .u8 (.iv 2)), (.int .u8 (.iv 3)), (.int .i64 (.iv 4)), (.str (.tv 1)), (.str (.tv 2)), (.slc 6 (.nv 12) (.nv 13))]⟩, ⟨0, 91, [(.slc 8 (.nv 16) (.nv 17))]⟩] [] [])))
@[reducible] def t_one_14 : Tree := (.new (.wr (.call 117 [(.ptr 0 0), (.str (.tl [41]))] [⟨0, 91, [(.slc 7 (.nv 14) (.nv 15))]⟩] [] [⟨0, 91, [(.slc 8 (.nv 16) (.nv 17))]⟩] (.tup []) ⟨0, 2, 0, 0, 0, 1, 0, 0⟩ t_one_13)))
@[reducible] def t_one_15 : Tree := (.call 61 [(.ptr 0 0), (.int .i64 (.il 1))] [⟨0, 91, [(.slc 5 (.nv 10) (.nv 11))]⟩] [] [⟨0, 91, [(.slc 7 (.nv 14) (.nv 15))]⟩] (.agg [(.int .u8 (.iv 2)), (.int .u8 (.iv 3)), (.int .i64 (.iv 4)), (.str (.tv 1)), (.str (.tv 2)), (.slc 6 (.nv 12) (.nv 13))]) ⟨3, 4, 0, 2, 0, 2, 0, 0⟩ t_one_14)
@[reducible] def t_one_16 : Tree := (.call 117 [(.ptr 0 0), (.str (.tl [40]))] [⟨0, 91, [(.slc 4 (.nv 8) (.nv 9))]⟩] [] [⟨0, 91, [(.slc 5 (.nv 10) (.nv 11))]⟩] (.tup []) ⟨0, 2, 0, 0, 0, 1, 0, 0⟩ t_one_15)
@[reducible] def t_one_17 : Tree := (.wr (.ret (.agg [(.int .u8 (.il 2)), (.int .u8 (.il 0)), (.int .i64 (.il 0)), (.str (.tl [])), (.str (.tv 0)), .nils]) [⟨0, 91, [(.slc 4 (.nv 8) (.nv 9))]⟩] [] []))
@[reducible] def t_one_18 : Tree := (.br (.bin .bor (.bin .teq (.tv 0) (.tl [121, 101, 115])) (.bin .teq (.tv 0) (.tl [110, 111]))) (.br (.bin .teq (.tv 0) (.tl [121, 101, 115])) t_one_11 t_one_12) (.br (.bin .teq (.tv 0) (.tl [108, 101, 110])) t_one_16 t_one_17))
@[reducible] def t_one_19 : Tree := (.new (.wr (.chk (.bin .le (.il 1) (.nv 6)) (.sub 3 (.il 1) (.nv 6) (.nv 7) 2 (.wr (.br (.bin .ieq (.iv 1) (.il 1)) t_one_9 (.br (.bin .ieq (.iv 1) (.il 3)) t_one_10 t_one_18)))))))
@[reducible] def t_one_20 : Tree := (.look 83 (.elt 3 (.il 0) 2 0) (.agg [(.int .u8 (.iv 1)), (.str (.tv 0))]) ⟨1, 0, 0, 1, 0, 0, 0, 0⟩ t_one_19)
@[reducible] def t_one_21 : Tree := (.look 5 (.elt 3 (.il 0) 2 0) (.int .u8 (.iv 0)) ⟨1, 0, 0, 0, 0, 0, 0, 0⟩ (.br (.bin .ieq (.iv 0) (.il 4)) (.pan (.ifc 88 (.agg []))) t_one_20))
@[reducible] def t_one_22 : Tree := (.chk (.bin .bor (.bin .ieq (.nv 6) (.il 0)) (.sm 3)) (.chk (.bin .bor (.bin .ieq (.nv 6) (.il 0)) (.bin .le (.il 0) (.il 0))) (.chk (.bin .bor (.bin .ieq (.nv 6) (.il 0)) (.bin .lt (.il 0) (.nv 6))) (.br (.un .not (.bin .ieq (.nv 6) (.il 0))) t_one_21 (.pan (.ifc 88 (.agg [])))))))
@[reducible] def t_one_23 : Tree := (.call 116 [(.ptr 0 0), (.str (.tl [40]))] [⟨0, 91, [(.slc 2 (.nv 4) (.nv 5))]⟩] [] [⟨0, 91, [(.slc 3 (.nv 6) (.nv 7))]⟩] (.bool (.bv 2)) ⟨0, 2, 1, 0, 0, 1, 0, 0⟩ (.br (.bv 2) t_one_7 t_one_22))
@[reducible] def t_one_24 : Tree := (.call 116 [(.ptr 0 0), (.str (.tl [33]))] [⟨0, 91, [(.slc 1 (.nv 2) (.nv 3))]⟩] [] [⟨0, 91, [(.slc 2 (.nv 4) (.nv 5))]⟩] (.bool (.bv 1)) ⟨0, 2, 1, 0, 0, 1, 0, 0⟩ (.br (.bv 1) t_one_4 t_one_23))
@[reducible] def t_one : Tree :=
(.new (.call 116 [(.ptr 0 0), (.str (.tl [45]))] [⟨0, 91, [(.slc 0 (.nv 0) (.nv 1))]⟩] [] [⟨0, 91, [(.slc 1 (.nv 2) (.nv 3))]⟩] (.bool (.bv 0)) ⟨0, 2, 1, 0, 0, 1, 0, 0⟩ (.br (.bv 0) t_one_2 t_one_24)))
theorem x_one : xfn Tryz.prog { ex := false, inl := [74, 75, 63, 76, 65, 67, 66], loops := [], unroll := [], mu := [(116, [0]), (117, [0]), (95, [0]), (61, [0])], mus := [], stays := [], rowT := [], rwx := false, nilR := [], rws := [] } Tryz.f95 [(.ptr 0 0)] [⟨0, 91, [(.slc 0 (.nv 0) (.nv 1))]⟩] [] ⟨0, 2, 0, 0, 0, 1, 1, 0⟩ = some t_one := by kernel_rfl
theorem vc_one (n0 n1 : Nat) (a0 : Option Addr) (m0 : Nat) (W : Wd) (R : Ending → World → Prop) (hm : W.w.heap[m0]? = some (.cells #[.slice a0 n0 n1] 91)) (hI : ¬ W.I m0) (h : t_one.den Tryz.prog W.w.heap.size R [] { N := [n0, n1], A := [a0], M := [m0] } W) : CallsE Tryz.prog 95 #[.pointer (some ⟨m0, 0, none⟩)] W R :=
  fn_calls_mu Tryz.func95 _ _ [⟨0, 91, [(.slc 0 (.nv 0) (.nv 1))]⟩] { N := [n0, n1], A := [a0], M := [m0] } _ x_one (fun v hv => by cases hv) (fun b hb => by simp only [List.mem_singleton] at hb; subst hb; exact hm) (fun b hb => by simp only [List.mem_singleton] at hb; subst hb; exact hI) (List.pairwise_singleton _ _) h

-- (*callboard/parse.reader).two
@[reducible] def t_two_1 : Tree := (.wr (.ret (.agg [(.int .u8 (.iv 5)), (.int .u8 (.iv 6)), (.int .i64 (.iv 7)), (.str (.tv 2)), (.str (.tv 3)), (.slc 3 (.nv 6) (.nv 7))]) [⟨0, 91, [(.slc 4 (.nv 8) (.nv 9))]⟩] [] []))
@[reducible] def t_two_2 : Tree := (.frz [⟨4, 26, [(.int .u8 (.iv 5)), (.int .u8 (.iv 6)), (.int .i64 (.iv 7)), (.str (.tv 2)), (.str (.tv 3)), (.slc 3 (.nv 6) (.nv 7)), (.int .u8 (.iv 11)), (.int .u8 (.iv 12)), (.int .i64 (.iv 13)), (.str (.tv 6)), (.str (.tv 7)), (.slc 6 (.nv 12) (.nv 13))]⟩, ⟨3, 69, [(.str (.tv 5)), (.int .u8 (.iv 9)), (.int .i64 (.iv 10))]⟩] (.again 0 [(.int .i64 (.un (.wrap .i64) (.bin .sub (.iv 10) (.il 1)))), (.int .u8 (.iv 9)), (.int .u8 (.il 0)), (.int .i64 (.il 0)), (.str (.tl [])), (.str (.tl [])), (.slb 4 0 2 2), (.slc 7 (.nv 14) (.nv 15))] []))
@[reducible] def t_two_3 : Tree := (.frz [⟨4, 26, [(.int .u8 (.iv 5)), (.int .u8 (.iv 6)), (.int .i64 (.iv 7)), (.str (.tv 2)), (.str (.tv 3)), (.slc 3 (.nv 6) (.nv 7)), (.int .u8 (.iv 11)), (.int .u8 (.iv 12)), (.int .i64 (.iv 13)), (.str (.tv 6)), (.str (.tv 7)), (.slc 6 (.nv 12) (.nv 13))]⟩, ⟨3, 69, [(.str (.tv 5)), (.int .u8 (.iv 9)), (.int .i64 (.iv 10))]⟩] (.again 0 [(.int .i64 (.iv 10)), (.int .u8 (.iv 9)), (.int .u8 (.il 0)), (.int .i64 (.il 0)), (.str (.tl [])), (.str (.tl [])), (.slb 4 0 2 2), (.slc 7 (.nv 14) (.nv 15))] []))
@[reducible] def t_two_4 : Tree := (.chk (.bin .le (.il 1) (.nv 8)) (.sub 4 (.il 1) (.nv 8) (.nv 9) 2 (.wr (.grow (.call 61 [(.ptr 0 0), (.int .i64 (.un (.wrap .i64) (.bin .add (.iv 10) (.il 1))))] [⟨0, 91, [(.slc 5 (.nv 10) (.nv 11))]⟩] [] [⟨0, 91, [(.slc 7 (.nv 14) (.nv 15))]⟩] (.agg [(.int .u8 (.iv 11)), (.int .u8 (.iv 12)), (.int .i64 (.iv 13)), (.str (.tv 6)), (.str (.tv 7)), (.slc 6 (.nv 12) (.nv 13))]) ⟨3, 4, 0, 2, 0, 2, 0, 0⟩ (.grow (.new (.grow (.wr (.br (.bin .ieq (.iv 10) (.il 3)) t_two_2 t_two_3))))))))))
@[reducible] def t_two_5 : Tree := (.new (.wr (.br (.bin .bor (.bin .bor (.un .not (.bv 0)) (.bin .lt (.iv 10) (.iv 0))) (.bin .lt (.iv 4) (.iv 10))) t_two_1 t_two_4)))
@[reducible] def t_two_6 : Tree := (.call 43 [(.str (.tv 4)), (.int .u8 (.il 0))] [] [] [] (.tup [(.agg [(.str (.tv 5)), (.int .u8 (.iv 9)), (.int .i64 (.iv 10))]), (.bool (.bv 0))]) ⟨2, 0, 1, 1, 0, 0, 0, 0⟩ t_two_5)
@[reducible] def t_two_7 : Tree := (.br (.bin .ieq (.iv 8) (.il 4)) (.look 9 (.elt 4 (.il 0) 2 1) (.str (.tv 4)) ⟨0, 0, 0, 1, 0, 0, 0, 0⟩ t_two_6) t_two_1)
@[reducible] def t_two_8 : Tree := (.chk (.bin .bor (.un .not (.bin .lt (.il 0) (.nv 8))) (.sm 4)) (.chk (.bin .bor (.un .not (.bin .lt (.il 0) (.nv 8))) (.bin .le (.il 0) (.il 0))) (.chk (.bin .bor (.un .not (.bin .lt (.il 0) (.nv 8))) (.bin .lt (.il 0) (.nv 8))) (.br (.bin .lt (.il 0) (.nv 8)) (.look 5 (.elt 4 (.il 0) 2 0) (.int .u8 (.iv 8)) ⟨1, 0, 0, 0, 0, 0, 0, 0⟩ t_two_7) t_two_1))))
@[reducible] def t_two_9 : Tree := (.new (.wr (.loop [(.int .i64 (.il 7)), (.int .u8 (.iv 1)), (.int .u8 (.iv 2)), (.int .i64 (.iv 3)), (.str (.tv 0)), (.str (.tv 1)), (.slc 1 (.nv 2) (.nv 3)), (.slc 2 (.nv 4) (.nv 5))] [] [(.int .i64 (.iv 4)), (.int .u8 (.iv 5)), (.int .u8 (.iv 6)), (.int .i64 (.iv 7)), (.str (.tv 2)), (.str (.tv 3)), (.slc 3 (.nv 6) (.nv 7)), (.slc 4 (.nv 8) (.nv 9))] [] ⟨4, 4, 0, 2, 0, 2, 0, 0⟩ t_two_8)))
@[reducible] def t_two : Tree :=
(.new (.call 95 [(.ptr 0 0)] [⟨0, 91, [(.slc 0 (.nv 0) (.nv 1))]⟩] [] [⟨0, 91, [(.slc 2 (.nv 4) (.nv 5))]⟩] (.agg [(.int .u8 (.iv 1)), (.int .u8 (.iv 2)), (.int .i64 (.iv 3)), (.str (.tv 0)), (.str (.tv 1)), (.slc 1 (.nv 2) (.nv 3))]) ⟨3, 4, 0, 2, 0, 2, 0, 0⟩ t_two_9))
theorem x_two : xfn Tryz.prog { ex := false, inl := [74, 75, 63, 76, 65, 67, 66], loops := [⟨3, [.tm 6, .cell 2 0, .cell 2 1, .cell 2 2, .cell 2 3, .cell 2 4, .cell 2 5, .cell 0 0]⟩], unroll := [], mu := [(116, [0]), (117, [0]), (95, [0]), (61, [0])], mus := [0], stays := [], rowT := [], rwx := false, nilR := [], rws := [] } Tryz.f61 [(.ptr 0 0), (.int .i64 (.iv 0))] [⟨0, 91, [(.slc 0 (.nv 0) (.nv 1))]⟩] [] ⟨1, 2, 0, 0, 0, 1, 1, 0⟩ = some t_two := by kernel_rfl
theorem vc_two (i0 : Int) (n0 n1 : Nat) (a0 : Option Addr) (m0 : Nat) (W : Wd) (R : Ending → World → Prop) (hm : W.w.heap[m0]? = some (.cells #[.slice a0 n0 n1] 91)) (hI : ¬ W.I m0) (h : t_two.den Tryz.prog W.w.heap.size R [] { I := [i0], N := [n0, n1], A := [a0], M := [m0] } W) : CallsE Tryz.prog 61 #[.pointer (some ⟨m0, 0, none⟩), .int .i64 i0] W R :=
  fn_calls_mu Tryz.func61 _ _ [⟨0, 91, [(.slc 0 (.nv 0) (.nv 1))]⟩] { I := [i0], N := [n0, n1], A := [a0], M := [m0] } _ x_two (fun v hv => by cases hv) (fun b hb => by simp only [List.mem_singleton] at hb; subst hb; exact hm) (fun b hb => by simp only [List.mem_singleton] at hb; subst hb; exact hI) (List.pairwise_singleton _ _) h

-- callboard/parse.depth
@[reducible] def t_depth_1 : Tree := (.frz [⟨1, 26, [(.int .u8 (.iv 5)), (.int .u8 (.iv 6)), (.int .i64 (.iv 7)), (.str (.tv 2)), (.str (.tv 3)), (.slc 1 (.nv 2) (.nv 3))]⟩] (.again 0 [(.int .i64 (.bin .max (.iv 3) (.iv 8))), (.int .i64 (.un (.wrap .i64) (.bin .add (.iv 4) (.il 1))))] []))
@[reducible] def t_depth_2 : Tree := (.new (.wr (.call 40 [(.agg [(.int .u8 (.iv 5)), (.int .u8 (.iv 6)), (.int .i64 (.iv 7)), (.str (.tv 2)), (.str (.tv 3)), (.slc 1 (.nv 2) (.nv 3))])] [] [] [] (.int .i64 (.iv 8)) ⟨1, 0, 0, 0, 0, 0, 0, 0⟩ t_depth_1)))
@[reducible] def t_depth_3 : Tree := (.chk (.sm 0) (.chk (.bin .le (.il 0) (.iv 4)) (.look 26 (.elt 0 (.iv 4) 6 0) (.agg [(.int .u8 (.iv 5)), (.int .u8 (.iv 6)), (.int .i64 (.iv 7)), (.str (.tv 2)), (.str (.tv 3)), (.slc 1 (.nv 2) (.nv 3))]) ⟨3, 2, 0, 2, 0, 1, 0, 0⟩ t_depth_2)))
@[reducible] def t_depth_4 : Tree := (.br (.bin .lt (.iv 4) (.nv 0)) t_depth_3 (.ret (.int .i64 (.un (.wrap .i64) (.bin .add (.iv 3) (.il 1)))) [] [] []))
@[reducible] def t_depth : Tree :=
(.new (.loop [(.int .i64 (.il 0)), (.int .i64 (.il 0))] [] [(.int .i64 (.iv 3)), (.int .i64 (.iv 4))] [] ⟨2, 0, 0, 0, 0, 0, 0, 0⟩ t_depth_4))
theorem x_depth : xfn Tryz.prog { ex := false, inl := [74, 75, 63, 76, 65, 67, 66], loops := [⟨3, [.tm 3, .tm 9]⟩], unroll := [], mu := [(116, [0]), (117, [0]), (95, [0]), (61, [0])], mus := [], stays := [], rowT := [], rwx := false, nilR := [], rws := [] } Tryz.f40 [(.agg [(.int .u8 (.iv 0)), (.int .u8 (.iv 1)), (.int .i64 (.iv 2)), (.str (.tv 0)), (.str (.tv 1)), (.slc 0 (.nv 0) (.nv 1))])] [] [] ⟨3, 2, 0, 2, 0, 1, 0, 0⟩ = some t_depth := by kernel_rfl
theorem vc_depth (i0 i1 i2 : Int) (n0 n1 : Nat) (t0 t1 : ByteArray) (a0 : Option Addr) (W : Wd) (R : Ending → World → Prop) (h : t_depth.den Tryz.prog W.w.heap.size R [] { I := [i0, i1, i2], N := [n0, n1], T := [t0, t1], A := [a0] } W) : CallsE Tryz.prog 40 #[.agg #[.int .u8 i0, .int .u8 i1, .int .i64 i2, .string t0, .string t1, .slice a0 n0 n1]] W R :=
  fn_calls Tryz.func40 _ _ { I := [i0, i1, i2], N := [n0, n1], T := [t0, t1], A := [a0] } _ x_depth (fun v hv => by cases hv) h

end Go.Proofs.YtckgdgkkmhochaaGreatDoor
