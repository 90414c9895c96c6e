/- What is left to show of functions, as the walk that the kernel computes finds it (written by wip/vc2.py). -/
import Derived.Test.YtckgdgkkmhochaaGreatDoorProg
import Derived.Test.YtckgdgkkmhochaaGreatDoorSfD
namespace Go.Proofs.YtckgdgkkmhochaaGreatDoor
open Go Go.RowKit Go.SF
set_option maxRecDepth 100000

-- callboard/lex.run
@[reducible] def t_runD_1 : Tree := (.grow (.br (.bin .band (.bin .le (.il 48) (.bin .byte (.tv 0) (.iv 0))) (.bin .le (.bin .byte (.tv 0) (.iv 0)) (.il 57))) (.again 0 [(.int .i64 (.un (.wrap .i64) (.bin .add (.iv 0) (.il 1))))] []) (.ret (.int .i64 (.iv 0)) [] [] [])))
@[reducible] def t_runD_2 : Tree := (.chk (.bin .bor (.un .not (.bin .lt (.iv 0) (.un .len (.tv 0)))) (.bin .le (.il 0) (.iv 0))) (.chk (.bin .bor (.un .not (.bin .lt (.iv 0) (.un .len (.tv 0)))) (.bin .lt (.iv 0) (.un .len (.tv 0)))) (.br (.bin .lt (.iv 0) (.un .len (.tv 0))) t_runD_1 (.ret (.int .i64 (.iv 0)) [] [] []))))
@[reducible] def t_runD : Tree :=
(.loop [(.int .i64 (.il 0))] [] [(.int .i64 (.iv 0))] [] ⟨1, 0, 0, 0, 0, 0, 0, 0⟩ t_runD_2)
theorem x_runD : xfn Tryz.prog { ex := false, inl := [86, 87, 88, 93], loops := [⟨2, [.tm 5]⟩], unroll := [], mu := [], mus := [], stays := [], rowT := [], rwx := false, nilR := [], rws := [] } Tryz.f89 [(.str (.tv 0)), (.fn 86 [])] [] [] ⟨0, 0, 0, 1, 0, 0, 0, 0⟩ = some t_runD := by kernel_rfl
theorem vc_runD (t0 : ByteArray) (W : Wd) (R : Ending → World → Prop) (h : t_runD.den Tryz.prog W.w.heap.size R [] { T := [t0] } W) : CallsE Tryz.prog 89 #[.string t0, .func (.func 86) #[] #[]] W R :=
  fn_calls Tryz.func89 _ _ { T := [t0] } _ x_runD (fun v hv => by cases hv) h

-- callboard/lex.run
@[reducible] def t_runB_1 : Tree := (.grow (.br (.bin .bor (.bin .band (.bin .le (.il 97) (.bin .byte (.tv 0) (.iv 0))) (.bin .le (.bin .byte (.tv 0) (.iv 0)) (.il 122))) (.bin .ieq (.bin .byte (.tv 0) (.iv 0)) (.il 95))) (.again 0 [(.int .i64 (.un (.wrap .i64) (.bin .add (.iv 0) (.il 1))))] []) (.ret (.int .i64 (.iv 0)) [] [] [])))
@[reducible] def t_runB_2 : Tree := (.br (.un .not (.bin .band (.bin .le (.il 48) (.bin .byte (.tv 0) (.iv 0))) (.bin .le (.bin .byte (.tv 0) (.iv 0)) (.il 57)))) t_runB_1 (.grow (.again 0 [(.int .i64 (.un (.wrap .i64) (.bin .add (.iv 0) (.il 1))))] [])))
@[reducible] def t_runB_3 : Tree := (.chk (.bin .bor (.un .not (.bin .lt (.iv 0) (.un .len (.tv 0)))) (.bin .le (.il 0) (.iv 0))) (.chk (.bin .bor (.un .not (.bin .lt (.iv 0) (.un .len (.tv 0)))) (.bin .lt (.iv 0) (.un .len (.tv 0)))) (.br (.bin .lt (.iv 0) (.un .len (.tv 0))) t_runB_2 (.ret (.int .i64 (.iv 0)) [] [] []))))
@[reducible] def t_runB : Tree :=
(.loop [(.int .i64 (.il 0))] [] [(.int .i64 (.iv 0))] [] ⟨1, 0, 0, 0, 0, 0, 0, 0⟩ t_runB_3)
theorem x_runB : xfn Tryz.prog { ex := false, inl := [86, 87, 88, 93], loops := [⟨2, [.tm 5]⟩], unroll := [], mu := [], mus := [], stays := [], rowT := [], rwx := false, nilR := [], rws := [] } Tryz.f89 [(.str (.tv 0)), (.fn 88 [])] [] [] ⟨0, 0, 0, 1, 0, 0, 0, 0⟩ = some t_runB := by kernel_rfl
theorem vc_runB (t0 : ByteArray) (W : Wd) (R : Ending → World → Prop) (h : t_runB.den Tryz.prog W.w.heap.size R [] { T := [t0] } W) : CallsE Tryz.prog 89 #[.string t0, .func (.func 88) #[] #[]] W R :=
  fn_calls Tryz.func89 _ _ { T := [t0] } _ x_runB (fun v hv => by cases hv) h

-- callboard/lex.run
@[reducible] def t_runQ_1 : Tree := (.grow (.br (.bin .band (.bin .band (.bin .le (.il 32) (.bin .byte (.tv 0) (.iv 0))) (.bin .le (.bin .byte (.tv 0) (.iv 0)) (.il 126))) (.un .not (.bin .ieq (.bin .byte (.tv 0) (.iv 0)) (.il 39)))) (.again 0 [(.int .i64 (.un (.wrap .i64) (.bin .add (.iv 0) (.il 1))))] []) (.ret (.int .i64 (.iv 0)) [] [] [])))
@[reducible] def t_runQ_2 : Tree := (.chk (.bin .bor (.un .not (.bin .lt (.iv 0) (.un .len (.tv 0)))) (.bin .le (.il 0) (.iv 0))) (.chk (.bin .bor (.un .not (.bin .lt (.iv 0) (.un .len (.tv 0)))) (.bin .lt (.iv 0) (.un .len (.tv 0)))) (.br (.bin .lt (.iv 0) (.un .len (.tv 0))) t_runQ_1 (.ret (.int .i64 (.iv 0)) [] [] []))))
@[reducible] def t_runQ : Tree :=
(.loop [(.int .i64 (.il 0))] [] [(.int .i64 (.iv 0))] [] ⟨1, 0, 0, 0, 0, 0, 0, 0⟩ t_runQ_2)
theorem x_runQ : xfn Tryz.prog { ex := false, inl := [86, 87, 88, 93], loops := [⟨2, [.tm 5]⟩], unroll := [], mu := [], mus := [], stays := [], rowT := [], rwx := false, nilR := [], rws := [] } Tryz.f89 [(.str (.tv 0)), (.fn 93 [])] [] [] ⟨0, 0, 0, 1, 0, 0, 0, 0⟩ = some t_runQ := by kernel_rfl
theorem vc_runQ (t0 : ByteArray) (W : Wd) (R : Ending → World → Prop) (h : t_runQ.den Tryz.prog W.w.heap.size R [] { T := [t0] } W) : CallsE Tryz.prog 89 #[.string t0, .func (.func 93) #[] #[]] W R :=
  fn_calls Tryz.func89 _ _ { T := [t0] } _ x_runQ (fun v hv => by cases hv) h

-- callboard/lex.May
@[reducible] def t_may_1 : Tree := (.chk (.bin .bor (.un .not (.bin .band (.bin .ieq (.iv 2) (.un .len (.tv 0))) (.un .not (.bin .ieq (.un .len (.tv 0)) (.il 1))))) (.bin .le (.il 0) (.il 0))) (.chk (.bin .bor (.un .not (.bin .band (.bin .ieq (.iv 2) (.un .len (.tv 0))) (.un .not (.bin .ieq (.un .len (.tv 0)) (.il 1))))) (.bin .lt (.il 0) (.un .len (.tv 0)))) (.ret (.bool (.bin .band (.bin .ieq (.iv 2) (.un .len (.tv 0))) (.bin .bor (.bin .ieq (.un .len (.tv 0)) (.il 1)) (.un .not (.bin .ieq (.bin .byte (.tv 0) (.il 0)) (.il 48)))))) [] [] [])))
@[reducible] def t_may_2 : Tree := (.call 89 [(.str (.tv 0)), (.fn 86 [])] [] [] [] (.int .i64 (.iv 2)) ⟨1, 0, 0, 0, 0, 0, 0, 0⟩ t_may_1)
@[reducible] def t_may_3 : Tree := (.call 92 [(.str (.tv 0)), (.int .i64 (.il 10)), (.int .i64 (.il 64))] [] [] [] (.tup [(.int .i64 (.iv 1)), (.var 0)]) ⟨1, 0, 0, 0, 1, 0, 0, 0⟩ (.chk (.vk 0) (.br (.vn 0) t_may_2 (.ret (.bool (.bl false)) [] [] []))))
@[reducible] def t_may_4 : Tree := (.ret (.bool (.bin .band (.bin .ieq (.iv 1) (.un .len (.tv 0))) (.bin .le (.un .len (.tv 0)) (.il 12)))) [] [] [])
@[reducible] def t_may_5 : Tree := (.call 89 [(.str (.tv 0)), (.fn 88 [])] [] [] [] (.int .i64 (.iv 1)) ⟨1, 0, 0, 0, 0, 0, 0, 0⟩ t_may_4)
@[reducible] def t_may_6 : Tree := (.grow (.br (.bin .band (.bin .le (.il 97) (.bin .byte (.tv 0) (.il 0))) (.bin .le (.bin .byte (.tv 0) (.il 0)) (.il 122))) t_may_5 (.ret (.bool (.bl false)) [] [] [])))
@[reducible] def t_may_7 : Tree := (.chk (.bin .bor (.bin .teq (.tv 0) (.tl [])) (.bin .le (.il 0) (.il 0))) (.chk (.bin .bor (.bin .teq (.tv 0) (.tl [])) (.bin .lt (.il 0) (.un .len (.tv 0)))) (.br (.un .not (.bin .teq (.tv 0) (.tl []))) t_may_6 (.ret (.bool (.bl false)) [] [] []))))
@[reducible] def t_may_8 : Tree := (.ret (.bool (.bin .band (.bin .ieq (.iv 1) (.un .len (.tv 0))) (.bin .le (.un .len (.tv 0)) (.il 40)))) [] [] [])
@[reducible] def t_may_9 : Tree := (.call 89 [(.str (.tv 0)), (.fn 93 [])] [] [] [] (.int .i64 (.iv 1)) ⟨1, 0, 0, 0, 0, 0, 0, 0⟩ t_may_8)
@[reducible] def t_may_10 : Tree := (.adr ⟨0, 0, none⟩ (.call 94 [(.slc 0 (.il 14) (.il 14)), (.str (.tv 0))] [] [] [] (.bool (.bv 0)) ⟨0, 0, 1, 0, 0, 0, 0, 0⟩ (.ret (.bool (.bv 0)) [] [] [])))
@[reducible] def t_may_11 : Tree := (.br (.bin .ieq (.iv 0) (.il 3)) t_may_9 (.br (.bin .ieq (.iv 0) (.il 4)) t_may_10 (.ret (.bool (.bl false)) [] [] [])))
@[reducible] def t_may : Tree :=
(.new (.br (.bin .ieq (.iv 0) (.il 1)) t_may_3 (.br (.bin .ieq (.iv 0) (.il 2)) t_may_7 t_may_11)))
theorem x_may : xfn Tryz.prog { ex := false, inl := [86, 87, 88, 93], loops := [], unroll := [], mu := [], mus := [], stays := [], rowT := [], rwx := false, nilR := [], rws := [] } Tryz.f59 [(.agg [(.int .u8 (.iv 0)), (.str (.tv 0))])] [] [] ⟨1, 0, 0, 1, 0, 0, 0, 0⟩ = some t_may := by kernel_rfl
theorem vc_may (i0 : Int) (t0 : ByteArray) (W : Wd) (R : Ending → World → Prop) (h : t_may.den Tryz.prog W.w.heap.size R [] { I := [i0], T := [t0] } W) : CallsE Tryz.prog 59 #[.agg #[.int .u8 i0, .string t0]] W R :=
  fn_calls Tryz.func59 _ _ { I := [i0], T := [t0] } _ x_may (fun v hv => by cases hv) h

-- callboard/lex.first
@[reducible] def t_first_1 : Tree := (.chk (.bin .le (.il 0) (.iv 0)) (.chk (.bin .le (.iv 0) (.un .len (.tv 0))) (.grow (.wr (.grow (.ret (.tup [(.agg [(.int .u8 (.il 1)), (.str (.cut (.tv 0) (.il 0) (.iv 0)))]), (.int .i64 (.iv 0))]) [] [] []))))))
@[reducible] def t_first_2 : Tree := (.call 89 [(.str (.tv 0)), (.fn 86 [])] [] [] [] (.int .i64 (.iv 0)) ⟨1, 0, 0, 0, 0, 0, 0, 0⟩ t_first_1)
@[reducible] def t_first_3 : Tree := (.chk (.bin .le (.il 0) (.iv 0)) (.chk (.bin .le (.iv 0) (.un .len (.tv 0))) (.grow (.wr (.grow (.ret (.tup [(.agg [(.int .u8 (.il 2)), (.str (.cut (.tv 0) (.il 0) (.iv 0)))]), (.int .i64 (.iv 0))]) [] [] []))))))
@[reducible] def t_first_4 : Tree := (.call 89 [(.str (.tv 0)), (.fn 88 [])] [] [] [] (.int .i64 (.iv 0)) ⟨1, 0, 0, 0, 0, 0, 0, 0⟩ t_first_3)
@[reducible] def t_first_5 : Tree := (.wr (.ret (.tup [(.agg [(.int .u8 (.il 0)), (.str (.tl []))]), (.int .i64 (.il 0))]) [] [] []))
@[reducible] def t_first_6 : Tree := (.wr (.ret (.tup [(.agg [(.int .u8 (.il 3)), (.str (.tv 1))]), (.int .i64 (.un (.wrap .i64) (.bin .add (.un .len (.tv 1)) (.il 2))))]) [] [] []))
@[reducible] def t_first_7 : Tree := (.chk (.bin .le (.il 0) (.il 1)) (.chk (.bin .le (.il 1) (.un .len (.tv 0))) (.chk (.bin .le (.un .len (.tv 0)) (.un .len (.tv 0))) (.call 90 [(.str (.cut (.tv 0) (.il 1) (.un .len (.tv 0)))), (.str (.tl [39]))] [] [] [] (.tup [(.str (.tv 1)), (.str (.tv 2)), (.bool (.bv 0))]) ⟨0, 0, 1, 2, 0, 0, 0, 0⟩ (.br (.un .not (.bv 0)) t_first_5 t_first_6)))))
@[reducible] def t_first_8 : Tree := (.wr (.ret (.tup [(.agg [(.int .u8 (.il 4)), (.str (.tv 1))]), (.int .i64 (.un .len (.tv 1)))]) [] [] []))
@[reducible] def t_first_9 : Tree := (.wr (.ret (.tup [(.agg [(.int .u8 (.il 4)), (.str (.tv 2))]), (.int .i64 (.un .len (.tv 2)))]) [] [] []))
@[reducible] def t_first_10 : Tree := (.wr (.ret (.tup [(.agg [(.int .u8 (.il 4)), (.str (.tv 3))]), (.int .i64 (.un .len (.tv 3)))]) [] [] []))
@[reducible] def t_first_11 : Tree := (.wr (.ret (.tup [(.agg [(.int .u8 (.il 4)), (.str (.tv 4))]), (.int .i64 (.un .len (.tv 4)))]) [] [] []))
@[reducible] def t_first_12 : Tree := (.wr (.ret (.tup [(.agg [(.int .u8 (.il 4)), (.str (.tv 5))]), (.int .i64 (.un .len (.tv 5)))]) [] [] []))
@[reducible] def t_first_13 : Tree := (.wr (.ret (.tup [(.agg [(.int .u8 (.il 4)), (.str (.tv 6))]), (.int .i64 (.un .len (.tv 6)))]) [] [] []))
@[reducible] def t_first_14 : Tree := (.wr (.ret (.tup [(.agg [(.int .u8 (.il 4)), (.str (.tv 7))]), (.int .i64 (.un .len (.tv 7)))]) [] [] []))
@[reducible] def t_first_15 : Tree := (.wr (.ret (.tup [(.agg [(.int .u8 (.il 4)), (.str (.tv 8))]), (.int .i64 (.un .len (.tv 8)))]) [] [] []))
@[reducible] def t_first_16 : Tree := (.wr (.ret (.tup [(.agg [(.int .u8 (.il 4)), (.str (.tv 9))]), (.int .i64 (.un .len (.tv 9)))]) [] [] []))
@[reducible] def t_first_17 : Tree := (.wr (.ret (.tup [(.agg [(.int .u8 (.il 4)), (.str (.tv 10))]), (.int .i64 (.un .len (.tv 10)))]) [] [] []))
@[reducible] def t_first_18 : Tree := (.wr (.ret (.tup [(.agg [(.int .u8 (.il 4)), (.str (.tv 11))]), (.int .i64 (.un .len (.tv 11)))]) [] [] []))
@[reducible] def t_first_19 : Tree := (.wr (.ret (.tup [(.agg [(.int .u8 (.il 4)), (.str (.tv 12))]), (.int .i64 (.un .len (.tv 12)))]) [] [] []))
@[reducible] def t_first_20 : Tree := (.wr (.ret (.tup [(.agg [(.int .u8 (.il 4)), (.str (.tv 13))]), (.int .i64 (.un .len (.tv 13)))]) [] [] []))
@[reducible] def t_first_21 : Tree := (.wr (.ret (.tup [(.agg [(.int .u8 (.il 4)), (.str (.tv 14))]), (.int .i64 (.un .len (.tv 14)))]) [] [] []))
@[reducible] def t_first_22 : Tree := (.call 91 [(.str (.tv 0)), (.str (.tv 14))] [] [] [] (.bool (.bv 13)) ⟨0, 0, 1, 0, 0, 0, 0, 0⟩ (.br (.bv 13) t_first_21 t_first_5))
@[reducible] def t_first_23 : Tree := (.call 91 [(.str (.tv 0)), (.str (.tv 13))] [] [] [] (.bool (.bv 12)) ⟨0, 0, 1, 0, 0, 0, 0, 0⟩ (.br (.bv 12) t_first_20 t_first_22))
@[reducible] def t_first_24 : Tree := (.call 91 [(.str (.tv 0)), (.str (.tv 12))] [] [] [] (.bool (.bv 11)) ⟨0, 0, 1, 0, 0, 0, 0, 0⟩ (.br (.bv 11) t_first_19 t_first_23))
@[reducible] def t_first_25 : Tree := (.call 91 [(.str (.tv 0)), (.str (.tv 11))] [] [] [] (.bool (.bv 10)) ⟨0, 0, 1, 0, 0, 0, 0, 0⟩ (.br (.bv 10) t_first_18 t_first_24))
@[reducible] def t_first_26 : Tree := (.call 91 [(.str (.tv 0)), (.str (.tv 10))] [] [] [] (.bool (.bv 9)) ⟨0, 0, 1, 0, 0, 0, 0, 0⟩ (.br (.bv 9) t_first_17 t_first_25))
@[reducible] def t_first_27 : Tree := (.call 91 [(.str (.tv 0)), (.str (.tv 9))] [] [] [] (.bool (.bv 8)) ⟨0, 0, 1, 0, 0, 0, 0, 0⟩ (.br (.bv 8) t_first_16 t_first_26))
@[reducible] def t_first_28 : Tree := (.call 91 [(.str (.tv 0)), (.str (.tv 8))] [] [] [] (.bool (.bv 7)) ⟨0, 0, 1, 0, 0, 0, 0, 0⟩ (.br (.bv 7) t_first_15 t_first_27))
@[reducible] def t_first_29 : Tree := (.call 91 [(.str (.tv 0)), (.str (.tv 7))] [] [] [] (.bool (.bv 6)) ⟨0, 0, 1, 0, 0, 0, 0, 0⟩ (.br (.bv 6) t_first_14 t_first_28))
@[reducible] def t_first_30 : Tree := (.call 91 [(.str (.tv 0)), (.str (.tv 6))] [] [] [] (.bool (.bv 5)) ⟨0, 0, 1, 0, 0, 0, 0, 0⟩ (.br (.bv 5) t_first_13 t_first_29))
@[reducible] def t_first_31 : Tree := (.call 91 [(.str (.tv 0)), (.str (.tv 5))] [] [] [] (.bool (.bv 4)) ⟨0, 0, 1, 0, 0, 0, 0, 0⟩ (.br (.bv 4) t_first_12 t_first_30))
@[reducible] def t_first_32 : Tree := (.call 91 [(.str (.tv 0)), (.str (.tv 4))] [] [] [] (.bool (.bv 3)) ⟨0, 0, 1, 0, 0, 0, 0, 0⟩ (.br (.bv 3) t_first_11 t_first_31))
@[reducible] def t_first_33 : Tree := (.call 91 [(.str (.tv 0)), (.str (.tv 3))] [] [] [] (.bool (.bv 2)) ⟨0, 0, 1, 0, 0, 0, 0, 0⟩ (.br (.bv 2) t_first_10 t_first_32))
@[reducible] def t_first_34 : Tree := (.call 91 [(.str (.tv 0)), (.str (.tv 2))] [] [] [] (.bool (.bv 1)) ⟨0, 0, 1, 0, 0, 0, 0, 0⟩ (.br (.bv 1) t_first_9 t_first_33))
@[reducible] def t_first_35 : Tree := (.call 91 [(.str (.tv 0)), (.str (.tv 1))] [] [] [] (.bool (.bv 0)) ⟨0, 0, 1, 0, 0, 0, 0, 0⟩ (.br (.bv 0) t_first_8 t_first_34))
@[reducible] def t_first_36 : Tree := (.look 123 (.val (.pointer (some ⟨0, 0, none⟩))) (.agg [(.str (.tv 1)), (.str (.tv 2)), (.str (.tv 3)), (.str (.tv 4)), (.str (.tv 5)), (.str (.tv 6)), (.str (.tv 7)), (.str (.tv 8)), (.str (.tv 9)), (.str (.tv 10)), (.str (.tv 11)), (.str (.tv 12)), (.str (.tv 13)), (.str (.tv 14))]) ⟨0, 0, 0, 14, 0, 0, 0, 0⟩ t_first_35)
@[reducible] def t_first_37 : Tree := (.new (.wr (.grow (.br (.bin .band (.bin .le (.il 97) (.bin .byte (.tv 0) (.il 0))) (.bin .le (.bin .byte (.tv 0) (.il 0)) (.il 122))) t_first_4 (.br (.bin .ieq (.bin .byte (.tv 0) (.il 0)) (.il 39)) t_first_7 t_first_36)))))
@[reducible] def t_first : Tree :=
(.new (.new (.new (.wr (.chk (.bin .le (.il 0) (.il 0)) (.chk (.bin .lt (.il 0) (.un .len (.tv 0))) (.grow (.br (.bin .band (.bin .le (.il 48) (.bin .byte (.tv 0) (.il 0))) (.bin .le (.bin .byte (.tv 0) (.il 0)) (.il 57))) t_first_2 t_first_37))))))))
theorem x_first : xfn Tryz.prog { ex := false, inl := [86, 87, 88, 93], loops := [], unroll := [(2, 3), (14, 15)], mu := [], mus := [0], stays := [], rowT := [], rwx := false, nilR := [], rws := [] } Tryz.f58 [(.str (.tv 0))] [] [] ⟨0, 0, 0, 1, 0, 0, 0, 0⟩ = some t_first := by kernel_rfl
theorem vc_first (t0 : ByteArray) (W : Wd) (R : Ending → World → Prop) (h : t_first.den Tryz.prog W.w.heap.size R [] { T := [t0] } W) : CallsE Tryz.prog 58 #[.string t0] W R :=
  fn_calls Tryz.func58 _ _ { T := [t0] } _ x_first (fun v hv => by cases hv) h

-- callboard/lex.Lex
@[reducible] def t_lex_1 : Tree := (.ret (.tup [.nils, (.int .i64 (.il 4))]) [] [] [⟨(.slc 0 (.nv 0) (.nv 1)), (.nv 0), 83, 2, [(.l 0)]⟩])
@[reducible] def t_lex_2 : Tree := (.frz [⟨1, 83, [(.int .u8 (.iv 0)), (.str (.tv 3))]⟩, ⟨0, 83, [(.int .u8 (.iv 0)), (.str (.tv 3))]⟩] (.again 0 [(.str (.tv 4)), (.slc 1 (.bin .add (.nv 0) (.il 1)) (.nv 2))] [⟨(.slc 1 (.bin .add (.nv 0) (.il 1)) (.nv 2)), (.bin .add (.nv 0) (.il 1)), 83, 2, [(.l 0), (.s (.int .u8 (.iv 0))), (.s (.str (.tv 3)))]⟩]))
@[reducible] def t_lex_3 : Tree := (.new (.chk (.bin .le (.bin .add (.nv 0) (.il 1)) (.il 5864062014805)) (.app (.bin .add (.nv 0) (.il 1)) (.chk (.bin .le (.il 0) (.iv 1)) (.chk (.bin .le (.iv 1) (.un .len (.tv 2))) (.chk (.bin .le (.un .len (.tv 2)) (.un .len (.tv 2))) (.call 57 [(.str (.cut (.tv 2) (.iv 1) (.un .len (.tv 2)))), (.str (.tl [32]))] [] [⟨(.slc 1 (.bin .add (.nv 0) (.il 1)) (.nv 2)), (.bin .add (.nv 0) (.il 1)), 83, 2, [(.l 0), (.s (.int .u8 (.iv 0))), (.s (.str (.tv 3)))]⟩] [] (.str (.tv 4)) ⟨0, 0, 0, 1, 0, 0, 0, 0⟩ t_lex_2)))))))
@[reducible] def t_lex_4 : Tree := (.call 59 [(.agg [(.int .u8 (.iv 0)), (.str (.tv 3))])] [] [⟨(.slc 0 (.nv 0) (.nv 1)), (.nv 0), 83, 2, [(.l 0)]⟩] [] (.bool (.bv 0)) ⟨0, 0, 1, 0, 0, 0, 0, 0⟩ (.br (.un .not (.bv 0)) t_lex_1 t_lex_3))
@[reducible] def t_lex_5 : Tree := (.call 58 [(.str (.tv 2))] [] [⟨(.slc 0 (.nv 0) (.nv 1)), (.nv 0), 83, 2, [(.l 0)]⟩] [] (.tup [(.agg [(.int .u8 (.iv 0)), (.str (.tv 3))]), (.int .i64 (.iv 1))]) ⟨2, 0, 0, 1, 0, 0, 0, 0⟩ (.new (.wr (.br (.un .not (.bin .ieq (.iv 1) (.il 0))) t_lex_4 t_lex_1))))
@[reducible] def t_lex_6 : Tree := (.ret (.tup [(.slc 0 (.nv 0) (.nv 1)), (.int .i64 (.il 0))]) [] [] [⟨(.slc 0 (.nv 0) (.nv 1)), (.nv 0), 83, 2, [(.l 0)]⟩])
@[reducible] def t_lex_7 : Tree := (.loop [(.str (.tv 1)), .nils] [⟨.nils, (.il 0), 83, 2, []⟩] [(.str (.tv 2)), (.slc 0 (.nv 0) (.nv 1))] [⟨(.slc 0 (.nv 0) (.nv 1)), (.nv 0), 83, 2, [(.l 0)]⟩] ⟨0, 2, 0, 1, 0, 1, 0, 1⟩ (.br (.un .not (.bin .teq (.tv 2) (.tl []))) t_lex_5 t_lex_6))
@[reducible] def t_lex_8 : Tree := (.call 57 [(.str (.tv 0)), (.str (.tl [32]))] [] [] [] (.str (.tv 1)) ⟨0, 0, 0, 1, 0, 0, 0, 0⟩ t_lex_7)
@[reducible] def t_lex : Tree :=
(.br (.bin .lt (.il 100) (.un .len (.tv 0))) (.ret (.tup [.nils, (.int .i64 (.il 40))]) [] [] []) t_lex_8)
theorem x_lex : xfn Tryz.prog { ex := false, inl := [86, 87, 88, 93], loops := [⟨5, [.tm 0, .row 4 61]⟩], unroll := [], mu := [], mus := [], stays := [], rowT := [], rwx := false, nilR := [], rws := [] } Tryz.f38 [(.str (.tv 0))] [] [] ⟨0, 0, 0, 1, 0, 0, 0, 0⟩ = some t_lex := by kernel_rfl
theorem vc_lex (t0 : ByteArray) (W : Wd) (R : Ending → World → Prop) (h : t_lex.den Tryz.prog W.w.heap.size R [] { T := [t0] } W) : CallsE Tryz.prog 38 #[.string t0] W R :=
  fn_calls Tryz.func38 _ _ { T := [t0] } _ x_lex (fun v hv => by cases hv) h

end Go.Proofs.YtckgdgkkmhochaaGreatDoor
