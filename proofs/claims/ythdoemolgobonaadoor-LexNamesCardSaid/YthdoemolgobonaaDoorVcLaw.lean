/- What is left to show of functions, as the walk that the kernel computes finds it (written by wip/vc2.py). -/
import Derived.Test.YthdoemolgobonaaDoorProg
import Derived.Test.YthdoemolgobonaaDoorSfD
namespace Go.Proofs.YthdoemolgobonaaDoor
open Go Go.RowKit Go.SF
set_option maxRecDepth 100000

-- callboard/callboardlaw10.told
@[reducible] def t_told_1 : Tree := (.new (.chk (.bin .le (.bin .add (.nv 2) (.il 1)) (.il 5864062014805)) (.app (.bin .add (.nv 2) (.il 1)) (.again 0 [(.int .i64 (.un (.wrap .i64) (.bin .add (.iv 0) (.il 1)))), (.slc 2 (.bin .add (.nv 2) (.il 1)) (.nv 4))] [⟨(.slc 2 (.bin .add (.nv 2) (.il 1)) (.nv 4)), (.bin .add (.nv 2) (.il 1)), 39, 2, [(.l 0), (.s (.int .u8 (.iv 1))), (.s (.str (.tv 0)))]⟩]))))
@[reducible] def t_told_2 : Tree := (.chk (.sm 0) (.chk (.bin .le (.il 0) (.iv 0)) (.look 30 (.elt 0 (.iv 0) 2 0) (.agg [(.int .u8 (.iv 1)), (.str (.tv 0))]) ⟨1, 0, 0, 1, 0, 0, 0, 0⟩ t_told_1)))
@[reducible] def t_told_3 : Tree := (.ret (.slc 1 (.nv 2) (.nv 3)) [] [] [⟨(.slc 1 (.nv 2) (.nv 3)), (.nv 2), 39, 2, [(.l 0)]⟩])
@[reducible] def t_told : Tree :=
(.loop [(.int .i64 (.il 0)), .nils] [⟨.nils, (.il 0), 39, 2, []⟩] [(.int .i64 (.iv 0)), (.slc 1 (.nv 2) (.nv 3))] [⟨(.slc 1 (.nv 2) (.nv 3)), (.nv 2), 39, 2, [(.l 0)]⟩] ⟨1, 2, 0, 0, 0, 1, 0, 1⟩ (.br (.bin .lt (.iv 0) (.nv 0)) t_told_2 t_told_3))
theorem x_told : xfn Tryd.prog { ex := false, inl := [], loops := [⟨3, [.tm 4, .row 3 33]⟩], unroll := [], mu := [], mus := [], rws := [] } Tryd.f14 [(.slc 0 (.nv 0) (.nv 1))] [] [] ⟨0, 2, 0, 0, 0, 1, 0, 0⟩ = some t_told := by kernel_rfl
theorem vc_told (n0 n1 : Nat) (a0 : Option Addr) (W : Wd) (R : Ending → World → Prop) (h : t_told.den Tryd.prog W.w.heap.size R [] { N := [n0, n1], A := [a0] } W) : CallsE Tryd.prog 14 #[.slice a0 n0 n1] W R :=
  fn_calls Tryd.func14 _ _ { N := [n0, n1], A := [a0] } _ x_told (fun v hv => by cases hv) h

-- callboard/callboardlaw10.given
@[reducible] def t_given_1 : Tree := (.new (.chk (.bin .le (.bin .add (.nv 2) (.il 1)) (.il 5864062014805)) (.app (.bin .add (.nv 2) (.il 1)) (.again 0 [(.int .i64 (.un (.wrap .i64) (.bin .add (.iv 0) (.il 1)))), (.slc 2 (.bin .add (.nv 2) (.il 1)) (.nv 4))] [⟨(.slc 2 (.bin .add (.nv 2) (.il 1)) (.nv 4)), (.bin .add (.nv 2) (.il 1)), 30, 2, [(.l 0), (.s (.int .u8 (.iv 1))), (.s (.str (.tv 0)))]⟩]))))
@[reducible] def t_given_2 : Tree := (.chk (.sm 0) (.chk (.bin .le (.il 0) (.iv 0)) (.look 39 (.elt 0 (.iv 0) 2 0) (.agg [(.int .u8 (.iv 1)), (.str (.tv 0))]) ⟨1, 0, 0, 1, 0, 0, 0, 0⟩ t_given_1)))
@[reducible] def t_given_3 : Tree := (.ret (.slc 1 (.nv 2) (.nv 3)) [] [] [⟨(.slc 1 (.nv 2) (.nv 3)), (.nv 2), 30, 2, [(.l 0)]⟩])
@[reducible] def t_given : Tree :=
(.loop [(.int .i64 (.il 0)), .nils] [⟨.nils, (.il 0), 30, 2, []⟩] [(.int .i64 (.iv 0)), (.slc 1 (.nv 2) (.nv 3))] [⟨(.slc 1 (.nv 2) (.nv 3)), (.nv 2), 30, 2, [(.l 0)]⟩] ⟨1, 2, 0, 0, 0, 1, 0, 1⟩ (.br (.bin .lt (.iv 0) (.nv 0)) t_given_2 t_given_3))
theorem x_given : xfn Tryd.prog { ex := false, inl := [], loops := [⟨3, [.tm 4, .row 3 24]⟩], unroll := [], mu := [], mus := [], rws := [] } Tryd.f18 [(.slc 0 (.nv 0) (.nv 1))] [] [] ⟨0, 2, 0, 0, 0, 1, 0, 0⟩ = some t_given := by kernel_rfl
theorem vc_given (n0 n1 : Nat) (a0 : Option Addr) (W : Wd) (R : Ending → World → Prop) (h : t_given.den Tryd.prog W.w.heap.size R [] { N := [n0, n1], A := [a0] } W) : CallsE Tryd.prog 18 #[.slice a0 n0 n1] W R :=
  fn_calls Tryd.func18 _ _ { N := [n0, n1], A := [a0] } _ x_given (fun v hv => by cases hv) h

-- callboard/callboardref10.Same
@[reducible] def t_same_1 : Tree := (.grow (.br (.un .not (.bin .band (.bin .ieq (.iv 1) (.iv 2)) (.bin .teq (.tv 0) (.tv 1)))) (.ret (.bool (.bl false)) [] [] []) (.again 0 [(.int .i64 (.un (.wrap .i64) (.bin .add (.iv 0) (.il 1))))] [])))
@[reducible] def t_same_2 : Tree := (.chk (.sm 1) (.chk (.bin .lt (.iv 0) (.nv 2)) (.look 39 (.elt 1 (.iv 0) 2 0) (.agg [(.int .u8 (.iv 2)), (.str (.tv 1))]) ⟨1, 0, 0, 1, 0, 0, 0, 0⟩ t_same_1)))
@[reducible] def t_same_3 : Tree := (.chk (.sm 0) (.chk (.bin .le (.il 0) (.iv 0)) (.look 39 (.elt 0 (.iv 0) 2 0) (.agg [(.int .u8 (.iv 1)), (.str (.tv 0))]) ⟨1, 0, 0, 1, 0, 0, 0, 0⟩ t_same_2)))
@[reducible] def t_same_4 : Tree := (.loop [(.int .i64 (.il 0))] [] [(.int .i64 (.iv 0))] [] ⟨1, 0, 0, 0, 0, 0, 0, 0⟩ (.br (.bin .lt (.iv 0) (.nv 0)) t_same_3 (.ret (.bool (.bl true)) [] [] [])))
@[reducible] def t_same : Tree :=
(.br (.un .not (.bin .ieq (.nv 0) (.nv 2))) (.ret (.bool (.bl false)) [] [] []) t_same_4)
theorem x_same : xfn Tryd.prog { ex := false, inl := [], loops := [⟨4, [.tm 5]⟩], unroll := [], mu := [], mus := [], rws := [] } Tryd.f13 [(.slc 0 (.nv 0) (.nv 1)), (.slc 1 (.nv 2) (.nv 3))] [] [] ⟨0, 4, 0, 0, 0, 2, 0, 0⟩ = some t_same := by kernel_rfl
theorem vc_same (n0 n1 n2 n3 : Nat) (a0 a1 : Option Addr) (W : Wd) (R : Ending → World → Prop) (h : t_same.den Tryd.prog W.w.heap.size R [] { N := [n0, n1, n2, n3], A := [a0, a1] } W) : CallsE Tryd.prog 13 #[.slice a0 n0 n1, .slice a1 n2 n3] W R :=
  fn_calls Tryd.func13 _ _ { N := [n0, n1, n2, n3], A := [a0, a1] } _ x_same (fun v hv => by cases hv) h

-- callboard/callboardlaw10.large
@[reducible] def t_large_1 : Tree := (.br (.bin .lt (.il 300) (.un .len (.tv 0))) (.ret (.bool (.bl true)) [] [] []) (.again 0 [(.int .i64 (.un (.wrap .i64) (.bin .add (.iv 0) (.il 1))))] []))
@[reducible] def t_large_2 : Tree := (.chk (.sm 0) (.chk (.bin .le (.il 0) (.iv 0)) (.look 9 (.elt 0 (.iv 0) 2 1) (.str (.tv 0)) ⟨0, 0, 0, 1, 0, 0, 0, 0⟩ t_large_1)))
@[reducible] def t_large_3 : Tree := (.loop [(.int .i64 (.il 0))] [] [(.int .i64 (.iv 0))] [] ⟨1, 0, 0, 0, 0, 0, 0, 0⟩ (.br (.bin .lt (.iv 0) (.nv 0)) t_large_2 (.ret (.bool (.bl false)) [] [] [])))
@[reducible] def t_large : Tree :=
(.br (.bin .lt (.il 200) (.nv 0)) (.ret (.bool (.bl true)) [] [] []) t_large_3)
theorem x_large : xfn Tryd.prog { ex := false, inl := [], loops := [⟨4, [.tm 3]⟩], unroll := [], mu := [], mus := [], rws := [] } Tryd.f15 [(.slc 0 (.nv 0) (.nv 1))] [] [] ⟨0, 2, 0, 0, 0, 1, 0, 0⟩ = some t_large := by kernel_rfl
theorem vc_large (n0 n1 : Nat) (a0 : Option Addr) (W : Wd) (R : Ending → World → Prop) (h : t_large.den Tryd.prog W.w.heap.size R [] { N := [n0, n1], A := [a0] } W) : CallsE Tryd.prog 15 #[.slice a0 n0 n1] W R :=
  fn_calls Tryd.func15 _ _ { N := [n0, n1], A := [a0] } _ x_large (fun v hv => by cases hv) h

-- callboard/callboardlaw10.awake
@[reducible] def t_awake_1 : Tree := (.new (.call 13 [(.slc 5 (.nv 10) (.nv 11)), (.slb 1 0 2 2)] [⟨1, 39, [(.int .u8 (.il 1)), (.str (.tl [49])), (.int .u8 (.il 2)), (.str (.tl [97]))]⟩] [] [] (.bool (.bv 1)) ⟨0, 0, 1, 0, 0, 0, 0, 0⟩ (.ret (.bool (.bv 1)) [] [] [])))
@[reducible] def t_awake_2 : Tree := (.call 14 [(.slc 3 (.nv 6) (.nv 7))] [] [] [] (.slc 5 (.nv 10) (.nv 11)) ⟨0, 2, 0, 0, 0, 1, 0, 0⟩ t_awake_1)
@[reducible] def t_awake_3 : Tree := (.br (.bin .band (.bin .band (.bin .band (.bv 0) (.bin .ieq (.iv 1) (.il 4))) (.bin .ieq (.iv 2) (.il 4))) (.bin .ieq (.iv 3) (.il 0))) t_awake_2 (.ret (.bool (.bl false)) [] [] []))
@[reducible] def t_awake_4 : Tree := (.new (.call 13 [(.slc 4 (.nv 8) (.nv 9)), (.slb 0 0 5 5)] [⟨0, 39, [(.int .u8 (.il 2)), (.str (.tl [97])), (.int .u8 (.il 4)), (.str (.tl [60, 61])), (.int .u8 (.il 1)), (.str (.tl [49, 50])), (.int .u8 (.il 4)), (.str (.tl [38])), (.int .u8 (.il 3)), (.str (.tl [120, 32, 121]))]⟩] [] [] (.bool (.bv 0)) ⟨0, 0, 1, 0, 0, 0, 0, 0⟩ t_awake_3))
@[reducible] def t_awake_5 : Tree := (.call 14 [(.slc 0 (.nv 0) (.nv 1))] [] [] [] (.slc 4 (.nv 8) (.nv 9)) ⟨0, 2, 0, 0, 0, 1, 0, 0⟩ t_awake_4)
@[reducible] def t_awake_6 : Tree := (.call 10 [(.str (.tl [49, 97]))] [] [] [] (.tup [(.slc 3 (.nv 6) (.nv 7)), (.int .i64 (.iv 3))]) ⟨1, 2, 0, 0, 0, 1, 0, 0⟩ (.br (.bin .ieq (.iv 0) (.il 0)) t_awake_5 (.ret (.bool (.bl false)) [] [] [])))
@[reducible] def t_awake_7 : Tree := (.call 10 [(.str (.tl [97, 61, 98]))] [] [] [] (.tup [(.slc 2 (.nv 4) (.nv 5)), (.int .i64 (.iv 2))]) ⟨1, 2, 0, 0, 0, 1, 0, 0⟩ t_awake_6)
@[reducible] def t_awake_8 : Tree := (.call 10 [(.str (.tl [48, 49]))] [] [] [] (.tup [(.slc 1 (.nv 2) (.nv 3)), (.int .i64 (.iv 1))]) ⟨1, 2, 0, 0, 0, 1, 0, 0⟩ t_awake_7)
@[reducible] def t_awake : Tree :=
(.call 10 [(.str (.tl [97, 60, 61, 49, 50, 32, 38, 32, 39, 120, 32, 121, 39]))] [] [] [] (.tup [(.slc 0 (.nv 0) (.nv 1)), (.int .i64 (.iv 0))]) ⟨1, 2, 0, 0, 0, 1, 0, 0⟩ t_awake_8)
theorem x_awake : xfn Tryd.prog { ex := false, inl := [], loops := [], unroll := [], mu := [], mus := [], rws := [] } Tryd.f9 [] [] [] ⟨0, 0, 0, 0, 0, 0, 0, 0⟩ = some t_awake := by kernel_rfl
theorem vc_awake  (W : Wd) (R : Ending → World → Prop) (h : t_awake.den Tryd.prog W.w.heap.size R [] {  } W) : CallsE Tryd.prog 9 #[] W R :=
  fn_calls Tryd.func9 _ _ {  } _ x_awake (fun v hv => by cases hv) h

-- callboard/callboardlaw10.spaces
@[reducible] def t_spaces_1 : Tree := (.chk (.bin .le (.bin .add (.un .len (.tv 0)) (.un .len (.tl [32]))) (.il 9223372036854775807)) (.again 0 [(.int .i64 (.un (.wrap .i64) (.bin .add (.iv 1) (.il 1)))), (.str (.bin .cat (.tv 0) (.tl [32])))] []))
@[reducible] def t_spaces_2 : Tree := (.br (.bin .lt (.iv 1) (.un (.wrap .i64) (.bin .rem (.un (.wrap .u64) (.iv 0)) (.il 4)))) t_spaces_1 (.ret (.str (.tv 0)) [] [] []))
@[reducible] def t_spaces : Tree :=
(.loop [(.int .i64 (.il 0)), (.str (.tl []))] [] [(.int .i64 (.iv 1)), (.str (.tv 0))] [] ⟨1, 0, 0, 1, 0, 0, 0, 0⟩ t_spaces_2)
theorem x_spaces : xfn Tryd.prog { ex := false, inl := [], loops := [⟨3, [.tm 4, .tm 3]⟩], unroll := [], mu := [], mus := [], rws := [] } Tryd.f12 [(.int .i64 (.iv 0))] [] [] ⟨1, 0, 0, 0, 0, 0, 0, 0⟩ = some t_spaces := by kernel_rfl
theorem vc_spaces (i0 : Int) (W : Wd) (R : Ending → World → Prop) (h : t_spaces.den Tryd.prog W.w.heap.size R [] { I := [i0] } W) : CallsE Tryd.prog 12 #[.int .i64 i0] W R :=
  fn_calls Tryd.func12 _ _ { I := [i0] } _ x_spaces (fun v hv => by cases hv) h

-- callboard/callboardlaw10.LexBack
@[reducible] def t_lexBack_1 : Tree := (.call 9 [] [] [] [] (.bool (.bv 2)) ⟨0, 0, 1, 0, 0, 0, 0, 0⟩ (.ret (.bool (.bv 2)) [] [] []))
@[reducible] def t_lexBack_2 : Tree := (.again 0 [(.int .i64 (.un (.wrap .i64) (.bin .add (.iv 1) (.il 1)))), (.bool (.bv 3))] [])
@[reducible] def t_lexBack_3 : Tree := (.call 11 [(.agg [(.int .u8 (.iv 2)), (.str (.tv 1))])] [] [] [] (.bool (.bv 3)) ⟨0, 0, 1, 0, 0, 0, 0, 0⟩ t_lexBack_2)
@[reducible] def t_lexBack_4 : Tree := (.look 30 (.elt 1 (.iv 1) 2 0) (.agg [(.int .u8 (.iv 2)), (.str (.tv 1))]) ⟨1, 0, 0, 1, 0, 0, 0, 0⟩ t_lexBack_3)
@[reducible] def t_lexBack_5 : Tree := (.again 0 [(.int .i64 (.un (.wrap .i64) (.bin .add (.iv 1) (.il 1)))), (.bool (.bl false))] [])
@[reducible] def t_lexBack_6 : Tree := (.chk (.bin .bor (.un .not (.bv 2)) (.sm 1)) (.chk (.bin .bor (.un .not (.bv 2)) (.bin .le (.il 0) (.iv 1))) (.br (.bv 2) t_lexBack_4 t_lexBack_5)))
@[reducible] def t_lexBack_7 : Tree := (.ret (.bool (.bin .band (.bin .teq (.tv 0) (.tl [])) (.bin .beq (.bin .ieq (.iv 0) (.il 4)) (.un .not (.bv 2))))) [] [] [])
@[reducible] def t_lexBack_8 : Tree := (.call 13 [(.slc 3 (.nv 6) (.nv 7)), (.slc 0 (.nv 0) (.nv 1))] [] [] [] (.bool (.bv 3)) ⟨0, 0, 1, 0, 0, 0, 0, 0⟩ (.ret (.bool (.bv 3)) [] [] []))
@[reducible] def t_lexBack_9 : Tree := (.call 14 [(.slc 2 (.nv 4) (.nv 5))] [] [] [] (.slc 3 (.nv 6) (.nv 7)) ⟨0, 2, 0, 0, 0, 1, 0, 0⟩ t_lexBack_8)
@[reducible] def t_lexBack_10 : Tree := (.br (.bin .band (.bv 2) (.bin .ieq (.iv 2) (.il 0))) t_lexBack_9 (.ret (.bool (.bl false)) [] [] []))
@[reducible] def t_lexBack_11 : Tree := (.call 10 [(.str (.tv 0))] [] [] [] (.tup [(.slc 2 (.nv 4) (.nv 5)), (.int .i64 (.iv 2))]) ⟨1, 2, 0, 0, 0, 1, 0, 0⟩ t_lexBack_10)
@[reducible] def t_lexBack_12 : Tree := (.br (.bin .lt (.iv 1) (.nv 2)) t_lexBack_6 (.br (.un .not (.bin .ieq (.iv 0) (.il 0))) t_lexBack_7 t_lexBack_11))
@[reducible] def t_lexBack_13 : Tree := (.loop [(.int .i64 (.il 0)), (.bool (.bl true))] [] [(.int .i64 (.iv 1)), (.bool (.bv 2))] [] ⟨1, 0, 1, 0, 0, 0, 0, 0⟩ t_lexBack_12)
@[reducible] def t_lexBack_14 : Tree := (.call 19 [(.slc 1 (.nv 2) (.nv 3))] [] [] [] (.tup [(.str (.tv 0)), (.int .i64 (.iv 0))]) ⟨1, 0, 0, 1, 0, 0, 0, 0⟩ t_lexBack_13)
@[reducible] def t_lexBack_15 : Tree := (.call 18 [(.slc 0 (.nv 0) (.nv 1))] [] [] [] (.slc 1 (.nv 2) (.nv 3)) ⟨0, 2, 0, 0, 0, 1, 0, 0⟩ t_lexBack_14)
@[reducible] def t_lexBack_16 : Tree := (.call 9 [] [] [] [] (.bool (.bv 1)) ⟨0, 0, 1, 0, 0, 0, 0, 0⟩ (.br (.un .not (.bv 1)) t_lexBack_1 t_lexBack_15))
@[reducible] def t_lexBack_17 : Tree := (.call 9 [] [] [] [] (.bool (.bv 1)) ⟨0, 0, 1, 0, 0, 0, 0, 0⟩ (.ret (.bool (.bv 1)) [] [] []))
@[reducible] def t_lexBack : Tree :=
(.call 15 [(.slc 0 (.nv 0) (.nv 1))] [] [] [] (.bool (.bv 0)) ⟨0, 0, 1, 0, 0, 0, 0, 0⟩ (.br (.un .not (.bv 0)) t_lexBack_16 t_lexBack_17))
theorem x_lexBack : xfn Tryd.prog { ex := false, inl := [], loops := [⟨7, [.tm 7, .tm 6]⟩], unroll := [], mu := [], mus := [], rws := [] } Tryd.f8 [(.slc 0 (.nv 0) (.nv 1))] [] [] ⟨0, 2, 0, 0, 0, 1, 0, 0⟩ = some t_lexBack := by kernel_rfl
theorem vc_lexBack (n0 n1 : Nat) (a0 : Option Addr) (W : Wd) (R : Ending → World → Prop) (h : t_lexBack.den Tryd.prog W.w.heap.size R [] { N := [n0, n1], A := [a0] } W) : CallsE Tryd.prog 8 #[.slice a0 n0 n1] W R :=
  fn_calls Tryd.func8 _ _ { N := [n0, n1], A := [a0] } _ x_lexBack (fun v hv => by cases hv) h

-- callboard/callboardlaw10.LexAll
@[reducible] def t_lexAll_1 : Tree := (.call 9 [] [] [] [] (.bool (.bv 1)) ⟨0, 0, 1, 0, 0, 0, 0, 0⟩ (.ret (.bool (.bv 1)) [] [] []))
@[reducible] def t_lexAll_2 : Tree := (.chk (.bin .le (.iv 1) (.un (.wrap .i64) (.bin .add (.iv 1) (.il 1)))) (.chk (.bin .le (.un (.wrap .i64) (.bin .add (.iv 1) (.il 1))) (.un .len (.tv 0))) (.chk (.bin .le (.bin .add (.un .len (.tv 1)) (.un .len (.cut (.tv 0) (.iv 1) (.un (.wrap .i64) (.bin .add (.iv 1) (.il 1)))))) (.il 9223372036854775807)) (.again 0 [(.str (.bin .cat (.tv 1) (.cut (.tv 0) (.iv 1) (.un (.wrap .i64) (.bin .add (.iv 1) (.il 1)))))), (.bool (.un .not (.bv 1))), (.int .i64 (.un (.wrap .i64) (.bin .add (.iv 1) (.il 1))))] []))))
@[reducible] def t_lexAll_3 : Tree := (.chk (.bin .le (.iv 1) (.un (.wrap .i64) (.bin .add (.iv 1) (.il 1)))) (.chk (.bin .le (.un (.wrap .i64) (.bin .add (.iv 1) (.il 1))) (.un .len (.tv 0))) (.chk (.bin .le (.bin .add (.un .len (.tv 1)) (.un .len (.cut (.tv 0) (.iv 1) (.un (.wrap .i64) (.bin .add (.iv 1) (.il 1)))))) (.il 9223372036854775807)) (.again 0 [(.str (.bin .cat (.tv 1) (.cut (.tv 0) (.iv 1) (.un (.wrap .i64) (.bin .add (.iv 1) (.il 1)))))), (.bool (.bv 1)), (.int .i64 (.un (.wrap .i64) (.bin .add (.iv 1) (.il 1))))] []))))
@[reducible] def t_lexAll_4 : Tree := (.again 0 [(.str (.tv 1)), (.bool (.bv 1)), (.int .i64 (.un (.wrap .i64) (.bin .add (.iv 1) (.il 1))))] [])
@[reducible] def t_lexAll_5 : Tree := (.br (.bin .bor (.un .not (.bin .ieq (.bin .byte (.tv 0) (.iv 1)) (.il 32))) (.bv 1)) t_lexAll_3 t_lexAll_4)
@[reducible] def t_lexAll_6 : Tree := (.chk (.bin .le (.il 0) (.iv 1)) (.br (.bin .ieq (.bin .byte (.tv 0) (.iv 1)) (.il 39)) t_lexAll_2 t_lexAll_5))
@[reducible] def t_lexAll_7 : Tree := (.chk (.bin .le (.bin .add (.un .len (.bin .cat (.tv 2) (.tl [39]))) (.un .len (.tv 3))) (.il 9223372036854775807)) (.chk (.bin .le (.bin .add (.un .len (.bin .cat (.bin .cat (.tv 2) (.tl [39])) (.tv 3))) (.un .len (.tl [39]))) (.il 9223372036854775807)) (.again 1 [(.str (.bin .cat (.bin .cat (.bin .cat (.tv 2) (.tl [39])) (.tv 3)) (.tl [39]))), (.int .i64 (.un (.wrap .i64) (.bin .add (.iv 2) (.il 1))))] [])))
@[reducible] def t_lexAll_8 : Tree := (.chk (.bin .le (.bin .add (.un .len (.tv 2)) (.un .len (.tl [39]))) (.il 9223372036854775807)) (.look 9 (.elt 0 (.iv 2) 2 1) (.str (.tv 3)) ⟨0, 0, 0, 1, 0, 0, 0, 0⟩ t_lexAll_7))
@[reducible] def t_lexAll_9 : Tree := (.chk (.bin .le (.bin .add (.un .len (.tv 2)) (.un .len (.tv 3))) (.il 9223372036854775807)) (.again 1 [(.str (.bin .cat (.tv 2) (.tv 3))), (.int .i64 (.un (.wrap .i64) (.bin .add (.iv 2) (.il 1))))] []))
@[reducible] def t_lexAll_10 : Tree := (.br (.bin .ieq (.iv 3) (.il 3)) t_lexAll_8 (.look 9 (.elt 0 (.iv 2) 2 1) (.str (.tv 3)) ⟨0, 0, 0, 1, 0, 0, 0, 0⟩ t_lexAll_9))
@[reducible] def t_lexAll_11 : Tree := (.chk (.sm 0) (.chk (.bin .le (.il 0) (.iv 2)) (.look 5 (.elt 0 (.iv 2) 2 0) (.int .u8 (.iv 3)) ⟨1, 0, 0, 0, 0, 0, 0, 0⟩ t_lexAll_10)))
@[reducible] def t_lexAll_12 : Tree := (.br (.bin .lt (.iv 2) (.nv 0)) t_lexAll_11 (.ret (.bool (.bin .band (.bin .teq (.tv 2) (.tv 1)) (.un .not (.bv 1)))) [] [] []))
@[reducible] def t_lexAll_13 : Tree := (.loop [(.str (.tl [])), (.int .i64 (.il 0))] [] [(.str (.tv 2)), (.int .i64 (.iv 2))] [] ⟨1, 0, 0, 1, 0, 0, 0, 0⟩ t_lexAll_12)
@[reducible] def t_lexAll_14 : Tree := (.loop [(.str (.tl [])), (.bool (.bl false)), (.int .i64 (.il 0))] [] [(.str (.tv 1)), (.bool (.bv 1)), (.int .i64 (.iv 1))] [] ⟨1, 0, 1, 1, 0, 0, 0, 0⟩ (.br (.bin .lt (.iv 1) (.un .len (.tv 0))) t_lexAll_6 t_lexAll_13))
@[reducible] def t_lexAll_15 : Tree := (.br (.un .not (.bin .ieq (.iv 0) (.il 0))) (.ret (.bool (.bl true)) [] [] []) t_lexAll_14)
@[reducible] def t_lexAll_16 : Tree := (.call 10 [(.str (.tv 0))] [] [] [] (.tup [(.slc 0 (.nv 0) (.nv 1)), (.int .i64 (.iv 0))]) ⟨1, 2, 0, 0, 0, 1, 0, 0⟩ t_lexAll_15)
@[reducible] def t_lexAll_17 : Tree := (.call 9 [] [] [] [] (.bool (.bv 0)) ⟨0, 0, 1, 0, 0, 0, 0, 0⟩ (.br (.un .not (.bv 0)) t_lexAll_1 t_lexAll_16))
@[reducible] def t_lexAll_18 : Tree := (.call 9 [] [] [] [] (.bool (.bv 0)) ⟨0, 0, 1, 0, 0, 0, 0, 0⟩ (.ret (.bool (.bv 0)) [] [] []))
@[reducible] def t_lexAll : Tree :=
(.br (.un .not (.bin .lt (.il 1000) (.un .len (.tv 0)))) t_lexAll_17 t_lexAll_18)
theorem x_lexAll : xfn Tryd.prog { ex := false, inl := [], loops := [⟨9, [.tm 5, .tm 6, .tm 7]⟩, ⟨17, [.tm 8, .tm 9]⟩], unroll := [], mu := [], mus := [], rws := [] } Tryd.f5 [(.str (.tv 0))] [] [] ⟨0, 0, 0, 1, 0, 0, 0, 0⟩ = some t_lexAll := by kernel_rfl
theorem vc_lexAll (t0 : ByteArray) (W : Wd) (R : Ending → World → Prop) (h : t_lexAll.den Tryd.prog W.w.heap.size R [] { T := [t0] } W) : CallsE Tryd.prog 5 #[.string t0] W R :=
  fn_calls Tryd.func5 _ _ { T := [t0] } _ x_lexAll (fun v hv => by cases hv) h

-- callboard/callboardlaw10.LexBlanks
@[reducible] def t_lexBlanks_1 : Tree := (.call 9 [] [] [] [] (.bool (.bv 1)) ⟨0, 0, 1, 0, 0, 0, 0, 0⟩ (.ret (.bool (.bv 1)) [] [] []))
@[reducible] def t_lexBlanks_2 : Tree := (.chk (.bin .le (.bin .add (.un .len (.bin .cat (.bin .cat (.tv 1) (.tv 3)) (.tl [39]))) (.un .len (.tv 4))) (.il 9223372036854775807)) (.chk (.bin .le (.bin .add (.un .len (.bin .cat (.bin .cat (.bin .cat (.tv 1) (.tv 3)) (.tl [39])) (.tv 4))) (.un .len (.tl [39, 32]))) (.il 9223372036854775807)) (.again 0 [(.str (.bin .cat (.bin .cat (.bin .cat (.bin .cat (.tv 1) (.tv 3)) (.tl [39])) (.tv 4)) (.tl [39, 32]))), (.bool (.bv 1)), (.int .i64 (.un (.wrap .i64) (.bin .add (.iv 1) (.il 1))))] [])))
@[reducible] def t_lexBlanks_3 : Tree := (.chk (.bin .le (.bin .add (.un .len (.bin .cat (.tv 1) (.tv 3))) (.un .len (.tl [39]))) (.il 9223372036854775807)) (.look 9 (.elt 1 (.iv 1) 2 1) (.str (.tv 4)) ⟨0, 0, 0, 1, 0, 0, 0, 0⟩ t_lexBlanks_2))
@[reducible] def t_lexBlanks_4 : Tree := (.chk (.bin .le (.bin .add (.un .len (.bin .cat (.tv 1) (.tv 3))) (.un .len (.tv 4))) (.il 9223372036854775807)) (.chk (.bin .le (.bin .add (.un .len (.bin .cat (.bin .cat (.tv 1) (.tv 3)) (.tv 4))) (.un .len (.tl [32]))) (.il 9223372036854775807)) (.again 0 [(.str (.bin .cat (.bin .cat (.bin .cat (.tv 1) (.tv 3)) (.tv 4)) (.tl [32]))), (.bool (.bv 1)), (.int .i64 (.un (.wrap .i64) (.bin .add (.iv 1) (.il 1))))] [])))
@[reducible] def t_lexBlanks_5 : Tree := (.br (.bin .ieq (.iv 4) (.il 3)) t_lexBlanks_3 (.look 9 (.elt 1 (.iv 1) 2 1) (.str (.tv 4)) ⟨0, 0, 0, 1, 0, 0, 0, 0⟩ t_lexBlanks_4))
@[reducible] def t_lexBlanks_6 : Tree := (.chk (.bin .le (.bin .add (.un .len (.tv 1)) (.un .len (.tv 3))) (.il 9223372036854775807)) (.look 5 (.elt 1 (.iv 1) 2 0) (.int .u8 (.iv 4)) ⟨1, 0, 0, 0, 0, 0, 0, 0⟩ t_lexBlanks_5))
@[reducible] def t_lexBlanks_7 : Tree := (.call 12 [(.int .i64 (.iv 3))] [] [] [] (.str (.tv 3)) ⟨0, 0, 0, 1, 0, 0, 0, 0⟩ t_lexBlanks_6)
@[reducible] def t_lexBlanks_8 : Tree := (.chk (.sm 0) (.look 3 (.elt 0 (.iv 1) 1 0) (.int .i64 (.iv 3)) ⟨1, 0, 0, 0, 0, 0, 0, 0⟩ t_lexBlanks_7))
@[reducible] def t_lexBlanks_9 : Tree := (.chk (.bin .le (.bin .add (.un .len (.bin .cat (.tv 1) (.tl [39]))) (.un .len (.tv 3))) (.il 9223372036854775807)) (.chk (.bin .le (.bin .add (.un .len (.bin .cat (.bin .cat (.tv 1) (.tl [39])) (.tv 3))) (.un .len (.tl [39, 32]))) (.il 9223372036854775807)) (.again 0 [(.str (.bin .cat (.bin .cat (.bin .cat (.tv 1) (.tl [39])) (.tv 3)) (.tl [39, 32]))), (.bool (.bv 1)), (.int .i64 (.un (.wrap .i64) (.bin .add (.iv 1) (.il 1))))] [])))
@[reducible] def t_lexBlanks_10 : Tree := (.chk (.bin .le (.bin .add (.un .len (.tv 1)) (.un .len (.tl [39]))) (.il 9223372036854775807)) (.look 9 (.elt 1 (.iv 1) 2 1) (.str (.tv 3)) ⟨0, 0, 0, 1, 0, 0, 0, 0⟩ t_lexBlanks_9))
@[reducible] def t_lexBlanks_11 : Tree := (.chk (.bin .le (.bin .add (.un .len (.tv 1)) (.un .len (.tv 3))) (.il 9223372036854775807)) (.chk (.bin .le (.bin .add (.un .len (.bin .cat (.tv 1) (.tv 3))) (.un .len (.tl [32]))) (.il 9223372036854775807)) (.again 0 [(.str (.bin .cat (.bin .cat (.tv 1) (.tv 3)) (.tl [32]))), (.bool (.bv 1)), (.int .i64 (.un (.wrap .i64) (.bin .add (.iv 1) (.il 1))))] [])))
@[reducible] def t_lexBlanks_12 : Tree := (.br (.bin .ieq (.iv 3) (.il 3)) t_lexBlanks_10 (.look 9 (.elt 1 (.iv 1) 2 1) (.str (.tv 3)) ⟨0, 0, 0, 1, 0, 0, 0, 0⟩ t_lexBlanks_11))
@[reducible] def t_lexBlanks_13 : Tree := (.br (.bin .lt (.iv 1) (.nv 0)) t_lexBlanks_8 (.look 5 (.elt 1 (.iv 1) 2 0) (.int .u8 (.iv 3)) ⟨1, 0, 0, 0, 0, 0, 0, 0⟩ t_lexBlanks_12))
@[reducible] def t_lexBlanks_14 : Tree := (.call 11 [(.agg [(.int .u8 (.iv 2)), (.str (.tv 2))])] [] [] [] (.bool (.bv 2)) ⟨0, 0, 1, 0, 0, 0, 0, 0⟩ (.br (.un .not (.bv 2)) (.ret (.bool (.bl false)) [] [] []) t_lexBlanks_13))
@[reducible] def t_lexBlanks_15 : Tree := (.chk (.sm 1) (.chk (.bin .le (.il 0) (.iv 1)) (.look 30 (.elt 1 (.iv 1) 2 0) (.agg [(.int .u8 (.iv 2)), (.str (.tv 2))]) ⟨1, 0, 0, 1, 0, 0, 0, 0⟩ t_lexBlanks_14)))
@[reducible] def t_lexBlanks_16 : Tree := (.call 13 [(.slc 3 (.nv 6) (.nv 7)), (.slc 4 (.nv 8) (.nv 9))] [] [] [] (.bool (.bv 2)) ⟨0, 0, 1, 0, 0, 0, 0, 0⟩ (.ret (.bool (.bv 2)) [] [] []))
@[reducible] def t_lexBlanks_17 : Tree := (.call 14 [(.slc 1 (.nv 2) (.nv 3))] [] [] [] (.slc 4 (.nv 8) (.nv 9)) ⟨0, 2, 0, 0, 0, 1, 0, 0⟩ t_lexBlanks_16)
@[reducible] def t_lexBlanks_18 : Tree := (.call 14 [(.slc 2 (.nv 4) (.nv 5))] [] [] [] (.slc 3 (.nv 6) (.nv 7)) ⟨0, 2, 0, 0, 0, 1, 0, 0⟩ t_lexBlanks_17)
@[reducible] def t_lexBlanks_19 : Tree := (.br (.bin .band (.un .not (.bin .lt (.il 100) (.un .len (.tv 1)))) (.bin .ieq (.iv 2) (.il 0))) t_lexBlanks_18 (.ret (.bool (.bin .lt (.il 100) (.un .len (.tv 1)))) [] [] []))
@[reducible] def t_lexBlanks_20 : Tree := (.call 10 [(.str (.tv 1))] [] [] [] (.tup [(.slc 2 (.nv 4) (.nv 5)), (.int .i64 (.iv 2))]) ⟨1, 2, 0, 0, 0, 1, 0, 0⟩ t_lexBlanks_19)
@[reducible] def t_lexBlanks_21 : Tree := (.loop [(.str (.tl [])), (.bool (.bl false)), (.int .i64 (.il 0))] [] [(.str (.tv 1)), (.bool (.bv 1)), (.int .i64 (.iv 1))] [] ⟨1, 0, 1, 1, 0, 0, 0, 0⟩ (.br (.bin .lt (.iv 1) (.nv 2)) t_lexBlanks_15 t_lexBlanks_20))
@[reducible] def t_lexBlanks_22 : Tree := (.br (.un .not (.bin .ieq (.iv 0) (.il 0))) (.ret (.bool (.bin .ieq (.nv 2) (.il 0))) [] [] []) t_lexBlanks_21)
@[reducible] def t_lexBlanks_23 : Tree := (.call 10 [(.str (.tv 0))] [] [] [] (.tup [(.slc 1 (.nv 2) (.nv 3)), (.int .i64 (.iv 0))]) ⟨1, 2, 0, 0, 0, 1, 0, 0⟩ t_lexBlanks_22)
@[reducible] def t_lexBlanks_24 : Tree := (.call 9 [] [] [] [] (.bool (.bv 0)) ⟨0, 0, 1, 0, 0, 0, 0, 0⟩ (.br (.un .not (.bv 0)) t_lexBlanks_1 t_lexBlanks_23))
@[reducible] def t_lexBlanks_25 : Tree := (.call 9 [] [] [] [] (.bool (.bv 0)) ⟨0, 0, 1, 0, 0, 0, 0, 0⟩ (.ret (.bool (.bv 0)) [] [] []))
@[reducible] def t_lexBlanks : Tree :=
(.br (.un .not (.bin .bor (.bin .lt (.il 1000) (.un .len (.tv 0))) (.bin .lt (.il 300) (.nv 0)))) t_lexBlanks_24 t_lexBlanks_25)
theorem x_lexBlanks : xfn Tryd.prog { ex := false, inl := [], loops := [⟨8, [.tm 7, .tm 4, .tm 8]⟩], unroll := [], mu := [], mus := [], rws := [] } Tryd.f3 [(.str (.tv 0)), (.slc 0 (.nv 0) (.nv 1))] [] [] ⟨0, 2, 0, 1, 0, 1, 0, 0⟩ = some t_lexBlanks := by kernel_rfl
theorem vc_lexBlanks (n0 n1 : Nat) (t0 : ByteArray) (a0 : Option Addr) (W : Wd) (R : Ending → World → Prop) (h : t_lexBlanks.den Tryd.prog W.w.heap.size R [] { N := [n0, n1], T := [t0], A := [a0] } W) : CallsE Tryd.prog 3 #[.string t0, .slice a0 n0 n1] W R :=
  fn_calls Tryd.func3 _ _ { N := [n0, n1], T := [t0], A := [a0] } _ x_lexBlanks (fun v hv => by cases hv) h

end Go.Proofs.YthdoemolgobonaaDoor
