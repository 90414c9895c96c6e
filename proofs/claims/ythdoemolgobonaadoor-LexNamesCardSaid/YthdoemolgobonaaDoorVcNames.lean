/- What is left to show of functions, as the walk that the kernel computes finds it (written by wip/vc2.py). -/
import Derived.Test.YthdoemolgobonaaDoorProg
import Derived.Test.YthdoemolgobonaaDoorSfD
namespace Go.Proofs.YthdoemolgobonaaDoor
open Go Go.RowKit Go.SF
set_option maxRecDepth 100000

-- callboard/callboardlaw10.LexNames
@[reducible] def t_lexNames_1 : Tree := (.chk (.bin .le (.bin .add (.un .len (.tv 0)) (.un .len (.tl [97, 32]))) (.il 9223372036854775807)) (.again 0 [(.str (.bin .cat (.tv 0) (.tl [97, 32])))] []))
@[reducible] def t_lexNames_2 : Tree := (.new (.chk (.bin .le (.bin .add (.nv 44) (.il 1)) (.il 5864062014805)) (.app (.bin .add (.nv 44) (.il 1)) (.again 1 [(.int .i64 (.un (.wrap .i64) (.bin .add (.iv 24) (.il 1)))), (.slc 23 (.bin .add (.nv 44) (.il 1)) (.nv 46))] [⟨(.slc 23 (.bin .add (.nv 44) (.il 1)) (.nv 46)), (.bin .add (.nv 44) (.il 1)), 30, 2, [(.l 0), (.s (.int .u8 (.il 1))), (.s (.str (.tl [49])))]⟩]))))
@[reducible] def t_lexNames_3 : Tree := (.call 9 [] [] [⟨(.slc 22 (.nv 44) (.nv 45)), (.nv 44), 30, 2, [(.l 0)]⟩] [] (.bool (.bv 0)) ⟨0, 0, 1, 0, 0, 0, 0, 0⟩ (.ret (.bool (.bv 0)) [] [] [⟨(.slc 22 (.nv 44) (.nv 45)), (.nv 44), 30, 2, [(.l 0)]⟩]))
@[reducible] def t_lexNames_4 : Tree := (.ret (.bool (.bl false)) [] [] [⟨(.slc 22 (.nv 44) (.nv 45)), (.nv 44), 30, 2, [(.l 0)]⟩])
@[reducible] def t_lexNames_5 : Tree := (.br (.bin .band (.bin .band (.bin .band (.bin .band (.bin .band (.bin .band (.bin .band (.bin .band (.bin .band (.bin .teq (.tv 7) (.tl [33, 61])) (.bin .ieq (.iv 20) (.il 0))) (.bin .ieq (.nv 40) (.il 1))) (.bin .ieq (.iv 21) (.il 4))) (.bin .ieq (.iv 22) (.il 4))) (.bin .ieq (.iv 23) (.il 4))) (.bin .ieq (.iv 25) (.il 40))) (.bin .ieq (.iv 26) (.il 0))) (.bin .ieq (.iv 27) (.il 0))) (.bin .ieq (.nv 48) (.il 3))) t_lexNames_3 t_lexNames_4)
@[reducible] def t_lexNames_6 : Tree := (.chk (.bin .bor (.un .not (.bin .teq (.tv 6) (.tl [61, 61]))) (.bin .le (.il 0) (.il 5))) (.chk (.bin .bor (.un .not (.bin .teq (.tv 6) (.tl [61, 61]))) (.bin .lt (.il 5) (.nv 38))) (.br (.bin .teq (.tv 6) (.tl [61, 61])) (.look 9 (.elt 19 (.il 5) 2 1) (.str (.tv 7)) ⟨0, 0, 0, 1, 0, 0, 0, 0⟩ t_lexNames_5) t_lexNames_4)))
@[reducible] def t_lexNames_7 : Tree := (.chk (.bin .bor (.un .not (.bin .teq (.tv 5) (.tl [60, 61]))) (.bin .le (.il 0) (.il 4))) (.chk (.bin .bor (.un .not (.bin .teq (.tv 5) (.tl [60, 61]))) (.bin .lt (.il 4) (.nv 38))) (.br (.bin .teq (.tv 5) (.tl [60, 61])) (.look 9 (.elt 19 (.il 4) 2 1) (.str (.tv 6)) ⟨0, 0, 0, 1, 0, 0, 0, 0⟩ t_lexNames_6) t_lexNames_4)))
@[reducible] def t_lexNames_8 : Tree := (.chk (.bin .bor (.un .not (.bin .band (.bin .band (.bin .band (.bin .ieq (.iv 17) (.il 0)) (.bin .ieq (.iv 18) (.il 40))) (.bin .ieq (.iv 19) (.il 0))) (.bin .ieq (.nv 38) (.il 14)))) (.sm 19)) (.chk (.bin .bor (.un .not (.bin .band (.bin .band (.bin .band (.bin .ieq (.iv 17) (.il 0)) (.bin .ieq (.iv 18) (.il 40))) (.bin .ieq (.iv 19) (.il 0))) (.bin .ieq (.nv 38) (.il 14)))) (.bin .le (.il 0) (.il 3))) (.chk (.bin .bor (.un .not (.bin .band (.bin .band (.bin .band (.bin .ieq (.iv 17) (.il 0)) (.bin .ieq (.iv 18) (.il 40))) (.bin .ieq (.iv 19) (.il 0))) (.bin .ieq (.nv 38) (.il 14)))) (.bin .lt (.il 3) (.nv 38))) (.br (.bin .band (.bin .band (.bin .band (.bin .ieq (.iv 17) (.il 0)) (.bin .ieq (.iv 18) (.il 40))) (.bin .ieq (.iv 19) (.il 0))) (.bin .ieq (.nv 38) (.il 14))) (.look 9 (.elt 19 (.il 3) 2 1) (.str (.tv 5)) ⟨0, 0, 0, 1, 0, 0, 0, 0⟩ t_lexNames_7) t_lexNames_4))))
@[reducible] def t_lexNames_9 : Tree := (.call 10 [(.str (.tl [57, 50, 50, 51, 51, 55, 50, 48, 51, 54, 56, 53, 52, 55, 55, 53, 56, 48, 55, 32, 48, 32, 97, 98, 99, 100, 101, 102, 103, 104, 105, 106, 107, 108]))] [] [⟨(.slc 22 (.nv 44) (.nv 45)), (.nv 44), 30, 2, [(.l 0)]⟩] [] (.tup [(.slc 24 (.nv 48) (.nv 49)), (.int .i64 (.iv 27))]) ⟨1, 2, 0, 0, 0, 1, 0, 0⟩ t_lexNames_8)
@[reducible] def t_lexNames_10 : Tree := (.chk (.bin .le (.il 50) (.nv 45)) (.sub 22 (.il 0) (.il 50) (.nv 45) 2 (.call 19 [(.slc 23 (.il 50) (.nv 45))] [] [⟨(.slc 22 (.nv 44) (.nv 45)), (.nv 44), 30, 2, [(.l 0)]⟩] [] (.tup [(.str (.tv 4)), (.int .i64 (.iv 26))]) ⟨1, 0, 0, 1, 0, 0, 0, 0⟩ t_lexNames_9)))
@[reducible] def t_lexNames_11 : Tree := (.call 19 [(.slc 22 (.nv 44) (.nv 45))] [] [⟨(.slc 22 (.nv 44) (.nv 45)), (.nv 44), 30, 2, [(.l 0)]⟩] [] (.tup [(.str (.tv 3)), (.int .i64 (.iv 25))]) ⟨1, 0, 0, 1, 0, 0, 0, 0⟩ t_lexNames_10)
@[reducible] def t_lexNames_12 : Tree := (.loop [(.int .i64 (.il 0)), .nils] [⟨.nils, (.il 0), 30, 2, []⟩] [(.int .i64 (.iv 24)), (.slc 22 (.nv 44) (.nv 45))] [⟨(.slc 22 (.nv 44) (.nv 45)), (.nv 44), 30, 2, [(.l 0)]⟩] ⟨1, 2, 0, 0, 0, 1, 0, 1⟩ (.br (.bin .lt (.iv 24) (.il 51)) t_lexNames_2 t_lexNames_11))
@[reducible] def t_lexNames_13 : Tree := (.new (.call 19 [(.slb 3 0 1 1)] [⟨3, 30, [(.int .u8 (.il 0)), (.str (.tl []))]⟩] [] [] (.tup [(.str (.tv 2)), (.int .i64 (.iv 23))]) ⟨1, 0, 0, 1, 0, 0, 0, 0⟩ t_lexNames_12))
@[reducible] def t_lexNames_14 : Tree := (.new (.call 19 [(.slb 2 0 1 1)] [⟨2, 30, [(.int .u8 (.il 9)), (.str (.tl []))]⟩] [] [] (.tup [(.str (.tv 1)), (.int .i64 (.iv 22))]) ⟨1, 0, 0, 1, 0, 0, 0, 0⟩ t_lexNames_13))
@[reducible] def t_lexNames_15 : Tree := (.call 10 [(.str (.tl [39, 48, 49, 50, 51, 52, 53, 54, 55, 56, 57, 48, 49, 50, 51, 52, 53, 54, 55, 56, 57, 48, 49, 50, 51, 52, 53, 54, 55, 56, 57, 48, 49, 50, 51, 52, 53, 54, 55, 56, 57, 48, 39]))] [] [] [] (.tup [(.slc 21 (.nv 42) (.nv 43)), (.int .i64 (.iv 21))]) ⟨1, 2, 0, 0, 0, 1, 0, 0⟩ t_lexNames_14)
@[reducible] def t_lexNames_16 : Tree := (.call 10 [(.str (.tl [39, 48, 49, 50, 51, 52, 53, 54, 55, 56, 57, 48, 49, 50, 51, 52, 53, 54, 55, 56, 57, 48, 49, 50, 51, 52, 53, 54, 55, 56, 57, 48, 49, 50, 51, 52, 53, 54, 55, 56, 57, 39]))] [] [] [] (.tup [(.slc 20 (.nv 40) (.nv 41)), (.int .i64 (.iv 20))]) ⟨1, 2, 0, 0, 0, 1, 0, 0⟩ t_lexNames_15)
@[reducible] def t_lexNames_17 : Tree := (.call 10 [(.str (.tl [124, 38, 60, 60, 61, 61, 61, 33, 61, 43, 45, 42, 47, 37, 33, 40, 41]))] [] [] [] (.tup [(.slc 19 (.nv 38) (.nv 39)), (.int .i64 (.iv 19))]) ⟨1, 2, 0, 0, 0, 1, 0, 0⟩ t_lexNames_16)
@[reducible] def t_lexNames_18 : Tree := (.chk (.bin .le (.bin .add (.un .len (.tv 0)) (.un .len (.tl [32]))) (.il 9223372036854775807)) (.call 10 [(.str (.bin .cat (.tv 0) (.tl [32])))] [] [] [] (.tup [(.slc 18 (.nv 36) (.nv 37)), (.int .i64 (.iv 18))]) ⟨1, 2, 0, 0, 0, 1, 0, 0⟩ t_lexNames_17))
@[reducible] def t_lexNames_19 : Tree := (.call 10 [(.str (.tv 0))] [] [] [] (.tup [(.slc 17 (.nv 34) (.nv 35)), (.int .i64 (.iv 17))]) ⟨1, 2, 0, 0, 0, 1, 0, 0⟩ t_lexNames_18)
@[reducible] def t_lexNames_20 : Tree := (.loop [(.str (.tl []))] [] [(.str (.tv 0))] [] ⟨0, 0, 0, 1, 0, 0, 0, 0⟩ (.br (.bin .lt (.un .len (.tv 0)) (.il 100)) t_lexNames_1 t_lexNames_19))
@[reducible] def t_lexNames_21 : Tree := (.br (.un .not (.bin .ieq (.iv 16) (.il 4))) (.ret (.bool (.bl false)) [] [] []) t_lexNames_20)
@[reducible] def t_lexNames_22 : Tree := (.call 10 [(.str (.bin .cat (.bin .cat (.tl [39]) (.bin .cat (.un .chr (.il 0)) (.bin .cat (.un .chr (.il 0)) (.un .chr (.il 0))))) (.tl [39])))] [] [] [] (.tup [(.slc 16 (.nv 32) (.nv 33)), (.int .i64 (.iv 16))]) ⟨1, 2, 0, 0, 0, 1, 0, 0⟩ t_lexNames_21)
@[reducible] def t_lexNames_23 : Tree := (.br (.un .not (.bin .ieq (.iv 15) (.il 4))) (.ret (.bool (.bl false)) [] [] []) t_lexNames_22)
@[reducible] def t_lexNames_24 : Tree := (.call 10 [(.str (.tl [39, 127, 39]))] [] [] [] (.tup [(.slc 15 (.nv 30) (.nv 31)), (.int .i64 (.iv 15))]) ⟨1, 2, 0, 0, 0, 1, 0, 0⟩ t_lexNames_23)
@[reducible] def t_lexNames_25 : Tree := (.br (.un .not (.bin .ieq (.iv 14) (.il 4))) (.ret (.bool (.bl false)) [] [] []) t_lexNames_24)
@[reducible] def t_lexNames_26 : Tree := (.call 10 [(.str (.tl [39, 31, 39]))] [] [] [] (.tup [(.slc 14 (.nv 28) (.nv 29)), (.int .i64 (.iv 14))]) ⟨1, 2, 0, 0, 0, 1, 0, 0⟩ t_lexNames_25)
@[reducible] def t_lexNames_27 : Tree := (.br (.un .not (.bin .ieq (.iv 13) (.il 4))) (.ret (.bool (.bl false)) [] [] []) t_lexNames_26)
@[reducible] def t_lexNames_28 : Tree := (.call 10 [(.str (.tl [97, 10]))] [] [] [] (.tup [(.slc 13 (.nv 26) (.nv 27)), (.int .i64 (.iv 13))]) ⟨1, 2, 0, 0, 0, 1, 0, 0⟩ t_lexNames_27)
@[reducible] def t_lexNames_29 : Tree := (.br (.un .not (.bin .ieq (.iv 12) (.il 4))) (.ret (.bool (.bl false)) [] [] []) t_lexNames_28)
@[reducible] def t_lexNames_30 : Tree := (.call 10 [(.str (.tl [9]))] [] [] [] (.tup [(.slc 12 (.nv 24) (.nv 25)), (.int .i64 (.iv 12))]) ⟨1, 2, 0, 0, 0, 1, 0, 0⟩ t_lexNames_29)
@[reducible] def t_lexNames_31 : Tree := (.br (.un .not (.bin .ieq (.iv 11) (.il 4))) (.ret (.bool (.bl false)) [] [] []) t_lexNames_30)
@[reducible] def t_lexNames_32 : Tree := (.call 10 [(.str (.tl [95, 97]))] [] [] [] (.tup [(.slc 11 (.nv 22) (.nv 23)), (.int .i64 (.iv 11))]) ⟨1, 2, 0, 0, 0, 1, 0, 0⟩ t_lexNames_31)
@[reducible] def t_lexNames_33 : Tree := (.br (.un .not (.bin .ieq (.iv 10) (.il 4))) (.ret (.bool (.bl false)) [] [] []) t_lexNames_32)
@[reducible] def t_lexNames_34 : Tree := (.call 10 [(.str (.tl [65]))] [] [] [] (.tup [(.slc 10 (.nv 20) (.nv 21)), (.int .i64 (.iv 10))]) ⟨1, 2, 0, 0, 0, 1, 0, 0⟩ t_lexNames_33)
@[reducible] def t_lexNames_35 : Tree := (.br (.un .not (.bin .ieq (.iv 9) (.il 4))) (.ret (.bool (.bl false)) [] [] []) t_lexNames_34)
@[reducible] def t_lexNames_36 : Tree := (.call 10 [(.str (.tl [97, 98, 99, 100, 101, 102, 103, 104, 105, 106, 107, 108, 109]))] [] [] [] (.tup [(.slc 9 (.nv 18) (.nv 19)), (.int .i64 (.iv 9))]) ⟨1, 2, 0, 0, 0, 1, 0, 0⟩ t_lexNames_35)
@[reducible] def t_lexNames_37 : Tree := (.br (.un .not (.bin .ieq (.iv 8) (.il 4))) (.ret (.bool (.bl false)) [] [] []) t_lexNames_36)
@[reducible] def t_lexNames_38 : Tree := (.call 10 [(.str (.tl [57, 57, 57, 57, 57, 57, 57, 57, 57, 57, 57, 57, 57, 57, 57, 57, 57, 57, 57, 57]))] [] [] [] (.tup [(.slc 8 (.nv 16) (.nv 17)), (.int .i64 (.iv 8))]) ⟨1, 2, 0, 0, 0, 1, 0, 0⟩ t_lexNames_37)
@[reducible] def t_lexNames_39 : Tree := (.br (.un .not (.bin .ieq (.iv 7) (.il 4))) (.ret (.bool (.bl false)) [] [] []) t_lexNames_38)
@[reducible] def t_lexNames_40 : Tree := (.call 10 [(.str (.tl [57, 50, 50, 51, 51, 55, 50, 48, 51, 54, 56, 53, 52, 55, 55, 53, 56, 48, 56]))] [] [] [] (.tup [(.slc 7 (.nv 14) (.nv 15)), (.int .i64 (.iv 7))]) ⟨1, 2, 0, 0, 0, 1, 0, 0⟩ t_lexNames_39)
@[reducible] def t_lexNames_41 : Tree := (.br (.un .not (.bin .ieq (.iv 6) (.il 4))) (.ret (.bool (.bl false)) [] [] []) t_lexNames_40)
@[reducible] def t_lexNames_42 : Tree := (.call 10 [(.str (.tl [48, 48]))] [] [] [] (.tup [(.slc 6 (.nv 12) (.nv 13)), (.int .i64 (.iv 6))]) ⟨1, 2, 0, 0, 0, 1, 0, 0⟩ t_lexNames_41)
@[reducible] def t_lexNames_43 : Tree := (.br (.un .not (.bin .ieq (.iv 5) (.il 4))) (.ret (.bool (.bl false)) [] [] []) t_lexNames_42)
@[reducible] def t_lexNames_44 : Tree := (.call 10 [(.str (.tl [48, 49]))] [] [] [] (.tup [(.slc 5 (.nv 10) (.nv 11)), (.int .i64 (.iv 5))]) ⟨1, 2, 0, 0, 0, 1, 0, 0⟩ t_lexNames_43)
@[reducible] def t_lexNames_45 : Tree := (.br (.un .not (.bin .ieq (.iv 4) (.il 4))) (.ret (.bool (.bl false)) [] [] []) t_lexNames_44)
@[reducible] def t_lexNames_46 : Tree := (.call 10 [(.str (.tl [39, 39, 39, 32]))] [] [] [] (.tup [(.slc 4 (.nv 8) (.nv 9)), (.int .i64 (.iv 4))]) ⟨1, 2, 0, 0, 0, 1, 0, 0⟩ t_lexNames_45)
@[reducible] def t_lexNames_47 : Tree := (.br (.un .not (.bin .ieq (.iv 3) (.il 4))) (.ret (.bool (.bl false)) [] [] []) t_lexNames_46)
@[reducible] def t_lexNames_48 : Tree := (.call 10 [(.str (.tl [39, 97]))] [] [] [] (.tup [(.slc 3 (.nv 6) (.nv 7)), (.int .i64 (.iv 3))]) ⟨1, 2, 0, 0, 0, 1, 0, 0⟩ t_lexNames_47)
@[reducible] def t_lexNames_49 : Tree := (.br (.un .not (.bin .ieq (.iv 2) (.il 4))) (.ret (.bool (.bl false)) [] [] []) t_lexNames_48)
@[reducible] def t_lexNames_50 : Tree := (.call 10 [(.str (.tl [97, 61, 98]))] [] [] [] (.tup [(.slc 2 (.nv 4) (.nv 5)), (.int .i64 (.iv 2))]) ⟨1, 2, 0, 0, 0, 1, 0, 0⟩ t_lexNames_49)
@[reducible] def t_lexNames_51 : Tree := (.br (.un .not (.bin .ieq (.iv 1) (.il 4))) (.ret (.bool (.bl false)) [] [] []) t_lexNames_50)
@[reducible] def t_lexNames_52 : Tree := (.call 10 [(.str (.tl [35]))] [] [] [] (.tup [(.slc 1 (.nv 2) (.nv 3)), (.int .i64 (.iv 1))]) ⟨1, 2, 0, 0, 0, 1, 0, 0⟩ t_lexNames_51)
@[reducible] def t_lexNames_53 : Tree := (.br (.un .not (.bin .ieq (.iv 0) (.il 4))) (.ret (.bool (.bl false)) [] [] []) t_lexNames_52)
@[reducible] def t_lexNames : Tree :=
(.new (.chk (.bin .le (.bin .add (.un .len (.tl [39])) (.un .len (.bin .cat (.un .chr (.il 0)) (.bin .cat (.un .chr (.il 0)) (.un .chr (.il 0)))))) (.il 9223372036854775807)) (.chk (.bin .le (.bin .add (.un .len (.bin .cat (.tl [39]) (.bin .cat (.un .chr (.il 0)) (.bin .cat (.un .chr (.il 0)) (.un .chr (.il 0)))))) (.un .len (.tl [39]))) (.il 9223372036854775807)) (.new (.call 10 [(.str (.tl [61]))] [] [] [] (.tup [(.slc 0 (.nv 0) (.nv 1)), (.int .i64 (.iv 0))]) ⟨1, 2, 0, 0, 0, 1, 0, 0⟩ t_lexNames_53)))))
theorem x_lexNames : xfn Tryd.prog { ex := false, inl := [], loops := [⟨9, [.tm 5]⟩, ⟨20, [.tm 21, .row 20 24]⟩], unroll := [(2, 18)], mu := [], mus := [], rws := [] } Tryd.f7 [] [] [] ⟨0, 0, 0, 0, 0, 0, 0, 0⟩ = some t_lexNames := by kernel_rfl
theorem vc_lexNames  (W : Wd) (R : Ending → World → Prop) (h : t_lexNames.den Tryd.prog W.w.heap.size R [] {  } W) : CallsE Tryd.prog 7 #[] W R :=
  fn_calls Tryd.func7 _ _ {  } _ x_lexNames (fun v hv => by cases hv) h

end Go.Proofs.YthdoemolgobonaaDoor
