/- What is left to show of functions, as the walk that the kernel computes finds it (written by wip/vc2.py). -/
import Derived.Test.YtamnfdmmjjekhaaProg
import Derived.Test.YtamnfdmmjjekhaaSfD
namespace Go.Proofs.Ytamnfdmmjjekhaa
open Go Go.RowKit Go.SF
set_option maxRecDepth 100000

-- callboard/callboardlaw19.large
@[reducible] def t_large : Tree :=
(.new (.ret (.bool (.bin .bor (.bin .bor (.bin .bor (.bin .lt (.il 120) (.nv 2)) (.bin .lt (.il 120) (.nv 4))) (.bin .lt (.il 200) (.nv 6))) (.bin .lt (.il 12) (.nv 0)))) [] [] []))
theorem x_large : xfn Try.prog { ex := false, inl := [], loops := [], unroll := [], mu := [], mus := [], stays := [], rowT := [], rwx := false, nilR := [], rws := [] } Try.f10 [(.agg [(.int .i64 (.iv 0)), (.int .i64 (.iv 1)), (.slc 0 (.nv 0) (.nv 1)), (.slc 1 (.nv 2) (.nv 3)), (.slc 2 (.nv 4) (.nv 5)), (.slc 3 (.nv 6) (.nv 7))])] [] [] ⟨2, 8, 0, 0, 0, 4, 0, 0⟩ = some t_large := by kernel_rfl
theorem vc_large (i0 i1 : Int) (n0 n1 n2 n3 n4 n5 n6 n7 : Nat) (a0 a1 a2 a3 : Option Addr) (W : Wd) (R : Ending → World → Prop) (h : t_large.den Try.prog W.w.heap.size R [] { I := [i0, i1], N := [n0, n1, n2, n3, n4, n5, n6, n7], A := [a0, a1, a2, a3] } W) : CallsE Try.prog 10 #[.agg #[.int .i64 i0, .int .i64 i1, .slice a0 n0 n1, .slice a1 n2 n3, .slice a2 n4 n5, .slice a3 n6 n7]] W R :=
  fn_calls Try.func10 _ _ { I := [i0, i1], N := [n0, n1, n2, n3, n4, n5, n6, n7], A := [a0, a1, a2, a3] } _ x_large (fun v hv => by cases hv) h

-- callboard/callboardlaw19.in
@[reducible] def t_in_1 : Tree := (.br (.bin .ieq (.iv 2) (.iv 0)) (.ret (.bool (.bl true)) [] [] []) (.again 0 [(.int .i64 (.un (.wrap .i64) (.bin .add (.iv 1) (.il 1))))] []))
@[reducible] def t_in_2 : Tree := (.chk (.sm 0) (.chk (.bin .le (.il 0) (.iv 1)) (.look 3 (.elt 0 (.iv 1) 1 0) (.int .i64 (.iv 2)) ⟨1, 0, 0, 0, 0, 0, 0, 0⟩ t_in_1)))
@[reducible] def t_in : Tree :=
(.loop [(.int .i64 (.il 0))] [] [(.int .i64 (.iv 1))] [] ⟨1, 0, 0, 0, 0, 0, 0, 0⟩ (.br (.bin .lt (.iv 1) (.nv 0)) t_in_2 (.ret (.bool (.bl false)) [] [] [])))
theorem x_in : xfn Try.prog { ex := false, inl := [], loops := [⟨2, [.tm 5]⟩], unroll := [], mu := [], mus := [], stays := [], rowT := [], rwx := false, nilR := [], rws := [] } Try.f14 [(.slc 0 (.nv 0) (.nv 1)), (.int .i64 (.iv 0))] [] [] ⟨1, 2, 0, 0, 0, 1, 0, 0⟩ = some t_in := by kernel_rfl
theorem vc_in (i0 : Int) (n0 n1 : Nat) (a0 : Option Addr) (W : Wd) (R : Ending → World → Prop) (h : t_in.den Try.prog W.w.heap.size R [] { I := [i0], N := [n0, n1], A := [a0] } W) : CallsE Try.prog 14 #[.slice a0 n0 n1, .int .i64 i0] W R :=
  fn_calls Try.func14 _ _ { I := [i0], N := [n0, n1], A := [a0] } _ x_in (fun v hv => by cases hv) h

-- callboard/callboardref05.Ints
@[reducible] def t_ints_1 : Tree := (.grow (.br (.un .not (.bin .ieq (.iv 1) (.iv 2))) (.ret (.bool (.bl false)) [] [] []) (.again 0 [(.int .i64 (.un (.wrap .i64) (.bin .add (.iv 0) (.il 1))))] [])))
@[reducible] def t_ints_2 : Tree := (.chk (.sm 1) (.chk (.bin .lt (.iv 0) (.nv 2)) (.look 3 (.elt 1 (.iv 0) 1 0) (.int .i64 (.iv 2)) ⟨1, 0, 0, 0, 0, 0, 0, 0⟩ t_ints_1)))
@[reducible] def t_ints_3 : Tree := (.chk (.sm 0) (.chk (.bin .le (.il 0) (.iv 0)) (.look 3 (.elt 0 (.iv 0) 1 0) (.int .i64 (.iv 1)) ⟨1, 0, 0, 0, 0, 0, 0, 0⟩ t_ints_2)))
@[reducible] def t_ints_4 : Tree := (.loop [(.int .i64 (.il 0))] [] [(.int .i64 (.iv 0))] [] ⟨1, 0, 0, 0, 0, 0, 0, 0⟩ (.br (.bin .lt (.iv 0) (.nv 0)) t_ints_3 (.ret (.bool (.bl true)) [] [] [])))
@[reducible] def t_ints : Tree :=
(.br (.un .not (.bin .ieq (.nv 0) (.nv 2))) (.ret (.bool (.bl false)) [] [] []) t_ints_4)
theorem x_ints : xfn Try.prog { ex := false, inl := [], loops := [⟨4, [.tm 5]⟩], unroll := [], mu := [], mus := [], stays := [], rowT := [], rwx := false, nilR := [], rws := [] } Try.f15 [(.slc 0 (.nv 0) (.nv 1)), (.slc 1 (.nv 2) (.nv 3))] [] [] ⟨0, 4, 0, 0, 0, 2, 0, 0⟩ = some t_ints := by kernel_rfl
theorem vc_ints (n0 n1 n2 n3 : Nat) (a0 a1 : Option Addr) (W : Wd) (R : Ending → World → Prop) (h : t_ints.den Try.prog W.w.heap.size R [] { N := [n0, n1, n2, n3], A := [a0, a1] } W) : CallsE Try.prog 15 #[.slice a0 n0 n1, .slice a1 n2 n3] W R :=
  fn_calls Try.func15 _ _ { N := [n0, n1, n2, n3], A := [a0, a1] } _ x_ints (fun v hv => by cases hv) h

-- callboard/callboardlaw19.sees
@[reducible] def t_sees_1 : Tree := (.ret (.bool (.bin .band (.un .not (.bv 0)) (.bin .band (.bin .ieq (.iv 5) (.il 0)) (.bin .band (.bin .teq (.tv 1) (.tl [])) (.bin .band (.bin .ieq (.iv 6) (.il 0)) (.bin .band (.bin .ieq (.iv 7) (.il 0)) (.bin .teq (.tv 2) (.tl [])))))))) [] [] [])
@[reducible] def t_sees_2 : Tree := (.grow (.ret (.bool (.bin .band (.bin .ieq (.iv 5) (.iv 3)) (.bin .band (.bin .teq (.tv 1) (.tv 0)) (.bin .band (.bin .ieq (.iv 6) (.il 1)) (.bin .band (.bin .ieq (.iv 7) (.iv 4)) (.bin .teq (.tv 2) (.tl []))))))) [] [] []))
@[reducible] def t_sees_3 : Tree := (.new (.wr (.br (.bin .lt (.iv 3) (.il 0)) t_sees_1 (.br (.bv 0) t_sees_2 (.grow (.ret (.bool (.bl false)) [] [] []))))))
@[reducible] def t_sees : Tree :=
(.new (.call 13 [(.agg [(.int .i64 (.iv 0)), (.int .i64 (.iv 1)), (.slc 0 (.nv 0) (.nv 1)), (.slc 1 (.nv 2) (.nv 3)), (.slc 2 (.nv 4) (.nv 5)), (.slc 3 (.nv 6) (.nv 7))]), (.int .i64 (.iv 2)), (.str (.tv 0))] [] [] [] (.tup [(.agg [(.int .i64 (.iv 5)), (.str (.tv 1)), (.int .u8 (.iv 6)), (.int .i64 (.iv 7)), (.str (.tv 2))]), (.bool (.bv 0))]) ⟨3, 0, 1, 2, 0, 0, 0, 0⟩ t_sees_3))
theorem x_sees : xfn Try.prog { ex := false, inl := [22], loops := [], unroll := [], mu := [], mus := [], stays := [], rowT := [], rwx := false, nilR := [], rws := [] } Try.f24 [(.agg [(.int .i64 (.iv 0)), (.int .i64 (.iv 1)), (.slc 0 (.nv 0) (.nv 1)), (.slc 1 (.nv 2) (.nv 3)), (.slc 2 (.nv 4) (.nv 5)), (.slc 3 (.nv 6) (.nv 7))]), (.int .i64 (.iv 2)), (.str (.tv 0)), (.int .i64 (.iv 3)), (.int .i64 (.iv 4))] [] [] ⟨5, 8, 0, 1, 0, 4, 0, 0⟩ = some t_sees := by kernel_rfl
theorem vc_sees (i0 i1 i2 i3 i4 : Int) (n0 n1 n2 n3 n4 n5 n6 n7 : Nat) (t0 : ByteArray) (a0 a1 a2 a3 : Option Addr) (W : Wd) (R : Ending → World → Prop) (h : t_sees.den Try.prog W.w.heap.size R [] { I := [i0, i1, i2, i3, i4], N := [n0, n1, n2, n3, n4, n5, n6, n7], T := [t0], A := [a0, a1, a2, a3] } W) : CallsE Try.prog 24 #[.agg #[.int .i64 i0, .int .i64 i1, .slice a0 n0 n1, .slice a1 n2 n3, .slice a2 n4 n5, .slice a3 n6 n7], .int .i64 i2, .string t0, .int .i64 i3, .int .i64 i4] W R :=
  fn_calls Try.func24 _ _ { I := [i0, i1, i2, i3, i4], N := [n0, n1, n2, n3, n4, n5, n6, n7], T := [t0], A := [a0, a1, a2, a3] } _ x_sees (fun v hv => by cases hv) h

-- callboard/callboardlaw19.one
@[reducible] def t_one : Tree :=
(.grow (.newf 37 [(.str (.tv 0)), (.int .u8 (.il 1)), (.int .i64 (.iv 0)), (.str (.tl []))] (.ret (.slc 0 (.il 1) (.il 1)) [] [] [])))
theorem x_one : xfn Try.prog { ex := false, inl := [22], loops := [], unroll := [], mu := [], mus := [], stays := [37, 49, 54, 3], rowT := [], rwx := false, nilR := [], rws := [] } Try.f23 [(.str (.tv 0)), (.int .i64 (.iv 0))] [] [] ⟨1, 0, 0, 1, 0, 0, 0, 0⟩ = some t_one := by kernel_rfl
theorem vc_one (i0 : Int) (t0 : ByteArray) (W : Wd) (R : Ending → World → Prop) (h : t_one.den Try.prog W.w.heap.size R [] { I := [i0], T := [t0] } W) : CallsE Try.prog 23 #[.string t0, .int .i64 i0] W R :=
  fn_calls Try.func23 _ _ { I := [i0], T := [t0] } _ x_one (fun v hv => by cases hv) h

-- callboard/callboardlaw19.tower
@[reducible] def t_tower : Tree :=
(.new (.newf 54 [(.int .i64 (.il 1)), (.int .i64 (.il 0)), (.int .u8 (.il 1)), (.str (.tl [])), (.int .i64 (.il (-1))), (.int .i64 (.il 0)), (.int .u8 (.il 0)), (.str (.tl [])), (.int .i64 (.il 2)), (.int .i64 (.il 1)), (.int .u8 (.il 2)), (.str (.tl [])), (.int .i64 (.il 1)), (.int .i64 (.il 0)), (.int .u8 (.il 0)), (.str (.tl [])), (.int .i64 (.il 3)), (.int .i64 (.il 2)), (.int .u8 (.il 1)), (.str (.tl [])), (.int .i64 (.il 1)), (.int .i64 (.il 0)), (.int .u8 (.il 0)), (.str (.tl [])), (.int .i64 (.il 4)), (.int .i64 (.il 3)), (.int .u8 (.il 2)), (.str (.tl [])), (.int .i64 (.il 2)), (.int .i64 (.il 0)), (.int .u8 (.il 0)), (.str (.tl [])), (.int .i64 (.il 5)), (.int .i64 (.il 4)), (.int .u8 (.il 1)), (.str (.tl [])), (.int .i64 (.il (-1))), (.int .i64 (.il 0)), (.int .u8 (.il 0)), (.str (.tl [])), (.int .i64 (.il 6)), (.int .i64 (.il 3)), (.int .u8 (.il 1)), (.str (.tl [])), (.int .i64 (.il 4)), (.int .i64 (.il 0)), (.int .u8 (.il 0)), (.str (.tl []))] (.wr (.ret (.agg [(.int .i64 (.il 0)), (.int .i64 (.il 6)), .nils, (.slc 0 (.il 6) (.il 6)), .nils, .nils]) [] [] []))))
theorem x_tower : xfn Try.prog { ex := false, inl := [22], loops := [], unroll := [], mu := [], mus := [], stays := [37, 49, 54, 3], rowT := [], rwx := false, nilR := [], rws := [] } Try.f21 [] [] [] ⟨0, 0, 0, 0, 0, 0, 0, 0⟩ = some t_tower := by kernel_rfl
theorem vc_tower  (W : Wd) (R : Ending → World → Prop) (h : t_tower.den Try.prog W.w.heap.size R [] {  } W) : CallsE Try.prog 21 #[] W R :=
  fn_calls Try.func21 _ _ {  } _ x_tower (fun v hv => by cases hv) h

-- callboard/callboardlaw19.works
@[reducible] def t_works_1 : Tree := (.call 24 [(.agg [(.int .i64 (.iv 4)), (.int .i64 (.iv 5)), (.slc 10 (.nv 20) (.nv 21)), (.slc 11 (.nv 22) (.nv 23)), (.slc 12 (.nv 24) (.nv 25)), (.slc 13 (.nv 26) (.nv 27))]), (.int .i64 (.il 5)), (.str (.tl [120])), (.int .i64 (.il (-1))), (.int .i64 (.il 0))] [] [] [] (.bool (.bv 5)) ⟨0, 0, 1, 0, 0, 0, 0, 0⟩ (.ret (.bool (.bv 5)) [] [] []))
@[reducible] def t_works_2 : Tree := (.newf 3 [(.int .i64 (.il 5))] (.call 15 [(.slc 19 (.nv 36) (.nv 37)), (.slc 20 (.il 1) (.il 1))] [] [] [] (.bool (.bv 4)) ⟨0, 0, 1, 0, 0, 0, 0, 0⟩ (.br (.bv 4) t_works_1 (.ret (.bool (.bl false)) [] [] []))))
@[reducible] def t_works_3 : Tree := (.call 12 [(.agg [(.int .i64 (.iv 4)), (.int .i64 (.iv 5)), (.slc 10 (.nv 20) (.nv 21)), (.slc 11 (.nv 22) (.nv 23)), (.slc 12 (.nv 24) (.nv 25)), (.slc 13 (.nv 26) (.nv 27))]), (.int .i64 (.il 5))] [] [] [] (.slc 19 (.nv 36) (.nv 37)) ⟨0, 2, 0, 0, 0, 1, 0, 0⟩ t_works_2)
@[reducible] def t_works_4 : Tree := (.call 24 [(.agg [(.int .i64 (.iv 6)), (.int .i64 (.iv 7)), (.slc 15 (.nv 28) (.nv 29)), (.slc 16 (.nv 30) (.nv 31)), (.slc 17 (.nv 32) (.nv 33)), (.slc 18 (.nv 34) (.nv 35))]), (.int .i64 (.il 1)), (.str (.tl [120])), (.int .i64 (.il 1)), (.int .i64 (.il 5))] [] [] [] (.bool (.bv 3)) ⟨0, 0, 1, 0, 0, 0, 0, 0⟩ (.br (.bv 3) t_works_3 (.ret (.bool (.bl false)) [] [] [])))
@[reducible] def t_works_5 : Tree := (.br (.bin .band (.bv 2) (.bin .ieq (.iv 8) (.il 0))) t_works_4 (.ret (.bool (.bl false)) [] [] []))
@[reducible] def t_works_6 : Tree := (.call 24 [(.agg [(.int .i64 (.iv 4)), (.int .i64 (.iv 5)), (.slc 10 (.nv 20) (.nv 21)), (.slc 11 (.nv 22) (.nv 23)), (.slc 12 (.nv 24) (.nv 25)), (.slc 13 (.nv 26) (.nv 27))]), (.int .i64 (.il 1)), (.str (.tl [121])), (.int .i64 (.il (-1))), (.int .i64 (.il 0))] [] [] [] (.bool (.bv 2)) ⟨0, 0, 1, 0, 0, 0, 0, 0⟩ t_works_5)
@[reducible] def t_works_7 : Tree := (.call 24 [(.agg [(.int .i64 (.iv 4)), (.int .i64 (.iv 5)), (.slc 10 (.nv 20) (.nv 21)), (.slc 11 (.nv 22) (.nv 23)), (.slc 12 (.nv 24) (.nv 25)), (.slc 13 (.nv 26) (.nv 27))]), (.int .i64 (.il 3)), (.str (.tl [121])), (.int .i64 (.il 3)), (.int .i64 (.il 2))] [] [] [] (.bool (.bv 1)) ⟨0, 0, 1, 0, 0, 0, 0, 0⟩ (.br (.bv 1) t_works_6 (.ret (.bool (.bl false)) [] [] [])))
@[reducible] def t_works_8 : Tree := (.grow (.new (.grow (.wr (.grow (.call 24 [(.agg [(.int .i64 (.iv 4)), (.int .i64 (.iv 5)), (.slc 10 (.nv 20) (.nv 21)), (.slc 11 (.nv 22) (.nv 23)), (.slc 12 (.nv 24) (.nv 25)), (.slc 13 (.nv 26) (.nv 27))]), (.int .i64 (.il 3)), (.str (.tl [120])), (.int .i64 (.il 1)), (.int .i64 (.il 1))] [] [] [] (.bool (.bv 0)) ⟨0, 0, 1, 0, 0, 0, 0, 0⟩ (.br (.bv 0) t_works_7 (.ret (.bool (.bl false)) [] [] []))))))))
@[reducible] def t_works_9 : Tree := (.grow (.call 16 [(.agg [(.int .i64 (.iv 4)), (.int .i64 (.iv 5)), (.slc 10 (.nv 20) (.nv 21)), (.slc 11 (.nv 22) (.nv 23)), (.slc 12 (.nv 24) (.nv 25)), (.slc 13 (.nv 26) (.nv 27))]), (.int .i64 (.il 3)), (.slc 14 (.il 1) (.il 1))] [] [] [] (.tup [(.agg [(.int .i64 (.iv 6)), (.int .i64 (.iv 7)), (.slc 15 (.nv 28) (.nv 29)), (.slc 16 (.nv 30) (.nv 31)), (.slc 17 (.nv 32) (.nv 33)), (.slc 18 (.nv 34) (.nv 35))]), (.int .i64 (.iv 8))]) ⟨3, 8, 0, 0, 0, 4, 0, 0⟩ t_works_8))
@[reducible] def t_works_10 : Tree := (.grow (.wr (.grow (.call 24 [(.agg [(.int .i64 (.iv 4)), (.int .i64 (.iv 5)), (.slc 10 (.nv 20) (.nv 21)), (.slc 11 (.nv 22) (.nv 23)), (.slc 12 (.nv 24) (.nv 25)), (.slc 13 (.nv 26) (.nv 27))]), (.int .i64 (.il 3)), (.str (.tl [120])), (.int .i64 (.il 1)), (.int .i64 (.il 1))] [] [] [] (.bool (.bv 0)) ⟨0, 0, 1, 0, 0, 0, 0, 0⟩ (.br (.bv 0) t_works_7 (.ret (.bool (.bl false)) [] [] []))))))
@[reducible] def t_works_11 : Tree := (.grow (.new (.grow (.call 16 [(.agg [(.int .i64 (.iv 4)), (.int .i64 (.iv 5)), (.slc 10 (.nv 20) (.nv 21)), (.slc 11 (.nv 22) (.nv 23)), (.slc 12 (.nv 24) (.nv 25)), (.slc 13 (.nv 26) (.nv 27))]), (.int .i64 (.il 3)), (.slc 14 (.il 1) (.il 1))] [] [] [] (.tup [(.agg [(.int .i64 (.iv 6)), (.int .i64 (.iv 7)), (.slc 15 (.nv 28) (.nv 29)), (.slc 16 (.nv 30) (.nv 31)), (.slc 17 (.nv 32) (.nv 33)), (.slc 18 (.nv 34) (.nv 35))]), (.int .i64 (.iv 8))]) ⟨3, 8, 0, 0, 0, 4, 0, 0⟩ t_works_10))))
@[reducible] def t_works_12 : Tree := (.grow (.newf 49 [(.str (.tl [120])), (.int .u8 (.il 1)), (.int .i64 (.il 5)), (.str (.tl []))] (.both t_works_9 t_works_11)))
@[reducible] def t_works_13 : Tree := (.grow (.new (.grow (.newf 49 [(.str (.tl [120])), (.int .u8 (.il 1)), (.int .i64 (.il 5)), (.str (.tl []))] (.grow (.call 16 [(.agg [(.int .i64 (.iv 4)), (.int .i64 (.iv 5)), (.slc 10 (.nv 20) (.nv 21)), (.slc 11 (.nv 22) (.nv 23)), (.slc 12 (.nv 24) (.nv 25)), (.slc 13 (.nv 26) (.nv 27))]), (.int .i64 (.il 3)), (.slc 14 (.il 1) (.il 1))] [] [] [] (.tup [(.agg [(.int .i64 (.iv 6)), (.int .i64 (.iv 7)), (.slc 15 (.nv 28) (.nv 29)), (.slc 16 (.nv 30) (.nv 31)), (.slc 17 (.nv 32) (.nv 33)), (.slc 18 (.nv 34) (.nv 35))]), (.int .i64 (.iv 8))]) ⟨3, 8, 0, 0, 0, 4, 0, 0⟩ t_works_10))))))
@[reducible] def t_works_14 : Tree := (.call 11 [(.agg [(.int .i64 (.iv 2)), (.int .i64 (.iv 3)), (.slc 5 (.nv 10) (.nv 11)), (.slc 6 (.nv 12) (.nv 13)), (.slc 7 (.nv 14) (.nv 15)), (.slc 8 (.nv 16) (.nv 17))]), (.int .i64 (.il 3)), (.slc 9 (.nv 18) (.nv 19))] [] [] [] (.agg [(.int .i64 (.iv 4)), (.int .i64 (.iv 5)), (.slc 10 (.nv 20) (.nv 21)), (.slc 11 (.nv 22) (.nv 23)), (.slc 12 (.nv 24) (.nv 25)), (.slc 13 (.nv 26) (.nv 27))]) ⟨2, 8, 0, 0, 0, 4, 0, 0⟩ (.new (.wr (.both t_works_12 t_works_13))))
@[reducible] def t_works_15 : Tree := (.call 23 [(.str (.tl [121])), (.int .i64 (.il 2))] [] [] [] (.slc 9 (.nv 18) (.nv 19)) ⟨0, 2, 0, 0, 0, 1, 0, 0⟩ t_works_14)
@[reducible] def t_works_16 : Tree := (.call 11 [(.agg [(.int .i64 (.iv 0)), (.int .i64 (.iv 1)), (.slc 0 (.nv 0) (.nv 1)), (.slc 1 (.nv 2) (.nv 3)), (.slc 2 (.nv 4) (.nv 5)), (.slc 3 (.nv 6) (.nv 7))]), (.int .i64 (.il 1)), (.slc 4 (.nv 8) (.nv 9))] [] [] [] (.agg [(.int .i64 (.iv 2)), (.int .i64 (.iv 3)), (.slc 5 (.nv 10) (.nv 11)), (.slc 6 (.nv 12) (.nv 13)), (.slc 7 (.nv 14) (.nv 15)), (.slc 8 (.nv 16) (.nv 17))]) ⟨2, 8, 0, 0, 0, 4, 0, 0⟩ t_works_15)
@[reducible] def t_works_17 : Tree := (.call 23 [(.str (.tl [120])), (.int .i64 (.il 1))] [] [] [] (.slc 4 (.nv 8) (.nv 9)) ⟨0, 2, 0, 0, 0, 1, 0, 0⟩ t_works_16)
@[reducible] def t_works : Tree :=
(.call 21 [] [] [] [] (.agg [(.int .i64 (.iv 0)), (.int .i64 (.iv 1)), (.slc 0 (.nv 0) (.nv 1)), (.slc 1 (.nv 2) (.nv 3)), (.slc 2 (.nv 4) (.nv 5)), (.slc 3 (.nv 6) (.nv 7))]) ⟨2, 8, 0, 0, 0, 4, 0, 0⟩ t_works_17)
theorem x_works : xfn Try.prog { ex := false, inl := [22], loops := [], unroll := [], mu := [], mus := [1], stays := [37, 49, 54, 3], rowT := [], rwx := true, nilR := [], rws := [] } Try.f9 [] [] [] ⟨0, 0, 0, 0, 0, 0, 0, 0⟩ = some t_works := by kernel_rfl
theorem vc_works  (W : Wd) (R : Ending → World → Prop) (h : t_works.den Try.prog W.w.heap.size R [] {  } W) : CallsE Try.prog 9 #[] W R :=
  fn_calls Try.func9 _ _ {  } _ x_works (fun v hv => by cases hv) h

end Go.Proofs.Ytamnfdmmjjekhaa
