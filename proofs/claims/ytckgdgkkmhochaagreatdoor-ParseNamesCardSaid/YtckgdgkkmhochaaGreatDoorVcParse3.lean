/- What is left to show of functions, as the walk that the kernel computes finds it (written by wip/vc2.py). -/
import Derived.Test.YtckgdgkkmhochaaGreatDoorProg
import Derived.Test.YtckgdgkkmhochaaGreatDoorSfD
namespace Go.Proofs.YtckgdgkkmhochaaGreatDoor
open Go Go.RowKit Go.SF
set_option maxRecDepth 100000

-- callboard/callboardlaw11.two
@[reducible] def t_l2 : Tree :=
(.new (.new (.new (.new (.wr (.ret (.agg [(.int .u8 (.iv 0)), (.int .u8 (.il 0)), (.int .i64 (.il 0)), (.str (.tl [])), (.str (.tl [])), (.slb 3 0 2 2)]) [⟨3, 26, [(.int .u8 (.iv 1)), (.int .u8 (.iv 2)), (.int .i64 (.iv 3)), (.str (.tv 0)), (.str (.tv 1)), (.slc 0 (.nv 0) (.nv 1)), (.int .u8 (.iv 4)), (.int .u8 (.iv 5)), (.int .i64 (.iv 6)), (.str (.tv 2)), (.str (.tv 3)), (.slc 1 (.nv 2) (.nv 3))]⟩] [] []))))))
theorem x_l2 : xfn Tryz.prog { ex := false, inl := [], loops := [], unroll := [], mu := [], mus := [], stays := [], rowT := [], rwx := false, nilR := [], rws := [] } Tryz.f24 [(.int .u8 (.iv 0)), (.agg [(.int .u8 (.iv 1)), (.int .u8 (.iv 2)), (.int .i64 (.iv 3)), (.str (.tv 0)), (.str (.tv 1)), (.slc 0 (.nv 0) (.nv 1))]), (.agg [(.int .u8 (.iv 4)), (.int .u8 (.iv 5)), (.int .i64 (.iv 6)), (.str (.tv 2)), (.str (.tv 3)), (.slc 1 (.nv 2) (.nv 3))])] [] [] ⟨7, 4, 0, 4, 0, 2, 0, 0⟩ = some t_l2 := by kernel_rfl
theorem vc_l2 (i0 i1 i2 i3 i4 i5 i6 : Int) (n0 n1 n2 n3 : Nat) (t0 t1 t2 t3 : ByteArray) (a0 a1 : Option Addr) (W : Wd) (R : Ending → World → Prop) (h : t_l2.den Tryz.prog W.w.heap.size R [] { I := [i0, i1, i2, i3, i4, i5, i6], N := [n0, n1, n2, n3], T := [t0, t1, t2, t3], A := [a0, a1] } W) : CallsE Tryz.prog 24 #[.int .u8 i0, .agg #[.int .u8 i1, .int .u8 i2, .int .i64 i3, .string t0, .string t1, .slice a0 n0 n1], .agg #[.int .u8 i4, .int .u8 i5, .int .i64 i6, .string t2, .string t3, .slice a1 n2 n3]] W R :=
  fn_calls Tryz.func24 _ _ { I := [i0, i1, i2, i3, i4, i5, i6], N := [n0, n1, n2, n3], T := [t0, t1, t2, t3], A := [a0, a1] } _ x_l2 (fun v hv => by cases hv) h

-- callboard/callboardlaw11.one
@[reducible] def t_l1 : Tree :=
(.new (.new (.new (.wr (.ret (.agg [(.int .u8 (.iv 0)), (.int .u8 (.il 0)), (.int .i64 (.il 0)), (.str (.tl [])), (.str (.tl [])), (.slb 2 0 1 1)]) [⟨2, 26, [(.int .u8 (.iv 1)), (.int .u8 (.iv 2)), (.int .i64 (.iv 3)), (.str (.tv 0)), (.str (.tv 1)), (.slc 0 (.nv 0) (.nv 1))]⟩] [] [])))))
theorem x_l1 : xfn Tryz.prog { ex := false, inl := [], loops := [], unroll := [], mu := [], mus := [], stays := [], rowT := [], rwx := false, nilR := [], rws := [] } Tryz.f25 [(.int .u8 (.iv 0)), (.agg [(.int .u8 (.iv 1)), (.int .u8 (.iv 2)), (.int .i64 (.iv 3)), (.str (.tv 0)), (.str (.tv 1)), (.slc 0 (.nv 0) (.nv 1))])] [] [] ⟨4, 2, 0, 2, 0, 1, 0, 0⟩ = some t_l1 := by kernel_rfl
theorem vc_l1 (i0 i1 i2 i3 : Int) (n0 n1 : Nat) (t0 t1 : ByteArray) (a0 : Option Addr) (W : Wd) (R : Ending → World → Prop) (h : t_l1.den Tryz.prog W.w.heap.size R [] { I := [i0, i1, i2, i3], N := [n0, n1], T := [t0, t1], A := [a0] } W) : CallsE Tryz.prog 25 #[.int .u8 i0, .agg #[.int .u8 i1, .int .u8 i2, .int .i64 i3, .string t0, .string t1, .slice a0 n0 n1]] W R :=
  fn_calls Tryz.func25 _ _ { I := [i0, i1, i2, i3], N := [n0, n1], T := [t0, t1], A := [a0] } _ x_l1 (fun v hv => by cases hv) h

-- callboard/callboardlaw11.name
@[reducible] def t_lname : Tree :=
(.new (.wr (.ret (.agg [(.int .u8 (.il 2)), (.int .u8 (.il 0)), (.int .i64 (.il 0)), (.str (.tl [])), (.str (.tv 0)), .nils]) [] [] [])))
theorem x_lname : xfn Tryz.prog { ex := false, inl := [], loops := [], unroll := [], mu := [], mus := [], stays := [], rowT := [], rwx := false, nilR := [], rws := [] } Tryz.f22 [(.str (.tv 0))] [] [] ⟨0, 0, 0, 1, 0, 0, 0, 0⟩ = some t_lname := by kernel_rfl
theorem vc_lname (t0 : ByteArray) (W : Wd) (R : Ending → World → Prop) (h : t_lname.den Tryz.prog W.w.heap.size R [] { T := [t0] } W) : CallsE Tryz.prog 22 #[.string t0] W R :=
  fn_calls Tryz.func22 _ _ { T := [t0] } _ x_lname (fun v hv => by cases hv) h

-- callboard/callboardlaw11.num
@[reducible] def t_lnum : Tree :=
(.new (.wr (.ret (.agg [(.int .u8 (.il 1)), (.int .u8 (.il 1)), (.int .i64 (.iv 0)), (.str (.tl [])), (.str (.tl [])), .nils]) [] [] [])))
theorem x_lnum : xfn Tryz.prog { ex := false, inl := [], loops := [], unroll := [], mu := [], mus := [], stays := [], rowT := [], rwx := false, nilR := [], rws := [] } Tryz.f26 [(.int .i64 (.iv 0))] [] [] ⟨1, 0, 0, 0, 0, 0, 0, 0⟩ = some t_lnum := by kernel_rfl
theorem vc_lnum (i0 : Int) (W : Wd) (R : Ending → World → Prop) (h : t_lnum.den Tryz.prog W.w.heap.size R [] { I := [i0] } W) : CallsE Tryz.prog 26 #[.int .i64 i0] W R :=
  fn_calls Tryz.func26 _ _ { I := [i0] } _ x_lnum (fun v hv => by cases hv) h

-- callboard/callboardlaw11.text
@[reducible] def t_ltext : Tree :=
(.new (.wr (.ret (.agg [(.int .u8 (.il 1)), (.int .u8 (.il 3)), (.int .i64 (.il 0)), (.str (.tv 0)), (.str (.tl [])), .nils]) [] [] [])))
theorem x_ltext : xfn Tryz.prog { ex := false, inl := [], loops := [], unroll := [], mu := [], mus := [], stays := [], rowT := [], rwx := false, nilR := [], rws := [] } Tryz.f27 [(.str (.tv 0))] [] [] ⟨0, 0, 0, 1, 0, 0, 0, 0⟩ = some t_ltext := by kernel_rfl
theorem vc_ltext (t0 : ByteArray) (W : Wd) (R : Ending → World → Prop) (h : t_ltext.den Tryz.prog W.w.heap.size R [] { T := [t0] } W) : CallsE Tryz.prog 27 #[.string t0] W R :=
  fn_calls Tryz.func27 _ _ { T := [t0] } _ x_ltext (fun v hv => by cases hv) h

-- callboard/callboardlaw11.is
@[reducible] def t_lis_1 : Tree := (.call 17 [(.agg [(.int .u8 (.iv 3)), (.int .u8 (.iv 4)), (.int .i64 (.iv 5)), (.str (.tv 3)), (.str (.tv 4)), (.slc 1 (.nv 2) (.nv 3))]), (.agg [(.int .u8 (.iv 0)), (.int .u8 (.iv 1)), (.int .i64 (.iv 2)), (.str (.tv 1)), (.str (.tv 2)), (.slc 0 (.nv 0) (.nv 1))])] [] [] [] (.bool (.bv 0)) ⟨0, 0, 1, 0, 0, 0, 0, 0⟩ (.ret (.bool (.bv 0)) [] [] []))
@[reducible] def t_lis : Tree :=
(.new (.call 20 [(.str (.tv 0))] [] [] [] (.tup [(.agg [(.int .u8 (.iv 3)), (.int .u8 (.iv 4)), (.int .i64 (.iv 5)), (.str (.tv 3)), (.str (.tv 4)), (.slc 1 (.nv 2) (.nv 3))]), (.int .i64 (.iv 6))]) ⟨4, 2, 0, 2, 0, 1, 0, 0⟩ (.new (.wr (.br (.bin .ieq (.iv 6) (.il 0)) t_lis_1 (.ret (.bool (.bl false)) [] [] []))))))
theorem x_lis : xfn Tryz.prog { ex := false, inl := [], loops := [], unroll := [], mu := [], mus := [], stays := [], rowT := [], rwx := false, nilR := [], rws := [] } Tryz.f19 [(.str (.tv 0)), (.agg [(.int .u8 (.iv 0)), (.int .u8 (.iv 1)), (.int .i64 (.iv 2)), (.str (.tv 1)), (.str (.tv 2)), (.slc 0 (.nv 0) (.nv 1))])] [] [] ⟨3, 2, 0, 3, 0, 1, 0, 0⟩ = some t_lis := by kernel_rfl
theorem vc_lis (i0 i1 i2 : Int) (n0 n1 : Nat) (t0 t1 t2 : ByteArray) (a0 : Option Addr) (W : Wd) (R : Ending → World → Prop) (h : t_lis.den Tryz.prog W.w.heap.size R [] { I := [i0, i1, i2], N := [n0, n1], T := [t0, t1, t2], A := [a0] } W) : CallsE Tryz.prog 19 #[.string t0, .agg #[.int .u8 i0, .int .u8 i1, .int .i64 i2, .string t1, .string t2, .slice a0 n0 n1]] W R :=
  fn_calls Tryz.func19 _ _ { I := [i0, i1, i2], N := [n0, n1], T := [t0, t1, t2], A := [a0] } _ x_lis (fun v hv => by cases hv) h

-- callboard/callboardlaw11.no
@[reducible] def t_lno_1 : Tree := (.call 17 [(.agg [(.int .u8 (.iv 1)), (.int .u8 (.iv 2)), (.int .i64 (.iv 3)), (.str (.tv 1)), (.str (.tv 2)), (.slc 0 (.nv 0) (.nv 1))]), (.agg [(.int .u8 (.il 0)), (.int .u8 (.il 0)), (.int .i64 (.il 0)), (.str (.tl [])), (.str (.tl [])), .nils])] [] [] [] (.bool (.bv 0)) ⟨0, 0, 1, 0, 0, 0, 0, 0⟩ (.ret (.bool (.bv 0)) [] [] []))
@[reducible] def t_lno : Tree :=
(.call 20 [(.str (.tv 0))] [] [] [] (.tup [(.agg [(.int .u8 (.iv 1)), (.int .u8 (.iv 2)), (.int .i64 (.iv 3)), (.str (.tv 1)), (.str (.tv 2)), (.slc 0 (.nv 0) (.nv 1))]), (.int .i64 (.iv 4))]) ⟨4, 2, 0, 2, 0, 1, 0, 0⟩ (.new (.wr (.br (.bin .ieq (.iv 4) (.iv 0)) t_lno_1 (.ret (.bool (.bl false)) [] [] [])))))
theorem x_lno : xfn Tryz.prog { ex := false, inl := [], loops := [], unroll := [], mu := [], mus := [], stays := [], rowT := [], rwx := false, nilR := [], rws := [] } Tryz.f23 [(.str (.tv 0)), (.int .i64 (.iv 0))] [] [] ⟨1, 0, 0, 1, 0, 0, 0, 0⟩ = some t_lno := by kernel_rfl
theorem vc_lno (i0 : Int) (t0 : ByteArray) (W : Wd) (R : Ending → World → Prop) (h : t_lno.den Tryz.prog W.w.heap.size R [] { I := [i0], T := [t0] } W) : CallsE Tryz.prog 23 #[.string t0, .int .i64 i0] W R :=
  fn_calls Tryz.func23 _ _ { I := [i0], T := [t0] } _ x_lno (fun v hv => by cases hv) h

-- callboard/callboardlaw11.shows
@[reducible] def t_lshows_1 : Tree := (.call 19 [(.str (.tv 3)), (.agg [(.int .u8 (.iv 0)), (.int .u8 (.iv 1)), (.int .i64 (.iv 2)), (.str (.tv 0)), (.str (.tv 1)), (.slc 0 (.nv 0) (.nv 1))])] [] [] [] (.bool (.bv 0)) ⟨0, 0, 1, 0, 0, 0, 0, 0⟩ (.ret (.bool (.bv 0)) [] [] []))
@[reducible] def t_lshows_2 : Tree := (.br (.bin .band (.bin .ieq (.iv 3) (.il 0)) (.bin .teq (.tv 3) (.tv 2))) t_lshows_1 (.ret (.bool (.bl false)) [] [] []))
@[reducible] def t_lshows : Tree :=
(.new (.call 10 [(.agg [(.int .u8 (.iv 0)), (.int .u8 (.iv 1)), (.int .i64 (.iv 2)), (.str (.tv 0)), (.str (.tv 1)), (.slc 0 (.nv 0) (.nv 1))])] [] [] [] (.tup [(.str (.tv 3)), (.int .i64 (.iv 3))]) ⟨1, 0, 0, 1, 0, 0, 0, 0⟩ t_lshows_2))
theorem x_lshows : xfn Tryz.prog { ex := false, inl := [], loops := [], unroll := [], mu := [], mus := [], stays := [], rowT := [], rwx := false, nilR := [], rws := [] } Tryz.f28 [(.agg [(.int .u8 (.iv 0)), (.int .u8 (.iv 1)), (.int .i64 (.iv 2)), (.str (.tv 0)), (.str (.tv 1)), (.slc 0 (.nv 0) (.nv 1))]), (.str (.tv 2))] [] [] ⟨3, 2, 0, 3, 0, 1, 0, 0⟩ = some t_lshows := by kernel_rfl
theorem vc_lshows (i0 i1 i2 : Int) (n0 n1 : Nat) (t0 t1 t2 : ByteArray) (a0 : Option Addr) (W : Wd) (R : Ending → World → Prop) (h : t_lshows.den Tryz.prog W.w.heap.size R [] { I := [i0, i1, i2], N := [n0, n1], T := [t0, t1, t2], A := [a0] } W) : CallsE Tryz.prog 28 #[.agg #[.int .u8 i0, .int .u8 i1, .int .i64 i2, .string t0, .string t1, .slice a0 n0 n1], .string t2] W R :=
  fn_calls Tryz.func28 _ _ { I := [i0, i1, i2], N := [n0, n1], T := [t0, t1, t2], A := [a0] } _ x_lshows (fun v hv => by cases hv) h

-- callboard/callboardlaw11.works
@[reducible] def t_lworks_1 : Tree := (.callq 19 [(.str (.tl [108, 101, 110, 40, 97, 32, 43, 32, 39, 120, 39, 41])), (.agg [(.int .u8 (.iv 36)), (.int .u8 (.iv 37)), (.int .i64 (.iv 38)), (.str (.tv 24)), (.str (.tv 25)), (.slc 12 (.nv 24) (.nv 25))])] [] [] (.bool (.bv 4)) ⟨0, 0, 1, 0, 0, 0, 0, 0⟩ (.grow (.ret (.bool (.bv 4)) [] [] [])))
@[reducible] def t_lworks_2 : Tree := (.grow (.call 25 [(.int .u8 (.il 16)), (.agg [(.int .u8 (.iv 33)), (.int .u8 (.iv 34)), (.int .i64 (.iv 35)), (.str (.tv 22)), (.str (.tv 23)), (.slc 11 (.nv 22) (.nv 23))])] [] [] [] (.agg [(.int .u8 (.iv 36)), (.int .u8 (.iv 37)), (.int .i64 (.iv 38)), (.str (.tv 24)), (.str (.tv 25)), (.slc 12 (.nv 24) (.nv 25))]) ⟨3, 2, 0, 2, 0, 1, 0, 0⟩ t_lworks_1))
@[reducible] def t_lworks_3 : Tree := (.grow (.call 24 [(.int .u8 (.il 8)), (.agg [(.int .u8 (.iv 0)), (.int .u8 (.iv 1)), (.int .i64 (.iv 2)), (.str (.tv 0)), (.str (.tv 1)), (.slc 0 (.nv 0) (.nv 1))]), (.agg [(.int .u8 (.iv 30)), (.int .u8 (.iv 31)), (.int .i64 (.iv 32)), (.str (.tv 20)), (.str (.tv 21)), (.slc 10 (.nv 20) (.nv 21))])] [] [] [] (.agg [(.int .u8 (.iv 33)), (.int .u8 (.iv 34)), (.int .i64 (.iv 35)), (.str (.tv 22)), (.str (.tv 23)), (.slc 11 (.nv 22) (.nv 23))]) ⟨3, 2, 0, 2, 0, 1, 0, 0⟩ t_lworks_2))
@[reducible] def t_lworks_4 : Tree := (.grow (.call 27 [(.str (.tl [120]))] [] [] [] (.agg [(.int .u8 (.iv 30)), (.int .u8 (.iv 31)), (.int .i64 (.iv 32)), (.str (.tv 20)), (.str (.tv 21)), (.slc 10 (.nv 20) (.nv 21))]) ⟨3, 2, 0, 2, 0, 1, 0, 0⟩ t_lworks_3))
@[reducible] def t_lworks_5 : Tree := (.callq 28 [(.agg [(.int .u8 (.iv 27)), (.int .u8 (.iv 28)), (.int .i64 (.iv 29)), (.str (.tv 18)), (.str (.tv 19)), (.slc 9 (.nv 18) (.nv 19))]), (.str (.tl [40, 97, 32, 43, 32, 98, 41, 32, 42, 32, 99]))] [] [] (.bool (.bv 3)) ⟨0, 0, 1, 0, 0, 0, 0, 0⟩ (.br (.bv 3) t_lworks_4 (.grow (.ret (.bool (.bl false)) [] [] []))))
@[reducible] def t_lworks_6 : Tree := (.grow (.call 24 [(.int .u8 (.il 5)), (.agg [(.int .u8 (.iv 24)), (.int .u8 (.iv 25)), (.int .i64 (.iv 26)), (.str (.tv 16)), (.str (.tv 17)), (.slc 8 (.nv 16) (.nv 17))]), (.agg [(.int .u8 (.iv 6)), (.int .u8 (.iv 7)), (.int .i64 (.iv 8)), (.str (.tv 4)), (.str (.tv 5)), (.slc 2 (.nv 4) (.nv 5))])] [] [] [] (.agg [(.int .u8 (.iv 27)), (.int .u8 (.iv 28)), (.int .i64 (.iv 29)), (.str (.tv 18)), (.str (.tv 19)), (.slc 9 (.nv 18) (.nv 19))]) ⟨3, 2, 0, 2, 0, 1, 0, 0⟩ t_lworks_5))
@[reducible] def t_lworks_7 : Tree := (.grow (.call 24 [(.int .u8 (.il 8)), (.agg [(.int .u8 (.iv 0)), (.int .u8 (.iv 1)), (.int .i64 (.iv 2)), (.str (.tv 0)), (.str (.tv 1)), (.slc 0 (.nv 0) (.nv 1))]), (.agg [(.int .u8 (.iv 3)), (.int .u8 (.iv 4)), (.int .i64 (.iv 5)), (.str (.tv 2)), (.str (.tv 3)), (.slc 1 (.nv 2) (.nv 3))])] [] [] [] (.agg [(.int .u8 (.iv 24)), (.int .u8 (.iv 25)), (.int .i64 (.iv 26)), (.str (.tv 16)), (.str (.tv 17)), (.slc 8 (.nv 16) (.nv 17))]) ⟨3, 2, 0, 2, 0, 1, 0, 0⟩ t_lworks_6))
@[reducible] def t_lworks_8 : Tree := (.callq 23 [(.str (.tl [97, 32, 60, 32, 98, 32, 60, 32, 99])), (.int .i64 (.il 4))] [] [] (.bool (.bv 2)) ⟨0, 0, 1, 0, 0, 0, 0, 0⟩ (.br (.bv 2) t_lworks_7 (.grow (.ret (.bool (.bl false)) [] [] []))))
@[reducible] def t_lworks_9 : Tree := (.callq 19 [(.str (.tl [40, 97, 41])), (.agg [(.int .u8 (.iv 0)), (.int .u8 (.iv 1)), (.int .i64 (.iv 2)), (.str (.tv 0)), (.str (.tv 1)), (.slc 0 (.nv 0) (.nv 1))])] [] [] (.bool (.bv 1)) ⟨0, 0, 1, 0, 0, 0, 0, 0⟩ (.br (.bv 1) t_lworks_8 (.grow (.ret (.bool (.bl false)) [] [] []))))
@[reducible] def t_lworks_10 : Tree := (.callq 19 [(.str (.tl [97, 32, 43, 32, 98, 32, 42, 32, 50, 32, 124, 32, 33, 99])), (.agg [(.int .u8 (.iv 21)), (.int .u8 (.iv 22)), (.int .i64 (.iv 23)), (.str (.tv 14)), (.str (.tv 15)), (.slc 7 (.nv 14) (.nv 15))])] [] [] (.bool (.bv 0)) ⟨0, 0, 1, 0, 0, 0, 0, 0⟩ (.br (.bv 0) t_lworks_9 (.grow (.ret (.bool (.bl false)) [] [] []))))
@[reducible] def t_lworks_11 : Tree := (.grow (.call 24 [(.int .u8 (.il 14)), (.agg [(.int .u8 (.iv 15)), (.int .u8 (.iv 16)), (.int .i64 (.iv 17)), (.str (.tv 10)), (.str (.tv 11)), (.slc 5 (.nv 10) (.nv 11))]), (.agg [(.int .u8 (.iv 18)), (.int .u8 (.iv 19)), (.int .i64 (.iv 20)), (.str (.tv 12)), (.str (.tv 13)), (.slc 6 (.nv 12) (.nv 13))])] [] [] [] (.agg [(.int .u8 (.iv 21)), (.int .u8 (.iv 22)), (.int .i64 (.iv 23)), (.str (.tv 14)), (.str (.tv 15)), (.slc 7 (.nv 14) (.nv 15))]) ⟨3, 2, 0, 2, 0, 1, 0, 0⟩ t_lworks_10))
@[reducible] def t_lworks_12 : Tree := (.grow (.call 25 [(.int .u8 (.il 4)), (.agg [(.int .u8 (.iv 6)), (.int .u8 (.iv 7)), (.int .i64 (.iv 8)), (.str (.tv 4)), (.str (.tv 5)), (.slc 2 (.nv 4) (.nv 5))])] [] [] [] (.agg [(.int .u8 (.iv 18)), (.int .u8 (.iv 19)), (.int .i64 (.iv 20)), (.str (.tv 12)), (.str (.tv 13)), (.slc 6 (.nv 12) (.nv 13))]) ⟨3, 2, 0, 2, 0, 1, 0, 0⟩ t_lworks_11))
@[reducible] def t_lworks_13 : Tree := (.grow (.call 24 [(.int .u8 (.il 8)), (.agg [(.int .u8 (.iv 0)), (.int .u8 (.iv 1)), (.int .i64 (.iv 2)), (.str (.tv 0)), (.str (.tv 1)), (.slc 0 (.nv 0) (.nv 1))]), (.agg [(.int .u8 (.iv 12)), (.int .u8 (.iv 13)), (.int .i64 (.iv 14)), (.str (.tv 8)), (.str (.tv 9)), (.slc 4 (.nv 8) (.nv 9))])] [] [] [] (.agg [(.int .u8 (.iv 15)), (.int .u8 (.iv 16)), (.int .i64 (.iv 17)), (.str (.tv 10)), (.str (.tv 11)), (.slc 5 (.nv 10) (.nv 11))]) ⟨3, 2, 0, 2, 0, 1, 0, 0⟩ t_lworks_12))
@[reducible] def t_lworks_14 : Tree := (.grow (.call 24 [(.int .u8 (.il 5)), (.agg [(.int .u8 (.iv 3)), (.int .u8 (.iv 4)), (.int .i64 (.iv 5)), (.str (.tv 2)), (.str (.tv 3)), (.slc 1 (.nv 2) (.nv 3))]), (.agg [(.int .u8 (.iv 9)), (.int .u8 (.iv 10)), (.int .i64 (.iv 11)), (.str (.tv 6)), (.str (.tv 7)), (.slc 3 (.nv 6) (.nv 7))])] [] [] [] (.agg [(.int .u8 (.iv 12)), (.int .u8 (.iv 13)), (.int .i64 (.iv 14)), (.str (.tv 8)), (.str (.tv 9)), (.slc 4 (.nv 8) (.nv 9))]) ⟨3, 2, 0, 2, 0, 1, 0, 0⟩ t_lworks_13))
@[reducible] def t_lworks_15 : Tree := (.new (.new (.new (.wr (.wr (.wr (.grow (.call 26 [(.int .i64 (.il 2))] [] [] [] (.agg [(.int .u8 (.iv 9)), (.int .u8 (.iv 10)), (.int .i64 (.iv 11)), (.str (.tv 6)), (.str (.tv 7)), (.slc 3 (.nv 6) (.nv 7))]) ⟨3, 2, 0, 2, 0, 1, 0, 0⟩ t_lworks_14))))))))
@[reducible] def t_lworks_16 : Tree := (.call 22 [(.str (.tl [99]))] [] [] [] (.agg [(.int .u8 (.iv 6)), (.int .u8 (.iv 7)), (.int .i64 (.iv 8)), (.str (.tv 4)), (.str (.tv 5)), (.slc 2 (.nv 4) (.nv 5))]) ⟨3, 2, 0, 2, 0, 1, 0, 0⟩ t_lworks_15)
@[reducible] def t_lworks_17 : Tree := (.call 22 [(.str (.tl [98]))] [] [] [] (.agg [(.int .u8 (.iv 3)), (.int .u8 (.iv 4)), (.int .i64 (.iv 5)), (.str (.tv 2)), (.str (.tv 3)), (.slc 1 (.nv 2) (.nv 3))]) ⟨3, 2, 0, 2, 0, 1, 0, 0⟩ t_lworks_16)
@[reducible] def t_lworks : Tree :=
(.call 22 [(.str (.tl [97]))] [] [] [] (.agg [(.int .u8 (.iv 0)), (.int .u8 (.iv 1)), (.int .i64 (.iv 2)), (.str (.tv 0)), (.str (.tv 1)), (.slc 0 (.nv 0) (.nv 1))]) ⟨3, 2, 0, 2, 0, 1, 0, 0⟩ t_lworks_17)
theorem x_lworks : xfn Tryz.prog { ex := false, inl := [], loops := [], unroll := [], mu := [], mus := [], stays := [], rowT := [], rwx := false, nilR := [], rws := [] } Tryz.f18 [] [] [] ⟨0, 0, 0, 0, 0, 0, 0, 0⟩ = some t_lworks := by kernel_rfl
theorem vc_lworks  (W : Wd) (R : Ending → World → Prop) (h : t_lworks.den Tryz.prog W.w.heap.size R [] {  } W) : CallsE Tryz.prog 18 #[] W R :=
  fn_calls Tryz.func18 _ _ {  } _ x_lworks (fun v hv => by cases hv) h

-- callboard/callboardlaw11.many
@[reducible] def t_lmany_1 : Tree := (.chk (.bin .le (.bin .add (.un .len (.tv 1)) (.un .len (.tv 0))) (.il 9223372036854775807)) (.again 0 [(.str (.bin .cat (.tv 1) (.tv 0))), (.int .i64 (.un (.wrap .i64) (.bin .add (.iv 1) (.il 1))))] []))
@[reducible] def t_lmany : Tree :=
(.loop [(.str (.tl [])), (.int .i64 (.il 0))] [] [(.str (.tv 1)), (.int .i64 (.iv 1))] [] ⟨1, 0, 0, 1, 0, 0, 0, 0⟩ (.br (.bin .lt (.iv 1) (.iv 0)) t_lmany_1 (.ret (.str (.tv 1)) [] [] [])))
theorem x_lmany : xfn Tryz.prog { ex := false, inl := [], loops := [⟨3, [.tm 5, .tm 6]⟩], unroll := [], mu := [], mus := [], stays := [], rowT := [], rwx := false, nilR := [], rws := [] } Tryz.f21 [(.int .i64 (.iv 0)), (.str (.tv 0))] [] [] ⟨1, 0, 0, 1, 0, 0, 0, 0⟩ = some t_lmany := by kernel_rfl
theorem vc_lmany (i0 : Int) (t0 : ByteArray) (W : Wd) (R : Ending → World → Prop) (h : t_lmany.den Tryz.prog W.w.heap.size R [] { I := [i0], T := [t0] } W) : CallsE Tryz.prog 21 #[.int .i64 i0, .string t0] W R :=
  fn_calls Tryz.func21 _ _ { I := [i0], T := [t0] } _ x_lmany (fun v hv => by cases hv) h

end Go.Proofs.YtckgdgkkmhochaaGreatDoor
