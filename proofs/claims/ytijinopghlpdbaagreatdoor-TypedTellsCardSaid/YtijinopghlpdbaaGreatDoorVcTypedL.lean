/- What is left to show of functions, as the walk that the kernel computes finds it (written by wip/vc2.py). -/
import Derived.Test.YtijinopghlpdbaaGreatDoorProg
import Derived.Test.YtijinopghlpdbaaGreatDoorSfD
namespace Go.Proofs.YtijinopghlpdbaaGreatDoor
open Go Go.RowKit Go.SF
set_option maxRecDepth 100000

-- callboard/callboardlaw12.much
@[reducible] def t_lmuch_1 : Tree := (.again 0 [(.int .i64 (.un (.wrap .i64) (.bin .add (.iv 4) (.iv 9)))), (.int .i64 (.un (.wrap .i64) (.bin .add (.iv 5) (.il 1))))] [])
@[reducible] def t_lmuch_2 : Tree := (.br (.bin .bor (.bv 0) (.bin .lt (.il 300) (.un (.wrap .i64) (.bin .add (.iv 4) (.iv 9))))) (.ret (.tup [(.int .i64 (.il 0)), (.bool (.bl true))]) [] [] []) t_lmuch_1)
@[reducible] def t_lmuch_3 : Tree := (.call 16 [(.agg [(.int .u8 (.iv 6)), (.int .u8 (.iv 7)), (.int .i64 (.iv 8)), (.str (.tv 2)), (.str (.tv 3)), (.slc 1 (.nv 2) (.nv 3))]), (.int .i64 (.un (.wrap .i64) (.bin .add (.iv 3) (.il 1))))] [] [] [] (.tup [(.int .i64 (.iv 9)), (.bool (.bv 0))]) ⟨1, 0, 1, 0, 0, 0, 0, 0⟩ t_lmuch_2)
@[reducible] def t_lmuch_4 : Tree := (.chk (.sm 0) (.chk (.bin .le (.il 0) (.iv 5)) (.look 26 (.elt 0 (.iv 5) 6 0) (.agg [(.int .u8 (.iv 6)), (.int .u8 (.iv 7)), (.int .i64 (.iv 8)), (.str (.tv 2)), (.str (.tv 3)), (.slc 1 (.nv 2) (.nv 3))]) ⟨3, 2, 0, 2, 0, 1, 0, 0⟩ t_lmuch_3)))
@[reducible] def t_lmuch_5 : Tree := (.br (.bin .lt (.iv 5) (.nv 0)) t_lmuch_4 (.ret (.tup [(.int .i64 (.iv 4)), (.bool (.bl false))]) [] [] []))
@[reducible] def t_lmuch_6 : Tree := (.loop [(.int .i64 (.il 1)), (.int .i64 (.il 0))] [] [(.int .i64 (.iv 4)), (.int .i64 (.iv 5))] [] ⟨2, 0, 0, 0, 0, 0, 0, 0⟩ t_lmuch_5)
@[reducible] def t_lmuch : Tree :=
(.new (.br (.bin .bor (.bin .bor (.bin .lt (.il 40) (.iv 3)) (.bin .lt (.il 8) (.nv 0))) (.bin .lt (.il 500) (.un (.wrap .i64) (.bin .add (.un .len (.tv 0)) (.un .len (.tv 1)))))) (.ret (.tup [(.int .i64 (.il 0)), (.bool (.bl true))]) [] [] []) t_lmuch_6))
theorem x_lmuch : xfn Tryz.prog { ex := false, inl := [], loops := [⟨5, [.tm 6, .tm 7]⟩], unroll := [], mu := [], mus := [], stays := [], rowT := [], rwx := false, rws := [] } Tryz.f16 [(.agg [(.int .u8 (.iv 0)), (.int .u8 (.iv 1)), (.int .i64 (.iv 2)), (.str (.tv 0)), (.str (.tv 1)), (.slc 0 (.nv 0) (.nv 1))]), (.int .i64 (.iv 3))] [] [] ⟨4, 2, 0, 2, 0, 1, 0, 0⟩ = some t_lmuch := by kernel_rfl
theorem vc_lmuch (i0 i1 i2 i3 : Int) (n0 n1 : Nat) (t0 t1 : ByteArray) (a0 : Option Addr) (W : Wd) (R : Ending → World → Prop) (h : t_lmuch.den Tryz.prog W.w.heap.size R [] { I := [i0, i1, i2, i3], N := [n0, n1], T := [t0, t1], A := [a0] } W) : CallsE Tryz.prog 16 #[.agg #[.int .u8 i0, .int .u8 i1, .int .i64 i2, .string t0, .string t1, .slice a0 n0 n1], .int .i64 i3] W R :=
  fn_calls Tryz.func16 _ _ { I := [i0, i1, i2, i3], N := [n0, n1], T := [t0, t1], A := [a0] } _ x_lmuch (fun v hv => by cases hv) h

-- callboard/callboardlaw12.large
@[reducible] def t_llarge : Tree :=
(.new (.call 16 [(.agg [(.int .u8 (.iv 0)), (.int .u8 (.iv 1)), (.int .i64 (.iv 2)), (.str (.tv 0)), (.str (.tv 1)), (.slc 0 (.nv 0) (.nv 1))]), (.int .i64 (.il 0))] [] [] [] (.tup [(.int .i64 (.iv 3)), (.bool (.bv 0))]) ⟨1, 0, 1, 0, 0, 0, 0, 0⟩ (.ret (.bool (.bin .bor (.bv 0) (.bin .lt (.il 100) (.nv 2)))) [] [] [])))
theorem x_llarge : xfn Tryz.prog { ex := false, inl := [], loops := [], unroll := [], mu := [], mus := [], stays := [], rowT := [], rwx := false, rws := [] } Tryz.f6 [(.agg [(.int .u8 (.iv 0)), (.int .u8 (.iv 1)), (.int .i64 (.iv 2)), (.str (.tv 0)), (.str (.tv 1)), (.slc 0 (.nv 0) (.nv 1))]), (.slc 1 (.nv 2) (.nv 3))] [] [] ⟨3, 4, 0, 2, 0, 2, 0, 0⟩ = some t_llarge := by kernel_rfl
theorem vc_llarge (i0 i1 i2 : Int) (n0 n1 n2 n3 : Nat) (t0 t1 : ByteArray) (a0 a1 : Option Addr) (W : Wd) (R : Ending → World → Prop) (h : t_llarge.den Tryz.prog W.w.heap.size R [] { I := [i0, i1, i2], N := [n0, n1, n2, n3], T := [t0, t1], A := [a0, a1] } W) : CallsE Tryz.prog 6 #[.agg #[.int .u8 i0, .int .u8 i1, .int .i64 i2, .string t0, .string t1, .slice a0 n0 n1], .slice a1 n2 n3] W R :=
  fn_calls Tryz.func6 _ _ { I := [i0, i1, i2], N := [n0, n1, n2, n3], T := [t0, t1], A := [a0, a1] } _ x_llarge (fun v hv => by cases hv) h

-- callboard/callboardlaw12.of
@[reducible] def t_lof_1 : Tree := (.new (.call 8 [(.agg [(.int .u8 (.iv 0)), (.int .u8 (.iv 1)), (.int .i64 (.iv 2)), (.str (.tv 1)), (.str (.tv 2)), (.slc 0 (.nv 0) (.nv 1))]), (.slb 1 0 1 1)] [⟨1, 38, [(.str (.tl [97])), (.int .u8 (.il 1)), (.int .i64 (.il 5)), (.str (.tl []))]⟩] [] [] (.tup [(.int .u8 (.iv 4)), (.int .i64 (.iv 5))]) ⟨2, 0, 0, 0, 0, 0, 0, 0⟩ (.ret (.tup [(.int .u8 (.iv 4)), (.int .i64 (.iv 5))]) [] [] [])))
@[reducible] def t_lof_2 : Tree := (.new (.wr (.br (.un .not (.bin .ieq (.iv 3) (.il 0))) (.ret (.tup [(.int .u8 (.il 0)), (.int .i64 (.iv 3))]) [] [] []) t_lof_1)))
@[reducible] def t_lof : Tree :=
(.call 22 [(.str (.tv 0))] [] [] [] (.tup [(.agg [(.int .u8 (.iv 0)), (.int .u8 (.iv 1)), (.int .i64 (.iv 2)), (.str (.tv 1)), (.str (.tv 2)), (.slc 0 (.nv 0) (.nv 1))]), (.int .i64 (.iv 3))]) ⟨4, 2, 0, 2, 0, 1, 0, 0⟩ t_lof_2)
theorem x_lof : xfn Tryz.prog { ex := false, inl := [], loops := [], unroll := [], mu := [], mus := [], stays := [], rowT := [], rwx := false, rws := [] } Tryz.f17 [(.str (.tv 0))] [] [] ⟨0, 0, 0, 1, 0, 0, 0, 0⟩ = some t_lof := by kernel_rfl
theorem vc_lof (t0 : ByteArray) (W : Wd) (R : Ending → World → Prop) (h : t_lof.den Tryz.prog W.w.heap.size R [] { T := [t0] } W) : CallsE Tryz.prog 17 #[.string t0] W R :=
  fn_calls Tryz.func17 _ _ { T := [t0] } _ x_lof (fun v hv => by cases hv) h

-- callboard/callboardlaw12.awake
@[reducible] def t_lawake_1 : Tree := (.new (.call 12 [(.str (.tl [97, 32, 60, 32, 51])), (.slb 0 0 1 1), (.int .u8 (.il 1))] [⟨0, 38, [(.str (.tl [97])), (.int .u8 (.il 1)), (.int .i64 (.il 0)), (.str (.tl []))]⟩] [] [] (.int .i64 (.iv 8)) ⟨1, 0, 0, 0, 0, 0, 0, 0⟩ (.ret (.bool (.bin .ieq (.iv 8) (.il 23))) [] [] [])))
@[reducible] def t_lawake_2 : Tree := (.br (.bin .band (.bin .band (.bin .band (.bin .band (.bin .band (.bin .ieq (.iv 1) (.il 0)) (.bin .ieq (.iv 0) (.il 1))) (.bin .ieq (.iv 3) (.il 23))) (.bin .ieq (.iv 5) (.il 22))) (.bin .ieq (.iv 7) (.il 0))) (.bin .ieq (.iv 6) (.il 2))) t_lawake_1 (.ret (.bool (.bl false)) [] [] []))
@[reducible] def t_lawake_3 : Tree := (.call 17 [(.str (.tl [40, 49, 32, 60, 32, 50, 41, 32, 61, 61, 32, 121, 101, 115]))] [] [] [] (.tup [(.int .u8 (.iv 6)), (.int .i64 (.iv 7))]) ⟨2, 0, 0, 0, 0, 0, 0, 0⟩ t_lawake_2)
@[reducible] def t_lawake_4 : Tree := (.call 17 [(.str (.tl [98]))] [] [] [] (.tup [(.int .u8 (.iv 4)), (.int .i64 (.iv 5))]) ⟨2, 0, 0, 0, 0, 0, 0, 0⟩ t_lawake_3)
@[reducible] def t_lawake_5 : Tree := (.call 17 [(.str (.tl [97, 32, 43, 32, 39, 120, 39]))] [] [] [] (.tup [(.int .u8 (.iv 2)), (.int .i64 (.iv 3))]) ⟨2, 0, 0, 0, 0, 0, 0, 0⟩ t_lawake_4)
@[reducible] def t_lawake : Tree :=
(.call 17 [(.str (.tl [97, 32, 43, 32, 49]))] [] [] [] (.tup [(.int .u8 (.iv 0)), (.int .i64 (.iv 1))]) ⟨2, 0, 0, 0, 0, 0, 0, 0⟩ t_lawake_5)
theorem x_lawake : xfn Tryz.prog { ex := false, inl := [], loops := [], unroll := [], mu := [], mus := [], stays := [], rowT := [], rwx := false, rws := [] } Tryz.f7 [] [] [] ⟨0, 0, 0, 0, 0, 0, 0, 0⟩ = some t_lawake := by kernel_rfl
theorem vc_lawake  (W : Wd) (R : Ending → World → Prop) (h : t_lawake.den Tryz.prog W.w.heap.size R [] {  } W) : CallsE Tryz.prog 7 #[] W R :=
  fn_calls Tryz.func7 _ _ {  } _ x_lawake (fun v hv => by cases hv) h

end Go.Proofs.YtijinopghlpdbaaGreatDoor
