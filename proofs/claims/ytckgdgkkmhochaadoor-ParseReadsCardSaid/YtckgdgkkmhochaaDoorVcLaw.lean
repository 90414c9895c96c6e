/- What is left to show of functions, as the walk that the kernel computes finds it (written by wip/vc2.py). -/
import Derived.Test.YtckgdgkkmhochaaDoorProg
import Derived.Test.YtckgdgkkmhochaaDoorSfD
namespace Go.Proofs.YtckgdgkkmhochaaDoor
open Go Go.RowKit Go.SF
set_option maxRecDepth 100000

-- callboard/parse.depth
@[reducible] def t_dummy_1 : Tree := (.frz [⟨1, 26, [(.int .u8 (.iv 5)), (.int .u8 (.iv 6)), (.int .i64 (.iv 7)), (.str (.tv 2)), (.str (.tv 3)), (.slc 1 (.nv 2) (.nv 3))]⟩] (.again 0 [(.int .i64 (.bin .max (.iv 3) (.iv 8))), (.int .i64 (.un (.wrap .i64) (.bin .add (.iv 4) (.il 1))))] []))
@[reducible] def t_dummy_2 : Tree := (.new (.wr (.call 9 [(.agg [(.int .u8 (.iv 5)), (.int .u8 (.iv 6)), (.int .i64 (.iv 7)), (.str (.tv 2)), (.str (.tv 3)), (.slc 1 (.nv 2) (.nv 3))])] [] [] [] (.int .i64 (.iv 8)) ⟨1, 0, 0, 0, 0, 0, 0, 0⟩ t_dummy_1)))
@[reducible] def t_dummy_3 : Tree := (.chk (.sm 0) (.chk (.bin .le (.il 0) (.iv 4)) (.look 26 (.elt 0 (.iv 4) 6 0) (.agg [(.int .u8 (.iv 5)), (.int .u8 (.iv 6)), (.int .i64 (.iv 7)), (.str (.tv 2)), (.str (.tv 3)), (.slc 1 (.nv 2) (.nv 3))]) ⟨3, 2, 0, 2, 0, 1, 0, 0⟩ t_dummy_2)))
@[reducible] def t_dummy_4 : Tree := (.br (.bin .lt (.iv 4) (.nv 0)) t_dummy_3 (.ret (.int .i64 (.un (.wrap .i64) (.bin .add (.iv 3) (.il 1)))) [] [] []))
@[reducible] def t_dummy : Tree :=
(.new (.loop [(.int .i64 (.il 0)), (.int .i64 (.il 0))] [] [(.int .i64 (.iv 3)), (.int .i64 (.iv 4))] [] ⟨2, 0, 0, 0, 0, 0, 0, 0⟩ t_dummy_4))
theorem x_dummy : xfn Tryd.prog { ex := false, inl := [], loops := [⟨3, [.tm 3, .tm 9]⟩], unroll := [], mu := [], mus := [], stays := [], rowT := [], rwx := false, rws := [] } Tryd.f9 [(.agg [(.int .u8 (.iv 0)), (.int .u8 (.iv 1)), (.int .i64 (.iv 2)), (.str (.tv 0)), (.str (.tv 1)), (.slc 0 (.nv 0) (.nv 1))])] [] [] ⟨3, 2, 0, 2, 0, 1, 0, 0⟩ = some t_dummy := by kernel_rfl
theorem vc_dummy (i0 i1 i2 : Int) (n0 n1 : Nat) (t0 t1 : ByteArray) (a0 : Option Addr) (W : Wd) (R : Ending → World → Prop) (h : t_dummy.den Tryd.prog W.w.heap.size R [] { I := [i0, i1, i2], N := [n0, n1], T := [t0, t1], A := [a0] } W) : CallsE Tryd.prog 9 #[.agg #[.int .u8 i0, .int .u8 i1, .int .i64 i2, .string t0, .string t1, .slice a0 n0 n1]] W R :=
  fn_calls Tryd.func9 _ _ { I := [i0, i1, i2], N := [n0, n1], T := [t0, t1], A := [a0] } _ x_dummy (fun v hv => by cases hv) h

end Go.Proofs.YtckgdgkkmhochaaDoor
