/- What is left to show of functions, as the walk that the kernel computes finds it (written by wip/vc2.py). -/
import Derived.Test.YtckgdgkkmhochaaGreatDoorProg
import Derived.Test.YtckgdgkkmhochaaGreatDoorSfD
namespace Go.Proofs.YtckgdgkkmhochaaGreatDoor
open Go Go.RowKit Go.SF
set_option maxRecDepth 100000

-- callboard/parse.args
@[reducible] def t_dummy_1 : Tree := (.br (.bin .ieq (.iv 0) (.il 16)) (.ret (.int .i64 (.il 1)) [] [] []) (.ret (.int .i64 (.il 2)) [] [] []))
@[reducible] def t_dummy_2 : Tree := (.br (.bin .ieq (.iv 0) (.il 3)) (.ret (.int .i64 (.il 1)) [] [] []) (.br (.bin .ieq (.iv 0) (.il 4)) (.ret (.int .i64 (.il 1)) [] [] []) t_dummy_1))
@[reducible] def t_dummy : Tree :=
(.br (.bin .ieq (.iv 0) (.il 1)) (.ret (.int .i64 (.il 0)) [] [] []) (.br (.bin .ieq (.iv 0) (.il 2)) (.ret (.int .i64 (.il 0)) [] [] []) t_dummy_2))
theorem x_dummy : xfn Tryz.prog { ex := false, inl := [], loops := [], unroll := [], mu := [], mus := [], stays := [], rowT := [], rwx := false, nilR := [], rws := [] } Tryz.f50 [(.int .u8 (.iv 0))] [] [] ⟨1, 0, 0, 0, 0, 0, 0, 0⟩ = some t_dummy := by kernel_rfl
theorem vc_dummy (i0 : Int) (W : Wd) (R : Ending → World → Prop) (h : t_dummy.den Tryz.prog W.w.heap.size R [] { I := [i0] } W) : CallsE Tryz.prog 50 #[.int .u8 i0] W R :=
  fn_calls Tryz.func50 _ _ { I := [i0] } _ x_dummy (fun v hv => by cases hv) h

end Go.Proofs.YtckgdgkkmhochaaGreatDoor
