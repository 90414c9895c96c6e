/- What is left to show of functions, as the walk that the kernel computes finds it (written by wip/vc2.py). -/
import Derived.Test.YtijinopghlpdbaaGreatDoorProg
import Derived.Test.YtijinopghlpdbaaGreatDoorSfD
namespace Go.Proofs.YtijinopghlpdbaaGreatDoor
open Go Go.RowKit Go.SF
set_option maxRecDepth 100000

-- callboard/typed.known
@[reducible] def t_dummy : Tree :=
(.br (.bin .bor (.bin .lt (.iv 0) (.il 1)) (.bin .lt (.il 3) (.iv 0))) (.ret (.tup [(.int .u8 (.il 0)), (.int .i64 (.il 23))]) [] [] []) (.ret (.tup [(.int .u8 (.iv 0)), (.int .i64 (.il 0))]) [] [] []))
theorem x_dummy : xfn Tryz.prog { ex := false, inl := [], loops := [], unroll := [], mu := [], mus := [], stays := [], rowT := [], rwx := false, rws := [] } Tryz.f31 [(.int .u8 (.iv 0))] [] [] ⟨1, 0, 0, 0, 0, 0, 0, 0⟩ = some t_dummy := by kernel_rfl
theorem vc_dummy (i0 : Int) (W : Wd) (R : Ending → World → Prop) (h : t_dummy.den Tryz.prog W.w.heap.size R [] { I := [i0] } W) : CallsE Tryz.prog 31 #[.int .u8 i0] W R :=
  fn_calls Tryz.func31 _ _ { I := [i0] } _ x_dummy (fun v hv => by cases hv) h

end Go.Proofs.YtijinopghlpdbaaGreatDoor
