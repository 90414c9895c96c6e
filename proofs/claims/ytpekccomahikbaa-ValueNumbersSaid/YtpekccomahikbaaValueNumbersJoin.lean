/- ValueNumbers: the walk, in the terms of the law's frame. -/
import Derived.Test.YtpekccomahikbaaVnSe
import Derived.Test.YtpekccomahikbaaKit
namespace Go.Proofs.Ytpekccomahikbaa
open Go Go.RowKit Go.SE Go.Own
theorem valueNumbers_walk (n m : Int) (w : World) (wn : (Lit.int .i64 n).wf = true) (wm : (Lit.int .i64 m).wf = true) :
    Calls Try.prog 4 #[.int .i64 n, .int .i64 m] w fun e w' => e = .returned (.bool true) ∧ Up w w' :=
  valueNumbers_q n m (i64_of_wf wn) (i64_of_wf wm) (Wd.of w)
end Go.Proofs.Ytpekccomahikbaa
