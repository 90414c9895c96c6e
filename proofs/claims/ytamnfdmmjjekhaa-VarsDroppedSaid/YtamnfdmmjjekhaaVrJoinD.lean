/- VarsDropped's walk, joined with what is handed in. -/
import Derived.Test.YtamnfdmmjjekhaaKit
import Derived.Test.YtamnfdmmjjekhaaVrFr2
import Derived.Test.YtamnfdmmjjekhaaVrLDrop
namespace Go.Proofs.Ytamnfdmmjjekhaa
open Go Go.RowKit Go.SF Go.Own
theorem varsDropped_walk (S : Vr.StV) (its : List Vr.It) (ce : List Vr.Ce) (sc : Int) (Z : Vr.Sl) (l : List Vr.Va) (W : World) (hS : SlW W S.i.a S.i.n S.i.c 8 (its.flatMap Vr.It.enc)) (hC : SlW W S.c.a S.c.n S.c.c 5 (ce.flatMap Vr.Ce.enc)) (hu : ∀ y ∈ its, (Lit.int .i64 y.up).wf = true) (hQ : QSt (Wd.of W).all S) (hsc : (Lit.int .i64 sc).wf = true)
    (hZ : SlW W Z.a Z.n Z.c 4 (l.flatMap Vr.Va.enc)) (_ : ∀ y ∈ l, y.v.t.length ≤ maxLen) :
    Calls Try.prog 7 #[S.val, .int .i64 sc, Z.val] W fun e w' => e = .returned (.bool true) ∧ Up W w' :=
  (ldrop_q S its hu ce sc hsc l Z (Wd.of W) hS hC hZ hQ).out
end Go.Proofs.Ytamnfdmmjjekhaa
