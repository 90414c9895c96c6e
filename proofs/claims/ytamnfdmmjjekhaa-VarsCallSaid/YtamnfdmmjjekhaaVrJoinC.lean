/- VarsCall's walk, joined with what is handed in. -/
import Derived.Test.YtamnfdmmjjekhaaKit
import Derived.Test.YtamnfdmmjjekhaaVrFr
import Derived.Test.YtamnfdmmjjekhaaVrLCall
namespace Go.Proofs.Ytamnfdmmjjekhaa
open Go Go.RowKit Go.SF Go.Own
theorem varsCall_walk (S : Vr.StV) (its : List Vr.It) (ce : List Vr.Ce) (sc : Int) (Z : Vr.Sl) (l : List Vr.Va) (W : World) (hS : SlW W S.i.a S.i.n S.i.c 8 (its.flatMap Vr.It.enc)) (hC : SlW W S.c.a S.c.n S.c.c 5 (ce.flatMap Vr.Ce.enc)) (hu : ∀ y ∈ its, (Lit.int .i64 y.up).wf = true) (hsc : (Lit.int .i64 sc).wf = true)
    (hZ : SlW W Z.a Z.n Z.c 4 (l.flatMap Vr.Va.enc)) (hl : ∀ y ∈ l, y.v.t.length ≤ maxLen) :
    Calls Try.prog 5 #[S.val, .int .i64 sc, Z.val] W fun e w' => e = .returned (.bool true) ∧ Up W w' :=
  (lcall_q S its hu ce sc hsc l (fun y hy => Nat.le_trans (hl y hy) (by simp [maxLen])) Z (Wd.of W) hS hC hZ).out
end Go.Proofs.Ytamnfdmmjjekhaa
