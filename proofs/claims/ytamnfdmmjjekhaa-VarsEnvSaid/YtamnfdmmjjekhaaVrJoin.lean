/- The statements' walks, joined with what is handed in. -/
import Derived.Test.YtamnfdmmjjekhaaKit
import Derived.Test.YtamnfdmmjjekhaaVrFr
import Derived.Test.YtamnfdmmjjekhaaVrLEnv
namespace Go.Proofs.Ytamnfdmmjjekhaa
open Go Go.RowKit Go.SF Go.Own
theorem varsEnv_walk (S : Vr.StV) (its : List Vr.It) (ce : List Vr.Ce) (sc : Int) (nm : ByteArray) (W : World) (hS : SlW W S.i.a S.i.n S.i.c 8 (its.flatMap Vr.It.enc)) (hC : SlW W S.c.a S.c.n S.c.c 5 (ce.flatMap Vr.Ce.enc)) (hu : ∀ y ∈ its, (Lit.int .i64 y.up).wf = true) (hsc : (Lit.int .i64 sc).wf = true) (_ : nm.size ≤ 140737488351232) :
    Calls Try.prog 6 #[S.val, .int .i64 sc, .string nm] W fun e w' => e = .returned (.bool true) ∧ Up W w' := by
  have h := lenv_q S its hu ce sc hsc nm.data.toList (Wd.of W) hS hC
  rw [ba_back] at h
  exact h.out
end Go.Proofs.Ytamnfdmmjjekhaa
