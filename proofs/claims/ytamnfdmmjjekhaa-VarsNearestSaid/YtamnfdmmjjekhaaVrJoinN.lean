/- VarsNearest's walk, joined with what is handed in. -/
import Derived.Test.YtamnfdmmjjekhaaKit
import Derived.Test.YtamnfdmmjjekhaaVrFr
import Derived.Test.YtamnfdmmjjekhaaVrLNear
namespace Go.Proofs.Ytamnfdmmjjekhaa
open Go Go.RowKit Go.SF Go.Own
theorem varsNearest_walk (S : Vr.StV) (its : List Vr.It) (ce : List Vr.Ce) (sc ot : Int) (Z : Vr.Sl) (l : List Vr.Va) (nm : ByteArray) (W : World) (hS : SlW W S.i.a S.i.n S.i.c 8 (its.flatMap Vr.It.enc)) (hC : SlW W S.c.a S.c.n S.c.c 5 (ce.flatMap Vr.Ce.enc)) (hu : ∀ y ∈ its, (Lit.int .i64 y.up).wf = true) (hsc : (Lit.int .i64 sc).wf = true) (hot : (Lit.int .i64 ot).wf = true)
    (hZ : SlW W Z.a Z.n Z.c 4 (l.flatMap Vr.Va.enc)) (_ : ∀ y ∈ l, y.v.t.length ≤ maxLen) (_ : nm.size ≤ 140737488351232) :
    Calls Try.prog 3 #[S.val, .int .i64 sc, .int .i64 ot, Z.val, .string nm] W fun e w' => e = .returned (.bool true) ∧ Up W w' := by
  have h := lnear_q S its hu ce sc hsc ot hot l Z nm.data.toList (Wd.of W) hS hC hZ
  rw [ba_back] at h
  exact h.out
end Go.Proofs.Ytamnfdmmjjekhaa
