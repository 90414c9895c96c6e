/- VarsPut's walk, joined with what is handed in. -/
import Derived.Test.YtamnfdmmjjekhaaKit
import Derived.Test.YtamnfdmmjjekhaaVrFr2
import Derived.Test.YtamnfdmmjjekhaaVrLPut
namespace Go.Proofs.Ytamnfdmmjjekhaa
open Go Go.RowKit Go.SF Go.Own
theorem varsPut_walk (S : Vr.StV) (its : List Vr.It) (ce : List Vr.Ce) (sc ot : Int) (nm : ByteArray) (k n : Int) (t : ByteArray) (W : World) (hS : SlW W S.i.a S.i.n S.i.c 8 (its.flatMap Vr.It.enc)) (hC : SlW W S.c.a S.c.n S.c.c 5 (ce.flatMap Vr.Ce.enc)) (hu : ∀ y ∈ its, (Lit.int .i64 y.up).wf = true) (hQ : QSt (Wd.of W).all S) (hsc : (Lit.int .i64 sc).wf = true) (hot : (Lit.int .i64 ot).wf = true)
    (_ : nm.size ≤ 140737488351232) (_ : (Lit.int .u8 k).wf = true) (_ : (Lit.int .i64 n).wf = true) (ht : t.size ≤ maxLen) :
    Calls Try.prog 4 #[S.val, .int .i64 sc, .int .i64 ot, .string nm, .agg #[.int .u8 k, .int .i64 n, .string t]] W fun e w' => e = .returned (.bool true) ∧ Up W w' := by
  have h := lput_q S its hu ce sc hsc ot hot nm.data.toList ⟨k, n, t.data.toList⟩ (by rw [Array.length_toList]; exact Nat.le_trans ht (by simp [maxLen])) (Wd.of W) hS hC hQ
  simp only [ba_back] at h
  exact h.out
end Go.Proofs.Ytamnfdmmjjekhaa
