/- TypedParts, TypedTurned, TypedVars: the walks, in the terms of the laws' frames. -/
import Derived.Test.YtijinopghlpdbaaDoorTyJoin
import Derived.Test.YtijinopghlpdbaaDoorTyVars
namespace Go.Proofs.YtijinopghlpdbaaDoor
open Go Go.RowKit Go.SF Go.Own
mutual
theorem exAll {w : World} : ∀ {e : Px.Ex} {vs : List Value}, ExAt w (fun _ => True) e vs → ExAt w (fun b => b < w.heap.size) e vs
  | .mk op k n t nm args, vs, h => by
    simp only [ExAt] at h ⊢
    obtain ⟨a, c, ls, h1, h2, h3⟩ := h
    refine ⟨a, c, ls, h1, ?_, exsAll h3⟩
    obtain ⟨k1, k2, k3⟩ := h2
    refine ⟨k1, k2, k3.imp id ?_⟩
    rintro ⟨b, o, e1, _, hb, hc⟩
    exact ⟨b, o, e1, hb, hb, hc⟩
theorem exsAll {w : World} : ∀ {l : List Px.Ex} {ls : List Value}, ExsAt w (fun _ => True) l ls → ExsAt w (fun b => b < w.heap.size) l ls
  | [], ls, h => by simp only [ExsAt] at h ⊢; exact h
  | e :: l, ls, h => by
    simp only [ExsAt] at h ⊢
    obtain ⟨x, m, h1, h2, h3⟩ := h
    exact ⟨x, m, h1, exAll h2, exsAll h3⟩
end
theorem exi_of {W : World} {e : Px.Ex} {vs : List Value} (h : ExAt W (fun _ => True) e vs) : ExI (Wd.of W).all e vs := exAll h
theorem typedParts_walk (vs : List Value) (x : Px.Ex) (a : Option Addr) (c : Nat) (l : List Tx.Var) (W : World) (hx : ExAt W (fun _ => True) x vs) (hw : Tx.wide x = true) (hV : SlW W a l.length c 4 (l.flatMap varC)) (hL : laidMetH Tryd.prog typedLaid W) (sh : W.ShapedOpen Tryd.prog) :
    Calls Tryd.prog 4 #[.agg vs.toArray, .slice a l.length c] W fun e w' => e = .returned (.bool true) ∧ Up W w' :=
  (parts_q (Px.deep x) x vs l a c (Wd.of W).all (Nat.le_refl _) hw (exi_of hx) (SlW.all (W := Wd.of W) hV) (glob_of hL sh) (globT_of hL)).out
theorem typedTurned_walk (vs : List Value) (x : Px.Ex) (us : List Value) (y : Px.Ex) (a : Option Addr) (c : Nat) (l : List Tx.Var) (which : Int) (W : World) (hx : ExAt W (fun _ => True) x vs) (hw : Tx.wide x = true) (hy : ExAt W (fun _ => True) y us) (hwy : Tx.wide y = true) (hV : SlW W a l.length c 4 (l.flatMap varC))
    (wf : (Lit.int .u8 which).wf = true) (hL : laidMetH Tryd.prog typedLaid W) (sh : W.ShapedOpen Tryd.prog) :
    Calls Tryd.prog 5 #[.agg vs.toArray, .agg us.toArray, .slice a l.length c, .int .u8 which] W fun e w' => e = .returned (.bool true) ∧ Up W w' :=
  (turned_q x y vs us l a c which (Wd.of W).all (bounds_u8 wf).1 hw hwy (exi_of hx) (exi_of hy) (SlW.all (W := Wd.of W) hV) (glob_of hL sh) (globT_of hL)).out
theorem typedVars_walk (vs : List Value) (x : Px.Ex) (a : Option Addr) (c : Nat) (l : List Tx.Var) (m : Tx.Var) (W : World) (hx : ExAt W (fun _ => True) x vs) (hw : Tx.wide x = true) (hV : SlW W a l.length c 4 (l.flatMap varC)) (hL : laidMetH Tryd.prog typedLaid W) (sh : W.ShapedOpen Tryd.prog) :
    Calls Tryd.prog 3 #[.agg vs.toArray, .slice a l.length c, .agg (varC m).toArray] W fun e w' => e = .returned (.bool true) ∧ Up W w' :=
  (vars_q x vs l a c m (Wd.of W).all hw (exi_of hx) (SlW.all (W := Wd.of W) hV) (glob_of hL sh) (globT_of hL)).out
end Go.Proofs.YtijinopghlpdbaaDoor
