/- ParseBack: the walk, in the terms of the law's frame. -/
import Derived.Test.YtckgdgkkmhochaaGreatDoorParseJoin
import Derived.Test.YtckgdgkkmhochaaGreatDoorPxBack
import Derived.Test.YtckgdgkkmhochaaGreatDoorPxOpen
namespace Go.Proofs.YtckgdgkkmhochaaGreatDoor
open Go Go.RowKit Go.SF Go.Own
theorem parseBack_walk (vs : List Value) (x : Px.Ex) (t : ByteArray) (W : World) (hx : ExAt W (fun _ => True) x vs) (hw : Tx.wide x = true) (_ : t.size ≤ 140737488351232) (hL : laidMetH Tryz.prog parseLaid W) (sh : W.ShapedOpen Tryz.prog) :
    Calls Tryz.prog 4 #[.agg vs.toArray, .string t] W fun e w' => e = .returned (.bool true) ∧ Up W w' := by
  have h := back_q x vs t.data.toList (Wd.of W).all hw (exi_of hx) (glob_of hL sh) (tabs_of (table hL))
  rw [ba_list] at h
  exact h.out
end Go.Proofs.YtckgdgkkmhochaaGreatDoor
