/- ParseParts: the walk, in the terms of the law's frame. -/
import Derived.Test.YtckgdgkkmhochaaGreatDoorParseJoin
import Derived.Test.YtckgdgkkmhochaaGreatDoorPxParts
import Derived.Test.YtckgdgkkmhochaaGreatDoorPxOpen
namespace Go.Proofs.YtckgdgkkmhochaaGreatDoor
open Go Go.RowKit Go.SF Go.Own
theorem parseParts_walk (vs : List Value) (x : Px.Ex) (W : World) (hx : ExAt W (fun _ => True) x vs) (hw : Tx.wide x = true) (hL : laidMetH Tryz.prog parseLaid W) (sh : W.ShapedOpen Tryz.prog) :
    Calls Tryz.prog 7 #[.agg vs.toArray] W fun e w' => e = .returned (.bool true) ∧ Up W w' :=
  (parts_q x vs (Wd.of W).all hw (exi_of hx) (glob_of hL sh) (tabs_of (table hL))).out
end Go.Proofs.YtckgdgkkmhochaaGreatDoor
