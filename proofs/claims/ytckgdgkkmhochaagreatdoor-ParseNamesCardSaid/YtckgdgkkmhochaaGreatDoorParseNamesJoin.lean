/- ParseNames: the walk, in the terms of the law's frame. -/
import Derived.Test.YtckgdgkkmhochaaGreatDoorParseJoin
import Derived.Test.YtckgdgkkmhochaaGreatDoorPxPnE
namespace Go.Proofs.YtckgdgkkmhochaaGreatDoor
open Go Go.RowKit Go.SF Go.Own
theorem parseNames_walk (W : World) (hL : laidMetH Tryz.prog parseLaid W) (sh : W.ShapedOpen Tryz.prog) :
    Calls Tryz.prog 8 #[] W fun e w' => e = .returned (.bool true) ∧ Up W w' :=
  (lnames_q (Wd.of W).all (glob_of hL sh) (tabs_of (table hL))).out
end Go.Proofs.YtckgdgkkmhochaaGreatDoor
