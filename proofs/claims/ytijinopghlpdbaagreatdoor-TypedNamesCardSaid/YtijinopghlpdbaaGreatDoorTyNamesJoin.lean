/- TypedNames: the walk, in the terms of the law's frame. -/
import Derived.Test.YtijinopghlpdbaaGreatDoorTyJoinN
import Derived.Test.YtijinopghlpdbaaGreatDoorTyNames
namespace Go.Proofs.YtijinopghlpdbaaGreatDoor
open Go Go.RowKit Go.SF Go.Own
theorem typedNames_walk (W : World) (hL : laidMetH Tryz.prog typedLaid W) (sh : W.ShapedOpen Tryz.prog) :
    Calls Tryz.prog 4 #[] W fun e w' => e = .returned (.bool true) ∧ Up W w' :=
  (typedNames_q (Wd.of W).all (glob_of hL sh) (globT_of hL)).out
end Go.Proofs.YtijinopghlpdbaaGreatDoor
