/- ParseBinds: the walk, in the terms of the law's frame. -/
import Derived.Test.YtckgdgkkmhochaaGreatDoorParseJoin
import Derived.Test.YtckgdgkkmhochaaGreatDoorPxBinds
namespace Go.Proofs.YtckgdgkkmhochaaGreatDoor
open Go Go.RowKit Go.SF Go.Own
theorem parseBinds_walk (p q : Int) (W : World) (_ : (Lit.int .i64 p).wf = true) (_ : (Lit.int .i64 q).wf = true) (hL : laidMetH Tryz.prog parseLaid W) (sh : W.ShapedOpen Tryz.prog) :
    Calls Tryz.prog 6 #[.int .i64 p, .int .i64 q] W fun e w' => e = .returned (.bool true) ∧ Up W w' :=
  (binds_q p q (Wd.of W).all (glob_of hL sh) (tabs_of (table hL))).out
end Go.Proofs.YtckgdgkkmhochaaGreatDoor
