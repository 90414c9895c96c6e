/- LexNames: the walk, in the terms of the law's frame. -/
import Derived.Test.YthdoemolgobonaaDoorLexJoin
import Derived.Test.YthdoemolgobonaaDoorLxNames
namespace Go.Proofs.YthdoemolgobonaaDoor
open Go Go.RowKit Go.SF Go.Own
theorem lexNames_walk (W : World) (hL : laidMetH Tryd.prog lexLaid W) (sh : W.ShapedOpen Tryd.prog) :
    Calls Tryd.prog 7 #[] W fun e w' => e = .returned (.bool true) ∧ Up W w' :=
  (lexNames_q (Wd.of W).all (glob_of hL sh)).out
end Go.Proofs.YthdoemolgobonaaDoor
