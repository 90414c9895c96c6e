/- LexAll: the walk, in the terms of the law's frame. -/
import Derived.Test.YthdoemolgobonaaDoorLexJoin
import Derived.Test.YthdoemolgobonaaDoorLxAll
namespace Go.Proofs.YthdoemolgobonaaDoor
open Go Go.RowKit Go.SF Go.Own
theorem lexAll_walk (t : ByteArray) (W : World) (_ : t.size ≤ 140737488351232) (hL : laidMetH Tryd.prog lexLaid W) (sh : W.ShapedOpen Tryd.prog) :
    Calls Tryd.prog 5 #[.string t] W fun e w' => e = .returned (.bool true) ∧ Up W w' :=
  (lexAll_q t (Wd.of W).all (glob_of hL sh)).out
end Go.Proofs.YthdoemolgobonaaDoor
