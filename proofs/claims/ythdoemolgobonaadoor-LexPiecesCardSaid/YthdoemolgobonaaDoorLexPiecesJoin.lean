/- LexPieces: the walk, in the terms of the law's frame. -/
import Derived.Test.YthdoemolgobonaaDoorLexJoin
import Derived.Test.YthdoemolgobonaaDoorLxPieces
namespace Go.Proofs.YthdoemolgobonaaDoor
open Go Go.RowKit Go.SF Go.Own
theorem lexPieces_walk (s t : ByteArray) (W : World) (hs : s.size ≤ 140737488351232) (ht : t.size ≤ 140737488351232) (hL : laidMetH Tryd.prog lexLaid W) (sh : W.ShapedOpen Tryd.prog) :
    Calls Tryd.prog 4 #[.string s, .string t] W fun e w' => e = .returned (.bool true) ∧ Up W w' :=
  (lexPieces_q s t hs ht (Wd.of W).all (glob_of hL sh)).out
end Go.Proofs.YthdoemolgobonaaDoor
