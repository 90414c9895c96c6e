/- LexTells: the walk, in the terms of the law's frame. -/
import Derived.Test.YthdoemolgobonaaDoorLexJoin
import Derived.Test.YthdoemolgobonaaDoorLxTells
namespace Go.Proofs.YthdoemolgobonaaDoor
open Go Go.RowKit Go.SF Go.Own
theorem lexTells_walk (t : ByteArray) (a : Option Addr) (c : Nat) (l : List Lx.Tok) (W : World) (_ : t.size ≤ 140737488351232) (s : SlW W a l.length c 2 (l.flatMap tokC)) (hL : laidMetH Tryd.prog lexLaid W) (sh : W.ShapedOpen Tryd.prog) :
    Calls Tryd.prog 6 #[.string t, .slice a l.length c] W fun e w' => e = .returned (.bool true) ∧ Up W w' :=
  (lexTells_q t a c l (Wd.of W).all (glob_of hL sh) s).out
end Go.Proofs.YthdoemolgobonaaDoor
