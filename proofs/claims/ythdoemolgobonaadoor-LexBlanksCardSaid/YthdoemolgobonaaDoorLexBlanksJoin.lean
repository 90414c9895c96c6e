/- LexBlanks: the walk, in the terms of the law's frame. -/
import Derived.Test.YthdoemolgobonaaDoorLexJoin
import Derived.Test.YthdoemolgobonaaDoorLxBlanks
namespace Go.Proofs.YthdoemolgobonaaDoor
open Go Go.RowKit Go.SF Go.Own Go.ChangeShapes
set_option linter.unusedVariables false
section
variable {H : Type} {enc : TypeId × Value → H} {w : World} {base : Nat} {sp : Nat → Bool} {held : Bool}
set_option maxRecDepth 100000 in
theorem open_intl {v : Value} (hv : Value.okWide Tryd.prog w .any base 22 v) {d : DataW H} {ps : List MemPlace} (h : DataW.Trod enc Tryd.prog w 0 sp held 22 v d ps) :
    ∃ (a : Option Addr) (c : Nat) (l : List Int), v = .slice a l.length c ∧ SlW w a l.length c 1 (l.flatMap intC) := by
  refine slice_open intC_len Tryd.underlying22 (by kernel_rfl) hv h fun n cs x hx => ?_
  obtain ⟨k, e0, -⟩ := DataW.trod_int Tryd.underlying3 hx
  exact ⟨k, e0⟩
end
theorem lexBlanks_walk (t : ByteArray) (a : Option Addr) (c : Nat) (l : List Int) (W : World) (_ : t.size ≤ 140737488351232) (s : SlW W a l.length c 1 (l.flatMap intC)) (hL : laidMetH Tryd.prog lexLaid W) (sh : W.ShapedOpen Tryd.prog) :
    Calls Tryd.prog 3 #[.string t, .slice a l.length c] W fun e w' => e = .returned (.bool true) ∧ Up W w' :=
  (lexBlanks_q t a c l (Wd.of W).all (glob_of hL sh) s).out
end Go.Proofs.YthdoemolgobonaaDoor
