/- Lex's laws: the walks, in the terms of the laws' frames. -/
import Derived.Test.YthdoemolgobonaaDoorLxBack
import Derived.Test.YthdoemolgobonaaDoorFrOpen
import Derived.Test.YthdoemolgobonaaDoorKit
import Derived.Test.YthdoemolgobonaaDoorRows
namespace Go.Proofs.YthdoemolgobonaaDoor
open Go Go.RowKit Go.SF Go.Own Go.ChangeShapes
set_option linter.unusedVariables false
set_option linter.unusedSimpArgs false
def lexLaid : List (String × DataW Unit) := Rows.lexBackRow.laid
theorem gSigns : Tryd.prog.globalNamed "callboard/lex.signs" = some 0 := by kernel_rfl
theorem glob_of {W : World} (h : laidMetH Tryd.prog lexLaid W) (sh : W.ShapedOpen Tryd.prog) : Glob (Wd.of W).all := by
  have h' : laidMet Tryd.prog lexLaid W := h
  have t4 := h'.tail.tail.tail.tail
  have eR := iface_of_head gR (t := 54) (by kernel_rfl) Tryd.underlying54 t4
  have eS := iface_of_head gS (t := 54) (by kernel_rfl) Tryd.underlying54 t4.tail
  have eG := strs_of_head (zs := Lx.signs) gSigns (by kernel_rfl) Tryd.underlying60 Tryd.underlying9 (by kernel_rfl) (by kernel_rfl) t4.tail.tail (by decide)
  obtain ⟨m, hm⟩ := Go.Proofs.cell_of_shapedOpen_int (g := 5) (zero := #[.int .i64 0]) (t := 3) sh (of_decide_eq_true (by kernel_rfl)) (by kernel_rfl) rfl (by kernel_rfl) (by kernel_rfl) Tryd.underlying3
  obtain ⟨ty, hty⟩ := eG
  obtain ⟨tpS, pS, hS⟩ := eS
  obtain ⟨tpR, pR, hR⟩ := eR
  exact ⟨⟨ty, hty⟩, (Array.getElem?_eq_some_iff.1 hty).1, ⟨tpS, pS, hS⟩, var_lt gS hS, ⟨tpR, pR, hR⟩, var_lt gR hR, ⟨m, hm⟩, cell_lt hm⟩
instance : Inhabited Lx.Tok := ⟨⟨0, []⟩⟩
section
variable {H : Type} {enc : TypeId × Value → H} {w : World} {base : Nat} {sp : Nat → Bool} {held : Bool}
set_option maxRecDepth 100000 in
theorem open_toks {v : Value} (hv : Value.okWide Tryd.prog w .any base 33 v) {d : DataW H} {ps : List MemPlace} (h : DataW.Trod enc Tryd.prog w 0 sp held 33 v d ps) :
    ∃ (a : Option Addr) (c : Nat) (l : List Lx.Tok), v = .slice a l.length c ∧ SlW w a l.length c 2 (l.flatMap tokC) := by
  refine slice_open tokC_len Tryd.underlying33 (by kernel_rfl) hv h fun n cs x hx => ?_
  obtain ⟨y0, y1, n', -, hl, h0, h1⟩ := trod_struct2 Tryd.underlying39 hx
  have hl : cs.length = 2 := hl.trans (by kernel_rfl)
  obtain ⟨k, e0, -⟩ := DataW.trod_int Tryd.underlying5 h0
  obtain ⟨s, e1, -⟩ := DataW.trod_string Tryd.underlying9 h1
  match cs, hl with
  | [c0, c1], _ =>
    have f0 : [c0] = [Value.int .u8 k] := e0
    have f1 : [c1] = [Value.string s] := e1
    clear e0 e1 h0 h1
    obtain rfl : c0 = .int .u8 k := by simpa using f0
    obtain rfl : c1 = .string s := by simpa using f1
    exact ⟨⟨k, s.data.toList⟩, by simp [tokC]⟩
end
theorem lexBack_walk (a : Option Addr) (c : Nat) (l : List Lx.Tok) (W : World) (s : SlW W a l.length c 2 (l.flatMap tokC)) (hL : laidMetH Tryd.prog lexLaid W) (sh : W.ShapedOpen Tryd.prog) :
    Calls Tryd.prog 8 #[.slice a l.length c] W fun e w' => e = .returned (.bool true) ∧ Up W w' :=
  (lexBack_q (Wd.of W).all (glob_of hL sh) a c l s).out
end Go.Proofs.YthdoemolgobonaaDoor
