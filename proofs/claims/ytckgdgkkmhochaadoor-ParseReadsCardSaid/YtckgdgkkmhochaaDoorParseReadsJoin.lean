/- ParseReads: the laid variables, in the terms of the walks. -/
import Derived.Test.YtckgdgkkmhochaaDoorPxX4
import Derived.Test.YtckgdgkkmhochaaDoorFrOpen
import Derived.Test.YtckgdgkkmhochaaDoorKit
import Derived.Test.YtckgdgkkmhochaaDoorRows
import Derived.Lib.LaidTab
import Derived.Stop.LaidErr
namespace Go.Proofs.YtckgdgkkmhochaaDoor
open Go Go.RowKit Go.SF Go.Own Go.ChangeShapes
set_option linter.unusedVariables false
set_option linter.unusedSimpArgs false
def parseLaid : List (String × DataW Unit) := Rows.parseReadsRow.laid
theorem gSigns : Tryd.prog.globalNamed "callboard/lex.signs" = some 0 := by kernel_rfl
theorem glob_of {W : World} (h : laidMetH Tryd.prog parseLaid W) (sh : W.ShapedOpen Tryd.prog) : Glob (Wd.of W).all := by
  have h' : laidMet Tryd.prog parseLaid W := h
  have t4 := h'.tail.tail.tail.tail
  have eR := iface_of_head gR (t := 79) (by kernel_rfl) Tryd.underlying79 t4
  have eS := iface_of_head gS (t := 79) (by kernel_rfl) Tryd.underlying79 t4.tail
  have eG := strs_of_head (zs := Lx.signs) gSigns (by kernel_rfl) Tryd.underlying76 Tryd.underlying9 (by kernel_rfl) (by kernel_rfl) t4.tail.tail (by decide)
  obtain ⟨m, hm⟩ := Go.Proofs.cell_of_shapedOpen_int (g := 3) (zero := #[.int .i64 0]) (t := 3) sh (of_decide_eq_true (by kernel_rfl)) (by kernel_rfl) rfl (by kernel_rfl) (by kernel_rfl) Tryd.underlying3
  obtain ⟨ty, hty⟩ := eG
  obtain ⟨tpS, pS, hS⟩ := eS
  obtain ⟨tpR, pR, hR⟩ := eR
  exact ⟨⟨ty, hty⟩, (Array.getElem?_eq_some_iff.1 hty).1, ⟨tpS, pS, hS⟩, var_lt gS hS, ⟨tpR, pR, hR⟩, var_lt gR hR, ⟨m, hm⟩, cell_lt hm⟩
theorem parseReads_walk (t : ByteArray) (W : World) (ht : t.size ≤ 140737488351232) (hL : laidMetH Tryd.prog parseLaid W) (sh : W.ShapedOpen Tryd.prog) :
    Calls Tryd.prog 3 #[.string t] W fun e w' => e = .returned (.bool true) ∧ Up W w' :=
  (reads_q t (Wd.of W).all (glob_of hL sh)).out
end Go.Proofs.YtckgdgkkmhochaaDoor
