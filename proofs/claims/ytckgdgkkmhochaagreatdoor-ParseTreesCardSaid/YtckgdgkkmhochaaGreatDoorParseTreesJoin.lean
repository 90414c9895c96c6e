/- ParseTrees: the walk, in the terms of the law's frame. -/
import Derived.Test.YtckgdgkkmhochaaGreatDoorParseJoin
import Derived.Test.YtckgdgkkmhochaaGreatDoorPxTrF
import Derived.Test.YtckgdgkkmhochaaGreatDoorPxOpen
namespace Go.Proofs.YtckgdgkkmhochaaGreatDoor
open Go Go.RowKit Go.SF Go.Own Go.ChangeShapes
set_option linter.unusedVariables false
def treesLaid : List (String × DataW Unit) := Rows.parseTreesRow.laid
theorem glob_trees {W : World} (h : laidMetH Tryz.prog treesLaid W) (sh : W.ShapedOpen Tryz.prog) : Glob (Wd.of W).all := by
  have h' : laidMet Tryz.prog treesLaid W := h
  have t4 := h'.tail.tail.tail
  have eR := iface_of_head gR (t := 126) (by kernel_rfl) Tryz.underlying126 t4
  have eS := iface_of_head gS (t := 126) (by kernel_rfl) Tryz.underlying126 t4.tail
  have eG := strs_of_head (zs := Lx.signs) gSigns (by kernel_rfl) Tryz.underlying123 Tryz.underlying9 (by kernel_rfl) (by kernel_rfl) t4.tail.tail (by decide)
  obtain ⟨m, hm⟩ := Go.Proofs.cell_of_shapedOpen_int (g := 4) (zero := #[.int .i64 0]) (t := 3) sh (of_decide_eq_true (by kernel_rfl)) (by kernel_rfl) rfl (by kernel_rfl) (by kernel_rfl) Tryz.underlying3
  obtain ⟨ty, hty⟩ := eG
  obtain ⟨tpS, pS, hS⟩ := eS
  obtain ⟨tpR, pR, hR⟩ := eR
  exact ⟨⟨ty, hty⟩, (Array.getElem?_eq_some_iff.1 hty).1, ⟨tpS, pS, hS⟩, var_lt gS hS, ⟨tpR, pR, hR⟩, var_lt gR hR, ⟨m, hm⟩, cell_lt hm⟩
theorem table_trees {W : World} (h : laidMetH Tryz.prog treesLaid W) : Lib.TabIs Tryz.prog W "internal/strconv.uint64pow10" .u64 Lib.pow10Tab := by
  have h' : laidMet Tryz.prog treesLaid W := h
  exact Lib.tabIs_of_head gTab (by kernel_rfl) Tryz.underlying170 Tryz.underlying142 (by kernel_rfl) (by kernel_rfl) h'.tail.tail
theorem parseTrees_walk (vs : List Value) (x : Px.Ex) (us : List Value) (y : Px.Ex) (W : World) (hx : ExAt W (fun _ => True) x vs) (hw : Tx.wide x = true) (hy : ExAt W (fun _ => True) y us) (hwy : Tx.wide y = true) (hL : laidMetH Tryz.prog treesLaid W) (sh : W.ShapedOpen Tryz.prog) :
    Calls Tryz.prog 3 #[.agg vs.toArray, .agg us.toArray] W fun e w' => e = .returned (.bool true) ∧ Up W w' :=
  (trees_q x y vs us (Wd.of W).all hw hwy (exi_of hx) (exi_of hy) (glob_trees hL sh) (tabs_of (table_trees hL))).out
end Go.Proofs.YtckgdgkkmhochaaGreatDoor
