/- Parse's laws: the laid variables, in the terms of the walks. -/
import Derived.Test.YtckgdgkkmhochaaGreatDoorPxWorks
import Derived.Test.YtckgdgkkmhochaaGreatDoorFrOpen
import Derived.Test.YtckgdgkkmhochaaGreatDoorKit
import Derived.Test.YtckgdgkkmhochaaGreatDoorRows
import Derived.Lib.LaidTab
import Derived.Stop.LaidErr
namespace Go.Proofs.YtckgdgkkmhochaaGreatDoor
open Go Go.RowKit Go.SF Go.Own Go.ChangeShapes
set_option linter.unusedVariables false
set_option linter.unusedSimpArgs false
def parseLaid : List (String × DataW Unit) := Rows.parseBlanksRow.laid
theorem gSigns : Tryz.prog.globalNamed "callboard/lex.signs" = some 0 := by kernel_rfl
theorem glob_of {W : World} (h : laidMetH Tryz.prog parseLaid W) (sh : W.ShapedOpen Tryz.prog) : Glob (Wd.of W).all := by
  have h' : laidMet Tryz.prog parseLaid W := h
  have t4 := h'.tail.tail.tail.tail
  have eR := iface_of_head gR (t := 126) (by kernel_rfl) Tryz.underlying126 t4
  have eS := iface_of_head gS (t := 126) (by kernel_rfl) Tryz.underlying126 t4.tail
  have eG := strs_of_head (zs := Lx.signs) gSigns (by kernel_rfl) Tryz.underlying123 Tryz.underlying9 (by kernel_rfl) (by kernel_rfl) t4.tail.tail (by decide)
  obtain ⟨m, hm⟩ := Go.Proofs.cell_of_shapedOpen_int (g := 4) (zero := #[.int .i64 0]) (t := 3) sh (of_decide_eq_true (by kernel_rfl)) (by kernel_rfl) rfl (by kernel_rfl) (by kernel_rfl) Tryz.underlying3
  obtain ⟨ty, hty⟩ := eG
  obtain ⟨tpS, pS, hS⟩ := eS
  obtain ⟨tpR, pR, hR⟩ := eR
  exact ⟨⟨ty, hty⟩, (Array.getElem?_eq_some_iff.1 hty).1, ⟨tpS, pS, hS⟩, var_lt gS hS, ⟨tpR, pR, hR⟩, var_lt gR hR, ⟨m, hm⟩, cell_lt hm⟩
theorem gTab : Tryz.prog.globalNamed "internal/strconv.uint64pow10" = some 1 := by kernel_rfl
theorem tabs_of {W : World} (h : Lib.TabIs Tryz.prog W "internal/strconv.uint64pow10" .u64 Lib.pow10Tab) : Vs.Tabs (Wd.of W).all := by
  refine ⟨h, fun g hg => ?_⟩
  unfold Lib.TabIs World.var? at h
  rw [hg, Option.bind_some] at h
  show g < W.heap.size
  rcases Nat.lt_or_ge g W.heap.size with h' | h'
  · exact h'
  · rw [Array.getElem?_eq_none h'] at h; cases h
theorem table {W : World} (h : laidMetH Tryz.prog parseLaid W) : Lib.TabIs Tryz.prog W "internal/strconv.uint64pow10" .u64 Lib.pow10Tab := by
  have h' : laidMet Tryz.prog parseLaid W := h
  exact Lib.tabIs_of_head gTab (by kernel_rfl) Tryz.underlying170 Tryz.underlying142 (by kernel_rfl) (by kernel_rfl) h'.tail.tail
end Go.Proofs.YtckgdgkkmhochaaGreatDoor
