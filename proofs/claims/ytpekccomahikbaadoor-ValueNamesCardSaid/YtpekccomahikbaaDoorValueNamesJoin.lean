/- ValueNames: the walk, in the terms of the law's frame. -/
import Derived.Test.YtpekccomahikbaaDoorVsNames
import Derived.Test.YtpekccomahikbaaDoorKit
import Derived.Test.YtpekccomahikbaaDoorRows
import Derived.Lib.LaidTab
import Derived.Stop.LaidErr
namespace Go.Proofs.YtpekccomahikbaaDoor
open Go Go.RowKit Go.SF Go.Own
set_option linter.unusedVariables false
theorem gTab : Tryd.prog.globalNamed "internal/strconv.uint64pow10" = some 0 := by kernel_rfl
theorem tabs_of {W : World} (h : Lib.TabIs Tryd.prog W "internal/strconv.uint64pow10" .u64 Lib.pow10Tab) : Vs.Tabs (Wd.of W).all := by
  refine ⟨h, fun g hg => ?_⟩
  unfold Lib.TabIs World.var? at h
  rw [hg, Option.bind_some] at h
  show g < W.heap.size
  rcases Nat.lt_or_ge g W.heap.size with h' | h'
  · exact h'
  · rw [Array.getElem?_eq_none h'] at h; cases h
theorem table {W : World} (h : laidMetH Tryd.prog Rows.valueNamesRow.laid W) : Lib.TabIs Tryd.prog W "internal/strconv.uint64pow10" .u64 Lib.pow10Tab := by
  have h' : laidMet Tryd.prog Rows.valueNamesRow.laid W := h
  exact Lib.tabIs_of_head (rest := []) gTab (by kernel_rfl) Tryd.underlying62 Tryd.underlying55 (by kernel_rfl) (by kernel_rfl) h'.tail.tail
theorem valueNames_walk (W : World) (hL : laidMetH Tryd.prog Rows.valueNamesRow.laid W) :
    Calls Tryd.prog 4 #[] W fun e w' => e = .returned (.bool true) ∧ Up W w' :=
  (valueNames_q (Wd.of W).all (tabs_of (table hL))).out
end Go.Proofs.YtpekccomahikbaaDoor
