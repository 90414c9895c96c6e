/- ValueMay: the walk, in the terms of the law's frame. -/
import Derived.Test.YtpekccomahikbaaDoorVmSe
import Derived.Test.YtpekccomahikbaaDoorKit
import Derived.Test.YtpekccomahikbaaDoorRows
import Derived.Lib.LaidTab
import Derived.Stop.LaidErr
namespace Go.Proofs.YtpekccomahikbaaDoor
open Go Go.RowKit Go.SE Go.Own
set_option linter.unusedVariables false
/-- all that there is when the call begins stays -/
def Wd.all (w : World) : Wd := ⟨w, fun b => b < w.heap.size, fun _ h => h⟩
theorem gTab : Tryd.prog.globalNamed "internal/strconv.uint64pow10" = some 0 := by kernel_rfl
theorem tabs_of {W : World} (h : Lib.TabIs Tryd.prog W "internal/strconv.uint64pow10" .u64 Lib.pow10Tab) : Tabs (Wd.all W) := by
  refine ⟨h, fun g hg => ?_⟩
  unfold Lib.TabIs World.var? at h
  rw [hg, Option.bind_some] at h
  show g < W.heap.size
  rcases Nat.lt_or_ge g W.heap.size with h' | h'
  · exact h'
  · rw [Array.getElem?_eq_none h'] at h; cases h
theorem table {W : World} (h : laidMetH Tryd.prog Rows.valueMayRow.laid W) : Lib.TabIs Tryd.prog W "internal/strconv.uint64pow10" .u64 Lib.pow10Tab := by
  have h' : laidMet Tryd.prog Rows.valueMayRow.laid W := h
  exact Lib.tabIs_of_head (rest := []) gTab (by kernel_rfl) Tryd.underlying62 Tryd.underlying55 (by kernel_rfl) (by kernel_rfl) h'.tail.tail
theorem valueMay_walk (op k n : Int) (t : ByteArray) (k' n' : Int) (t' : ByteArray) (W : World) (wo : (Lit.int .u8 op).wf = true) (wk : (Lit.int .u8 k).wf = true) (wn : (Lit.int .i64 n).wf = true) (wt : t.size ≤ maxLen) (wk' : (Lit.int .u8 k').wf = true) (wn' : (Lit.int .i64 n').wf = true) (wt' : t'.size ≤ maxLen) (hL : laidMetH Tryd.prog Rows.valueMayRow.laid W) :
    Calls Tryd.prog 5 #[.int .u8 op, .agg #[.int .u8 k, .int .i64 n, .string t], .agg #[.int .u8 k', .int .i64 n', .string t']] W fun e w' => e = .returned (.bool true) ∧ Up W w' :=
  valueMay_q op k n t k' n' t' (by simpa [Lit.wf, IntKind.min, IntKind.max, IntKind.bits, IntKind.signed] using wk) (i64_of_wf wn) (i64_of_wf wn') wt wt' (Wd.all W) (tabs_of (table hL))
end Go.Proofs.YtpekccomahikbaaDoor
