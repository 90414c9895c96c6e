/- The laws of layer 12: the laid variables, in the terms of the walks. -/
import Derived.Test.YtijinopghlpdbaaGreatDoorTyOpen
import Derived.Test.YtijinopghlpdbaaGreatDoorFrLaid
import Derived.Test.YtijinopghlpdbaaGreatDoorTyLaw
import Derived.Test.YtijinopghlpdbaaGreatDoorKit
import Derived.Test.YtijinopghlpdbaaGreatDoorRows
namespace Go.Proofs.YtijinopghlpdbaaGreatDoor
open Go Go.RowKit Go.SF Go.Own Go.ChangeShapes
set_option linter.unusedVariables false
set_option linter.unusedSimpArgs false
def typedLaid : List (String × DataW Unit) := Rows.typedNamesRow.laid
theorem gSigns : Tryz.prog.globalNamed "callboard/lex.signs" = some 2 := by kernel_rfl
theorem gSorts : Tryz.prog.globalNamed "callboard/typed.sorts" = some 0 := by kernel_rfl
theorem gArgs : Tryz.prog.globalNamed "callboard/typed.args" = some 1 := by kernel_rfl
theorem glob_of {W : World} (h : laidMetH Tryz.prog typedLaid W) (sh : W.ShapedOpen Tryz.prog) : Glob (Wd.of W).all := by
  have h' : laidMet Tryz.prog typedLaid W := h
  have t4 := h'.tail.tail.tail.tail
  have eR := iface_of_head gR (t := 126) (by kernel_rfl) Tryz.underlying126 t4
  have eS := iface_of_head gS (t := 126) (by kernel_rfl) Tryz.underlying126 t4.tail
  have eG := strs_of_head (zs := Lx.signs) gSigns (by kernel_rfl) Tryz.underlying123 Tryz.underlying9 (by kernel_rfl) (by kernel_rfl) t4.tail.tail (by decide)
  obtain ⟨m, hm⟩ := Go.Proofs.cell_of_shapedOpen_int (g := 3) (zero := #[.int .i64 0]) (t := 3) sh (of_decide_eq_true (by kernel_rfl)) (by kernel_rfl) rfl (by kernel_rfl) (by kernel_rfl) Tryz.underlying3
  obtain ⟨ty, hty⟩ := eG
  obtain ⟨tpS, pS, hS⟩ := eS
  obtain ⟨tpR, pR, hR⟩ := eR
  exact ⟨⟨ty, hty⟩, (Array.getElem?_eq_some_iff.1 hty).1, ⟨tpS, pS, hS⟩, var_lt gS hS, ⟨tpR, pR, hR⟩, var_lt gR hR, ⟨m, hm⟩, cell_lt hm⟩
instance : Inhabited (Int × Int) := ⟨(0, 0)⟩
def sortD (s : Int × Int) : DataW Unit := .agg [.lit (.int .u8 s.1), .lit (.int .u8 s.2)]
theorem sortD_agg : Rows.laid_callboard_typed_sorts = DataW.agg (Tx.sortTab.map (slD sortD)) := by kernel_rfl
set_option maxRecDepth 100000 in
theorem sort_lit {enc : TypeId × Value → Unit} {W : World} {sp : Nat → Bool} {held : Bool} (n : Nat) (cs : List Value) (x : DataW Unit × List MemPlace) (y : Int × Int) (h : DataW.trod enc Tryz.prog W 0 sp held n 64 cs = some x) (hx : x.1 = sortD y) : cs = sortC y := by
  obtain ⟨xs, n, rfl, rfl, hl, hxl, hf⟩ := DataW.trod_struct Tryz.underlying64 h
  rw [show Tryz.prog.cellsOf 64 = 2 from by kernel_rfl] at hl
  have hxl : xs.length = 2 := hxl
  match cs, hl, xs, hxl with
  | [c0, c1], _, [x0, x1], _ =>
    have h0 : DataW.trod enc Tryz.prog W 0 sp held n 5 ((([c0, c1] : List Value).drop 0).take (Tryz.prog.cellsOf 5)) = some x0 := hf 0 _ rfl
    rw [c_u8] at h0
    have h0 : DataW.trod enc Tryz.prog W 0 sp held n 5 [c0] = some x0 := h0
    have h1 : DataW.trod enc Tryz.prog W 0 sp held n 5 ((([c0, c1] : List Value).drop 1).take (Tryz.prog.cellsOf 5)) = some x1 := hf 1 _ rfl
    rw [c_u8] at h1
    have h1 : DataW.trod enc Tryz.prog W 0 sp held n 5 [c1] = some x1 := h1
    obtain ⟨a, e0, d0, _⟩ := DataW.trod_int Tryz.underlying5 h0
    obtain ⟨b, e1, d1, _⟩ := DataW.trod_int Tryz.underlying5 h1
    obtain rfl : c0 = .int .u8 a := by injection e0
    obtain rfl : c1 = .int .u8 b := by injection e1
    rw [d0, d1] at hx
    simp only [sortD, List.map_cons, List.map_nil, DataW.agg.injEq, List.cons.injEq, DataW.lit.injEq, Lit.int.injEq, true_and, and_true] at hx
    rw [hx.1, hx.2]; rfl
set_option maxRecDepth 100000 in
theorem globT_of {W : World} (h : laidMetH Tryz.prog typedLaid W) : GlobT (Wd.of W).all := by
  have h' : laidMet Tryz.prog typedLaid W := h
  have t7 := h'.tail.tail.tail.tail.tail.tail.tail
  have t7' : laidMet Tryz.prog (("callboard/typed.sorts", DataW.agg (Tx.sortTab.map (slD sortD))) :: typedLaid.tail.tail.tail.tail.tail.tail.tail.tail) W := by rw [← sortD_agg]; exact t7
  obtain ⟨ty1, h1⟩ := ints_of_head (zs := Tx.argTab) (k := .i64) gArgs (t := 67) (by kernel_rfl) Tryz.underlying67 Tryz.underlying3 (by kernel_rfl) (by kernel_rfl) t7.tail (by decide)
  refine And.elim (fun x y => (⟨⟨ty1, h1⟩, (Array.getElem?_eq_some_iff.1 h1).1, x, y⟩ : GlobT (Wd.of W).all)) ?_
  obtain ⟨ps, ⟨g', t', cs, fuel, p, q, hg', ht', hvar, hd, _, _⟩, _⟩ := id t7'
  obtain rfl := Option.some.inj (gSorts.symm.trans hg')
  obtain rfl : 62 = t' := Option.some.inj ((show (Tryz.prog.globals[0]?).map (·.type) = some 62 by kernel_rfl).symm.trans ht')
  obtain ⟨k1, k2, k3⟩ := cells_of_arr Tryz.underlying62 (by kernel_rfl) (by kernel_rfl) hd
  have sl : ∀ i, i < 17 → ∃ (s : Option Addr × Nat), cs.toList[i]? = some (.slice s.1 (Tx.sortTab.getD i []).length s.2) ∧ SlW W s.1 (Tx.sortTab.getD i []).length s.2 2 ((Tx.sortTab.getD i []).flatMap sortC) := fun i hi => by
    obtain ⟨v, x, m, hv, hx, ht⟩ := k3 i hi
    have hi' : i < Tx.sortTab.length := hi
    rw [List.getElem?_map, List.getElem?_eq_getElem hi', Option.map_some] at hx
    have hx := (Option.some.inj hx).symm
    rw [show Tx.sortTab[i] = Tx.sortTab.getD i [] from by rw [List.getD_eq_getElem?_getD, List.getElem?_eq_getElem hi']; rfl] at hx
    obtain ⟨a, c, rfl, hs⟩ := slice_lit (f := sortC) (g := sortD) (sz := 2) (fun _ => rfl) (by decide) Tryz.underlying61 (by kernel_rfl) sort_lit ht hx
    exact ⟨(a, c), hv, hs⟩
  obtain ⟨X, hX⟩ := Go.Deep.choose_lt sl
  have hlt : 0 < W.heap.size := var_lt gSorts hvar
  obtain ⟨ty, hb⟩ := laid_block gSorts t7' hvar (by rw [← Array.length_toList, k1]; decide)
  have gx : ∀ i, i < 17 → ((List.range 17).map X).getD i (none, 0) = X i := fun i hi => by
    rw [List.getD_eq_getElem?_getD, List.getElem?_map, List.getElem?_range hi]; rfl
  refine ⟨⟨(List.range 17).map X, ty, by simp, ?_, fun i hi => ?_⟩, hlt⟩
  · have e : cs = ((List.range 17).map fun i => Value.slice (((List.range 17).map X).getD i (none, 0)).1 (Tx.sortTab.getD i []).length (((List.range 17).map X).getD i (none, 0)).2).toArray := by
      apply Array.ext'
      apply List.ext_getElem?
      intro i
      by_cases hi : i < 17
      · rw [(hX i hi).1, List.getElem?_map, List.getElem?_range hi, Option.map_some, gx i hi]
      · rw [List.getElem?_eq_none (by rw [k1]; omega), List.getElem?_eq_none (by simp; omega)]
    rw [← e]; exact hb
  · rw [gx i hi]; exact (hX i hi).2.all
end Go.Proofs.YtijinopghlpdbaaGreatDoor
