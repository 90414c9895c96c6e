/- TypedComes: the walk, in the terms of the law's frame. -/
import Derived.Test.YtijinopghlpdbaaGreatDoorTyJoinZ
import Derived.Test.YtijinopghlpdbaaGreatDoorTyComes
namespace Go.Proofs.YtijinopghlpdbaaGreatDoor
open Go Go.RowKit Go.SF Go.Own Go.ChangeShapes Go.WideShapes Go.Deep
set_option linter.unusedVariables false
set_option maxRecDepth 100000
mutual
theorem exAll {w : World} : ∀ {e : Px.Ex} {vs : List Value}, ExAt w (fun _ => True) e vs → ExAt w (fun b => b < w.heap.size) e vs
  | .mk op k n t nm args, vs, h => by
    simp only [ExAt] at h ⊢
    obtain ⟨a, c, ls, h1, h2, h3⟩ := h
    refine ⟨a, c, ls, h1, ?_, exsAll h3⟩
    obtain ⟨k1, k2, k3⟩ := h2
    refine ⟨k1, k2, k3.imp id ?_⟩
    rintro ⟨b, o, e1, _, hb, hc⟩
    exact ⟨b, o, e1, hb, hb, hc⟩
theorem exsAll {w : World} : ∀ {l : List Px.Ex} {ls : List Value}, ExsAt w (fun _ => True) l ls → ExsAt w (fun b => b < w.heap.size) l ls
  | [], ls, h => by simp only [ExsAt] at h ⊢; exact h
  | e :: l, ls, h => by
    simp only [ExsAt] at h ⊢
    obtain ⟨x, m, h1, h2, h3⟩ := h
    exact ⟨x, m, h1, exAll h2, exsAll h3⟩
end
theorem exi_of {W : World} {e : Px.Ex} {vs : List Value} (h : ExAt W (fun _ => True) e vs) : ExI (Wd.of W).all e vs := exAll h
section
variable {P : Program} {H : Type} {enc : TypeId × Value → H} {w : World} {base : Nat} {sp : Nat → Bool} {held : Bool}
/-- a slice of the caller's, element for element, with what each element weighs -/
theorem slice_open_w {α : Type} [Inhabited α] {f : α → List Value} {sz : Nat} (hf : ∀ x, (f x).length = sz) {e t : TypeId} (ht : P.underlying t = some (.slice e)) (hc : P.cellsOf e = sz)
    {v : Value} (hv : Value.okWide P w .any base t v) {d : DataW H} {ps : List MemPlace} (h : DataW.Trod enc P w 0 sp held t v d ps) {q : Nat → Bool} (hw : (d.weights P t).all q = true)
    (hD : ∀ n cs x, DataW.trod enc P w 0 sp held n e cs = some x → (x.1.weights P e).all q = true → ∃ y, cs = f y) :
    ∃ (a : Option Addr) (c : Nat) (l : List α), v = .slice a l.length c ∧ SlW w a l.length c sz (l.flatMap f) := by
  obtain ⟨m, hm⟩ := h
  rcases slice_at ht hv with rfl | ⟨b, o, n, c, rfl, hnc, hb⟩
  · exact ⟨none, 0, [], rfl, SlAt.nil _ _ _⟩
  · rcases open_slice ht hm with ⟨h0, _⟩ | ⟨a, len, cap, m', n', D, Pl, hcs, _, hl, _, hmm, hd, hx⟩
    · have h0 : [Value.slice (some ⟨b, o, none⟩) n c] = [.slice none 0 0] := h0
      simp at h0
    · have hcs : [Value.slice (some ⟨b, o, none⟩) n c] = [.slice (some a) len cap] := hcs
      simp only [List.cons.injEq, and_true] at hcs
      injection hcs with e1 e2 e3
      injection e1 with e1
      subst e1 e2 e3
      have hle : n ≤ m' := by rw [hmm]; split <;> omega
      obtain ⟨rfl, _⟩ := Prod.mk.inj hd
      simp only [DataW.weights, ht, List.all_cons, List.all_append, Bool.and_eq_true] at hw
      obtain ⟨_, zel, _⟩ := hw
      obtain ⟨X, hX⟩ := choose_lt (α := α) (p := fun i y => w.cells? 0 ((⟨b, o, none⟩ : Addr).add (i * P.cellsOf e)) (P.cellsOf e) = some (f y)) (n := n) (fun i hi => by
        obtain ⟨cs, h1, h2⟩ := hx i (by omega)
        obtain ⟨y, rfl⟩ := hD _ _ _ h2 (all_mem zel _ (List.mem_map.2 ⟨i, List.mem_range.2 hi, rfl⟩))
        exact ⟨y, h1⟩)
      have hlen : ((List.range n).map X).length = n := by simp
      refine ⟨some ⟨b, o, none⟩, c, (List.range n).map X, by rw [hlen], ?_⟩
      rw [hlen]
      refine ⟨by rw [flat_len hf, hlen], hnc, .inr ⟨b, o, rfl, trivial, hb, fun j u hu => ?_⟩⟩
      have hj : j < n * sz := by
        have := (List.getElem?_eq_some_iff.1 hu).1
        rw [flat_len hf, hlen] at this; exact this
      have hsz : 0 < sz := by rcases Nat.eq_zero_or_pos sz with h | h; · rw [h] at hj; omega
                              · exact h
      have hi : j / sz < n := (Nat.div_lt_iff_lt_mul hsz).2 hj
      have hr : j % sz < sz := Nat.mod_lt _ hsz
      have hjj : j / sz * sz + j % sz = j := by rw [Nat.mul_comm]; exact Nat.div_add_mod j sz
      have hg : ((List.range n).map X)[j / sz]? = some (X (j / sz)) := by simp [hi]
      have := flat_get hf (j % sz) hg hr
      rw [hjj, hu] at this
      obtain ⟨_, h2, h3⟩ := World.cells?_some (hX _ hi)
      have h4 := h3 (j % sz) (by rw [hc]; exact hr)
      rw [hc, add_none, add_none, Nat.add_assoc, hjj, ← this] at h4
      exact h4
def FitV (v : Tx.Var) : Prop := Va.Fit v.n ∧ v.t.length ≤ 9223372036854775807
instance : Inhabited {v : Tx.Var // FitV v} := ⟨⟨⟨[], 0, 0, []⟩, ⟨by decide, by decide⟩, by decide⟩⟩
theorem var_open_w {m : Nat} {cs : List Value} {x : DataW H × List MemPlace} (h : DataW.trod enc Tryz.prog w 0 sp true m 38 cs = some x) (hw : (x.1.weights Tryz.prog 38).all (· ≤ reachBytes) = true) : ∃ v : {v : Tx.Var // FitV v}, cs = varC v.1 := by
  obtain ⟨xs, n, rfl, rfl, hl, hxl, hf⟩ := DataW.trod_struct Tryz.underlying38 h
  rw [c_var] at hl
  have hxl : xs.length = 2 := hxl
  match cs, hl, xs, hxl with
  | [c0, c1, c2, c3], _, [x0, x1], _ =>
    have h0 : DataW.trod enc Tryz.prog w 0 sp true n 9 ((([c0, c1, c2, c3] : List Value).drop 0).take (Tryz.prog.cellsOf 9)) = some x0 := hf 0 _ rfl
    rw [c_str] at h0
    have h0 : DataW.trod enc Tryz.prog w 0 sp true n 9 [c0] = some x0 := h0
    have h1 : DataW.trod enc Tryz.prog w 0 sp true n 23 ((([c0, c1, c2, c3] : List Value).drop 1).take (Tryz.prog.cellsOf 23)) = some x1 := hf 1 _ rfl
    rw [c_val] at h1
    have h1 : DataW.trod enc Tryz.prog w 0 sp true n 23 [c1, c2, c3] = some x1 := h1
    obtain ⟨nm, e0, _, _⟩ := DataW.trod_string Tryz.underlying9 h0
    obtain ⟨k, n, t, e1, w1, z1⟩ := val_open h1
    have z2 := z1 (sized_at (j := 1) (ts := [9, 23]) (ds := [x0.1, x1.1]) (by simpa only [DataW.weights, Tryz.underlying38, List.map_cons, List.map_nil] using hw) rfl rfl)
    simp only [List.cons.injEq, and_true] at e0 e1
    obtain ⟨rfl, rfl, rfl⟩ := e1
    subst e0
    have w2 := wf_i64 w1
    simp only [reachBytes] at z2
    exact ⟨⟨⟨nm.data.toList, k, n, t.data.toList⟩, w2, by show t.data.toList.length ≤ _; rw [size_len]; omega⟩, by simp only [varC, ba_back]⟩
theorem vars_arg_fit {v : Value} (hv : Value.okWide Tryz.prog w .any base 27 v) {d : DataW H} {ps : List MemPlace} (h : DataW.Trod enc Tryz.prog w 0 sp true 27 v d ps) (hw : (d.weights Tryz.prog 27).all (· ≤ reachBytes) = true) :
    ∃ (a : Option Addr) (c : Nat) (l : List Tx.Var), v = .slice a l.length c ∧ (SlW w a l.length c 4 (l.flatMap varC) ∧ ∀ v ∈ l, FitV v) := by
  obtain ⟨a, c, l, h1, h2⟩ := slice_open_w (f := fun v : {v : Tx.Var // FitV v} => varC v.1) (fun v => varC_len v.1) Tryz.underlying27 c_var hv h hw fun n cs x hx hz => var_open_w hx hz
  refine ⟨a, c, l.map (·.1), by rw [List.length_map]; exact h1, ?_, fun v hv => ?_⟩
  · rw [List.length_map, List.flatMap_map]; exact h2
  · obtain ⟨x, _, rfl⟩ := List.mem_map.1 hv
    exact x.2
end
theorem typedComes_walk (vs : List Value) (x : Px.Ex) (a : Option Addr) (c : Nat) (l : List Tx.Var) (W : World) (hx : ExAt W (fun _ => True) x vs) (hw : Tx.wide x = true) (hV : SlW W a l.length c 4 (l.flatMap varC) ∧ ∀ v ∈ l, FitV v) (hL : laidMetH Tryz.prog typedLaid W) (sh : W.ShapedOpen Tryz.prog) :
    Calls Tryz.prog 5 #[.agg vs.toArray, .slice a l.length c] W fun e w' => e = .returned (.bool true) ∧ Up W w' :=
  (comes_q x vs l a c (Wd.of W).all hw hV.2 (exi_of hx) (SlW.all (W := Wd.of W) hV.1) (glob_of hL sh) (globT_of hL)).out
end Go.Proofs.YtijinopghlpdbaaGreatDoor
