/- Frames of statements: laid tables of numbers, of slices. -/
import Derived.Test.YtijinopghlpdbaaGreatDoorFrOpen
namespace Go.Proofs.YtijinopghlpdbaaGreatDoor
open Go Go.RowKit Go.SF Go.ChangeShapes Go.WideShapes Go.Deep
set_option linter.unusedSimpArgs false
set_option linter.unusedVariables false
section
variable {H : Type} {enc : TypeId × Value → H} {P : Program} {w : World} {base : Nat} {sp : Nat → Bool} {held : Bool}
/-- an array whose elements take one cell each, read element for element -/
theorem cells_of_arr {fuel : Nat} {t e : TypeId} {n : Nat} {cs : List Value} {ds : List (DataW H)} {p : List MemPlace}
    (ht : P.underlying t = some (.array n e)) (hce : P.cellsOf e = 1) (hct : P.cellsOf t = n)
    (h : DataW.trod enc P w base sp held fuel t cs = some (.agg ds, p)) : cs.length = n ∧ ds.length = n ∧ ∀ i, i < n → ∃ v x m, cs[i]? = some v ∧ ds[i]? = some x.1 ∧ DataW.trod enc P w base sp held m e [v] = some x := by
  cases fuel with
  | zero => simp [DataW.trod] at h
  | succ fuel =>
    simp only [DataW.trod, ht, hce, hct, Nat.mul_one] at h
    split at h
    · rename_i hl
      obtain ⟨xs, hm, hx⟩ := Option.map_eq_some_iff.1 h
      have hxs : xs.map (·.1) = ds := by
        have := congrArg Prod.fst hx
        simpa using this
      have hxl : xs.length = n := by simpa using Lib.mapM_length hm
      refine ⟨hl, by rw [← hxs]; simp [hxl], fun i hi => ?_⟩
      obtain ⟨b, hb, hf⟩ := Lib.mapM_at hm i i (by simp [hi])
      have hv : cs[i]? = some cs[i] := List.getElem?_eq_getElem (by omega)
      refine ⟨cs[i], b, fuel, hv, by rw [← hxs, List.getElem?_map, hb]; rfl, ?_⟩
      have h1 : (cs.drop i).take 1 = [cs[i]] := by rw [List.drop_eq_getElem_cons (by omega)]; rfl
      rw [h1] at hf
      exact hf
    · cases h
theorem cells_of_ints {fuel : Nat} {t e : TypeId} {n : Nat} {k : IntKind} {cs : List Value} {zs : List Int} {p : List MemPlace}
    (ht : P.underlying t = some (.array n e)) (he : P.underlying e = some (.int k)) (hce : P.cellsOf e = 1) (hct : P.cellsOf t = n)
    (h : DataW.trod enc P w base sp held fuel t cs = some (.agg (zs.map fun z => .lit (.int k z)), p)) : cs = zs.map fun z => Value.int k z := by
  obtain ⟨h1, h2, h3⟩ := cells_of_arr ht hce hct h
  apply List.ext_getElem?
  intro i
  simp only [List.length_map] at h2
  by_cases hi : i < n
  · obtain ⟨v, x, m, hv, hd, hx⟩ := h3 i hi
    obtain ⟨z, e1, rfl, _⟩ := DataW.trod_int he hx
    obtain rfl : v = .int k z := by simpa using e1
    rw [hv]
    rw [List.getElem?_map, Option.map_eq_some_iff] at hd
    obtain ⟨z', hz', e2⟩ := hd
    simp only [DataW.lit.injEq, Lit.int.injEq, true_and] at e2
    subst e2
    simp [hz']
  · rw [List.getElem?_eq_none (by omega), List.getElem?_eq_none (by simp; omega)]
/-- a laid array of numbers: the block -/
theorem ints_of_head {W : World} {name : String} {k : IntKind} {zs : List Int} {rest : List (String × DataW Unit)} {g : Nat} {t e : TypeId} {n : Nat}
    (hg : P.globalNamed name = some g) (hty : (P.globals[g]?).map (·.type) = some t) (ht : P.underlying t = some (.array n e)) (he : P.underlying e = some (.int k)) (hce : P.cellsOf e = 1) (hct : P.cellsOf t = n)
    (h : laidMet P ((name, .agg (zs.map fun z => .lit (.int k z))) :: rest) W) (h0 : 0 < zs.length) : ∃ ty, W.heap[g]? = some (.cells (zs.map fun z => Value.int k z).toArray ty) := by
  have hv : W.var? P name = some (zs.map fun z => Value.int k z).toArray := by
    obtain ⟨ps, ⟨g', t', cs, fuel, p, q, hg', ht', hvar, hd, _, _⟩, _⟩ := id h
    obtain rfl := Option.some.inj (hg.symm.trans hg')
    obtain rfl := Option.some.inj (hty.symm.trans ht')
    rw [hvar, ← cells_of_ints ht he hce hct hd]
  exact laid_block hg h hv (by simpa using h0)
theorem cell_spot' {a : Addr} {v : Value} (h : w.cell? a = some v) : a = ⟨a.block, a.off, none⟩ ∧ a.block < w.heap.size := by
  unfold World.cell? at h
  split at h
  · rename_i c t fr hb
    split at h
    · cases h
    · rename_i hs
      obtain ⟨b, o, s⟩ := a
      cases s with
      | none => exact ⟨rfl, (Array.getElem?_eq_some_iff.1 hb).1⟩
      | some _ => simp at hs
  · cases h
/-- a datum of a slice -/
def slD {α : Type} (g : α → DataW H) : List α → DataW H
  | [] => .nil
  | x :: l => .slice ((x :: l).map g) []
theorem slice_lit {α : Type} [Inhabited α] {f : α → List Value} {g : α → DataW H} {sz : Nat} (hf : ∀ x, (f x).length = sz) (hz : 0 < sz) {e t : TypeId} (ht : P.underlying t = some (.slice e)) (hc : P.cellsOf e = sz)
    (hD : ∀ n cs x y, DataW.trod enc P w 0 sp held n e cs = some x → x.1 = g y → cs = f y) {m : Nat} {v : Value} {l : List α} {x : DataW H × List MemPlace}
    (h : DataW.trod enc P w 0 sp held m t [v] = some x) (hx : x.1 = slD g l) : ∃ (a : Option Addr) (c : Nat), v = .slice a l.length c ∧ SlW w a l.length c sz (l.flatMap f) := by
  rcases DataW.trod_slice ht h with ⟨e5, rfl⟩ | ⟨a, len, cap, elems, rest, n', hn', e5, d5, _, hlc, _, hel, hxs, hrest, _⟩
  · have e5 : v = .slice none 0 0 := by injection e5
    subst e5
    cases l with
    | nil => exact ⟨none, 0, rfl, SlAt.nil _ _ _⟩
    | cons y l => cases hx
  · have e5 : v = .slice (some a) len cap := by injection e5
    subst e5
    rw [d5] at hx
    cases l with
    | nil => cases hx
    | cons y l =>
      have hm : elems.map (·.1) = (y :: l).map g := by
        simp only [slD, DataW.slice.injEq] at hx
        exact hx.1
      generalize hL : (y :: l) = L at *
      have hlen : len = L.length := by
        have := congrArg List.length hm
        simp only [List.length_map] at this
        omega
      subst hlen
      rw [hc] at hxs
      have cell : ∀ i, i < L.length → ∃ z, L[i]? = some z ∧ ∀ j, j < sz → w.cell? (a.add (i * sz + j)) = (f z)[j]? := fun i hi => by
        have h4 := hxs i hi
        have h5 : i < elems.length := by omega
        rw [List.getElem?_eq_getElem h5] at h4
        obtain ⟨cs', h6, h7⟩ := Option.bind_eq_some_iff.1 h4
        have h8 : (elems.map (·.1))[i]? = some elems[i].1 := by rw [List.getElem?_map, List.getElem?_eq_getElem h5]; rfl
        rw [hm, List.getElem?_map, List.getElem?_eq_getElem hi] at h8
        have h9 := hD n' cs' elems[i] L[i] h7 (Option.some.inj h8).symm
        subst h9
        obtain ⟨_, _, h10⟩ := World.cells?_some h6
        exact ⟨L[i], List.getElem?_eq_getElem hi, fun j hj => by rw [← Deep.add_add]; exact h10 j hj⟩
      have hpos : 0 < L.length := by rw [← hL]; simp
      obtain ⟨z0, hz0, hc0⟩ := cell 0 hpos
      have hc1 := hc0 0 hz
      have ha : a.add (0 * sz + 0) = a := by simp [Addr.add]
      rw [ha, List.getElem?_eq_getElem (by rw [hf]; exact hz)] at hc1
      obtain ⟨s1, s2⟩ := cell_spot' hc1
      refine ⟨some a, cap, rfl, flat_len hf L, hlc, .inr ⟨a.block, a.off, congrArg some s1, trivial, s2, fun j u hu => ?_⟩⟩
      have hj : j < L.length * sz := by
        have := (List.getElem?_eq_some_iff.1 hu).1
        rw [flat_len hf] at this; exact this
      have hi : j / sz < L.length := (Nat.div_lt_iff_lt_mul hz).2 hj
      have hr : j % sz < sz := Nat.mod_lt _ hz
      have hjj : j / sz * sz + j % sz = j := by rw [Nat.mul_comm]; exact Nat.div_add_mod j sz
      obtain ⟨z, hz1, hz2⟩ := cell _ hi
      have h11 := hz2 _ hr
      have h12 := flat_get hf (j % sz) hz1 hr
      rw [hjj] at h11 h12
      rw [hu] at h12
      rw [s1, add_none, ← h12] at h11
      exact h11
end
end Go.Proofs.YtijinopghlpdbaaGreatDoor
