/- Frames of statements: what slices and laid variables hold when the call begins, in SF's terms. -/
import Derived.Test.YtckgdgkkmhochaaGreatDoorSfE
import Derived.Deep.Slices
import Derived.ChangeSame
import Derived.WideShapes
import Derived.Lib.LaidTab
import Derived.Stop.LaidErr
import Derived.Shelf.Vars
namespace Go.Proofs.YtckgdgkkmhochaaGreatDoor
open Go Go.RowKit Go.SF Go.ChangeShapes Go.WideShapes Go.Deep
set_option linter.unusedSimpArgs false
set_option linter.unusedVariables false
section
variable {H : Type} {enc : TypeId × Value → H} {P : Program} {w : World} {base : Nat} {sp : Nat → Bool} {held : Bool}
/-- where a slice of the caller's lies -/
theorem slice_at {e t : TypeId} (ht : P.underlying t = some (.slice e)) {v : Value} (h : Value.okWide P w .any base t v) :
    v = .slice none 0 0 ∨ ∃ b o n c, v = .slice (some ⟨b, o, none⟩) n c ∧ n ≤ c ∧ b < w.heap.size := by
  obtain ⟨a, len, cap, rfl⟩ := okWide_slice ht h
  unfold Value.okWide at h
  rw [ht] at h
  simp only at h
  unfold Cell.okWide at h
  rw [ht] at h
  simp only at h
  unfold Cell.ok at h
  rw [ht] at h
  cases a with
  | none =>
    left
    cases len with
    | zero => cases cap with
      | zero => rfl
      | succ _ => simp only at h
    | succ _ => simp only at h
  | some a =>
    right
    obtain ⟨b, o, s⟩ := a
    simp only at h
    obtain ⟨h1, -, -, hs, row, cells, hsh, -⟩ := h
    obtain rfl : s = none := hs
    refine ⟨b, o, len, cap, rfl, h1, ?_⟩
    unfold World.shape? at hsh
    rcases Nat.lt_or_ge b w.heap.size with hb | hb
    · exact hb
    · rw [Array.getElem?_eq_none hb] at hsh; cases hsh
/-- a slice of the caller's, element for element -/
theorem slice_open {α : Type} [Inhabited α] {f : α → List Value} {sz : Nat} (hf : ∀ x, (f x).length = sz) {e t : TypeId} (ht : P.underlying t = some (.slice e)) (hc : P.cellsOf e = sz)
    {v : Value} (hv : Value.okWide P w .any base t v) {d : DataW H} {ps : List MemPlace} (h : DataW.Trod enc P w 0 sp held t v d ps)
    (hD : ∀ n cs x, DataW.trod enc P w 0 sp held n e cs = some x → ∃ y, cs = f y) :
    ∃ (a : Option Addr) (c : Nat) (l : List α), v = .slice a l.length c ∧ SlW w a l.length c sz (l.flatMap f) := by
  obtain ⟨m, hm⟩ := h
  rcases slice_at ht hv with rfl | ⟨b, o, n, c, rfl, hnc, hb⟩
  · exact ⟨none, 0, [], rfl, SlAt.nil _ _ _⟩
  · rcases open_slice ht hm with ⟨h0, _⟩ | ⟨a, len, cap, m', n', D, Pl, hcs, _, hl, _, hmm, _, hx⟩
    · have h0 : [Value.slice (some ⟨b, o, none⟩) n c] = [.slice none 0 0] := h0
      simp at h0
    · have hcs : [Value.slice (some ⟨b, o, none⟩) n c] = [.slice (some a) len cap] := hcs
      simp only [List.cons.injEq, and_true] at hcs
      injection hcs with e1 e2 e3
      injection e1 with e1
      subst e1 e2 e3
      have hle : n ≤ m' := by rw [hmm]; split <;> omega
      obtain ⟨X, hX⟩ := choose_lt (α := α) (p := fun i y => w.cells? 0 ((⟨b, o, none⟩ : Addr).add (i * P.cellsOf e)) (P.cellsOf e) = some (f y)) (n := n) (fun i hi => by
        obtain ⟨cs, h1, h2⟩ := hx i (by omega)
        obtain ⟨y, rfl⟩ := hD _ _ _ h2
        exact ⟨y, h1⟩)
      have hlen : ((List.range n).map X).length = n := by simp
      refine ⟨some ⟨b, o, none⟩, c, (List.range n).map X, by rw [hlen], ?_⟩
      rw [hlen]
      refine ⟨by rw [flat_len hf, hlen], hnc, .inr ⟨b, o, rfl, trivial, hb, fun j u hu => ?_⟩⟩
      have hj : j < n * sz := by
        have := (List.getElem?_eq_some_iff.1 hu).1
        rw [flat_len hf, hlen] at this; exact this
      have hsz : 0 < sz := by rcases Nat.eq_zero_or_pos sz with h | h; · rw [h] at hj; omega
                              · exact h
      have hi : j / sz < n := (Nat.div_lt_iff_lt_mul hsz).2 hj
      have hr : j % sz < sz := Nat.mod_lt _ hsz
      have hjj : j / sz * sz + j % sz = j := by rw [Nat.mul_comm]; exact Nat.div_add_mod j sz
      have hg : ((List.range n).map X)[j / sz]? = some (X (j / sz)) := by simp [hi]
      have := flat_get hf (j % sz) hg hr
      rw [hjj, hu] at this
      obtain ⟨_, h2, h3⟩ := World.cells?_some (hX _ hi)
      have h4 := h3 (j % sz) (by rw [hc]; exact hr)
      rw [hc, add_none, add_none, Nat.add_assoc, hjj, ← this] at h4
      exact h4
/-- an array of texts, read -/
theorem cells_of_strs {fuel : Nat} {t e : TypeId} {n : Nat} {cs : List Value} {zs : List (List UInt8)} {p : List MemPlace}
    (ht : P.underlying t = some (.array n e)) (he : P.underlying e = some .string) (hce : P.cellsOf e = 1) (hct : P.cellsOf t = n)
    (h : DataW.trod enc P w base sp held fuel t cs = some (.agg (zs.map fun z => .lit (.string z)), p)) : cs = zs.map fun z => Value.string ⟨z.toArray⟩ := by
  cases fuel with
  | zero => simp [DataW.trod] at h
  | succ fuel =>
    simp only [DataW.trod, ht, hce, hct, Nat.mul_one] at h
    split at h
    · rename_i hl
      obtain ⟨xs, hm, hx⟩ := Option.map_eq_some_iff.1 h
      have hxs : xs.map (·.1) = zs.map fun z => (DataW.lit (.string z) : DataW H) := by
        have := congrArg Prod.fst hx
        simpa using this
      have hxl : xs.length = n := by simpa using Lib.mapM_length hm
      have hzl : zs.length = n := by
        have := congrArg List.length hxs
        simp at this
        omega
      apply List.ext_getElem?
      intro i
      by_cases hi : i < n
      · obtain ⟨b, hb, hf⟩ := Lib.mapM_at hm i i (by simp [hi])
        obtain ⟨z, hc, rfl, _⟩ := DataW.trod_string he hf
        have h1 : cs[i]? = some (.string z) := by
          have := congrArg (·[0]?) hc
          simpa [List.getElem?_take, List.getElem?_drop] using this
        have h2 : (xs.map (·.1))[i]? = some (DataW.lit (.string z.data.toList) : DataW H) := by simp [hb]
        rw [hxs] at h2
        simp only [List.getElem?_map, Option.map_eq_some_iff, DataW.lit.injEq, Lit.string.injEq] at h2
        obtain ⟨z', hz', rfl⟩ := h2
        simp [h1, hz']
      · rw [List.getElem?_eq_none (by omega), List.getElem?_eq_none (by simp; omega)]
    · cases h
/-- a laid variable's block -/
theorem laid_block {P : Program} {W : World} {g : Nat} {cs : Array Value} {name : String} {d : DataW Unit} {rest : List (String × DataW Unit)} (hg : P.globalNamed name = some g) (h : laidMet P ((name, d) :: rest) W) (hv : W.var? P name = some cs) (h0 : 0 < cs.size) : ∃ ty, W.heap[g]? = some (.cells cs ty) := by
  obtain ⟨ps, ⟨g', t', cs', fuel, p, q, hg', ht', hvar, hd, _, rfl⟩, _, hrows⟩ := h
  obtain rfl := Option.some.inj (hg.symm.trans hg')
  obtain rfl := Option.some.inj (hv.symm.trans hvar)
  obtain ⟨⟨c, ty, hc⟩, _⟩ := hrows g 0 (by
    refine List.mem_append_left _ (List.mem_append_left _ ?_)
    simp only [MemPlace.row, List.mem_map, List.mem_range]
    exact ⟨0, h0, by simp⟩)
  refine ⟨ty, ?_⟩
  simp only [World.var?, hg, Option.bind_some, hc, Option.some.injEq] at hv
  rw [hc, hv]
/-- a laid array of texts: the block -/
theorem strs_of_head {P : Program} {W : World} {name : String} {zs : List (List UInt8)} {rest : List (String × DataW Unit)} {g : Nat} {t e : TypeId} {n : Nat}
    (hg : P.globalNamed name = some g) (hty : (P.globals[g]?).map (·.type) = some t) (ht : P.underlying t = some (.array n e)) (he : P.underlying e = some .string) (hce : P.cellsOf e = 1) (hct : P.cellsOf t = n)
    (h : laidMet P ((name, .agg (zs.map fun z => .lit (.string z))) :: rest) W) (h0 : 0 < zs.length) : ∃ ty, W.heap[g]? = some (.cells (zs.map fun z => Value.string ⟨z.toArray⟩).toArray ty) := by
  have hv : W.var? P name = some (zs.map fun z => Value.string ⟨z.toArray⟩).toArray := by
    obtain ⟨ps, ⟨g', t', cs, fuel, p, q, hg', ht', hvar, hd, _, _⟩, _⟩ := id h
    obtain rfl := Option.some.inj (hg.symm.trans hg')
    obtain rfl := Option.some.inj (hty.symm.trans ht')
    rw [hvar, ← cells_of_strs ht he hce hct hd]
  exact laid_block hg h hv (by simpa using h0)
theorem iface_of_trod {H : Type} {enc : TypeId × Value → H} {P : Program} {w : World} {base : Nat} {sp : Nat → Bool} {fuel : Nat} {t : TypeId} {ms : Array (String × TypeId)} {cs : List Value} {nm : String} {d : DataW H} {p : List MemPlace}
    (ht : P.underlying t = some (.interface ms)) (h : DataW.trod enc P w base sp false fuel t cs = some (.iface nm d, p)) : ∃ u v, cs = [.iface u v] := by
  cases fuel with
  | zero => simp [DataW.trod] at h
  | succ n =>
    unfold DataW.trod at h
    rw [ht] at h
    split at h <;> simp_all
/-- a laid error is an error -/
theorem iface_of_head {P : Program} {W : World} {name nm : String} {d : DataW Unit} {rest : List (String × DataW Unit)} {g : Nat} {t : TypeId} {ms : Array (String × TypeId)}
    (hg : P.globalNamed name = some g) (hty : (P.globals[g]?).map (·.type) = some t) (ht : P.underlying t = some (.interface ms)) (h : laidMet P ((name, .iface nm d) :: rest) W) : ∃ tp p, W.var? P name = some #[.iface tp p] := by
  obtain ⟨ps, ⟨g', t', cs, fuel, p, q, hg', ht', hvar, hd, _, _⟩, _⟩ := id h
  obtain rfl := Option.some.inj (hg.symm.trans hg')
  obtain rfl := Option.some.inj (hty.symm.trans ht')
  obtain ⟨u, v, hc⟩ := iface_of_trod ht hd
  refine ⟨u, v, ?_⟩
  rw [hvar]
  cases cs
  simpa using hc
theorem var_lt {P : Program} {W : World} {name : String} {g : Nat} {cs : Array Value} (hg : P.globalNamed name = some g) (h : W.var? P name = some cs) : g < W.heap.size := by
  unfold World.var? at h
  rw [hg, Option.bind_some] at h
  rcases Nat.lt_or_ge g W.heap.size with h' | h'
  · exact h'
  · rw [Array.getElem?_eq_none h'] at h; cases h
theorem cell_lt {W : World} {g o : Nat} {v : Value} (h : W.cell? ⟨g, o, none⟩ = some v) : g < W.heap.size := by
  unfold World.cell? at h
  rcases Nat.lt_or_ge g W.heap.size with h' | h'
  · exact h'
  · simp [Array.getElem?_eq_none h'] at h
end
end Go.Proofs.YtckgdgkkmhochaaGreatDoor
