/- The walk that the kernel computes: symbolic values and worlds, and that they are sound. -/
import Derived.Test.YtckgdgkkmhochaaGreatDoorSfD
set_option linter.unusedSimpArgs false
set_option linter.unusedVariables false
section
namespace Go.SF
open Go Go.RowKit

variable {P : Program}

/-- the slice (a, n, c) holds these cells, n elements of so many cells each -/
def SlAt (w : World) (J : Nat → Prop) (a : Option Addr) (n c sz : Nat) (xs : List Value) : Prop :=
  xs.length = n * sz ∧ n ≤ c ∧ ((True ∧ n = 0 ∧ c = 0) ∨ ∃ b o, a = some ⟨b, o, none⟩ ∧ J b ∧ b < w.heap.size ∧ ∀ (j : Nat) u, xs[j]? = some u → w.cell? ⟨b, o + j, none⟩ = some u)
/-- and they stay -/
def SlI (W : Wd) (a : Option Addr) (n c sz : Nat) (xs : List Value) : Prop := SlAt W.w W.I a n c sz xs
theorem cell_ext' {W W' : Wd} (x : Ext W W') {b : Nat} (hI : W.I b) (o : Nat) : W'.w.cell? ⟨b, o, none⟩ = W.w.cell? ⟨b, o, none⟩ := World.cell?_of_block (w := W.w) (x.keep b hI)
theorem SlI.ext {W W' : Wd} {a : Option Addr} {n c sz : Nat} {xs : List Value} (h : SlI W a n c sz xs) (x : Ext W W') : SlI W' a n c sz xs := by
  obtain ⟨h1, h2, h3⟩ := h
  refine ⟨h1, h2, h3.imp id ?_⟩
  rintro ⟨b, o, e, hI, hb, hc⟩
  exact ⟨b, o, e, x.sub b hI, Nat.lt_of_lt_of_le hb x.size, fun j u hu => by rw [cell_ext' x hI]; exact hc j u hu⟩
theorem SlAt.stay {W : Wd} {w : World} {n0 : Nat} {a : Option Addr} {n c sz : Nat} {xs : List Value} (h : SlAt w (fun b => n0 ≤ b) a n c sz xs) (e : W.w = w) (hn : NewIn n0 W) : SlI W a n c sz xs := by
  subst e
  obtain ⟨h1, h2, h3⟩ := h
  refine ⟨h1, h2, h3.imp id ?_⟩
  rintro ⟨b, o, e, hI, hb, hc⟩
  exact ⟨b, o, e, hn b hI hb, hb, hc⟩
theorem SlAt.mono {w : World} {J J' : Nat → Prop} {a : Option Addr} {n c sz : Nat} {xs : List Value} (h : SlAt w J a n c sz xs) (hJ : ∀ b, J b → J' b) : SlAt w J' a n c sz xs := by
  obtain ⟨h1, h2, h3⟩ := h
  refine ⟨h1, h2, h3.imp id ?_⟩
  rintro ⟨b, o, e, hI, hb, hc⟩
  exact ⟨b, o, e, hJ b hI, hb, hc⟩
theorem SlAt.nil (w : World) (J : Nat → Prop) (sz : Nat) : SlAt w J none 0 0 sz [] := ⟨by simp, Nat.le_refl _, .inl ⟨trivial, rfl, rfl⟩⟩
/-- a row of one's own is a slice in memory -/
theorem owns_sl {w : World} {n0 : Nat} {e : TypeId} {sz : Nat} {a : Option Addr} {n c k : Nat} {xs : List Value} (h : w.ownsRow n0 e sz (.slice a n c) k xs) : SlAt w (fun b => n0 ≤ b) a n c sz xs := by
  obtain ⟨h1, h2⟩ := h
  rcases h2 with ⟨hv, hn⟩ | ⟨g, cap, cur, hv, hb, hg, hnc, hcm, hcs, ht⟩
  · injection hv with e1 e2 e3
    subst e1 e2 e3 hn
    exact ⟨h1, Nat.le_refl _, .inl ⟨trivial, rfl, rfl⟩⟩
  · injection hv with e1 e2 e3
    subst e1 e2 e3
    refine ⟨h1, hnc, .inr ⟨g, 0, rfl, hb, (Array.getElem?_eq_some_iff.1 hg).1, fun j u hu => ?_⟩⟩
    rw [cell_of_row w g (0 + j) cur e (0, 0) hg, Nat.zero_add]
    rw [← ht, List.getElem?_take] at hu
    split at hu
    · simpa using hu
    · cases hu
/-- what a load of a struct yields -/
theorem look_agg {w : World} {t : TypeId} {k : Nat} (hA : aggT P t = some true) (hS : sizeT P t = some k) {ad : Addr} {vs : List Value} (hl : vs.length = k) (hc : ∀ (j : Nat) u, vs[j]? = some u → w.cell? (ad.add j) = some u) : (Instr.loadAt t (.pointer (some ad))).run P w = .ok (.agg vs.toArray) w := by
  have hcs := run_loadCells_list (P := P) w ad vs hc
  rw [hl] at hcs
  simp [Instr.loadAt, Instr.sureAddr, loadVar, run_aggT hA, run_sizeT hS, hcs]
/-- what a load of one cell yields -/
theorem look_one {w : World} {t : TypeId} (hA : aggT P t = some false) {ad : Addr} {u : Value} (hc : w.cell? ad = some u) : (Instr.loadAt t (.pointer (some ad))).run P w = .ok u w := by
  simp [Instr.loadAt, Instr.sureAddr, loadVar, run_aggT hA, hc]
theorem flat_get {α : Type} {f : α → List Value} {sz : Nat} (hf : ∀ x, (f x).length = sz) : ∀ {l : List α} {i : Nat} {x : α} (j : Nat), l[i]? = some x → j < sz → (l.flatMap f)[i * sz + j]? = (f x)[j]?
  | [], i, x, j, h, _ => by simp at h
  | y :: l, 0, x, j, h, hj => by
    simp only [List.getElem?_cons_zero, Option.some.injEq] at h
    subst h
    rw [List.flatMap_cons, Nat.zero_mul, Nat.zero_add, List.getElem?_append_left (by rw [hf]; exact hj)]
  | y :: l, i + 1, x, j, h, hj => by
    rw [List.getElem?_cons_succ] at h
    rw [List.flatMap_cons, List.getElem?_append_right (by rw [hf, Nat.add_mul, Nat.one_mul]; omega), hf, show (i + 1) * sz + j - sz = i * sz + j from by rw [Nat.add_mul, Nat.one_mul]; omega]
    exact flat_get hf j h hj
theorem flat_len {α : Type} {f : α → List Value} {sz : Nat} (hf : ∀ x, (f x).length = sz) (l : List α) : (l.flatMap f).length = l.length * sz := by
  induction l with
  | nil => simp
  | cons x l ih => rw [List.flatMap_cons, List.length_append, ih, hf, List.length_cons, Nat.add_mul, Nat.one_mul, Nat.add_comm]
/-- a load of an element of a slice -/
theorem sl_look {α : Type} {f : α → List Value} {sz : Nat} (hf : ∀ x, (f x).length = sz) (hz : 0 < sz) {W : Wd} {a : Option Addr} {n c : Nat} {l : List α} (h : SlI W a n c sz (l.flatMap f)) {t : TypeId} (hA : aggT P t = some true) (hS : sizeT P t = some sz) {i : Nat} {x : α} (hx : l[i]? = some x)
    {W' : Wd} (hW : Ext W W') : (Instr.loadAt t (.pointer (some ((a.getD default).add (i * sz + 0))))).run P W'.w = .ok (.agg (f x).toArray) W'.w := by
  obtain ⟨h1, h2, h3⟩ := h.ext hW
  have hl := flat_len hf l
  rcases h3 with ⟨_, rfl, rfl⟩ | ⟨b, o, rfl, hI, hb, hc⟩
  · exfalso
    have hi := (List.getElem?_eq_some_iff.1 hx).1
    rw [hl] at h1
    have := Nat.eq_of_mul_eq_mul_right hz h1
    omega
  · refine look_agg hA hS (hf x) fun j u hu => ?_
    have hj : j < sz := by rw [← hf x]; exact (List.getElem?_eq_some_iff.1 hu).1
    have := hc (i * sz + j) u (by rw [flat_get hf j hx hj]; exact hu)
    simp only [Option.getD_some, Nat.add_zero]
    rw [add_none, add_none, show o + i * sz + j = o + (i * sz + j) from by omega]
    exact this
/-- a load of a field of an element -/
theorem sl_look_f {α : Type} {f : α → List Value} {sz : Nat} (hf : ∀ x, (f x).length = sz) {W : Wd} {a : Option Addr} {n c : Nat} {l : List α} (h : SlI W a n c sz (l.flatMap f)) {t : TypeId} (hA : aggT P t = some false) {i k : Nat} {x : α} (hx : l[i]? = some x) (hk : k < sz) {u : Value} (hu : (f x)[k]? = some u)
    {W' : Wd} (hW : Ext W W') : (Instr.loadAt t (.pointer (some ((a.getD default).add (i * sz + k))))).run P W'.w = .ok u W'.w := by
  obtain ⟨h1, h2, h3⟩ := h.ext hW
  have hl := flat_len hf l
  rcases h3 with ⟨_, rfl, rfl⟩ | ⟨b, o, rfl, hI, hb, hc⟩
  · exfalso
    have hi := (List.getElem?_eq_some_iff.1 hx).1
    rw [hl] at h1
    have := Nat.eq_of_mul_eq_mul_right (by omega) h1
    omega
  · refine look_one hA ?_
    have := hc (i * sz + k) u (by rw [flat_get hf k hx hk]; exact hu)
    simp only [Option.getD_some]
    rw [add_none]
    exact this
theorem SlI.some_of {W : Wd} {a : Option Addr} {n c sz : Nat} {xs : List Value} (h : SlI W a n c sz xs) (hn : 0 < n) : a.isSome = true := by
  rcases h.2.2 with ⟨_, rfl, _⟩ | ⟨b, o, rfl, _⟩
  · omega
  · rfl
/-- a slice in a world, whatever stays -/
def SlW (w : World) (a : Option Addr) (n c sz : Nat) (xs : List Value) : Prop := SlAt w (fun _ => True) a n c sz xs
theorem SlAt.w {w : World} {J : Nat → Prop} {a : Option Addr} {n c sz : Nat} {xs : List Value} (h : SlAt w J a n c sz xs) : SlW w a n c sz xs := h.mono fun _ _ => trivial
theorem SlW.all {W : Wd} {a : Option Addr} {n c sz : Nat} {xs : List Value} (h : SlW W.w a n c sz xs) : SlI W.all a n c sz xs := by
  obtain ⟨h1, h2, h3⟩ := h
  refine ⟨h1, h2, h3.imp id ?_⟩
  rintro ⟨b, o, e, _, hb, hc⟩
  exact ⟨b, o, e, hb, hb, hc⟩
/-- a block of one's own, as a slice -/
theorem blk_sl {w : World} {b : Nat} {cs : List Value} {ty : TypeId} (h : w.heap[b]? = some (.cells cs.toArray ty)) {n sz : Nat} (hl : cs.length = n * sz) : SlW w (some ⟨b, 0, none⟩) n n sz cs := by
  refine ⟨hl, Nat.le_refl _, .inr ⟨b, 0, rfl, trivial, (Array.getElem?_eq_some_iff.1 h).1, fun j u hu => ?_⟩⟩
  simp [World.cell?, h, hu]
end Go.SF
end
