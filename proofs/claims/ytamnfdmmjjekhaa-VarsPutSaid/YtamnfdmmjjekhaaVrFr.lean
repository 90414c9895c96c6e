/- Frames of the statements: states and lists that are handed in. -/
import Derived.Test.YtamnfdmmjjekhaaVrP3
import Derived.Test.YtamnfdmmjjekhaaProg
import Derived.Test.YtamnfdmmjjekhaaSfE
import Derived.Deep.Slices
import Derived.ChangeSame
import Derived.WideShapes
namespace Go.Proofs.Ytamnfdmmjjekhaa
open Go Go.RowKit Go.SF Go.ChangeShapes Go.WideShapes Go.Deep
set_option linter.unusedSimpArgs false
set_option linter.unusedVariables false
set_option maxRecDepth 100000
section
variable {H : Type} {enc : TypeId × Value → H} {w : World} {base : Nat}
theorem cell_spot {a : Addr} {v : Value} (h : w.cell? a = some v) : a = ⟨a.block, a.off, none⟩ ∧ a.block < w.heap.size := by
  unfold World.cell? at h
  split at h
  · rename_i c t fr hb
    split at h
    · cases h
    · rename_i hs
      obtain ⟨b, o, s⟩ := a
      cases s with
      | none => exact ⟨rfl, (Array.getElem?_eq_some_iff.1 hb).1⟩
      | some _ => simp at hs
  · cases h
theorem ba_back (s : ByteArray) : (⟨s.data.toList.toArray⟩ : ByteArray) = s := by simp
/-- a slice, element for element -/
theorem trod_list {α : Type} {f : α → List Value} {sz : Nat} (hf : ∀ x, (f x).length = sz) (hz : 0 < sz) {Q : α → Prop} {P : Program} {e t : TypeId} (ht : P.underlying t = some (.slice e)) (hc : P.cellsOf e = sz) {m : Nat} {cs : List Value} {x : DataW H × List MemPlace}
    (h : DataW.trod enc P w 0 (fun _ => true) true m t cs = some x) (hD : ∀ n cs x, DataW.trod enc P w 0 (fun _ => true) true n e cs = some x → ∃ y, cs = f y ∧ Q y) :
    ∃ (a : Option Addr) (c : Nat) (l : List α), cs = [.slice a l.length c] ∧ SlW w a l.length c sz (l.flatMap f) ∧ ∀ y ∈ l, Q y := by
  rcases DataW.trod_slice ht h with ⟨e5, _⟩ | ⟨a, len, cap, elems, rest, n', hn', e5, d5, _, hlc, _, hel, hx, hrest, _⟩
  · exact ⟨none, 0, [], e5, SlAt.nil _ _ _, fun y hy => by cases hy⟩
  · rw [hc] at hx hrest
    have step : ∀ i, i < len → ∃ y, w.cells? 0 (a.add (i * sz)) sz = some (f y) ∧ Q y := fun i hi => by
      have h4 := hx i hi
      have h5 : i < elems.length := by omega
      rw [List.getElem?_eq_getElem h5] at h4
      obtain ⟨cs', h6, h7⟩ := Option.bind_eq_some_iff.1 h4
      obtain ⟨y, rfl, hy⟩ := hD _ _ _ h7
      exact ⟨y, h6, hy⟩
    have grow : ∀ k, k ≤ len → ∃ l : List α, l.length = k ∧ (∀ y ∈ l, Q y) ∧ ∀ (j : Nat) u, (l.flatMap f)[j]? = some u → w.cell? (a.add j) = some u := by
      intro k
      induction k with
      | zero => intro _; exact ⟨[], rfl, (fun y hy => by cases hy), fun j u hu => by simp at hu⟩
      | succ k ihk =>
        intro hk
        obtain ⟨l, l1, l2, l3⟩ := ihk (by omega)
        obtain ⟨y, c1, c2⟩ := step k (by omega)
        obtain ⟨_, _, c5⟩ := World.cells?_some c1
        have hfl := flat_len hf l
        refine ⟨l ++ [y], by simp [l1], fun z hz => (List.mem_append.1 hz).elim (l2 z) (fun e => by obtain rfl := List.mem_singleton.1 e; exact c2), fun j u hu => ?_⟩
        rw [List.flatMap_append, List.flatMap_cons, List.flatMap_nil, List.append_nil] at hu
        rcases Nat.lt_or_ge j (k * sz) with hj | hj
        · exact l3 j u (by rwa [List.getElem?_append_left (by rw [hfl, l1]; exact hj)] at hu)
        · rw [List.getElem?_append_right (by rw [hfl, l1]; exact hj), hfl, l1] at hu
          have hj6 : j - k * sz < sz := by have := (List.getElem?_eq_some_iff.1 hu).1; rwa [hf] at this
          have := c5 (j - k * sz) hj6
          rw [Deep.add_add, show k * sz + (j - k * sz) = j from by omega] at this
          rw [this]; exact hu
    obtain ⟨l, l1, l2, l3⟩ := grow len (Nat.le_refl _)
    refine ⟨some a, cap, l, by rw [l1]; exact e5, ⟨flat_len hf l, by omega, ?_⟩, l2⟩
    rcases Nat.eq_zero_or_pos cap with hc0 | hc0
    · exact .inl ⟨trivial, by omega, hc0⟩
    · right
      have first : ∃ cs', w.cells? 0 (a.add (0 * sz)) sz = some cs' := by
        rcases Nat.eq_zero_or_pos len with hl0 | hl0
        · obtain ⟨hr1, hr2⟩ := hrest rfl
          have h4 := hr2 0 (by omega)
          rw [List.getElem?_eq_getElem (by omega)] at h4
          obtain ⟨cs', h6, _⟩ := Option.bind_eq_some_iff.1 h4
          exact ⟨cs', by rw [hl0] at h6; exact h6⟩
        · obtain ⟨cs', h6, _⟩ := step 0 hl0
          exact ⟨_, h6⟩
      obtain ⟨cs', h6⟩ := first
      obtain ⟨_, h7, h8⟩ := World.cells?_some h6
      have h9 := h8 0 hz
      rw [List.getElem?_eq_getElem (by omega), Deep.add_add] at h9
      have ha : a.add (0 * sz + 0) = a := by rw [Nat.zero_mul]; rfl
      rw [ha] at h9
      obtain ⟨s1, s2⟩ := cell_spot h9
      refine ⟨a.block, a.off, congrArg some s1, trivial, s2, fun j u hu => ?_⟩
      have := l3 j u hu
      rw [s1, add_none] at this
      exact this
/-- some slice or other -/
theorem trod_some {P : Program} {e t : TypeId} (ht : P.underlying t = some (.slice e)) {m : Nat} {cs : List Value} {x : DataW H × List MemPlace} (h : DataW.trod enc P w 0 (fun _ => true) true m t cs = some x) : ∃ a n c, cs = [.slice a n c] := by
  rcases DataW.trod_slice ht h with ⟨e5, _⟩ | ⟨a, len, cap, elems, rest, n', hn', e5, _⟩
  · exact ⟨none, 0, 0, e5⟩
  · exact ⟨some a, len, cap, e5⟩
theorem c_i : Try.prog.cellsOf 3 = 1 := by kernel_rfl
theorem c_u8 : Try.prog.cellsOf 5 = 1 := by kernel_rfl
theorem c_i64 : Try.prog.cellsOf 2 = 1 := by kernel_rfl
theorem c_str : Try.prog.cellsOf 9 = 1 := by kernel_rfl
theorem c_val : Try.prog.cellsOf 35 = 3 := by kernel_rfl
theorem c_cell : Try.prog.cellsOf 39 = 5 := by kernel_rfl
theorem c_var : Try.prog.cellsOf 37 = 4 := by kernel_rfl
theorem c_set : Try.prog.cellsOf 49 = 4 := by kernel_rfl
theorem c_item : Try.prog.cellsOf 54 = 8 := by kernel_rfl
theorem c_state : Try.prog.cellsOf 27 = 6 := by kernel_rfl
theorem c_sd : Try.prog.cellsOf 22 = 1 := by kernel_rfl
theorem c_si : Try.prog.cellsOf 23 = 1 := by kernel_rfl
theorem c_sc : Try.prog.cellsOf 24 = 1 := by kernel_rfl
theorem c_sh : Try.prog.cellsOf 25 = 1 := by kernel_rfl
/-- a value, opened -/
theorem val_open {m : Nat} {cs : List Value} {x : DataW H × List MemPlace} (h : DataW.trod enc Try.prog w 0 (fun _ => true) true m 35 cs = some x) :
    ∃ v : Vr.Val, cs = [.int .u8 v.k, .int .i64 v.n, .string ⟨v.t.toArray⟩] ∧ v.t.length ≤ maxLen := by
  obtain ⟨xs, n, rfl, rfl, hl, hxl, hf⟩ := DataW.trod_struct Try.underlying35 h
  rw [c_val] at hl
  have hxl : xs.length = 3 := hxl
  match cs, hl, xs, hxl with
  | [c0, c1, c2], _, [x0, x1, x2], _ =>
    have h0 : DataW.trod enc Try.prog w 0 (fun _ => true) true n 5 ((([c0, c1, c2] : List Value).drop 0).take (Try.prog.cellsOf 5)) = some x0 := hf 0 _ rfl
    rw [c_u8] at h0
    have h0 : DataW.trod enc Try.prog w 0 (fun _ => true) true n 5 [c0] = some x0 := h0
    have h1 : DataW.trod enc Try.prog w 0 (fun _ => true) true n 2 ((([c0, c1, c2] : List Value).drop 1).take (Try.prog.cellsOf 2)) = some x1 := hf 1 _ rfl
    rw [c_i64] at h1
    have h1 : DataW.trod enc Try.prog w 0 (fun _ => true) true n 2 [c1] = some x1 := h1
    have h2 : DataW.trod enc Try.prog w 0 (fun _ => true) true n 9 ((([c0, c1, c2] : List Value).drop 2).take (Try.prog.cellsOf 9)) = some x2 := hf 2 _ rfl
    rw [c_str] at h2
    have h2 : DataW.trod enc Try.prog w 0 (fun _ => true) true n 9 [c2] = some x2 := h2
    obtain ⟨k, e0, _, _⟩ := DataW.trod_int Try.underlying5 h0
    obtain ⟨n, e1, _, w1⟩ := DataW.trod_int Try.underlying2 h1
    obtain ⟨t, e2, _, z2⟩ := DataW.trod_string Try.underlying9 h2
    simp only [List.cons.injEq, and_true] at e0 e1 e2
    subst e0 e1 e2
    exact ⟨⟨k, n, t.data.toList⟩, by rw [ba_back], by rw [Array.length_toList]; exact z2⟩
/-- a variable, a set, opened -/
theorem var_open {m : Nat} {cs : List Value} {x : DataW H × List MemPlace} (h : DataW.trod enc Try.prog w 0 (fun _ => true) true m 37 cs = some x) : ∃ v : Vr.Va, cs = v.enc ∧ v.v.t.length ≤ maxLen := by
  obtain ⟨xs, n, rfl, rfl, hl, hxl, hf⟩ := DataW.trod_struct Try.underlying37 h
  rw [c_var] at hl
  have hxl : xs.length = 2 := hxl
  match cs, hl, xs, hxl with
  | [c1, c2, c3, c4], _, [x1, x2], _ =>
    have h1 : DataW.trod enc Try.prog w 0 (fun _ => true) true n 9 ((([c1, c2, c3, c4] : List Value).drop 0).take (Try.prog.cellsOf 9)) = some x1 := hf 0 _ rfl
    rw [c_str] at h1
    have h1 : DataW.trod enc Try.prog w 0 (fun _ => true) true n 9 [c1] = some x1 := h1
    have h2 : DataW.trod enc Try.prog w 0 (fun _ => true) true n 35 ((([c1, c2, c3, c4] : List Value).drop 1).take (Try.prog.cellsOf 35)) = some x2 := hf 1 _ rfl
    rw [c_val] at h2
    have h2 : DataW.trod enc Try.prog w 0 (fun _ => true) true n 35 [c2, c3, c4] = some x2 := h2
    obtain ⟨t, e1, _, z1⟩ := DataW.trod_string Try.underlying9 h1
    obtain ⟨v, e2, z2⟩ := val_open h2
    simp only [List.cons.injEq, and_true] at e1 e2
    obtain ⟨rfl, rfl, rfl⟩ := e2
    subst e1
    exact ⟨⟨t.data.toList, v⟩, by simp only [Vr.Va.enc, ba_back], z2⟩
theorem set_open {m : Nat} {cs : List Value} {x : DataW H × List MemPlace} (h : DataW.trod enc Try.prog w 0 (fun _ => true) true m 49 cs = some x) : ∃ v : Vr.Va, cs = v.enc ∧ v.v.t.length ≤ maxLen := by
  obtain ⟨xs, n, rfl, rfl, hl, hxl, hf⟩ := DataW.trod_struct Try.underlying49 h
  rw [c_set] at hl
  have hxl : xs.length = 2 := hxl
  match cs, hl, xs, hxl with
  | [c1, c2, c3, c4], _, [x1, x2], _ =>
    have h1 : DataW.trod enc Try.prog w 0 (fun _ => true) true n 9 ((([c1, c2, c3, c4] : List Value).drop 0).take (Try.prog.cellsOf 9)) = some x1 := hf 0 _ rfl
    rw [c_str] at h1
    have h1 : DataW.trod enc Try.prog w 0 (fun _ => true) true n 9 [c1] = some x1 := h1
    have h2 : DataW.trod enc Try.prog w 0 (fun _ => true) true n 35 ((([c1, c2, c3, c4] : List Value).drop 1).take (Try.prog.cellsOf 35)) = some x2 := hf 1 _ rfl
    rw [c_val] at h2
    have h2 : DataW.trod enc Try.prog w 0 (fun _ => true) true n 35 [c2, c3, c4] = some x2 := h2
    obtain ⟨t, e1, _, z1⟩ := DataW.trod_string Try.underlying9 h1
    obtain ⟨v, e2, z2⟩ := val_open h2
    simp only [List.cons.injEq, and_true] at e1 e2
    obtain ⟨rfl, rfl, rfl⟩ := e2
    subst e1
    exact ⟨⟨t.data.toList, v⟩, by simp only [Vr.Va.enc, ba_back], z2⟩
/-- a cell, opened -/
theorem cell_open {m : Nat} {cs : List Value} {x : DataW H × List MemPlace} (h : DataW.trod enc Try.prog w 0 (fun _ => true) true m 39 cs = some x) : ∃ c : Vr.Ce, cs = c.enc ∧ True := by
  obtain ⟨xs, n, rfl, rfl, hl, hxl, hf⟩ := DataW.trod_struct Try.underlying39 h
  rw [c_cell] at hl
  have hxl : xs.length = 3 := hxl
  match cs, hl, xs, hxl with
  | [c0, c1, c2, c3, c4], _, [x0, x1, x2], _ =>
    have h0 : DataW.trod enc Try.prog w 0 (fun _ => true) true n 3 ((([c0, c1, c2, c3, c4] : List Value).drop 0).take (Try.prog.cellsOf 3)) = some x0 := hf 0 _ rfl
    rw [c_i] at h0
    have h0 : DataW.trod enc Try.prog w 0 (fun _ => true) true n 3 [c0] = some x0 := h0
    have h1 : DataW.trod enc Try.prog w 0 (fun _ => true) true n 9 ((([c0, c1, c2, c3, c4] : List Value).drop 1).take (Try.prog.cellsOf 9)) = some x1 := hf 1 _ rfl
    rw [c_str] at h1
    have h1 : DataW.trod enc Try.prog w 0 (fun _ => true) true n 9 [c1] = some x1 := h1
    have h2 : DataW.trod enc Try.prog w 0 (fun _ => true) true n 35 ((([c0, c1, c2, c3, c4] : List Value).drop 2).take (Try.prog.cellsOf 35)) = some x2 := hf 2 _ rfl
    rw [c_val] at h2
    have h2 : DataW.trod enc Try.prog w 0 (fun _ => true) true n 35 [c2, c3, c4] = some x2 := h2
    obtain ⟨k, e0, _, _⟩ := DataW.trod_int Try.underlying3 h0
    obtain ⟨t, e1, _, z1⟩ := DataW.trod_string Try.underlying9 h1
    obtain ⟨v, e2, _⟩ := val_open h2
    simp only [List.cons.injEq, and_true] at e0 e1 e2
    obtain ⟨rfl, rfl, rfl⟩ := e2
    subst e0 e1
    exact ⟨⟨k, t.data.toList, v⟩, by simp only [Vr.Ce.enc, ba_back], trivial⟩
/-- an item, opened -/
theorem item_open {m : Nat} {cs : List Value} {x : DataW H × List MemPlace} (h : DataW.trod enc Try.prog w 0 (fun _ => true) true m 54 cs = some x) : ∃ y : Vr.It, cs = y.enc ∧ (Lit.int .i64 y.up).wf = true := by
  obtain ⟨xs, n, rfl, rfl, hl, hxl, hf⟩ := DataW.trod_struct Try.underlying54 h
  rw [c_item] at hl
  have hxl : xs.length = 8 := hxl
  match cs, hl, xs, hxl with
  | [c0, c1, c2, c3, c4, c5, c6, c7], _, [x0, x1, x2, x3, x4, x5, x6, x7], _ =>
    have h0 : DataW.trod enc Try.prog w 0 (fun _ => true) true n 3 ((([c0, c1, c2, c3, c4, c5, c6, c7] : List Value).drop 0).take (Try.prog.cellsOf 3)) = some x0 := hf 0 _ rfl
    rw [c_i] at h0
    have h0 : DataW.trod enc Try.prog w 0 (fun _ => true) true n 3 [c0] = some x0 := h0
    have h1 : DataW.trod enc Try.prog w 0 (fun _ => true) true n 3 ((([c0, c1, c2, c3, c4, c5, c6, c7] : List Value).drop 1).take (Try.prog.cellsOf 3)) = some x1 := hf 1 _ rfl
    rw [c_i] at h1
    have h1 : DataW.trod enc Try.prog w 0 (fun _ => true) true n 3 [c1] = some x1 := h1
    have h2 : DataW.trod enc Try.prog w 0 (fun _ => true) true n 5 ((([c0, c1, c2, c3, c4, c5, c6, c7] : List Value).drop 2).take (Try.prog.cellsOf 5)) = some x2 := hf 2 _ rfl
    rw [c_u8] at h2
    have h2 : DataW.trod enc Try.prog w 0 (fun _ => true) true n 5 [c2] = some x2 := h2
    have h3 : DataW.trod enc Try.prog w 0 (fun _ => true) true n 9 ((([c0, c1, c2, c3, c4, c5, c6, c7] : List Value).drop 3).take (Try.prog.cellsOf 9)) = some x3 := hf 3 _ rfl
    rw [c_str] at h3
    have h3 : DataW.trod enc Try.prog w 0 (fun _ => true) true n 9 [c3] = some x3 := h3
    have h4 : DataW.trod enc Try.prog w 0 (fun _ => true) true n 3 ((([c0, c1, c2, c3, c4, c5, c6, c7] : List Value).drop 4).take (Try.prog.cellsOf 3)) = some x4 := hf 4 _ rfl
    rw [c_i] at h4
    have h4 : DataW.trod enc Try.prog w 0 (fun _ => true) true n 3 [c4] = some x4 := h4
    have h5 : DataW.trod enc Try.prog w 0 (fun _ => true) true n 3 ((([c0, c1, c2, c3, c4, c5, c6, c7] : List Value).drop 5).take (Try.prog.cellsOf 3)) = some x5 := hf 5 _ rfl
    rw [c_i] at h5
    have h5 : DataW.trod enc Try.prog w 0 (fun _ => true) true n 3 [c5] = some x5 := h5
    have h6 : DataW.trod enc Try.prog w 0 (fun _ => true) true n 5 ((([c0, c1, c2, c3, c4, c5, c6, c7] : List Value).drop 6).take (Try.prog.cellsOf 5)) = some x6 := hf 6 _ rfl
    rw [c_u8] at h6
    have h6 : DataW.trod enc Try.prog w 0 (fun _ => true) true n 5 [c6] = some x6 := h6
    have h7 : DataW.trod enc Try.prog w 0 (fun _ => true) true n 9 ((([c0, c1, c2, c3, c4, c5, c6, c7] : List Value).drop 7).take (Try.prog.cellsOf 9)) = some x7 := hf 7 _ rfl
    rw [c_str] at h7
    have h7 : DataW.trod enc Try.prog w 0 (fun _ => true) true n 9 [c7] = some x7 := h7
    obtain ⟨v0, e0, _, w0⟩ := DataW.trod_int Try.underlying3 h0
    obtain ⟨v1, e1, _, w1⟩ := DataW.trod_int Try.underlying3 h1
    obtain ⟨v2, e2, _, w2⟩ := DataW.trod_int Try.underlying5 h2
    obtain ⟨v3, e3, _, w3⟩ := DataW.trod_string Try.underlying9 h3
    obtain ⟨v4, e4, _, w4⟩ := DataW.trod_int Try.underlying3 h4
    obtain ⟨v5, e5, _, w5⟩ := DataW.trod_int Try.underlying3 h5
    obtain ⟨v6, e6, _, w6⟩ := DataW.trod_int Try.underlying5 h6
    obtain ⟨v7, e7, _, w7⟩ := DataW.trod_string Try.underlying9 h7
    simp only [List.cons.injEq, and_true] at e0 e1 e2 e3 e4 e5 e6 e7
    subst e0 e1 e2 e3 e4 e5 e6 e7
    exact ⟨⟨v0, v1, v2, v3.data.toList, v4, v5, v6, v7.data.toList⟩, by simp only [Vr.It.enc, ba_back], w1⟩
/-- a state, opened -/
theorem state_open {m : Nat} {cs : List Value} {x : DataW H × List MemPlace} (h : DataW.trod enc Try.prog w 0 (fun _ => true) true m 27 cs = some x) : ∃ (S : Vr.StV) (its : List Vr.It) (ce : List Vr.Ce), cs = [.int .i64 S.ck, .int .i64 S.nx, .slice S.d.a S.d.n S.d.c, .slice S.i.a S.i.n S.i.c, .slice S.c.a S.c.n S.c.c, .slice S.h.a S.h.n S.h.c] ∧
    SlW w S.i.a S.i.n S.i.c 8 (its.flatMap Vr.It.enc) ∧ SlW w S.c.a S.c.n S.c.c 5 (ce.flatMap Vr.Ce.enc) ∧ ∀ y ∈ its, (Lit.int .i64 y.up).wf = true := by
  obtain ⟨xs, n, rfl, rfl, hl, hxl, hf⟩ := DataW.trod_struct Try.underlying27 h
  rw [c_state] at hl
  have hxl : xs.length = 6 := hxl
  match cs, hl, xs, hxl with
  | [c0, c1, c2, c3, c4, c5], _, [x0, x1, x2, x3, x4, x5], _ =>
    have h0 : DataW.trod enc Try.prog w 0 (fun _ => true) true n 3 ((([c0, c1, c2, c3, c4, c5] : List Value).drop 0).take (Try.prog.cellsOf 3)) = some x0 := hf 0 _ rfl
    rw [c_i] at h0
    have h0 : DataW.trod enc Try.prog w 0 (fun _ => true) true n 3 [c0] = some x0 := h0
    have h1 : DataW.trod enc Try.prog w 0 (fun _ => true) true n 3 ((([c0, c1, c2, c3, c4, c5] : List Value).drop 1).take (Try.prog.cellsOf 3)) = some x1 := hf 1 _ rfl
    rw [c_i] at h1
    have h1 : DataW.trod enc Try.prog w 0 (fun _ => true) true n 3 [c1] = some x1 := h1
    have h2 : DataW.trod enc Try.prog w 0 (fun _ => true) true n 22 ((([c0, c1, c2, c3, c4, c5] : List Value).drop 2).take (Try.prog.cellsOf 22)) = some x2 := hf 2 _ rfl
    rw [c_sd] at h2
    have h2 : DataW.trod enc Try.prog w 0 (fun _ => true) true n 22 [c2] = some x2 := h2
    have h3 : DataW.trod enc Try.prog w 0 (fun _ => true) true n 23 ((([c0, c1, c2, c3, c4, c5] : List Value).drop 3).take (Try.prog.cellsOf 23)) = some x3 := hf 3 _ rfl
    rw [c_si] at h3
    have h3 : DataW.trod enc Try.prog w 0 (fun _ => true) true n 23 [c3] = some x3 := h3
    have h4 : DataW.trod enc Try.prog w 0 (fun _ => true) true n 24 ((([c0, c1, c2, c3, c4, c5] : List Value).drop 4).take (Try.prog.cellsOf 24)) = some x4 := hf 4 _ rfl
    rw [c_sc] at h4
    have h4 : DataW.trod enc Try.prog w 0 (fun _ => true) true n 24 [c4] = some x4 := h4
    have h5 : DataW.trod enc Try.prog w 0 (fun _ => true) true n 25 ((([c0, c1, c2, c3, c4, c5] : List Value).drop 5).take (Try.prog.cellsOf 25)) = some x5 := hf 5 _ rfl
    rw [c_sh] at h5
    have h5 : DataW.trod enc Try.prog w 0 (fun _ => true) true n 25 [c5] = some x5 := h5
    obtain ⟨ck, e0, _, _⟩ := DataW.trod_int Try.underlying3 h0
    obtain ⟨nx, e1, _, _⟩ := DataW.trod_int Try.underlying3 h1
    obtain ⟨a2, n2, k2, e2⟩ := trod_some Try.underlying22 h2
    obtain ⟨a3, k3, its, e3, s3, q3⟩ := trod_list Vr.It.enc_len (by decide) Try.underlying23 c_item h3 fun _ _ _ h => item_open h
    obtain ⟨a4, k4, ce, e4, s4, _⟩ := trod_list Vr.Ce.enc_len (by decide) Try.underlying24 c_cell h4 fun _ _ _ h => cell_open h
    obtain ⟨a5, n5, k5, e5⟩ := trod_some Try.underlying25 h5
    simp only [List.cons.injEq, and_true] at e0 e1 e2 e3 e4 e5
    subst e0 e1 e2 e3 e4 e5
    exact ⟨⟨ck, nx, ⟨a2, n2, k2⟩, ⟨a3, its.length, k3⟩, ⟨a4, ce.length, k4⟩, ⟨a5, n5, k5⟩⟩, its, ce, rfl, s3, s4, q3⟩
theorem state_arg {v : Value} (hv : Value.okWide Try.prog w .any base 27 v) {d : DataW H} {ps : List MemPlace} (h : DataW.Trod enc Try.prog w 0 (fun _ => true) true 27 v d ps) : ∃ (S : Vr.StV) (its : List Vr.It) (ce : List Vr.Ce), v = S.val ∧
    SlW w S.i.a S.i.n S.i.c 8 (its.flatMap Vr.It.enc) ∧ SlW w S.c.a S.c.n S.c.c 5 (ce.flatMap Vr.Ce.enc) ∧ ∀ y ∈ its, (Lit.int .i64 y.up).wf = true := by
  unfold Value.okWide at hv
  rw [Try.underlying27] at hv
  obtain ⟨cs, rfl, _, _⟩ := hv
  obtain ⟨m, hm⟩ := h
  obtain ⟨S, its, ce, hy, r⟩ := state_open hm
  have hy : cs.toList = _ := hy
  exact ⟨S, its, ce, by unfold Vr.StV.val; rw [← Array.toArray_toList (xs := cs), hy], r⟩
theorem vars_arg {v : Value} (hv : Value.okWide Try.prog w .any base 28 v) {d : DataW H} {ps : List MemPlace} (h : DataW.Trod enc Try.prog w 0 (fun _ => true) true 28 v d ps) : ∃ (Z : Vr.Sl) (l : List Vr.Va), v = Z.val ∧ SlW w Z.a Z.n Z.c 4 (l.flatMap Vr.Va.enc) ∧ ∀ y ∈ l, y.v.t.length ≤ maxLen := by
  obtain ⟨a, len, cap, rfl⟩ := okWide_slice Try.underlying28 hv
  obtain ⟨m, hm⟩ := h
  obtain ⟨a', c', l, e, s, q⟩ := trod_list Vr.Va.enc_len (by decide) Try.underlying28 c_var (cs := [.slice a len cap]) hm (fun _ _ _ h => var_open h)
  simp only [List.cons.injEq, and_true] at e
  exact ⟨⟨a', l.length, c'⟩, l, e, s, q⟩
theorem sets_arg {v : Value} (hv : Value.okWide Try.prog w .any base 50 v) {d : DataW H} {ps : List MemPlace} (h : DataW.Trod enc Try.prog w 0 (fun _ => true) true 50 v d ps) : ∃ (Z : Vr.Sl) (l : List Vr.Va), v = Z.val ∧ SlW w Z.a Z.n Z.c 4 (l.flatMap Vr.Va.enc) ∧ ∀ y ∈ l, y.v.t.length ≤ maxLen := by
  obtain ⟨a, len, cap, rfl⟩ := okWide_slice Try.underlying50 hv
  obtain ⟨m, hm⟩ := h
  obtain ⟨a', c', l, e, s, q⟩ := trod_list Vr.Va.enc_len (by decide) Try.underlying50 c_set (cs := [.slice a len cap]) hm (fun _ _ _ h => set_open h)
  simp only [List.cons.injEq, and_true] at e
  exact ⟨⟨a', l.length, c'⟩, l, e, s, q⟩
end
end Go.Proofs.Ytamnfdmmjjekhaa
