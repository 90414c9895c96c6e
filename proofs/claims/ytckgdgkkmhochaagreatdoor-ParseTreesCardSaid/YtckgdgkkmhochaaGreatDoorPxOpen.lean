/- Frames of statements: trees of expressions that are handed in. -/
import Derived.OpenShut
import Derived.Test.YtckgdgkkmhochaaGreatDoorFrOpen
import Derived.Test.YtckgdgkkmhochaaGreatDoorPxTree
import Derived.Test.YtckgdgkkmhochaaGreatDoorPyP
namespace Go.Proofs.YtckgdgkkmhochaaGreatDoor
open Go Go.RowKit Go.SF Go.ChangeShapes Go.WideShapes Go.Deep
set_option linter.unusedSimpArgs false
set_option linter.unusedVariables false
set_option maxRecDepth 100000
section
variable {H : Type} {enc : TypeId × Value → H} {w : World} {base : Nat}
theorem sized_at {P : Program} {p : Nat → Bool} : ∀ {ts : List TypeId} {ds : List (DataW H)}, (DataW.weightsEach P ts ds).all p = true → ∀ {j : Nat} {t : TypeId} {d : DataW H}, ts[j]? = some t → ds[j]? = some d → (d.weights P t).all p = true
  | [], _, _, _, _, _, h, _ => by simp at h
  | _ :: _, [], _, _, _, _, _, h => by simp at h
  | a :: ts, b :: ds, h, j, t, d, ht, hd => by
    simp only [DataW.weightsEach, List.all_append, Bool.and_eq_true] at h
    cases j with
    | zero =>
      simp only [List.getElem?_cons_zero, Option.some.injEq] at ht hd
      subst ht hd; exact h.1
    | succ j => exact sized_at h.2 (by simpa using ht) (by simpa using hd)
theorem all_mem {P : Program} {p : Nat → Bool} {e : TypeId} : ∀ {l : List (DataW H)}, (DataW.weightsAll P e l).all p = true → ∀ d ∈ l, (d.weights P e).all p = true
  | [], _, _, h => by cases h
  | x :: l, h, d, hd => by
    simp only [DataW.weightsAll, List.all_append, Bool.and_eq_true] at h
    rcases List.mem_cons.1 hd with e1 | e1
    · subst e1; exact h.1
    · exact all_mem h.2 d e1
theorem cell_spot {a : Addr} {v : Value} (h : w.cell? a = some v) : a = ⟨a.block, a.off, none⟩ ∧ a.block < w.heap.size := by
  unfold World.cell? at h
  split at h
  · rename_i c t fr hb
    split at h
    · cases h
    · rename_i hs
      obtain ⟨b, o, s⟩ := a
      cases s with
      | none => exact ⟨rfl, (Array.getElem?_eq_some_iff.1 hb).1⟩
      | some _ => simp at hs
  · cases h
theorem ba_back (s : ByteArray) : (⟨s.data.toList.toArray⟩ : ByteArray) = s := by simp
theorem wf_i64 {n : Int} (h : (Lit.int .i64 n).wf = true) : -9223372036854775808 ≤ n ∧ n ≤ 9223372036854775807 := bounds_i64 h
theorem exs_snoc {J : Nat → Prop} : ∀ {l : List Px.Ex} {ls : List Value} {e : Px.Ex} {x : List Value}, ExsAt w J l ls → ExAt w J e x → ExsAt w J (l ++ [e]) (ls ++ x)
  | [], ls, e, x, h, hx => by
    simp only [ExsAt] at h
    subst h
    simp only [List.nil_append, ExsAt]
    exact ⟨x, [], by simp, hx, rfl⟩
  | y :: l, ls, e, x, h, hx => by
    simp only [List.cons_append, ExsAt] at h ⊢
    obtain ⟨a, b, rfl, h1, h2⟩ := h
    exact ⟨a, b ++ x, by simp, h1, exs_snoc h2 hx⟩
theorem wides_snoc {l : List Px.Ex} {e : Px.Ex} (h : Tx.wides l = true) (he : Tx.wide e = true) : Tx.wides (l ++ [e]) = true := by
  induction l with
  | nil => simp [Tx.wides, he]
  | cons x l ih =>
    simp only [List.cons_append, Tx.wides, Bool.and_eq_true] at h ⊢
    exact ⟨h.1, ih h.2⟩
theorem c_u8 : Tryz.prog.cellsOf 5 = 1 := by kernel_rfl
theorem c_i64 : Tryz.prog.cellsOf 2 = 1 := by kernel_rfl
theorem c_str : Tryz.prog.cellsOf 9 = 1 := by kernel_rfl
theorem c_val : Tryz.prog.cellsOf 23 = 3 := by kernel_rfl
theorem c_ex : Tryz.prog.cellsOf 26 = 6 := by kernel_rfl
theorem c_exs : Tryz.prog.cellsOf 24 = 1 := by kernel_rfl
theorem b_ex : 1 ≤ Tryz.prog.bytesOf 26 := of_decide_eq_true (by kernel_rfl)
/-- a value, opened -/
theorem val_open {sp : Nat → Bool} {m : Nat} {cs : List Value} {x : DataW H × List MemPlace} (h : DataW.trod enc Tryz.prog w 0 sp true m 23 cs = some x) :
    ∃ (k n : Int) (t : ByteArray), cs = [.int .u8 k, .int .i64 n, .string t] ∧ (Lit.int .i64 n).wf = true ∧ ((x.1.weights Tryz.prog 23).all (· ≤ reachBytes) = true → t.size ≤ reachBytes) := by
  obtain ⟨xs, n, rfl, rfl, hl, hxl, hf⟩ := DataW.trod_struct Tryz.underlying23 h
  rw [c_val] at hl
  have hxl : xs.length = 3 := hxl
  match cs, hl, xs, hxl with
  | [c0, c1, c2], _, [x0, x1, x2], _ =>
    have h0 : DataW.trod enc Tryz.prog w 0 sp true n 5 ((([c0, c1, c2] : List Value).drop 0).take (Tryz.prog.cellsOf 5)) = some x0 := hf 0 _ rfl
    rw [c_u8] at h0
    have h0 : DataW.trod enc Tryz.prog w 0 sp true n 5 [c0] = some x0 := h0
    have h1 : DataW.trod enc Tryz.prog w 0 sp true n 2 ((([c0, c1, c2] : List Value).drop 1).take (Tryz.prog.cellsOf 2)) = some x1 := hf 1 _ rfl
    rw [c_i64] at h1
    have h1 : DataW.trod enc Tryz.prog w 0 sp true n 2 [c1] = some x1 := h1
    have h2 : DataW.trod enc Tryz.prog w 0 sp true n 9 ((([c0, c1, c2] : List Value).drop 2).take (Tryz.prog.cellsOf 9)) = some x2 := hf 2 _ rfl
    rw [c_str] at h2
    have h2 : DataW.trod enc Tryz.prog w 0 sp true n 9 [c2] = some x2 := h2
    obtain ⟨k, e0, _, _⟩ := DataW.trod_int Tryz.underlying5 h0
    obtain ⟨n, e1, _, w1⟩ := DataW.trod_int Tryz.underlying2 h1
    obtain ⟨t, e2, d2, _⟩ := DataW.trod_string Tryz.underlying9 h2
    simp only [List.cons.injEq, and_true] at e0 e1 e2
    subst e0 e1 e2
    refine ⟨k, n, t, rfl, w1, fun hw => ?_⟩
    have h3 := sized_at (j := 2) (ds := [x0.1, x1.1, x2.1]) (by simpa only [DataW.weights, Tryz.underlying23, List.map_cons, List.map_nil] using hw) rfl rfl
    rw [d2] at h3
    have h3 : (decide (t.data.toList.length ≤ reachBytes) && true) = true := h3
    simp only [Bool.and_true, decide_eq_true_eq] at h3
    exact Nat.le_trans (Nat.le_of_eq (size_len t).symm) h3
/-- a tree, opened -/
theorem expr_open : ∀ (m : Nat) (cs : List Value) (x : DataW H × List MemPlace), DataW.trod enc Tryz.prog w 0 (fun _ => true) true m 26 cs = some x → (x.1.weights Tryz.prog 26).all (· ≤ reachBytes) = true →
    ∃ e, ExAt w (fun _ => True) e cs ∧ Tx.wide e = true := by
  intro m
  induction m using Nat.strongRecOn with
  | _ m ih =>
  intro cs x h hw
  obtain ⟨xs, n, rfl, rfl, hl, hxl, hf⟩ := DataW.trod_struct Tryz.underlying26 h
  rw [c_ex] at hl
  have hxl : xs.length = 4 := hxl
  match cs, hl, xs, hxl with
  | [c0, c1, c2, c3, c4, c5], _, [x0, x1, x2, x3], _ =>
    have h0 : DataW.trod enc Tryz.prog w 0 (fun _ => true) true n 5 ((([c0, c1, c2, c3, c4, c5] : List Value).drop 0).take (Tryz.prog.cellsOf 5)) = some x0 := hf 0 _ rfl
    rw [c_u8] at h0
    have h0 : DataW.trod enc Tryz.prog w 0 (fun _ => true) true n 5 [c0] = some x0 := h0
    have h1 : DataW.trod enc Tryz.prog w 0 (fun _ => true) true n 23 ((([c0, c1, c2, c3, c4, c5] : List Value).drop 1).take (Tryz.prog.cellsOf 23)) = some x1 := hf 1 _ rfl
    rw [c_val] at h1
    have h1 : DataW.trod enc Tryz.prog w 0 (fun _ => true) true n 23 [c1, c2, c3] = some x1 := h1
    have h2 : DataW.trod enc Tryz.prog w 0 (fun _ => true) true n 9 ((([c0, c1, c2, c3, c4, c5] : List Value).drop 4).take (Tryz.prog.cellsOf 9)) = some x2 := hf 2 _ rfl
    rw [c_str] at h2
    have h2 : DataW.trod enc Tryz.prog w 0 (fun _ => true) true n 9 [c4] = some x2 := h2
    have h3 : DataW.trod enc Tryz.prog w 0 (fun _ => true) true n 24 ((([c0, c1, c2, c3, c4, c5] : List Value).drop 5).take (Tryz.prog.cellsOf 24)) = some x3 := hf 3 _ rfl
    rw [c_exs] at h3
    have h3 : DataW.trod enc Tryz.prog w 0 (fun _ => true) true n 24 [c5] = some x3 := h3
    obtain ⟨op, e0, _, _⟩ := DataW.trod_int Tryz.underlying5 h0
    obtain ⟨k, nn, t, e1, w1, z1⟩ := val_open h1
    obtain ⟨nm, e2, d2, _⟩ := DataW.trod_string Tryz.underlying9 h2
    simp only [List.cons.injEq, and_true] at e0 e1 e2
    obtain ⟨rfl, rfl, rfl⟩ := e1
    subst e0 e2
    have hws : (DataW.weightsEach Tryz.prog [5, 23, 9, 24] [x0.1, x1.1, x2.1, x3.1]).all (· ≤ reachBytes) = true := by
      simpa only [DataW.weights, Tryz.underlying26, List.map_cons, List.map_nil] using hw
    have zt := z1 (sized_at (j := 1) hws rfl rfl)
    have zn : nm.size ≤ reachBytes := by
      have := sized_at (j := 2) hws rfl rfl
      rw [d2] at this
      have this : (decide (nm.data.toList.length ≤ reachBytes) && true) = true := this
      simp only [Bool.and_true, decide_eq_true_eq] at this
      exact Nat.le_trans (Nat.le_of_eq (size_len nm).symm) this
    have zs := sized_at (j := 3) hws rfl rfl
    obtain ⟨wf0, wf1⟩ := wf_i64 w1
    have base : ∀ (a : Option Addr) (c : Nat) (l : List Px.Ex) (ls : List Value), SlAt w (fun _ => True) a l.length c 6 ls → ExsAt w (fun _ => True) l ls → Tx.wides l = true → l.length ≤ 140737488355328 → c5 = .slice a l.length c →
        ∃ e, ExAt w (fun _ => True) e [.int .u8 op, .int .u8 k, .int .i64 nn, .string t, .string nm, c5] ∧ Tx.wide e = true := fun a c l ls hS hE hwl hll e5 => by
      subst e5
      refine ⟨.mk op k nn t.data.toList nm.data.toList l, ?_, ?_⟩
      · simp only [ExAt]
        exact ⟨a, c, ls, by simp only [exV, ba_back], hS, hE⟩
      · simp only [reachBytes] at zt zn
        simp only [Tx.wide, Bool.and_eq_true, decide_eq_true_eq, size_len]
        exact ⟨⟨hll, by omega, by omega, wf0, wf1⟩, hwl⟩
    rcases DataW.trod_slice Tryz.underlying24 h3 with ⟨e5, _⟩ | ⟨a, len, cap, elems, rest, n', hn', e5, d5, _, hlc, _, hel, hx, hrest, _⟩
    · have e5 : c5 = .slice none 0 0 := by injection e5
      exact base none 0 [] [] (SlAt.nil _ _ _) (by simp [ExsAt]) rfl (by decide) e5
    · have e5 : c5 = .slice (some a) len cap := by injection e5
      rw [c_ex] at hx hrest
      rw [d5] at zs
      simp only [DataW.weights, Tryz.underlying24, List.all_cons, List.all_append, Bool.and_eq_true, decide_eq_true_eq, List.length_map] at zs
      obtain ⟨zlen, zel, _⟩ := zs
      have hlen : len ≤ 140737488355328 := by
        have h4 : len ≤ (elems.length + rest.length) * Tryz.prog.bytesOf 26 := by
          have := Nat.mul_le_mul_left (elems.length + rest.length) b_ex
          omega
        simp only [reachBytes] at zlen
        omega
      have step : ∀ i, i < len → ∃ cs', w.cells? 0 (a.add (i * 6)) 6 = some cs' ∧ ∃ e, ExAt w (fun _ => True) e cs' ∧ Tx.wide e = true := fun i hi => by
        have h4 := hx i hi
        have h5 : i < elems.length := by omega
        rw [List.getElem?_eq_getElem h5] at h4
        obtain ⟨cs', h6, h7⟩ := Option.bind_eq_some_iff.1 h4
        exact ⟨cs', h6, ih n' (by omega) cs' _ h7 (all_mem zel _ (List.mem_map.2 ⟨_, List.getElem_mem h5, rfl⟩))⟩
      have grow : ∀ k, k ≤ len → ∃ (l : List Px.Ex) (ls : List Value), l.length = k ∧ ls.length = k * 6 ∧ ExsAt w (fun _ => True) l ls ∧ Tx.wides l = true ∧ ∀ (j : Nat) u, ls[j]? = some u → w.cell? (a.add j) = some u := by
        intro k
        induction k with
        | zero => intro _; exact ⟨[], [], rfl, rfl, by simp [ExsAt], rfl, fun j u hu => by simp at hu⟩
        | succ k ihk =>
          intro hk
          obtain ⟨l, ls, l1, l2, l3, l4, l5⟩ := ihk (by omega)
          obtain ⟨cs', c1, e, c2, c3⟩ := step k (by omega)
          obtain ⟨_, c4, c5'⟩ := World.cells?_some c1
          refine ⟨l ++ [e], ls ++ cs', by simp [l1], by simp [l2, c4]; omega, exs_snoc l3 c2, wides_snoc l4 c3, fun j u hu => ?_⟩
          rcases Nat.lt_or_ge j (k * 6) with hj | hj
          · exact l5 j u (by rwa [List.getElem?_append_left (by omega)] at hu)
          · rw [List.getElem?_append_right (by omega), l2] at hu
            have hj6 : j - k * 6 < 6 := by have := (List.getElem?_eq_some_iff.1 hu).1; omega
            have := c5' (j - k * 6) hj6
            rw [Deep.add_add, show k * 6 + (j - k * 6) = j from by omega] at this
            rw [this]; exact hu
      obtain ⟨l, ls, l1, l2, l3, l4, l5⟩ := grow len (Nat.le_refl _)
      refine base (some a) cap l ls ⟨by rw [l1, l2], by omega, ?_⟩ l3 l4 (by omega) (by rw [l1]; exact e5)
      rcases Nat.eq_zero_or_pos cap with hc | hc
      · exact .inl ⟨trivial, by omega, hc⟩
      · right
        have first : ∃ cs', w.cells? 0 (a.add (0 * 6)) 6 = some cs' := by
          rcases Nat.eq_zero_or_pos len with hl0 | hl0
          · obtain ⟨hr1, hr2⟩ := hrest rfl
            have h4 := hr2 0 (by omega)
            rw [List.getElem?_eq_getElem (by omega)] at h4
            obtain ⟨cs', h6, _⟩ := Option.bind_eq_some_iff.1 h4
            exact ⟨cs', by rw [hl0] at h6; exact h6⟩
          · obtain ⟨cs', h6, _⟩ := step 0 hl0
            exact ⟨cs', h6⟩
        obtain ⟨cs', h6⟩ := first
        obtain ⟨_, h7, h8⟩ := World.cells?_some h6
        have h9 := h8 0 (by decide)
        rw [List.getElem?_eq_getElem (by omega), Deep.add_add] at h9
        have ha : a.add (0 * 6 + 0) = a := rfl
        rw [ha] at h9
        obtain ⟨s1, s2⟩ := cell_spot h9
        refine ⟨a.block, a.off, congrArg some s1, trivial, s2, fun j u hu => ?_⟩
        have := l5 j u hu
        rw [s1, add_none] at this
        exact this
/-- a tree that is handed in -/
theorem expr_arg {v : Value} (hv : Value.okWide Tryz.prog w .any base 26 v) {d : DataW H} {ps : List MemPlace} (h : DataW.Trod enc Tryz.prog w 0 (fun _ => true) true 26 v d ps) (hw : (d.weights Tryz.prog 26).all (· ≤ reachBytes) = true) :
    ∃ (vs : List Value) (e : Px.Ex), v = .agg vs.toArray ∧ ExAt w (fun _ => True) e vs ∧ Tx.wide e = true := by
  unfold Value.okWide at hv
  rw [Tryz.underlying26] at hv
  obtain ⟨cs, rfl, _, _⟩ := hv
  obtain ⟨m, hm⟩ := h
  obtain ⟨e, h1, h2⟩ := expr_open m cs.toList _ hm hw
  exact ⟨cs.toList, e, by simp, h1, h2⟩
end
mutual
theorem exAll {w : World} : ∀ {e : Px.Ex} {vs : List Value}, ExAt w (fun _ => True) e vs → ExAt w (fun b => b < w.heap.size) e vs
  | .mk op k n t nm args, vs, h => by
    simp only [ExAt] at h ⊢
    obtain ⟨a, c, ls, h1, h2, h3⟩ := h
    refine ⟨a, c, ls, h1, ?_, exsAll h3⟩
    obtain ⟨k1, k2, k3⟩ := h2
    refine ⟨k1, k2, k3.imp id ?_⟩
    rintro ⟨b, o, e1, _, hb, hc⟩
    exact ⟨b, o, e1, hb, hb, hc⟩
theorem exsAll {w : World} : ∀ {l : List Px.Ex} {ls : List Value}, ExsAt w (fun _ => True) l ls → ExsAt w (fun b => b < w.heap.size) l ls
  | [], ls, h => by simp only [ExsAt] at h ⊢; exact h
  | e :: l, ls, h => by
    simp only [ExsAt] at h ⊢
    obtain ⟨x, m, h1, h2, h3⟩ := h
    exact ⟨x, m, h1, exAll h2, exsAll h3⟩
end
theorem exi_of {W : World} {e : Px.Ex} {vs : List Value} (h : ExAt W (fun _ => True) e vs) : ExI (Wd.of W).all e vs := exAll h
end Go.Proofs.YtckgdgkkmhochaaGreatDoor
