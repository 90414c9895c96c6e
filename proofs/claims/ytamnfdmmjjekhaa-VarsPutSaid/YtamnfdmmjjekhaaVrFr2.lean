/- Frames of the statements: all that a state holds. -/
import Derived.Test.YtamnfdmmjjekhaaVrFr
import Derived.Test.YtamnfdmmjjekhaaVrSame
namespace Go.Proofs.Ytamnfdmmjjekhaa
open Go Go.RowKit Go.SF Go.ChangeShapes Go.WideShapes Go.Deep
set_option linter.unusedSimpArgs false
set_option linter.unusedVariables false
set_option maxRecDepth 100000
section
variable {H : Type} {enc : TypeId × Value → H} {w : World} {base : Nat}
theorem trod_list2 {α : Type} {f : α → List Value} {sz : Nat} (hf : ∀ x, (f x).length = sz) (hz : 0 < sz) {Q : α → Prop} {P : Program} {e t : TypeId} (ht : P.underlying t = some (.slice e)) (hc : P.cellsOf e = sz) {m : Nat} {cs : List Value} {x : DataW H × List MemPlace}
    (h : DataW.trod enc P w 0 (fun _ => true) true m t cs = some x) (hD : ∀ n cs x, DataW.trod enc P w 0 (fun _ => true) true n e cs = some x → ∃ y, cs = f y ∧ Q y) :
    ∃ (a : Option Addr) (c : Nat) (l : List α), cs = [.slice a l.length c] ∧ SlI (Wd.of w).all a l.length c sz (l.flatMap f) ∧ l.length ≤ 9223372036854775807 ∧ ∀ y ∈ l, Q y := by
  obtain ⟨a, c, l, e, s, q⟩ := trod_list hf hz ht hc h hD
  refine ⟨a, c, l, e, SlW.all (W := Wd.of w) s, ?_, q⟩
  rcases DataW.trod_slice ht h with ⟨e5, _⟩ | ⟨a', len, cap, elems, rest, n', hn', e5, d5, _, hlc, hcm, _⟩
  · rw [e] at e5
    simp only [List.cons.injEq, and_true] at e5
    injection e5 with _ e6 _
    omega
  · rw [e] at e5
    simp only [List.cons.injEq, and_true] at e5
    injection e5 with _ e6 _
    simp only [maxLen] at hcm
    omega
theorem c_b : Try.prog.cellsOf 4 = 1 := by kernel_rfl
theorem c_lv : Try.prog.cellsOf 28 = 1 := by kernel_rfl
theorem c_ls : Try.prog.cellsOf 98 = 1 := by kernel_rfl
theorem c_ln : Try.prog.cellsOf 81 = 1 := by kernel_rfl
theorem c_lf : Try.prog.cellsOf 82 = 1 := by kernel_rfl
theorem c_node : Try.prog.cellsOf 100 = 11 := by kernel_rfl
theorem c_flow : Try.prog.cellsOf 103 = 4 := by kernel_rfl
theorem c_proc : Try.prog.cellsOf 84 = 4 := by kernel_rfl
theorem c_watch : Try.prog.cellsOf 86 = 7 := by kernel_rfl
theorem text_open {m : Nat} {cs : List Value} {x : DataW H × List MemPlace} (h : DataW.trod enc Try.prog w 0 (fun _ => true) true m 9 cs = some x) : ∃ s : Vr.Bs, cs = Vr.txt s ∧ True := by
  obtain ⟨t, e, _, _⟩ := DataW.trod_string Try.underlying9 h
  exact ⟨t.data.toList, by simp only [Vr.txt, ba_back, e], trivial⟩

theorem flow_open {m : Nat} {cs : List Value} {x : DataW H × List MemPlace} (h : DataW.trod enc Try.prog w 0 (fun _ => true) true m 103 cs = some x) : ∃ y : Vr.Fl, cs = y.enc ∧ True := by
  obtain ⟨xs, n, rfl, rfl, hl, hxl, hf⟩ := DataW.trod_struct Try.underlying103 h
  rw [c_flow] at hl
  have hxl : xs.length = 4 := hxl
  match cs, hl, xs, hxl with
  | [c0, c1, c2, c3], _, [x0, x1, x2, x3], _ =>
    have h0 : DataW.trod enc Try.prog w 0 (fun _ => true) true n 3 ((([c0, c1, c2, c3] : List Value).drop 0).take (Try.prog.cellsOf 3)) = some x0 := hf 0 _ rfl
    rw [c_i] at h0
    have h0 : DataW.trod enc Try.prog w 0 (fun _ => true) true n 3 [c0] = some x0 := h0
    have h1 : DataW.trod enc Try.prog w 0 (fun _ => true) true n 3 ((([c0, c1, c2, c3] : List Value).drop 1).take (Try.prog.cellsOf 3)) = some x1 := hf 1 _ rfl
    rw [c_i] at h1
    have h1 : DataW.trod enc Try.prog w 0 (fun _ => true) true n 3 [c1] = some x1 := h1
    have h2 : DataW.trod enc Try.prog w 0 (fun _ => true) true n 9 ((([c0, c1, c2, c3] : List Value).drop 2).take (Try.prog.cellsOf 9)) = some x2 := hf 2 _ rfl
    rw [c_str] at h2
    have h2 : DataW.trod enc Try.prog w 0 (fun _ => true) true n 9 [c2] = some x2 := h2
    have h3 : DataW.trod enc Try.prog w 0 (fun _ => true) true n 4 ((([c0, c1, c2, c3] : List Value).drop 3).take (Try.prog.cellsOf 4)) = some x3 := hf 3 _ rfl
    rw [c_b] at h3
    have h3 : DataW.trod enc Try.prog w 0 (fun _ => true) true n 4 [c3] = some x3 := h3
    obtain ⟨v0, e0, _, w0⟩ := DataW.trod_int Try.underlying3 h0
    obtain ⟨v1, e1, _, w1⟩ := DataW.trod_int Try.underlying3 h1
    obtain ⟨v2, e2, _, w2⟩ := DataW.trod_string Try.underlying9 h2
    obtain ⟨v3, e3, _⟩ := DataW.trod_bool Try.underlying4 h3
    simp only [List.cons.injEq, and_true] at e0 e1 e2 e3
    subst e0 e1 e2 e3
    exact ⟨⟨v0, v1, v2.data.toList, v3⟩, by simp only [Vr.Fl.enc, ba_back], trivial⟩

theorem watch_open {m : Nat} {cs : List Value} {x : DataW H × List MemPlace} (h : DataW.trod enc Try.prog w 0 (fun _ => true) true m 86 cs = some x) : ∃ y : Vr.Wa, cs = y.enc ∧ True := by
  obtain ⟨xs, n, rfl, rfl, hl, hxl, hf⟩ := DataW.trod_struct Try.underlying86 h
  rw [c_watch] at hl
  have hxl : xs.length = 7 := hxl
  match cs, hl, xs, hxl with
  | [c0, c1, c2, c3, c4, c5, c6], _, [x0, x1, x2, x3, x4, x5, x6], _ =>
    have h0 : DataW.trod enc Try.prog w 0 (fun _ => true) true n 3 ((([c0, c1, c2, c3, c4, c5, c6] : List Value).drop 0).take (Try.prog.cellsOf 3)) = some x0 := hf 0 _ rfl
    rw [c_i] at h0
    have h0 : DataW.trod enc Try.prog w 0 (fun _ => true) true n 3 [c0] = some x0 := h0
    have h1 : DataW.trod enc Try.prog w 0 (fun _ => true) true n 3 ((([c0, c1, c2, c3, c4, c5, c6] : List Value).drop 1).take (Try.prog.cellsOf 3)) = some x1 := hf 1 _ rfl
    rw [c_i] at h1
    have h1 : DataW.trod enc Try.prog w 0 (fun _ => true) true n 3 [c1] = some x1 := h1
    have h2 : DataW.trod enc Try.prog w 0 (fun _ => true) true n 3 ((([c0, c1, c2, c3, c4, c5, c6] : List Value).drop 2).take (Try.prog.cellsOf 3)) = some x2 := hf 2 _ rfl
    rw [c_i] at h2
    have h2 : DataW.trod enc Try.prog w 0 (fun _ => true) true n 3 [c2] = some x2 := h2
    have h3 : DataW.trod enc Try.prog w 0 (fun _ => true) true n 5 ((([c0, c1, c2, c3, c4, c5, c6] : List Value).drop 3).take (Try.prog.cellsOf 5)) = some x3 := hf 3 _ rfl
    rw [c_u8] at h3
    have h3 : DataW.trod enc Try.prog w 0 (fun _ => true) true n 5 [c3] = some x3 := h3
    have h4 : DataW.trod enc Try.prog w 0 (fun _ => true) true n 9 ((([c0, c1, c2, c3, c4, c5, c6] : List Value).drop 4).take (Try.prog.cellsOf 9)) = some x4 := hf 4 _ rfl
    rw [c_str] at h4
    have h4 : DataW.trod enc Try.prog w 0 (fun _ => true) true n 9 [c4] = some x4 := h4
    have h5 : DataW.trod enc Try.prog w 0 (fun _ => true) true n 3 ((([c0, c1, c2, c3, c4, c5, c6] : List Value).drop 5).take (Try.prog.cellsOf 3)) = some x5 := hf 5 _ rfl
    rw [c_i] at h5
    have h5 : DataW.trod enc Try.prog w 0 (fun _ => true) true n 3 [c5] = some x5 := h5
    have h6 : DataW.trod enc Try.prog w 0 (fun _ => true) true n 4 ((([c0, c1, c2, c3, c4, c5, c6] : List Value).drop 6).take (Try.prog.cellsOf 4)) = some x6 := hf 6 _ rfl
    rw [c_b] at h6
    have h6 : DataW.trod enc Try.prog w 0 (fun _ => true) true n 4 [c6] = some x6 := h6
    obtain ⟨v0, e0, _, w0⟩ := DataW.trod_int Try.underlying3 h0
    obtain ⟨v1, e1, _, w1⟩ := DataW.trod_int Try.underlying3 h1
    obtain ⟨v2, e2, _, w2⟩ := DataW.trod_int Try.underlying3 h2
    obtain ⟨v3, e3, _, w3⟩ := DataW.trod_int Try.underlying5 h3
    obtain ⟨v4, e4, _, w4⟩ := DataW.trod_string Try.underlying9 h4
    obtain ⟨v5, e5, _, w5⟩ := DataW.trod_int Try.underlying3 h5
    obtain ⟨v6, e6, _⟩ := DataW.trod_bool Try.underlying4 h6
    simp only [List.cons.injEq, and_true] at e0 e1 e2 e3 e4 e5 e6
    subst e0 e1 e2 e3 e4 e5 e6
    exact ⟨⟨v0, v1, v2, v3, v4.data.toList, v5, v6⟩, by simp only [Vr.Wa.enc, ba_back], trivial⟩

theorem node_open {m : Nat} {cs : List Value} {x : DataW H × List MemPlace} (h : DataW.trod enc Try.prog w 0 (fun _ => true) true m 100 cs = some x) : ∃ y : Vr.Nd, cs = y.enc ∧ QNd (Wd.of w).all y := by
  obtain ⟨xs, n, rfl, rfl, hl, hxl, hf⟩ := DataW.trod_struct Try.underlying100 h
  rw [c_node] at hl
  have hxl : xs.length = 11 := hxl
  match cs, hl, xs, hxl with
  | [c0, c1, c2, c3, c4, c5, c6, c7, c8, c9, c10], _, [x0, x1, x2, x3, x4, x5, x6, x7, x8, x9, x10], _ =>
    have h0 : DataW.trod enc Try.prog w 0 (fun _ => true) true n 9 ((([c0, c1, c2, c3, c4, c5, c6, c7, c8, c9, c10] : List Value).drop 0).take (Try.prog.cellsOf 9)) = some x0 := hf 0 _ rfl
    rw [c_str] at h0
    have h0 : DataW.trod enc Try.prog w 0 (fun _ => true) true n 9 [c0] = some x0 := h0
    have h1 : DataW.trod enc Try.prog w 0 (fun _ => true) true n 5 ((([c0, c1, c2, c3, c4, c5, c6, c7, c8, c9, c10] : List Value).drop 1).take (Try.prog.cellsOf 5)) = some x1 := hf 1 _ rfl
    rw [c_u8] at h1
    have h1 : DataW.trod enc Try.prog w 0 (fun _ => true) true n 5 [c1] = some x1 := h1
    have h2 : DataW.trod enc Try.prog w 0 (fun _ => true) true n 3 ((([c0, c1, c2, c3, c4, c5, c6, c7, c8, c9, c10] : List Value).drop 2).take (Try.prog.cellsOf 3)) = some x2 := hf 2 _ rfl
    rw [c_i] at h2
    have h2 : DataW.trod enc Try.prog w 0 (fun _ => true) true n 3 [c2] = some x2 := h2
    have h3 : DataW.trod enc Try.prog w 0 (fun _ => true) true n 3 ((([c0, c1, c2, c3, c4, c5, c6, c7, c8, c9, c10] : List Value).drop 3).take (Try.prog.cellsOf 3)) = some x3 := hf 3 _ rfl
    rw [c_i] at h3
    have h3 : DataW.trod enc Try.prog w 0 (fun _ => true) true n 3 [c3] = some x3 := h3
    have h4 : DataW.trod enc Try.prog w 0 (fun _ => true) true n 5 ((([c0, c1, c2, c3, c4, c5, c6, c7, c8, c9, c10] : List Value).drop 4).take (Try.prog.cellsOf 5)) = some x4 := hf 4 _ rfl
    rw [c_u8] at h4
    have h4 : DataW.trod enc Try.prog w 0 (fun _ => true) true n 5 [c4] = some x4 := h4
    have h5 : DataW.trod enc Try.prog w 0 (fun _ => true) true n 9 ((([c0, c1, c2, c3, c4, c5, c6, c7, c8, c9, c10] : List Value).drop 5).take (Try.prog.cellsOf 9)) = some x5 := hf 5 _ rfl
    rw [c_str] at h5
    have h5 : DataW.trod enc Try.prog w 0 (fun _ => true) true n 9 [c5] = some x5 := h5
    have h6 : DataW.trod enc Try.prog w 0 (fun _ => true) true n 9 ((([c0, c1, c2, c3, c4, c5, c6, c7, c8, c9, c10] : List Value).drop 6).take (Try.prog.cellsOf 9)) = some x6 := hf 6 _ rfl
    rw [c_str] at h6
    have h6 : DataW.trod enc Try.prog w 0 (fun _ => true) true n 9 [c6] = some x6 := h6
    have h7 : DataW.trod enc Try.prog w 0 (fun _ => true) true n 9 ((([c0, c1, c2, c3, c4, c5, c6, c7, c8, c9, c10] : List Value).drop 7).take (Try.prog.cellsOf 9)) = some x7 := hf 7 _ rfl
    rw [c_str] at h7
    have h7 : DataW.trod enc Try.prog w 0 (fun _ => true) true n 9 [c7] = some x7 := h7
    have h8 : DataW.trod enc Try.prog w 0 (fun _ => true) true n 4 ((([c0, c1, c2, c3, c4, c5, c6, c7, c8, c9, c10] : List Value).drop 8).take (Try.prog.cellsOf 4)) = some x8 := hf 8 _ rfl
    rw [c_b] at h8
    have h8 : DataW.trod enc Try.prog w 0 (fun _ => true) true n 4 [c8] = some x8 := h8
    have h9 : DataW.trod enc Try.prog w 0 (fun _ => true) true n 28 ((([c0, c1, c2, c3, c4, c5, c6, c7, c8, c9, c10] : List Value).drop 9).take (Try.prog.cellsOf 28)) = some x9 := hf 9 _ rfl
    rw [c_lv] at h9
    have h9 : DataW.trod enc Try.prog w 0 (fun _ => true) true n 28 [c9] = some x9 := h9
    have h10 : DataW.trod enc Try.prog w 0 (fun _ => true) true n 98 ((([c0, c1, c2, c3, c4, c5, c6, c7, c8, c9, c10] : List Value).drop 10).take (Try.prog.cellsOf 98)) = some x10 := hf 10 _ rfl
    rw [c_ls] at h10
    have h10 : DataW.trod enc Try.prog w 0 (fun _ => true) true n 98 [c10] = some x10 := h10
    obtain ⟨v0, e0, _, w0⟩ := DataW.trod_string Try.underlying9 h0
    obtain ⟨v1, e1, _, w1⟩ := DataW.trod_int Try.underlying5 h1
    obtain ⟨v2, e2, _, w2⟩ := DataW.trod_int Try.underlying3 h2
    obtain ⟨v3, e3, _, w3⟩ := DataW.trod_int Try.underlying3 h3
    obtain ⟨v4, e4, _, w4⟩ := DataW.trod_int Try.underlying5 h4
    obtain ⟨v5, e5, _, w5⟩ := DataW.trod_string Try.underlying9 h5
    obtain ⟨v6, e6, _, w6⟩ := DataW.trod_string Try.underlying9 h6
    obtain ⟨v7, e7, _, w7⟩ := DataW.trod_string Try.underlying9 h7
    obtain ⟨v8, e8, _⟩ := DataW.trod_bool Try.underlying4 h8
    obtain ⟨a9, k9, l9, e9, s9, z9, q9⟩ := trod_list2 Vr.Va.enc_len (by decide) Try.underlying28 c_var h9 (fun _ _ _ h => var_open h)
    obtain ⟨a10, k10, l10, e10, s10, z10, q10⟩ := trod_list2 Vr.txt_len (by decide) Try.underlying98 c_str h10 (fun _ _ _ h => text_open h)
    simp only [List.cons.injEq, and_true] at e0 e1 e2 e3 e4 e5 e6 e7 e8 e9 e10
    subst e0 e1 e2 e3 e4 e5 e6 e7 e8 e9 e10
    exact ⟨⟨v0.data.toList, v1, v2, v3, v4, v5.data.toList, v6.data.toList, v7.data.toList, v8, ⟨a9, l9.length, k9⟩, ⟨a10, l10.length, k10⟩⟩, by simp only [Vr.Nd.enc, Vr.Sl.val, ba_back], ⟨l9, z9, s9⟩, l10, z10, s10⟩

theorem proc_open {m : Nat} {cs : List Value} {x : DataW H × List MemPlace} (h : DataW.trod enc Try.prog w 0 (fun _ => true) true m 84 cs = some x) : ∃ y : Vr.Pr, cs = y.enc ∧ QPr (Wd.of w).all y := by
  obtain ⟨xs, n, rfl, rfl, hl, hxl, hf⟩ := DataW.trod_struct Try.underlying84 h
  rw [c_proc] at hl
  have hxl : xs.length = 4 := hxl
  match cs, hl, xs, hxl with
  | [c0, c1, c2, c3], _, [x0, x1, x2, x3], _ =>
    have h0 : DataW.trod enc Try.prog w 0 (fun _ => true) true n 9 ((([c0, c1, c2, c3] : List Value).drop 0).take (Try.prog.cellsOf 9)) = some x0 := hf 0 _ rfl
    rw [c_str] at h0
    have h0 : DataW.trod enc Try.prog w 0 (fun _ => true) true n 9 [c0] = some x0 := h0
    have h1 : DataW.trod enc Try.prog w 0 (fun _ => true) true n 28 ((([c0, c1, c2, c3] : List Value).drop 1).take (Try.prog.cellsOf 28)) = some x1 := hf 1 _ rfl
    rw [c_lv] at h1
    have h1 : DataW.trod enc Try.prog w 0 (fun _ => true) true n 28 [c1] = some x1 := h1
    have h2 : DataW.trod enc Try.prog w 0 (fun _ => true) true n 81 ((([c0, c1, c2, c3] : List Value).drop 2).take (Try.prog.cellsOf 81)) = some x2 := hf 2 _ rfl
    rw [c_ln] at h2
    have h2 : DataW.trod enc Try.prog w 0 (fun _ => true) true n 81 [c2] = some x2 := h2
    have h3 : DataW.trod enc Try.prog w 0 (fun _ => true) true n 82 ((([c0, c1, c2, c3] : List Value).drop 3).take (Try.prog.cellsOf 82)) = some x3 := hf 3 _ rfl
    rw [c_lf] at h3
    have h3 : DataW.trod enc Try.prog w 0 (fun _ => true) true n 82 [c3] = some x3 := h3
    obtain ⟨v0, e0, _, w0⟩ := DataW.trod_string Try.underlying9 h0
    obtain ⟨a1, k1, l1, e1, s1, z1, q1⟩ := trod_list2 Vr.Va.enc_len (by decide) Try.underlying28 c_var h1 (fun _ _ _ h => var_open h)
    obtain ⟨a2, k2, l2, e2, s2, z2, q2⟩ := trod_list2 Vr.Nd.enc_len (by decide) Try.underlying81 c_node h2 (fun _ _ _ h => node_open h)
    obtain ⟨a3, k3, l3, e3, s3, z3, q3⟩ := trod_list2 Vr.Fl.enc_len (by decide) Try.underlying82 c_flow h3 (fun _ _ _ h => flow_open h)
    simp only [List.cons.injEq, and_true] at e0 e1 e2 e3
    subst e0 e1 e2 e3
    exact ⟨⟨v0.data.toList, ⟨a1, l1.length, k1⟩, ⟨a2, l2.length, k2⟩, ⟨a3, l3.length, k3⟩⟩, by simp only [Vr.Pr.enc, Vr.Sl.val, ba_back], ⟨l1, z1, s1⟩, ⟨l2, z2, s2, q2⟩, l3, z3, s3⟩

/-- a state, opened, all of it -/
theorem state2_open {m : Nat} {cs : List Value} {x : DataW H × List MemPlace} (h : DataW.trod enc Try.prog w 0 (fun _ => true) true m 27 cs = some x) : ∃ (S : Vr.StV) (its : List Vr.It) (ce : List Vr.Ce), cs = [.int .i64 S.ck, .int .i64 S.nx, .slice S.d.a S.d.n S.d.c, .slice S.i.a S.i.n S.i.c, .slice S.c.a S.c.n S.c.c, .slice S.h.a S.h.n S.h.c] ∧
    SlW w S.i.a S.i.n S.i.c 8 (its.flatMap Vr.It.enc) ∧ SlW w S.c.a S.c.n S.c.c 5 (ce.flatMap Vr.Ce.enc) ∧ (∀ y ∈ its, (Lit.int .i64 y.up).wf = true) ∧ QSt (Wd.of w).all S := by
  obtain ⟨xs, n, rfl, rfl, hl, hxl, hf⟩ := DataW.trod_struct Try.underlying27 h
  rw [c_state] at hl
  have hxl : xs.length = 6 := hxl
  match cs, hl, xs, hxl with
  | [c0, c1, c2, c3, c4, c5], _, [x0, x1, x2, x3, x4, x5], _ =>
    have h0 : DataW.trod enc Try.prog w 0 (fun _ => true) true n 3 ((([c0, c1, c2, c3, c4, c5] : List Value).drop 0).take (Try.prog.cellsOf 3)) = some x0 := hf 0 _ rfl
    rw [c_i] at h0
    have h0 : DataW.trod enc Try.prog w 0 (fun _ => true) true n 3 [c0] = some x0 := h0
    have h1 : DataW.trod enc Try.prog w 0 (fun _ => true) true n 3 ((([c0, c1, c2, c3, c4, c5] : List Value).drop 1).take (Try.prog.cellsOf 3)) = some x1 := hf 1 _ rfl
    rw [c_i] at h1
    have h1 : DataW.trod enc Try.prog w 0 (fun _ => true) true n 3 [c1] = some x1 := h1
    have h2 : DataW.trod enc Try.prog w 0 (fun _ => true) true n 22 ((([c0, c1, c2, c3, c4, c5] : List Value).drop 2).take (Try.prog.cellsOf 22)) = some x2 := hf 2 _ rfl
    rw [c_sd] at h2
    have h2 : DataW.trod enc Try.prog w 0 (fun _ => true) true n 22 [c2] = some x2 := h2
    have h3 : DataW.trod enc Try.prog w 0 (fun _ => true) true n 23 ((([c0, c1, c2, c3, c4, c5] : List Value).drop 3).take (Try.prog.cellsOf 23)) = some x3 := hf 3 _ rfl
    rw [c_si] at h3
    have h3 : DataW.trod enc Try.prog w 0 (fun _ => true) true n 23 [c3] = some x3 := h3
    have h4 : DataW.trod enc Try.prog w 0 (fun _ => true) true n 24 ((([c0, c1, c2, c3, c4, c5] : List Value).drop 4).take (Try.prog.cellsOf 24)) = some x4 := hf 4 _ rfl
    rw [c_sc] at h4
    have h4 : DataW.trod enc Try.prog w 0 (fun _ => true) true n 24 [c4] = some x4 := h4
    have h5 : DataW.trod enc Try.prog w 0 (fun _ => true) true n 25 ((([c0, c1, c2, c3, c4, c5] : List Value).drop 5).take (Try.prog.cellsOf 25)) = some x5 := hf 5 _ rfl
    rw [c_sh] at h5
    have h5 : DataW.trod enc Try.prog w 0 (fun _ => true) true n 25 [c5] = some x5 := h5
    obtain ⟨v0, e0, _, w0⟩ := DataW.trod_int Try.underlying3 h0
    obtain ⟨v1, e1, _, w1⟩ := DataW.trod_int Try.underlying3 h1
    obtain ⟨a2, k2, l2, e2, s2, z2, q2⟩ := trod_list2 Vr.Pr.enc_len (by decide) Try.underlying22 c_proc h2 (fun _ _ _ h => proc_open h)
    obtain ⟨a3, k3, l3, e3, s3, z3, q3⟩ := trod_list2 Vr.It.enc_len (by decide) Try.underlying23 c_item h3 (fun _ _ _ h => item_open h)
    obtain ⟨a4, k4, l4, e4, s4, z4, q4⟩ := trod_list2 Vr.Ce.enc_len (by decide) Try.underlying24 c_cell h4 (fun _ _ _ h => cell_open h)
    obtain ⟨a5, k5, l5, e5, s5, z5, q5⟩ := trod_list2 Vr.Wa.enc_len (by decide) Try.underlying25 c_watch h5 (fun _ _ _ h => watch_open h)
    simp only [List.cons.injEq, and_true] at e0 e1 e2 e3 e4 e5
    subst e0 e1 e2 e3 e4 e5
    exact ⟨⟨v0, v1, ⟨a2, l2.length, k2⟩, ⟨a3, l3.length, k3⟩, ⟨a4, l4.length, k4⟩, ⟨a5, l5.length, k5⟩⟩, l3, l4, rfl, SlAt.w s3, SlAt.w s4, q3, ⟨l2, z2, s2, q2⟩, l5, z5, s5⟩

theorem state2_arg {v : Value} (hv : Value.okWide Try.prog w .any base 27 v) {d : DataW H} {ps : List MemPlace} (h : DataW.Trod enc Try.prog w 0 (fun _ => true) true 27 v d ps) : ∃ (S : Vr.StV) (its : List Vr.It) (ce : List Vr.Ce), v = S.val ∧
    SlW w S.i.a S.i.n S.i.c 8 (its.flatMap Vr.It.enc) ∧ SlW w S.c.a S.c.n S.c.c 5 (ce.flatMap Vr.Ce.enc) ∧ (∀ y ∈ its, (Lit.int .i64 y.up).wf = true) ∧ QSt (Wd.of w).all S := by
  unfold Value.okWide at hv
  rw [Try.underlying27] at hv
  obtain ⟨cs, rfl, _, _⟩ := hv
  obtain ⟨m, hm⟩ := h
  obtain ⟨S, its, ce, hy, r⟩ := state2_open hm
  have hy : cs.toList = _ := hy
  exact ⟨S, its, ce, by unfold Vr.StV.val; rw [← Array.toArray_toList (xs := cs), hy], r⟩
end
end Go.Proofs.Ytamnfdmmjjekhaa
