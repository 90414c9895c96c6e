/- VarsEnv: the walk. -/
import Derived.Test.YtamnfdmmjjekhaaVrEnvP
import Derived.Test.YtamnfdmmjjekhaaVcVars4
namespace Go.Proofs.Ytamnfdmmjjekhaa
open Go Go.RowKit Go.SF
set_option linter.unusedSimpArgs false
set_option linter.unusedVariables false
def NewSets (w0 w' : World) (v : Value) (l : List Vr.Va) : Prop := ∃ a c, v = .slice a l.length c ∧ SlAt w' (fun b => w0.heap.size ≤ b) a l.length c 4 (l.flatMap Vr.Va.enc)
theorem env_i (S : Vr.StV) (its : List Vr.It) (hl : its.length ≤ 10000) (hups : ∀ x ∈ its, (Lit.int .i64 x.up).wf = true) (cs : List Vr.Ce) (hcl : cs.length ≤ 10000) (sc : Int) (hsc : (Lit.int .i64 sc).wf = true) (W : Wd)
    (hS : SlW W.w S.i.a S.i.n S.i.c 8 (its.flatMap Vr.It.enc)) (hC : SlW W.w S.c.a S.c.n S.c.c 5 (cs.flatMap Vr.Ce.enc)) :
    CallsI Try.prog 18 #[S.val, .int .i64 sc] W.all fun v w' => NewSets W.w w' v (Vr.envL cs (Vr.way its sc)) :=
  Calls.mono (callsIn_wide.1 (env_in 6 (Nat.le_refl _) S its hl hups cs hcl sc hsc W.w hS hC)) fun e w' ⟨v, he, hr, hb⟩ => by
    subst he
    refine ⟨Keeps.of_below hb, v, rfl, ?_⟩
    rcases hr.2 with ⟨rfl, h0⟩ | ⟨g, cap, cur, rfl, _⟩
    · refine ⟨none, 0, ?_, ?_⟩
      · rw [h0]
      · have := owns_sl hr
        rw [h0] at *; exact this
    · exact ⟨_, cap, rfl, owns_sl hr⟩
theorem large_t {S : Vr.StV} (h : Vr.large S = false) : S.i.n ≤ 120 ∧ S.c.n ≤ 120 := by
  simp [Vr.large] at h
  omega
set_option maxRecDepth 100000 in
theorem lenv_q (S : Vr.StV) (its : List Vr.It) (hups : ∀ x ∈ its, (Lit.int .i64 x.up).wf = true) (cs : List Vr.Ce) (sc : Int) (hsc : (Lit.int .i64 sc).wf = true) (nm : Vr.Bs) (W : Wd)
    (hS : SlW W.w S.i.a S.i.n S.i.c 8 (its.flatMap Vr.It.enc)) (hC : SlW W.w S.c.a S.c.n S.c.c 5 (cs.flatMap Vr.Ce.enc)) :
    CallsQ Try.prog 6 #[S.val, .int .i64 sc, .string ⟨nm.toArray⟩] W (.bool true) := by
  have hS := hS.all
  have hC := hC.all
  have hin : its.length = S.i.n := by have := hS.1; rw [flat_len Vr.It.enc_len] at this; omega
  have hn : cs.length = S.c.n := by have := hC.1; rw [Vr.encs_len] at this; omega
  refine vc_lenv S.ck S.nx sc S.d.n S.d.c S.i.n S.i.c S.c.n S.c.c S.h.n S.h.c ⟨nm.toArray⟩ S.d.a S.i.a S.c.a S.h.a W.all _ ?_
  refine den_new fun m W1 _ x1 => den_call_q (fun _ _ => works_q W1) ⟨true, rfl, fun W2 x2 => ?_⟩
  simp only [Env.push, List.cons_append, List.nil_append, List.append_nil]
  have y2 := ext_trans x1 x2
  refine den_br_t rfl ?_
  refine den_call_q (fun _ _ => large_q S W2) ⟨Vr.large S, rfl, fun W3 x3 => ?_⟩
  simp only [Env.push, List.cons_append, List.nil_append, List.append_nil]
  have y3 := ext_trans y2 x3
  refine den_br (fun c1 => ?_) fun c1 => ?_
  · exact den_call_q (fun _ _ => works_q W3) ⟨true, rfl, fun W4 x4 => den_ret fun _ _ _ => ⟨_, rfl, rfl⟩⟩
  have c1 : Vr.large S = false := by simpa only [Sy.dens, Sy.den, E.i, E.b, E.t, gd, Env.push, List.cons_append, List.nil_append, List.append_nil, Int.toNat_natCast] using c1
  obtain ⟨hi, hc⟩ := large_t c1
  refine den_call_i (fun _ _ => env_i S its (by omega) hups cs (by omega) sc hsc W3 (SlAt.w (hS.ext y3)) (SlAt.w (hC.ext y3))) fun v4 w4 _ h4 => ?_
  obtain ⟨a4, c4, rfl, h4⟩ := h4
  generalize hL : Vr.envL cs (Vr.way its sc) = L at h4
  refine ExE.mk (d := { N := [L.length, c4], A := [a4] }) ⟨rfl, fun v hv => by cases hv⟩ ⟨rfl, fun W4 e4 x4 n4 => ?_⟩
  have hI4 := h4.stay e4 n4
  have y4 := ext_trans y3 x4
  simp only [Env.push, List.cons_append, List.nil_append, List.append_nil]
  refine den_call_i (fun _ _ => wayL_i S its (by omega) hups sc hsc W4 (SlAt.w (hS.ext y4))) fun v5 w5 _ h5 => ?_
  obtain ⟨a5, c5, rfl, h5⟩ := h5
  have hsum := Vr.envL_sum cs (Vr.way its sc)
  have hLl := Vr.envL_len cs (Vr.way its sc)
  have hwl := Vr.way_len its sc
  have hfind := Vr.env_find cs nm (Vr.way its sc)
  rw [← Vr.seen_eq, hL] at hfind
  rw [hL] at hsum hLl
  generalize hw : Vr.way its sc = w at h5 hsum hLl hwl
  have hLb : L.length ≤ 14400 := by
    have : w.length * cs.length ≤ 120 * 120 := Nat.mul_le_mul (by omega) (by omega)
    omega
  refine ExE.mk (d := { N := [w.length, c5], A := [a5] }) ⟨rfl, fun v hv => by cases hv⟩ ⟨rfl, fun W5 e5 x5 n5 => ?_⟩
  have hI5 := h5.stay e5 n5
  have y5 := ext_trans y4 x5
  have hI4 := hI4.ext x5
  simp only [Env.push, List.cons_append, List.nil_append, List.append_nil]
  refine den_loop (fun g vs ls _ => ∃ (i k : Nat), vs = [.int .i64 (k : Int), .int .i64 (i : Int)] ∧ ls = [] ∧ i ≤ w.length ∧ k + ((w.drop i).map fun id => (cs.filter fun x => x.sc == id).length).sum = L.length ∧ g = w.length - i) w.length ⟨0, 0, rfl, rfl, Nat.zero_le _, by simpa using hsum.symm, rfl⟩ ?_
  rintro g vs ls W6 x6 ⟨i, k, rfl, rfl, hiw, hk, rfl⟩
  refine ⟨(k : Int), (i : Int), rfl, rfl, fun _ => ?_⟩
  have y6 := ext_trans y5 x6
  have hI5 := hI5.ext x6
  have hI4 := hI4.ext x6
  simp only [Env.push, List.cons_append, List.nil_append, List.append_nil]
  refine den_br (fun d1 => ?_) fun d1 => ?_
  · simp only [Sy.dens, Sy.den, E.i, E.b, E.t, gd, Env.push, List.cons_append, List.nil_append, List.append_nil, Int.toNat_natCast, ltB_true] at d1
    have hil : i < w.length := by omega
    have hx : w[i]? = some w[i] := List.getElem?_eq_getElem hil
    have hds : w.drop i = w[i] :: w.drop (i + 1) := List.drop_eq_getElem_cons hil
    generalize w[i] = id at hx hds
    rw [hds, List.map_cons, List.sum_cons] at hk
    refine den_chk (by simp only [E.b, gd]; exact hI5.some_of (by omega)) (den_chk (chk_le (by simp only [Sy.dens, Sy.den, E.i, E.b, E.t, gd, Env.push, List.cons_append, List.nil_append, List.append_nil, Int.toNat_natCast]; omega)) (den_look ⟨id, fun W' xW => ?_, ?_⟩))
    · refine look_one (by kernel_rfl) ?_
      obtain ⟨_, _, ⟨_, z, _⟩ | ⟨bb, o, rfl, hI, hbb, hc⟩⟩ := hI5.ext xW
      · omega
      · simp only [Sy.dens, Sy.den, E.i, E.b, E.t, gd, Env.push, List.cons_append, List.nil_append, List.append_nil, Int.toNat_natCast, Option.getD_some, Nat.mul_one, Nat.add_zero]
        rw [add_none]; exact hc i _ (by simp [hx])
    simp only [Env.push, List.cons_append, List.nil_append, List.append_nil]
    refine den_grow fun W7 x7 => ?_
    have y7 := ext_trans y6 x7
    refine den_call_i (fun _ _ => cells_r S cs (by omega) id W7 (SlAt.w (hC.ext y7))) fun v8 w8 _ h8 => ?_
    obtain ⟨a8, c8, rfl, h8⟩ := h8
    refine ExE.mk (d := { N := [(cs.filter fun x => x.sc == id).length, c8], A := [a8] }) ⟨rfl, fun v hv => by cases hv⟩ ⟨rfl, fun W8 e8 x8 n8 => ?_⟩
    simp only [Env.push, List.cons_append, List.nil_append, List.append_nil]
    refine den_grow fun W9 x9 => den_again ⟨w.length - (i + 1), by omega, i + 1, k + (cs.filter fun x => x.sc == id).length, ?_, rfl, by omega, by omega, rfl⟩
    simp only [Sy.dens, Sy.den, E.i, E.b, E.t, gd, Env.push, List.cons_append, List.nil_append, List.append_nil, Int.toNat_natCast]
    rw [w64i (by omega) (by omega), w64i (by omega) (by omega)]; rfl
  · simp only [Sy.dens, Sy.den, E.i, E.b, E.t, gd, Env.push, List.cons_append, List.nil_append, List.append_nil, Int.toNat_natCast, ltB_false] at d1
    obtain rfl : i = w.length := by omega
    rw [List.drop_length] at hk
    have hk : k = L.length := by simpa using hk
    subst hk
    refine den_call_q (fun _ _ => seen_q S its (by omega) hups cs (by omega) sc hsc nm W6 (SlAt.w (hS.ext y6)) (SlAt.w (hC.ext y6))) ?_
    generalize Vr.seen its cs sc nm = s at hfind
    refine ⟨(s.getD Vr.Ce.zero).sc, (s.getD Vr.Ce.zero).v.k, (s.getD Vr.Ce.zero).v.n, s.isSome, ⟨(s.getD Vr.Ce.zero).nm.toArray⟩, ⟨(s.getD Vr.Ce.zero).v.t.toArray⟩, rfl, fun W7 x7 => ?_⟩
    simp only [Env.push, List.cons_append, List.nil_append, List.append_nil]
    refine den_new fun m1 W8 _ x8 => den_wr fun W9 x9 => ?_
    have z9 := ext_trans (ext_trans x7 x8) x9
    have hI4 := hI4.ext z9
    simp only [Env.push, List.cons_append, List.nil_append, List.append_nil]
    refine den_loop (fun g vs ls _ => ∃ i : Nat, vs = [.int .i64 (i : Int)] ∧ ls = [] ∧ i ≤ L.length ∧ (L.drop i).find? (fun v => v.nm == nm) = s.map Vr.Ce.va ∧ g = L.length - i) L.length ⟨0, rfl, rfl, Nat.zero_le _, by simpa using hfind, rfl⟩ ?_
    rintro g vs ls Wa xa ⟨i, rfl, rfl, hiL, hf, rfl⟩
    refine ⟨(i : Int), rfl, rfl, fun _ => ?_⟩
    have hI4 := hI4.ext xa
    simp only [Env.push, List.cons_append, List.nil_append, List.append_nil]
    refine den_br (fun d2 => ?_) fun d2 => ?_
    · simp only [Sy.dens, Sy.den, E.i, E.b, E.t, gd, Env.push, List.cons_append, List.nil_append, List.append_nil, Int.toNat_natCast, ltB_true] at d2
      have hil : i < L.length := by omega
      have hx : L[i]? = some L[i] := List.getElem?_eq_getElem hil
      have hds : L.drop i = L[i] :: L.drop (i + 1) := List.drop_eq_getElem_cons hil
      generalize L[i] = x at hx hds
      rw [hds, List.find?_cons] at hf
      refine den_chk (by simp only [E.b, gd]; exact hI4.some_of (by omega)) (den_chk (chk_le (by simp only [Sy.dens, Sy.den, E.i, E.b, E.t, gd, Env.push, List.cons_append, List.nil_append, List.append_nil, Int.toNat_natCast]; omega)) (den_look ⟨⟨x.nm.toArray⟩, fun W' xW => ?_, ?_⟩))
      · have := sl_look_f (P := Try.prog) Vr.Va.enc_len hI4 (t := 9) (by kernel_rfl) hx (k := 0) (by decide) (u := .string ⟨x.nm.toArray⟩) rfl xW
        simp only [Sy.dens, Sy.den, E.i, E.b, E.t, gd, Env.push, List.cons_append, List.nil_append, List.append_nil, Int.toNat_natCast, Nat.add_zero] at this ⊢
        exact this
      simp only [Env.push, List.cons_append, List.nil_append, List.append_nil]
      refine den_br (fun d3 => ?_) fun d3 => ?_
      · have d3 : x.nm = nm := by simpa [Sy.dens, Sy.den, E.i, E.b, E.t, gd, Env.push, List.cons_append, List.nil_append, List.append_nil, Int.toNat_natCast] using d3
        rw [d3] at hf
        simp only [BEq.rfl] at hf
        obtain ⟨c, rfl, rfl⟩ : ∃ c, s = some c ∧ c.va = x := by
          cases s with
          | none => simp at hf
          | some c => exact ⟨c, rfl, by simpa using hf.symm⟩
        refine den_br_t (by simp [Sy.dens, Sy.den, E.i, E.b, E.t, gd, Env.push, List.cons_append, List.nil_append, List.append_nil, Int.toNat_natCast]) (den_look ⟨c.v.k, c.v.n, ⟨c.v.t.toArray⟩, fun W' xW => ?_, ?_⟩)
        · refine look_agg (by kernel_rfl) (k := 3) (by kernel_rfl) (vs := [.int .u8 c.v.k, .int .i64 c.v.n, .string ⟨c.v.t.toArray⟩]) rfl fun j u hu => ?_
          obtain ⟨_, _, ⟨_, z, _⟩ | ⟨bb, o, rfl, hI, hbb, hc⟩⟩ := hI4.ext xW
          · omega
          · simp only [Sy.dens, Sy.den, E.i, E.b, E.t, gd, Env.push, List.cons_append, List.nil_append, List.append_nil, Int.toNat_natCast, Option.getD_some]
            have hj : j < 3 := (List.getElem?_eq_some_iff.1 hu).1
            have := hc (i * 4 + (1 + j)) u (by rw [flat_get Vr.Va.enc_len (1 + j) hx (by omega), Nat.add_comm 1 j]; exact hu)
            rw [add_none, add_none, ← this]
            congr 2
            omega
        simp only [Env.push, List.cons_append, List.nil_append, List.append_nil]
        refine den_grow fun Wb xb => den_ret fun _ _ _ => ⟨_, rfl, ?_⟩
        simp [Sy.dens, Sy.den, E.i, E.b, E.t, gd, Env.push, List.cons_append, List.nil_append, List.append_nil, Int.toNat_natCast, Sy.den, E.b]
      · have d3 : ¬ x.nm = nm := by simpa [Sy.dens, Sy.den, E.i, E.b, E.t, gd, Env.push, List.cons_append, List.nil_append, List.append_nil, Int.toNat_natCast] using d3
        have : (x.nm == nm) = false := by simpa using d3
        rw [this] at hf
        refine den_again ⟨L.length - (i + 1), by omega, i + 1, ?_, rfl, by omega, hf, rfl⟩
        simp only [Sy.dens, Sy.den, E.i, E.b, E.t, gd, Env.push, List.cons_append, List.nil_append, List.append_nil, Int.toNat_natCast]
        rw [w64i (by omega) (by omega)]; rfl
    · simp only [Sy.dens, Sy.den, E.i, E.b, E.t, gd, Env.push, List.cons_append, List.nil_append, List.append_nil, Int.toNat_natCast, ltB_false] at d2
      rw [List.drop_eq_nil_of_le (by omega)] at hf
      refine den_ret fun _ _ _ => ⟨_, rfl, ?_⟩
      cases s with
      | none => simp [Sy.dens, Sy.den, E.i, E.b, E.t, gd, Env.push, List.cons_append, List.nil_append, List.append_nil, Int.toNat_natCast, Sy.den, E.b]
      | some c => simp at hf
end Go.Proofs.Ytamnfdmmjjekhaa
