/- VarsNearest: the walk (printed by gen_vrnear.py). -/
import Derived.Test.YtamnfdmmjjekhaaVrNearP
import Derived.Test.YtamnfdmmjjekhaaVrLEnv
import Derived.Test.YtamnfdmmjjekhaaVcVars5
namespace Go.Proofs.Ytamnfdmmjjekhaa
open Go Go.RowKit Go.SF
set_option linter.unusedSimpArgs false
set_option linter.unusedVariables false
set_option maxRecDepth 100000 in
theorem lnear_q (S : Vr.StV) (its : List Vr.It) (hups : ∀ x ∈ its, (Lit.int .i64 x.up).wf = true) (cs : List Vr.Ce) (sc : Int) (hsc : (Lit.int .i64 sc).wf = true) (ot : Int) (hot : (Lit.int .i64 ot).wf = true) (vs : List Vr.Va) (Z : Vr.Sl) (nm : Vr.Bs) (W : Wd)
    (hS : SlW W.w S.i.a S.i.n S.i.c 8 (its.flatMap Vr.It.enc)) (hC : SlW W.w S.c.a S.c.n S.c.c 5 (cs.flatMap Vr.Ce.enc)) (hZ : SlW W.w Z.a Z.n Z.c 4 (vs.flatMap Vr.Va.enc)) :
    CallsQ Try.prog 3 #[S.val, .int .i64 sc, .int .i64 ot, Z.val, .string ⟨nm.toArray⟩] W (.bool true) := by
  have hS := hS.all
  have hC := hC.all
  have hZ := hZ.all
  have hin : its.length = S.i.n := by have := hS.1; rw [flat_len Vr.It.enc_len] at this; omega
  have hn : cs.length = S.c.n := by have := hC.1; rw [Vr.encs_len] at this; omega
  have hzn : vs.length = Z.n := by have := hZ.1; rw [flat_len Vr.Va.enc_len] at this; omega
  refine vc_lnear S.ck S.nx sc ot S.d.n S.d.c S.i.n S.i.c S.c.n S.c.c S.h.n S.h.c Z.n Z.c ⟨nm.toArray⟩ S.d.a S.i.a S.c.a S.h.a Z.a W.all _ ?_
  refine den_new fun m W1 _ x1 => den_call_q (fun _ _ => works_q W1) ⟨true, rfl, fun W2 x2 => ?_⟩
  simp only [Env.push, List.cons_append, List.nil_append, List.append_nil]
  have y2 := ext_trans x1 x2
  refine den_br_t rfl ?_
  refine den_call_q (fun _ _ => large_q S W2) ⟨Vr.large S, rfl, fun W3 x3 => ?_⟩
  simp only [Env.push, List.cons_append, List.nil_append, List.append_nil]
  have y3 := ext_trans y2 x3
  refine den_br (fun c1 => ?_) fun c1 => ?_
  · exact den_call_q (fun _ _ => works_q W3) ⟨true, rfl, fun W4 x4 => den_ret fun _ _ _ => ⟨_, rfl, rfl⟩⟩
  have c1 : Vr.large S = false ∧ Z.n ≤ 50 := by
    simp only [Sy.dens, Sy.den, E.i, E.b, E.t, gd, Env.push, List.cons_append, List.nil_append, List.append_nil, Int.toNat_natCast, Bool.or_eq_false_iff] at c1
    refine ⟨c1.1, ?_⟩
    have := c1.2
    rw [ltB_false] at this
    omega
  obtain ⟨hi, hc⟩ := large_t c1.1
  have hz50 := c1.2
  have hS := hS.ext y3
  have hC := hC.ext y3
  have hZ := hZ.ext y3
  refine den_call_i (fun _ _ => open_i S cs (by omega) vs (by omega) sc Z W3 (SlAt.w hC) (SlAt.w hZ)) fun v4 w4 _ h4 => ?_
  obtain ⟨r, hr, ar, cr, rfl, hR⟩ := h4
  have hrl : r.length ≤ 1000 := by
    have h1 := hr.len
    have h2 := Vr.opened_len sc vs cs
    omega
  refine ExE.mk (d := { I := [S.ck, S.nx], N := [S.d.n, S.d.c, S.i.n, S.i.c, r.length, cr, S.h.n, S.h.c], A := [S.d.a, S.i.a, ar, S.h.a] }) ⟨rfl, fun v hv => by cases hv⟩ ⟨rfl, fun W4 e4 x4 n4 => ?_⟩
  have hR := hR.stay e4 n4
  have hS := hS.ext x4
  have hC := hC.ext x4
  have hZ := hZ.ext x4
  simp only [Env.push, List.cons_append, List.nil_append, List.append_nil]
  refine den_new fun m1 W5 _ x5 => den_wr fun W6 x6 => ?_
  have z6 := ext_trans x5 x6
  have hR := hR.ext z6
  have hS := hS.ext z6
  have hC := hC.ext z6
  have hZ := hZ.ext z6
  simp only [Env.push, List.cons_append, List.nil_append, List.append_nil]
  refine den_call_i (fun _ _ => wayL_i S its (by omega) hups sc hsc W6 (SlAt.w hS)) fun v5 w5 _ h5 => ?_
  obtain ⟨a5, c5, rfl, h5⟩ := h5
  have hown := fun hw nm v hv => Vr.near_own (its := its) hr hw (nm := nm) (v := v) hv
  generalize hw : Vr.way its sc = w at h5 hown
  refine ExE.mk (d := { N := [w.length, c5], A := [a5] }) ⟨rfl, fun v hv => by cases hv⟩ ⟨rfl, fun WT e7 x7 n7 => ?_⟩
  have hR := hR.ext x7
  have hS := hS.ext x7
  have hC := hC.ext x7
  have hZ := hZ.ext x7
  simp only [Env.push, List.cons_append, List.nil_append, List.append_nil]
  refine den_br (fun c2 => ?_) fun c2 => ?_
  · simp only [Sy.dens, Sy.den, E.i, E.b, E.t, gd, Env.push, List.cons_append, List.nil_append, List.append_nil, Int.toNat_natCast, ltB_true] at c2
    have hown := hown (by rintro rfl; simp at c2)
    refine den_loop (fun g ws ls _ => ∃ i : Int, ws = [.int .i64 i] ∧ ls = [] ∧ -1 ≤ i ∧ i < vs.length ∧ g = (i + 1).toNat) vs.length ⟨(vs.length : Int) - 1, by simp only [Sy.dens, Sy.den, E.i, E.b, E.t, gd, Env.push, List.cons_append, List.nil_append, List.append_nil, Int.toNat_natCast]; rw [w64i (by omega) (by omega), hzn], rfl, by omega, by omega, by omega⟩ ?_
    rintro g ws ls WT x8 ⟨i, rfl, rfl, hi0, hi1, rfl⟩
    refine ⟨i, rfl, rfl, fun _ => ?_⟩
    have hR := hR.ext x8
    have hS := hS.ext x8
    have hC := hC.ext x8
    have hZ := hZ.ext x8
    simp only [Env.push, List.cons_append, List.nil_append, List.append_nil]
    refine den_br (fun c3 => ?_) fun c3 => ?_
    · have c3 : 0 ≤ i := by simp only [Sy.dens, Sy.den, E.i, E.b, E.t, gd, Env.push, List.cons_append, List.nil_append, List.append_nil, Int.toNat_natCast, leB] at c3; exact of_decide_eq_true c3
      obtain ⟨n, rfl⟩ : ∃ n : Nat, i = (n : Int) := ⟨i.toNat, by omega⟩
      have hx : vs[n]? = some (vs[n]'(by omega)) := List.getElem?_eq_getElem (by omega)
      generalize vs[n]'(by omega) = x at hx
      refine den_loop (fun g ws ls _ => ∃ (f : Nat) (k : Int), ws = [.int .i64 (f : Int), .int .i64 k] ∧ ls = [] ∧ -1 ≤ k ∧ k ≤ n ∧ f ≤ n ∧ (∃ y, vs[f]? = some y ∧ y.nm = x.nm) ∧ (∀ (j : Nat) u, k < j → j < f → vs[j]? = some u → u.nm ≠ x.nm) ∧ g = (k + 1).toNat) (n + 1) ⟨n, n, rfl, rfl, by omega, Int.le_refl _, Nat.le_refl _, ⟨x, hx, rfl⟩, fun j u h1 h2 => by omega, by omega⟩ ?_
      rintro g ws ls W9 x9 ⟨f, k, rfl, rfl, hk0, hk1, hf, ⟨y, hy, hyn⟩, hb, rfl⟩
      refine ⟨(f : Int), k, rfl, rfl, fun _ => ?_⟩
      have hR := hR.ext x9
      have hS := hS.ext x9
      have hC := hC.ext x9
      have hZ := hZ.ext x9
      simp only [Env.push, List.cons_append, List.nil_append, List.append_nil]
      refine den_br (fun c4 => ?_) fun c4 => ?_
      · have c4 : 0 ≤ k := by simp only [Sy.dens, Sy.den, E.i, E.b, E.t, gd, Env.push, List.cons_append, List.nil_append, List.append_nil, Int.toNat_natCast, leB] at c4; exact of_decide_eq_true c4
        obtain ⟨j, rfl⟩ : ∃ j : Nat, k = (j : Int) := ⟨k.toNat, by omega⟩
        have hu : vs[j]? = some (vs[j]'(by omega)) := List.getElem?_eq_getElem (by omega)
        generalize vs[j]'(by omega) = u at hu
        refine den_chk (by simp only [E.b, gd]; exact hZ.some_of (by omega)) (den_chk (chk_lt (by simp only [Sy.dens, Sy.den, E.i, E.b, E.t, gd, Env.push, List.cons_append, List.nil_append, List.append_nil, Int.toNat_natCast]; omega)) (den_look ⟨⟨u.nm.toArray⟩, fun W' xW => ?_, ?_⟩))
        · have := sl_look_f (P := Try.prog) Vr.Va.enc_len hZ (t := 9) (by kernel_rfl) hu (k := 0) (by decide) (u := .string ⟨u.nm.toArray⟩) rfl xW
          simp only [Sy.dens, Sy.den, E.i, E.b, E.t, gd, Env.push, List.cons_append, List.nil_append, List.append_nil, Int.toNat_natCast, Nat.add_zero, Int.toNat_natCast] at this ⊢
          exact this
        simp only [Env.push, List.cons_append, List.nil_append, List.append_nil]
        refine den_chk (chk_lt (by simp only [Sy.dens, Sy.den, E.i, E.b, E.t, gd, Env.push, List.cons_append, List.nil_append, List.append_nil, Int.toNat_natCast]; omega)) (den_look ⟨⟨x.nm.toArray⟩, fun W' xW => ?_, ?_⟩)
        · have := sl_look_f (P := Try.prog) Vr.Va.enc_len hZ (t := 9) (by kernel_rfl) hx (k := 0) (by decide) (u := .string ⟨x.nm.toArray⟩) rfl xW
          simp only [Sy.dens, Sy.den, E.i, E.b, E.t, gd, Env.push, List.cons_append, List.nil_append, List.append_nil, Int.toNat_natCast, Nat.add_zero, Int.toNat_natCast] at this ⊢
          exact this
        simp only [Env.push, List.cons_append, List.nil_append, List.append_nil]
        refine den_grow fun Wa xa => den_br (fun c5 => ?_) fun c5 => ?_
        · have c5 : u.nm = x.nm := by simpa [Sy.dens, Sy.den, E.i, E.b, E.t, gd, Env.push, List.cons_append, List.nil_append, List.append_nil, Int.toNat_natCast] using c5
          refine den_again ⟨j, by omega, j, (j : Int) - 1, ?_, rfl, by omega, by omega, by omega, ⟨u, hu, c5⟩, fun q u' h1 h2 => by omega, by omega⟩
          simp only [Sy.dens, Sy.den, E.i, E.b, E.t, gd, Env.push, List.cons_append, List.nil_append, List.append_nil, Int.toNat_natCast]
          rw [w64i (by omega) (by omega)]
        · have hne : ¬ u.nm = x.nm := by simpa [Sy.dens, Sy.den, E.i, E.b, E.t, gd, Env.push, List.cons_append, List.nil_append, List.append_nil, Int.toNat_natCast] using c5
          refine den_again ⟨j, by omega, f, (j : Int) - 1, ?_, rfl, by omega, by omega, hf, ⟨y, hy, hyn⟩, fun q u' h1 h2 h3 => ?_, by omega⟩
          · simp only [Sy.dens, Sy.den, E.i, E.b, E.t, gd, Env.push, List.cons_append, List.nil_append, List.append_nil, Int.toNat_natCast]
            rw [w64i (by omega) (by omega)]
          · by_cases e : q = j
            · subst e
              rw [hu] at h3
              obtain rfl := Option.some.inj h3
              exact hne
            · exact hb q u' (by omega) h2 h3
      · have c4 : k < 0 := by simp only [Sy.dens, Sy.den, E.i, E.b, E.t, gd, Env.push, List.cons_append, List.nil_append, List.append_nil, Int.toNat_natCast, leB] at c4; exact Int.not_le.1 (of_decide_eq_false c4)
        have hfirst := Vr.find_first hy hyn (fun q u h1 h2 => hb q u (by omega) h1 h2)
        have hseen := hown x.nm y hfirst
        have sq := fun W h1 h2 => seen_q { S with c := ⟨ar, r.length, cr⟩ } its (by omega) hups r (by omega) sc hsc x.nm W h1 h2
        rw [hseen] at sq
        refine den_chk (by simp only [E.b, gd]; exact hZ.some_of (by omega)) (den_chk (chk_lt (by simp only [Sy.dens, Sy.den, E.i, E.b, E.t, gd, Env.push, List.cons_append, List.nil_append, List.append_nil, Int.toNat_natCast]; omega)) (den_look ⟨⟨x.nm.toArray⟩, fun W' xW => ?_, ?_⟩))
        · have := sl_look_f (P := Try.prog) Vr.Va.enc_len hZ (t := 9) (by kernel_rfl) hx (k := 0) (by decide) (u := .string ⟨x.nm.toArray⟩) rfl xW
          simp only [Sy.dens, Sy.den, E.i, E.b, E.t, gd, Env.push, List.cons_append, List.nil_append, List.append_nil, Int.toNat_natCast, Nat.add_zero, Int.toNat_natCast] at this ⊢
          exact this
        simp only [Env.push, List.cons_append, List.nil_append, List.append_nil]
        refine den_callq ⟨sc, y.v.k, y.v.n, true, ⟨y.nm.toArray⟩, ⟨y.v.t.toArray⟩, ⟨fun W' xW _ _ => sq W' (SlAt.w (hS.ext xW)) (SlAt.w (hR.ext xW)), ?_⟩⟩
        simp only [Env.push, List.cons_append, List.nil_append, List.append_nil]
        refine den_grow fun Wa xa => den_new fun m3 Wb _ xb => den_grow fun Wc xc => den_wr fun Wd' xd => den_grow fun We xe => ?_
        have z := ext_trans (ext_trans (ext_trans (ext_trans xa xb) xc) xd) xe
        have hZ := hZ.ext z
        simp only [Env.push, List.cons_append, List.nil_append, List.append_nil]
        refine den_br_t rfl (den_look ⟨⟨x.nm.toArray⟩, fun W' xW => ?_, ?_⟩)
        · have := sl_look_f (P := Try.prog) Vr.Va.enc_len hZ (t := 9) (by kernel_rfl) hx (k := 0) (by decide) (u := .string ⟨x.nm.toArray⟩) rfl xW
          simp only [Sy.dens, Sy.den, E.i, E.b, E.t, gd, Env.push, List.cons_append, List.nil_append, List.append_nil, Int.toNat_natCast, Nat.add_zero, Int.toNat_natCast] at this ⊢
          exact this
        simp only [Env.push, List.cons_append, List.nil_append, List.append_nil]
        refine den_chk (chk_le (by simp only [Sy.dens, Sy.den, E.i, E.b, E.t, gd, Env.push, List.cons_append, List.nil_append, List.append_nil, Int.toNat_natCast]; omega)) (den_chk (chk_lt (by simp only [Sy.dens, Sy.den, E.i, E.b, E.t, gd, Env.push, List.cons_append, List.nil_append, List.append_nil, Int.toNat_natCast]; omega)) (den_look ⟨y.v.k, y.v.n, ⟨y.v.t.toArray⟩, fun W' xW => ?_, ?_⟩))
        · refine look_agg (by kernel_rfl) (k := 3) (by kernel_rfl) (vs := [.int .u8 y.v.k, .int .i64 y.v.n, .string ⟨y.v.t.toArray⟩]) rfl fun q u hu => ?_
          obtain ⟨_, _, ⟨_, z, _⟩ | ⟨bb, o, eZ, hI, hbb, hc⟩⟩ := hZ.ext xW
          · omega
          · simp only [Sy.dens, Sy.den, E.i, E.b, E.t, gd, Env.push, List.cons_append, List.nil_append, List.append_nil, Int.toNat_natCast, eZ, Option.getD_some, Int.toNat_natCast]
            have hq : q < 3 := (List.getElem?_eq_some_iff.1 hu).1
            have := hc (f * 4 + (1 + q)) u (by rw [flat_get Vr.Va.enc_len (1 + q) hy (by omega), Nat.add_comm 1 q]; exact hu)
            rw [add_none, add_none, ← this]
            congr 2
            omega
        simp only [Env.push, List.cons_append, List.nil_append, List.append_nil]
        refine den_grow fun Wf xf => den_br_f (by simp [Sy.dens, Sy.den, E.i, E.b, E.t, gd, Env.push, List.cons_append, List.nil_append, List.append_nil, Int.toNat_natCast, hyn]) ?_
        refine den_frz fun Wg _ xg _ _ => den_again ⟨n, by omega, (n : Int) - 1, ?_, rfl, by omega, by omega, by omega⟩
        simp only [Sy.dens, Sy.den, E.i, E.b, E.t, gd, Env.push, List.cons_append, List.nil_append, List.append_nil, Int.toNat_natCast]
        rw [w64i (by omega) (by omega)]
    · have c3 : i < 0 := by simp only [Sy.dens, Sy.den, E.i, E.b, E.t, gd, Env.push, List.cons_append, List.nil_append, List.append_nil, Int.toNat_natCast, leB] at c3; exact Int.not_le.1 (of_decide_eq_false c3)
      refine den_call_i (fun _ _ => wayL_i S its (by omega) hups ot hot WT (SlAt.w hS)) fun v5 w5 _ h5 => ?_
      obtain ⟨ab, cb, rfl, h5⟩ := h5
      have hwl2 := Vr.way_len its ot
      have hoth := fun h => Vr.near_other (its := its) (ot := ot) hr h nm
      generalize hw2 : Vr.way its ot = w2 at h5 hwl2 hoth
      refine ExE.mk (d := { N := [w2.length, cb], A := [ab] }) ⟨rfl, fun v hv => by cases hv⟩ ⟨rfl, fun Wa ea xa na => ?_⟩
      have hIb := h5.stay ea na
      have hS := hS.ext xa
      have hC := hC.ext xa
      have hR := hR.ext xa
      simp only [Env.push, List.cons_append, List.nil_append, List.append_nil]
      refine den_call_q (fun _ _ => in_q sc w2 (by omega) ab w2.length cb Wa (SlAt.w hIb)) ⟨w2.any fun z => z == sc, rfl, fun Wb xb => ?_⟩
      have hS := hS.ext xb
      have hC := hC.ext xb
      have hR := hR.ext xb
      simp only [Env.push, List.cons_append, List.nil_append, List.append_nil]
      refine den_br (fun d1 => den_ret fun _ _ _ => ⟨_, rfl, rfl⟩) fun d1 => ?_
      have d1 : (w2.any fun z => z == sc) = false := by simpa only [Sy.dens, Sy.den, E.i, E.b, E.t, gd, Env.push, List.cons_append, List.nil_append, List.append_nil, Int.toNat_natCast] using d1
      have hoth := hoth d1
      refine den_call_q (fun _ _ => seen_q S its (by omega) hups cs (by omega) ot hot nm Wb (SlAt.w hS) (SlAt.w hC)) ?_
      have sq2 := fun W h1 h2 => seen_q { S with c := ⟨ar, r.length, cr⟩ } its (by omega) hups r (by omega) ot hot nm W h1 h2
      rw [hoth] at sq2
      generalize Vr.seen its cs ot nm = s at sq2
      refine ⟨(s.getD Vr.Ce.zero).sc, (s.getD Vr.Ce.zero).v.k, (s.getD Vr.Ce.zero).v.n, s.isSome, ⟨(s.getD Vr.Ce.zero).nm.toArray⟩, ⟨(s.getD Vr.Ce.zero).v.t.toArray⟩, rfl, fun Wc xc => ?_⟩
      simp only [Env.push, List.cons_append, List.nil_append, List.append_nil]
      refine den_new fun mc Wd' _ xd => den_wr fun We xe => ?_
      have z := ext_trans (ext_trans xc xd) xe
      have hS := hS.ext z
      have hC := hC.ext z
      have hR := hR.ext z
      simp only [Env.push, List.cons_append, List.nil_append, List.append_nil]
      refine den_call_q (fun _ _ => sq2 We (SlAt.w hS) (SlAt.w hR)) ⟨(s.getD Vr.Ce.zero).sc, (s.getD Vr.Ce.zero).v.k, (s.getD Vr.Ce.zero).v.n, s.isSome, ⟨(s.getD Vr.Ce.zero).nm.toArray⟩, ⟨(s.getD Vr.Ce.zero).v.t.toArray⟩, rfl, fun Wf xf => ?_⟩
      simp only [Env.push, List.cons_append, List.nil_append, List.append_nil]
      refine den_new fun mg Wg _ xg => den_wr fun Wh xh => ?_
      have z := ext_trans (ext_trans xf xg) xh
      have hS := hS.ext z
      have hR := hR.ext z
      simp only [Env.push, List.cons_append, List.nil_append, List.append_nil]
      refine den_br_t (by simp [Sy.dens, Sy.den, E.i, E.b, E.t, gd, Env.push, List.cons_append, List.nil_append, List.append_nil, Int.toNat_natCast]) ?_
      refine den_grow fun Wi xi => ?_
      have hS := hS.ext xi
      refine den_call_i (fun _ _ => wayL_i S its (by omega) hups ot hot Wi (SlAt.w hS)) fun v6 w6 _ h6 => ?_
      obtain ⟨ac, cc, rfl, h6⟩ := h6
      rw [hw2] at h6 ⊢
      refine ExE.mk (d := { N := [w2.length, cc], A := [ac] }) ⟨rfl, fun v hv => by cases hv⟩ ⟨rfl, fun Wj ej xj nj => ?_⟩
      have hIc := h6.stay ej nj
      have hS := hS.ext xj
      simp only [Env.push, List.cons_append, List.nil_append, List.append_nil]
      refine den_grow fun Wk xk => ?_
      have hS := hS.ext xk
      have hIc := hIc.ext xk
      refine den_call_i (fun _ _ => wayL_i { S with c := ⟨ar, r.length, cr⟩ } its (by omega) hups ot hot Wk (SlAt.w hS)) fun v7 w7 _ h7 => ?_
      obtain ⟨ad, cd, rfl, h7⟩ := h7
      rw [hw2] at h7 ⊢
      refine ExE.mk (d := { N := [w2.length, cd], A := [ad] }) ⟨rfl, fun v hv => by cases hv⟩ ⟨rfl, fun Wl el xl nl => ?_⟩
      have hId := h7.stay el nl
      have hIc := hIc.ext xl
      simp only [Env.push, List.cons_append, List.nil_append, List.append_nil]
      refine den_callq ⟨true, ⟨fun W' xW _ _ => ?_, ?_⟩⟩
      · have := ints_q w2 w2 (by omega) ac ad w2.length cc w2.length cd W' (SlAt.w (hIc.ext xW)) (SlAt.w (hId.ext xW))
        rw [decide_eq_true rfl] at this
        exact this
      · exact den_grow fun Wm xm => den_ret fun _ _ _ => ⟨_, rfl, rfl⟩
  · refine den_call_i (fun _ _ => wayL_i S its (by omega) hups ot hot WT (SlAt.w hS)) fun v5 w5 _ h5 => ?_
    obtain ⟨ab, cb, rfl, h5⟩ := h5
    have hwl2 := Vr.way_len its ot
    have hoth := fun h => Vr.near_other (its := its) (ot := ot) hr h nm
    generalize hw2 : Vr.way its ot = w2 at h5 hwl2 hoth
    refine ExE.mk (d := { N := [w2.length, cb], A := [ab] }) ⟨rfl, fun v hv => by cases hv⟩ ⟨rfl, fun Wa ea xa na => ?_⟩
    have hIb := h5.stay ea na
    have hS := hS.ext xa
    have hC := hC.ext xa
    have hR := hR.ext xa
    simp only [Env.push, List.cons_append, List.nil_append, List.append_nil]
    refine den_call_q (fun _ _ => in_q sc w2 (by omega) ab w2.length cb Wa (SlAt.w hIb)) ⟨w2.any fun z => z == sc, rfl, fun Wb xb => ?_⟩
    have hS := hS.ext xb
    have hC := hC.ext xb
    have hR := hR.ext xb
    simp only [Env.push, List.cons_append, List.nil_append, List.append_nil]
    refine den_br (fun d1 => den_ret fun _ _ _ => ⟨_, rfl, rfl⟩) fun d1 => ?_
    have d1 : (w2.any fun z => z == sc) = false := by simpa only [Sy.dens, Sy.den, E.i, E.b, E.t, gd, Env.push, List.cons_append, List.nil_append, List.append_nil, Int.toNat_natCast] using d1
    have hoth := hoth d1
    refine den_call_q (fun _ _ => seen_q S its (by omega) hups cs (by omega) ot hot nm Wb (SlAt.w hS) (SlAt.w hC)) ?_
    have sq2 := fun W h1 h2 => seen_q { S with c := ⟨ar, r.length, cr⟩ } its (by omega) hups r (by omega) ot hot nm W h1 h2
    rw [hoth] at sq2
    generalize Vr.seen its cs ot nm = s at sq2
    refine ⟨(s.getD Vr.Ce.zero).sc, (s.getD Vr.Ce.zero).v.k, (s.getD Vr.Ce.zero).v.n, s.isSome, ⟨(s.getD Vr.Ce.zero).nm.toArray⟩, ⟨(s.getD Vr.Ce.zero).v.t.toArray⟩, rfl, fun Wc xc => ?_⟩
    simp only [Env.push, List.cons_append, List.nil_append, List.append_nil]
    refine den_new fun mc Wd' _ xd => den_wr fun We xe => ?_
    have z := ext_trans (ext_trans xc xd) xe
    have hS := hS.ext z
    have hC := hC.ext z
    have hR := hR.ext z
    simp only [Env.push, List.cons_append, List.nil_append, List.append_nil]
    refine den_call_q (fun _ _ => sq2 We (SlAt.w hS) (SlAt.w hR)) ⟨(s.getD Vr.Ce.zero).sc, (s.getD Vr.Ce.zero).v.k, (s.getD Vr.Ce.zero).v.n, s.isSome, ⟨(s.getD Vr.Ce.zero).nm.toArray⟩, ⟨(s.getD Vr.Ce.zero).v.t.toArray⟩, rfl, fun Wf xf => ?_⟩
    simp only [Env.push, List.cons_append, List.nil_append, List.append_nil]
    refine den_new fun mg Wg _ xg => den_wr fun Wh xh => ?_
    have z := ext_trans (ext_trans xf xg) xh
    have hS := hS.ext z
    have hR := hR.ext z
    simp only [Env.push, List.cons_append, List.nil_append, List.append_nil]
    refine den_br_t (by simp [Sy.dens, Sy.den, E.i, E.b, E.t, gd, Env.push, List.cons_append, List.nil_append, List.append_nil, Int.toNat_natCast]) ?_
    refine den_grow fun Wi xi => ?_
    have hS := hS.ext xi
    refine den_call_i (fun _ _ => wayL_i S its (by omega) hups ot hot Wi (SlAt.w hS)) fun v6 w6 _ h6 => ?_
    obtain ⟨ac, cc, rfl, h6⟩ := h6
    rw [hw2] at h6 ⊢
    refine ExE.mk (d := { N := [w2.length, cc], A := [ac] }) ⟨rfl, fun v hv => by cases hv⟩ ⟨rfl, fun Wj ej xj nj => ?_⟩
    have hIc := h6.stay ej nj
    have hS := hS.ext xj
    simp only [Env.push, List.cons_append, List.nil_append, List.append_nil]
    refine den_grow fun Wk xk => ?_
    have hS := hS.ext xk
    have hIc := hIc.ext xk
    refine den_call_i (fun _ _ => wayL_i { S with c := ⟨ar, r.length, cr⟩ } its (by omega) hups ot hot Wk (SlAt.w hS)) fun v7 w7 _ h7 => ?_
    obtain ⟨ad, cd, rfl, h7⟩ := h7
    rw [hw2] at h7 ⊢
    refine ExE.mk (d := { N := [w2.length, cd], A := [ad] }) ⟨rfl, fun v hv => by cases hv⟩ ⟨rfl, fun Wl el xl nl => ?_⟩
    have hId := h7.stay el nl
    have hIc := hIc.ext xl
    simp only [Env.push, List.cons_append, List.nil_append, List.append_nil]
    refine den_callq ⟨true, ⟨fun W' xW _ _ => ?_, ?_⟩⟩
    · have := ints_q w2 w2 (by omega) ac ad w2.length cc w2.length cd W' (SlAt.w (hIc.ext xW)) (SlAt.w (hId.ext xW))
      rw [decide_eq_true rfl] at this
      exact this
    · exact den_grow fun Wm xm => den_ret fun _ _ _ => ⟨_, rfl, rfl⟩
end Go.Proofs.Ytamnfdmmjjekhaa
