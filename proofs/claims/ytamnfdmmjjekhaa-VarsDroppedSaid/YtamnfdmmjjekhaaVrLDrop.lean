/- VarsDropped: the walk. -/
import Derived.Test.YtamnfdmmjjekhaaVrDropP
import Derived.Test.YtamnfdmmjjekhaaVrLEnv
import Derived.Test.YtamnfdmmjjekhaaVrSame
import Derived.Test.YtamnfdmmjjekhaaVcVars7
namespace Go.Proofs.Ytamnfdmmjjekhaa
open Go Go.RowKit Go.SF
set_option linter.unusedSimpArgs false
set_option linter.unusedVariables false
set_option maxRecDepth 100000 in
theorem ldrop_q (S : Vr.StV) (its : List Vr.It) (hups : ∀ x ∈ its, (Lit.int .i64 x.up).wf = true) (cs : List Vr.Ce) (sc : Int) (hsc : (Lit.int .i64 sc).wf = true) (vs : List Vr.Va) (Z : Vr.Sl) (W : Wd)
    (hS : SlW W.w S.i.a S.i.n S.i.c 8 (its.flatMap Vr.It.enc)) (hC : SlW W.w S.c.a S.c.n S.c.c 5 (cs.flatMap Vr.Ce.enc)) (hZ : SlW W.w Z.a Z.n Z.c 4 (vs.flatMap Vr.Va.enc)) (hQ : QSt W.all S) :
    CallsQ Try.prog 7 #[S.val, .int .i64 sc, Z.val] W (.bool true) := by
  have hS := hS.all
  have hC := hC.all
  have hZ := hZ.all
  have hin : its.length = S.i.n := by have := hS.1; rw [flat_len Vr.It.enc_len] at this; omega
  have hn : cs.length = S.c.n := by have := hC.1; rw [Vr.encs_len] at this; omega
  have hzn : vs.length = Z.n := by have := hZ.1; rw [flat_len Vr.Va.enc_len] at this; omega
  refine vc_ldrop S.ck S.nx sc S.d.n S.d.c S.i.n S.i.c S.c.n S.c.c S.h.n S.h.c Z.n Z.c S.d.a S.i.a S.c.a S.h.a Z.a W.all _ ?_
  refine den_new fun m W1 _ x1 => den_call_q (fun _ _ => works_q W1) ⟨true, rfl, fun W2 x2 => ?_⟩
  simp only [Env.push, List.cons_append, List.nil_append, List.append_nil]
  have y2 := ext_trans x1 x2
  refine den_br_t rfl ?_
  refine den_call_q (fun _ _ => large_q S W2) ⟨Vr.large S, rfl, fun W3 x3 => ?_⟩
  simp only [Env.push, List.cons_append, List.nil_append, List.append_nil]
  have y3 := ext_trans y2 x3
  refine den_br (fun c1 => ?_) fun c1 => ?_
  · exact den_call_q (fun _ _ => works_q W3) ⟨true, rfl, fun W4 x4 => den_ret fun _ _ _ => ⟨_, rfl, rfl⟩⟩
  have c1 : Vr.large S = false ∧ Z.n ≤ 50 := by
    simp only [Sy.dens, Sy.den, E.i, E.b, E.t, gd, Env.push, List.cons_append, List.nil_append, List.append_nil, Int.toNat_natCast, Bool.or_eq_false_iff] at c1
    refine ⟨c1.1, ?_⟩
    have := c1.2
    rw [ltB_false] at this
    omega
  obtain ⟨hi, hc⟩ := large_t c1.1
  have hz50 := c1.2
  have hS := hS.ext y3
  have hC := hC.ext y3
  have hZ := hZ.ext y3
  have hQ := hQ.ext y3
  refine den_newf fun k0 W4 _ x4 Ik0 hk0 => ?_
  have hS := hS.ext x4
  have hC := hC.ext x4
  have hZ := hZ.ext x4
  have hQ := hQ.ext x4
  have hk : SlI W4 (some ⟨k0, 0, none⟩) 1 1 1 ([sc].map (Value.int .i64)) := sl_block hk0 rfl rfl Ik0
  simp only [Env.push, List.cons_append, List.nil_append, List.append_nil]
  refine den_call_i (fun _ _ => drop_i S cs (by omega) [sc] (by simp) ⟨some ⟨k0, 0, none⟩, 1, 1⟩ W4 (SlAt.w hC) (SlAt.w hk)) fun v5 w5 _ h5 => ?_
  obtain ⟨ad, cd, rfl, h5⟩ := h5
  have hsum := Vr.drop_sum sc cs
  have hnone := Vr.drop_none sc cs
  have hfin := fun r => Vr.dropped_eq (sc := sc) (vs := vs) (cs := cs) (r := r)
  generalize hD : (cs.filter fun x => !Vr.isIn [sc] x) = D at h5 hsum hnone hfin
  have hDl : D.length ≤ 120 := by omega
  refine ExE.mk (d := { I := [S.ck, S.nx], N := [S.d.n, S.d.c, S.i.n, S.i.c, D.length, cd, S.h.n, S.h.c], A := [S.d.a, S.i.a, ad, S.h.a] }) ⟨rfl, fun v hv => by cases hv⟩ ⟨rfl, fun W5 e5 x5 n5 => ?_⟩
  have hDD := h5.stay e5 n5
  have hS := hS.ext x5
  have hC := hC.ext x5
  have hZ := hZ.ext x5
  have hQ := hQ.ext x5
  simp only [Env.push, List.cons_append, List.nil_append, List.append_nil]
  refine den_new fun m1 W6 _ x6 => den_wr fun W7 x7 => den_grow fun W8 x8 => ?_
  have z := ext_trans (ext_trans x6 x7) x8
  have hDD := hDD.ext z
  have hS := hS.ext z
  have hC := hC.ext z
  have hZ := hZ.ext z
  have hQ := hQ.ext z
  simp only [Env.push, List.cons_append, List.nil_append, List.append_nil]
  refine den_call_i (fun _ _ => cells_r { S with c := ⟨ad, D.length, cd⟩ } D (by omega) sc W8 (SlAt.w hDD)) fun v9 w9 _ h9 => ?_
  obtain ⟨a9, c9, rfl, h9⟩ := h9
  rw [hnone]
  refine ExE.mk (d := { N := [0, c9], A := [a9] }) ⟨rfl, fun v hv => by cases hv⟩ ⟨rfl, fun W9 e9 x9 n9 => ?_⟩
  have hDD := hDD.ext x9
  have hS := hS.ext x9
  have hC := hC.ext x9
  have hZ := hZ.ext x9
  have hQ := hQ.ext x9
  simp only [Env.push, List.cons_append, List.nil_append, List.append_nil]
  refine den_br_t rfl (den_grow fun Wa xa => ?_)
  have hDD := hDD.ext xa
  have hS := hS.ext xa
  have hC := hC.ext xa
  have hZ := hZ.ext xa
  have hQ := hQ.ext xa
  refine den_call_i (fun _ _ => cells_r S cs (by omega) sc Wa (SlAt.w hC)) fun vb wb _ hb => ?_
  obtain ⟨ab, cb, rfl, hb⟩ := hb
  refine ExE.mk (d := { N := [(cs.filter fun x => x.sc == sc).length, cb], A := [ab] }) ⟨rfl, fun v hv => by cases hv⟩ ⟨rfl, fun Wb eb xb nb => ?_⟩
  have hDD := hDD.ext xb
  have hS := hS.ext xb
  have hZ := hZ.ext xb
  have hQ := hQ.ext xb
  simp only [Env.push, List.cons_append, List.nil_append, List.append_nil]
  refine den_grow fun Wc xc => den_br_f ?_ ?_
  · simp only [Sy.dens, Sy.den, E.i, E.b, E.t, gd, Env.push, List.cons_append, List.nil_append, List.append_nil, Int.toNat_natCast]
    rw [w64i (by omega) (by omega)]
    simp; omega
  have hDD := hDD.ext xc
  have hS := hS.ext xc
  have hZ := hZ.ext xc
  have hQ := hQ.ext xc
  refine den_loop (fun g ws ls _ => ∃ i : Nat, ws = [.int .i64 ((i : Int) + 1)] ∧ ls = [] ∧ (i + 1 ≤ D.length ∨ i = 0) ∧ St.Srt Vr.lt (D.take (i + 1)) ∧ g = D.length - i) D.length ⟨0, rfl, rfl, .inr rfl, by cases D <;> simp [St.Srt], rfl⟩ ?_
  rintro g ws ls Wd' xd ⟨i, rfl, rfl, hi2, hsrt, rfl⟩
  refine ⟨(i : Int) + 1, rfl, rfl, fun _ => ?_⟩
  have hDD := hDD.ext xd
  have hS := hS.ext xd
  have hZ := hZ.ext xd
  have hQ := hQ.ext xd
  simp only [Env.push, List.cons_append, List.nil_append, List.append_nil]
  refine den_br (fun d1 => ?_) fun d1 => ?_
  · simp only [Sy.dens, Sy.den, E.i, E.b, E.t, gd, Env.push, List.cons_append, List.nil_append, List.append_nil, Int.toNat_natCast, ltB_true] at d1
    have hil : i + 1 < D.length := by omega
    have hx : D[i]? = some (D[i]'(by omega)) := List.getElem?_eq_getElem (by omega)
    have hy : D[i + 1]? = some (D[i + 1]'(by omega)) := List.getElem?_eq_getElem (by omega)
    have hstep := fun h => Vr.srt_step hx hy h hsrt
    generalize D[i]'(by omega) = x at hx hstep
    generalize D[i + 1]'(by omega) = y at hy hstep
    have w1 : IntKind.i64.wrap ((i : Int) + 1 - 1) = (i : Int) := by rw [w64i (by omega) (by omega)]; omega
    have t1 : ((i : Int) + 1).toNat = i + 1 := by omega
    refine den_chk (by simp only [E.b, gd]; exact hDD.some_of (by omega)) (den_chk (chk_le (by simp only [Sy.dens, Sy.den, E.i, E.b, E.t, gd, Env.push, List.cons_append, List.nil_append, List.append_nil, Int.toNat_natCast, w1]; omega)) (den_chk (chk_lt (by simp only [Sy.dens, Sy.den, E.i, E.b, E.t, gd, Env.push, List.cons_append, List.nil_append, List.append_nil, Int.toNat_natCast, w1]; omega)) (den_look ⟨x.sc, x.v.k, x.v.n, ⟨x.nm.toArray⟩, ⟨x.v.t.toArray⟩, fun W' xW => ?_, ?_⟩)))
    · have := sl_look (P := Try.prog) Vr.Ce.enc_len (by decide) hDD ca_agg ca_size hx xW
      simp only [Sy.dens, Sy.den, E.i, E.b, E.t, gd, Env.push, List.cons_append, List.nil_append, List.append_nil, Int.toNat_natCast, w1, Nat.add_zero, Int.toNat_natCast] at this ⊢
      exact this
    simp only [Env.push, List.cons_append, List.nil_append, List.append_nil]
    refine den_chk (chk_le (by simp only [Sy.dens, Sy.den, E.i, E.b, E.t, gd, Env.push, List.cons_append, List.nil_append, List.append_nil, Int.toNat_natCast]; omega)) (den_look ⟨y.sc, y.v.k, y.v.n, ⟨y.nm.toArray⟩, ⟨y.v.t.toArray⟩, fun W' xW => ?_, ?_⟩)
    · have := sl_look (P := Try.prog) Vr.Ce.enc_len (by decide) hDD ca_agg ca_size hy xW
      simp only [Sy.dens, Sy.den, E.i, E.b, E.t, gd, Env.push, List.cons_append, List.nil_append, List.append_nil, Int.toNat_natCast, t1, Nat.add_zero, Int.toNat_natCast] at this ⊢
      exact this
    simp only [Env.push, List.cons_append, List.nil_append, List.append_nil]
    refine ⟨?_, ?_⟩
    · refine den_grow fun Va va => den_new fun ma Vb _ vb => den_grow fun Vc vc => den_new fun mb Vd _ vd => den_grow fun Ve ve => den_wr fun Vf vf => den_grow fun Vg vg => den_wr fun Vh vh => ?_
      simp only [Env.push, List.cons_append, List.nil_append, List.append_nil]
      refine den_br (fun d2 => den_ret fun _ _ _ => ⟨_, rfl, rfl⟩) fun d2 => ?_
      have hlt : Vr.lt y x = false := by
        simp only [Sy.dens, Sy.den, E.i, E.b, E.t, gd, Env.push, List.cons_append, List.nil_append, List.append_nil, Int.toNat_natCast, tlt_ba, Bool.or_eq_false_iff, ltB_false] at d2
        obtain ⟨p, q⟩ := d2
        unfold Vr.lt
        rw [Bool.or_eq_false_iff]
        refine ⟨decide_eq_false (by omega), ?_⟩
        by_cases e : y.sc = x.sc
        · have q3 : Op.bytesLess x.nm y.nm = false → x.nm = y.nm := by simpa [e] using q
          have q2 : x.nm < y.nm ∨ x.nm = y.nm := by
            rw [Vr.bless_eq] at q3
            by_cases h : x.nm < y.nm
            · exact .inl h
            · exact .inr (q3 (decide_eq_false h))
          rw [decide_eq_true e, Bool.true_and, decide_eq_false_iff_not]
          rcases q2 with h | h
          · exact fun h2 => List.lt_irrefl x.nm (List.lt_trans h h2)
          · rw [h]; exact List.lt_irrefl _
        · rw [decide_eq_false e, Bool.false_and]
      refine den_frz fun Vi _ vi _ _ => den_again ⟨D.length - (i + 1), by omega, i + 1, ?_, rfl, .inl (by omega), hstep hlt, rfl⟩
      simp only [Sy.dens, Sy.den, E.i, E.b, E.t, gd, Env.push, List.cons_append, List.nil_append, List.append_nil, Int.toNat_natCast]
      rw [w64i (by omega) (by omega)]; rfl
    · refine den_grow fun Va va => den_new fun ma Vb _ vb => den_grow fun Vc vc => den_new fun mb Vd _ vd => den_grow fun Ve ve => den_wr fun Vf vf => den_grow fun Vg vg => den_wr fun Vh vh => ?_
      simp only [Env.push, List.cons_append, List.nil_append, List.append_nil]
      refine den_br (fun d2 => den_ret fun _ _ _ => ⟨_, rfl, rfl⟩) fun d2 => ?_
      have hlt : Vr.lt y x = false := by
        simp only [Sy.dens, Sy.den, E.i, E.b, E.t, gd, Env.push, List.cons_append, List.nil_append, List.append_nil, Int.toNat_natCast, tlt_ba, Bool.or_eq_false_iff, ltB_false] at d2
        obtain ⟨p, q⟩ := d2
        unfold Vr.lt
        rw [Bool.or_eq_false_iff]
        refine ⟨decide_eq_false (by omega), ?_⟩
        by_cases e : y.sc = x.sc
        · have q3 : Op.bytesLess x.nm y.nm = false → x.nm = y.nm := by simpa [e] using q
          have q2 : x.nm < y.nm ∨ x.nm = y.nm := by
            rw [Vr.bless_eq] at q3
            by_cases h : x.nm < y.nm
            · exact .inl h
            · exact .inr (q3 (decide_eq_false h))
          rw [decide_eq_true e, Bool.true_and, decide_eq_false_iff_not]
          rcases q2 with h | h
          · exact fun h2 => List.lt_irrefl x.nm (List.lt_trans h h2)
          · rw [h]; exact List.lt_irrefl _
        · rw [decide_eq_false e, Bool.false_and]
      refine den_frz fun Vi _ vi _ _ => den_again ⟨D.length - (i + 1), by omega, i + 1, ?_, rfl, .inl (by omega), hstep hlt, rfl⟩
      simp only [Sy.dens, Sy.den, E.i, E.b, E.t, gd, Env.push, List.cons_append, List.nil_append, List.append_nil, Int.toNat_natCast]
      rw [w64i (by omega) (by omega)]; rfl
  · simp only [Sy.dens, Sy.den, E.i, E.b, E.t, gd, Env.push, List.cons_append, List.nil_append, List.append_nil, Int.toNat_natCast, ltB_false] at d1
    have hsrt : St.Srt Vr.lt D := by rwa [List.take_of_length_le (by omega)] at hsrt
    have fin : ∀ (V : Wd) (b : Option Addr) (ar : Option Addr) (cr : Nat) (r : List Vr.Ce), r.length ≤ 1000 → SlI V ar r.length cr 5 (r.flatMap Vr.Ce.enc) → SlI V b 1 1 1 ([sc].map (Value.int .i64)) → CallsI Try.prog 20 #[Vr.StV.val { S with c := ⟨ar, r.length, cr⟩ }, .slice b 1 1] V.all fun v w' => NewCells V.w w' { S with c := ⟨ar, r.length, cr⟩ } v (r.filter fun x => !Vr.isIn [sc] x) := fun V b ar cr r h1 h2 h3 => drop_i { S with c := ⟨ar, r.length, cr⟩ } r (by omega) [sc] (by simp) ⟨b, 1, 1⟩ V (SlAt.w h2) (SlAt.w h3)
    refine ⟨?_, ?_⟩
    · refine den_grow fun Va va => ?_
      have hDD := hDD.ext va
      have hZ := hZ.ext va
      have hS := hS.ext va
      have hQ := hQ.ext va
      refine den_call_i (fun _ _ => open_i { S with c := ⟨ad, D.length, cd⟩ } D (by omega) vs (by omega) sc Z Va (SlAt.w hDD) (SlAt.w hZ)) fun vr wr _ hr => ?_
      obtain ⟨r, hr, ar, cr, rfl, hR⟩ := hr
      have hrl : r.length ≤ 1000 := by
        have h1 := hr.len
        have h2 := Vr.opened_len sc vs D
        omega
      refine ExE.mk (d := { I := [S.ck, S.nx], N := [S.d.n, S.d.c, S.i.n, S.i.c, r.length, cr, S.h.n, S.h.c], A := [S.d.a, S.i.a, ar, S.h.a] }) ⟨rfl, fun v hv => by cases hv⟩ ⟨rfl, fun Vb eb vb nb => ?_⟩
      have hR := hR.stay eb nb
      simp only [Env.push, List.cons_append, List.nil_append, List.append_nil]
      refine den_grow fun Vc vc => den_newf fun k1 Vd _ vd Ik1 hk1 => ?_
      have hk1 : SlI Vd (some ⟨k1, 0, none⟩) 1 1 1 ([sc].map (Value.int .i64)) := sl_block hk1 rfl rfl Ik1
      simp only [Env.push, List.cons_append, List.nil_append, List.append_nil]
      refine den_grow fun Ve ve => ?_
      refine den_call_i (fun _ _ => fin Ve _ ar cr r hrl (hR.ext (ext_trans (ext_trans vc vd) ve)) (hk1.ext ve)) fun vu wu _ hu => ?_
      obtain ⟨au, cu, rfl, hu⟩ := hu
      refine ExE.mk (d := { I := [S.ck, S.nx], N := [S.d.n, S.d.c, S.i.n, S.i.c, (r.filter fun x => !Vr.isIn [sc] x).length, cu, S.h.n, S.h.c], A := [S.d.a, S.i.a, au, S.h.a] }) ⟨rfl, fun v hv => by cases hv⟩ ⟨rfl, fun Vf eu xu nu => ?_⟩
      have z := ext_trans (ext_trans (ext_trans (ext_trans vb vc) vd) ve) xu
      simp only [Env.push, List.cons_append, List.nil_append, List.append_nil]
      have hDD := hDD.ext z
      have hS := hS.ext z
      have hQ := hQ.ext z
      have hu := hu.stay eu nu
      have hfr := hfin r hsrt hr
      rw [hfr] at hu
      have hul : (r.filter fun x => !Vr.isIn [sc] x).length = D.length := by rw [hfr]
      rw [hul]
      refine den_callq ⟨true, ⟨fun W' xW _ _ => ?_, den_grow fun Wz xz => den_ret fun _ _ _ => ⟨_, rfl, rfl⟩⟩⟩
      exact rs18_q { S with c := ⟨au, D.length, cu⟩ } ⟨ad, D.length, cd⟩ its (by omega) D (by omega) W' (hQ.ext xW) (hS.ext xW) (hu.ext xW) (hDD.ext xW)
    · refine den_grow fun Va va => den_newf fun k1 Vb _ vb Ik1 hk1 => den_grow fun Vc vc => ?_
      have hk1 : SlI Vb (some ⟨k1, 0, none⟩) 1 1 1 ([sc].map (Value.int .i64)) := sl_block hk1 rfl rfl Ik1
      have z0 := ext_trans (ext_trans va vb) vc
      have hDD := hDD.ext z0
      have hZ := hZ.ext z0
      have hS := hS.ext z0
      have hQ := hQ.ext z0
      simp only [Env.push, List.cons_append, List.nil_append, List.append_nil]
      refine den_call_i (fun _ _ => open_i { S with c := ⟨ad, D.length, cd⟩ } D (by omega) vs (by omega) sc Z Vc (SlAt.w hDD) (SlAt.w hZ)) fun vr wr _ hr => ?_
      obtain ⟨r, hr, ar, cr, rfl, hR⟩ := hr
      have hrl : r.length ≤ 1000 := by
        have h1 := hr.len
        have h2 := Vr.opened_len sc vs D
        omega
      refine ExE.mk (d := { I := [S.ck, S.nx], N := [S.d.n, S.d.c, S.i.n, S.i.c, r.length, cr, S.h.n, S.h.c], A := [S.d.a, S.i.a, ar, S.h.a] }) ⟨rfl, fun v hv => by cases hv⟩ ⟨rfl, fun Vd ed vd nd => ?_⟩
      have hR := hR.stay ed nd
      simp only [Env.push, List.cons_append, List.nil_append, List.append_nil]
      refine den_grow fun Ve ve => ?_
      refine den_call_i (fun _ _ => fin Ve _ ar cr r hrl (hR.ext ve) (hk1.ext (ext_trans (ext_trans vc vd) ve))) fun vu wu _ hu => ?_
      obtain ⟨au, cu, rfl, hu⟩ := hu
      refine ExE.mk (d := { I := [S.ck, S.nx], N := [S.d.n, S.d.c, S.i.n, S.i.c, (r.filter fun x => !Vr.isIn [sc] x).length, cu, S.h.n, S.h.c], A := [S.d.a, S.i.a, au, S.h.a] }) ⟨rfl, fun v hv => by cases hv⟩ ⟨rfl, fun Vf eu xu nu => ?_⟩
      have z := ext_trans (ext_trans vd ve) xu
      simp only [Env.push, List.cons_append, List.nil_append, List.append_nil]
      have hDD := hDD.ext z
      have hS := hS.ext z
      have hQ := hQ.ext z
      have hu := hu.stay eu nu
      have hfr := hfin r hsrt hr
      rw [hfr] at hu
      have hul : (r.filter fun x => !Vr.isIn [sc] x).length = D.length := by rw [hfr]
      rw [hul]
      refine den_callq ⟨true, ⟨fun W' xW _ _ => ?_, den_grow fun Wz xz => den_ret fun _ _ _ => ⟨_, rfl, rfl⟩⟩⟩
      exact rs18_q { S with c := ⟨au, D.length, cu⟩ } ⟨ad, D.length, cd⟩ its (by omega) D (by omega) W' (hQ.ext xW) (hS.ext xW) (hu.ext xW) (hDD.ext xW)
end Go.Proofs.Ytamnfdmmjjekhaa
