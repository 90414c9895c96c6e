/- VarsCall: the walk (printed by gen_vrcall.py). -/
import Derived.Test.YtamnfdmmjjekhaaVrCallP
import Derived.Test.YtamnfdmmjjekhaaVrLEnv
namespace Go.Proofs.Ytamnfdmmjjekhaa
open Go Go.RowKit Go.SF
set_option linter.unusedSimpArgs false
set_option linter.unusedVariables false
set_option maxRecDepth 100000 in
theorem lcall_q (S : Vr.StV) (its : List Vr.It) (hups : ∀ x ∈ its, (Lit.int .i64 x.up).wf = true) (cs : List Vr.Ce) (sc : Int) (hsc : (Lit.int .i64 sc).wf = true) (sets : List Vr.Va) (hst : ∀ s ∈ sets, s.v.t.length ≤ 9223372036854775807) (Z : Vr.Sl) (W : Wd)
    (hS : SlW W.w S.i.a S.i.n S.i.c 8 (its.flatMap Vr.It.enc)) (hC : SlW W.w S.c.a S.c.n S.c.c 5 (cs.flatMap Vr.Ce.enc)) (hZ : SlW W.w Z.a Z.n Z.c 4 (sets.flatMap Vr.Va.enc)) :
    CallsQ Try.prog 5 #[S.val, .int .i64 sc, Z.val] W (.bool true) := by
  have hS := hS.all
  have hC := hC.all
  have hZ := hZ.all
  have hin : its.length = S.i.n := by have := hS.1; rw [flat_len Vr.It.enc_len] at this; omega
  have hn : cs.length = S.c.n := by have := hC.1; rw [Vr.encs_len] at this; omega
  have hzn : sets.length = Z.n := by have := hZ.1; rw [flat_len Vr.Va.enc_len] at this; omega
  refine vc_lcall S.ck S.nx sc S.d.n S.d.c S.i.n S.i.c S.c.n S.c.c S.h.n S.h.c Z.n Z.c S.d.a S.i.a S.c.a S.h.a Z.a W.all _ ?_
  refine den_new fun m W1 _ x1 => den_call_q (fun _ _ => works_q W1) ⟨true, rfl, fun W2 x2 => ?_⟩
  simp only [Env.push, List.cons_append, List.nil_append, List.append_nil]
  have y2 := ext_trans x1 x2
  refine den_br_t rfl ?_
  refine den_call_q (fun _ _ => large_q S W2) ⟨Vr.large S, rfl, fun W3 x3 => ?_⟩
  simp only [Env.push, List.cons_append, List.nil_append, List.append_nil]
  have y3 := ext_trans y2 x3
  refine den_br (fun c1 => ?_) fun c1 => ?_
  · exact den_call_q (fun _ _ => works_q W3) ⟨true, rfl, fun W4 x4 => den_ret fun _ _ _ => ⟨_, rfl, rfl⟩⟩
  have c1 : Vr.large S = false ∧ Z.n ≤ 50 := by
    simp only [Sy.dens, Sy.den, E.i, E.b, E.t, gd, Env.push, List.cons_append, List.nil_append, List.append_nil, Int.toNat_natCast, Bool.or_eq_false_iff] at c1
    refine ⟨c1.1, ?_⟩
    have := c1.2
    rw [ltB_false] at this
    omega
  obtain ⟨hi, hc⟩ := large_t c1.1
  have hz50 := c1.2
  refine den_call_i (fun _ _ => wayL_i S its (by omega) hups sc hsc W3 (SlAt.w (hS.ext y3))) fun v5 w5 _ h5 => ?_
  obtain ⟨a5, c5, rfl, h5⟩ := h5
  have hwl := Vr.way_len its sc
  have hwh := Vr.way_head (its := its) (sc := sc)
  generalize hw : Vr.way its sc = w at h5 hwl hwh
  refine ExE.mk (d := { N := [w.length, c5], A := [a5] }) ⟨rfl, fun v hv => by cases hv⟩ ⟨rfl, fun W5 e5 x5 n5 => ?_⟩
  have hI5 := h5.stay e5 n5
  have y5 := ext_trans y3 x5
  have hS := hS.ext y5
  have hC := hC.ext y5
  have hZ := hZ.ext y5
  simp only [Env.push, List.cons_append, List.nil_append, List.append_nil]
  refine den_chk ?_ (den_chk ?_ (den_chk ?_ (den_br (fun c2 => ?_) fun c2 => ?_)))
  · simp only [Sy.dens, Sy.den, E.i, E.b, E.t, gd, Env.push, List.cons_append, List.nil_append, List.append_nil, Int.toNat_natCast, E.b, gd]
    by_cases h : 0 < w.length
    · rw [hI5.some_of h]; simp
    · simp only [Bool.or_eq_true, Bool.not_eq_true']; left; rw [ltB_false]; omega
  · simp only [Sy.dens, Sy.den, E.i, E.b, E.t, gd, Env.push, List.cons_append, List.nil_append, List.append_nil, Int.toNat_natCast, E.b]; simp [leB]
  · simp only [Sy.dens, Sy.den, E.i, E.b, E.t, gd, Env.push, List.cons_append, List.nil_append, List.append_nil, Int.toNat_natCast, E.b]
    cases h : ltB 0 (w.length : Int) <;> rfl
  · simp only [Sy.dens, Sy.den, E.i, E.b, E.t, gd, Env.push, List.cons_append, List.nil_append, List.append_nil, Int.toNat_natCast, ltB_true] at c2
    obtain ⟨x0, t0, hf0, his, hw0, hnode⟩ := hwh (by rintro rfl; simp at c2)
    refine den_look ⟨sc, fun W' xW => ?_, ?_⟩
    · refine look_one (by kernel_rfl) ?_
      obtain ⟨_, _, ⟨_, z, _⟩ | ⟨bb, o, rfl, hI, hbb, hc⟩⟩ := hI5.ext xW
      · omega
      · simp only [Sy.dens, Sy.den, E.i, E.b, E.t, gd, Env.push, List.cons_append, List.nil_append, List.append_nil, Int.toNat_natCast, Option.getD_some, Int.toNat_zero, Nat.zero_mul, Nat.add_zero]
        exact hc 0 _ (by rw [hw0]; rfl)
    simp only [Env.push, List.cons_append, List.nil_append, List.append_nil]
    refine den_br_f (by simp [Sy.dens, Sy.den, E.i, E.b, E.t, gd, Env.push, List.cons_append, List.nil_append, List.append_nil, Int.toNat_natCast]) ?_
    refine den_loop (fun g vs ls _ => ∃ i : Nat, vs = [.int .i64 (i : Int)] ∧ ls = [] ∧ i ≤ its.length ∧ (its.drop i).find? (Vr.isId sc) = some x0 ∧ g = its.length - i) its.length ⟨0, rfl, rfl, Nat.zero_le _, hf0, rfl⟩ ?_
    rintro g vs ls W6 x6 ⟨i, rfl, rfl, hi2, hf, rfl⟩
    refine ⟨(i : Int), rfl, rfl, fun _ => ?_⟩
    have hS := hS.ext x6
    have hC := hC.ext x6
    have hZ := hZ.ext x6
    have hI5 := hI5.ext x6
    simp only [Env.push, List.cons_append, List.nil_append, List.append_nil]
    refine den_br (fun c3 => ?_) fun c3 => ?_
    · simp only [Sy.dens, Sy.den, E.i, E.b, E.t, gd, Env.push, List.cons_append, List.nil_append, List.append_nil, Int.toNat_natCast, ltB_true] at c3
      have hil : i < its.length := by omega
      have hx : its[i]? = some its[i] := List.getElem?_eq_getElem hil
      have hds : its.drop i = its[i] :: its.drop (i + 1) := List.drop_eq_getElem_cons hil
      generalize its[i] = x at hx hds
      rw [hds, List.find?_cons] at hf
      refine den_chk (by simp only [E.b, gd]; exact hS.some_of (by omega)) (den_chk (chk_le (by simp only [Sy.dens, Sy.den, E.i, E.b, E.t, gd, Env.push, List.cons_append, List.nil_append, List.append_nil, Int.toNat_natCast]; omega)) (den_look ⟨x.id, x.up, x.is, x.node, x.frm, x.wait, ⟨x.proc.toArray⟩, ⟨x.code.toArray⟩, fun W' xW => ?_, ?_⟩))
      · have := sl_look (P := Try.prog) Vr.It.enc_len (by decide) hS ia_agg ia_size hx xW
        simp only [Sy.dens, Sy.den, E.i, E.b, E.t, gd, Env.push, List.cons_append, List.nil_append, List.append_nil, Int.toNat_natCast, Nat.add_zero] at this ⊢
        exact this
      simp only [Env.push, List.cons_append, List.nil_append, List.append_nil]
      refine den_new fun m3 W7 _ x7 => den_wr fun WT x8 => ?_
      have z8 := ext_trans x7 x8
      have hS := hS.ext z8
      have hC := hC.ext z8
      have hZ := hZ.ext z8
      have hI5 := hI5.ext z8
      simp only [Env.push, List.cons_append, List.nil_append, List.append_nil]
      refine den_br (fun c4 => ?_) fun c4 => ?_
      · have c4 : x.id = sc := by simp only [Sy.dens, Sy.den, E.i, E.b, E.t, gd, Env.push, List.cons_append, List.nil_append, List.append_nil, Int.toNat_natCast, Bool.and_eq_true, beq_iff_eq] at c4; exact c4.1
        have hid : Vr.isId sc x = true := by simp [Vr.isId, c4]
        rw [hid] at hf
        obtain rfl : x = x0 := Option.some.inj hf
        refine den_br_f ?_ ?_
        · have : x.node = -1 → w.length = 1 := fun h => by rw [hw0, hnode h]; rfl
          by_cases hn1 : x.node = -1
          · simp [Sy.dens, Sy.den, E.i, E.b, E.t, gd, Env.push, List.cons_append, List.nil_append, List.append_nil, Int.toNat_natCast, his, this hn1]
          · simp [Sy.dens, Sy.den, E.i, E.b, E.t, gd, Env.push, List.cons_append, List.nil_append, List.append_nil, Int.toNat_natCast, his, hn1]
        refine den_call_i (fun _ _ => put_i S its (by omega) hups cs (by omega) sc hsc sets (by omega) hst Z WT (SlAt.w hS) (SlAt.w hC) (SlAt.w hZ)) fun v wq _ hR => ?_
        generalize hr : Vr.putL its sc sets cs = pr at hR
        obtain ⟨pe, r⟩ := pr
        rcases hR with ⟨h0, ap, cp, rfl, hP⟩ | ⟨h0, rfl⟩
        · have h0 : pe = 0 := h0
          subst h0
          have hrl : r.length = cs.length := by have := Vr.putL_len its sc sets cs (by rw [hr]); rw [hr] at this; exact this
          refine ExE.mk (d := { I := [S.ck, S.nx, 0], N := [S.d.n, S.d.c, S.i.n, S.i.c, r.length, cp, S.h.n, S.h.c], A := [S.d.a, S.i.a, ap, S.h.a] }) ⟨rfl, fun v hv => by cases hv⟩ ⟨rfl, fun WU eU xU nU => ?_⟩
          have hP : SlI WU ap r.length cp 5 (r.flatMap Vr.Ce.enc) := hP.stay eU nU
          have hC := hC.ext xU
          have hI5 := hI5.ext xU
          simp only [Env.push, List.cons_append, List.nil_append, List.append_nil]
          refine den_new fun mq Wa _ xa => den_wr fun Wb xb => den_br_f (by simp [Sy.dens, Sy.den, E.i, E.b, E.t, gd, Env.push, List.cons_append, List.nil_append, List.append_nil, Int.toNat_natCast, hrl, hn]) ?_
          have hP := hP.ext (ext_trans xa xb)
          have hC := hC.ext (ext_trans xa xb)
          have hI5 := hI5.ext (ext_trans xa xb)
          simp only [Env.push, List.cons_append, List.nil_append, List.append_nil]
          refine den_loop (fun g vs ls _ => ∃ i : Nat, vs = [.int .i64 (i : Int)] ∧ ls = [] ∧ i ≤ cs.length ∧ g = cs.length - i) cs.length ⟨0, rfl, rfl, Nat.zero_le _, rfl⟩ ?_
          rintro g vs ls Wc xc ⟨i, rfl, rfl, hi, rfl⟩
          refine ⟨(i : Int), rfl, rfl, fun _ => ?_⟩
          have hP := hP.ext xc
          have hC := hC.ext xc
          have hI5 := hI5.ext xc
          simp only [Env.push, List.cons_append, List.nil_append, List.append_nil]
          refine den_br (fun d1 => ?_) fun d1 => ?_
          · simp only [Sy.dens, Sy.den, E.i, E.b, E.t, gd, Env.push, List.cons_append, List.nil_append, List.append_nil, Int.toNat_natCast, ltB_true] at d1
            have hil : i < cs.length := by omega
            have hx : cs[i]? = some cs[i] := List.getElem?_eq_getElem hil
            have hy : r[i]? = some r[i] := List.getElem?_eq_getElem (by omega)
            have hkeep := Vr.putL_keep its sc sets cs r hr i cs[i] hx
            generalize cs[i] = x at hx hkeep
            generalize r[i] = y at hy
            rw [hw] at hkeep
            refine den_chk (by simp only [E.b, gd]; exact hC.some_of (by omega)) (den_chk (chk_le (by simp only [Sy.dens, Sy.den, E.i, E.b, E.t, gd, Env.push, List.cons_append, List.nil_append, List.append_nil, Int.toNat_natCast]; omega)) (den_look ⟨x.sc, fun W' xW => ?_, ?_⟩))
            · have := sl_look_f (P := Try.prog) Vr.Ce.enc_len hC (t := 3) (by kernel_rfl) hx (k := 0) (by decide) (u := .int .i64 x.sc) rfl xW
              simp only [Sy.dens, Sy.den, E.i, E.b, E.t, gd, Env.push, List.cons_append, List.nil_append, List.append_nil, Int.toNat_natCast, Nat.add_zero] at this ⊢
              exact this
            simp only [Env.push, List.cons_append, List.nil_append, List.append_nil]
            refine den_callq ⟨w.any fun z => z == x.sc, ⟨fun W' xW _ _ => in_q x.sc w (by omega) a5 w.length c5 W' (SlAt.w (hI5.ext xW)), ?_⟩⟩
            simp only [Env.push, List.cons_append, List.nil_append, List.append_nil]
            refine den_br (fun d2 => ?_) fun d2 => ?_
            · have d2 : (w.any fun z => z == x.sc) = false := by simpa only [Sy.dens, Sy.den, E.i, E.b, E.t, gd, Env.push, List.cons_append, List.nil_append, List.append_nil, Int.toNat_natCast, Bool.not_eq_true'] using d2
              obtain rfl : x = y := Option.some.inj ((hkeep d2).symm.trans hy)
              refine den_look ⟨x.sc, x.v.k, x.v.n, ⟨x.nm.toArray⟩, ⟨x.v.t.toArray⟩, fun W' xW => ?_, ?_⟩
              · have := sl_look (P := Try.prog) Vr.Ce.enc_len (by decide) hC ca_agg ca_size hx xW
                simp only [Sy.dens, Sy.den, E.i, E.b, E.t, gd, Env.push, List.cons_append, List.nil_append, List.append_nil, Int.toNat_natCast, Nat.add_zero] at this ⊢
                exact this
              simp only [Env.push, List.cons_append, List.nil_append, List.append_nil]
              refine den_chk (by simp only [E.b, gd]; exact hP.some_of (by omega)) (den_chk (chk_lt (by simp only [Sy.dens, Sy.den, E.i, E.b, E.t, gd, Env.push, List.cons_append, List.nil_append, List.append_nil, Int.toNat_natCast]; omega)) (den_look ⟨x.sc, x.v.k, x.v.n, ⟨x.nm.toArray⟩, ⟨x.v.t.toArray⟩, fun W' xW => ?_, ?_⟩))
              · have := sl_look (P := Try.prog) Vr.Ce.enc_len (by decide) hP ca_agg ca_size hy xW
                simp only [Sy.dens, Sy.den, E.i, E.b, E.t, gd, Env.push, List.cons_append, List.nil_append, List.append_nil, Int.toNat_natCast, Nat.add_zero] at this ⊢
                exact this
              simp only [Env.push, List.cons_append, List.nil_append, List.append_nil]
              refine den_grow fun Wd' xd => den_br_f (by simp [Sy.dens, Sy.den, E.i, E.b, E.t, gd, Env.push, List.cons_append, List.nil_append, List.append_nil, Int.toNat_natCast]) (den_again ⟨cs.length - (i + 1), by omega, i + 1, ?_, rfl, by omega, rfl⟩)
              simp only [Sy.dens, Sy.den, E.i, E.b, E.t, gd, Env.push, List.cons_append, List.nil_append, List.append_nil, Int.toNat_natCast]
              rw [w64i (by omega) (by omega)]; rfl
            · refine den_grow fun Wd' xd => den_again ⟨cs.length - (i + 1), by omega, i + 1, ?_, rfl, by omega, rfl⟩
              simp only [Sy.dens, Sy.den, E.i, E.b, E.t, gd, Env.push, List.cons_append, List.nil_append, List.append_nil, Int.toNat_natCast]
              rw [w64i (by omega) (by omega)]; rfl
          · exact den_ret fun _ _ _ => ⟨_, rfl, rfl⟩
        · have h0 : ¬ pe = 0 := h0
          refine ExE.mk (d := { I := [S.ck, S.nx, pe], N := [S.d.n, S.d.c, S.i.n, S.i.c, S.c.n, S.c.c, S.h.n, S.h.c], A := [S.d.a, S.i.a, S.c.a, S.h.a] }) ⟨rfl, fun v hv => by cases hv⟩ ⟨rfl, fun WU eU xU nU => ?_⟩
          simp only [Env.push, List.cons_append, List.nil_append, List.append_nil]
          refine den_new fun mq Wa _ xa => den_wr fun Wb xb => den_br_t (by simp [Sy.dens, Sy.den, E.i, E.b, E.t, gd, Env.push, List.cons_append, List.nil_append, List.append_nil, Int.toNat_natCast, h0]) (den_ret fun _ _ _ => ⟨_, rfl, ?_⟩)
          simp [Sy.dens, Sy.den, E.i, E.b, E.t, gd, Env.push, List.cons_append, List.nil_append, List.append_nil, Int.toNat_natCast, h0, Sy.den, E.b]
      · have c4 : ¬ x.id = sc := fun e => by
          have : ltB 0 (w.length : Int) = true := by rw [ltB_true]; omega
          simp [Sy.dens, Sy.den, E.i, E.b, E.t, gd, Env.push, List.cons_append, List.nil_append, List.append_nil, Int.toNat_natCast, e, this] at c4
        have hid : Vr.isId sc x = false := by simp [Vr.isId, c4]
        rw [hid] at hf
        refine den_frz fun W9 _ x9 _ _ => den_again ⟨its.length - (i + 1), by omega, i + 1, ?_, rfl, by omega, hf, rfl⟩
        simp only [Sy.dens, Sy.den, E.i, E.b, E.t, gd, Env.push, List.cons_append, List.nil_append, List.append_nil, Int.toNat_natCast]
        rw [w64i (by omega) (by omega)]; rfl
    · simp only [Sy.dens, Sy.den, E.i, E.b, E.t, gd, Env.push, List.cons_append, List.nil_append, List.append_nil, Int.toNat_natCast, ltB_false] at c3
      rw [List.drop_eq_nil_of_le (by omega)] at hf
      cases hf
  · simp only [Sy.dens, Sy.den, E.i, E.b, E.t, gd, Env.push, List.cons_append, List.nil_append, List.append_nil, Int.toNat_natCast, ltB_false] at c2
    refine den_loop (fun g vs ls _ => ∃ i : Nat, vs = [.int .i64 (i : Int)] ∧ ls = [] ∧ i ≤ its.length ∧ g = its.length - i) its.length ⟨0, rfl, rfl, Nat.zero_le _, rfl⟩ ?_
    rintro g vs ls WT x6 ⟨i, rfl, rfl, hi2, rfl⟩
    refine ⟨(i : Int), rfl, rfl, fun _ => ?_⟩
    have hS := hS.ext x6
    have hC := hC.ext x6
    have hZ := hZ.ext x6
    have hI5 := hI5.ext x6
    simp only [Env.push, List.cons_append, List.nil_append, List.append_nil]
    refine den_br (fun c3 => ?_) fun c3 => ?_
    · simp only [Sy.dens, Sy.den, E.i, E.b, E.t, gd, Env.push, List.cons_append, List.nil_append, List.append_nil, Int.toNat_natCast, ltB_true] at c3
      have hil : i < its.length := by omega
      have hx : its[i]? = some its[i] := List.getElem?_eq_getElem hil
      generalize its[i] = x at hx
      refine den_chk (by simp only [E.b, gd]; exact hS.some_of (by omega)) (den_chk (chk_le (by simp only [Sy.dens, Sy.den, E.i, E.b, E.t, gd, Env.push, List.cons_append, List.nil_append, List.append_nil, Int.toNat_natCast]; omega)) (den_look ⟨x.id, x.up, x.is, x.node, x.frm, x.wait, ⟨x.proc.toArray⟩, ⟨x.code.toArray⟩, fun W' xW => ?_, ?_⟩))
      · have := sl_look (P := Try.prog) Vr.It.enc_len (by decide) hS ia_agg ia_size hx xW
        simp only [Sy.dens, Sy.den, E.i, E.b, E.t, gd, Env.push, List.cons_append, List.nil_append, List.append_nil, Int.toNat_natCast, Nat.add_zero] at this ⊢
        exact this
      simp only [Env.push, List.cons_append, List.nil_append, List.append_nil]
      refine den_new fun m3 W7 _ x7 => den_wr fun W8 x8 => den_frz fun W9 _ x9 _ _ => den_again ⟨its.length - (i + 1), by omega, i + 1, ?_, rfl, by omega, rfl⟩
      simp only [Sy.dens, Sy.den, E.i, E.b, E.t, gd, Env.push, List.cons_append, List.nil_append, List.append_nil, Int.toNat_natCast]
      rw [w64i (by omega) (by omega)]; rfl
    · refine den_call_i (fun _ _ => put_i S its (by omega) hups cs (by omega) sc hsc sets (by omega) hst Z WT (SlAt.w hS) (SlAt.w hC) (SlAt.w hZ)) fun v wq _ hR => ?_
      generalize hr : Vr.putL its sc sets cs = pr at hR
      obtain ⟨pe, r⟩ := pr
      rcases hR with ⟨h0, ap, cp, rfl, hP⟩ | ⟨h0, rfl⟩
      · have h0 : pe = 0 := h0
        subst h0
        have hrl : r.length = cs.length := by have := Vr.putL_len its sc sets cs (by rw [hr]); rw [hr] at this; exact this
        refine ExE.mk (d := { I := [S.ck, S.nx, 0], N := [S.d.n, S.d.c, S.i.n, S.i.c, r.length, cp, S.h.n, S.h.c], A := [S.d.a, S.i.a, ap, S.h.a] }) ⟨rfl, fun v hv => by cases hv⟩ ⟨rfl, fun WU eU xU nU => ?_⟩
        have hP : SlI WU ap r.length cp 5 (r.flatMap Vr.Ce.enc) := hP.stay eU nU
        have hC := hC.ext xU
        have hI5 := hI5.ext xU
        simp only [Env.push, List.cons_append, List.nil_append, List.append_nil]
        refine den_new fun mq Wa _ xa => den_wr fun Wb xb => den_br_f (by simp [Sy.dens, Sy.den, E.i, E.b, E.t, gd, Env.push, List.cons_append, List.nil_append, List.append_nil, Int.toNat_natCast, hrl, hn]) ?_
        have hP := hP.ext (ext_trans xa xb)
        have hC := hC.ext (ext_trans xa xb)
        have hI5 := hI5.ext (ext_trans xa xb)
        simp only [Env.push, List.cons_append, List.nil_append, List.append_nil]
        refine den_loop (fun g vs ls _ => ∃ i : Nat, vs = [.int .i64 (i : Int)] ∧ ls = [] ∧ i ≤ cs.length ∧ g = cs.length - i) cs.length ⟨0, rfl, rfl, Nat.zero_le _, rfl⟩ ?_
        rintro g vs ls Wc xc ⟨i, rfl, rfl, hi, rfl⟩
        refine ⟨(i : Int), rfl, rfl, fun _ => ?_⟩
        have hP := hP.ext xc
        have hC := hC.ext xc
        have hI5 := hI5.ext xc
        simp only [Env.push, List.cons_append, List.nil_append, List.append_nil]
        refine den_br (fun d1 => ?_) fun d1 => ?_
        · simp only [Sy.dens, Sy.den, E.i, E.b, E.t, gd, Env.push, List.cons_append, List.nil_append, List.append_nil, Int.toNat_natCast, ltB_true] at d1
          have hil : i < cs.length := by omega
          have hx : cs[i]? = some cs[i] := List.getElem?_eq_getElem hil
          have hy : r[i]? = some r[i] := List.getElem?_eq_getElem (by omega)
          have hkeep := Vr.putL_keep its sc sets cs r hr i cs[i] hx
          generalize cs[i] = x at hx hkeep
          generalize r[i] = y at hy
          rw [hw] at hkeep
          refine den_chk (by simp only [E.b, gd]; exact hC.some_of (by omega)) (den_chk (chk_le (by simp only [Sy.dens, Sy.den, E.i, E.b, E.t, gd, Env.push, List.cons_append, List.nil_append, List.append_nil, Int.toNat_natCast]; omega)) (den_look ⟨x.sc, fun W' xW => ?_, ?_⟩))
          · have := sl_look_f (P := Try.prog) Vr.Ce.enc_len hC (t := 3) (by kernel_rfl) hx (k := 0) (by decide) (u := .int .i64 x.sc) rfl xW
            simp only [Sy.dens, Sy.den, E.i, E.b, E.t, gd, Env.push, List.cons_append, List.nil_append, List.append_nil, Int.toNat_natCast, Nat.add_zero] at this ⊢
            exact this
          simp only [Env.push, List.cons_append, List.nil_append, List.append_nil]
          refine den_callq ⟨w.any fun z => z == x.sc, ⟨fun W' xW _ _ => in_q x.sc w (by omega) a5 w.length c5 W' (SlAt.w (hI5.ext xW)), ?_⟩⟩
          simp only [Env.push, List.cons_append, List.nil_append, List.append_nil]
          refine den_br (fun d2 => ?_) fun d2 => ?_
          · have d2 : (w.any fun z => z == x.sc) = false := by simpa only [Sy.dens, Sy.den, E.i, E.b, E.t, gd, Env.push, List.cons_append, List.nil_append, List.append_nil, Int.toNat_natCast, Bool.not_eq_true'] using d2
            obtain rfl : x = y := Option.some.inj ((hkeep d2).symm.trans hy)
            refine den_look ⟨x.sc, x.v.k, x.v.n, ⟨x.nm.toArray⟩, ⟨x.v.t.toArray⟩, fun W' xW => ?_, ?_⟩
            · have := sl_look (P := Try.prog) Vr.Ce.enc_len (by decide) hC ca_agg ca_size hx xW
              simp only [Sy.dens, Sy.den, E.i, E.b, E.t, gd, Env.push, List.cons_append, List.nil_append, List.append_nil, Int.toNat_natCast, Nat.add_zero] at this ⊢
              exact this
            simp only [Env.push, List.cons_append, List.nil_append, List.append_nil]
            refine den_chk (by simp only [E.b, gd]; exact hP.some_of (by omega)) (den_chk (chk_lt (by simp only [Sy.dens, Sy.den, E.i, E.b, E.t, gd, Env.push, List.cons_append, List.nil_append, List.append_nil, Int.toNat_natCast]; omega)) (den_look ⟨x.sc, x.v.k, x.v.n, ⟨x.nm.toArray⟩, ⟨x.v.t.toArray⟩, fun W' xW => ?_, ?_⟩))
            · have := sl_look (P := Try.prog) Vr.Ce.enc_len (by decide) hP ca_agg ca_size hy xW
              simp only [Sy.dens, Sy.den, E.i, E.b, E.t, gd, Env.push, List.cons_append, List.nil_append, List.append_nil, Int.toNat_natCast, Nat.add_zero] at this ⊢
              exact this
            simp only [Env.push, List.cons_append, List.nil_append, List.append_nil]
            refine den_grow fun Wd' xd => den_br_f (by simp [Sy.dens, Sy.den, E.i, E.b, E.t, gd, Env.push, List.cons_append, List.nil_append, List.append_nil, Int.toNat_natCast]) (den_again ⟨cs.length - (i + 1), by omega, i + 1, ?_, rfl, by omega, rfl⟩)
            simp only [Sy.dens, Sy.den, E.i, E.b, E.t, gd, Env.push, List.cons_append, List.nil_append, List.append_nil, Int.toNat_natCast]
            rw [w64i (by omega) (by omega)]; rfl
          · refine den_grow fun Wd' xd => den_again ⟨cs.length - (i + 1), by omega, i + 1, ?_, rfl, by omega, rfl⟩
            simp only [Sy.dens, Sy.den, E.i, E.b, E.t, gd, Env.push, List.cons_append, List.nil_append, List.append_nil, Int.toNat_natCast]
            rw [w64i (by omega) (by omega)]; rfl
        · exact den_ret fun _ _ _ => ⟨_, rfl, rfl⟩
      · have h0 : ¬ pe = 0 := h0
        refine ExE.mk (d := { I := [S.ck, S.nx, pe], N := [S.d.n, S.d.c, S.i.n, S.i.c, S.c.n, S.c.c, S.h.n, S.h.c], A := [S.d.a, S.i.a, S.c.a, S.h.a] }) ⟨rfl, fun v hv => by cases hv⟩ ⟨rfl, fun WU eU xU nU => ?_⟩
        simp only [Env.push, List.cons_append, List.nil_append, List.append_nil]
        refine den_new fun mq Wa _ xa => den_wr fun Wb xb => den_br_t (by simp [Sy.dens, Sy.den, E.i, E.b, E.t, gd, Env.push, List.cons_append, List.nil_append, List.append_nil, Int.toNat_natCast, h0]) (den_ret fun _ _ _ => ⟨_, rfl, ?_⟩)
        simp [Sy.dens, Sy.den, E.i, E.b, E.t, gd, Env.push, List.cons_append, List.nil_append, List.append_nil, Int.toNat_natCast, h0, Sy.den, E.b]
end Go.Proofs.Ytamnfdmmjjekhaa
