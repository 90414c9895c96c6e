/- VarsPut: the walk (printed by gen_vrput.py). -/
import Derived.Test.YtamnfdmmjjekhaaVrPutQ
import Derived.Test.YtamnfdmmjjekhaaVrLEnv
import Derived.Test.YtamnfdmmjjekhaaVrSame
import Derived.Test.YtamnfdmmjjekhaaVcVars8
namespace Go.Proofs.Ytamnfdmmjjekhaa
open Go Go.RowKit Go.SF
set_option linter.unusedSimpArgs false
set_option linter.unusedVariables false
set_option maxRecDepth 100000 in
theorem lput_q (S : Vr.StV) (its : List Vr.It) (hups : ∀ x ∈ its, (Lit.int .i64 x.up).wf = true) (cs : List Vr.Ce) (sc : Int) (hsc : (Lit.int .i64 sc).wf = true) (ot : Int) (hot : (Lit.int .i64 ot).wf = true) (nm : Vr.Bs) (v : Vr.Val) (hvt : v.t.length ≤ 9223372036854775807) (W : Wd)
    (hS : SlW W.w S.i.a S.i.n S.i.c 8 (its.flatMap Vr.It.enc)) (hC : SlW W.w S.c.a S.c.n S.c.c 5 (cs.flatMap Vr.Ce.enc)) (hQ : QSt W.all S) :
    CallsQ Try.prog 4 #[S.val, .int .i64 sc, .int .i64 ot, .string ⟨nm.toArray⟩, .agg #[.int .u8 v.k, .int .i64 v.n, .string ⟨v.t.toArray⟩]] W (.bool true) := by
  have hS := hS.all
  have hC := hC.all
  have hin : its.length = S.i.n := by have := hS.1; rw [flat_len Vr.It.enc_len] at this; omega
  have hn : cs.length = S.c.n := by have := hC.1; rw [Vr.encs_len] at this; omega
  refine vc_lput S.ck S.nx sc ot v.k v.n S.d.n S.d.c S.i.n S.i.c S.c.n S.c.c S.h.n S.h.c ⟨nm.toArray⟩ ⟨v.t.toArray⟩ S.d.a S.i.a S.c.a S.h.a W.all _ ?_
  refine den_new fun m W1 _ x1 => den_new fun m1 W1' _ x1' => den_call_q (fun _ _ => works_q W1') ⟨true, rfl, fun W2 x2 => ?_⟩
  simp only [Env.push, List.cons_append, List.nil_append, List.append_nil]
  have y2 := ext_trans (ext_trans x1 x1') x2
  refine den_br_t rfl ?_
  refine den_call_q (fun _ _ => large_q S W2) ⟨Vr.large S, rfl, fun W3 x3 => ?_⟩
  simp only [Env.push, List.cons_append, List.nil_append, List.append_nil]
  have y3 := ext_trans y2 x3
  refine den_br (fun c1 => ?_) fun c1 => ?_
  · exact den_call_q (fun _ _ => works_q W3) ⟨true, rfl, fun W4 x4 => den_ret fun _ _ _ => ⟨_, rfl, rfl⟩⟩
  have c1 : Vr.large S = false := by simpa only [Sy.dens, Sy.den, E.i, E.b, E.t, gd, Env.push, List.cons_append, List.nil_append, List.append_nil, Int.toNat_natCast] using c1
  obtain ⟨hi, hc⟩ := large_t c1
  have hS := hS.ext y3
  have hC := hC.ext y3
  have hQ := hQ.ext y3
  have hone := Vr.put_one its cs sc nm v
  have hset := fun (k : Nat) (c : Vr.Ce) (h1 : cs[k]? = some c) (h2 : Vr.idx (Vr.isCe c.sc nm) cs = (k : Int)) (h3 : c.nm = nm) => Vr.seen_set (its := its) h1 h2 h3 v
  refine den_call_q (fun _ _ => seen_q S its (by omega) hups cs (by omega) sc hsc nm W3 (SlAt.w hS) (SlAt.w hC)) ?_
  generalize hseen : Vr.seen its cs sc nm = s at hone
  refine ⟨(s.getD Vr.Ce.zero).sc, (s.getD Vr.Ce.zero).v.k, (s.getD Vr.Ce.zero).v.n, s.isSome, ⟨(s.getD Vr.Ce.zero).nm.toArray⟩, ⟨(s.getD Vr.Ce.zero).v.t.toArray⟩, rfl, fun W4 x4 => ?_⟩
  simp only [Env.push, List.cons_append, List.nil_append, List.append_nil]
  refine den_new fun m2 W5 _ x5 => den_wr fun W6 x6 => den_newf fun k0 W7 _ x7 Ik0 hk0 => ?_
  have z := ext_trans (ext_trans (ext_trans x4 x5) x6) x7
  have hS := hS.ext z
  have hC := hC.ext z
  have hQ := hQ.ext z
  have hk : SlI W7 (some ⟨k0, 0, none⟩) 1 1 4 (([⟨nm, v⟩] : List Vr.Va).flatMap Vr.Va.enc) := sl_block hk0 rfl rfl Ik0
  simp only [Env.push, List.cons_append, List.nil_append, List.append_nil]
  refine den_call_i (fun _ _ => put_i S its (by omega) hups cs (by omega) sc hsc [⟨nm, v⟩] (by simp) (by intro s hs; obtain rfl := List.mem_singleton.1 hs; exact hvt) ⟨some ⟨k0, 0, none⟩, 1, 1⟩ W7 (SlAt.w hS) (SlAt.w hC) (SlAt.w hk)) fun u wq _ hR => ?_
  have bad : ∀ e : Int, e ≠ 0 → Vr.putL its sc [⟨nm, v⟩] cs = (e, []) → u = .tuple #[S.val, .int .i64 e] := fun e h1 h2 => by
    rw [h2] at hR
    rcases hR with ⟨h0, _⟩ | ⟨_, h⟩
    · exact absurd h0 h1
    · exact h
  have refused : ∀ e : Int, e ≠ 0 → Vr.putL its sc [⟨nm, v⟩] cs = (e, []) → ((e = 22 ∧ s.isSome = false) ∨ (e = 23 ∧ s.isSome = true)) → ExE ⟨3, 8, 0, 0, 0, 4, 0, 0⟩ fun d => u = (Sy.tup [(.agg [(.int .i64 (.iv 9)), (.int .i64 (.iv 10)), (.slc 5 (.nv 8) (.nv 9)), (.slc 6 (.nv 10) (.nv 11)), (.slc 7 (.nv 12) (.nv 13)), (.slc 8 (.nv 14) (.nv 15))]), (.int .i64 (.iv 11))]).den (Env.push { I := [S.ck, S.nx, sc, ot, v.k, v.n, (s.getD Vr.Ce.zero).sc, (s.getD Vr.Ce.zero).v.k, (s.getD Vr.Ce.zero).v.n], N := [S.d.n, S.d.c, S.i.n, S.i.c, S.c.n, S.c.c, S.h.n, S.h.c], B := [true, Vr.large S, s.isSome], T := [⟨nm.toArray⟩, ⟨v.t.toArray⟩, ⟨(s.getD Vr.Ce.zero).nm.toArray⟩, ⟨(s.getD Vr.Ce.zero).v.t.toArray⟩], A := [S.d.a, S.i.a, S.c.a, S.h.a, some ⟨k0, 0, none⟩], M := [m, m1, m2] } d) ∧ ∀ W', W'.w = wq → Ext W7 W' → NewIn W7.w.heap.size W' → (Tree.new (Tree.wr (Tree.br (.un .not (.bin .ieq (.iv 11) (.il 0))) t_lput_3 t_lput_22))).den Try.prog W.all.w.heap.size (Ret fun u x => u = Value.bool true) [] (Env.push { I := [S.ck, S.nx, sc, ot, v.k, v.n, (s.getD Vr.Ce.zero).sc, (s.getD Vr.Ce.zero).v.k, (s.getD Vr.Ce.zero).v.n], N := [S.d.n, S.d.c, S.i.n, S.i.c, S.c.n, S.c.c, S.h.n, S.h.c], B := [true, Vr.large S, s.isSome], T := [⟨nm.toArray⟩, ⟨v.t.toArray⟩, ⟨(s.getD Vr.Ce.zero).nm.toArray⟩, ⟨(s.getD Vr.Ce.zero).v.t.toArray⟩], A := [S.d.a, S.i.a, S.c.a, S.h.a, some ⟨k0, 0, none⟩], M := [m, m1, m2] } d) W' := fun e h1 h2 h3 => by
    obtain rfl := bad e h1 h2
    refine ExE.mk (d := { I := [S.ck, S.nx, e], N := [S.d.n, S.d.c, S.i.n, S.i.c, S.c.n, S.c.c, S.h.n, S.h.c], A := [S.d.a, S.i.a, S.c.a, S.h.a] }) ⟨rfl, fun v hv => by cases hv⟩ ⟨rfl, fun W8 e8 x8 n8 => ?_⟩
    simp only [Env.push, List.cons_append, List.nil_append, List.append_nil]
    refine den_new fun m3 W9 _ x9 => den_wr fun Wa xa => den_br_t (by simp [Sy.dens, Sy.den, E.i, E.b, E.t, gd, Env.push, List.cons_append, List.nil_append, List.append_nil, Int.toNat_natCast, h1]) ?_
    have z := ext_trans (ext_trans x8 x9) xa
    simp only [Env.push, List.cons_append, List.nil_append, List.append_nil]
    refine den_call_q (fun _ _ => rs18_q S S.c its (by omega) cs (by omega) Wa (hQ.ext z) (hS.ext z) (hC.ext z) (hC.ext z)) ⟨true, rfl, fun Wb xb => ?_⟩
    simp only [Env.push, List.cons_append, List.nil_append, List.append_nil]
    refine den_ret fun _ _ _ => ⟨_, rfl, ?_⟩
    rcases h3 with ⟨rfl, h⟩ | ⟨rfl, h⟩ <;> simp [Sy.dens, Sy.den, E.i, E.b, E.t, gd, Env.push, List.cons_append, List.nil_append, List.append_nil, Int.toNat_natCast, Sy.den, E.b, h]
  rcases hone with ⟨hp, hs⟩ | ⟨c, hs, hp⟩ | ⟨k, c, hs, hck, hidx, hcn, hvk, hp⟩
  · exact refused 22 (by decide) hp (.inl ⟨rfl, by rw [hs]; rfl⟩)
  · exact refused 23 (by decide) hp (.inr ⟨rfl, by rw [hs]; rfl⟩)
  · have hset := hset k c hck hidx hcn
    have hkl := (List.getElem?_eq_some_iff.1 hck).1
    have hrl : (cs.set k { c with v := v }).length = cs.length := List.length_set
    have hat : ∀ (i : Nat) x, cs[i]? = some x → ∃ y, (cs.set k { c with v := v })[i]? = some y ∧ y.sc = x.sc ∧ y.nm = x.nm ∧ y.v.k = x.v.k ∧ (i ≠ k → x = y) ∧ (i = k → x = c ∧ y = { c with v := v }) := fun i x hx => by
      by_cases e : i = k
      · subst e
        rw [hck] at hx
        obtain rfl := Option.some.inj hx
        exact ⟨{ c with v := v }, List.getElem?_set_self hkl, rfl, rfl, hvk, fun h => absurd rfl h, fun _ => ⟨rfl, rfl⟩⟩
      · exact ⟨x, by rw [List.getElem?_set_ne (Ne.symm e)]; exact hx, rfl, rfl, rfl, fun _ => rfl, fun h => absurd h e⟩
    rw [hp] at hR
    generalize hr : cs.set k { c with v := v } = r at hR hset hrl hat
    rcases hR with ⟨_, ar, cr, rfl, hR⟩ | ⟨h0, _⟩
    rotate_left
    · exact absurd rfl h0
    have hR : SlAt wq (fun b => W7.w.heap.size ≤ b) ar r.length cr 5 (r.flatMap Vr.Ce.enc) := hR
    subst hs
    refine ExE.mk (d := { I := [S.ck, S.nx, 0], N := [S.d.n, S.d.c, S.i.n, S.i.c, r.length, cr, S.h.n, S.h.c], A := [S.d.a, S.i.a, ar, S.h.a] }) ⟨rfl, fun v hv => by cases hv⟩ ⟨rfl, fun W8 e8 x8 n8 => ?_⟩
    have hR := hR.stay e8 n8
    simp only [Env.push, List.cons_append, List.nil_append, List.append_nil]
    refine den_new fun m3 W9 _ x9 => den_wr fun Wa xa => den_br_f (by simp [Sy.dens, Sy.den, E.i, E.b, E.t, gd, Env.push, List.cons_append, List.nil_append, List.append_nil, Int.toNat_natCast]) (den_br_f (by simp [Sy.dens, Sy.den, E.i, E.b, E.t, gd, Env.push, List.cons_append, List.nil_append, List.append_nil, Int.toNat_natCast, hrl, hn]) ?_)
    have hR := hR.ext (ext_trans x9 xa)
    have z := ext_trans (ext_trans x8 x9) xa
    have hS := hS.ext z
    have hC := hC.ext z
    simp only [Env.push, List.cons_append, List.nil_append, List.append_nil]
    refine den_loop (fun g ws ls _ => ∃ q i : Nat, ws = [.int .i64 (q : Int), .int .i64 (i : Int)] ∧ ls = [] ∧ i ≤ cs.length ∧ q ≤ (if k < i then 1 else 0) ∧ g = cs.length - i) cs.length ⟨0, 0, rfl, rfl, Nat.zero_le _, Nat.zero_le _, rfl⟩ ?_
    rintro g ws ls Wb xb ⟨q, i, rfl, rfl, hi2, hq, rfl⟩
    refine ⟨(q : Int), (i : Int), rfl, rfl, fun _ => ?_⟩
    have hR := hR.ext xb
    have hS := hS.ext xb
    have hC := hC.ext xb
    simp only [Env.push, List.cons_append, List.nil_append, List.append_nil]
    have hq1 : q ≤ 1 := by split at hq <;> omega
    refine den_br (fun d1 => ?_) fun d1 => ?_
    · simp only [Sy.dens, Sy.den, E.i, E.b, E.t, gd, Env.push, List.cons_append, List.nil_append, List.append_nil, Int.toNat_natCast, ltB_true] at d1
      have hil : i < cs.length := by omega
      have hx : cs[i]? = some cs[i] := List.getElem?_eq_getElem hil
      obtain ⟨y, hy, hys, hyn, hyk, hsame, hput⟩ := hat i cs[i] hx
      generalize cs[i] = x at hx hys hyn hyk hsame hput
      refine den_chk (by simp only [E.b, gd]; exact hC.some_of (by omega)) (den_chk (chk_le (by simp only [Sy.dens, Sy.den, E.i, E.b, E.t, gd, Env.push, List.cons_append, List.nil_append, List.append_nil, Int.toNat_natCast]; omega)) (den_look ⟨x.sc, x.v.k, x.v.n, ⟨x.nm.toArray⟩, ⟨x.v.t.toArray⟩, fun W' xW => ?_, ?_⟩))
      · have := sl_look (P := Try.prog) Vr.Ce.enc_len (by decide) hC ca_agg ca_size hx xW
        simp only [Sy.dens, Sy.den, E.i, E.b, E.t, gd, Env.push, List.cons_append, List.nil_append, List.append_nil, Int.toNat_natCast, Nat.add_zero, Int.toNat_natCast] at this ⊢
        exact this
      simp only [Env.push, List.cons_append, List.nil_append, List.append_nil]
      refine den_chk (by simp only [E.b, gd]; exact hR.some_of (by omega)) (den_chk (chk_lt (by simp only [Sy.dens, Sy.den, E.i, E.b, E.t, gd, Env.push, List.cons_append, List.nil_append, List.append_nil, Int.toNat_natCast]; omega)) (den_look ⟨y.sc, y.v.k, y.v.n, ⟨y.nm.toArray⟩, ⟨y.v.t.toArray⟩, fun W' xW => ?_, ?_⟩))
      · have := sl_look (P := Try.prog) Vr.Ce.enc_len (by decide) hR ca_agg ca_size hy xW
        simp only [Sy.dens, Sy.den, E.i, E.b, E.t, gd, Env.push, List.cons_append, List.nil_append, List.append_nil, Int.toNat_natCast, Nat.add_zero, Int.toNat_natCast] at this ⊢
        exact this
      simp only [Env.push, List.cons_append, List.nil_append, List.append_nil]
      refine ⟨?_, ?_⟩
      · refine den_grow fun Va va => den_new fun ma Vb _ vb => den_grow fun Vc vc => den_new fun mb Vd _ vd => den_grow fun Ve ve => den_wr fun Vf vf => den_grow fun Vg vg => den_wr fun Vh vh => ?_
        simp only [Env.push, List.cons_append, List.nil_append, List.append_nil]
        refine den_br_f (by simp [Sy.dens, Sy.den, E.i, E.b, E.t, gd, Env.push, List.cons_append, List.nil_append, List.append_nil, Int.toNat_natCast, hys, hyn, hyk]) (den_br (fun d2 => ?_) fun d2 => ?_)
        · have hik : i = k := Decidable.byContradiction fun hne => by
            have := hsame hne
            subst this
            simp [Sy.dens, Sy.den, E.i, E.b, E.t, gd, Env.push, List.cons_append, List.nil_append, List.append_nil, Int.toNat_natCast] at d2
          obtain ⟨hxc, hyc⟩ := hput hik
          refine den_br_f (by simp [Sy.dens, Sy.den, E.i, E.b, E.t, gd, Env.push, List.cons_append, List.nil_append, List.append_nil, Int.toNat_natCast, hxc, hyc, hcn]) (den_frz fun Vi _ vi _ _ => den_again ⟨cs.length - (i + 1), by omega, q + 1, i + 1, ?_, rfl, by omega, ?_, rfl⟩)
          · simp only [Sy.dens, Sy.den, E.i, E.b, E.t, gd, Env.push, List.cons_append, List.nil_append, List.append_nil, Int.toNat_natCast]
            rw [w64i (by omega) (by omega), w64i (by omega) (by omega)]; rfl
          · rw [if_pos (by omega)]
            rw [if_neg (by omega)] at hq
            omega
        · refine den_frz fun Vi _ vi _ _ => den_again ⟨cs.length - (i + 1), by omega, q, i + 1, ?_, rfl, by omega, ?_, rfl⟩
          · simp only [Sy.dens, Sy.den, E.i, E.b, E.t, gd, Env.push, List.cons_append, List.nil_append, List.append_nil, Int.toNat_natCast]
            rw [w64i (by omega) (by omega)]; rfl
          · split at hq <;> split <;> omega
      · refine den_grow fun Va va => den_new fun ma Vb _ vb => den_grow fun Vc vc => den_new fun mb Vd _ vd => den_grow fun Ve ve => den_wr fun Vf vf => den_grow fun Vg vg => den_wr fun Vh vh => ?_
        simp only [Env.push, List.cons_append, List.nil_append, List.append_nil]
        refine den_br_f (by simp [Sy.dens, Sy.den, E.i, E.b, E.t, gd, Env.push, List.cons_append, List.nil_append, List.append_nil, Int.toNat_natCast, hys, hyn, hyk]) (den_br (fun d2 => ?_) fun d2 => ?_)
        · have hik : i = k := Decidable.byContradiction fun hne => by
            have := hsame hne
            subst this
            simp [Sy.dens, Sy.den, E.i, E.b, E.t, gd, Env.push, List.cons_append, List.nil_append, List.append_nil, Int.toNat_natCast] at d2
          obtain ⟨hxc, hyc⟩ := hput hik
          refine den_br_f (by simp [Sy.dens, Sy.den, E.i, E.b, E.t, gd, Env.push, List.cons_append, List.nil_append, List.append_nil, Int.toNat_natCast, hxc, hyc, hcn]) (den_frz fun Vi _ vi _ _ => den_again ⟨cs.length - (i + 1), by omega, q + 1, i + 1, ?_, rfl, by omega, ?_, rfl⟩)
          · simp only [Sy.dens, Sy.den, E.i, E.b, E.t, gd, Env.push, List.cons_append, List.nil_append, List.append_nil, Int.toNat_natCast]
            rw [w64i (by omega) (by omega), w64i (by omega) (by omega)]; rfl
          · rw [if_pos (by omega)]
            rw [if_neg (by omega)] at hq
            omega
        · refine den_frz fun Vi _ vi _ _ => den_again ⟨cs.length - (i + 1), by omega, q, i + 1, ?_, rfl, by omega, ?_, rfl⟩
          · simp only [Sy.dens, Sy.den, E.i, E.b, E.t, gd, Env.push, List.cons_append, List.nil_append, List.append_nil, Int.toNat_natCast]
            rw [w64i (by omega) (by omega)]; rfl
          · split at hq <;> split <;> omega
    · simp only [Sy.dens, Sy.den, E.i, E.b, E.t, gd, Env.push, List.cons_append, List.nil_append, List.append_nil, Int.toNat_natCast, ltB_false] at d1
      refine den_new fun m4 Wc _ xc => den_wr fun Wd' xd => den_wr fun We xe => ?_
      have z := ext_trans (ext_trans xc xd) xe
      have hR := hR.ext z
      have hS := hS.ext z
      have hC := hC.ext z
      simp only [Env.push, List.cons_append, List.nil_append, List.append_nil]
      have sq := fun W h1 h2 => seen_q { S with c := ⟨ar, r.length, cr⟩ } its (by omega) hups r (by omega) sc hsc nm W h1 h2
      rw [hset, hseen] at sq
      simp only [Option.map_some, if_pos] at sq
      refine den_call_q (fun _ _ => sq We (SlAt.w hS) (SlAt.w hR)) ⟨c.sc, v.k, v.n, true, ⟨c.nm.toArray⟩, ⟨v.t.toArray⟩, rfl, fun Wf xf => ?_⟩
      simp only [Env.push, List.cons_append, List.nil_append, List.append_nil]
      refine den_new fun m5 Wg _ xg => den_wr fun Wh xh => ?_
      have z := ext_trans (ext_trans xf xg) xh
      have hR := hR.ext z
      have hS := hS.ext z
      have hC := hC.ext z
      simp only [Env.push, List.cons_append, List.nil_append, List.append_nil]
      have sq2 := fun W h1 h2 => seen_q { S with c := ⟨ar, r.length, cr⟩ } its (by omega) hups r (by omega) ot hot nm W h1 h2
      rw [hset] at sq2
      refine den_call_q (fun _ _ => seen_q S its (by omega) hups cs (by omega) ot hot nm Wh (SlAt.w hS) (SlAt.w hC)) ?_
      generalize Vr.seen its cs ot nm = s at sq2
      refine ⟨(s.getD Vr.Ce.zero).sc, (s.getD Vr.Ce.zero).v.k, (s.getD Vr.Ce.zero).v.n, s.isSome, ⟨(s.getD Vr.Ce.zero).nm.toArray⟩, ⟨(s.getD Vr.Ce.zero).v.t.toArray⟩, rfl, fun Wi xi => ?_⟩
      simp only [Env.push, List.cons_append, List.nil_append, List.append_nil]
      refine den_new fun m6 Wj _ xj => den_wr fun Wk xk => ?_
      have z := ext_trans (ext_trans xi xj) xk
      have hR := hR.ext z
      have hS := hS.ext z
      simp only [Env.push, List.cons_append, List.nil_append, List.append_nil]
      refine den_call_q (fun _ _ => sq2 Wk (SlAt.w hS) (SlAt.w hR)) ?_
      generalize hs2 : (s.map fun x => if x.sc = c.sc then ({ c with v := v } : Vr.Ce) else x) = s2
      refine ⟨(s2.getD Vr.Ce.zero).sc, (s2.getD Vr.Ce.zero).v.k, (s2.getD Vr.Ce.zero).v.n, s2.isSome, ⟨(s2.getD Vr.Ce.zero).nm.toArray⟩, ⟨(s2.getD Vr.Ce.zero).v.t.toArray⟩, rfl, fun Wl xl => ?_⟩
      simp only [Env.push, List.cons_append, List.nil_append, List.append_nil]
      have hiso : s2.isSome = s.isSome := by rw [← hs2, Option.isSome_map]
      have hq2 : ltB 1 (q : Int) = false := by rw [ltB_false]; omega
      refine den_new fun m7 Wm _ xm => den_wr fun Wn xn => den_br_f (by simp [Sy.dens, Sy.den, E.i, E.b, E.t, gd, Env.push, List.cons_append, List.nil_append, List.append_nil, Int.toNat_natCast, hiso, hq2]) (den_ret fun _ _ _ => ⟨_, rfl, ?_⟩)
      cases s with
      | none => simp [Sy.dens, Sy.den, E.i, E.b, E.t, gd, Env.push, List.cons_append, List.nil_append, List.append_nil, Int.toNat_natCast, Sy.den, E.b]
      | some x =>
        by_cases e : x.sc = c.sc
        · have : s2 = some { c with v := v } := by rw [← hs2]; simp [e]
          subst this
          simp [Sy.dens, Sy.den, E.i, E.b, E.t, gd, Env.push, List.cons_append, List.nil_append, List.append_nil, Int.toNat_natCast, Sy.den, E.b, e]
        · have : s2 = some x := by rw [← hs2]; simp [e]
          subst this
          simp [Sy.dens, Sy.den, E.i, E.b, E.t, gd, Env.push, List.cons_append, List.nil_append, List.append_nil, Int.toNat_natCast, Sy.den, E.b, e]
end Go.Proofs.Ytamnfdmmjjekhaa
