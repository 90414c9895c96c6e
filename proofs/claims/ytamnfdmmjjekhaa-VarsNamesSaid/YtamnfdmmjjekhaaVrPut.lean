/- vars.Seen, vars.Put: the walks. -/
import Derived.Test.YtamnfdmmjjekhaaVrPutP
import Derived.Test.YtamnfdmmjjekhaaVcVars2
namespace Go.Proofs.Ytamnfdmmjjekhaa
open Go Go.RowKit Go.SF
set_option linter.unusedSimpArgs false
set_option linter.unusedVariables false
theorem v_agg : aggT Try.prog 35 = some true := by kernel_rfl
theorem v_size : sizeT Try.prog 35 = some 3 := by kernel_rfl
theorem u8_agg : aggT Try.prog 5 = some false := by kernel_rfl
theorem st_agg : aggT Try.prog 49 = some true := by kernel_rfl
theorem st_size : sizeT Try.prog 49 = some 4 := by kernel_rfl
theorem seen_q (S : Vr.StV) (its : List Vr.It) (hl : its.length ≤ 1000000) (hups : ∀ x ∈ its, (Lit.int .i64 x.up).wf = true) (cs : List Vr.Ce) (hcl : cs.length ≤ 1000000) (sc : Int) (hsc : (Lit.int .i64 sc).wf = true) (nm : Vr.Bs) (W : Wd)
    (hS : SlW W.w S.i.a S.i.n S.i.c 8 (its.flatMap Vr.It.enc)) (hC : SlW W.w S.c.a S.c.n S.c.c 5 (cs.flatMap Vr.Ce.enc)) :
    CallsQ Try.prog 13 #[S.val, .int .i64 sc, .string ⟨nm.toArray⟩] W (.tuple #[.agg ((Vr.seen its cs sc nm).getD Vr.Ce.zero).enc.toArray, .bool (Vr.seen its cs sc nm).isSome]) := by
  have hS := hS.all
  have hC := hC.all
  have hn : cs.length = S.c.n := by have := hC.1; rw [Vr.encs_len] at this; omega
  refine vc_seen S.ck S.nx sc S.d.n S.d.c S.i.n S.i.c S.c.n S.c.c S.h.n S.h.c ⟨nm.toArray⟩ S.d.a S.i.a S.c.a S.h.a W.all _ ?_
  refine den_new fun m W1 _ x1 => den_new fun k W2 _ x2 => ?_
  simp only [Env.push, List.cons_append, List.nil_append, List.append_nil]
  have y2 := ext_trans x1 x2
  refine den_call_q (fun _ _ => place_q S its hl hups cs hcl sc hsc nm W2 (SlAt.w (hS.ext y2)) (SlAt.w (hC.ext y2))) ⟨Vr.place its cs sc nm, rfl, fun W3 x3 => ?_⟩
  simp only [Env.push, List.cons_append, List.nil_append, List.append_nil]
  have y3 := ext_trans y2 x3
  rcases Vr.place_cases its cs sc nm with ⟨e1, e2⟩ | ⟨id, _, i, x, e1, _, hx, e2⟩
  · refine den_br_t (by simp only [Sy.dens, Sy.den, E.i, E.b, E.t, gd, Env.push, List.cons_append, List.nil_append, List.append_nil, Int.toNat_natCast, e1]; rfl) (den_wr fun W4 x4 => den_ret fun _ _ _ => ⟨_, rfl, ?_⟩)
    rw [e2]; rfl
  · have hil := (List.getElem?_eq_some_iff.1 hx).1
    refine den_br_f (by simp only [Sy.dens, Sy.den, E.i, E.b, E.t, gd, Env.push, List.cons_append, List.nil_append, List.append_nil, Int.toNat_natCast, e1]; exact ltB_f (by omega)) (den_chk (by simp only [E.b, gd]; exact hC.some_of (by omega)) (den_chk (chk_le (by simp only [Sy.dens, Sy.den, E.i, E.b, E.t, gd, Env.push, List.cons_append, List.nil_append, List.append_nil, Int.toNat_natCast, e1]; omega)) (den_chk (chk_lt (by simp only [Sy.dens, Sy.den, E.i, E.b, E.t, gd, Env.push, List.cons_append, List.nil_append, List.append_nil, Int.toNat_natCast, e1]; omega)) (den_look ⟨x.sc, x.v.k, x.v.n, ⟨x.nm.toArray⟩, ⟨x.v.t.toArray⟩, fun W' xW => ?_, ?_⟩))))
    · have := sl_look (P := Try.prog) Vr.Ce.enc_len (by decide) hC ca_agg ca_size hx (ext_trans y3 xW)
      simp only [Sy.dens, Sy.den, E.i, E.b, E.t, gd, Env.push, List.cons_append, List.nil_append, List.append_nil, Int.toNat_natCast, e1, Int.toNat_natCast, Nat.add_zero] at this ⊢
      exact this
    simp only [Env.push, List.cons_append, List.nil_append, List.append_nil]
    refine den_wr fun W4 x4 => den_ret fun _ _ _ => ⟨_, rfl, ?_⟩
    rw [e2]; rfl
theorem is_q (v : Vr.Val) (ht : v.t.length ≤ 9223372036854775807) (k : Int) (W : Wd) : CallsQ Try.prog 37 #[.agg #[.int .u8 v.k, .int .i64 v.n, .string ⟨v.t.toArray⟩], .int .u8 k] W (.bool (Vr.isV v k)) := by
  refine vc_is v.k v.n k ⟨v.t.toArray⟩ W.all _ ?_
  refine den_new fun m W1 _ x1 => den_br (fun c1 => ?_) fun c1 => ?_
  · have c1 : v.k = k := by simpa [Sy.dens, Sy.den, E.i, E.b, E.t, gd, Env.push, List.cons_append, List.nil_append, List.append_nil, Int.toNat_natCast] using c1
    refine den_call_q (fun _ _ => Vs.may_q v.k v.n ⟨v.t.toArray⟩ (by simpa [ByteArray.size] using ht) W1) ⟨_root_.Va.may ⟨v.k, v.n, ⟨v.t.toArray⟩⟩, rfl, fun W3 x3 => den_ret fun _ _ _ => ⟨_, rfl, ?_⟩⟩
    simp [Vr.isV, c1, Sy.den, E.b, gd, Env.push]
  · have c1 : ¬ v.k = k := by simpa [Sy.dens, Sy.den, E.i, E.b, E.t, gd, Env.push, List.cons_append, List.nil_append, List.append_nil, Int.toNat_natCast] using c1
    refine den_ret fun _ _ _ => ⟨_, rfl, ?_⟩
    simp [Vr.isV, c1, Sy.den, E.b]
theorem owns_some {w : World} {b : Nat} {e : TypeId} {sz : Nat} {a : Option Addr} {n c : Nat} {xs : List Value} (h : w.ownsRow b e sz (.slice a n c) n xs) (hn : 0 < n) : a.isSome = true := by
  rcases h.2 with ⟨e1, z⟩ | ⟨g, cap, cur, e1, _⟩
  · omega
  · injection e1 with a1 a2 a3
    rw [a1]; rfl
/-- a new state's cells, or what was handed in -/
def PutR (w0 w' : World) (S : Vr.StV) (v : Value) (r : Int × List Vr.Ce) : Prop :=
  (r.1 = 0 ∧ ∃ a c, v = .tuple #[Vr.StV.val { S with c := ⟨a, r.2.length, c⟩ }, .int .i64 0] ∧ SlAt w' (fun b => w0.heap.size ≤ b) a r.2.length c 5 (r.2.flatMap Vr.Ce.enc)) ∨ (r.1 ≠ 0 ∧ v = .tuple #[S.val, .int .i64 r.1])
theorem put_i (S : Vr.StV) (its : List Vr.It) (hl : its.length ≤ 1000000) (hups : ∀ x ∈ its, (Lit.int .i64 x.up).wf = true) (cs : List Vr.Ce) (hcl : cs.length ≤ 1000000) (sc : Int) (hsc : (Lit.int .i64 sc).wf = true) (sets : List Vr.Va) (hsl : sets.length ≤ 1000000) (hst : ∀ s ∈ sets, s.v.t.length ≤ 9223372036854775807) (Z : Vr.Sl) (W : Wd)
    (hS : SlW W.w S.i.a S.i.n S.i.c 8 (its.flatMap Vr.It.enc)) (hC : SlW W.w S.c.a S.c.n S.c.c 5 (cs.flatMap Vr.Ce.enc)) (hZ : SlW W.w Z.a Z.n Z.c 4 (sets.flatMap Vr.Va.enc)) :
    CallsI Try.prog 16 #[S.val, .int .i64 sc, Z.val] W.all fun v w' => PutR W.w w' S v (Vr.putL its sc sets cs) := by
  have hS := hS.all
  have hC := hC.all
  have hZ := hZ.all
  have hzn : sets.length = Z.n := by have := hZ.1; rw [flat_len Vr.Va.enc_len] at this; omega
  generalize hP : Vr.putL its sc sets cs = P
  refine vc_put S.ck S.nx sc S.d.n S.d.c S.i.n S.i.c S.c.n S.c.c S.h.n S.h.c Z.n Z.c S.d.a S.i.a S.c.a S.h.a Z.a W.all _ ?_
  refine den_new fun m0 W1 _ x1 => den_new fun m1 W2 _ x2 => den_new fun m2 W3 _ x3 => den_wr fun W3' x3' => ?_
  simp only [Env.push, List.cons_append, List.nil_append, List.append_nil]
  have y3 := ext_trans (ext_trans (ext_trans x1 x2) x3) x3'
  have hsz : W.w.heap.size ≤ W3'.w.heap.size := y3.size
  refine den_callr_i (fun _ _ => clone_q cs hcl S.c.a S.c.n S.c.c W3' (SlAt.w (hC.ext y3))) fun v w' _ hN => ?_
  obtain ⟨a1, c1, hv, ho⟩ := id hN
  refine ExE.mk (d := { N := [cs.length, c1], A := [a1], L := [cs.flatMap Vr.Ce.enc] }) ⟨rfl, fun v hv => by cases hv⟩ ⟨hv, newRow_rows hN hsz (by rw [hv]; rfl) rfl (by simp only [rowConts, conts, Seg.den, gd, Env.push, List.map_cons, List.map_nil, List.flatMap_cons, List.flatMap_nil, List.append_nil, List.cons_append, List.nil_append]) rfl rfl _, fun W4 e4 x4 n4 => ?_⟩
  simp only [Env.push, List.cons_append, List.nil_append, List.append_nil]
  have y4 := ext_trans y3 x4
  refine den_wr fun W5 x5 => ?_
  have y5 := ext_trans y4 x5
  refine den_loop (fun g vs ls _ => ∃ (i : Nat) (r : List Vr.Ce) (a' : Option Addr) (c' : Nat), vs = [.int .i64 (i : Int), .slice a' r.length c'] ∧ ls = [r.flatMap Vr.Ce.enc] ∧ P = Vr.putL its sc (sets.drop i) r ∧ r.length = cs.length ∧ i ≤ sets.length ∧ g = sets.length - i) sets.length ⟨0, cs, a1, c1, rfl, by simp only [rowConts, conts, Seg.den, gd, Env.push, List.map_cons, List.map_nil, List.flatMap_cons, List.flatMap_nil, List.append_nil, List.cons_append, List.nil_append], by rw [← hP]; simp, rfl, Nat.zero_le _, rfl⟩ ?_
  rintro g vs ls W6 x6 ⟨i, r, a', c', rfl, rfl, hp, hrl, hi, rfl⟩
  have y6 := ext_trans y5 x6
  refine ⟨(i : Int), r.length, c', a', r.flatMap Vr.Ce.enc, rfl, by simp only [rowConts, conts, Seg.den, gd, Env.push, List.map_cons, List.map_nil, List.flatMap_cons, List.flatMap_nil, List.append_nil, List.cons_append, List.nil_append], fun hrow => ?_⟩
  simp only [Env.push, List.cons_append, List.nil_append, List.append_nil]
  have hro := (hrow _ (List.mem_cons_self ..)).1
  simp only [rowConts, conts, Seg.den, gd, Env.push, List.map_cons, List.map_nil, List.flatMap_cons, List.flatMap_nil, List.append_nil, List.cons_append, List.nil_append, Sy.den, E.i, Int.toNat_natCast] at hro
  refine den_br (fun d1 => ?_) fun d1 => ?_
  · simp only [Sy.dens, Sy.den, E.i, E.b, E.t, gd, Env.push, List.cons_append, List.nil_append, List.append_nil, Int.toNat_natCast, ltB_true] at d1
    have hil : i < sets.length := by omega
    have hx : sets[i]? = some sets[i] := List.getElem?_eq_getElem hil
    have hds : sets.drop i = sets[i] :: sets.drop (i + 1) := List.drop_eq_getElem_cons hil
    have hxm := hst sets[i] (List.getElem_mem hil)
    generalize sets[i] = x at hx hds hxm
    rw [hds] at hp
    unfold Vr.putL at hp
    refine den_chk (by simp only [E.b, gd]; exact hZ.some_of (by omega)) (den_chk (chk_le (by simp only [Sy.dens, Sy.den, E.i, E.b, E.t, gd, Env.push, List.cons_append, List.nil_append, List.append_nil, Int.toNat_natCast]; omega)) (den_look ⟨x.v.k, x.v.n, ⟨x.nm.toArray⟩, ⟨x.v.t.toArray⟩, fun W' xW => ?_, ?_⟩))
    · have := sl_look (P := Try.prog) Vr.Va.enc_len (by decide) hZ st_agg st_size hx (ext_trans y6 xW)
      simp only [Sy.dens, Sy.den, E.i, E.b, E.t, gd, Env.push, List.cons_append, List.nil_append, List.append_nil, Int.toNat_natCast, Nat.add_zero] at this ⊢
      exact this
    simp only [Env.push, List.cons_append, List.nil_append, List.append_nil]
    refine den_new fun m3 W7 _ x7 => den_wr fun W8 x8 => ?_
    simp only [Env.push, List.cons_append, List.nil_append, List.append_nil]
    have y8 := ext_trans (ext_trans y6 x7) x8
    refine den_call_q (fun hb hr => ?_) ⟨Vr.place its r sc x.nm, rfl, fun W9 x9 => ?_⟩
    · have h1 := (hr _ (List.mem_cons_self ..)).1
      simp only [rowConts, conts, Seg.den, gd, Env.push, List.map_cons, List.map_nil, List.flatMap_cons, List.flatMap_nil, List.append_nil, List.cons_append, List.nil_append, Sy.den, E.i, Int.toNat_natCast] at h1
      exact place_q { S with c := ⟨a', r.length, c'⟩ } its hl hups r (by omega) sc hsc x.nm W8 (SlAt.w (hS.ext y8)) (SlAt.w (owns_sl h1))
    simp only [Env.push, List.cons_append, List.nil_append, List.append_nil]
    rcases Vr.place_cases its r sc x.nm with ⟨e1, _⟩ | ⟨id, _, j, c, e1, _, hc, _⟩
    · rw [e1, if_pos (by omega)] at hp
      refine den_br_t (by simp only [Sy.dens, Sy.den, E.i, E.b, E.t, gd, Env.push, List.cons_append, List.nil_append, List.append_nil, Int.toNat_natCast, e1]; rfl) (den_wr fun W10 x10 => den_ret fun _ _ _ => ⟨_, rfl, .inr ⟨by rw [hp]; decide, ?_⟩⟩)
      rw [hp]; rfl
    · have hjl := (List.getElem?_eq_some_iff.1 hc).1
      rw [e1, if_neg (by omega)] at hp
      simp only [Int.toNat_natCast, hc, Option.getD_some] at hp
      refine den_br_f (by simp only [Sy.dens, Sy.den, E.i, E.b, E.t, gd, Env.push, List.cons_append, List.nil_append, List.append_nil, Int.toNat_natCast, e1]; exact ltB_f (by omega)) (den_chk (by simp only [E.b, gd]; exact owns_some hro (by omega)) (den_chk (chk_le (by simp only [Sy.dens, Sy.den, E.i, E.b, E.t, gd, Env.push, List.cons_append, List.nil_append, List.append_nil, Int.toNat_natCast, e1]; omega)) (den_chk (chk_lt (by simp only [Sy.dens, Sy.den, E.i, E.b, E.t, gd, Env.push, List.cons_append, List.nil_append, List.append_nil, Int.toNat_natCast, e1]; omega)) (den_rlook (ExE.mk (d := { I := [c.v.k] }) ⟨rfl, fun v hv => by cases hv⟩ ⟨fun w hw => ?_, ?_⟩)))))
      · have h1 := hw.1
        simp only [rowConts, conts, Seg.den, gd, Env.push, List.map_cons, List.map_nil, List.flatMap_cons, List.flatMap_nil, List.append_nil, List.cons_append, List.nil_append, Sy.den, E.i, Int.toNat_natCast] at h1
        have h2 : SlI (Wd.of w).all a' r.length c' 5 (r.flatMap Vr.Ce.enc) := SlW.all (W := Wd.of w) ((owns_sl h1).mono fun _ _ => trivial)
        have := sl_look_f (P := Try.prog) Vr.Ce.enc_len h2 u8_agg hc (k := 2) (by decide) (u := .int .u8 c.v.k) rfl (W' := (Wd.of w).all) (Ext.refl _)
        simp only [Sy.dens, Sy.den, E.i, E.b, E.t, gd, Env.push, List.cons_append, List.nil_append, List.append_nil, Int.toNat_natCast, e1, Int.toNat_natCast] at this ⊢
        exact this
      · simp only [Env.push, List.cons_append, List.nil_append, List.append_nil]
        refine den_callq ⟨Vr.isV x.v c.v.k, ⟨fun W' xW _ _ => is_q x.v hxm c.v.k W', ?_⟩⟩
        simp only [Env.push, List.cons_append, List.nil_append, List.append_nil]
        refine den_grow fun W10 x10 => den_br (fun d2 => ?_) fun d2 => ?_
        · have d2 : Vr.isV x.v c.v.k = false := by simpa [Sy.dens, Sy.den, E.i, E.b, E.t, gd, Env.push, List.cons_append, List.nil_append, List.append_nil, Int.toNat_natCast] using d2
          rw [d2, if_neg Bool.false_ne_true] at hp
          refine den_wr fun W11 x11 => den_ret fun _ _ _ => ⟨_, rfl, .inr ⟨by rw [hp]; decide, ?_⟩⟩
          rw [hp]; rfl
        · have d2 : Vr.isV x.v c.v.k = true := by simpa [Sy.dens, Sy.den, E.i, E.b, E.t, gd, Env.push, List.cons_append, List.nil_append, List.append_nil, Int.toNat_natCast] using d2
          rw [d2, if_pos rfl] at hp
          refine den_rset fun W11 x11 => ?_
          simp only [Env.push, List.cons_append, List.nil_append, List.append_nil]
          refine den_frz fun W12 _ x12 _ _ => den_again ⟨sets.length - (i + 1), by omega, i + 1, r.set j { c with v := x.v }, a', c', ?_, ?_, hp, by rw [List.length_set]; exact hrl, by omega, rfl⟩
          · simp only [Sy.dens, Sy.den, E.i, E.b, E.t, gd, Env.push, List.cons_append, List.nil_append, List.append_nil, Int.toNat_natCast]
            rw [w64i (by omega) (by omega), List.length_set]; rfl
          · simp only [rowConts, conts, Seg.den, gd, Env.push, List.map_cons, List.map_nil, List.flatMap_cons, List.flatMap_nil, List.append_nil, List.cons_append, List.nil_append, Sy.dens, Sy.den, E.i, E.b, E.t, gd, Env.push, List.cons_append, List.nil_append, List.append_nil, Int.toNat_natCast, e1, Int.toNat_natCast]
            rw [← Vr.setL_val hc x.v]
  · simp only [Sy.dens, Sy.den, E.i, E.b, E.t, gd, Env.push, List.cons_append, List.nil_append, List.append_nil, Int.toNat_natCast, ltB_false] at d1
    rw [List.drop_eq_nil_of_le (by omega)] at hp
    have hp : P = (0, r) := hp
    refine den_wr fun W7 x7 => den_ret fun _ _ hr => ⟨_, rfl, .inl ⟨by rw [hp], a', c', ?_, ?_⟩⟩
    · rw [hp]; rfl
    · have h1 := (hr _ (List.mem_cons_self ..)).1
      simp only [rowConts, conts, Seg.den, gd, Env.push, List.map_cons, List.map_nil, List.flatMap_cons, List.flatMap_nil, List.append_nil, List.cons_append, List.nil_append, Sy.den, E.i, Int.toNat_natCast] at h1
      rw [hp]
      exact owns_sl h1
end Go.Proofs.Ytamnfdmmjjekhaa
