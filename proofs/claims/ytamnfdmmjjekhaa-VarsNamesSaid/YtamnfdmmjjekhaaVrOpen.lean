/- vars.Drop and vars.Open: the walks. -/
import Derived.Test.YtamnfdmmjjekhaaVrDel
import Derived.Test.YtamnfdmmjjekhaaVrP3
namespace Go.Proofs.Ytamnfdmmjjekhaa
open Go Go.RowKit Go.SF
set_option linter.unusedSimpArgs false
set_option linter.unusedVariables false
/-- a slice that was there when a row was not -/
theorem sl_but {V W : Wd} {a : Option Addr} {n c sz : Nat} {xs : List Value} (h : SlI V a n c sz xs) (x : Ext V W) {ks : List Nat} (hk : ∀ k ∈ ks, V.w.heap.size ≤ k) : SlI (W.but ks) a n c sz xs := by
  obtain ⟨h1, h2, h3⟩ := h.ext x
  refine ⟨h1, h2, ?_⟩
  rcases h3 with h3 | ⟨b, o, e, hI, hb, hc⟩
  · exact .inl h3
  · rcases h.2.2 with ⟨z0, z1, z2⟩ | ⟨b', o', e', hI', hb', hc'⟩
    · exact .inl ⟨z0, z1, z2⟩
    · rw [e] at e'
      injection e' with e'
      injection e' with e1 e2
      subst e1
      exact .inr ⟨b, o, e, ⟨hb, fun hm => by have := hk b hm; omega⟩, hb, hc⟩
theorem own_slice {a : Option Addr} {n c n' c' : Nat} : (Value.slice a n c).ownBlock = (Value.slice a n' c').ownBlock := by cases a <;> rfl
/-- a new slice of cells in the state -/
def NewCells (w0 w' : World) (S : Vr.StV) (v : Value) (l : List Vr.Ce) : Prop := ∃ a c, v = Vr.StV.val { S with c := ⟨a, l.length, c⟩ } ∧ SlAt w' (fun b => w0.heap.size ≤ b) a l.length c 5 (l.flatMap Vr.Ce.enc)
theorem drop_i (S : Vr.StV) (l : List Vr.Ce) (hl : l.length ≤ 1000000) (zs : List Int) (hz : zs.length ≤ 1000000) (Z : Vr.Sl) (W : Wd) (hS : SlW W.w S.c.a S.c.n S.c.c 5 (l.flatMap Vr.Ce.enc)) (hZ : SlW W.w Z.a Z.n Z.c 1 (zs.map (Value.int .i64))) :
    CallsI Try.prog 20 #[S.val, Z.val] W.all fun v w' => NewCells W.w w' S v (l.filter fun x => !Vr.isIn zs x) := by
  have hS := hS.all
  have hZ := hZ.all
  refine vc_drop S.ck S.nx S.d.n S.d.c S.i.n S.i.c S.c.n S.c.c S.h.n S.h.c Z.n Z.c S.d.a S.i.a S.c.a S.h.a Z.a W.all _ ?_
  refine den_new fun m0 W1 _ x1 => den_new fun m1 W2 _ x2 => den_new fun m2 W3 _ x3 => ?_
  simp only [Env.push, List.cons_append, List.nil_append, List.append_nil]
  have y3 := ext_trans (ext_trans x1 x2) x3
  have hsz : W.w.heap.size ≤ W3.w.heap.size := y3.size
  refine den_callr_i (fun _ _ => clone_q l hl S.c.a S.c.n S.c.c W3 (SlAt.w (hS.ext y3))) fun v w' _ hN => ?_
  obtain ⟨a1, c1, hv, ho⟩ := id hN
  refine ExE.mk (d := { N := [l.length, c1], A := [a1], L := [l.flatMap Vr.Ce.enc] }) ⟨rfl, fun v hv => by cases hv⟩ ⟨hv, newRow_rows hN hsz (by rw [hv]; rfl) rfl (by simp only [rowConts, conts, Seg.den, gd, Env.push, List.map_cons, List.map_nil, List.flatMap_cons, List.flatMap_nil, List.append_nil, List.cons_append, List.nil_append]) rfl rfl _, fun W4 e4 x4 n4 => ?_⟩
  simp only [Env.push, List.cons_append, List.nil_append, List.append_nil]
  have y4 := ext_trans y3 x4
  refine den_callr fun hb hr => ?_
  have h1 := (hr _ (List.mem_cons_self ..)).1
  have hbk := hb _ (List.mem_cons_self ..)
  unfold Blk.at at hbk
  have e : conts { I := [S.ck, S.nx], N := [S.d.n, S.d.c, S.i.n, S.i.c, S.c.n, S.c.c, S.h.n, S.h.c, Z.n, Z.c, l.length, c1], A := [S.d.a, S.i.a, S.c.a, S.h.a, Z.a, a1], M := [m0, m1, m2], L := [l.flatMap Vr.Ce.enc] } [Seg.l 0] = l.flatMap Vr.Ce.enc := by simp only [rowConts, conts, Seg.den, gd, Env.push, List.map_cons, List.map_nil, List.flatMap_cons, List.flatMap_nil, List.append_nil, List.cons_append, List.nil_append]
  rw [e] at h1
  simp only [Sy.dens, Sy.den, E.i, E.b, E.t, gd, Env.push, List.cons_append, List.nil_append, List.append_nil, Int.toNat_natCast] at h1
  have hks : ∀ k, k ∈ rowNos { I := [S.ck, S.nx], N := [S.d.n, S.d.c, S.i.n, S.i.c, S.c.n, S.c.c, S.h.n, S.h.c, Z.n, Z.c, l.length, c1], A := [S.d.a, S.i.a, S.c.a, S.h.a, Z.a, a1], M := [m0, m1, m2], L := [l.flatMap Vr.Ce.enc] } [⟨.slc 5 (.nv 10) (.nv 11), .nv 10, 39, 5, [.l 0]⟩] ↔ (Value.slice a1 l.length c1).ownBlock = some k := fun k => by
    rw [rowNos_mem]
    constructor
    · rintro ⟨r, hr, hk⟩
      obtain rfl := List.mem_singleton.1 hr
      exact hk
    · intro hk
      exact ⟨_, List.mem_cons_self .., hk⟩
  have hnew : ∀ k, (Value.slice a1 l.length c1).ownBlock = some k → W.all.w.heap.size ≤ k := fun k hk => (World.ownsRow.lt h1 k hk).1
  refine CallsE.mono (del_t zs hz Z.a Z.n Z.c m1 l hl a1 l.length c1 _ ⟨h1.1, h1.2.imp id fun ⟨g, cap, cur, a, b, c⟩ => ⟨g, cap, cur, a, Nat.zero_le _, c⟩⟩ (fun k hk hI => hI.2 ((hks k).2 hk)) hbk ⟨heap_lt hbk, fun hm => ?_⟩ (sl_but hZ y4 fun k hk => hnew k ((hks k).1 hk))) fun e w' hk hR => ?_
  · have hk := (hks _).1 hm
    obtain ⟨_, h2⟩ := h1
    rcases h2 with ⟨e1, e2⟩ | ⟨g, cap, cur, e1, _, hg, _⟩
    · rw [e1] at hk; simp [Value.ownBlock] at hk
    · rw [e1] at hk
      simp only [Value.ownBlock, Option.some.injEq] at hk
      have hbk2 : W4.w.heap[m1]? = some (.cells #[.slice Z.a Z.n Z.c] 32) := hbk
      rw [← hk, hg] at hbk2
      simp at hbk2
  · obtain ⟨rfl, ho2⟩ := hR
    generalize hF : (l.filter fun x => !Vr.isIn zs x) = F at ho2 ⊢
    refine ExE.mk (d := { N := [F.length, c1], A := [a1], L := [F.flatMap Vr.Ce.enc] }) ⟨rfl, fun v hv => by cases hv⟩ ⟨rfl, ⟨?_, ?_, List.pairwise_singleton _ _⟩, fun W5 e5 x5 _ => ?_⟩
    · intro q hq
      obtain rfl := List.mem_singleton.1 hq
      refine ⟨?_, ?_⟩
      · simp only [rowConts, conts, Seg.den, gd, Env.push, List.map_cons, List.map_nil, List.flatMap_cons, List.flatMap_nil, List.append_nil, List.cons_append, List.nil_append, Sy.den, E.i, Int.toNat_natCast]
        refine ⟨ho2.1, ho2.2.imp id fun ⟨g, cap, cur, a, b, c⟩ => ⟨g, cap, cur, a, ?_, c⟩⟩
        injection a with a1' a2' a3'
        exact hnew g (by rw [a1']; rfl)
      · simp only [rowConts, conts, Seg.den, gd, Env.push, List.map_cons, List.map_nil, List.flatMap_cons, List.flatMap_nil, List.append_nil, List.cons_append, List.nil_append]; exact Vr.encs_one F
    · intro q hq k hk
      obtain rfl := List.mem_singleton.1 hq
      refine .inr ((hks k).2 ?_)
      rw [own_slice (n' := F.length) (c' := c1)]
      exact hk
    · simp only [Env.push, List.cons_append, List.nil_append, List.append_nil]
      refine den_wr fun W6 x6 => den_wr fun W7 x7 => den_ret fun _ _ hr => ⟨_, rfl, a1, c1, rfl, ?_⟩
      have h5 := (hr _ (List.mem_cons_self ..)).1
      simp only [rowConts, conts, Seg.den, gd, Env.push, List.map_cons, List.map_nil, List.flatMap_cons, List.flatMap_nil, List.append_nil, List.cons_append, List.nil_append, Sy.den, E.i, Int.toNat_natCast] at h5
      exact owns_sl h5
theorem va_agg : aggT Try.prog 37 = some true := by kernel_rfl
theorem va_size : sizeT Try.prog 37 = some 4 := by kernel_rfl
set_option maxRecDepth 100000 in
theorem open_i (S : Vr.StV) (l : List Vr.Ce) (hl : l.length ≤ 400000) (vars : List Vr.Va) (hv : vars.length ≤ 400000) (sc : Int) (Z : Vr.Sl) (W : Wd) (hS : SlW W.w S.c.a S.c.n S.c.c 5 (l.flatMap Vr.Ce.enc)) (hZ : SlW W.w Z.a Z.n Z.c 4 (vars.flatMap Vr.Va.enc)) :
    CallsI Try.prog 11 #[S.val, .int .i64 sc, Z.val] W.all fun v w' => ∃ r, St.Of Vr.lt (Vr.opened sc vars l) r ∧ NewCells W.w w' S v r := by
  have hS := hS.all
  have hZ := hZ.all
  have hn : l.length = S.c.n := by have := hS.1; rw [Vr.encs_len] at this; omega
  have hzn : vars.length = Z.n := by have := hZ.1; rw [flat_len Vr.Va.enc_len] at this; omega
  refine vc_open S.ck S.nx sc S.d.n S.d.c S.i.n S.i.c S.c.n S.c.c S.h.n S.h.c Z.n Z.c S.d.a S.i.a S.c.a S.h.a Z.a W.all _ ?_
  refine den_new fun m0 W1 _ x1 => den_new fun m1 W2 _ x2 => den_new fun m2 W3 _ x3 => ?_
  simp only [Env.push, List.cons_append, List.nil_append, List.append_nil]
  have y3 := ext_trans (ext_trans x1 x2) x3
  refine den_loop (fun k vs ls _ => ∃ (i : Nat) (zs : List Vr.Ce) (a' : Option Addr) (c' : Nat), vs = [.int .i64 (i : Int), .slice a' zs.length c'] ∧ ls = [zs.flatMap Vr.Ce.enc] ∧ zs = Vr.ownS sc [] (vars.take i) ∧ i ≤ vars.length ∧ k = vars.length - i) vars.length ⟨0, [], none, 0, rfl, rfl, by simp [Vr.ownS], Nat.zero_le _, rfl⟩ ?_
  rintro k vs ls W4 x4 ⟨i, zs, a', c', rfl, rfl, hzs, hi, rfl⟩
  have y4 := ext_trans y3 x4
  refine ⟨(i : Int), zs.length, c', a', zs.flatMap Vr.Ce.enc, rfl, by simp only [rowConts, conts, Seg.den, gd, Env.push, List.map_cons, List.map_nil, List.flatMap_cons, List.flatMap_nil, List.append_nil, List.cons_append, List.nil_append], fun hrow => ?_⟩
  simp only [Env.push, List.cons_append, List.nil_append, List.append_nil]
  have hzl : zs.length ≤ 400000 := by
    have := Vr.ownS_len sc (vars.take i) []
    rw [hzs]; simp only [List.length_take, List.length_nil] at this; omega
  refine den_br (fun c1 => ?_) fun c1 => ?_
  · simp only [Sy.dens, Sy.den, E.i, E.b, E.t, gd, Env.push, List.cons_append, List.nil_append, List.append_nil, Int.toNat_natCast, ltB_true] at c1
    have hil : i < vars.length := by omega
    have hts : vars.take (i + 1) = vars.take i ++ [vars[i]] := List.take_succ_eq_append_getElem hil
    have hx : vars[i]? = some vars[i] := List.getElem?_eq_getElem hil
    generalize vars[i] = x at hts hx
    refine den_chk (by simp only [E.b, gd]; exact hZ.some_of (by omega)) (den_chk (chk_le (by simp only [Sy.dens, Sy.den, E.i, E.b, E.t, gd, Env.push, List.cons_append, List.nil_append, List.append_nil, Int.toNat_natCast]; omega)) (den_look ⟨x.v.k, x.v.n, ⟨x.nm.toArray⟩, ⟨x.v.t.toArray⟩, fun W' xW => ?_, ?_⟩))
    · have := sl_look (P := Try.prog) Vr.Va.enc_len (by decide) hZ va_agg va_size hx (ext_trans y4 xW)
      simp only [Sy.dens, Sy.den, E.i, E.b, E.t, gd, Env.push, List.cons_append, List.nil_append, List.append_nil, Int.toNat_natCast, Nat.add_zero] at this ⊢
      exact this
    simp only [Env.push, List.cons_append, List.nil_append, List.append_nil]
    refine den_new fun m3 W5 _ x5 => den_wr fun W6 x6 => ?_
    simp only [Env.push, List.cons_append, List.nil_append, List.append_nil]
    refine den_call_q (fun hb hr => ?_) ⟨zs.any (Vr.isCe sc x.nm), rfl, fun W7 x7 => ?_⟩
    · have h1 := (hr _ (List.mem_cons_self ..)).1
      simp only [rowConts, conts, Seg.den, gd, Env.push, List.map_cons, List.map_nil, List.flatMap_cons, List.flatMap_nil, List.append_nil, List.cons_append, List.nil_append, Sy.den, E.i, Int.toNat_natCast] at h1
      exact op1_q sc x.nm m1 zs (by omega) a' zs.length c' W6 (SlAt.w (owns_sl h1)) (hb _ (List.mem_cons_self ..))
    simp only [Env.push, List.cons_append, List.nil_append, List.append_nil]
    refine den_br (fun c2 => ?_) fun c2 => ?_
    · have c2 : zs.any (Vr.isCe sc x.nm) = false := by simpa only [Sy.dens, Sy.den, E.i, E.b, E.t, gd, Env.push, List.cons_append, List.nil_append, List.append_nil, Int.toNat_natCast, Bool.not_eq_true'] using c2
      refine den_new fun m4 W8 _ x8 => den_chk (chk_le (by simp only [Sy.dens, Sy.den, E.i, E.b, E.t, gd, Env.push, List.cons_append, List.nil_append, List.append_nil, Int.toNat_natCast]; omega)) (den_app fun a6 c6 W9 _ x9 => den_frz fun W10 _ x10 _ _ => den_again ⟨vars.length - (i + 1), by omega, i + 1, zs ++ [x.ce sc], a6, c6, ?_, ?_, ?_, by omega, rfl⟩)
      · simp only [Sy.dens, Sy.den, E.i, E.b, E.t, gd, Env.push, List.cons_append, List.nil_append, List.append_nil, Int.toNat_natCast]
        rw [w64i (by omega) (by omega), List.length_append]; rfl
      · simp only [rowConts, conts, Seg.den, gd, Env.push, List.map_cons, List.map_nil, List.flatMap_cons, List.flatMap_nil, List.append_nil, List.flatMap_append]
        rfl
      · rw [hts, Vr.ownS_snoc, ← hzs, c2]; rfl
    · have c2 : zs.any (Vr.isCe sc x.nm) = true := by simpa only [Sy.dens, Sy.den, E.i, E.b, E.t, gd, Env.push, List.cons_append, List.nil_append, List.append_nil, Int.toNat_natCast, Bool.not_eq_false'] using c2
      refine den_frz fun W10 _ x10 _ _ => den_again ⟨vars.length - (i + 1), by omega, i + 1, zs, a', c', ?_, by simp only [rowConts, conts, Seg.den, gd, Env.push, List.map_cons, List.map_nil, List.flatMap_cons, List.flatMap_nil, List.append_nil, List.cons_append, List.nil_append], ?_, by omega, rfl⟩
      · simp only [Sy.dens, Sy.den, E.i, E.b, E.t, gd, Env.push, List.cons_append, List.nil_append, List.append_nil, Int.toNat_natCast]
        rw [w64i (by omega) (by omega)]; rfl
      · rw [hts, Vr.ownS_snoc, ← hzs, c2]; rfl
  · simp only [Sy.dens, Sy.den, E.i, E.b, E.t, gd, Env.push, List.cons_append, List.nil_append, List.append_nil, Int.toNat_natCast, ltB_false] at c1
    rw [List.take_of_length_le (by omega)] at hzs
    refine den_loop (fun k vs ls _ => ∃ (i : Nat) (ys : List Vr.Ce) (a' : Option Addr) (c' : Nat), vs = [.int .i64 (i : Int), .slice a' ys.length c'] ∧ ls = [ys.flatMap Vr.Ce.enc] ∧ ys = Vr.ownR sc zs (l.take i) ∧ i ≤ l.length ∧ k = l.length - i) l.length ⟨0, zs, a', c', rfl, by simp only [rowConts, conts, Seg.den, gd, Env.push, List.map_cons, List.map_nil, List.flatMap_cons, List.flatMap_nil, List.append_nil, List.cons_append, List.nil_append], by simp [Vr.ownR], Nat.zero_le _, rfl⟩ ?_
    rintro k vs ls W5 x5 ⟨j, ys, a2, c2, rfl, rfl, hys, hj, rfl⟩
    have y5 := ext_trans y4 x5
    refine ⟨(j : Int), ys.length, c2, a2, ys.flatMap Vr.Ce.enc, rfl, by simp only [rowConts, conts, Seg.den, gd, Env.push, List.map_cons, List.map_nil, List.flatMap_cons, List.flatMap_nil, List.append_nil, List.cons_append, List.nil_append], fun hrow2 => ?_⟩
    simp only [Env.push, List.cons_append, List.nil_append, List.append_nil]
    have hyl : ys.length ≤ 800000 := by
      have := Vr.ownR_len sc (l.take j) zs
      rw [hys]; simp only [List.length_take] at this; omega
    refine den_br (fun d1 => ?_) fun d1 => ?_
    · simp only [Sy.dens, Sy.den, E.i, E.b, E.t, gd, Env.push, List.cons_append, List.nil_append, List.append_nil, Int.toNat_natCast, ltB_true] at d1
      have hjl : j < l.length := by omega
      have hts : l.take (j + 1) = l.take j ++ [l[j]] := List.take_succ_eq_append_getElem hjl
      have hx : l[j]? = some l[j] := List.getElem?_eq_getElem hjl
      generalize l[j] = x at hts hx
      refine den_chk (by simp only [E.b, gd]; exact hS.some_of (by omega)) (den_chk (chk_le (by simp only [Sy.dens, Sy.den, E.i, E.b, E.t, gd, Env.push, List.cons_append, List.nil_append, List.append_nil, Int.toNat_natCast]; omega)) (den_look ⟨x.sc, x.v.k, x.v.n, ⟨x.nm.toArray⟩, ⟨x.v.t.toArray⟩, fun W' xW => ?_, ?_⟩))
      · have := sl_look (P := Try.prog) Vr.Ce.enc_len (by decide) hS ca_agg ca_size hx (ext_trans y5 xW)
        simp only [Sy.dens, Sy.den, E.i, E.b, E.t, gd, Env.push, List.cons_append, List.nil_append, List.append_nil, Int.toNat_natCast, Nat.add_zero] at this ⊢
        exact this
      simp only [Env.push, List.cons_append, List.nil_append, List.append_nil]
      have done : (x.sc ≠ sc ∨ ys.any (Vr.isCe sc x.nm) = false) → ys ++ [x] = Vr.ownR sc zs (l.take (j + 1)) := fun h => by
        rw [hts, Vr.ownR_snoc, ← hys, if_pos h]
      refine den_new fun m3 W6 _ x6 => den_wr fun W7 x7 => den_br (fun d2 => ?_) fun d2 => ?_
      · have d2 : x.sc = sc := by simpa [Sy.dens, Sy.den, E.i, E.b, E.t, gd, Env.push, List.cons_append, List.nil_append, List.append_nil, Int.toNat_natCast] using d2
        simp only [Env.push, List.cons_append, List.nil_append, List.append_nil]
        refine den_call_q (fun hb hr => ?_) ⟨ys.any (Vr.isCe sc x.nm), rfl, fun W8 x8 => ?_⟩
        · have h1 := (hr _ (List.mem_cons_self ..)).1
          simp only [rowConts, conts, Seg.den, gd, Env.push, List.map_cons, List.map_nil, List.flatMap_cons, List.flatMap_nil, List.append_nil, List.cons_append, List.nil_append, Sy.den, E.i, Int.toNat_natCast] at h1
          exact op1_q sc x.nm m1 ys (by omega) a2 ys.length c2 W7 (SlAt.w (owns_sl h1)) (hb _ (List.mem_cons_self ..))
        simp only [Env.push, List.cons_append, List.nil_append, List.append_nil]
        refine den_br (fun d3 => ?_) fun d3 => ?_
        · have d3 : ys.any (Vr.isCe sc x.nm) = false := by simpa only [Sy.dens, Sy.den, E.i, E.b, E.t, gd, Env.push, List.cons_append, List.nil_append, List.append_nil, Int.toNat_natCast, Bool.not_eq_true'] using d3
          refine den_new fun m4 W9 _ x9 => den_chk (chk_le (by simp only [Sy.dens, Sy.den, E.i, E.b, E.t, gd, Env.push, List.cons_append, List.nil_append, List.append_nil, Int.toNat_natCast]; omega)) (den_app fun a6 c6 W10 _ x10 => den_frz fun W11 _ x11 _ _ => den_again ⟨l.length - (j + 1), by omega, j + 1, ys ++ [x], a6, c6, ?_, ?_, done (.inr d3), by omega, rfl⟩)
          · simp only [Sy.dens, Sy.den, E.i, E.b, E.t, gd, Env.push, List.cons_append, List.nil_append, List.append_nil, Int.toNat_natCast]
            rw [w64i (by omega) (by omega), List.length_append]; rfl
          · simp only [rowConts, conts, Seg.den, gd, Env.push, List.map_cons, List.map_nil, List.flatMap_cons, List.flatMap_nil, List.append_nil, List.flatMap_append]
            rfl
        · have d3 : ys.any (Vr.isCe sc x.nm) = true := by simpa only [Sy.dens, Sy.den, E.i, E.b, E.t, gd, Env.push, List.cons_append, List.nil_append, List.append_nil, Int.toNat_natCast, Bool.not_eq_false'] using d3
          refine den_frz fun W11 _ x11 _ _ => den_again ⟨l.length - (j + 1), by omega, j + 1, ys, a2, c2, ?_, by simp only [rowConts, conts, Seg.den, gd, Env.push, List.map_cons, List.map_nil, List.flatMap_cons, List.flatMap_nil, List.append_nil, List.cons_append, List.nil_append], ?_, by omega, rfl⟩
          · simp only [Sy.dens, Sy.den, E.i, E.b, E.t, gd, Env.push, List.cons_append, List.nil_append, List.append_nil, Int.toNat_natCast]
            rw [w64i (by omega) (by omega)]; rfl
          · rw [hts, Vr.ownR_snoc, ← hys, if_neg]
            rintro (h | h)
            · exact h d2
            · rw [d3] at h; cases h
      · have d2 : ¬ x.sc = sc := by simpa [Sy.dens, Sy.den, E.i, E.b, E.t, gd, Env.push, List.cons_append, List.nil_append, List.append_nil, Int.toNat_natCast] using d2
        simp only [Env.push, List.cons_append, List.nil_append, List.append_nil]
        refine den_new fun m4 W9 _ x9 => den_chk (chk_le (by simp only [Sy.dens, Sy.den, E.i, E.b, E.t, gd, Env.push, List.cons_append, List.nil_append, List.append_nil, Int.toNat_natCast]; omega)) (den_app fun a6 c6 W10 _ x10 => den_frz fun W11 _ x11 _ _ => den_again ⟨l.length - (j + 1), by omega, j + 1, ys ++ [x], a6, c6, ?_, ?_, done (.inl d2), by omega, rfl⟩)
        · simp only [Sy.dens, Sy.den, E.i, E.b, E.t, gd, Env.push, List.cons_append, List.nil_append, List.append_nil, Int.toNat_natCast]
          rw [w64i (by omega) (by omega), List.length_append]; rfl
        · simp only [rowConts, conts, Seg.den, gd, Env.push, List.map_cons, List.map_nil, List.flatMap_cons, List.flatMap_nil, List.append_nil, List.flatMap_append]
          rfl
    · simp only [Sy.dens, Sy.den, E.i, E.b, E.t, gd, Env.push, List.cons_append, List.nil_append, List.append_nil, Int.toNat_natCast, ltB_false] at d1
      rw [List.take_of_length_le (by omega)] at hys
      refine den_row (xs := ys) (a := a2) (n := ys.length) (c := c2) (fun r => St.Of Vr.lt ys r) (y5.size) rfl rfl rfl rfl rfl (Nat.le_of_ble_eq_true rfl) (Nat.le_of_ble_eq_true rfl) (Nat.le_of_ble_eq_true rfl) (fun W2 _ ho2 hf2 => srt_t ys (by omega) a2 ys.length c2 W2 ho2 hf2) fun r W8 hr8 x8 => ?_
      simp only [Env.push, List.cons_append, List.nil_append, List.append_nil]
      refine den_wr fun W9 x9 => den_wr fun W10 x10 => den_ret fun _ _ hr => ⟨_, rfl, r, ?_, a2, c2, ?_, ?_⟩
      · unfold Vr.opened; rw [← hzs, ← hys]; exact hr8
      · simp only [Sy.dens, Sy.den, E.i, E.b, E.t, gd, Env.push, List.cons_append, List.nil_append, List.append_nil, Int.toNat_natCast, Vr.StV.val, hr8.len]
      · have h5 := (hr _ (List.mem_cons_self ..)).1
        simp only [rowConts, conts, Seg.den, gd, Env.push, List.map_cons, List.map_nil, List.flatMap_cons, List.flatMap_nil, List.append_nil, List.cons_append, List.nil_append, Sy.den, E.i, Int.toNat_natCast] at h5
        rw [hr8.len]
        exact owns_sl h5
end Go.Proofs.Ytamnfdmmjjekhaa
