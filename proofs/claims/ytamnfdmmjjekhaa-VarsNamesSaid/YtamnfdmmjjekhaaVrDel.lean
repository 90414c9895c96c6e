/- slices.Clone, slices.DeleteFunc, vars.Drop, vars.Cells: the walks. -/
import Derived.Test.YtamnfdmmjjekhaaVrIdx
import Derived.Test.YtamnfdmmjjekhaaVrStab
namespace Go.Proofs.Ytamnfdmmjjekhaa
open Go Go.RowKit Go.SF
set_option linter.unusedSimpArgs false
set_option linter.unusedVariables false
/-- a call hands over a new row of cells -/
def NewRow (w0 : World) (w' : World) (v : Value) (l : List Vr.Ce) : Prop := ∃ a c, v = .slice a l.length c ∧ w'.ownsRow w0.heap.size 39 5 (.slice a l.length c) l.length (l.flatMap Vr.Ce.enc)
theorem owns_take {w : World} {b : Nat} {e : TypeId} {sz : Nat} {a : Option Addr} {n c : Nat} {xs : List Value} (h : w.ownsRow b e sz (.slice a n c) n xs) {i : Nat} (hi : i ≤ n) : w.ownsRow b e sz (.slice a i c) i (xs.take (i * sz)) := by
  obtain ⟨h1, h2⟩ := h
  have hm := Nat.mul_le_mul_right sz hi
  refine ⟨by rw [List.length_take, h1]; omega, ?_⟩
  rcases h2 with ⟨e1, e2⟩ | ⟨g, cap, cur, e1, r⟩
  · injection e1 with a1 a2 a3
    subst a1 a2 a3
    obtain rfl : i = 0 := by omega
    exact .inl ⟨rfl, rfl⟩
  · injection e1 with a1 a2 a3
    subst a1 a3
    obtain ⟨r1, r2, r3, r4, r5, r6⟩ := r
    refine .inr ⟨g, c, cur, rfl, r1, r2, by omega, r4, r5, ?_⟩
    rw [← r6, List.take_take, Nat.min_eq_left hm]
theorem clone_q (l : List Vr.Ce) (hl : l.length ≤ 1000000) (ad : Option Addr) (n c : Nat) (W : Wd) (hS : SlW W.w ad n c 5 (l.flatMap Vr.Ce.enc)) : CallsI Try.prog 36 #[.slice ad n c] W.all fun v w' => NewRow W.w w' v l := by
  have hS := hS.all
  have hn : l.length = n := by have := hS.1; rw [Vr.encs_len] at this; omega
  refine vc_clone n c ad W.all _ ?_
  refine den_br (fun c1 => ?_) fun c1 => ?_
  · have c1 : ad = none := by simpa [Sy.dens, Sy.den, E.i, E.b, E.t, gd, Env.push, List.cons_append, List.nil_append, List.append_nil, Int.toNat_natCast] using c1
    have h0 : l = [] := by
      rcases hS.2.2 with ⟨_, z, _⟩ | ⟨b, o, e, _⟩
      · exact List.eq_nil_of_length_eq_zero (by omega)
      · rw [c1] at e; cases e
    subst h0
    exact den_ret fun _ _ _ => ⟨_, rfl, none, 0, rfl, World.ownsRow_nil _ _ _ _⟩
  · refine den_app fun a1 c2 W1 _ x1 => ?_
    simp only [Env.push, List.cons_append, List.nil_append, List.append_nil]
    refine den_chk (chk_le (by simp only [Sy.dens, Sy.den, E.i, E.b, E.t, gd, Env.push, List.cons_append, List.nil_append, List.append_nil, Int.toNat_natCast]; omega)) (den_cells (l.flatMap Vr.Ce.enc) ?_ (Vr.encs_one l) ?_ ?_ (den_app fun a2 c3 W2 _ x2 => den_ret fun _ _ hr => ⟨_, rfl, ?_⟩))
    · simp only [Sy.dens, Sy.den, E.i, E.b, E.t, gd, Env.push, List.cons_append, List.nil_append, List.append_nil, Int.toNat_natCast]; rw [Vr.encs_len]; omega
    · intro h0
      have h0 : ad = none := h0
      simp [Sy.dens, Sy.den, E.i, E.b, E.t, gd, Env.push, List.cons_append, List.nil_append, List.append_nil, Int.toNat_natCast, h0] at c1
    · intro a had W' xW j u hj
      have had : ad = some a := had
      obtain ⟨_, _, ⟨_, z, _⟩ | ⟨b, o, e, hI, hb, hc⟩⟩ := hS.ext (ext_trans x1 xW)
      · rw [List.eq_nil_of_length_eq_zero (show l.length = 0 by omega)] at hj; simp at hj
      · rw [had] at e
        obtain rfl := Option.some.inj e
        rw [add_none]; exact hc j u hj
    · have h1 := (hr _ (List.mem_cons_self ..)).1
      subst hn
      simp only [rowConts, conts, Seg.den, gd, Env.push, List.map_cons, List.map_nil, List.flatMap_cons, List.flatMap_nil, List.append_nil, List.cons_append, List.nil_append, Sy.den, E.i, Int.toNat_natCast] at h1
      exact ⟨a2, c3, rfl, h1⟩
/-- a new row behind a call -/
theorem newRow_rows {n0 : Nat} {ρ : Env} {W : Wd} {w' : World} {r : RowS} {v : Value} {l : List Vr.Ce} (h : NewRow W.w w' v l) (hn0 : n0 ≤ W.w.heap.size) (hv : r.v.den ρ = v) (hn : (r.n.i ρ).toNat = l.length) (hx : conts ρ r.xs = l.flatMap Vr.Ce.enc) (he : r.e = 39) (hz : r.sz = 5) (ks : List Nat) : RowsNew n0 W.w.heap.size ks ρ [r] w' := by
  obtain ⟨a, c, rfl, ho⟩ := h
  exact rowsNew_one hn0 (by rw [he, hz, hv, hn, hx]; exact ho) (by rw [hx]; exact Vr.encs_one l)
theorem cells_r (S : Vr.StV) (l : List Vr.Ce) (hl : l.length ≤ 1000000) (id : Int) (W : Wd) (hS : SlW W.w S.c.a S.c.n S.c.c 5 (l.flatMap Vr.Ce.enc)) : CallsI Try.prog 19 #[S.val, .int .i64 id] W.all fun v w' => NewRow W.w w' v (l.filter fun x => x.sc == id) := by
  have hS := hS.all
  have hn : l.length = S.c.n := by have := hS.1; rw [Vr.encs_len] at this; omega
  refine vc_cells S.ck S.nx id S.d.n S.d.c S.i.n S.i.c S.c.n S.c.c S.h.n S.h.c S.d.a S.i.a S.c.a S.h.a W.all _ ?_
  refine den_new fun m W1 _ x1 => ?_
  simp only [Env.push, List.cons_append, List.nil_append, List.append_nil]
  refine den_loop (fun k vs ls _ => ∃ (i : Nat) (zs : List Vr.Ce) (a' : Option Addr) (c' : Nat), vs = [.int .i64 (i : Int), .slice a' zs.length c'] ∧ ls = [zs.flatMap Vr.Ce.enc] ∧ zs = (l.take i).filter (fun x => x.sc == id) ∧ i ≤ l.length ∧ k = l.length - i) l.length ⟨0, [], none, 0, rfl, rfl, by simp, Nat.zero_le _, rfl⟩ ?_
  rintro k vs ls W2 x2 ⟨i, zs, a', c', rfl, rfl, hzs, hi, rfl⟩
  have y2 := ext_trans x1 x2
  refine ⟨(i : Int), zs.length, c', a', zs.flatMap Vr.Ce.enc, rfl, by simp only [rowConts, conts, Seg.den, gd, Env.push, List.map_cons, List.map_nil, List.flatMap_cons, List.flatMap_nil, List.append_nil, List.cons_append, List.nil_append], fun hrow => ?_⟩
  simp only [Env.push, List.cons_append, List.nil_append, List.append_nil]
  have hzl : zs.length ≤ l.length := by rw [hzs]; exact Nat.le_trans (List.length_filter_le _ _) (by simp; omega)
  refine den_br (fun c1 => ?_) fun c1 => ?_
  · simp only [Sy.dens, Sy.den, E.i, E.b, E.t, gd, Env.push, List.cons_append, List.nil_append, List.append_nil, Int.toNat_natCast, ltB_true] at c1
    have hil : i < l.length := by omega
    have hx : l[i]? = some l[i] := List.getElem?_eq_getElem hil
    refine den_chk (by simp only [E.b, gd]; exact hS.some_of (by omega)) (den_chk (chk_le (by simp only [Sy.dens, Sy.den, E.i, E.b, E.t, gd, Env.push, List.cons_append, List.nil_append, List.append_nil, Int.toNat_natCast]; omega)) (den_look ⟨l[i].sc, l[i].v.k, l[i].v.n, ⟨l[i].nm.toArray⟩, ⟨l[i].v.t.toArray⟩, fun W' xW => ?_, ?_⟩))
    · have := sl_look (P := Try.prog) Vr.Ce.enc_len (by decide) hS ca_agg ca_size hx (ext_trans y2 xW)
      simp only [Sy.dens, Sy.den, E.i, E.b, E.t, gd, Env.push, List.cons_append, List.nil_append, List.append_nil, Int.toNat_natCast, Nat.add_zero] at this ⊢
      exact this
    simp only [Env.push, List.cons_append, List.nil_append, List.append_nil]
    refine den_new fun m1 W3 _ x3 => den_wr fun W4 x4 => den_br (fun c2 => ?_) fun c2 => ?_
    · have c2 : (l[i].sc == id) = true := by simpa only [Sy.dens, Sy.den, E.i, E.b, E.t, gd, Env.push, List.cons_append, List.nil_append, List.append_nil, Int.toNat_natCast] using c2
      refine den_new fun m2 W5 _ x5 => den_chk (chk_le (by simp only [Sy.dens, Sy.den, E.i, E.b, E.t, gd, Env.push, List.cons_append, List.nil_append, List.append_nil, Int.toNat_natCast]; omega)) (den_app fun a6 c6 W6 _ x6 => den_frz fun W7 _ x7 _ _ => den_again ⟨l.length - (i + 1), by omega, i + 1, zs ++ [l[i]], a6, c6, ?_, ?_, ?_, by omega, rfl⟩)
      · simp only [Sy.dens, Sy.den, E.i, E.b, E.t, gd, Env.push, List.cons_append, List.nil_append, List.append_nil, Int.toNat_natCast]
        rw [w64i (by omega) (by omega), List.length_append]; rfl
      · simp only [rowConts, conts, Seg.den, gd, Env.push, List.map_cons, List.map_nil, List.flatMap_cons, List.flatMap_nil, List.append_nil, List.flatMap_append]
        rfl
      · rw [List.take_succ_eq_append_getElem hil, List.filter_append, ← hzs]
        simp [c2]
    · have c2 : (l[i].sc == id) = false := by simpa only [Sy.dens, Sy.den, E.i, E.b, E.t, gd, Env.push, List.cons_append, List.nil_append, List.append_nil, Int.toNat_natCast] using c2
      refine den_frz fun W7 _ x7 _ _ => den_again ⟨l.length - (i + 1), by omega, i + 1, zs, a', c', ?_, by simp only [rowConts, conts, Seg.den, gd, Env.push, List.map_cons, List.map_nil, List.flatMap_cons, List.flatMap_nil, List.append_nil, List.cons_append, List.nil_append], ?_, by omega, rfl⟩
      · simp only [Sy.dens, Sy.den, E.i, E.b, E.t, gd, Env.push, List.cons_append, List.nil_append, List.append_nil, Int.toNat_natCast]
        rw [w64i (by omega) (by omega)]; rfl
      · rw [List.take_succ_eq_append_getElem hil, List.filter_append, ← hzs]
        simp [c2]
  · simp only [Sy.dens, Sy.den, E.i, E.b, E.t, gd, Env.push, List.cons_append, List.nil_append, List.append_nil, Int.toNat_natCast, ltB_false] at c1
    refine den_ret fun _ _ hr => ⟨_, rfl, ?_⟩
    have h1 := (hr _ (List.mem_cons_self ..)).1
    simp only [rowConts, conts, Seg.den, gd, Env.push, List.map_cons, List.map_nil, List.flatMap_cons, List.flatMap_nil, List.append_nil, List.cons_append, List.nil_append, Sy.den, E.i, Int.toNat_natCast] at h1
    rw [List.take_of_length_le (by omega)] at hzs
    subst hzs
    exact ⟨a', c', rfl, h1⟩
/-- slices.DeleteFunc at cells: what is in scopes of a list -/
theorem del_t (zs : List Int) (hz : zs.length ≤ 1000000) (sa : Option Addr) (sn sc m : Nat) (l : List Vr.Ce) (hl : l.length ≤ 1000000) (ad : Option Addr) (n c : Nat) (W : Wd) (ho : Own W.w ad n c l) (hf : Free W ad n c) (hm : W.w.heap[m]? = some (.cells #[.slice sa sn sc] 32)) (hI : W.I m) (hZ : SlI W sa sn sc 1 (zs.map (Value.int .i64))) :
    CallsE Try.prog 39 #[.slice ad n c, .func (.func 40) #[] #[.pointer (some ⟨m, 0, none⟩)]] W fun e w' => e = .returned (.slice ad (l.filter fun x => !Vr.isIn zs x).length c) ∧ Own w' ad (l.filter fun x => !Vr.isIn zs x).length c (l.filter fun x => !Vr.isIn zs x) := by
  have hn := ho.len
  have hsl : SlW W.w ad n c 5 (l.flatMap Vr.Ce.enc) := SlAt.w (owns_sl ho)
  refine vc_del n c sn sc ad sa m _ W _ ho (Vr.encs_one _) hf hm hI ?_
  refine den_call_q (fun hb _ => ixd_q zs hz sa sn sc m l hl ad n c W hsl hm (SlAt.w hZ)) ⟨Vr.idx (Vr.isIn zs) l, rfl, fun W1 x1 => ?_⟩
  simp only [Env.push, List.cons_append, List.nil_append, List.append_nil]
  rcases Vr.idx_find (Vr.isIn zs) l with ⟨e1, e2⟩ | ⟨k0, x0, e1, e2, hx0⟩
  · refine den_br_t (by simp only [Sy.dens, Sy.den, E.i, E.b, E.t, gd, Env.push, List.cons_append, List.nil_append, List.append_nil, Int.toNat_natCast, e1]; rfl) (den_ret fun _ _ hr => ?_)
    have hall : (l.filter fun x => !Vr.isIn zs x) = l := by
      rw [List.filter_eq_self]
      intro x hx
      rw [List.find?_eq_none] at e2
      have := e2 x hx
      simpa using this
    rw [hall]
    have h1 := (hr _ (List.mem_cons_self ..)).1
    simp only [rowConts, conts, Seg.den, gd, Env.push, List.map_cons, List.map_nil, List.flatMap_cons, List.flatMap_nil, List.append_nil, List.cons_append, List.nil_append, Sy.den, E.i, Int.toNat_natCast] at h1
    exact ⟨by simp only [Sy.dens, Sy.den, E.i, E.b, E.t, gd, Env.push, List.cons_append, List.nil_append, List.append_nil, Int.toNat_natCast, hn], by rw [hn]; exact h1⟩
  · have hk0 := (List.getElem?_eq_some_iff.1 hx0).1
    have hp0 : Vr.isIn zs x0 = true := List.find?_some e2
    have hbef : ∀ (j : Nat) y, j < k0 → l[j]? = some y → Vr.isIn zs y = false := by
      have h3 : l.findIdx? (Vr.isIn zs) = some k0 := by
        have := e1
        unfold Vr.idx at this
        cases h : l.findIdx? (Vr.isIn zs) with
        | none => rw [h] at this; simp at this
        | some i => rw [h] at this; simp only [Int.natCast_inj] at this; rw [this]
      rw [List.findIdx?_eq_some_iff_getElem] at h3
      intro j y hj hy
      have := h3.2.2 j hj
      obtain ⟨hj2, rfl⟩ := List.getElem?_eq_some_iff.1 hy
      simpa using this
    refine den_br_f (by simp only [Sy.dens, Sy.den, E.i, E.b, E.t, gd, Env.push, List.cons_append, List.nil_append, List.append_nil, Int.toNat_natCast, e1]; simp) ?_
    refine den_loop (fun g vs ls _ => ∃ (i j : Nat) (r : List Vr.Ce), vs = [.int .i64 (i : Int), .int .i64 (j : Int), .slice ad n c] ∧ ls = [r.flatMap Vr.Ce.enc] ∧ r.length = l.length ∧ r.take i = (l.take j).filter (fun x => !Vr.isIn zs x) ∧ r.drop j = l.drop j ∧ i < j ∧ j ≤ l.length ∧ i = ((l.take j).filter fun x => !Vr.isIn zs x).length ∧ g = l.length - j) (l.length - (k0 + 1)) ⟨k0, k0 + 1, l, ?_, by simp only [rowConts, conts, Seg.den, gd, Env.push, List.map_cons, List.map_nil, List.flatMap_cons, List.flatMap_nil, List.append_nil, List.cons_append, List.nil_append], rfl, ?_, rfl, by omega, by omega, ?_, rfl⟩ ?_
    · simp only [Sy.dens, Sy.den, E.i, E.b, E.t, gd, Env.push, List.cons_append, List.nil_append, List.append_nil, Int.toNat_natCast, e1]
      rw [w64i (by omega) (by omega)]; rfl
    · rw [List.take_succ_eq_append_getElem hk0, List.filter_append]
      have : l[k0] = x0 := (List.getElem?_eq_some_iff.1 hx0).2
      rw [this]
      simp only [hp0, Bool.not_true, List.filter_cons_of_neg, List.filter_nil, List.append_nil, Bool.false_eq_true, not_false_eq_true]
      refine (List.filter_eq_self.2 fun y hy => ?_).symm
      obtain ⟨j, hj, e⟩ := List.mem_iff_getElem.1 hy
      simp only [List.length_take] at hj
      rw [List.getElem_take] at e
      rw [hbef j y (by omega) (by rw [← e]; exact List.getElem?_eq_getElem (by omega))]; rfl
    · rw [List.take_succ_eq_append_getElem hk0, List.filter_append]
      have : l[k0] = x0 := (List.getElem?_eq_some_iff.1 hx0).2
      rw [this]
      simp only [hp0, Bool.not_true, List.filter_cons_of_neg, List.filter_nil, List.append_nil, Bool.false_eq_true, not_false_eq_true]
      have : (l.take k0).filter (fun x => !Vr.isIn zs x) = l.take k0 := by
        refine List.filter_eq_self.2 fun y hy => ?_
        obtain ⟨j, hj, e⟩ := List.mem_iff_getElem.1 hy
        simp only [List.length_take] at hj
        rw [List.getElem_take] at e
        rw [hbef j y (by omega) (by rw [← e]; exact List.getElem?_eq_getElem (by omega))]; rfl
      rw [this, List.length_take]; omega
    rintro g vs ls W2 x2 ⟨i, j, r, rfl, rfl, hrl, hrt, hrd, hij, hj, hi, rfl⟩
    refine ⟨(i : Int), (j : Int), n, c, ad, r.flatMap Vr.Ce.enc, rfl, by simp only [rowConts, conts, Seg.den, gd, Env.push, List.map_cons, List.map_nil, List.flatMap_cons, List.flatMap_nil, List.append_nil, List.cons_append, List.nil_append], fun hrow => ?_⟩
    simp only [Env.push, List.cons_append, List.nil_append, List.append_nil]
    refine den_br (fun c1 => ?_) fun c1 => ?_
    · simp only [Sy.dens, Sy.den, E.i, E.b, E.t, gd, Env.push, List.cons_append, List.nil_append, List.append_nil, Int.toNat_natCast, ltB_true] at c1
      have hjl : j < l.length := by omega
      have hx : r[j]? = some l[j] := by
        have := congrArg (fun q => q[0]?) hrd
        simp only [List.getElem?_drop, Nat.add_zero] at this
        rw [this]; exact List.getElem?_eq_getElem hjl
      have hts : l.take (j + 1) = l.take j ++ [l[j]] := List.take_succ_eq_append_getElem hjl
      generalize l[j] = y at hx hts
      refine den_chk (by simp only [E.b, gd]; exact ho.isSome (by omega)) (den_chk (chk_le (by simp only [Sy.dens, Sy.den, E.i, E.b, E.t, gd, Env.push, List.cons_append, List.nil_append, List.append_nil, Int.toNat_natCast]; omega)) (den_rlook_row y (xs := r) (j := j) rfl (by simp only [Sy.dens, Sy.den, E.i, E.b, E.t, gd, Env.push, List.cons_append, List.nil_append, List.append_nil, Int.toNat_natCast]) hx rfl ?_))
      simp only [Env.push, List.cons_append, List.nil_append, List.append_nil]
      refine den_new fun m1 W3 _ x3 => den_wr fun W4 x4 => ?_
      simp only [Env.push, List.cons_append, List.nil_append, List.append_nil]
      have y4 := ext_trans (ext_trans (ext_trans x1 x2) x3) x4
      refine den_call_q (fun hb _ => dr1_q zs hz sa sn sc y m W4 (hb _ (List.mem_cons_self ..)) (SlAt.w (hZ.ext y4))) ⟨Vr.isIn zs y, rfl, fun W5 x5 => ?_⟩
      simp only [Env.push, List.cons_append, List.nil_append, List.append_nil]
      refine den_br (fun c2 => ?_) fun c2 => ?_
      · have c2 : Vr.isIn zs y = false := by simpa only [Sy.dens, Sy.den, E.i, E.b, E.t, gd, Env.push, List.cons_append, List.nil_append, List.append_nil, Int.toNat_natCast, Bool.not_eq_true'] using c2
        refine den_chk (chk_le (by simp only [Sy.dens, Sy.den, E.i, E.b, E.t, gd, Env.push, List.cons_append, List.nil_append, List.append_nil, Int.toNat_natCast]; omega)) (den_chk (chk_lt (by simp only [Sy.dens, Sy.den, E.i, E.b, E.t, gd, Env.push, List.cons_append, List.nil_append, List.append_nil, Int.toNat_natCast]; omega)) (den_rset_row y (xs := r) (j := i) rfl (by simp only [Sy.dens, Sy.den, E.i, E.b, E.t, gd, Env.push, List.cons_append, List.nil_append, List.append_nil, Int.toNat_natCast]) (by omega) rfl fun W6 x6 => ?_))
        simp only [Env.push, List.cons_append, List.nil_append, List.append_nil]
        refine den_frz fun W7 _ x7 _ _ => den_again ⟨l.length - (j + 1), by omega, i + 1, j + 1, r.set i y, ?_, by simp only [rowConts, conts, Seg.den, gd, Env.push, List.map_cons, List.map_nil, List.flatMap_cons, List.flatMap_nil, List.append_nil, List.cons_append, List.nil_append], by rw [List.length_set]; exact hrl, ?_, ?_, by omega, by omega, ?_, rfl⟩
        · simp only [Sy.dens, Sy.den, E.i, E.b, E.t, gd, Env.push, List.cons_append, List.nil_append, List.append_nil, Int.toNat_natCast]
          rw [w64i (by omega) (by omega), w64i (by omega) (by omega)]; rfl
        · rw [hts, List.filter_append, ← hrt]
          rw [List.take_succ_eq_append_getElem (by rw [List.length_set]; omega), List.take_set_of_le (Nat.le_refl _)]
          simp [c2]
        · rw [List.drop_set_of_lt (by omega)]
          have := congrArg (List.drop 1) hrd
          rw [List.drop_drop, List.drop_drop] at this
          exact this
        · rw [hts, List.filter_append, List.length_append, ← hi]
          simp [c2]
      · have c2 : Vr.isIn zs y = true := by simpa only [Sy.dens, Sy.den, E.i, E.b, E.t, gd, Env.push, List.cons_append, List.nil_append, List.append_nil, Int.toNat_natCast, Bool.not_eq_false'] using c2
        refine den_frz fun W7 _ x7 _ _ => den_again ⟨l.length - (j + 1), by omega, i, j + 1, r, ?_, by simp only [rowConts, conts, Seg.den, gd, Env.push, List.map_cons, List.map_nil, List.flatMap_cons, List.flatMap_nil, List.append_nil, List.cons_append, List.nil_append], hrl, ?_, ?_, by omega, by omega, ?_, rfl⟩
        · simp only [Sy.dens, Sy.den, E.i, E.b, E.t, gd, Env.push, List.cons_append, List.nil_append, List.append_nil, Int.toNat_natCast]
          rw [w64i (by omega) (by omega)]; rfl
        · rw [hts, List.filter_append, ← hrt]
          simp [c2]
        · have := congrArg (List.drop 1) hrd
          rw [List.drop_drop, List.drop_drop] at this
          exact this
        · rw [hts, List.filter_append, List.length_append, ← hi]
          simp [c2]
    · simp only [Sy.dens, Sy.den, E.i, E.b, E.t, gd, Env.push, List.cons_append, List.nil_append, List.append_nil, Int.toNat_natCast, ltB_false] at c1
      obtain rfl : j = l.length := by omega
      rw [List.take_length] at hrt hi
      refine den_chk (by simp only [E.b, gd]; exact ho.isSome (by omega)) (den_chk (chk_lt (by simp only [Sy.dens, Sy.den, E.i, E.b, E.t, gd, Env.push, List.cons_append, List.nil_append, List.append_nil, Int.toNat_natCast]; omega)) (den_chk (chk_le (by simp only [Sy.dens, Sy.den, E.i, E.b, E.t, gd, Env.push, List.cons_append, List.nil_append, List.append_nil, Int.toNat_natCast]; omega)) (den_chk (chk_le (by simp only [Sy.dens, Sy.den, E.i, E.b, E.t, gd, Env.push, List.cons_append, List.nil_append, List.append_nil, Int.toNat_natCast]; omega)) (den_rclr fun W3 x3 => ?_))))
      simp only [Env.push, List.cons_append, List.nil_append, List.append_nil]
      have hcap : n ≤ c := by
        obtain ⟨_, h2⟩ := ho
        rcases h2 with ⟨e1, e2⟩ | ⟨g, cap, cur, e1, _, _, h3, _⟩
        · omega
        · injection e1 with a1 a2 a3; omega
      refine den_chk (chk_le (by simp only [Sy.dens, Sy.den, E.i, E.b, E.t, gd, Env.push, List.cons_append, List.nil_append, List.append_nil, Int.toNat_natCast]; omega)) (den_chk (chk_le (by simp only [Sy.dens, Sy.den, E.i, E.b, E.t, gd, Env.push, List.cons_append, List.nil_append, List.append_nil, Int.toNat_natCast]; omega)) (den_sub ?_))
      simp only [Env.push, List.cons_append, List.nil_append, List.append_nil]
      refine den_ret fun _ _ hr => ?_
      have h1 := (hr _ (List.mem_cons_self ..)).1
      simp only [rowConts, conts, Seg.den, gd, Env.push, List.map_cons, List.map_nil, List.flatMap_cons, List.flatMap_nil, List.append_nil, List.cons_append, List.nil_append, Sy.den, E.i, Int.toNat_natCast] at h1
      have h4 := owns_take h1 (i := i) (by omega)
      have e5 : (setL (r.flatMap Vr.Ce.enc) (i * 5) (Builtin.zeroCells ⟨[.int .i64 0, .string ⟨⟨[]⟩⟩, .int .u8 0, .int .i64 0, .string ⟨⟨[]⟩⟩]⟩ (n - i)).toList).take (i * 5) = (l.filter fun x => !Vr.isIn zs x).flatMap Vr.Ce.enc := by
        unfold setL
        rw [List.append_assoc, List.take_append_of_le_length (by rw [List.length_take, Vr.encs_len]; omega), List.take_take, Nat.min_self, ← hrt]
        have : ∀ (q : List Vr.Ce) (k : Nat), (q.flatMap Vr.Ce.enc).take (k * 5) = (q.take k).flatMap Vr.Ce.enc := by
          intro q
          induction q with
          | nil => intro k; simp
          | cons y q ih =>
            intro k
            cases k with
            | zero => simp
            | succ k =>
              rw [List.flatMap_cons, List.take_succ_cons, List.flatMap_cons, List.take_append, Vr.Ce.enc_len, ← ih k, List.take_of_length_le (by rw [Vr.Ce.enc_len]; omega)]
              congr 2; omega
        exact this r i
      have e6 : subA ad 0 c 5 = ad := by
        unfold subA
        split
        · rfl
        · obtain ⟨_, h2⟩ := ho
          rcases h2 with ⟨e1, e2⟩ | ⟨g, cap, cur, e1, _⟩
          · omega
          · injection e1 with a1 a2 a3
            rw [a1]; simp [add_none]
      rw [← hi]
      refine ⟨?_, ?_⟩
      · simp only [Sy.dens, Sy.den, E.i, E.b, E.t, gd, Env.push, List.cons_append, List.nil_append, List.append_nil, Int.toNat_natCast, Int.toNat_zero, Nat.sub_zero, e6]
      · unfold Own
        rw [← e5]
        exact h4
end Go.Proofs.Ytamnfdmmjjekhaa
