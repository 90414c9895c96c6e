/- Texts of the claim, one behind the other: VdSeen TyLaws TyCheck VdSays VdWays VdGates VdCheckP VcVal4 VdCheck VcVal5 VdTail. -/
import Derived.Test.YtkpjmlnhhggenaaGreatDoorPm4
import Derived.Test.YtkpjmlnhhggenaaGreatDoorPm3
import Derived.Test.YtkpjmlnhhggenaaGreatDoorProg
import Derived.Test.YtkpjmlnhhggenaaGreatDoorPm2
set_option linter.unusedSimpArgs false
set_option linter.unusedVariables false
section
/- The walks of package valid: Seen. -/
namespace Vd
open Go Md
theorem aboveN_len (p : Pr) (B : Nat) (h : ∀ i, (nd p i).vars.length ≤ B) : ∀ (k : Nat) (a : Int), (aboveN p k a).length ≤ k * B
 | 0, _ => by simp [aboveN]
 | k + 1, a => by
  rw [aboveN]; split
  ·rw [List.length_append, Nat.succ_mul]
   have := aboveN_len p B h k (around p a.toNat)
   have := h a.toNat
   omega
  ·simp
end Vd
namespace Go.Proofs.YtkpjmlnhhggenaaGreatDoor
open Go Go.RowKit Go.SF
theorem varC_ones (l : List Md.Var) : ∀ u ∈ l.flatMap varC, u.oneCell' = true := by
 intro u hu
 obtain ⟨v, _, hv⟩ := List.mem_flatMap.1 hu
 simp only [varC, List.mem_cons, List.not_mem_nil, or_false] at hv
 rcases hv with rfl | rfl | rfl | rfl <;> rfl
theorem vars_cells2 {W : Wd} {a : Option Addr} {c : Nat} {l : List Md.Var} (h : SlI W a l.length c 4 (l.flatMap varC)) : (a = none → ((l.length : Nat) : Int) ≤ 0 ∧ ((c : Nat) : Int) ≤ 0) ∧ ∀ ad, a = some ad → ∀ W', Ext W W' → ∀ (j : Nat) u, (l.flatMap varC)[j]? = some u → W'.w.cell? (ad.add j) = some u := by
 refine ⟨fun e => ?_, fun ad e W' x j u hu => ?_⟩
 ·obtain ⟨_, _, h3⟩ := h
  rcases h3 with ⟨_, h4, h5⟩ | ⟨b, o, h4, _⟩
  ·omega
  ·rw [e] at h4; cases h4
 ·obtain ⟨_, _, h3⟩ := SlI.ext h x
  rcases h3 with ⟨_, h4, _⟩ | ⟨b, o, h4, _, _, hc⟩
  ·rw [List.length_eq_zero_iff.1 h4] at hu; simp at hu
  ·rw [e] at h4
   injection h4 with h4
   subst h4
   rw [add_none]
   exact hc j u hu
theorem varsl_aggT : aggT Tryz.prog 22 = some false := by kernel_rfl
def NewVars (n : Nat) (w' : World) (v : Value) (l : List Md.Var) : Prop := ∃ a c, v = .slice a l.length c ∧ SlAt w' (fun b => n ≤ b) a l.length c 4 (l.flatMap varC)
theorem fitP_nd {p : PV} {W : Wd} (hp : FitP p W) (i : Nat) : (Vd.nd p.pr i).vars.length ≤ 1000000 := by
 by_cases h : i < p.nodes.length
 ·rw [vd_nd (List.getElem?_eq_getElem h)]
  exact (hp.fn _ (List.getElem_mem h)).lv
 ·unfold Vd.nd PV.pr
  rw [List.getD_eq_getElem?_getD, List.getElem?_eq_none (by rw [List.length_map]; omega)]
  exact Nat.zero_le _
theorem above_len {p : PV} {W : Wd} (hp : FitP p W) {a : Int} (ha : a < p.nodes.length) : (Vd.above p.pr a).length ≤ 1000000000000 := by
 have h := Vd.aboveN_len p.pr 1000000 (fitP_nd hp) (a.toNat + 1) a
 have hn := hp.ln
 by_cases h0 : 0 ≤ a
 ·have : (a.toNat + 1) * 1000000 ≤ 1000000 * 1000000 := Nat.mul_le_mul_right _ (by omega)
  exact Nat.le_trans h (by omega)
 ·rw [Vd.above_none p.pr (by omega)]; exact Nat.zero_le _
set_option maxRecDepth 100000 in
theorem seen_i (p : PV) (n : Int) (W : Wd) (hp : FitP p W) :
  CallsI Tryz.prog 18 #[.agg (prC p).toArray, .int .i64 n] W.all fun v w' => NewVars W.w.heap.size w' v (Vd.seen p.pr n) := by
 have hp := hp.ext W.all_ext
 have hln := hp.ln
 have hlv := hp.lv
 refine vc_vseen n p.vars.length p.vc p.nodes.length p.nc p.flows.length p.fc ⟨p.nm.toArray⟩ p.va p.na p.fa W.all _ ?_
 have hfl : ∀ l : List Md.Var, (l.flatMap varC).length = l.length * 4 := fun l => flat_len varC_len l
 refine den_new fun m W1 _ x1 => den_br (fun c0 => ?_) fun c0 => ?_
 ·have c0 : (decide (0 ≤ n) && decide (n < (p.nodes.length : Int))) = true := c0
  have hs : Vd.seen p.pr n = (if (Vd.nd p.pr n.toNat).kd == 12 then (Vd.nd p.pr n.toNat).vars ++ Vd.above p.pr (Vd.around p.pr n.toNat)
   else if (Vd.nd p.pr n.toNat).kd == 1 then
    if Vd.kind p.pr (Vd.around p.pr n.toNat) == 13 then Vd.above p.pr (Vd.around p.pr (Vd.around p.pr n.toNat).toNat) else Vd.above p.pr (Vd.around p.pr n.toNat)
   else Vd.above p.pr (Vd.around p.pr n.toNat)) ++ p.vars := by rw [Vd.seen, pr_len, c0, if_pos rfl]; rfl
  simp only [Bool.and_eq_true, decide_eq_true_eq] at c0
  obtain ⟨k, rfl⟩ : ∃ k : Nat, n = (k : Int) := ⟨n.toNat, by omega⟩
  rw [Int.toNat_natCast] at hs
  have hk : k < p.nodes.length := by omega
  have hx1 : p.nodes[k]? = some p.nodes[k] := List.getElem?_eq_getElem hk
  have hvf := hp.fn _ (List.getElem_mem hk)
  generalize p.nodes[k] = v at hx1 hvf
  rw [vd_nd hx1] at hs
  have hlt := Vd.around_lt p.pr k
  have hge := Vd.around_ge p.pr k
  generalize hat : Vd.around p.pr k = at0 at hs hlt hge
  refine den_call_q (v := .int .i64 at0) (fun _ _ => by rw [← hat]; exact around_q p W1 (hp.ext x1) k hk) ⟨at0, rfl, fun W2 x2 => ?_⟩
  have y2 := ext_trans x1 x2
  simp only [zP]
  refine den_chk (by simp only [E.b, gd, Env.push]; exact SlI.some_of hp.ns (by omega)) (den_look ⟨v.n.kd, fun W3 x3 => ?_, ?_⟩)
  ·have := sl_look_f (P := Tryz.prog) ndC_len hp.ns k8_aggT (k := 1) hx1 (by decide) (u := .int .u8 v.n.kd) rfl (ext_trans y2 x3)
   simp only [zE] at this ⊢
   exact this
  simp only [zP]
  refine den_br (fun c1 => ?_) fun c1 => ?_
  ·have c1 : (v.n.kd == 12) = true := c1
   rw [c1, if_pos rfl] at hs
   have hvl := hvf.lv
   refine den_look ⟨v.n.vars.length, v.vc, v.va, fun W6 x6 => ?_, ?_⟩
   ·have := sl_look_f (P := Tryz.prog) ndC_len hp.ns varsl_aggT (k := 9) hx1 (by decide) (u := .slice v.va v.n.vars.length v.vc) rfl (ext_trans y2 x6)
    simp only [zE] at this ⊢
    exact this
   simp only [zP]
   refine den_chk (chk_le (by simp only [zE]; omega)) (den_cells (v.n.vars.flatMap varC) (by simp only [zE]; exact hfl _) (varC_ones _) (vars_cells2 (hvf.vs.ext y2)).1 (vars_cells2 (hvf.vs.ext y2)).2 ?_)
   simp only [zP]
   refine den_app fun a4 c4 W4 _ x4 => ?_
   have y4 := ext_trans y2 x4
   simp only [zP]
   refine den_loop (fun j vs ls _ => ∃ (zs : List Md.Var) (a' : Option Addr) (c' : Nat) (at' : Int), vs = [.slice a' zs.length c', .int .i64 at'] ∧ ls = [zs.flatMap varC] ∧ at' < p.nodes.length ∧ -1 ≤ at' ∧ zs ++ Vd.above p.pr at' = v.n.vars ++ Vd.above p.pr at0 ∧ j = (at' + 1).toNat) (at0 + 1).toNat ⟨v.n.vars, a4, c4, at0, rfl, by simp only [zR], by omega, by omega, rfl, rfl⟩ ?_
   rintro j vs ls W5 x5 ⟨zs, a', c', at', rfl, rfl, hal, hag, hz, rfl⟩
   have y5 := ext_trans y4 x5
   refine ⟨at', zs.length, c', a', zs.flatMap varC, rfl, by simp only [zR], fun hrow => ?_⟩
   simp only [zP]
   have hzl : zs.length ≤ 1000001000000 := by
    have h1 := congrArg List.length hz
    rw [List.length_append, List.length_append] at h1
    have h2 := above_len hp (show at0 < p.nodes.length by omega)
    have h3 : (v.n.vars : List Md.Var).length ≤ 1000000 := hvf.lv
    omega
   refine den_br (fun d1 => ?_) fun d1 => ?_
   ·have d1 : 0 ≤ at' := by simp only [zE, leB_true] at d1; exact d1
    obtain ⟨q, rfl⟩ : ∃ q : Nat, at' = (q : Int) := ⟨at'.toNat, by omega⟩
    have hq : q < p.nodes.length := by omega
    have hx5 : p.nodes[q]? = some p.nodes[q] := List.getElem?_eq_getElem hq
    have huf := hp.fn _ (List.getElem_mem hq)
    generalize p.nodes[q] = u at hx5 huf
    have hul := huf.lv
    have hlt2 := Vd.around_lt p.pr q
    have hge2 := Vd.around_ge p.pr q
    refine den_chk (by simp only [zE]; exact ltB_t (by omega)) (den_look ⟨u.n.vars.length, u.vc, u.va, fun W6 x6 => ?_, ?_⟩)
    ·have := sl_look_f (P := Tryz.prog) ndC_len hp.ns varsl_aggT (k := 9) hx5 (by decide) (u := .slice u.va u.n.vars.length u.vc) rfl (ext_trans y5 x6)
     simp only [zE] at this ⊢
     exact this
    simp only [zP]
    refine den_chk (chk_le (by simp only [zE]; omega)) (den_cells (u.n.vars.flatMap varC) (by simp only [zE]; exact hfl _) (varC_ones _) (vars_cells2 (huf.vs.ext y5)).1 (vars_cells2 (huf.vs.ext y5)).2 ?_)
    simp only [zP]
    refine den_app fun a6 c6 W6 _ x6 => ?_
    simp only [zP]
    refine den_call_q (v := .int .i64 (Vd.around p.pr q)) (fun _ _ => around_q p W6 (hp.ext (ext_trans y5 x6)) q hq) ⟨Vd.around p.pr q, rfl, fun W7 x7 => ?_⟩
    simp only [zP]
    refine den_again ⟨(Vd.around p.pr q + 1).toNat, by omega, zs ++ u.n.vars, a6, c6, Vd.around p.pr q, ?_, ?_, by omega, hge2, ?_, rfl⟩
    ·simp only [zE, List.length_append]; rfl
    ·simp only [rowConts, conts, Seg.den, gd, Env.push, z_e, z_f, z_g, z_h, z_c, List.flatMap_append]
     try rfl
    ·refine Eq.trans ?_ hz
     rw [Vd.above_step p.pr (show 0 ≤ (q : Int) by omega), Int.toNat_natCast, vd_nd hx5, List.append_assoc]
   ·have d1 : at' < 0 := by simp only [zE, leB_false] at d1; exact d1
    rw [Vd.above_none p.pr d1, List.append_nil] at hz
    refine den_chk (chk_le (by simp only [zE]; omega)) (den_cells (p.vars.flatMap varC) (by simp only [zE]; exact hfl _) (varC_ones _) (vars_cells2 (hp.vs.ext y5)).1 (vars_cells2 (hp.vs.ext y5)).2 ?_)
    simp only [zP]
    refine den_app fun a6 c6 W6 _ x6 => ?_
    simp only [zP]
    have hlen : (Vd.seen p.pr (k : Int)).length = zs.length + p.vars.length := by rw [hs, ← hz, List.length_append]
    refine den_ret fun _ _ hr => ⟨_, rfl, a6, c6, ?_, ?_⟩
    ·rw [hlen]; rfl
    ·have h5 := (hr _ (List.mem_cons_self ..)).1
     simp only [zR, Sy.den, E.i] at h5
     rw [hlen, hs, ← hz, List.flatMap_append]
     exact owns_sl h5
  ·have c1 : (v.n.kd == 12) = false := c1
   rw [c1, if_neg (fun h => nomatch h)] at hs
   refine den_br (fun c2 => ?_) fun c2 => ?_
   ·have c2 : (v.n.kd == 1) = true := c2
    rw [c2, if_pos rfl] at hs
    refine den_call_q (v := .int .u8 (Vd.kind p.pr at0)) (fun _ _ => kind_q p W2 (hp.ext y2) at0 (by omega)) ⟨Vd.kind p.pr at0, rfl, fun W3 x3 => ?_⟩
    have y3 := ext_trans y2 x3
    simp only [zP]
    refine den_br (fun c3 => ?_) fun c3 => ?_
    ·have c3 : (Vd.kind p.pr at0 == 13) = true := c3
     rw [c3, if_pos rfl] at hs
     have h0 : 0 ≤ at0 := by
      rcases Int.lt_or_le at0 0 with h | h
      ·rw [Vd.kind, if_pos h] at c3; exact absurd c3 (by decide)
      ·exact h
     obtain ⟨q0, rfl⟩ : ∃ q : Nat, at0 = (q : Int) := ⟨at0.toNat, by omega⟩
     rw [Int.toNat_natCast] at hs
     have hlt1 := Vd.around_lt p.pr q0
     have hge1 := Vd.around_ge p.pr q0
     refine den_call_q (v := .int .i64 (Vd.around p.pr q0)) (fun _ _ => around_q p W3 (hp.ext y3) q0 (by omega)) ⟨Vd.around p.pr q0, rfl, fun W4 x4 => ?_⟩
     have y4 := ext_trans y3 x4
     simp only [zP]
     generalize Vd.around p.pr q0 = at1 at hs hlt1 hge1 ⊢
     rw [show Vd.above p.pr at1 = [] ++ Vd.above p.pr at1 from rfl] at hs
     refine den_loop (fun j vs ls _ => ∃ (zs : List Md.Var) (a' : Option Addr) (c' : Nat) (at' : Int), vs = [.slice a' zs.length c', .int .i64 at'] ∧ ls = [zs.flatMap varC] ∧ at' < p.nodes.length ∧ -1 ≤ at' ∧ zs ++ Vd.above p.pr at' = [] ++ Vd.above p.pr at1 ∧ j = (at' + 1).toNat) (at1 + 1).toNat ⟨[], none, 0, at1, rfl, rfl, by omega, by omega, rfl, rfl⟩ ?_
     rintro j vs ls W5 x5 ⟨zs, a', c', at', rfl, rfl, hal, hag, hz, rfl⟩
     have y5 := ext_trans y4 x5
     refine ⟨at', zs.length, c', a', zs.flatMap varC, rfl, by simp only [zR], fun hrow => ?_⟩
     simp only [zP]
     have hzl : zs.length ≤ 1000001000000 := by
      have h1 := congrArg List.length hz
      rw [List.length_append, List.length_append] at h1
      have h2 := above_len hp (show at1 < p.nodes.length by omega)
      have h3 : ([] : List Md.Var).length ≤ 1000000 := Nat.zero_le _
      omega
     refine den_br (fun d1 => ?_) fun d1 => ?_
     ·have d1 : 0 ≤ at' := by simp only [zE, leB_true] at d1; exact d1
      obtain ⟨q, rfl⟩ : ∃ q : Nat, at' = (q : Int) := ⟨at'.toNat, by omega⟩
      have hq : q < p.nodes.length := by omega
      have hx5 : p.nodes[q]? = some p.nodes[q] := List.getElem?_eq_getElem hq
      have huf := hp.fn _ (List.getElem_mem hq)
      generalize p.nodes[q] = u at hx5 huf
      have hul := huf.lv
      have hlt2 := Vd.around_lt p.pr q
      have hge2 := Vd.around_ge p.pr q
      refine den_chk (by simp only [zE]; exact ltB_t (by omega)) (den_look ⟨u.n.vars.length, u.vc, u.va, fun W6 x6 => ?_, ?_⟩)
      ·have := sl_look_f (P := Tryz.prog) ndC_len hp.ns varsl_aggT (k := 9) hx5 (by decide) (u := .slice u.va u.n.vars.length u.vc) rfl (ext_trans y5 x6)
       simp only [zE] at this ⊢
       exact this
      simp only [zP]
      refine den_chk (chk_le (by simp only [zE]; omega)) (den_cells (u.n.vars.flatMap varC) (by simp only [zE]; exact hfl _) (varC_ones _) (vars_cells2 (huf.vs.ext y5)).1 (vars_cells2 (huf.vs.ext y5)).2 ?_)
      simp only [zP]
      refine den_app fun a6 c6 W6 _ x6 => ?_
      simp only [zP]
      refine den_call_q (v := .int .i64 (Vd.around p.pr q)) (fun _ _ => around_q p W6 (hp.ext (ext_trans y5 x6)) q hq) ⟨Vd.around p.pr q, rfl, fun W7 x7 => ?_⟩
      simp only [zP]
      refine den_again ⟨(Vd.around p.pr q + 1).toNat, by omega, zs ++ u.n.vars, a6, c6, Vd.around p.pr q, ?_, ?_, by omega, hge2, ?_, rfl⟩
      ·simp only [zE, List.length_append]; rfl
      ·simp only [rowConts, conts, Seg.den, gd, Env.push, z_e, z_f, z_g, z_h, z_c, List.flatMap_append]
       try rfl
      ·refine Eq.trans ?_ hz
       rw [Vd.above_step p.pr (show 0 ≤ (q : Int) by omega), Int.toNat_natCast, vd_nd hx5, List.append_assoc]
     ·have d1 : at' < 0 := by simp only [zE, leB_false] at d1; exact d1
      rw [Vd.above_none p.pr d1, List.append_nil] at hz
      refine den_chk (chk_le (by simp only [zE]; omega)) (den_cells (p.vars.flatMap varC) (by simp only [zE]; exact hfl _) (varC_ones _) (vars_cells2 (hp.vs.ext y5)).1 (vars_cells2 (hp.vs.ext y5)).2 ?_)
      simp only [zP]
      refine den_app fun a6 c6 W6 _ x6 => ?_
      simp only [zP]
      have hlen : (Vd.seen p.pr (k : Int)).length = zs.length + p.vars.length := by rw [hs, ← hz, List.length_append]
      refine den_ret fun _ _ hr => ⟨_, rfl, a6, c6, ?_, ?_⟩
      ·rw [hlen]; rfl
      ·have h5 := (hr _ (List.mem_cons_self ..)).1
       simp only [zR, Sy.den, E.i] at h5
       rw [hlen, hs, ← hz, List.flatMap_append]
       exact owns_sl h5
    ·have c3 : (Vd.kind p.pr at0 == 13) = false := c3
     rw [c3, if_neg (fun h => nomatch h)] at hs
     rw [show Vd.above p.pr at0 = [] ++ Vd.above p.pr at0 from rfl] at hs
     refine den_loop (fun j vs ls _ => ∃ (zs : List Md.Var) (a' : Option Addr) (c' : Nat) (at' : Int), vs = [.slice a' zs.length c', .int .i64 at'] ∧ ls = [zs.flatMap varC] ∧ at' < p.nodes.length ∧ -1 ≤ at' ∧ zs ++ Vd.above p.pr at' = [] ++ Vd.above p.pr at0 ∧ j = (at' + 1).toNat) (at0 + 1).toNat ⟨[], none, 0, at0, rfl, rfl, by omega, by omega, rfl, rfl⟩ ?_
     rintro j vs ls W5 x5 ⟨zs, a', c', at', rfl, rfl, hal, hag, hz, rfl⟩
     have y5 := ext_trans y3 x5
     refine ⟨at', zs.length, c', a', zs.flatMap varC, rfl, by simp only [zR], fun hrow => ?_⟩
     simp only [zP]
     have hzl : zs.length ≤ 1000001000000 := by
      have h1 := congrArg List.length hz
      rw [List.length_append, List.length_append] at h1
      have h2 := above_len hp (show at0 < p.nodes.length by omega)
      have h3 : ([] : List Md.Var).length ≤ 1000000 := Nat.zero_le _
      omega
     refine den_br (fun d1 => ?_) fun d1 => ?_
     ·have d1 : 0 ≤ at' := by simp only [zE, leB_true] at d1; exact d1
      obtain ⟨q, rfl⟩ : ∃ q : Nat, at' = (q : Int) := ⟨at'.toNat, by omega⟩
      have hq : q < p.nodes.length := by omega
      have hx5 : p.nodes[q]? = some p.nodes[q] := List.getElem?_eq_getElem hq
      have huf := hp.fn _ (List.getElem_mem hq)
      generalize p.nodes[q] = u at hx5 huf
      have hul := huf.lv
      have hlt2 := Vd.around_lt p.pr q
      have hge2 := Vd.around_ge p.pr q
      refine den_chk (by simp only [zE]; exact ltB_t (by omega)) (den_look ⟨u.n.vars.length, u.vc, u.va, fun W6 x6 => ?_, ?_⟩)
      ·have := sl_look_f (P := Tryz.prog) ndC_len hp.ns varsl_aggT (k := 9) hx5 (by decide) (u := .slice u.va u.n.vars.length u.vc) rfl (ext_trans y5 x6)
       simp only [zE] at this ⊢
       exact this
      simp only [zP]
      refine den_chk (chk_le (by simp only [zE]; omega)) (den_cells (u.n.vars.flatMap varC) (by simp only [zE]; exact hfl _) (varC_ones _) (vars_cells2 (huf.vs.ext y5)).1 (vars_cells2 (huf.vs.ext y5)).2 ?_)
      simp only [zP]
      refine den_app fun a6 c6 W6 _ x6 => ?_
      simp only [zP]
      refine den_call_q (v := .int .i64 (Vd.around p.pr q)) (fun _ _ => around_q p W6 (hp.ext (ext_trans y5 x6)) q hq) ⟨Vd.around p.pr q, rfl, fun W7 x7 => ?_⟩
      simp only [zP]
      refine den_again ⟨(Vd.around p.pr q + 1).toNat, by omega, zs ++ u.n.vars, a6, c6, Vd.around p.pr q, ?_, ?_, by omega, hge2, ?_, rfl⟩
      ·simp only [zE, List.length_append]; rfl
      ·simp only [rowConts, conts, Seg.den, gd, Env.push, z_e, z_f, z_g, z_h, z_c, List.flatMap_append]
       try rfl
      ·refine Eq.trans ?_ hz
       rw [Vd.above_step p.pr (show 0 ≤ (q : Int) by omega), Int.toNat_natCast, vd_nd hx5, List.append_assoc]
     ·have d1 : at' < 0 := by simp only [zE, leB_false] at d1; exact d1
      rw [Vd.above_none p.pr d1, List.append_nil] at hz
      refine den_chk (chk_le (by simp only [zE]; omega)) (den_cells (p.vars.flatMap varC) (by simp only [zE]; exact hfl _) (varC_ones _) (vars_cells2 (hp.vs.ext y5)).1 (vars_cells2 (hp.vs.ext y5)).2 ?_)
      simp only [zP]
      refine den_app fun a6 c6 W6 _ x6 => ?_
      simp only [zP]
      have hlen : (Vd.seen p.pr (k : Int)).length = zs.length + p.vars.length := by rw [hs, ← hz, List.length_append]
      refine den_ret fun _ _ hr => ⟨_, rfl, a6, c6, ?_, ?_⟩
      ·rw [hlen]; rfl
      ·have h5 := (hr _ (List.mem_cons_self ..)).1
       simp only [zR, Sy.den, E.i] at h5
       rw [hlen, hs, ← hz, List.flatMap_append]
       exact owns_sl h5
   ·have c2 : (v.n.kd == 1) = false := c2
    rw [c2, if_neg (fun h => nomatch h)] at hs
    rw [show Vd.above p.pr at0 = [] ++ Vd.above p.pr at0 from rfl] at hs
    refine den_loop (fun j vs ls _ => ∃ (zs : List Md.Var) (a' : Option Addr) (c' : Nat) (at' : Int), vs = [.slice a' zs.length c', .int .i64 at'] ∧ ls = [zs.flatMap varC] ∧ at' < p.nodes.length ∧ -1 ≤ at' ∧ zs ++ Vd.above p.pr at' = [] ++ Vd.above p.pr at0 ∧ j = (at' + 1).toNat) (at0 + 1).toNat ⟨[], none, 0, at0, rfl, rfl, by omega, by omega, rfl, rfl⟩ ?_
    rintro j vs ls W5 x5 ⟨zs, a', c', at', rfl, rfl, hal, hag, hz, rfl⟩
    have y5 := ext_trans y2 x5
    refine ⟨at', zs.length, c', a', zs.flatMap varC, rfl, by simp only [zR], fun hrow => ?_⟩
    simp only [zP]
    have hzl : zs.length ≤ 1000001000000 := by
     have h1 := congrArg List.length hz
     rw [List.length_append, List.length_append] at h1
     have h2 := above_len hp (show at0 < p.nodes.length by omega)
     have h3 : ([] : List Md.Var).length ≤ 1000000 := Nat.zero_le _
     omega
    refine den_br (fun d1 => ?_) fun d1 => ?_
    ·have d1 : 0 ≤ at' := by simp only [zE, leB_true] at d1; exact d1
     obtain ⟨q, rfl⟩ : ∃ q : Nat, at' = (q : Int) := ⟨at'.toNat, by omega⟩
     have hq : q < p.nodes.length := by omega
     have hx5 : p.nodes[q]? = some p.nodes[q] := List.getElem?_eq_getElem hq
     have huf := hp.fn _ (List.getElem_mem hq)
     generalize p.nodes[q] = u at hx5 huf
     have hul := huf.lv
     have hlt2 := Vd.around_lt p.pr q
     have hge2 := Vd.around_ge p.pr q
     refine den_chk (by simp only [zE]; exact ltB_t (by omega)) (den_look ⟨u.n.vars.length, u.vc, u.va, fun W6 x6 => ?_, ?_⟩)
     ·have := sl_look_f (P := Tryz.prog) ndC_len hp.ns varsl_aggT (k := 9) hx5 (by decide) (u := .slice u.va u.n.vars.length u.vc) rfl (ext_trans y5 x6)
      simp only [zE] at this ⊢
      exact this
     simp only [zP]
     refine den_chk (chk_le (by simp only [zE]; omega)) (den_cells (u.n.vars.flatMap varC) (by simp only [zE]; exact hfl _) (varC_ones _) (vars_cells2 (huf.vs.ext y5)).1 (vars_cells2 (huf.vs.ext y5)).2 ?_)
     simp only [zP]
     refine den_app fun a6 c6 W6 _ x6 => ?_
     simp only [zP]
     refine den_call_q (v := .int .i64 (Vd.around p.pr q)) (fun _ _ => around_q p W6 (hp.ext (ext_trans y5 x6)) q hq) ⟨Vd.around p.pr q, rfl, fun W7 x7 => ?_⟩
     simp only [zP]
     refine den_again ⟨(Vd.around p.pr q + 1).toNat, by omega, zs ++ u.n.vars, a6, c6, Vd.around p.pr q, ?_, ?_, by omega, hge2, ?_, rfl⟩
     ·simp only [zE, List.length_append]; rfl
     ·simp only [rowConts, conts, Seg.den, gd, Env.push, z_e, z_f, z_g, z_h, z_c, List.flatMap_append]
      try rfl
     ·refine Eq.trans ?_ hz
      rw [Vd.above_step p.pr (show 0 ≤ (q : Int) by omega), Int.toNat_natCast, vd_nd hx5, List.append_assoc]
    ·have d1 : at' < 0 := by simp only [zE, leB_false] at d1; exact d1
     rw [Vd.above_none p.pr d1, List.append_nil] at hz
     refine den_chk (chk_le (by simp only [zE]; omega)) (den_cells (p.vars.flatMap varC) (by simp only [zE]; exact hfl _) (varC_ones _) (vars_cells2 (hp.vs.ext y5)).1 (vars_cells2 (hp.vs.ext y5)).2 ?_)
     simp only [zP]
     refine den_app fun a6 c6 W6 _ x6 => ?_
     simp only [zP]
     have hlen : (Vd.seen p.pr (k : Int)).length = zs.length + p.vars.length := by rw [hs, ← hz, List.length_append]
     refine den_ret fun _ _ hr => ⟨_, rfl, a6, c6, ?_, ?_⟩
     ·rw [hlen]; rfl
     ·have h5 := (hr _ (List.mem_cons_self ..)).1
      simp only [zR, Sy.den, E.i] at h5
      rw [hlen, hs, ← hz, List.flatMap_append]
      exact owns_sl h5
 ·have c0 : (decide (0 ≤ n) && decide (n < (p.nodes.length : Int))) = false := c0
  have hs : Vd.seen p.pr n = p.vars := by rw [Vd.seen, pr_len, c0, if_neg (fun h => nomatch h)]; rfl
  refine den_chk (chk_le (by simp only [zE]; omega)) (den_cells (p.vars.flatMap varC) (by simp only [zE]; exact hfl _) (varC_ones _) (vars_cells2 (hp.vs.ext x1)).1 (vars_cells2 (hp.vs.ext x1)).2 ?_)
  simp only [zP]
  refine den_app fun a6 c6 W6 _ x6 => ?_
  simp only [zP]
  refine den_ret fun _ _ hr => ⟨_, rfl, a6, c6, ?_, ?_⟩
  ·rw [hs]; rfl
  ·have h5 := (hr _ (List.mem_cons_self ..)).1
   simp only [zR, Sy.den, E.i] at h5
   rw [hs]
   exact owns_sl h5
end Go.Proofs.YtkpjmlnhhggenaaGreatDoor
end
section
/- What the statements of layer 12 say, in plain Lean. No program in sight. -/
namespace Tx
open Go
open Px
def muchs (f : Ex → Nat × Bool) : Nat → List Ex → Nat × Bool
 | n, [] => (n, false)
 | n, e :: l => if (f e).2 = true ∨ 300 < n + (f e).1 then (0, true) else muchs f (n + (f e).1) l
def much : Nat → Ex → Nat × Bool
 | 0, _ => (0, true)
 | d + 1, .mk _ _ _ t nm l => if 8 < l.length ∨ 500 < t.length + nm.length then (0, true) else muchs (much d) 1 l
def check (s : Lx.Bs) (vars : List Var) (kind : Int) : Int := if (parse s).2 = 0 then (if (type vars (parse s).1).2 = 0 ∧ (type vars (parse s).1).1 ≠ kind then 23 else (type vars (parse s).1).2) else (parse s).2
end Tx
end
section
/- typed.Check: the walk. -/
namespace Go.Proofs.YtkpjmlnhhggenaaGreatDoor
open Go Go.RowKit Go.SF
theorem parse_thinT (s : Lx.Bs) : Px.thin (Px.parse s).1 = true ∧ Px.deep (Px.parse s).1 ≤ 100 := by
 unfold Px.parse
 split
 ·split
  ·exact ⟨by decide, by decide⟩
  ·rename_i e h
   have := whole_fine (lex_ok _) h
   have hl := lex_len s
   split
   ·exact ⟨by decide, by decide⟩
   ·exact ⟨this.1, by show Px.deep e ≤ 100; omega⟩
 ·exact ⟨show Px.thin Px.none_ = true by decide, show Px.deep Px.none_ ≤ 100 by decide⟩
theorem check_q (s : Lx.Bs) (vars : List Tx.Var) (kind : Int) (a : Option Addr) (c : Nat) (W : Wd) (hvl : vars.length ≤ 1000000) (hV : VarsI W a c vars) (hG : Glob W) (hT : GlobT W) :
  CallsQ Tryz.prog 35 #[.string ⟨s.toArray⟩, .slice a vars.length c, .int .u8 kind] W (.int .i64 (Tx.check s vars kind)) := by
 refine vc_tCheck kind vars.length c ⟨s.toArray⟩ a W.all _ ?_
 have hp := fun V h => parse_i' ⟨s.toArray⟩ V h
 simp only [show (⟨s.toArray⟩ : ByteArray).data.toList = s from by simp] at hp
 have ht := parse_thinT s
 refine den_call_i (fun _ _ => hp W.all (hG.ext W.all_ext)) fun v w' _ ⟨op', k', n', t', nm', al', len', cl', hv, hX⟩ => ⟨op', k', n', (Px.parse s).2, len', cl', t', nm', al', hv, fun W2 e2 y2 n2 => ?_⟩
 have hX2 := ExAt.i hX e2 n2
 simp only [zP]
 refine den_new fun m1 W3 _ x3 => den_wr fun W4 x4 => den_br (fun c => den_ret fun _ _ _ => ⟨_, rfl, ?_⟩) fun c => ?_
 ·have c : ¬ (Px.parse s).2 = 0 := by simpa [Sy.dens, Sy.den, E.i, E.b, E.t, gd, Env.push, z_a, z_b, z_c, z_d] using c
  rw [Tx.check, if_neg c]; rfl
 ·have c : (Px.parse s).2 = 0 := by simpa [Sy.dens, Sy.den, E.i, E.b, E.t, gd, Env.push, z_a, z_b, z_c, z_d] using c
  have y4 := ext_trans x3 x4
  refine den_call_q (fun hb _ => tType_q (Px.parse s).1 _ vars a _ W4 ht.1 hvl (hX2.ext y4) (hV.ext (ext_trans W.all_ext (ext_trans y2 y4))) (hT.ext (ext_trans W.all_ext (ext_trans y2 y4)))) ⟨(Tx.type vars (Px.parse s).1).1, (Tx.type vars (Px.parse s).1).2, rfl, fun _ _ => ?_⟩
  simp only [zP]
  rw [Tx.check, if_pos c]
  refine den_br (fun c2 => den_ret fun _ _ _ => ⟨_, rfl, ?_⟩) fun c2 => den_ret fun _ _ _ => ⟨_, rfl, ?_⟩
  ·have c2 : (Tx.type vars (Px.parse s).1).2 = 0 ∧ (Tx.type vars (Px.parse s).1).1 ≠ kind := by simpa [Sy.dens, Sy.den, E.i, E.b, E.t, gd, Env.push, z_a, z_b, z_c, z_d] using c2
   rw [if_pos c2]; rfl
  ·have c2 : ¬ ((Tx.type vars (Px.parse s).1).2 = 0 ∧ (Tx.type vars (Px.parse s).1).1 ≠ kind) := by simpa [Sy.dens, Sy.den, E.i, E.b, E.t, gd, Env.push, z_a, z_b, z_c, z_d] using c2
   rw [if_neg c2]; rfl
end Go.Proofs.YtkpjmlnhhggenaaGreatDoor
end
section
/- The walks of package valid: says. -/
namespace Vd
open Go Md
def backs (qv s : List Var) : List Bs → Int
 | [] => 0
 | x :: l => if named qv x == 0 || named s x == 0 then 22 else if !(named qv x == named s x) then 23 else backs qv s l
def saysCall (d : Option Pr) (s : List Var) (n : Nd) : Int := match d with
 | none => 22
 | some q => if q.nodes.any begun then backs q.vars s n.back else 22
def saysN (defs : List Pr) (s : List Var) (n : Nd) : Int :=
 if n.ev == 2 then Tx.check n.txt s 1
 else if n.ev == 3 || n.kd == 12 then Tx.check n.txt s 2
 else if n.kd == 4 then (if named s n.set == 0 then 22 else Tx.check n.txt s (named s n.set))
 else if !(n.kd == 14) then 0
 else saysCall (defs.find? fun q => q.nm == n.key) s n
def says (defs : List Pr) (p : Pr) (i : Nat) : Int := saysN defs (seen p i) (nd p i)
end Vd
namespace Go.Proofs.YtkpjmlnhhggenaaGreatDoor
open Go Go.RowKit Go.SF
def onW (V U : Wd) (x : Ext V U) : Wd := ⟨U.w, V.I, fun b hb => Nat.lt_of_lt_of_le (V.lt b hb) x.size⟩
theorem onW_ext {V U : Wd} (x : Ext V U) : Ext V (onW V U x) := ⟨x.size, fun _ h => h, x.keep, x.os, x.tape, x.output⟩
theorem find_map_pr (s : Md.Bs) : ∀ defs : List PV, (defs.map PV.pr).find? (fun q => q.nm == s) = (defs.find? fun q => q.nm == s).map PV.pr
 | [] => rfl
 | q :: l => by
  rw [List.map_cons, List.find?_cons, List.find?_cons]
  show (match q.nm == s with | true => some q.pr | false => _) = _
  cases q.nm == s
  ·exact find_map_pr s l
  ·rfl
theorem any_begun (q : PV) : q.pr.nodes.any Vd.begun = q.nodes.any fun y => Vd.begun y.n := by
 unfold PV.pr
 simp only [List.any_map, Function.comp_def]
set_option maxRecDepth 100000 in
theorem says_q (defs : List PV) (da : Option Addr) (dc : Nat) (fr to : Sl3) (p : PV) (i : Nat) (m : Nat) (W : Wd) (hd : defs.length ≤ 1000000) (hD : SlI W da defs.length dc 4 (defs.flatMap prC)) (hF : ∀ q ∈ defs, FitP q W)
  (hp : FitP p W) (hi : i < p.nodes.length) (hsl : (Vd.seen p.pr (i : Int)).length ≤ 1000000) (hG : Glob W) (hT : GlobT W)
  (hI : ¬ W.I m) (hm : W.w.heap[m]? = some (.cells (chkC ⟨da, defs.length, dc⟩ p fr to).toArray ChT)) :
  CallsQ Tryz.prog 34 #[.pointer (some ⟨m, 0, none⟩), .int .i64 (i : Int)] W (.int .i64 (Vd.says (defs.map PV.pr) p.pr i)) := by
 refine chk_q hI hm fun V hVw hx hVI => ?_
 rw [← hVw] at hm
 have hp := hp.ext hx
 have hD := hD.ext hx
 have hG := hG.ext hx
 have hT := hT.ext hx
 have hF : ∀ q ∈ defs, FitP q V := fun q hq => (hF q hq).ext hx
 have hln := hp.ln
 have hx1 : p.nodes[i]? = some p.nodes[i] := List.getElem?_eq_getElem hi
 have hvf := hp.fn _ (List.getElem_mem hi)
 generalize p.nodes[i] = v at hx1 hvf
 have hvb := hvf.lb
 refine vc_says i defs.length dc p.vars.length p.vc p.nodes.length p.nc p.flows.length p.fc fr.n fr.c to.n to.c ⟨p.nm.toArray⟩ da p.va p.na p.fa fr.a to.a m V _ hm hVI ?_
 have hs : Vd.says (defs.map PV.pr) p.pr i = Vd.saysN (defs.map PV.pr) (Vd.seen p.pr i) v.n := by rw [Vd.says, vd_nd hx1]
 rw [hs, Vd.saysN, find_map_pr]
 refine den_chk ?_ (den_chk ?_ (den_chk ?_ (den_look ⟨v.n.kd, v.n.inn, v.n.on, v.n.ev, v.n.vars.length, v.vc, v.n.back.length, v.bc, v.n.brk, ⟨v.n.nm.toArray⟩, ⟨v.n.key.toArray⟩, ⟨v.n.txt.toArray⟩, ⟨v.n.set.toArray⟩, v.va, v.ba, fun W3 x3 => ?_, ?_⟩)))
 ·simp only [E.b, gd, Env.push]; exact SlI.some_of hp.ns (by omega)
 ·simp only [zE]; exact leB_t (by omega)
 ·simp only [zE]; exact ltB_t (by omega)
 ·have := sl_look (P := Tryz.prog) ndC_len (by decide) hp.ns nd_aggT nd_sizeT hx1 x3
  simp only [zE, Nat.add_zero] at this ⊢
  exact this
 simp only [zP]
 refine den_both ?_ ?_
 ·refine den_grow fun W4 x4 => ?_
  refine den_call_i (fun _ _ => seen_i p i W4 (hp.ext x4)) fun u w' _ ⟨a8, c8, hu, hS⟩ => ⟨(Vd.seen p.pr (i : Int)).length, c8, a8, hu, fun W5 e5 x5 n5 => ?_⟩
  have hS := SlAt.stay hS e5 n5
  simp only [zP]
  refine den_grow fun W6 x6 => den_new fun m1 W7 _ x7 => den_grow fun W8 x8 => den_wr fun W8b x8b => den_grow fun W9 x9 => ?_
  have hS := hS.ext (ext_trans (ext_trans x6 x7) (ext_trans (ext_trans x8 x8b) x9))
  have z9 := ext_trans (ext_trans x4 x5) (ext_trans (ext_trans x6 x7) (ext_trans (ext_trans x8 x8b) x9))
  try simp only [zP]
  generalize Vd.seen p.pr i = s at hS hsl ⊢
  have hsl2 : s.length ≤ 2000000000000 := by omega
  refine den_br (fun c1 => ?_) fun c1 => ?_
  ·have c1 : (v.n.ev == 2) = true := c1
   rw [c1, if_pos rfl]
   refine den_call_q (v := .int .i64 (Tx.check v.n.txt s 1)) (fun _ _ => check_q v.n.txt s 1 a8 c8 W9 hsl hS (hG.ext z9) (hT.ext z9)) ⟨Tx.check v.n.txt s 1, rfl, fun W10 x10 => ?_⟩
   simp only [zP]
   exact den_ret fun h5 _ _ => ⟨rfl, h5 _ (List.mem_singleton.2 rfl)⟩
  ·have c1 : (v.n.ev == 2) = false := c1
   rw [c1, if_neg (fun h => nomatch h)]
   refine den_br (fun c2 => ?_) fun c2 => ?_
   ·have c2 : (v.n.ev == 3 || v.n.kd == 12) = true := c2
    rw [c2, if_pos rfl]
    refine den_call_q (v := .int .i64 (Tx.check v.n.txt s 2)) (fun _ _ => check_q v.n.txt s 2 a8 c8 W9 hsl hS (hG.ext z9) (hT.ext z9)) ⟨Tx.check v.n.txt s 2, rfl, fun W10 x10 => ?_⟩
    simp only [zP]
    exact den_ret fun h5 _ _ => ⟨rfl, h5 _ (List.mem_singleton.2 rfl)⟩
   ·have c2 : (v.n.ev == 3 || v.n.kd == 12) = false := c2
    rw [c2, if_neg (fun h => nomatch h)]
    refine den_br (fun c3 => ?_) fun c3 => ?_
    ·have c3 : (v.n.kd == 4) = true := c3
     rw [c3, if_pos rfl]
     refine den_call_q (v := .int .u8 (Vd.named s v.n.set)) (fun _ _ => named_q v.n.set s a8 c8 W9 hsl2 hS) ⟨Vd.named s v.n.set, rfl, fun W10 x10 => ?_⟩
     have z10 := ext_trans z9 x10
     simp only [zP]
     refine den_br (fun c4 => den_ret fun h5 _ _ => ⟨?_, h5 _ (List.mem_singleton.2 rfl)⟩) fun c4 => ?_
     ·have c4 : (Vd.named s v.n.set == 0) = true := c4
      rw [c4, if_pos rfl]; rfl
     ·have c4 : (Vd.named s v.n.set == 0) = false := c4
      rw [c4, if_neg (fun h => nomatch h)]
      refine den_call_q (v := .int .i64 (Tx.check v.n.txt s (Vd.named s v.n.set))) (fun _ _ => check_q v.n.txt s (Vd.named s v.n.set) a8 c8 W10 hsl (hS.ext x10) (hG.ext z10) (hT.ext z10)) ⟨Tx.check v.n.txt s (Vd.named s v.n.set), rfl, fun W11 x11 => ?_⟩
      simp only [zP]
      exact den_ret fun h5 _ _ => ⟨rfl, h5 _ (List.mem_singleton.2 rfl)⟩
    ·have c3 : (v.n.kd == 4) = false := c3
     rw [c3, if_neg (fun h => nomatch h)]
     refine den_br (fun c4 => den_ret fun h5 _ _ => ⟨?_, h5 _ (List.mem_singleton.2 rfl)⟩) fun c4 => ?_
     ·have c4 : (!(v.n.kd == 14)) = true := c4
      rw [c4, if_pos rfl]; rfl
     ·have c4 : (!(v.n.kd == 14)) = false := c4
      rw [c4, if_neg (fun h => nomatch h)]
      refine den_call_i (fun hb _ => called_i defs da dc fr to p v.n.key m (onW V W9 z9) hd (hD.ext (onW_ext z9)) (fun q hq => (hF q hq).ext (onW_ext z9)) hVI (hb _ (List.mem_singleton.2 rfl))) fun u w' _ hu => ?_
      rcases hu with ⟨h1, h2⟩ | ⟨q, hq, h1, h2⟩
      ·rw [h1]
       refine ⟨0, 0, 0, 0, 0, 0, false, ⟨#[]⟩, none, none, none, h2, fun W10 _ x10 _ => ?_⟩
       simp only [zP]
       exact den_new fun m2 W11 _ _ => den_wr fun W12 _ => den_br (fun c5 => den_ret fun h5 _ _ => ⟨rfl, h5 _ (List.mem_singleton.2 rfl)⟩) fun c5 => nomatch (show (true = false) from c5)
      ·rw [h1]
       have hqF := hF q hq
       refine ⟨q.vars.length, q.vc, q.nodes.length, q.nc, q.flows.length, q.fc, q.nodes.any fun y => Vd.begun y.n, ⟨q.nm.toArray⟩, q.va, q.na, q.fa, h2, fun W10 _ x10 _ => ?_⟩
       simp only [zP]
       have hsc : Vd.saysCall (some q.pr) s v.n = if (q.nodes.any fun y => Vd.begun y.n) then Vd.backs q.vars s v.n.back else 22 := by rw [Vd.saysCall, any_begun]; rfl
       show Tree.den _ _ (fun e w' => e = .returned (.int .i64 (Vd.saysCall (some q.pr) s v.n)) ∧ _) _ _ _ _
       rw [hsc]
       refine den_new fun m2 W11 _ x11 => den_wr fun W12 x12 => den_br (fun c5 => den_ret fun h5 _ _ => ⟨?_, h5 _ (List.mem_singleton.2 rfl)⟩) fun c5 => ?_
       ·have c5 : (!(q.nodes.any fun y => Vd.begun y.n)) = true := c5
        rw [if_neg (fun h => by rw [h] at c5; cases c5)]; rfl
       ·have c5 : (!(q.nodes.any fun y => Vd.begun y.n)) = false := c5
        rw [if_pos (by simpa using c5)]
        have x12 := ext_trans x10 (ext_trans x11 x12)
        have z12 := ext_trans z9 x12
        refine den_loop (fun j vs ls _ => ∃ k : Nat, vs = [.int .i64 (k : Nat)] ∧ ls = [] ∧ k ≤ v.n.back.length ∧ j = v.n.back.length - k ∧ Vd.backs q.vars s v.n.back = Vd.backs q.vars s (v.n.back.drop k)) v.n.back.length ⟨0, by simp [Sy.dens, Sy.den, E.i, E.b, E.t, gd, Env.push, z_a, z_b, z_c, z_d], rfl, Nat.zero_le _, rfl, rfl⟩ ?_
        rintro j vs ls' W13 x13 ⟨k, rfl, rfl, hk, rfl, ha⟩
        have x13 := ext_trans x12 x13
        have z13 := ext_trans z9 x13
        refine ⟨(k : Int), rfl, rfl, fun _ => den_br (fun d1 => ?_) fun d1 => den_ret fun h5 _ _ => ⟨?_, h5 _ (List.mem_singleton.2 rfl)⟩⟩
        ·simp only [zE, ltB_true] at d1
         have hkl : k < v.n.back.length := by omega
         have hx5 : v.n.back[k]? = some v.n.back[k] := List.getElem?_eq_getElem hkl
         rw [tdrop_get hkl] at ha
         generalize v.n.back[k] = t at hx5 ha
         have hbs := hvf.bs
         refine den_chk ?_ (den_chk ?_ (den_look ⟨⟨t.toArray⟩, fun W14 x14 => ?_, ?_⟩))
         ·simp only [E.b, gd, Env.push]; exact SlI.some_of hbs (by omega)
         ·simp only [zE]; exact leB_t (by omega)
         ·have := sl_look_f (P := Tryz.prog) (f := fun s => [strB s]) (sz := 1) (fun _ => rfl) hbs str_aggT (k := 0) hx5 (by decide) (u := strB t) rfl (ext_trans z13 x14)
          simp only [zE] at this ⊢
          exact this
         simp only [zP]
         refine den_call_q (v := .int .u8 (Vd.named q.vars t)) (fun _ _ => named_q t q.vars q.va q.vc W13 (by have := hqF.lv; omega) (hqF.vs.ext z13)) ⟨Vd.named q.vars t, rfl, fun W14 x14 => ?_⟩
         simp only [zP]
         refine den_call_q (v := .int .u8 (Vd.named s t)) (fun _ _ => named_q t s a8 c8 W14 hsl2 (hS.ext (ext_trans x13 x14))) ⟨Vd.named s t, rfl, fun W15 x15 => ?_⟩
         simp only [zP]
         refine den_br (fun d2 => den_ret fun h5 _ _ => ⟨?_, h5 _ (List.mem_singleton.2 rfl)⟩) fun d2 => den_br (fun d3 => den_ret fun h5 _ _ => ⟨?_, h5 _ (List.mem_singleton.2 rfl)⟩) fun d3 => den_again ⟨v.n.back.length - (k + 1), by omega, k + 1, ?_, rfl, by omega, rfl, ?_⟩
         ·have d2 : (Vd.named q.vars t == 0 || Vd.named s t == 0) = true := d2
          rw [ha, Vd.backs, d2]; rfl
         ·have d2 : (Vd.named q.vars t == 0 || Vd.named s t == 0) = false := d2
          have d3 : (!(Vd.named q.vars t == Vd.named s t)) = true := d3
          rw [ha, Vd.backs, d2, d3]; rfl
         ·simp only [zE]; rw [w64i (by omega) (by omega)]; rfl
         ·have d2 : (Vd.named q.vars t == 0 || Vd.named s t == 0) = false := d2
          have d3 : (!(Vd.named q.vars t == Vd.named s t)) = false := d3
          rw [ha, Vd.backs, d2, d3]; rfl
        ·simp only [zE, ltB_false] at d1
         rw [ha, List.drop_eq_nil_of_le (by omega)]; rfl
 ·refine den_grow fun W4 x4 => den_new fun m1 W4b _ x4b => den_grow fun W4c x4c => ?_
  simp only [zP]
  have y4 := ext_trans x4 (ext_trans x4b x4c)
  refine den_call_i (fun _ _ => seen_i p i W4c (hp.ext y4)) fun u w' _ ⟨a8, c8, hu, hS⟩ => ⟨(Vd.seen p.pr (i : Int)).length, c8, a8, hu, fun W5 e5 x5 n5 => ?_⟩
  have hS := SlAt.stay hS e5 n5
  simp only [zP]
  refine den_grow fun W6 x6 => den_wr fun W7 x7 => den_grow fun W9 x9 => ?_
  have hS := hS.ext (ext_trans (ext_trans x6 x7) x9)
  have z9 := ext_trans (ext_trans y4 x5) (ext_trans (ext_trans x6 x7) x9)
  try simp only [zP]
  generalize Vd.seen p.pr i = s at hS hsl ⊢
  have hsl2 : s.length ≤ 2000000000000 := by omega
  refine den_br (fun c1 => ?_) fun c1 => ?_
  ·have c1 : (v.n.ev == 2) = true := c1
   rw [c1, if_pos rfl]
   refine den_call_q (v := .int .i64 (Tx.check v.n.txt s 1)) (fun _ _ => check_q v.n.txt s 1 a8 c8 W9 hsl hS (hG.ext z9) (hT.ext z9)) ⟨Tx.check v.n.txt s 1, rfl, fun W10 x10 => ?_⟩
   simp only [zP]
   exact den_ret fun h5 _ _ => ⟨rfl, h5 _ (List.mem_singleton.2 rfl)⟩
  ·have c1 : (v.n.ev == 2) = false := c1
   rw [c1, if_neg (fun h => nomatch h)]
   refine den_br (fun c2 => ?_) fun c2 => ?_
   ·have c2 : (v.n.ev == 3 || v.n.kd == 12) = true := c2
    rw [c2, if_pos rfl]
    refine den_call_q (v := .int .i64 (Tx.check v.n.txt s 2)) (fun _ _ => check_q v.n.txt s 2 a8 c8 W9 hsl hS (hG.ext z9) (hT.ext z9)) ⟨Tx.check v.n.txt s 2, rfl, fun W10 x10 => ?_⟩
    simp only [zP]
    exact den_ret fun h5 _ _ => ⟨rfl, h5 _ (List.mem_singleton.2 rfl)⟩
   ·have c2 : (v.n.ev == 3 || v.n.kd == 12) = false := c2
    rw [c2, if_neg (fun h => nomatch h)]
    refine den_br (fun c3 => ?_) fun c3 => ?_
    ·have c3 : (v.n.kd == 4) = true := c3
     rw [c3, if_pos rfl]
     refine den_call_q (v := .int .u8 (Vd.named s v.n.set)) (fun _ _ => named_q v.n.set s a8 c8 W9 hsl2 hS) ⟨Vd.named s v.n.set, rfl, fun W10 x10 => ?_⟩
     have z10 := ext_trans z9 x10
     simp only [zP]
     refine den_br (fun c4 => den_ret fun h5 _ _ => ⟨?_, h5 _ (List.mem_singleton.2 rfl)⟩) fun c4 => ?_
     ·have c4 : (Vd.named s v.n.set == 0) = true := c4
      rw [c4, if_pos rfl]; rfl
     ·have c4 : (Vd.named s v.n.set == 0) = false := c4
      rw [c4, if_neg (fun h => nomatch h)]
      refine den_call_q (v := .int .i64 (Tx.check v.n.txt s (Vd.named s v.n.set))) (fun _ _ => check_q v.n.txt s (Vd.named s v.n.set) a8 c8 W10 hsl (hS.ext x10) (hG.ext z10) (hT.ext z10)) ⟨Tx.check v.n.txt s (Vd.named s v.n.set), rfl, fun W11 x11 => ?_⟩
      simp only [zP]
      exact den_ret fun h5 _ _ => ⟨rfl, h5 _ (List.mem_singleton.2 rfl)⟩
    ·have c3 : (v.n.kd == 4) = false := c3
     rw [c3, if_neg (fun h => nomatch h)]
     refine den_br (fun c4 => den_ret fun h5 _ _ => ⟨?_, h5 _ (List.mem_singleton.2 rfl)⟩) fun c4 => ?_
     ·have c4 : (!(v.n.kd == 14)) = true := c4
      rw [c4, if_pos rfl]; rfl
     ·have c4 : (!(v.n.kd == 14)) = false := c4
      rw [c4, if_neg (fun h => nomatch h)]
      refine den_call_i (fun hb _ => called_i defs da dc fr to p v.n.key m (onW V W9 z9) hd (hD.ext (onW_ext z9)) (fun q hq => (hF q hq).ext (onW_ext z9)) hVI (hb _ (List.mem_singleton.2 rfl))) fun u w' _ hu => ?_
      rcases hu with ⟨h1, h2⟩ | ⟨q, hq, h1, h2⟩
      ·rw [h1]
       refine ⟨0, 0, 0, 0, 0, 0, false, ⟨#[]⟩, none, none, none, h2, fun W10 _ x10 _ => ?_⟩
       simp only [zP]
       exact den_new fun m2 W11 _ _ => den_wr fun W12 _ => den_br (fun c5 => den_ret fun h5 _ _ => ⟨rfl, h5 _ (List.mem_singleton.2 rfl)⟩) fun c5 => nomatch (show (true = false) from c5)
      ·rw [h1]
       have hqF := hF q hq
       refine ⟨q.vars.length, q.vc, q.nodes.length, q.nc, q.flows.length, q.fc, q.nodes.any fun y => Vd.begun y.n, ⟨q.nm.toArray⟩, q.va, q.na, q.fa, h2, fun W10 _ x10 _ => ?_⟩
       simp only [zP]
       have hsc : Vd.saysCall (some q.pr) s v.n = if (q.nodes.any fun y => Vd.begun y.n) then Vd.backs q.vars s v.n.back else 22 := by rw [Vd.saysCall, any_begun]; rfl
       show Tree.den _ _ (fun e w' => e = .returned (.int .i64 (Vd.saysCall (some q.pr) s v.n)) ∧ _) _ _ _ _
       rw [hsc]
       refine den_new fun m2 W11 _ x11 => den_wr fun W12 x12 => den_br (fun c5 => den_ret fun h5 _ _ => ⟨?_, h5 _ (List.mem_singleton.2 rfl)⟩) fun c5 => ?_
       ·have c5 : (!(q.nodes.any fun y => Vd.begun y.n)) = true := c5
        rw [if_neg (fun h => by rw [h] at c5; cases c5)]; rfl
       ·have c5 : (!(q.nodes.any fun y => Vd.begun y.n)) = false := c5
        rw [if_pos (by simpa using c5)]
        have x12 := ext_trans x10 (ext_trans x11 x12)
        have z12 := ext_trans z9 x12
        refine den_loop (fun j vs ls _ => ∃ k : Nat, vs = [.int .i64 (k : Nat)] ∧ ls = [] ∧ k ≤ v.n.back.length ∧ j = v.n.back.length - k ∧ Vd.backs q.vars s v.n.back = Vd.backs q.vars s (v.n.back.drop k)) v.n.back.length ⟨0, by simp [Sy.dens, Sy.den, E.i, E.b, E.t, gd, Env.push, z_a, z_b, z_c, z_d], rfl, Nat.zero_le _, rfl, rfl⟩ ?_
        rintro j vs ls' W13 x13 ⟨k, rfl, rfl, hk, rfl, ha⟩
        have x13 := ext_trans x12 x13
        have z13 := ext_trans z9 x13
        refine ⟨(k : Int), rfl, rfl, fun _ => den_br (fun d1 => ?_) fun d1 => den_ret fun h5 _ _ => ⟨?_, h5 _ (List.mem_singleton.2 rfl)⟩⟩
        ·simp only [zE, ltB_true] at d1
         have hkl : k < v.n.back.length := by omega
         have hx5 : v.n.back[k]? = some v.n.back[k] := List.getElem?_eq_getElem hkl
         rw [tdrop_get hkl] at ha
         generalize v.n.back[k] = t at hx5 ha
         have hbs := hvf.bs
         refine den_chk ?_ (den_chk ?_ (den_look ⟨⟨t.toArray⟩, fun W14 x14 => ?_, ?_⟩))
         ·simp only [E.b, gd, Env.push]; exact SlI.some_of hbs (by omega)
         ·simp only [zE]; exact leB_t (by omega)
         ·have := sl_look_f (P := Tryz.prog) (f := fun s => [strB s]) (sz := 1) (fun _ => rfl) hbs str_aggT (k := 0) hx5 (by decide) (u := strB t) rfl (ext_trans z13 x14)
          simp only [zE] at this ⊢
          exact this
         simp only [zP]
         refine den_call_q (v := .int .u8 (Vd.named q.vars t)) (fun _ _ => named_q t q.vars q.va q.vc W13 (by have := hqF.lv; omega) (hqF.vs.ext z13)) ⟨Vd.named q.vars t, rfl, fun W14 x14 => ?_⟩
         simp only [zP]
         refine den_call_q (v := .int .u8 (Vd.named s t)) (fun _ _ => named_q t s a8 c8 W14 hsl2 (hS.ext (ext_trans x13 x14))) ⟨Vd.named s t, rfl, fun W15 x15 => ?_⟩
         simp only [zP]
         refine den_br (fun d2 => den_ret fun h5 _ _ => ⟨?_, h5 _ (List.mem_singleton.2 rfl)⟩) fun d2 => den_br (fun d3 => den_ret fun h5 _ _ => ⟨?_, h5 _ (List.mem_singleton.2 rfl)⟩) fun d3 => den_again ⟨v.n.back.length - (k + 1), by omega, k + 1, ?_, rfl, by omega, rfl, ?_⟩
         ·have d2 : (Vd.named q.vars t == 0 || Vd.named s t == 0) = true := d2
          rw [ha, Vd.backs, d2]; rfl
         ·have d2 : (Vd.named q.vars t == 0 || Vd.named s t == 0) = false := d2
          have d3 : (!(Vd.named q.vars t == Vd.named s t)) = true := d3
          rw [ha, Vd.backs, d2, d3]; rfl
         ·simp only [zE]; rw [w64i (by omega) (by omega)]; rfl
         ·have d2 : (Vd.named q.vars t == 0 || Vd.named s t == 0) = false := d2
          have d3 : (!(Vd.named q.vars t == Vd.named s t)) = false := d3
          rw [ha, Vd.backs, d2, d3]; rfl
        ·simp only [zE, ltB_false] at d1
         rw [ha, List.drop_eq_nil_of_le (by omega)]; rfl
end Go.Proofs.YtkpjmlnhhggenaaGreatDoor
end
section
/- The walks of package valid: ways. -/
namespace Vd
open Go Md
def okFlow (p : Pr) (x : Fl) : Bool :=
 !decide ((p.nodes.length : Int) ≤ max x.frm x.to) &&
  (!(((nd p x.to.toNat).kd == 1 || (nd p x.to.toNat).kd == 15) || (nd p x.to.toNat).kd == 13) &&
   (!(((!((nd p x.frm.toNat).inn == (nd p x.to.toNat).inn) || link (nd p x.to.toNat) 6) || (nd p x.frm.toNat).kd == 2) || (nd p x.frm.toNat).kd == 13) && !link (nd p x.frm.toNat) 5))
def inc (l : List Int) (i : Nat) : List Int := l.set i (l.getD i 0 + 1)
theorem inc_len (l : List Int) (i : Nat) : (inc l i).length = l.length := List.length_set
theorem inc_in {l : List Int} {i : Nat} {n : Nat} (h : ∀ x ∈ l, 0 ≤ x ∧ x ≤ (n : Int)) : ∀ x ∈ inc l i, 0 ≤ x ∧ x ≤ ((n + 1 : Nat) : Int) := by
 intro x hx
 have hg : 0 ≤ l.getD i 0 ∧ l.getD i 0 ≤ (n : Int) := by
  rw [List.getD_eq_getElem?_getD]
  cases he : l[i]? with
  | none => exact ⟨Int.le_refl _, by simp⟩
  | some y => exact h y (List.mem_of_getElem? he)
 rcases List.mem_or_eq_of_mem_set hx with h1 | h1
 ·have := h x h1; omega
 ·subst h1; omega
def waysN (p : Pr) : List Fl → List Int → List Int → Option (List Int × List Int)
 | [], f, t => some (f, t)
 | x :: l, f, t => if okFlow p x then waysN p l (inc f x.frm.toNat) (inc t x.to.toNat) else none
def ways (p : Pr) : Option (List Int × List Int) := waysN p p.flows (List.replicate p.nodes.length 0) (List.replicate p.nodes.length 0)
end Vd
namespace Go.Proofs.YtkpjmlnhhggenaaGreatDoor
open Go Go.RowKit Go.SF
def ints (l : List Int) : List Value := l.flatMap fun x => [Value.int .i64 x]
theorem ints_rep : ∀ n : Nat, ints (List.replicate n 0) = List.replicate n (Value.int .i64 0)
 | 0 => rfl
 | n + 1 => by rw [List.replicate_succ, List.replicate_succ, ← ints_rep n]; rfl
theorem setL_flat {α : Type} {f : α → List Value} {sz : Nat} (hf : ∀ x, (f x).length = sz) : ∀ {l : List α} {i : Nat} (y : α), i < l.length → setL (l.flatMap f) (i * sz + 0) (f y) = (l.set i y).flatMap f
 | [], i, y, h => by simp at h
 | x :: l, 0, y, h => by
  simp only [setL, z_g, Nat.zero_mul, Nat.zero_add, List.take_zero, z_b, List.set_cons_zero]
  rw [List.drop_append, hf y, List.drop_of_length_le (by rw [hf]; omega), hf x]; simp
 | x :: l, i + 1, y, h => by
  have ih := setL_flat hf (l := l) (i := i) y (by simpa using h)
  simp only [List.set_cons_succ, z_g]
  rw [← ih]
  simp only [setL, Nat.add_zero]
  have e : (i + 1) * sz = (f x).length + i * sz := by rw [hf, Nat.add_mul, Nat.one_mul]; omega
  rw [e, Nat.add_assoc, List.take_length_add_append, List.drop_length_add_append]
  simp
theorem set_ints {l : List Int} {i : Nat} (h : i < l.length) : setL (ints l) (i * 1 + 0) [.int .i64 (l.getD i 0 + 1)] = ints (Vd.inc l i) :=
 setL_flat (f := fun x => [Value.int .i64 x]) (sz := 1) (fun _ => rfl) (l.getD i 0 + 1) h
def wOf (w : World) : Wd := ⟨w, fun _ => False, fun _ h => h.elim⟩
set_option maxRecDepth 100000 in
theorem row_int {w : World} {n0 : Nat} {e : TypeId} {l : List Int} {a : Option Addr} {c : Nat} (h : w.ownsRow n0 e 1 (.slice a l.length c) l.length (ints l)) {i : Nat} {x : Int} (hx : l[i]? = some x) :
  (Instr.loadAt 3 (.pointer (some ((a.getD default).add (i * 1 + 0))))).run Tryz.prog w = .ok (.int .i64 x) w := by
 have h1 : SlI (wOf w).all a l.length c 1 (ints l) := SlW.all (W := wOf w) ((owns_sl h).mono fun _ _ => trivial)
 have := sl_look_f (P := Tryz.prog) (f := fun x => [Value.int .i64 x]) (sz := 1) (fun _ => rfl) h1 i64_aggT (k := 0) hx (by decide) (u := .int .i64 x) rfl (W' := (wOf w).all) (Ext.refl _)
 exact this
theorem getD_some {l : List Int} {i : Nat} (h : i < l.length) : l[i]? = some (l.getD i 0) := by rw [List.getD_eq_getElem?_getD, List.getElem?_eq_getElem h]; rfl
theorem flow_in {p : PV} {k : Nat} {v : NV} (h : p.nodes[k]? = some v) : Vd.nd p.pr ((k : Int).toNat) = v.n := by rw [Int.toNat_natCast, vd_nd h]
def WaysV (D : Sl3) (p : PV) (m n0 : Nat) (e : Ending) (w' : World) : Prop := ∃ (b : Bool) (aX : Option Addr) (cX : Nat) (aY : Option Addr) (cY : Nat) (f t : List Int), e = .returned (.bool b) ∧
 w'.heap[m]? = some (.cells (chkC D p ⟨aX, f.length, cX⟩ ⟨aY, t.length, cY⟩).toArray ChT) ∧ f.length = p.nodes.length ∧ t.length = p.nodes.length ∧
 SlAt w' (fun k => n0 ≤ k) aX f.length cX 1 (ints f) ∧ SlAt w' (fun k => n0 ≤ k) aY t.length cY 1 (ints t) ∧ Vd.ways p.pr = if b then some (f, t) else none
set_option maxRecDepth 100000 in
theorem ways_e (D fr to : Sl3) (p : PV) (m : Nat) (V : Wd) (hp : FitP p V) (hfl : ∀ x ∈ p.flows, 0 ≤ x.frm ∧ 0 ≤ x.to) (hI : ¬ V.I m) (hm : V.w.heap[m]? = some (.cells (chkC D p fr to).toArray ChT)) :
  CallsE Tryz.prog 29 #[.pointer (some ⟨m, 0, none⟩)] V (WaysV D p m V.w.heap.size) := by
 have hln := hp.ln
 have hlf := hp.lf
 have hcl : p.nodes.length ≤ 1000000 := hln
 refine vc_ways D.n D.c p.vars.length p.vc p.nodes.length p.nc p.flows.length p.fc fr.n fr.c to.n to.c ⟨p.nm.toArray⟩ D.a p.va p.na p.fa fr.a to.a m V _ hm hI ?_
 let Inv : Nat → List Value → List (List Value) → Wd → Prop := fun j vs ls _ => ∃ (i : Nat) (f t : List Int) (aX : Option Addr) (cX : Nat) (aY : Option Addr) (cY : Nat), vs = [.int .i64 (i : Nat), .slice aX f.length cX, .slice aY t.length cY] ∧ ls = [ints f, ints t] ∧ f.length = p.nodes.length ∧ t.length = p.nodes.length ∧
  (∀ x ∈ f, 0 ≤ x ∧ x ≤ (i : Int)) ∧ (∀ x ∈ t, 0 ≤ x ∧ x ≤ (i : Int)) ∧ i ≤ p.flows.length ∧ j = p.flows.length - i ∧ Vd.ways p.pr = Vd.waysN p.pr (p.flows.drop i) f t
 have start : ∀ (aX : Option Addr) (cX : Nat) (aY : Option Addr) (cY : Nat) (U : Wd), Inv p.flows.length [.int .i64 0, .slice aX p.nodes.length cX, .slice aY p.nodes.length cY] [List.replicate p.nodes.length (.int .i64 0), List.replicate p.nodes.length (.int .i64 0)] U := fun aX cX aY cY U =>
  ⟨0, List.replicate p.nodes.length 0, List.replicate p.nodes.length 0, aX, cX, aY, cY, by rw [List.length_replicate]; rfl, by rw [ints_rep], List.length_replicate, List.length_replicate, fun x hx => by rw [List.eq_of_mem_replicate hx]; exact ⟨Int.le_refl _, Int.le_refl _⟩, fun x hx => by rw [List.eq_of_mem_replicate hx]; exact ⟨Int.le_refl _, Int.le_refl _⟩, Nat.zero_le _, rfl, by rw [Vd.ways, pr_len]; rfl⟩
 have body : ∀ (bX bY : Option Addr) (dX dY : Nat) (n : Nat) (vs : List Value) (ls : List (List Value)) (U : Wd), Ext V U → Inv n vs ls U → ExE ⟨1, 4, 0, 0, 0, 2, 0, 2⟩ fun d =>
   Sy.dens (Env.push { N := [D.n, D.c, p.vars.length, p.vc, p.nodes.length, p.nc, p.flows.length, p.fc, fr.n, fr.c, to.n, to.c, dX, dY], T := [⟨p.nm.toArray⟩], A := [D.a, p.va, p.na, p.fa, fr.a, to.a, bX, bY], M := [m] } d) [(.int .i64 (.iv 0)), (.slc 8 (.nv 14) (.nv 15)), (.slc 9 (.nv 16) (.nv 17))] = vs ∧
   rowConts (Env.push { N := [D.n, D.c, p.vars.length, p.vc, p.nodes.length, p.nc, p.flows.length, p.fc, fr.n, fr.c, to.n, to.c, dX, dY], T := [⟨p.nm.toArray⟩], A := [D.a, p.va, p.na, p.fa, fr.a, to.a, bX, bY], M := [m] } d) [⟨(.slc 8 (.nv 14) (.nv 15)), (.nv 14), 3, 1, [(.l 0)]⟩, ⟨(.slc 9 (.nv 16) (.nv 17)), (.nv 16), 3, 1, [(.l 1)]⟩] = ls ∧
   (RowsAt V.w.heap.size (Env.push { N := [D.n, D.c, p.vars.length, p.vc, p.nodes.length, p.nc, p.flows.length, p.fc, fr.n, fr.c, to.n, to.c, dX, dY], T := [⟨p.nm.toArray⟩], A := [D.a, p.va, p.na, p.fa, fr.a, to.a, bX, bY], M := [m] } d) [⟨(.slc 8 (.nv 14) (.nv 15)), (.nv 14), 3, 1, [(.l 0)]⟩, ⟨(.slc 9 (.nv 16) (.nv 17)), (.nv 16), 3, 1, [(.l 1)]⟩] U.w →
    (Tree.br (.bin .lt (.iv 0) (.nv 6)) t_ways_19 t_ways_20).den Tryz.prog V.w.heap.size (WaysV D p m V.w.heap.size) ([] ++ [fun vs' ls' W'' => ∃ n', n' < n ∧ Inv n' vs' ls' W'']) (Env.push { N := [D.n, D.c, p.vars.length, p.vc, p.nodes.length, p.nc, p.flows.length, p.fc, fr.n, fr.c, to.n, to.c, dX, dY], T := [⟨p.nm.toArray⟩], A := [D.a, p.va, p.na, p.fa, fr.a, to.a, bX, bY], M := [m] } d) U) := by
  rintro bX bY dX dY n vs ls U xU ⟨i, f, t, aX, cX, aY, cY, rfl, rfl, hf, ht, hfb, htb, hi, rfl, ha⟩
  refine ⟨(i : Int), f.length, cX, t.length, cY, aX, aY, ints f, ints t, rfl, by simp only [zR], fun hrow => ?_⟩
  simp only [zP]
  refine den_br (fun c1 => ?_) fun c1 => ?_
  ·simp only [zE, ltB_true] at c1
   have hil : i < p.flows.length := by omega
   have hx1 : p.flows[i]? = some p.flows[i] := List.getElem?_eq_getElem hil
   have hx0 := hfl _ (List.getElem_mem hil)
   rw [tdrop_get hil] at ha
   generalize p.flows[i] = x at hx1 ha hx0
   have hend : Vd.okFlow p.pr x = false → Vd.ways p.pr = none := fun h => by rw [ha, Vd.waysN, if_neg (by rw [h]; exact fun h => nomatch h)]
   have hgo : Vd.okFlow p.pr x = true → Vd.ways p.pr = Vd.waysN p.pr (p.flows.drop (i + 1)) (Vd.inc f x.frm.toNat) (Vd.inc t x.to.toNat) := fun h => by rw [ha, Vd.waysN, if_pos h]
   refine den_chk ?_ (den_chk ?_ (den_look ⟨x.frm, x.to, x.els, ⟨x.cond.toArray⟩, fun W3 x3 => ?_, ?_⟩))
   ·simp only [E.b, gd, Env.push]; exact SlI.some_of hp.fs (by omega)
   ·simp only [zE]; exact leB_t (by omega)
   ·have := sl_look (P := Tryz.prog) flC_len (by decide) hp.fs fl_aggT fl_sizeT hx1 (ext_trans xU x3)
    simp only [zE, Nat.add_zero] at this ⊢
    exact this
   simp only [zP]
   refine den_new fun m1 W3 _ x3 => den_wr fun W4 x4 => den_grow fun W5 x5 => ?_
   have y5 := ext_trans xU (ext_trans x3 (ext_trans x4 x5))
   simp only [zP]
   refine den_br (fun c2 => ?_) fun c2 => ?_
   ·have c2 : decide ((p.nodes.length : Int) ≤ max x.frm x.to) = true := c2
    refine den_ret fun h1 _ hr => ⟨false, aX, cX, aY, cY, f, t, rfl, h1 _ (List.mem_singleton.2 rfl), hf, ht, ?_, ?_, ?_⟩
    ·have h5 := (hr _ (List.mem_cons_of_mem _ (List.mem_singleton.2 rfl))).1
     simp only [zR, Sy.den, E.i, z_d] at h5
     exact owns_sl h5
    ·have h5 := (hr _ (List.mem_cons_self ..)).1
     simp only [zR, Sy.den, E.i, z_d] at h5
     exact owns_sl h5
    ·exact hend (by rw [Vd.okFlow, pr_len, c2]; rfl)
   ·have c2 : decide ((p.nodes.length : Int) ≤ max x.frm x.to) = false := c2
    have c2' : ¬ (p.nodes.length : Int) ≤ max x.frm x.to := of_decide_eq_false c2
    obtain ⟨k1, hk1⟩ : ∃ k : Nat, x.frm = (k : Int) := ⟨x.frm.toNat, by omega⟩
    obtain ⟨k2, hk2⟩ : ∃ k : Nat, x.to = (k : Int) := ⟨x.to.toNat, by omega⟩
    have hl1 : k1 < p.nodes.length := by omega
    have hl2 : k2 < p.nodes.length := by omega
    have hxa : p.nodes[k1]? = some p.nodes[k1] := List.getElem?_eq_getElem hl1
    have hxb : p.nodes[k2]? = some p.nodes[k2] := List.getElem?_eq_getElem hl2
    generalize p.nodes[k1] = a at hxa
    generalize p.nodes[k2] = b at hxb
    have hok : Vd.okFlow p.pr x = (!((b.n.kd == 1 || b.n.kd == 15) || b.n.kd == 13) && (!(((!(a.n.inn == b.n.inn) || Vd.link b.n 6) || a.n.kd == 2) || a.n.kd == 13) && !Vd.link a.n 5)) := by
     rw [Vd.okFlow, pr_len, c2, hk1, hk2, flow_in hxa, flow_in hxb, Bool.not_false, Bool.true_and]
    rw [hk1, hk2, Int.toNat_natCast, Int.toNat_natCast] at hgo
    rw [hk1, hk2]
    have hfk := getD_some (l := f) (i := k1) (by omega)
    have htk := getD_some (l := t) (i := k2) (by omega)
    have hf2 := hfb _ (List.mem_of_getElem? hfk)
    have ht2 := htb _ (List.mem_of_getElem? htk)
    refine den_chk ?_ (den_chk ?_ (den_chk ?_ (den_look ⟨a.n.kd, a.n.inn, a.n.on, a.n.ev, a.n.vars.length, a.vc, a.n.back.length, a.bc, a.n.brk, ⟨a.n.nm.toArray⟩, ⟨a.n.key.toArray⟩, ⟨a.n.txt.toArray⟩, ⟨a.n.set.toArray⟩, a.va, a.ba, fun W6 x6 => ?_, ?_⟩)))
    ·simp only [E.b, gd, Env.push]; exact SlI.some_of hp.ns (by omega)
    ·simp only [zE]; exact leB_t (by omega)
    ·simp only [zE]; exact ltB_t (by omega)
    ·have := sl_look (P := Tryz.prog) ndC_len (by decide) hp.ns nd_aggT nd_sizeT hxa (ext_trans y5 x6)
     simp only [zE, Nat.add_zero] at this ⊢
     exact this
    simp only [zP]
    refine den_chk ?_ (den_chk ?_ (den_look ⟨b.n.kd, b.n.inn, b.n.on, b.n.ev, b.n.vars.length, b.vc, b.n.back.length, b.bc, b.n.brk, ⟨b.n.nm.toArray⟩, ⟨b.n.key.toArray⟩, ⟨b.n.txt.toArray⟩, ⟨b.n.set.toArray⟩, b.va, b.ba, fun W6 x6 => ?_, ?_⟩))
    ·simp only [zE]; exact leB_t (by omega)
    ·simp only [zE]; exact ltB_t (by omega)
    ·have := sl_look (P := Tryz.prog) ndC_len (by decide) hp.ns nd_aggT nd_sizeT hxb (ext_trans y5 x6)
     simp only [zE, Nat.add_zero] at this ⊢
     exact this
    simp only [zP]
    refine den_both ?_ ?_
    ·refine den_grow fun W6 x6 => den_new fun m2 W7 _ x7 => den_grow fun W8 x8 => den_new fun m3 W9 _ x9 => den_grow fun W10 x10 => den_wr fun W11 x11 => den_grow fun W12 x12 => den_wr fun W13 x13 => ?_
     simp only [zP]
     refine den_br (fun c3 => ?_) fun c3 => ?_
     ·have c3 : (!((b.n.kd == 1 || b.n.kd == 15) || b.n.kd == 13)) = true := c3
      rw [c3, Bool.true_and] at hok
      refine den_call_q (v := .bool (Vd.link b.n 6)) (fun _ _ => link_q b 6 W13) ⟨Vd.link b.n 6, rfl, fun W14 x14 => ?_⟩
      simp only [zP]
      refine den_br (fun c4 => ?_) fun c4 => ?_
      ·have c4 : (!(((!(a.n.inn == b.n.inn) || Vd.link b.n 6) || a.n.kd == 2) || a.n.kd == 13)) = true := c4
       rw [c4, Bool.true_and] at hok
       refine den_call_q (v := .bool (Vd.link a.n 5)) (fun _ _ => link_q a 5 W14) ⟨Vd.link a.n 5, rfl, fun W15 x15 => ?_⟩
       simp only [zP]
       refine den_br (fun c5 => ?_) fun c5 => ?_
       ·have c5 : Vd.link a.n 5 = true := c5
        refine den_ret fun h1 _ hr => ⟨false, aX, cX, aY, cY, f, t, rfl, h1 _ (List.mem_singleton.2 rfl), hf, ht, ?_, ?_, ?_⟩
        ·have h5 := (hr _ (List.mem_cons_of_mem _ (List.mem_singleton.2 rfl))).1
         simp only [zR, Sy.den, E.i, z_d] at h5
         exact owns_sl h5
        ·have h5 := (hr _ (List.mem_cons_self ..)).1
         simp only [zR, Sy.den, E.i, z_d] at h5
         exact owns_sl h5
        ·exact hend (by rw [hok, c5]; rfl)
       ·have c5 : Vd.link a.n 5 = false := c5
        rw [c5, Bool.not_false] at hok
        refine den_chk ?_ (den_chk ?_ (den_rlook ⟨f.getD k1 0, fun w hw => ?_, den_grow fun W16 x16 => den_rset fun W17 x17 => ?_⟩))
        ·have h5 := (hrow _ (List.mem_cons_self ..)).1
         simp only [zR, Sy.den, E.i, z_d] at h5
         simp only [E.b, gd, Env.push]; exact SlI.some_of (W := U.all) (SlW.all ((owns_sl h5).mono fun _ _ => trivial)) (by omega)
        ·simp only [zE]; exact ltB_t (by omega)
        ·have h1 := hw.1
         simp only [conts, z_g, z_h, Seg.den, zE, z_c, z_d] at h1
         have := row_int h1 hfk
         simp only [zE] at this ⊢
         exact this
        simp only [zP]
        refine den_chk ?_ (den_chk ?_ (den_rlook ⟨t.getD k2 0, fun w hw => ?_, den_grow fun W18 x18 => den_rset fun W19 x19 => ?_⟩))
        ·have h5 := (hrow _ (List.mem_cons_of_mem _ (List.mem_singleton.2 rfl))).1
         simp only [zR, Sy.den, E.i, z_d] at h5
         simp only [E.b, gd, Env.push]; exact SlI.some_of (W := U.all) (SlW.all ((owns_sl h5).mono fun _ _ => trivial)) (by omega)
        ·simp only [zE]; exact ltB_t (by omega)
        ·have h1 := hw.1
         simp only [conts, z_g, z_h, Seg.den, zE, z_c, z_d] at h1
         have := row_int h1 htk
         simp only [zE] at this ⊢
         exact this
        simp only [zP]
        refine den_frz fun W20 _ x20 _ _ => den_again ⟨p.flows.length - (i + 1), by omega, i + 1, Vd.inc f k1, Vd.inc t k2, aX, cX, aY, cY, ?_, ?_, by rw [Vd.inc_len, hf], by rw [Vd.inc_len, ht], Vd.inc_in hfb, Vd.inc_in htb, by omega, rfl, hgo hok⟩
        ·simp only [zE, Vd.inc_len]; rw [w64i (by omega) (by omega)]; rfl
        ·simp only [zR, Sy.dens, Sy.den, E.i, z_d]
         rw [w64i (by omega) (by omega), w64i (by omega) (by omega), set_ints (by omega), set_ints (by omega)]
      ·have c4 : (!(((!(a.n.inn == b.n.inn) || Vd.link b.n 6) || a.n.kd == 2) || a.n.kd == 13)) = false := c4
       refine den_ret fun h1 _ hr => ⟨false, aX, cX, aY, cY, f, t, rfl, h1 _ (List.mem_singleton.2 rfl), hf, ht, ?_, ?_, ?_⟩
       ·have h5 := (hr _ (List.mem_cons_of_mem _ (List.mem_singleton.2 rfl))).1
        simp only [zR, Sy.den, E.i, z_d] at h5
        exact owns_sl h5
       ·have h5 := (hr _ (List.mem_cons_self ..)).1
        simp only [zR, Sy.den, E.i, z_d] at h5
        exact owns_sl h5
       ·exact hend (by rw [hok, c4]; rfl)
     ·have c3 : (!((b.n.kd == 1 || b.n.kd == 15) || b.n.kd == 13)) = false := c3
      refine den_ret fun h1 _ hr => ⟨false, aX, cX, aY, cY, f, t, rfl, h1 _ (List.mem_singleton.2 rfl), hf, ht, ?_, ?_, ?_⟩
      ·have h5 := (hr _ (List.mem_cons_of_mem _ (List.mem_singleton.2 rfl))).1
       simp only [zR, Sy.den, E.i, z_d] at h5
       exact owns_sl h5
      ·have h5 := (hr _ (List.mem_cons_self ..)).1
       simp only [zR, Sy.den, E.i, z_d] at h5
       exact owns_sl h5
      ·exact hend (by rw [hok, c3]; rfl)
    ·refine den_grow fun W6 x6 => den_new fun m2 W7 _ x7 => den_grow fun W8 x8 => den_new fun m3 W9 _ x9 => den_grow fun W10 x10 => den_wr fun W11 x11 => den_grow fun W12 x12 => den_wr fun W13 x13 => ?_
     simp only [zP]
     refine den_br (fun c3 => ?_) fun c3 => ?_
     ·have c3 : (!((b.n.kd == 1 || b.n.kd == 15) || b.n.kd == 13)) = true := c3
      rw [c3, Bool.true_and] at hok
      refine den_call_q (v := .bool (Vd.link b.n 6)) (fun _ _ => link_q b 6 W13) ⟨Vd.link b.n 6, rfl, fun W14 x14 => ?_⟩
      simp only [zP]
      refine den_br (fun c4 => ?_) fun c4 => ?_
      ·have c4 : (!(((!(a.n.inn == b.n.inn) || Vd.link b.n 6) || a.n.kd == 2) || a.n.kd == 13)) = true := c4
       rw [c4, Bool.true_and] at hok
       refine den_call_q (v := .bool (Vd.link a.n 5)) (fun _ _ => link_q a 5 W14) ⟨Vd.link a.n 5, rfl, fun W15 x15 => ?_⟩
       simp only [zP]
       refine den_br (fun c5 => ?_) fun c5 => ?_
       ·have c5 : Vd.link a.n 5 = true := c5
        refine den_ret fun h1 _ hr => ⟨false, aX, cX, aY, cY, f, t, rfl, h1 _ (List.mem_singleton.2 rfl), hf, ht, ?_, ?_, ?_⟩
        ·have h5 := (hr _ (List.mem_cons_of_mem _ (List.mem_singleton.2 rfl))).1
         simp only [zR, Sy.den, E.i, z_d] at h5
         exact owns_sl h5
        ·have h5 := (hr _ (List.mem_cons_self ..)).1
         simp only [zR, Sy.den, E.i, z_d] at h5
         exact owns_sl h5
        ·exact hend (by rw [hok, c5]; rfl)
       ·have c5 : Vd.link a.n 5 = false := c5
        rw [c5, Bool.not_false] at hok
        refine den_chk ?_ (den_chk ?_ (den_rlook ⟨f.getD k1 0, fun w hw => ?_, den_grow fun W16 x16 => den_rset fun W17 x17 => ?_⟩))
        ·have h5 := (hrow _ (List.mem_cons_self ..)).1
         simp only [zR, Sy.den, E.i, z_d] at h5
         simp only [E.b, gd, Env.push]; exact SlI.some_of (W := U.all) (SlW.all ((owns_sl h5).mono fun _ _ => trivial)) (by omega)
        ·simp only [zE]; exact ltB_t (by omega)
        ·have h1 := hw.1
         simp only [conts, z_g, z_h, Seg.den, zE, z_c, z_d] at h1
         have := row_int h1 hfk
         simp only [zE] at this ⊢
         exact this
        simp only [zP]
        refine den_chk ?_ (den_chk ?_ (den_rlook ⟨t.getD k2 0, fun w hw => ?_, den_grow fun W18 x18 => den_rset fun W19 x19 => ?_⟩))
        ·have h5 := (hrow _ (List.mem_cons_of_mem _ (List.mem_singleton.2 rfl))).1
         simp only [zR, Sy.den, E.i, z_d] at h5
         simp only [E.b, gd, Env.push]; exact SlI.some_of (W := U.all) (SlW.all ((owns_sl h5).mono fun _ _ => trivial)) (by omega)
        ·simp only [zE]; exact ltB_t (by omega)
        ·have h1 := hw.1
         simp only [conts, z_g, z_h, Seg.den, zE, z_c, z_d] at h1
         have := row_int h1 htk
         simp only [zE] at this ⊢
         exact this
        simp only [zP]
        refine den_frz fun W20 _ x20 _ _ => den_again ⟨p.flows.length - (i + 1), by omega, i + 1, Vd.inc f k1, Vd.inc t k2, aX, cX, aY, cY, ?_, ?_, by rw [Vd.inc_len, hf], by rw [Vd.inc_len, ht], Vd.inc_in hfb, Vd.inc_in htb, by omega, rfl, hgo hok⟩
        ·simp only [zE, Vd.inc_len]; rw [w64i (by omega) (by omega)]; rfl
        ·simp only [zR, Sy.dens, Sy.den, E.i, z_d]
         rw [w64i (by omega) (by omega), w64i (by omega) (by omega), set_ints (by omega), set_ints (by omega)]
      ·have c4 : (!(((!(a.n.inn == b.n.inn) || Vd.link b.n 6) || a.n.kd == 2) || a.n.kd == 13)) = false := c4
       refine den_ret fun h1 _ hr => ⟨false, aX, cX, aY, cY, f, t, rfl, h1 _ (List.mem_singleton.2 rfl), hf, ht, ?_, ?_, ?_⟩
       ·have h5 := (hr _ (List.mem_cons_of_mem _ (List.mem_singleton.2 rfl))).1
        simp only [zR, Sy.den, E.i, z_d] at h5
        exact owns_sl h5
       ·have h5 := (hr _ (List.mem_cons_self ..)).1
        simp only [zR, Sy.den, E.i, z_d] at h5
        exact owns_sl h5
       ·exact hend (by rw [hok, c4]; rfl)
     ·have c3 : (!((b.n.kd == 1 || b.n.kd == 15) || b.n.kd == 13)) = false := c3
      refine den_ret fun h1 _ hr => ⟨false, aX, cX, aY, cY, f, t, rfl, h1 _ (List.mem_singleton.2 rfl), hf, ht, ?_, ?_, ?_⟩
      ·have h5 := (hr _ (List.mem_cons_of_mem _ (List.mem_singleton.2 rfl))).1
       simp only [zR, Sy.den, E.i, z_d] at h5
       exact owns_sl h5
      ·have h5 := (hr _ (List.mem_cons_self ..)).1
       simp only [zR, Sy.den, E.i, z_d] at h5
       exact owns_sl h5
      ·exact hend (by rw [hok, c3]; rfl)
  ·simp only [zE, ltB_false] at c1
   rw [List.drop_eq_nil_of_le (by omega)] at ha
   refine den_ret fun h1 _ hr => ⟨true, aX, cX, aY, cY, f, t, rfl, h1 _ (List.mem_singleton.2 rfl), hf, ht, ?_, ?_, ?_⟩
   ·have h5 := (hr _ (List.mem_cons_of_mem _ (List.mem_singleton.2 rfl))).1
    simp only [zR, Sy.den, E.i, z_d] at h5
    exact owns_sl h5
   ·have h5 := (hr _ (List.mem_cons_self ..)).1
    simp only [zR, Sy.den, E.i, z_d] at h5
    exact owns_sl h5
   ·exact ha
 have l21 : ∀ (bX : Option Addr) (dX : Nat) (U : Wd), Ext V U → t_ways_21.den Tryz.prog V.w.heap.size (WaysV D p m V.w.heap.size) [] { N := [D.n, D.c, p.vars.length, p.vc, p.nodes.length, p.nc, p.flows.length, p.fc, fr.n, fr.c, to.n, to.c, dX], T := [⟨p.nm.toArray⟩], A := [D.a, p.va, p.na, p.fa, fr.a, to.a, bX], M := [m] } U := fun bX dX U xU =>
  den_chk (chk_le (by simp only [zE]; omega)) (den_grow fun W1 x1 => den_app fun a6 c6 W2 _ x2 => den_grow fun W3 x3 => den_wr fun W4 x4 => den_grow fun W5 x5 => den_wr fun W6 x6 => den_loop Inv p.flows.length (by simp only [Sy.dens, Sy.den, E.i, zR, z_d]; exact start _ _ _ _ V) fun n vs ls U x h => body _ _ _ _ n vs ls U (ext_trans (ext_trans (ext_trans xU (ext_trans x1 x2)) (ext_trans (ext_trans x3 x4) (ext_trans x5 x6))) x) h)
 have l22 : ∀ (bX : Option Addr) (dX : Nat) (U : Wd), Ext V U → t_ways_22.den Tryz.prog V.w.heap.size (WaysV D p m V.w.heap.size) [] { N := [D.n, D.c, p.vars.length, p.vc, p.nodes.length, p.nc, p.flows.length, p.fc, fr.n, fr.c, to.n, to.c, dX], T := [⟨p.nm.toArray⟩], A := [D.a, p.va, p.na, p.fa, fr.a, to.a, bX], M := [m] } U := fun bX dX U xU =>
  den_grow fun W1 x1 => den_wr fun W2 x2 => den_chk (chk_le (by simp only [zE]; omega)) (den_grow fun W3 x3 => den_app fun a6 c6 W4 _ x4 => den_grow fun W5 x5 => den_wr fun W6 x6 => den_loop Inv p.flows.length (by simp only [Sy.dens, Sy.den, E.i, zR, z_d]; exact start _ _ _ _ V) fun n vs ls U x h => body _ _ _ _ n vs ls U (ext_trans (ext_trans (ext_trans xU (ext_trans x1 x2)) (ext_trans (ext_trans x3 x4) (ext_trans x5 x6))) x) h)
 have l23 : ∀ (U : Wd), Ext V U → t_ways_23.den Tryz.prog V.w.heap.size (WaysV D p m V.w.heap.size) [] { N := [D.n, D.c, p.vars.length, p.vc, p.nodes.length, p.nc, p.flows.length, p.fc, fr.n, fr.c, to.n, to.c], T := [⟨p.nm.toArray⟩], A := [D.a, p.va, p.na, p.fa, fr.a, to.a], M := [m] } U := fun U xU =>
  den_chk (chk_le (by simp only [zE]; omega)) (den_grow fun W1 x1 => den_app fun a6 c6 W2 _ x2 => den_grow fun W3 x3 => den_both (l21 _ _ _ (ext_trans xU (ext_trans (ext_trans x1 x2) x3))) (l22 _ _ _ (ext_trans xU (ext_trans (ext_trans x1 x2) x3))))
 have l24 : ∀ (U : Wd), Ext V U → t_ways_24.den Tryz.prog V.w.heap.size (WaysV D p m V.w.heap.size) [] { N := [D.n, D.c, p.vars.length, p.vc, p.nodes.length, p.nc, p.flows.length, p.fc, fr.n, fr.c, to.n, to.c], T := [⟨p.nm.toArray⟩], A := [D.a, p.va, p.na, p.fa, fr.a, to.a], M := [m] } U := fun U xU =>
  den_chk (chk_le (by simp only [zE]; omega)) (den_grow fun W1 x1 => den_app fun a6 c6 W2 _ x2 => den_both (l21 _ _ _ (ext_trans xU (ext_trans x1 x2))) (l22 _ _ _ (ext_trans xU (ext_trans x1 x2))))
 have l25 : ∀ (U : Wd), Ext V U → t_ways_25.den Tryz.prog V.w.heap.size (WaysV D p m V.w.heap.size) [] { N := [D.n, D.c, p.vars.length, p.vc, p.nodes.length, p.nc, p.flows.length, p.fc, fr.n, fr.c, to.n, to.c], T := [⟨p.nm.toArray⟩], A := [D.a, p.va, p.na, p.fa, fr.a, to.a], M := [m] } U := fun U xU =>
  den_chk (chk_le (by simp only [zE]; omega)) (den_grow fun W1 x1 => den_app fun a6 c6 W2 _ x2 => den_chk (chk_le (by simp only [zE]; omega)) (den_grow fun W3 x3 => den_app fun a7 c7 W4 _ x4 => den_grow fun W5 x5 => den_wr fun W6 x6 => den_grow fun W7 x7 => den_wr fun W8 x8 => den_loop Inv p.flows.length (by simp only [Sy.dens, Sy.den, E.i, zR, z_d]; exact start _ _ _ _ V) fun n vs ls U x h => body _ _ _ _ n vs ls U (ext_trans (ext_trans (ext_trans xU (ext_trans x1 x2)) (ext_trans (ext_trans x3 x4) (ext_trans (ext_trans x5 x6) (ext_trans x7 x8)))) x) h))
 have l26 : ∀ (U : Wd), Ext V U → t_ways_26.den Tryz.prog V.w.heap.size (WaysV D p m V.w.heap.size) [] { N := [D.n, D.c, p.vars.length, p.vc, p.nodes.length, p.nc, p.flows.length, p.fc, fr.n, fr.c, to.n, to.c], T := [⟨p.nm.toArray⟩], A := [D.a, p.va, p.na, p.fa, fr.a, to.a], M := [m] } U := fun U xU =>
  den_chk (chk_le (by simp only [zE]; omega)) (den_grow fun W1 x1 => den_app fun a6 c6 W2 _ x2 => den_grow fun W2b x2b => den_chk (chk_le (by simp only [zE]; omega)) (den_grow fun W3 x3 => den_app fun a7 c7 W4 _ x4 => den_grow fun W5 x5 => den_wr fun W6 x6 => den_grow fun W7 x7 => den_wr fun W8 x8 => den_loop Inv p.flows.length (by simp only [Sy.dens, Sy.den, E.i, zR, z_d]; exact start _ _ _ _ V) fun n vs ls U x h => body _ _ _ _ n vs ls U (ext_trans (ext_trans (ext_trans (ext_trans xU (ext_trans x1 x2)) x2b) (ext_trans (ext_trans x3 x4) (ext_trans (ext_trans x5 x6) (ext_trans x7 x8)))) x) h))
 exact den_both (den_grow fun W1 x1 => den_both (l23 _ x1) (den_grow fun W2 x2 => den_both (l24 _ (ext_trans x1 x2)) (l25 _ (ext_trans x1 x2)))) (den_grow fun W1 x1 => den_both (den_grow fun W2 x2 => den_both (l24 _ (ext_trans x1 x2)) (l25 _ (ext_trans x1 x2))) (l26 _ x1))
end Go.Proofs.YtkpjmlnhhggenaaGreatDoor
end
section
/- The walks of package valid: gates. -/
namespace Vd
open Go Md
def okGate (p : Pr) (fr to : List Int) (x : Fl) : Bool :=
 ((((nd p x.frm.toNat).kd == 7 || (nd p x.frm.toNat).kd == 9) && decide (1 < fr.getD x.frm.toNat 0)) == (x.els || !(x.cond == []))) &&
  (!((nd p x.frm.toNat).kd == 10) || ((nd p x.to.toNat).kd == 6 && to.getD x.to.toNat 0 == 1))
def gatesN (p : Pr) (fr to : List Int) : List Fl → List Int → Option (List Int)
 | [], e => some e
 | x :: l, e => if okGate p fr to x then gatesN p fr to l (if x.els then inc e x.frm.toNat else e) else none
def gateOk (fr e : List Int) (i : Nat) (n : Nd) : Bool := !(decide (1 < e.getD i 0) || (n.kd == 10 && decide (fr.getD i 0 < 2)))
def gatesE (p : Pr) (fr : List Int) : Option (List Int) → Bool
 | none => false
 | some e => allAt (gateOk fr e) 0 p.nodes
def gates (p : Pr) (fr to : List Int) : Bool := gatesE p fr (gatesN p fr to p.flows (List.replicate p.nodes.length 0))
end Vd
namespace Go.Proofs.YtkpjmlnhhggenaaGreatDoor
open Go Go.RowKit Go.SF
set_option maxRecDepth 100000 in
theorem gates_q (D : Sl3) (p : PV) (fr to : List Int) (fa ta : Option Addr) (fc tc : Nat) (m : Nat) (W : Wd) (hp : FitP p W) (hfl : fr.length = p.nodes.length) (htl : to.length = p.nodes.length)
  (hF : SlI W fa fr.length fc 1 (ints fr)) (hT : SlI W ta to.length tc 1 (ints to)) (hin : ∀ x ∈ p.flows, (0 ≤ x.frm ∧ x.frm < p.nodes.length) ∧ 0 ≤ x.to ∧ x.to < p.nodes.length)
  (hI : ¬ W.I m) (hm : W.w.heap[m]? = some (.cells (chkC D p ⟨fa, fr.length, fc⟩ ⟨ta, to.length, tc⟩).toArray ChT)) :
  CallsQ Tryz.prog 32 #[.pointer (some ⟨m, 0, none⟩)] W (.bool (Vd.gates p.pr fr to)) := by
 refine chk_q hI hm fun V hVw hx hVI => ?_
 rw [← hVw] at hm
 have hp := hp.ext hx
 have hln := hp.ln
 have hlf := hp.lf
 have hF := hF.ext hx
 have hT := hT.ext hx
 refine vc_gates D.n D.c p.vars.length p.vc p.nodes.length p.nc p.flows.length p.fc fr.length fc to.length tc ⟨p.nm.toArray⟩ D.a p.va p.na p.fa fa ta m V _ hm hVI ?_
 refine den_chk (chk_le (by simp only [zE]; omega)) (den_app fun aZ cZ W1 _ x1 => ?_)
 simp only [zP]
 refine den_loop (fun j vs ls _ => ∃ (i : Nat) (e : List Int) (aX : Option Addr) (cX : Nat), vs = [.int .i64 (i : Nat), .slice aX e.length cX] ∧ ls = [ints e] ∧ e.length = p.nodes.length ∧ (∀ x ∈ e, 0 ≤ x ∧ x ≤ (i : Int)) ∧ i ≤ p.flows.length ∧ j = p.flows.length - i ∧
  Vd.gates p.pr fr to = Vd.gatesE p.pr fr (Vd.gatesN p.pr fr to (p.flows.drop i) e)) p.flows.length ⟨0, List.replicate p.nodes.length 0, aZ, cZ, ?_, ?_, List.length_replicate, fun x hx => by rw [List.eq_of_mem_replicate hx]; exact ⟨Int.le_refl _, Int.le_refl _⟩, Nat.zero_le _, rfl, by rw [Vd.gates, pr_len]; rfl⟩ ?_
 ·simp only [Sy.dens, Sy.den, E.i, gd, z_d, List.length_replicate]; rfl
 ·simp only [Sy.dens, Sy.den, E.i, zR, z_d, ints_rep]
 rintro n vs ls U xU ⟨i, e, aX, cX, rfl, rfl, he, heb, hi, rfl, ha⟩
 have yU := ext_trans x1 xU
 refine ⟨(i : Int), e.length, cX, aX, ints e, rfl, by simp only [zR], fun hrow => ?_⟩
 simp only [zP]
 have hsome : 0 < p.nodes.length → aX.isSome = true := fun h => by
  have h5 := (hrow _ (List.mem_cons_self ..)).1
  simp only [zR, Sy.den, E.i, z_d] at h5
  exact SlI.some_of (W := U.all) (SlW.all ((owns_sl h5).mono fun _ _ => trivial)) (by omega)
 refine den_br (fun c1 => ?_) fun c1 => ?_
 ·simp only [zE, ltB_true] at c1
  have hil : i < p.flows.length := by omega
  have hx1 : p.flows[i]? = some p.flows[i] := List.getElem?_eq_getElem hil
  have hx0 := hin _ (List.getElem_mem hil)
  rw [tdrop_get hil] at ha
  generalize p.flows[i] = x at hx1 ha hx0
  refine den_chk ?_ (den_chk ?_ (den_look ⟨x.frm, x.to, x.els, ⟨x.cond.toArray⟩, fun W3 x3 => ?_, ?_⟩))
  ·simp only [E.b, gd, Env.push]; exact SlI.some_of hp.fs (by omega)
  ·simp only [zE]; exact leB_t (by omega)
  ·have := sl_look (P := Tryz.prog) flC_len (by decide) hp.fs fl_aggT fl_sizeT hx1 (ext_trans yU x3)
   simp only [zE, Nat.add_zero] at this ⊢
   exact this
  simp only [zP]
  obtain ⟨k1, hk1⟩ : ∃ k : Nat, x.frm = (k : Int) := ⟨x.frm.toNat, by omega⟩
  obtain ⟨k2, hk2⟩ : ∃ k : Nat, x.to = (k : Int) := ⟨x.to.toNat, by omega⟩
  have hl1 : k1 < p.nodes.length := by omega
  have hl2 : k2 < p.nodes.length := by omega
  have hxa : p.nodes[k1]? = some p.nodes[k1] := List.getElem?_eq_getElem hl1
  have hxb : p.nodes[k2]? = some p.nodes[k2] := List.getElem?_eq_getElem hl2
  generalize p.nodes[k1] = a at hxa
  generalize p.nodes[k2] = b at hxb
  have hok : Vd.okGate p.pr fr to x = ((((a.n.kd == 7 || a.n.kd == 9) && decide (1 < fr.getD k1 0)) == (x.els || !(x.cond == []))) && (!(a.n.kd == 10) || (b.n.kd == 6 && to.getD k2 0 == 1))) := by
   rw [Vd.okGate, hk1, hk2, flow_in hxa, flow_in hxb, Int.toNat_natCast, Int.toNat_natCast]
  have hend : Vd.okGate p.pr fr to x = false → Vd.gates p.pr fr to = false := fun h => by rw [ha, Vd.gatesN, if_neg (by rw [h]; exact fun h => nomatch h)]; rfl
  have hgo : Vd.okGate p.pr fr to x = true → Vd.gates p.pr fr to = Vd.gatesE p.pr fr (Vd.gatesN p.pr fr to (p.flows.drop (i + 1)) (if x.els then Vd.inc e k1 else e)) := fun h => by rw [ha, Vd.gatesN, if_pos h, hk1, Int.toNat_natCast]
  rw [hk1, hk2]
  have hek := getD_some (l := e) (i := k1) (by omega)
  have hfk := getD_some (l := fr) (i := k1) (by omega)
  have htk := getD_some (l := to) (i := k2) (by omega)
  have he2 := heb _ (List.mem_of_getElem? hek)
  refine den_new fun m1 W3 _ x3 => den_wr fun W4 x4 => den_chk ?_ (den_chk ?_ (den_chk ?_ (den_look ⟨a.n.kd, a.n.inn, a.n.on, a.n.ev, a.n.vars.length, a.vc, a.n.back.length, a.bc, a.n.brk, ⟨a.n.nm.toArray⟩, ⟨a.n.key.toArray⟩, ⟨a.n.txt.toArray⟩, ⟨a.n.set.toArray⟩, a.va, a.ba, fun W6 x6 => ?_, ?_⟩)))
  ·simp only [E.b, gd, Env.push]; exact SlI.some_of hp.ns (by omega)
  ·simp only [zE]; exact leB_t (by omega)
  ·simp only [zE]; exact ltB_t (by omega)
  ·have := sl_look (P := Tryz.prog) ndC_len (by decide) hp.ns nd_aggT nd_sizeT hxa (ext_trans yU (ext_trans x3 (ext_trans x4 x6)))
   simp only [zE, Nat.add_zero] at this ⊢
   exact this
  simp only [zP]
  refine den_grow fun W5 x5 => den_new fun m2 W6 _ x6 => den_grow fun W7 x7 => den_wr fun W8 x8 => ?_
  have y8 := ext_trans (ext_trans yU (ext_trans x3 x4)) (ext_trans (ext_trans x5 x6) (ext_trans x7 x8))
  simp only [zP]
  refine den_chk ?_ (den_chk ?_ (den_br (fun c2 => ?_) fun c2 => ?_))
  ·simp only [E.b, gd, Env.push]; rw [SlI.some_of hF (by omega), Bool.or_true]
  ·simp only [zE]; rw [ltB_t (by omega : (k1 : Int) < (fr.length : Int)), Bool.or_true]
  ·have c2 : (a.n.kd == 7 || a.n.kd == 9) = true := c2
   rw [c2, Bool.true_and] at hok
   refine den_look ⟨fr.getD k1 0, fun W20 x20 => ?_, ?_⟩
   ·have := sl_look_f (P := Tryz.prog) (f := fun x => [Value.int .i64 x]) (sz := 1) (fun _ => rfl) hF i64_aggT (k := 0) hfk (by decide) (u := .int .i64 (fr.getD k1 0)) rfl (ext_trans y8 x20)
    simp only [zE] at this ⊢
    exact this
   simp only [zP]
   refine den_grow fun W9 x9 => den_br (fun c3 => den_ret fun h1 _ _ => ⟨?_, h1 _ (List.mem_singleton.2 rfl)⟩) fun c3 => ?_
   ·have c3 : (!(decide (1 < fr.getD k1 0) == (x.els || !(x.cond == [])))) = true := c3
    have c3 : (decide (1 < fr.getD k1 0) == (x.els || !(x.cond == []))) = false := by rwa [Bool.not_eq_true'] at c3
    rw [hend (by rw [hok, c3, Bool.false_and])]; rfl
   ·have c3 : (!(decide (1 < fr.getD k1 0) == (x.els || !(x.cond == [])))) = false := c3
    have c3 : (decide (1 < fr.getD k1 0) == (x.els || !(x.cond == []))) = true := by rwa [Bool.not_eq_false'] at c3
    rw [c3, Bool.true_and] at hok
    have y9 := ext_trans y8 x9
    refine den_br (fun c4 => ?_) fun c4 => ?_
    ·have h_els : x.els = true := c4
     refine den_chk ?_ (den_chk ?_ (den_rlook ⟨e.getD k1 0, fun w hw => ?_, den_rset fun W10 x10 => ?_⟩))
     ·simp only [E.b, gd, Env.push]; exact hsome (by omega)
     ·simp only [zE]; exact ltB_t (by omega)
     ·have h1 := hw.1
      simp only [conts, z_g, z_h, Seg.den, zE, z_c, z_d] at h1
      have := row_int h1 hek
      simp only [zE] at this ⊢
      exact this
     simp only [zP]
     have y10 := ext_trans y9 x10
     refine den_chk (by simp only [zE]; rw [leB_t (by omega : (0 : Int) ≤ (k2 : Int)), Bool.or_true]) (den_chk (by simp only [zE]; rw [ltB_t (by omega : (k2 : Int) < (p.nodes.length : Int)), Bool.or_true]) (den_br (fun d1 => ?_) fun d1 => ?_))
     ·have d1 : (a.n.kd == 10) = true := d1
      rw [d1, Bool.not_true, Bool.false_or] at hok
      refine den_look ⟨b.n.kd, fun W20 x20 => ?_, ?_⟩
      ·have := sl_look_f (P := Tryz.prog) ndC_len hp.ns k8_aggT (k := 1) hxb (by decide) (u := .int .u8 b.n.kd) rfl (ext_trans y10 x20)
       simp only [zE] at this ⊢
       exact this
      simp only [zP]
      refine den_chk (by simp only [E.b, gd, Env.push]; rw [SlI.some_of hT (by omega), Bool.or_true]) (den_chk (by simp only [zE]; rw [ltB_t (by omega : (k2 : Int) < (to.length : Int)), Bool.or_true]) (den_br (fun d2 => ?_) fun d2 => ?_))
      ·have d2 : (b.n.kd == 6) = true := d2
       rw [d2, Bool.true_and] at hok
       refine den_look ⟨to.getD k2 0, fun W20 x20 => ?_, ?_⟩
       ·have := sl_look_f (P := Tryz.prog) (f := fun x => [Value.int .i64 x]) (sz := 1) (fun _ => rfl) hT i64_aggT (k := 0) htk (by decide) (u := .int .i64 (to.getD k2 0)) rfl (ext_trans y10 x20)
        simp only [zE] at this ⊢
        exact this
       simp only [zP]
       refine den_grow fun W21 x21 => den_br (fun d3 => den_ret fun h1 _ _ => ⟨?_, h1 _ (List.mem_singleton.2 rfl)⟩) fun d3 => ?_
       ·have d3 : (!(to.getD k2 0 == 1)) = true := d3
        rw [hend (by rw [hok]; simpa using d3)]; rfl
       ·have d3 : (!(to.getD k2 0 == 1)) = false := d3
        have hok2 : Vd.okGate p.pr fr to x = true := by rw [hok]; simpa using d3
        refine den_frz fun W40 _ x40 _ _ => den_again ⟨p.flows.length - (i + 1), by omega, i + 1, Vd.inc e k1, aX, cX, ?_, ?_, by rw [Vd.inc_len, he], Vd.inc_in heb, by omega, rfl, ?_⟩
        ·simp only [zE, Vd.inc_len]; rw [w64i (by omega) (by omega)]; rfl
        ·simp only [zR, Sy.dens, Sy.den, E.i, z_d]
         rw [w64i (by omega) (by omega), set_ints (by omega)]
        ·rw [hgo hok2, if_pos h_els]
      ·have d2 : (b.n.kd == 6) = false := d2
       rw [d2, Bool.false_and] at hok
       refine den_grow fun W30 x30 => den_ret fun h1 _ _ => ⟨?_, h1 _ (List.mem_singleton.2 rfl)⟩
       rw [hend (hok)]; rfl
     ·have d1 : (a.n.kd == 10) = false := d1
      rw [d1, Bool.not_false, Bool.true_or] at hok
      have hok2 := hok
      refine den_grow fun W30 x30 => ?_
      refine den_frz fun W40 _ x40 _ _ => den_again ⟨p.flows.length - (i + 1), by omega, i + 1, Vd.inc e k1, aX, cX, ?_, ?_, by rw [Vd.inc_len, he], Vd.inc_in heb, by omega, rfl, ?_⟩
      ·simp only [zE, Vd.inc_len]; rw [w64i (by omega) (by omega)]; rfl
      ·simp only [zR, Sy.dens, Sy.den, E.i, z_d]
       rw [w64i (by omega) (by omega), set_ints (by omega)]
      ·rw [hgo hok2, if_pos h_els]
    ·have h_els : x.els = false := c4
     refine den_chk (by simp only [zE]; rw [leB_t (by omega : (0 : Int) ≤ (k2 : Int)), Bool.or_true]) (den_chk (by simp only [zE]; rw [ltB_t (by omega : (k2 : Int) < (p.nodes.length : Int)), Bool.or_true]) (den_br (fun d1 => ?_) fun d1 => ?_))
     ·have d1 : (a.n.kd == 10) = true := d1
      rw [d1, Bool.not_true, Bool.false_or] at hok
      refine den_look ⟨b.n.kd, fun W20 x20 => ?_, ?_⟩
      ·have := sl_look_f (P := Tryz.prog) ndC_len hp.ns k8_aggT (k := 1) hxb (by decide) (u := .int .u8 b.n.kd) rfl (ext_trans y9 x20)
       simp only [zE] at this ⊢
       exact this
      simp only [zP]
      refine den_chk (by simp only [E.b, gd, Env.push]; rw [SlI.some_of hT (by omega), Bool.or_true]) (den_chk (by simp only [zE]; rw [ltB_t (by omega : (k2 : Int) < (to.length : Int)), Bool.or_true]) (den_br (fun d2 => ?_) fun d2 => ?_))
      ·have d2 : (b.n.kd == 6) = true := d2
       rw [d2, Bool.true_and] at hok
       refine den_look ⟨to.getD k2 0, fun W20 x20 => ?_, ?_⟩
       ·have := sl_look_f (P := Tryz.prog) (f := fun x => [Value.int .i64 x]) (sz := 1) (fun _ => rfl) hT i64_aggT (k := 0) htk (by decide) (u := .int .i64 (to.getD k2 0)) rfl (ext_trans y9 x20)
        simp only [zE] at this ⊢
        exact this
       simp only [zP]
       refine den_grow fun W21 x21 => den_br (fun d3 => den_ret fun h1 _ _ => ⟨?_, h1 _ (List.mem_singleton.2 rfl)⟩) fun d3 => ?_
       ·have d3 : (!(to.getD k2 0 == 1)) = true := d3
        rw [hend (by rw [hok]; simpa using d3)]; rfl
       ·have d3 : (!(to.getD k2 0 == 1)) = false := d3
        have hok2 : Vd.okGate p.pr fr to x = true := by rw [hok]; simpa using d3
        refine den_frz fun W40 _ x40 _ _ => den_again ⟨p.flows.length - (i + 1), by omega, i + 1, e, aX, cX, ?_, ?_, he, fun x hx => ⟨(heb x hx).1, by have := (heb x hx).2; omega⟩, by omega, rfl, ?_⟩
        ·simp only [zE]; rw [w64i (by omega) (by omega)]; rfl
        ·simp only [zR]
        ·rw [hgo hok2, if_neg (by rw [h_els]; exact fun h => nomatch h)]
      ·have d2 : (b.n.kd == 6) = false := d2
       rw [d2, Bool.false_and] at hok
       refine den_grow fun W30 x30 => den_ret fun h1 _ _ => ⟨?_, h1 _ (List.mem_singleton.2 rfl)⟩
       rw [hend (hok)]; rfl
     ·have d1 : (a.n.kd == 10) = false := d1
      rw [d1, Bool.not_false, Bool.true_or] at hok
      have hok2 := hok
      refine den_grow fun W30 x30 => ?_
      refine den_frz fun W40 _ x40 _ _ => den_again ⟨p.flows.length - (i + 1), by omega, i + 1, e, aX, cX, ?_, ?_, he, fun x hx => ⟨(heb x hx).1, by have := (heb x hx).2; omega⟩, by omega, rfl, ?_⟩
      ·simp only [zE]; rw [w64i (by omega) (by omega)]; rfl
      ·simp only [zR]
      ·rw [hgo hok2, if_neg (by rw [h_els]; exact fun h => nomatch h)]
  ·have c2 : (a.n.kd == 7 || a.n.kd == 9) = false := c2
   rw [c2, Bool.false_and] at hok
   refine den_grow fun W9 x9 => den_br (fun c3 => den_ret fun h1 _ _ => ⟨?_, h1 _ (List.mem_singleton.2 rfl)⟩) fun c3 => ?_
   ·have c3 : (!(false == (x.els || !(x.cond == [])))) = true := c3
    have c3 : (false == (x.els || !(x.cond == []))) = false := by rwa [Bool.not_eq_true'] at c3
    rw [hend (by rw [hok, c3, Bool.false_and])]; rfl
   ·have c3 : (!(false == (x.els || !(x.cond == [])))) = false := c3
    have c3 : (false == (x.els || !(x.cond == []))) = true := by rwa [Bool.not_eq_false'] at c3
    rw [c3, Bool.true_and] at hok
    have y9 := ext_trans y8 x9
    refine den_br (fun c4 => ?_) fun c4 => ?_
    ·have h_els : x.els = true := c4
     refine den_chk ?_ (den_chk ?_ (den_rlook ⟨e.getD k1 0, fun w hw => ?_, den_rset fun W10 x10 => ?_⟩))
     ·simp only [E.b, gd, Env.push]; exact hsome (by omega)
     ·simp only [zE]; exact ltB_t (by omega)
     ·have h1 := hw.1
      simp only [conts, z_g, z_h, Seg.den, zE, z_c, z_d] at h1
      have := row_int h1 hek
      simp only [zE] at this ⊢
      exact this
     simp only [zP]
     have y10 := ext_trans y9 x10
     refine den_chk (by simp only [zE]; rw [leB_t (by omega : (0 : Int) ≤ (k2 : Int)), Bool.or_true]) (den_chk (by simp only [zE]; rw [ltB_t (by omega : (k2 : Int) < (p.nodes.length : Int)), Bool.or_true]) (den_br (fun d1 => ?_) fun d1 => ?_))
     ·have d1 : (a.n.kd == 10) = true := d1
      rw [d1, Bool.not_true, Bool.false_or] at hok
      refine den_look ⟨b.n.kd, fun W20 x20 => ?_, ?_⟩
      ·have := sl_look_f (P := Tryz.prog) ndC_len hp.ns k8_aggT (k := 1) hxb (by decide) (u := .int .u8 b.n.kd) rfl (ext_trans y10 x20)
       simp only [zE] at this ⊢
       exact this
      simp only [zP]
      refine den_chk (by simp only [E.b, gd, Env.push]; rw [SlI.some_of hT (by omega), Bool.or_true]) (den_chk (by simp only [zE]; rw [ltB_t (by omega : (k2 : Int) < (to.length : Int)), Bool.or_true]) (den_br (fun d2 => ?_) fun d2 => ?_))
      ·have d2 : (b.n.kd == 6) = true := d2
       rw [d2, Bool.true_and] at hok
       refine den_look ⟨to.getD k2 0, fun W20 x20 => ?_, ?_⟩
       ·have := sl_look_f (P := Tryz.prog) (f := fun x => [Value.int .i64 x]) (sz := 1) (fun _ => rfl) hT i64_aggT (k := 0) htk (by decide) (u := .int .i64 (to.getD k2 0)) rfl (ext_trans y10 x20)
        simp only [zE] at this ⊢
        exact this
       simp only [zP]
       refine den_grow fun W21 x21 => den_br (fun d3 => den_ret fun h1 _ _ => ⟨?_, h1 _ (List.mem_singleton.2 rfl)⟩) fun d3 => ?_
       ·have d3 : (!(to.getD k2 0 == 1)) = true := d3
        rw [hend (by rw [hok]; simpa using d3)]; rfl
       ·have d3 : (!(to.getD k2 0 == 1)) = false := d3
        have hok2 : Vd.okGate p.pr fr to x = true := by rw [hok]; simpa using d3
        refine den_frz fun W40 _ x40 _ _ => den_again ⟨p.flows.length - (i + 1), by omega, i + 1, Vd.inc e k1, aX, cX, ?_, ?_, by rw [Vd.inc_len, he], Vd.inc_in heb, by omega, rfl, ?_⟩
        ·simp only [zE, Vd.inc_len]; rw [w64i (by omega) (by omega)]; rfl
        ·simp only [zR, Sy.dens, Sy.den, E.i, z_d]
         rw [w64i (by omega) (by omega), set_ints (by omega)]
        ·rw [hgo hok2, if_pos h_els]
      ·have d2 : (b.n.kd == 6) = false := d2
       rw [d2, Bool.false_and] at hok
       refine den_grow fun W30 x30 => den_ret fun h1 _ _ => ⟨?_, h1 _ (List.mem_singleton.2 rfl)⟩
       rw [hend (hok)]; rfl
     ·have d1 : (a.n.kd == 10) = false := d1
      rw [d1, Bool.not_false, Bool.true_or] at hok
      have hok2 := hok
      refine den_grow fun W30 x30 => ?_
      refine den_frz fun W40 _ x40 _ _ => den_again ⟨p.flows.length - (i + 1), by omega, i + 1, Vd.inc e k1, aX, cX, ?_, ?_, by rw [Vd.inc_len, he], Vd.inc_in heb, by omega, rfl, ?_⟩
      ·simp only [zE, Vd.inc_len]; rw [w64i (by omega) (by omega)]; rfl
      ·simp only [zR, Sy.dens, Sy.den, E.i, z_d]
       rw [w64i (by omega) (by omega), set_ints (by omega)]
      ·rw [hgo hok2, if_pos h_els]
    ·have h_els : x.els = false := c4
     refine den_chk (by simp only [zE]; rw [leB_t (by omega : (0 : Int) ≤ (k2 : Int)), Bool.or_true]) (den_chk (by simp only [zE]; rw [ltB_t (by omega : (k2 : Int) < (p.nodes.length : Int)), Bool.or_true]) (den_br (fun d1 => ?_) fun d1 => ?_))
     ·have d1 : (a.n.kd == 10) = true := d1
      rw [d1, Bool.not_true, Bool.false_or] at hok
      refine den_look ⟨b.n.kd, fun W20 x20 => ?_, ?_⟩
      ·have := sl_look_f (P := Tryz.prog) ndC_len hp.ns k8_aggT (k := 1) hxb (by decide) (u := .int .u8 b.n.kd) rfl (ext_trans y9 x20)
       simp only [zE] at this ⊢
       exact this
      simp only [zP]
      refine den_chk (by simp only [E.b, gd, Env.push]; rw [SlI.some_of hT (by omega), Bool.or_true]) (den_chk (by simp only [zE]; rw [ltB_t (by omega : (k2 : Int) < (to.length : Int)), Bool.or_true]) (den_br (fun d2 => ?_) fun d2 => ?_))
      ·have d2 : (b.n.kd == 6) = true := d2
       rw [d2, Bool.true_and] at hok
       refine den_look ⟨to.getD k2 0, fun W20 x20 => ?_, ?_⟩
       ·have := sl_look_f (P := Tryz.prog) (f := fun x => [Value.int .i64 x]) (sz := 1) (fun _ => rfl) hT i64_aggT (k := 0) htk (by decide) (u := .int .i64 (to.getD k2 0)) rfl (ext_trans y9 x20)
        simp only [zE] at this ⊢
        exact this
       simp only [zP]
       refine den_grow fun W21 x21 => den_br (fun d3 => den_ret fun h1 _ _ => ⟨?_, h1 _ (List.mem_singleton.2 rfl)⟩) fun d3 => ?_
       ·have d3 : (!(to.getD k2 0 == 1)) = true := d3
        rw [hend (by rw [hok]; simpa using d3)]; rfl
       ·have d3 : (!(to.getD k2 0 == 1)) = false := d3
        have hok2 : Vd.okGate p.pr fr to x = true := by rw [hok]; simpa using d3
        refine den_frz fun W40 _ x40 _ _ => den_again ⟨p.flows.length - (i + 1), by omega, i + 1, e, aX, cX, ?_, ?_, he, fun x hx => ⟨(heb x hx).1, by have := (heb x hx).2; omega⟩, by omega, rfl, ?_⟩
        ·simp only [zE]; rw [w64i (by omega) (by omega)]; rfl
        ·simp only [zR]
        ·rw [hgo hok2, if_neg (by rw [h_els]; exact fun h => nomatch h)]
      ·have d2 : (b.n.kd == 6) = false := d2
       rw [d2, Bool.false_and] at hok
       refine den_grow fun W30 x30 => den_ret fun h1 _ _ => ⟨?_, h1 _ (List.mem_singleton.2 rfl)⟩
       rw [hend (hok)]; rfl
     ·have d1 : (a.n.kd == 10) = false := d1
      rw [d1, Bool.not_false, Bool.true_or] at hok
      have hok2 := hok
      refine den_grow fun W30 x30 => ?_
      refine den_frz fun W40 _ x40 _ _ => den_again ⟨p.flows.length - (i + 1), by omega, i + 1, e, aX, cX, ?_, ?_, he, fun x hx => ⟨(heb x hx).1, by have := (heb x hx).2; omega⟩, by omega, rfl, ?_⟩
      ·simp only [zE]; rw [w64i (by omega) (by omega)]; rfl
      ·simp only [zR]
      ·rw [hgo hok2, if_neg (by rw [h_els]; exact fun h => nomatch h)]
 ·simp only [zE, ltB_false] at c1
  rw [List.drop_eq_nil_of_le (by omega)] at ha
  have ha : Vd.gates p.pr fr to = Vd.allAt (Vd.gateOk fr e) 0 p.pr.nodes := ha
  refine den_loop (fun j vs ls _ => ∃ k : Nat, vs = [.int .i64 (k : Nat)] ∧ ls = [] ∧ k ≤ p.nodes.length ∧ j = p.nodes.length - k ∧ Vd.gates p.pr fr to = Vd.allAt (Vd.gateOk fr e) k (p.pr.nodes.drop k)) p.nodes.length ⟨0, by simp [Sy.dens, Sy.den, E.i, E.b, E.t, gd, Env.push, z_a, z_b, z_c, z_d], rfl, Nat.zero_le _, rfl, ha⟩ ?_
  clear ha
  rintro j vs ls' W2 x2 ⟨k, rfl, rfl, hk, rfl, ha⟩
  have y2 := ext_trans yU x2
  refine ⟨(k : Int), rfl, rfl, fun _ => den_br (fun d1 => ?_) fun d1 => den_ret fun h1 _ _ => ⟨?_, h1 _ (List.mem_singleton.2 rfl)⟩⟩
  ·simp only [zE, ltB_true] at d1
   have hkl : k < p.nodes.length := by omega
   have hx1 : p.nodes[k]? = some p.nodes[k] := List.getElem?_eq_getElem hkl
   have hpl : k < p.pr.nodes.length := by rw [pr_len]; exact hkl
   rw [allAt_drop hpl, pr_get hx1 hpl] at ha
   generalize p.nodes[k] = v at hx1 ha
   have hek := getD_some (l := e) (i := k) (by omega)
   have hfk := getD_some (l := fr) (i := k) (by omega)
   have hend : Vd.gateOk fr e k v.n = false → Vd.gates p.pr fr to = false := fun h => by rw [ha, h, Bool.false_and]
   have hgo : Vd.gateOk fr e k v.n = true → Vd.gates p.pr fr to = Vd.allAt (Vd.gateOk fr e) (k + 1) (p.pr.nodes.drop (k + 1)) := fun h => by rw [ha, h, Bool.true_and]
   have hN : Vd.gateOk fr e k v.n = !(decide (1 < e.getD k 0) || (v.n.kd == 10 && decide (fr.getD k 0 < 2))) := rfl
   refine den_chk ?_ (den_chk ?_ (den_look ⟨v.n.kd, v.n.inn, v.n.on, v.n.ev, v.n.vars.length, v.vc, v.n.back.length, v.bc, v.n.brk, ⟨v.n.nm.toArray⟩, ⟨v.n.key.toArray⟩, ⟨v.n.txt.toArray⟩, ⟨v.n.set.toArray⟩, v.va, v.ba, fun W3 x3 => ?_, ?_⟩))
   ·simp only [E.b, gd, Env.push]; exact SlI.some_of hp.ns (by omega)
   ·simp only [zE]; exact leB_t (by omega)
   ·have := sl_look (P := Tryz.prog) ndC_len (by decide) hp.ns nd_aggT nd_sizeT hx1 (ext_trans y2 x3)
    simp only [zE, Nat.add_zero] at this ⊢
    exact this
   simp only [zP]
   refine den_new fun m1 W3 _ x3 => den_wr fun W4 x4 => den_chk ?_ (den_chk ?_ (den_rlook ⟨e.getD k 0, fun w hw => ?_, ?_⟩))
   ·simp only [E.b, gd, Env.push]; exact hsome (by omega)
   ·simp only [zE]; exact ltB_t (by omega)
   ·have h1 := hw.1
    simp only [conts, z_g, z_h, Seg.den, zE, z_c, z_d] at h1
    have := row_int h1 hek
    simp only [zE] at this ⊢
    exact this
   simp only [zP]
   have y4 := ext_trans y2 (ext_trans x3 x4)
   refine den_chk (by simp only [E.b, gd, Env.push]; rw [SlI.some_of hF (by omega), Bool.or_true]) (den_chk (by simp only [zE]; rw [ltB_t (by omega : (k : Int) < (fr.length : Int)), Bool.or_true]) (den_br (fun d2 => ?_) fun d2 => ?_))
   ·have d2 : (!decide (1 < e.getD k 0) && v.n.kd == 10) = true := d2
    simp only [Bool.and_eq_true, Bool.not_eq_true'] at d2
    rw [d2.1, d2.2, Bool.false_or, Bool.true_and] at hN
    refine den_look ⟨fr.getD k 0, fun W20 x20 => ?_, ?_⟩
    ·have := sl_look_f (P := Tryz.prog) (f := fun x => [Value.int .i64 x]) (sz := 1) (fun _ => rfl) hF i64_aggT (k := 0) hfk (by decide) (u := .int .i64 (fr.getD k 0)) rfl (ext_trans y4 x20)
     simp only [zE] at this ⊢
     exact this
    simp only [zP]
    refine den_br (fun d3 => den_ret fun h1 _ _ => ⟨?_, h1 _ (List.mem_singleton.2 rfl)⟩) fun d3 => den_frz fun W8 _ x8 _ _ => den_again ⟨p.nodes.length - (k + 1), by omega, k + 1, ?_, rfl, by omega, rfl, ?_⟩
    ·have d3 : decide (fr.getD k 0 < 2) = true := d3
     rw [hend (by rw [hN, d3]; rfl)]; rfl
    ·simp only [zE]; rw [w64i (by omega) (by omega)]; rfl
    ·have d3 : decide (fr.getD k 0 < 2) = false := d3
     exact hgo (by rw [hN, d3]; rfl)
   ·have d2 : (!decide (1 < e.getD k 0) && v.n.kd == 10) = false := d2
    refine den_br (fun d3 => den_ret fun h1 _ _ => ⟨?_, h1 _ (List.mem_singleton.2 rfl)⟩) fun d3 => den_frz fun W8 _ x8 _ _ => den_again ⟨p.nodes.length - (k + 1), by omega, k + 1, ?_, rfl, by omega, rfl, ?_⟩
    ·have d3 : decide (1 < e.getD k 0) = true := d3
     rw [hend (by rw [hN, d3]; rfl)]; rfl
    ·simp only [zE]; rw [w64i (by omega) (by omega)]; rfl
    ·have d3 : decide (1 < e.getD k 0) = false := d3
     rw [d3, Bool.not_false, Bool.true_and] at d2
     exact hgo (by rw [hN, d3, d2]; rfl)
  ·simp only [zE, ltB_false] at d1
   rw [ha, List.drop_eq_nil_of_le (by rw [pr_len]; omega)]; rfl
end Go.Proofs.YtkpjmlnhhggenaaGreatDoor
end
section
/- Package valid in plain Lean: begins, and all that is asked. -/
namespace Vd
open Go Md
def starts (p : Pr) (s : Int) : List Nd := p.nodes.filter (isStart s)
def rootN : List Nd → List Bs → Option (List Bs)
 | [], ks => some ks
 | n :: l, ks => if (n.brk || (!(n.ev == 0) && !(n.ev == 1))) || ks.contains n.key then none else rootN l (ks ++ [n.key])
def oneStart (f : Nd → Bool) : List Nd → Bool
 | [x] => f x
 | _ => false
def beginN (p : Pr) (i : Nat) (n : Nd) : Bool :=
 !scope n.kd ||
  if n.kd == 12 then (starts p i).length == 0 && !(p.nodes.any fun m => m.inn == (i : Int) && m.kd == 2)
  else if n.kd == 11 then oneStart (fun x => x.ev == 0) (starts p i)
  else oneStart (fun x => !(x.ev == 0) && !(x.ev == 4 && !x.brk)) (starts p i)
def begins (p : Pr) : Bool := match rootN (starts p (-1)) [] with
 | none => false
 | some ks => !(ks.length == 0) && allAt (beginN p) 0 p.nodes
def cond (p : Pr) (x : Fl) : Int := if x.cond == [] then 0 else Tx.check x.cond (seen p x.frm) 2
def askN (defs : List Pr) (p : Pr) : List Int × List Int → Int
 | (fr, to) =>
  if begins p = false then 4 else if linked p fr to = false then 4 else if gates p fr to = false then 4 else if links p = false then 4
  else if firstN (says defs p) (List.range p.nodes.length) ≠ 0 then firstN (says defs p) (List.range p.nodes.length)
  else firstN (cond p) p.flows
def checkN (defs : List Pr) (p : Pr) : Int := if places p = false then 4 else match ways p with
 | none => 4
 | some w => askN defs p w
def check (defs : List Pr) (p : Pr) : Int := if proc p ≠ 0 then proc p else checkN defs p
theorem firstN_all {α : Type} {e : α → Int} : ∀ {l : List α}, firstN e l = 0 → ∀ x ∈ l, e x = 0
 | [], _, x, hx => by cases hx
 | y :: l, h, x, hx => by
  rw [firstN] at h
  split at h
  ·rename_i h0
   rcases List.mem_cons.1 hx with e | e
   ·subst e; exact h0
   ·exact firstN_all h x e
  ·contradiction
structure Fine (p : Pr) : Prop where
 nn : p.nodes.length ≤ 40
 vv : p.vars.length ≤ 8
 nd : ∀ n ∈ p.nodes, node n = 0
 fl : ∀ x ∈ p.flows, flow x = 0
theorem vars_len {l : List Var} (h : vars l = 0) : l.length ≤ 8 := by
 unfold vars at h
 split at h
 ·exact absurd h (by decide)
 ·omega
theorem fine_of {p : Pr} (h : proc p = 0) : Fine p := by
 unfold proc at h
 split at h
 ·exact absurd h (by decide)
 ·rename_i h1
  split at h
  ·exact absurd h (by decide)
  ·split at h
   ·contradiction
   ·rename_i h3
    split at h
    ·contradiction
    ·rename_i h4
     exact ⟨by omega, vars_len (Decidable.not_not.1 h3), firstN_all (Decidable.not_not.1 h4), firstN_all h⟩
theorem node_on {n : Nd} (h : node n = 0) (hk : n.kd = 15) : 0 ≤ n.on := by
 unfold node at h
 split at h
 ·exact absurd h (by decide)
 ·split at h
  ·rename_i h1
   simp only [Bool.and_eq_true] at h1
   have h2 := h1.1
   unfold o8 o7 o6 o5 at h2
   rw [hk] at h2
   simp at h2
   have h3 : cBrk n = true := by unfold cBrk; rw [hk]; rfl
   rw [h3] at h2
   simp [show scope 15 = false from by decide] at h2
   exact h2.2.1
  ·exact absurd h (by decide)
theorem node_vars {n : Nd} (h : node n = 0) : n.vars.length ≤ 8 := by
 unfold node at h
 split at h
 ·exact absurd h (by decide)
 ·omega
theorem flow_ge {x : Fl} (h : flow x = 0) : 0 ≤ x.frm ∧ 0 ≤ x.to := by
 unfold flow at h
 split at h
 ·exact absurd h (by decide)
 ·split at h
  ·exact absurd h (by decide)
  ·rename_i h1
   simp only [Bool.or_eq_true, decide_eq_true_eq, not_or] at h1
   omega
theorem allAt_get {α : Type} {f : Nat → α → Bool} : ∀ {l : List α} {i : Nat}, allAt f i l = true → ∀ (k : Nat) (x : α), l[k]? = some x → f (i + k) x = true
 | [], _, _, k, x, hx => by simp at hx
 | y :: l, i, h, 0, x, hx => by
  simp only [allAt, Bool.and_eq_true] at h
  simp only [List.getElem?_cons_zero, Option.some.injEq] at hx
  subst hx; exact h.1
 | y :: l, i, h, k + 1, x, hx => by
  simp only [allAt, Bool.and_eq_true] at h
  have := allAt_get h.2 k x (by simpa using hx)
  rwa [show i + 1 + k = i + (k + 1) by omega] at this
theorem places_in {p : Pr} (h : places p = true) : ∀ n ∈ p.nodes, n.inn < p.nodes.length := by
 intro n hn
 obtain ⟨k, hk, rfl⟩ := List.getElem_of_mem hn
 unfold places at h
 simp only [Bool.and_eq_true] at h
 have h1 := allAt_get h.1 k _ (List.getElem?_eq_getElem hk)
 unfold placed at h1
 simp only [Bool.and_eq_true, beq_iff_eq] at h1
 have h2 := h1.2.1
 have := around_lt p (0 + k)
 omega
theorem waysN_in {p : Pr} : ∀ {l : List Fl} {f t r}, waysN p l f t = some r → ∀ x ∈ l, x.frm < p.nodes.length ∧ x.to < p.nodes.length
 | [], _, _, _, _, x, hx => by cases hx
 | y :: l, f, t, r, h, x, hx => by
  rw [waysN] at h
  split at h
  ·rename_i h1
   rcases List.mem_cons.1 hx with e | e
   ·subst e
    unfold okFlow at h1
    simp only [Bool.and_eq_true, Bool.not_eq_true', decide_eq_false_iff_not] at h1
    omega
   ·exact waysN_in h x e
  ·contradiction
theorem seen_len {p : Pr} (h : Fine p) (n : Int) : (seen p n).length ≤ 1000000 := by
 have hB : ∀ i, (nd p i).vars.length ≤ 8 := fun i => by
  unfold nd
  rw [List.getD_eq_getElem?_getD]
  cases he : p.nodes[i]? with
  | none => exact Nat.zero_le _
  | some x => exact node_vars (h.nd x (List.mem_of_getElem? he))
 have hA : ∀ a : Int, a < p.nodes.length → (above p a).length ≤ 400 := fun a ha => by
  by_cases h0 : 0 ≤ a
  ·have := aboveN_len p 8 hB (a.toNat + 1) a
   have := h.nn
   unfold above
   omega
  ·rw [above_none p (by omega)]; exact Nat.zero_le _
 have h1 := h.vv
 have h2 := hB n.toNat
 have h4 := around_lt p (around p n.toNat).toNat
 have h5 := around_lt p n.toNat
 have h6 := h.nn
 unfold seen
 rw [List.length_append]
 split
 ·rename_i h0
  simp only [Bool.and_eq_true, decide_eq_true_eq] at h0
  have h7 := hA (around p n.toNat) (by omega)
  split
  ·rw [List.length_append]; omega
  ·split
   ·split
    ·rename_i h9
     by_cases h10 : 0 ≤ around p n.toNat
     ·have h8 := hA (around p (around p n.toNat).toNat) (by omega)
      omega
     ·rw [kind, if_pos (by omega)] at h9
      exact absurd h9 (by decide)
    ·omega
   ·omega
 ·simp; omega
end Vd
end
section
/- What is left to show of functions, as the walk that the kernel computes finds it (written by wip/vc2.py). -/
namespace Go.Proofs.YtkpjmlnhhggenaaGreatDoor
open Go Go.RowKit Go.SF
set_option maxRecDepth 100000
@[reducible] def dd9_0_0 : Blk := ⟨1, 71, [(.slc 4 (.nv 8) (.nv 9)), (.str (.tv 1)), (.slc 5 (.nv 10) (.nv 11)), (.slc 6 (.nv 12) (.nv 13)), (.slc 7 (.nv 14) (.nv 15)), (.slc 8 (.nv 16) (.nv 17)), (.slc 9 (.nv 18) (.nv 19))]⟩
@[reducible] def dd9_0_1 : Blk := ⟨1, 71, [(.slc 0 (.nv 0) (.nv 1)), (.str (.tv 0)), (.slc 1 (.nv 2) (.nv 3)), (.slc 2 (.nv 4) (.nv 5)), (.slc 3 (.nv 6) (.nv 7)), .nils, .nils]⟩
@[reducible] def dd9_0_2 : Sy := (.agg [(.str (.tv 0)), (.slc 1 (.nv 2) (.nv 3)), (.slc 2 (.nv 4) (.nv 5)), (.slc 3 (.nv 6) (.nv 7))])
@[reducible] def t_check_1 : Tree := (.br (.un .not (.bin .ieq (.iv 2) (.il 0))) (.ret (.int .i64 (.iv 2)) [] [] []) (.again 0 [(.int .i64 (.un (.wrap .i64) (.bin .add (.iv 1) (.il 1))))] []))
@[reducible] def t_check_2 : Tree := (.call 34 [(.ptr 1 0), (.int .i64 (.iv 1))] [dd9_0_0] [] [] (.int .i64 (.iv 2)) kk0 t_check_1)
@[reducible] def t_check_3 : Tree := (.frz [⟨2, 33, [(.int .i64 (.iv 3)), (.int .i64 (.iv 4)), (.str (.tv 2)), (.bool (.bv 6))]⟩] (.again 1 [(.int .i64 (.un (.wrap .i64) (.bin .add (.iv 2) (.il 1))))] []))
@[reducible] def t_check_4 : Tree := (.grow (.br (.un .not (.bin .ieq (.iv 5) (.il 0))) (.ret (.int .i64 (.iv 5)) [] [] []) t_check_3))
@[reducible] def t_check_5 : Tree := (.callq 35 [(.str (.tv 2)), (.slc 10 (.nv 20) (.nv 21)), (.int .u8 (.il 2))] [] [] (.int .i64 (.iv 5)) kk0 t_check_4)
@[reducible] def t_check_6 : Tree := (.grow (.call 18 [dd9_0_2, (.int .i64 (.iv 3))] [] [] [] (.slc 10 (.nv 20) (.nv 21)) kk2 t_check_5))
@[reducible] def t_check_7 : Tree := (.chk (.sm 3) (.chk (.bin .le (.il 0) (.iv 2)) (.look 33 (.elt 3 (.iv 2) 4 0) (.agg [(.int .i64 (.iv 3)), (.int .i64 (.iv 4)), (.str (.tv 2)), (.bool (.bv 6))]) kk11 (.new (.wr (.br (.bin .teq (.tv 2) (.tl [])) t_check_3 t_check_6))))))
@[reducible] def t_check_8 : Tree := (.loop [(.int .i64 (.il 0))] [] [(.int .i64 (.iv 2))] [] kk0 (.br (.bin .lt (.iv 2) (.nv 6)) t_check_7 (.ret (.int .i64 (.il 0)) [] [] [])))
@[reducible] def t_check_9 : Tree := (.loop [(.int .i64 (.il 0))] [] [(.int .i64 (.iv 1))] [] kk0 (.br (.bin .lt (.iv 1) (.nv 4)) t_check_2 t_check_8))
@[reducible] def t_check_10 : Tree := (.call 33 [(.ptr 1 0)] [dd9_0_0] [] [] (.bool (.bv 5)) kk1 (.br (.un .not (.bv 5)) (.ret (.int .i64 (.il 4)) [] [] []) t_check_9))
@[reducible] def t_check_11 : Tree := (.call 32 [(.ptr 1 0)] [dd9_0_0] [] [] (.bool (.bv 4)) kk1 (.br (.un .not (.bv 4)) (.ret (.int .i64 (.il 4)) [] [] []) t_check_10))
@[reducible] def t_check_12 : Tree := (.call 31 [(.ptr 1 0)] [dd9_0_0] [] [] (.bool (.bv 3)) kk1 (.br (.un .not (.bv 3)) (.ret (.int .i64 (.il 4)) [] [] []) t_check_11))
@[reducible] def t_check_13 : Tree := (.call 30 [(.ptr 1 0)] [dd9_0_0] [] [] (.bool (.bv 2)) kk1 (.br (.un .not (.bv 2)) (.ret (.int .i64 (.il 4)) [] [] []) t_check_12))
@[reducible] def t_check_14 : Tree := (.call 29 [(.ptr 1 0)] [dd9_0_1] [] [dd9_0_0] (.bool (.bv 1)) ⟨0, 12, 1, 1, 0, 6, 0, 0⟩ (.br (.un .not (.bv 1)) (.ret (.int .i64 (.il 4)) [] [] []) t_check_13))
@[reducible] def t_check_15 : Tree := (.new (.call 28 [(.ptr 1 0)] [dd9_0_1] [] [] (.bool (.bv 0)) kk1 (.br (.un .not (.bv 0)) (.ret (.int .i64 (.il 4)) [] [] []) t_check_14)))
@[reducible] def t_check_16 : Tree := (.br (.un .not (.bin .ieq (.iv 0) (.il 0))) (.ret (.int .i64 (.iv 0)) [] [] []) t_check_15)
@[reducible] def t_check : Tree :=
(.new (.call 21 [dd9_0_2] [] [] [] (.int .i64 (.iv 0)) kk0 t_check_16))
theorem x_check : xfn Tryz.prog { kc with loops := [⟨12, [.tm 46]⟩, ⟨19, [.tm 59]⟩], unroll := [(6, 7)], mu := [(29, [0])] } Tryz.f12 [(.slc 0 (.nv 0) (.nv 1)), dd9_0_2] [] [] ⟨0, 8, 0, 1, 0, 4, 0, 0⟩ = some t_check := by kernel_rfl
theorem vc_check (n0 n1 n2 n3 n4 n5 n6 n7 : Nat) (t0 : ByteArray) (a0 a1 a2 a3 : Option Addr) (W : Wd) (R : Ending → World → Prop) (h : t_check.den Tryz.prog W.w.heap.size R [] { N := [n0, n1, n2, n3, n4, n5, n6, n7], T := [t0], A := [a0, a1, a2, a3] } W) : CallsE Tryz.prog 12 #[.slice a0 n0 n1, .agg #[.string t0, .slice a1 n2 n3, .slice a2 n4 n5, .slice a3 n6 n7]] W R :=
 fn_calls Tryz.func12 _ _ { N := [n0, n1, n2, n3, n4, n5, n6, n7], T := [t0], A := [a0, a1, a2, a3] } _ x_check (fun v hv => by cases hv) h
end Go.Proofs.YtkpjmlnhhggenaaGreatDoor
end
section
/- The walk of valid.Check. -/
namespace Go.Proofs.YtkpjmlnhhggenaaGreatDoor
open Go Go.RowKit Go.SF
def sans (W : Wd) (m : Nat) : Wd := ⟨W.w, fun b => W.I b ∧ b ≠ m, fun b h => W.lt b h.1⟩
theorem sans_ext {V U : Wd} {m : Nat} (x : Ext V U) (h : ¬ V.I m) : Ext V (sans U m) := ⟨x.size, fun b hb => ⟨x.sub b hb, fun e => h (e ▸ hb)⟩, x.keep, x.os, x.tape, x.output⟩
theorem sans_mono {V U : Wd} {m : Nat} (x : Ext V U) : Ext (sans V m) (sans U m) := ⟨x.size, fun b hb => ⟨x.sub b hb.1, hb.2⟩, fun b hb => x.keep b hb.1, x.os, x.tape, x.output⟩
theorem sans_not (W : Wd) (m : Nat) : ¬ (sans W m).I m := fun h => h.2 rfl
theorem ints_map : ∀ l : List Int, ints l = l.map (Value.int .i64)
 | [] => rfl
 | x :: l => by rw [List.map_cons, ← ints_map l]; rfl
def BeginsQ (p : PV) : Prop := ∀ (D fr to : Sl3) (m : Nat) (W : Wd), FitP p W → (∀ v ∈ p.nodes, Md.node v.n = 0) → ¬ W.I m → W.w.heap[m]? = some (.cells (chkC D p fr to).toArray ChT) →
 CallsQ Tryz.prog 30 #[.pointer (some ⟨m, 0, none⟩)] W (.bool (Vd.begins p.pr))
set_option maxRecDepth 100000 in
theorem vcheck_b (defs : List PV) (da : Option Addr) (dc : Nat) (p : PV) (W : Wd) (hd : defs.length ≤ 1000000) (hD : SlI W da defs.length dc 4 (defs.flatMap prC)) (hF : ∀ q ∈ defs, FitP q W)
  (hp : FitP p W) (hG : Glob W) (hT : GlobT W) (hM : GlobM W) (hB : BeginsQ p) :
  CallsQ Tryz.prog 12 #[.slice da defs.length dc, .agg (prC p).toArray] W (.int .i64 (Vd.check (defs.map PV.pr) p.pr)) := by
 have hp := hp.ext W.all_ext
 have hD := hD.ext W.all_ext
 have hG := hG.ext W.all_ext
 have hT := hT.ext W.all_ext
 have hM := hM.ext W.all_ext
 have hF : ∀ q ∈ defs, FitP q W.all := fun q hq => (hF q hq).ext W.all_ext
 have hln := hp.ln
 have hlf := hp.lf
 refine vc_check defs.length dc p.vars.length p.vc p.nodes.length p.nc p.flows.length p.fc ⟨p.nm.toArray⟩ da p.va p.na p.fa W.all _ ?_
 generalize hV : W.all = V at hp hD hG hT hM hF ⊢
 have hVI : ∀ b, V.w.heap.size ≤ b → ¬ V.I b := fun b hb h => absurd (V.lt b h) (by omega)
 refine den_new fun m0 W1 _ x1 => den_call_q (v := .int .i64 (Md.proc p.pr)) (fun _ _ => mproc_q p W1 (hp.ext x1) (hM.ext x1)) ⟨Md.proc p.pr, rfl, fun W2 x2 => ?_⟩
 have y2 := ext_trans x1 x2
 simp only [zP]
 refine den_br (fun c1 => den_ret fun _ _ _ => ⟨_, rfl, ?_⟩) fun c1 => ?_
 ·have c1 : (!(Md.proc p.pr == 0)) = true := c1
  rw [Vd.check, if_pos (by simpa using c1)]; rfl
 have c1 : (!(Md.proc p.pr == 0)) = false := c1
 have c1 : Md.proc p.pr = 0 := by simpa using c1
 have hK : Vd.check (defs.map PV.pr) p.pr = Vd.checkN (defs.map PV.pr) p.pr := by rw [Vd.check, if_neg (fun h => h c1)]
 rw [hK, Vd.checkN]
 have hfine := Vd.fine_of c1
 have hnd : ∀ v ∈ p.nodes, Md.node v.n = 0 := fun v hv => hfine.nd _ (List.mem_map_of_mem hv)
 refine den_new fun m1 W3 hm1 x3 => ?_
 have y3 := ext_trans y2 x3
 have hm1I : ¬ V.I m1 := hVI m1 hm1
 simp only [zP]
 refine den_call_q (v := .bool (Vd.places p.pr)) (fun hb _ => places_q ⟨da, defs.length, dc⟩ ⟨none, 0, 0⟩ ⟨none, 0, 0⟩ p m1 (sans W3 m1) (hp.ext (sans_ext y3 hm1I)) (fun v hv hk => Vd.node_on (hnd v hv) hk) (sans_not _ _) (hb _ (List.mem_singleton.2 rfl))) ⟨Vd.places p.pr, rfl, fun W4 x4 => ?_⟩
 have y4 := ext_trans y3 x4
 simp only [zP]
 refine den_br (fun c2 => den_ret fun _ _ _ => ⟨_, rfl, ?_⟩) fun c2 => ?_
 ·have c2 : (!Vd.places p.pr) = true := c2
  rw [if_pos (by simpa using c2)]; rfl
 have c2 : (!Vd.places p.pr) = false := c2
 have c2 : Vd.places p.pr = true := by simpa using c2
 rw [if_neg (by rw [c2]; exact fun h => nomatch h)]
 refine den_call_d fun hb hd2 _ => ?_
 have hw := ways_e ⟨da, defs.length, dc⟩ ⟨none, 0, 0⟩ ⟨none, 0, 0⟩ p m1 (W4.but [m1]) (hp.ext (ext_trans (sans_ext y4 hm1I) ⟨Nat.le_refl _, fun b hb => ⟨W4.lt b hb.1, fun h => hb.2 (List.mem_singleton.1 h)⟩, fun _ _ => rfl, rfl, rfl, rfl⟩)) (fun x hx => Vd.flow_ge (hfine.fl x hx)) (fun h => h.2 (List.mem_singleton.2 rfl)) (hb _ (List.mem_singleton.2 rfl))
 refine CallsE.mono hw fun e w' _ hv => ?_
 obtain ⟨b, aX, cX, aY, cY, f, t, rfl, hmw, hfl, htl, hSX, hSY, hways⟩ := hv
 refine ⟨defs.length, dc, p.vars.length, p.vc, p.nodes.length, p.nc, p.flows.length, p.fc, f.length, cX, t.length, cY, b, ⟨p.nm.toArray⟩, da, p.va, p.na, p.fa, aX, aY, rfl, fun b hb' => by obtain rfl := List.mem_singleton.1 hb'; exact hmw, fun W5 e5 x5 n5 => ?_⟩
 have y5 := ext_trans y4 x5
 have hm1lt : m1 < W4.w.heap.size := (Array.getElem?_eq_some_iff.1 (hb _ (List.mem_singleton.2 rfl))).1
 have hn5 : NewIn W4.w.heap.size (sans W5 m1) := fun k h1 h2 => ⟨n5 k h1 h2, fun e => by omega⟩
 have hSX : SlI (sans W5 m1) aX f.length cX 1 (ints f) := SlAt.stay hSX e5 hn5
 have hSY : SlI (sans W5 m1) aY t.length cY 1 (ints t) := SlAt.stay hSY e5 hn5
 simp only [zP]
 cases b with
 | false =>
  rw [show Vd.ways p.pr = none from hways]
  exact den_br (fun c3 => den_ret fun _ _ _ => ⟨_, rfl, rfl⟩) fun c3 => nomatch (show (true = false) from c3)
 | true =>
 rw [show Vd.ways p.pr = some (f, t) from hways]
 refine den_br (fun c3 => nomatch (show (false = true) from c3)) fun c3 => ?_
 show Tree.den _ _ (Ret fun u _ => u = .int .i64 (Vd.askN (defs.map PV.pr) p.pr (f, t))) _ _ _ _
 rw [Vd.askN]
 have hin := Vd.waysN_in (show Vd.waysN p.pr p.pr.flows _ _ = some (f, t) from hways)
 refine den_call_q (v := .bool (Vd.begins p.pr)) (fun hb _ => hB ⟨da, defs.length, dc⟩ ⟨aX, f.length, cX⟩ ⟨aY, t.length, cY⟩ m1 (sans W5 m1) (hp.ext (sans_ext y5 hm1I)) hnd (sans_not _ _) (hb _ (List.mem_singleton.2 rfl))) ⟨Vd.begins p.pr, rfl, fun W6 x6 => ?_⟩
 have y6 := ext_trans y5 x6
 simp only [zP]
 refine den_br (fun c4 => den_ret fun _ _ _ => ⟨_, rfl, ?_⟩) fun c4 => ?_
 ·have c4 : (!Vd.begins p.pr) = true := c4
  rw [if_pos (by simpa using c4)]; rfl
 have c4 : (!Vd.begins p.pr) = false := c4
 rw [if_neg (by rw [show Vd.begins p.pr = true by simpa using c4]; exact fun h => nomatch h)]
 refine den_call_q (v := .bool (Vd.linked p.pr f t)) (fun hb _ => linked_q ⟨da, defs.length, dc⟩ p f t aX aY cX cY m1 (sans W6 m1) (hp.ext (sans_ext y6 hm1I)) hfl htl (by rw [← ints_map]; exact hSX.ext (sans_mono x6)) (by rw [← ints_map]; exact hSY.ext (sans_mono x6))
  (fun v hv => by have := Vd.places_in c2 v.n (List.mem_map_of_mem hv); rw [pr_len] at this; exact this) (sans_not _ _) (hb _ (List.mem_singleton.2 rfl))) ⟨Vd.linked p.pr f t, rfl, fun W7 x7 => ?_⟩
 have y7 := ext_trans y6 x7
 have s7 := ext_trans x6 x7
 simp only [zP]
 refine den_br (fun c5 => den_ret fun _ _ _ => ⟨_, rfl, ?_⟩) fun c5 => ?_
 ·have c5 : (!Vd.linked p.pr f t) = true := c5
  rw [if_pos (by simpa using c5)]; rfl
 have c5 : (!Vd.linked p.pr f t) = false := c5
 rw [if_neg (by rw [show Vd.linked p.pr f t = true by simpa using c5]; exact fun h => nomatch h)]
 refine den_call_q (v := .bool (Vd.gates p.pr f t)) (fun hb _ => gates_q ⟨da, defs.length, dc⟩ p f t aX aY cX cY m1 (sans W7 m1) (hp.ext (sans_ext y7 hm1I)) hfl htl (hSX.ext (sans_mono s7)) (hSY.ext (sans_mono s7))
  (fun x hx => by
   have h1 := hin x hx
   have h2 := Vd.flow_ge (hfine.fl x hx)
   rw [pr_len] at h1
   exact ⟨⟨h2.1, h1.1⟩, h2.2, h1.2⟩) (sans_not _ _) (hb _ (List.mem_singleton.2 rfl))) ⟨Vd.gates p.pr f t, rfl, fun W8 x8 => ?_⟩
 have y8 := ext_trans y7 x8
 simp only [zP]
 refine den_br (fun c6 => den_ret fun _ _ _ => ⟨_, rfl, ?_⟩) fun c6 => ?_
 ·have c6 : (!Vd.gates p.pr f t) = true := c6
  rw [if_pos (by simpa using c6)]; rfl
 have c6 : (!Vd.gates p.pr f t) = false := c6
 rw [if_neg (by rw [show Vd.gates p.pr f t = true by simpa using c6]; exact fun h => nomatch h)]
 refine den_call_q (v := .bool (Vd.links p.pr)) (fun hb _ => links_q ⟨da, defs.length, dc⟩ ⟨aX, f.length, cX⟩ ⟨aY, t.length, cY⟩ p m1 (sans W8 m1) (hp.ext (sans_ext y8 hm1I)) (sans_not _ _) (hb _ (List.mem_singleton.2 rfl))) ⟨Vd.links p.pr, rfl, fun W9 x9 => ?_⟩
 have y9 := ext_trans y8 x9
 simp only [zP]
 refine den_br (fun c7 => den_ret fun _ _ _ => ⟨_, rfl, ?_⟩) fun c7 => ?_
 ·have c7 : (!Vd.links p.pr) = true := c7
  rw [if_pos (by simpa using c7)]; rfl
 have c7 : (!Vd.links p.pr) = false := c7
 rw [if_neg (by rw [show Vd.links p.pr = true by simpa using c7]; exact fun h => nomatch h)]
 rw [pr_len]
 generalize hS : Md.firstN (Vd.says (defs.map PV.pr) p.pr) (List.range p.nodes.length) = S
 refine den_loop (fun j vs ls _ => ∃ i : Nat, vs = [.int .i64 (i : Nat)] ∧ ls = [] ∧ i ≤ p.nodes.length ∧ j = p.nodes.length - i ∧ S = Md.firstN (Vd.says (defs.map PV.pr) p.pr) ((List.range p.nodes.length).drop i)) p.nodes.length ⟨0, by simp [Sy.dens, Sy.den, E.i, E.b, E.t, gd, Env.push, z_a, z_b, z_c, z_d], rfl, Nat.zero_le _, rfl, hS.symm⟩ ?_
 rintro j vs ls' W10 x10 ⟨i, rfl, rfl, hi, rfl, ha⟩
 have y10 := ext_trans y9 x10
 refine ⟨(i : Int), rfl, rfl, fun _ => den_br (fun d1 => ?_) fun d1 => ?_⟩
 ·simp only [zE, ltB_true] at d1
  have hil : i < p.nodes.length := by omega
  have hir : i < (List.range p.nodes.length).length := by rw [List.length_range]; exact hil
  rw [tdrop_get hir, List.getElem_range, Md.firstN] at ha
  simp only [zP]
  refine den_call_q (v := .int .i64 (Vd.says (defs.map PV.pr) p.pr i)) (fun hb _ => says_q defs da dc ⟨aX, f.length, cX⟩ ⟨aY, t.length, cY⟩ p i m1 (sans W10 m1) hd (hD.ext (sans_ext y10 hm1I)) (fun q hq => (hF q hq).ext (sans_ext y10 hm1I)) (hp.ext (sans_ext y10 hm1I)) hil (Vd.seen_len hfine _) (hG.ext (sans_ext y10 hm1I)) (hT.ext (sans_ext y10 hm1I)) (sans_not _ _) (hb _ (List.mem_singleton.2 rfl))) ⟨Vd.says (defs.map PV.pr) p.pr i, rfl, fun W11 x11 => ?_⟩
  simp only [zP]
  refine den_br (fun d2 => den_ret fun _ _ _ => ⟨_, rfl, ?_⟩) fun d2 => den_again ⟨p.nodes.length - (i + 1), by omega, i + 1, ?_, rfl, by omega, rfl, ?_⟩
  ·have d2 : (!(Vd.says (defs.map PV.pr) p.pr i == 0)) = true := d2
   have d2 : ¬ Vd.says (defs.map PV.pr) p.pr i = 0 := by simpa using d2
   rw [if_neg d2] at ha
   rw [ha, if_pos d2]; rfl
  ·simp only [zE]; rw [w64i (by omega) (by omega)]; rfl
  ·have d2 : (!(Vd.says (defs.map PV.pr) p.pr i == 0)) = false := d2
   have d2 : Vd.says (defs.map PV.pr) p.pr i = 0 := by simpa using d2
   rw [if_pos d2] at ha
   exact ha
 ·simp only [zE, ltB_false] at d1
  rw [List.drop_eq_nil_of_le (by rw [List.length_range]; omega)] at ha
  have ha : S = 0 := ha
  rw [if_neg (fun h => h ha)]
  show Tree.den _ _ (Ret fun u _ => u = .int .i64 (Md.firstN (Vd.cond p.pr) p.flows)) _ _ _ _
  refine den_loop (fun j vs ls _ => ∃ k : Nat, vs = [.int .i64 (k : Nat)] ∧ ls = [] ∧ k ≤ p.flows.length ∧ j = p.flows.length - k ∧ Md.firstN (Vd.cond p.pr) p.flows = Md.firstN (Vd.cond p.pr) (p.flows.drop k)) p.flows.length ⟨0, by simp [Sy.dens, Sy.den, E.i, E.b, E.t, gd, Env.push, z_a, z_b, z_c, z_d], rfl, Nat.zero_le _, rfl, rfl⟩ ?_
  rintro j vs ls' W11 x11 ⟨k, rfl, rfl, hk, rfl, hb2⟩
  have y11 := ext_trans y10 x11
  refine ⟨(k : Int), rfl, rfl, fun _ => den_br (fun d3 => ?_) fun d3 => den_ret fun _ _ _ => ⟨_, rfl, ?_⟩⟩
  ·simp only [zE, ltB_true] at d3
   have hkl : k < p.flows.length := by omega
   have hx1 : p.flows[k]? = some p.flows[k] := List.getElem?_eq_getElem hkl
   rw [tdrop_get hkl, Md.firstN] at hb2
   generalize p.flows[k] = x at hx1 hb2
   refine den_chk ?_ (den_chk ?_ (den_look ⟨x.frm, x.to, x.els, ⟨x.cond.toArray⟩, fun W6 x6 => ?_, ?_⟩))
   ·simp only [E.b, gd, Env.push]; exact SlI.some_of hp.fs (by omega)
   ·simp only [zE]; exact leB_t (by omega)
   ·have := sl_look (P := Tryz.prog) flC_len (by decide) hp.fs fl_aggT fl_sizeT hx1 (ext_trans y11 x6)
    simp only [zE, Nat.add_zero] at this ⊢
    exact this
   simp only [zP]
   refine den_new fun m2 W12 _ x12 => den_wr fun W13 x13 => ?_
   have y13 := ext_trans y11 (ext_trans x12 x13)
   simp only [zP]
   refine den_br (fun d4 => ?_) fun d4 => ?_
   ·have d4 : (x.cond == []) = true := d4
    have h0 : Vd.cond p.pr x = 0 := by rw [Vd.cond, if_pos d4]
    rw [if_pos h0] at hb2
    refine den_frz fun W14 _ x14 _ _ => den_again ⟨p.flows.length - (k + 1), by omega, k + 1, ?_, rfl, by omega, rfl, hb2⟩
    simp only [zE]; rw [w64i (by omega) (by omega)]; rfl
   ·have d4 : (x.cond == []) = false := d4
    have h0 : Vd.cond p.pr x = Tx.check x.cond (Vd.seen p.pr x.frm) 2 := by rw [Vd.cond, if_neg (by rw [d4]; exact fun h => nomatch h)]
    rw [h0] at hb2
    refine den_grow fun W14 x14 => den_call_i (fun _ _ => seen_i p x.frm W14 (hp.ext (ext_trans y13 x14))) fun u w' _ ⟨a8, c8, hu, hS8⟩ => ⟨(Vd.seen p.pr x.frm).length, c8, a8, hu, fun W15 e15 x15 n15 => ?_⟩
    have hS8 := SlAt.stay hS8 e15 n15
    have y15 := ext_trans y13 (ext_trans x14 x15)
    simp only [zP]
    refine den_callq ⟨Tx.check x.cond (Vd.seen p.pr x.frm) 2, fun U xU _ _ => check_q x.cond (Vd.seen p.pr x.frm) 2 a8 c8 U (Vd.seen_len hfine _) (hS8.ext xU) (hG.ext (ext_trans y15 xU)) (hT.ext (ext_trans y15 xU)), ?_⟩
    simp only [zP]
    refine den_grow fun W16 x16 => den_br (fun d5 => den_ret fun _ _ _ => ⟨_, rfl, ?_⟩) fun d5 => den_frz fun W17 _ x17 _ _ => den_again ⟨p.flows.length - (k + 1), by omega, k + 1, ?_, rfl, by omega, rfl, ?_⟩
    ·have d5 : (!(Tx.check x.cond (Vd.seen p.pr x.frm) 2 == 0)) = true := d5
     have d5 : ¬ Tx.check x.cond (Vd.seen p.pr x.frm) 2 = 0 := by simpa using d5
     rw [if_neg d5] at hb2
     rw [hb2]; rfl
    ·simp only [zE]; rw [w64i (by omega) (by omega)]; rfl
    ·have d5 : (!(Tx.check x.cond (Vd.seen p.pr x.frm) 2 == 0)) = false := d5
     have d5 : Tx.check x.cond (Vd.seen p.pr x.frm) 2 = 0 := by simpa using d5
     rw [if_pos d5] at hb2
     exact hb2
  ·simp only [zE, ltB_false] at d3
   rw [hb2, List.drop_eq_nil_of_le (by omega)]; rfl
end Go.Proofs.YtkpjmlnhhggenaaGreatDoor
end
section
/- What is left to show of functions, as the walk that the kernel computes finds it (written by wip/vc2.py). -/
namespace Go.Proofs.YtkpjmlnhhggenaaGreatDoor
open Go Go.RowKit Go.SF
set_option maxRecDepth 100000
@[reducible] def dd10_0_0 : Sy := (.agg [(.str (.tv 0)), (.int .u8 (.iv 2)), (.int .i64 (.iv 3)), (.int .i64 (.iv 4)), (.int .u8 (.iv 5)), (.str (.tv 1)), (.str (.tv 2)), (.str (.tv 3)), (.bool (.bv 0)), (.slc 1 (.nv 2) (.nv 3)), (.slc 2 (.nv 4) (.nv 5))])
@[reducible] def dd10_0_1 : Blk := ⟨0, 71, [(.slc 0 (.nv 0) (.nv 1)), (.str (.tv 0)), (.slc 1 (.nv 2) (.nv 3)), (.slc 2 (.nv 4) (.nv 5)), (.slc 3 (.nv 6) (.nv 7)), (.slc 4 (.nv 8) (.nv 9)), (.slc 5 (.nv 10) (.nv 11))]⟩
@[reducible] def t_bg1 : Tree :=
(.new (.ret (.bool (.bin .band (.bin .ieq (.iv 1) (.iv 4)) (.bin .ieq (.iv 0) (.il 2)))) [] [] []))
theorem x_bg1 : xfn Tryz.prog kc Tryz.f65 [(.agg [(.str (.tv 0)), (.int .u8 (.iv 0)), (.int .i64 (.iv 1)), (.int .i64 (.iv 2)), (.int .u8 (.iv 3)), (.str (.tv 1)), (.str (.tv 2)), (.str (.tv 3)), (.bool (.bv 0)), (.slc 0 (.nv 0) (.nv 1)), (.slc 1 (.nv 2) (.nv 3))]), (.ptr 0 0)] [] [⟨0, 3, [(.int .i64 (.iv 4))]⟩] ⟨5, 4, 1, 4, 0, 2, 1, 0⟩ = some t_bg1 := by kernel_rfl
theorem vc_bg1 (i0 i1 i2 i3 i4 : Int) (n0 n1 n2 n3 : Nat) (b0 : Bool) (t0 t1 t2 t3 : ByteArray) (a0 a1 : Option Addr) (m0 : Nat) (W : Wd) (R : Ending → World → Prop) (hm0 : W.w.heap[m0]? = some (.cells #[.int .i64 i4] 3)) (Im0 : W.I m0) (h : t_bg1.den Tryz.prog W.w.heap.size R [] { I := [i0, i1, i2, i3, i4], N := [n0, n1, n2, n3], B := [b0], T := [t0, t1, t2, t3], A := [a0, a1], M := [m0] } W) : CallsE Tryz.prog 65 #[.agg #[.string t0, .int .u8 i0, .int .i64 i1, .int .i64 i2, .int .u8 i3, .string t1, .string t2, .string t3, .bool b0, .slice a0 n0 n1, .slice a1 n2 n3], .pointer (some ⟨m0, 0, none⟩)] W R :=
 fn_calls_ro Tryz.func65 _ _ [⟨0, 3, [(.int .i64 (.iv 4))]⟩] { I := [i0, i1, i2, i3, i4], N := [n0, n1, n2, n3], B := [b0], T := [t0, t1, t2, t3], A := [a0, a1], M := [m0] } _ x_bg1 (fun v hv => by cases hv) (fun b hb => by simp only [List.mem_cons, List.not_mem_nil, or_false] at hb; rcases hb with rfl <;> (first | exact hm0)) (fun b hb => by simp only [List.mem_cons, List.not_mem_nil, or_false] at hb; rcases hb with rfl <;> (first | exact Im0)) h
@[reducible] def t_ixn3_1 : Tree := (.br (.bv 1) (.ret (.int .i64 (.iv 1)) [] [] []) (.again 0 [(.int .i64 (.un (.wrap .i64) (.bin .add (.iv 1) (.il 1))))] []))
@[reducible] def t_ixn3_2 : Tree := (.call 65 [dd10_0_0, (.ptr 0 0)] [⟨0, 3, [(.int .i64 (.iv 0))]⟩] [] [] (.bool (.bv 1)) kk1 t_ixn3_1)
@[reducible] def t_ixn3_3 : Tree := (.chk (.sm 0) (.chk (.bin .le (.il 0) (.iv 1)) (.look 25 (.elt 0 (.iv 1) 11 0) dd10_0_0 kk4 t_ixn3_2)))
@[reducible] def t_ixn3 : Tree :=
(.loop [(.int .i64 (.il 0))] [] [(.int .i64 (.iv 1))] [] kk0 (.br (.bin .lt (.iv 1) (.nv 0)) t_ixn3_3 (.ret (.int .i64 (.il (-1))) [] [] [])))
theorem x_ixn3 : xfn Tryz.prog { kc with loops := [⟨2, [.tm 8]⟩] } Tryz.f117 [(.slc 0 (.nv 0) (.nv 1)), (.fn 65 [(.ptr 0 0)])] [] [⟨0, 3, [(.int .i64 (.iv 0))]⟩] kk14 = some t_ixn3 := by kernel_rfl
theorem vc_ixn3 (i0 : Int) (n0 n1 : Nat) (a0 : Option Addr) (m0 : Nat) (W : Wd) (R : Ending → World → Prop) (hm0 : W.w.heap[m0]? = some (.cells #[.int .i64 i0] 3)) (Im0 : W.I m0) (h : t_ixn3.den Tryz.prog W.w.heap.size R [] { I := [i0], N := [n0, n1], A := [a0], M := [m0] } W) : CallsE Tryz.prog 117 #[.slice a0 n0 n1, .func (.func 65) #[] #[.pointer (some ⟨m0, 0, none⟩)]] W R :=
 fn_calls_ro Tryz.func117 _ _ [⟨0, 3, [(.int .i64 (.iv 0))]⟩] { I := [i0], N := [n0, n1], A := [a0], M := [m0] } _ x_ixn3 (fun v hv => by cases hv) (fun b hb => by simp only [List.mem_cons, List.not_mem_nil, or_false] at hb; rcases hb with rfl <;> (first | exact hm0)) (fun b hb => by simp only [List.mem_cons, List.not_mem_nil, or_false] at hb; rcases hb with rfl <;> (first | exact Im0)) h
@[reducible] def t_ctn3 : Tree :=
(.call 117 [(.slc 0 (.nv 0) (.nv 1)), (.fn 65 [(.ptr 0 0)])] [⟨0, 3, [(.int .i64 (.iv 0))]⟩] [] [] (.int .i64 (.iv 1)) kk0 (.ret (.bool (.bin .le (.il 0) (.iv 1))) [] [] []))
theorem x_ctn3 : xfn Tryz.prog kc Tryz.f60 [(.slc 0 (.nv 0) (.nv 1)), (.fn 65 [(.ptr 0 0)])] [] [⟨0, 3, [(.int .i64 (.iv 0))]⟩] kk14 = some t_ctn3 := by kernel_rfl
theorem vc_ctn3 (i0 : Int) (n0 n1 : Nat) (a0 : Option Addr) (m0 : Nat) (W : Wd) (R : Ending → World → Prop) (hm0 : W.w.heap[m0]? = some (.cells #[.int .i64 i0] 3)) (Im0 : W.I m0) (h : t_ctn3.den Tryz.prog W.w.heap.size R [] { I := [i0], N := [n0, n1], A := [a0], M := [m0] } W) : CallsE Tryz.prog 60 #[.slice a0 n0 n1, .func (.func 65) #[] #[.pointer (some ⟨m0, 0, none⟩)]] W R :=
 fn_calls_ro Tryz.func60 _ _ [⟨0, 3, [(.int .i64 (.iv 0))]⟩] { I := [i0], N := [n0, n1], A := [a0], M := [m0] } _ x_ctn3 (fun v hv => by cases hv) (fun b hb => by simp only [List.mem_cons, List.not_mem_nil, or_false] at hb; rcases hb with rfl <;> (first | exact hm0)) (fun b hb => by simp only [List.mem_cons, List.not_mem_nil, or_false] at hb; rcases hb with rfl <;> (first | exact Im0)) h
@[reducible] def t_begins_1 : Tree := (.frz [⟨2, 25, [(.str (.tv 1)), (.int .u8 (.iv 1)), (.int .i64 (.iv 2)), (.int .i64 (.iv 3)), (.int .u8 (.iv 4)), (.str (.tv 2)), (.str (.tv 3)), (.str (.tv 4)), (.bool (.bv 0)), (.slc 6 (.nv 12) (.nv 13)), (.slc 7 (.nv 14) (.nv 15))]⟩, ⟨1, 3, [(.int .i64 (.iv 0))]⟩] (.again 0 [(.int .i64 (.un (.wrap .i64) (.bin .add (.iv 0) (.il 1))))] []))
@[reducible] def t_begins_2 : Tree := (.ret (.bool (.bl false)) [dd10_0_1] [] [])
@[reducible] def t_begins_3 : Tree := (.call 60 [(.slc 2 (.nv 4) (.nv 5)), (.fn 65 [(.ptr 1 0)])] [⟨1, 3, [(.int .i64 (.iv 0))]⟩] [] [] (.bool (.bv 2)) kk1 (.br (.bv 2) t_begins_2 t_begins_1))
@[reducible] def t_begins_4 : Tree := (.look 5 (.elt 8 (.il 0) 11 4) (.int .u8 (.iv 5)) kk0 (.br (.un .not (.bin .ieq (.iv 5) (.il 0))) t_begins_2 t_begins_1))
@[reducible] def t_begins_5 : Tree := (.chk (.bin .bor (.un .not (.bin .ieq (.nv 16) (.il 1))) (.sm 8)) (.chk (.bin .bor (.un .not (.bin .ieq (.nv 16) (.il 1))) (.bin .le (.il 0) (.il 0))) (.chk (.bin .bor (.un .not (.bin .ieq (.nv 16) (.il 1))) (.bin .lt (.il 0) (.nv 16))) (.br (.bin .ieq (.nv 16) (.il 1)) t_begins_4 t_begins_2))))
@[reducible] def t_begins_6 : Tree := (.look 4 (.elt 8 (.il 0) 11 8) (.bool (.bv 2)) kk1 (.br (.un .not (.bv 2)) t_begins_2 t_begins_1))
@[reducible] def t_begins_7 : Tree := (.look 5 (.elt 8 (.il 0) 11 4) (.int .u8 (.iv 6)) kk0 (.br (.bin .ieq (.iv 6) (.il 4)) t_begins_6 t_begins_1))
@[reducible] def t_begins_8 : Tree := (.look 5 (.elt 8 (.il 0) 11 4) (.int .u8 (.iv 5)) kk0 (.br (.un .not (.bin .ieq (.iv 5) (.il 0))) t_begins_7 t_begins_2))
@[reducible] def t_begins_9 : Tree := (.chk (.bin .bor (.un .not (.bin .ieq (.nv 16) (.il 1))) (.sm 8)) (.chk (.bin .bor (.un .not (.bin .ieq (.nv 16) (.il 1))) (.bin .le (.il 0) (.il 0))) (.chk (.bin .bor (.un .not (.bin .ieq (.nv 16) (.il 1))) (.bin .lt (.il 0) (.nv 16))) (.br (.bin .ieq (.nv 16) (.il 1)) t_begins_8 t_begins_2))))
@[reducible] def t_begins_10 : Tree := (.br (.bin .ieq (.iv 1) (.il 12)) (.br (.un .not (.bin .lt (.il 0) (.nv 16))) t_begins_3 t_begins_2) (.br (.bin .ieq (.iv 1) (.il 11)) t_begins_5 t_begins_9))
@[reducible] def t_begins_11 : Tree := (.call 64 [(.ptr 0 0), (.int .i64 (.iv 0))] [dd10_0_1] [] [] (.slc 8 (.nv 16) (.nv 17)) kk2 t_begins_10)
@[reducible] def t_begins_12 : Tree := (.new (.new (.wr (.wr (.call 17 [(.int .u8 (.iv 1))] [] [] [] (.bool (.bv 1)) kk1 (.br (.un .not (.bv 1)) t_begins_1 t_begins_11))))))
@[reducible] def t_begins_13 : Tree := (.chk (.sm 2) (.chk (.bin .le (.il 0) (.iv 0)) (.look 25 (.elt 2 (.iv 0) 11 0) (.agg [(.str (.tv 1)), (.int .u8 (.iv 1)), (.int .i64 (.iv 2)), (.int .i64 (.iv 3)), (.int .u8 (.iv 4)), (.str (.tv 2)), (.str (.tv 3)), (.str (.tv 4)), (.bool (.bv 0)), (.slc 6 (.nv 12) (.nv 13)), (.slc 7 (.nv 14) (.nv 15))]) kk4 t_begins_12)))
@[reducible] def t_begins_14 : Tree := (.ret (.bool (.bl true)) [dd10_0_1] [] [])
@[reducible] def t_begins : Tree :=
(.loop [(.int .i64 (.il 0))] [] [(.int .i64 (.iv 0))] [] kk0 (.br (.bin .lt (.iv 0) (.nv 4)) t_begins_13 t_begins_14))
theorem x_begins : xfnT Tryz.prog { kc with loops := [⟨13, [.tm 55]⟩] } Tryz.f30 12 [(.ptr 0 0)] [dd10_0_1] kk12 = some t_begins := by kernel_rfl
theorem vc_begins (n0 n1 n2 n3 n4 n5 n6 n7 n8 n9 n10 n11 : Nat) (t0 : ByteArray) (a0 a1 a2 a3 a4 a5 : Option Addr) (m0 : Nat) (W0 W : Wd) (R : Ending → World → Prop) (a : Act) {code : Code} (hb : Tryz.f30.body = some code) (ha : a.eval (.tmp 0) = .pointer (some ⟨m0, 0, none⟩)) (hn : a.tmps.size = Tryz.f30.ntmps) (hd : a.defers = []) (hm : W.w.heap[m0]? = some (.cells #[.slice a0 n0 n1, .string t0, .slice a1 n2 n3, .slice a2 n4 n5, .slice a3 n6 n7, .slice a4 n8 n9, .slice a5 n10 n11] 71)) (hI : ¬ W.I m0) (hs : ∀ b, W.I b → W0.I b ∨ W0.w.heap.size ≤ b) (hx : Ext W0 W) (h : t_begins.den Tryz.prog W0.w.heap.size R [] { N := [n0, n1, n2, n3, n4, n5, n6, n7, n8, n9, n10, n11], T := [t0], A := [a0, a1, a2, a3, a4, a5], M := [m0] } W) : wpFrom Tryz.prog 12 code (bodyPost Tryz.prog Tryz.f30 fun e w' => Keeps W0 w' ∧ R e w') a W.w :=
 fn_tail hb _ 12 _ [dd10_0_1] { N := [n0, n1, n2, n3, n4, n5, n6, n7, n8, n9, n10, n11], T := [t0], A := [a0, a1, a2, a3, a4, a5], M := [m0] } _ x_begins (fun v hv => by cases hv) (by decide) (fun i x h => by cases i with | zero => (obtain rfl := Option.some.inj h; exact ha) | succ i => simp at h) hn hd (fun b hb => by simp only [List.mem_singleton] at hb; subst hb; exact hm) (fun b hb => by simp only [List.mem_singleton] at hb; subst hb; exact hI) (List.pairwise_singleton _ _) hs hx h
end Go.Proofs.YtkpjmlnhhggenaaGreatDoor
end
section
/- The walks of package valid: begins from its second loop on. -/
namespace Go.Proofs.YtkpjmlnhhggenaaGreatDoor
open Go Go.RowKit Go.SF
def isEnd (i : Int) (n : Md.Nd) : Bool := n.inn == i && n.kd == 2
theorem bg1_q (v : NV) (i : Int) (m : Nat) (W : Wd) (hm : W.w.heap[m]? = some (.cells #[.int .i64 i] 3)) : CallsQ Tryz.prog 65 #[.agg (ndC v).toArray, .pointer (some ⟨m, 0, none⟩)] W (.bool (isEnd i v.n)) := by
 refine vc_bg1 v.n.kd v.n.inn v.n.on v.n.ev i v.n.vars.length v.vc v.n.back.length v.bc v.n.brk ⟨v.n.nm.toArray⟩ ⟨v.n.key.toArray⟩ ⟨v.n.txt.toArray⟩ ⟨v.n.set.toArray⟩ v.va v.ba m W.all _ hm (Array.getElem?_eq_some_iff.1 hm).1 ?_
 exact den_new fun m W1 _ x1 => den_ret fun _ _ _ => ⟨_, rfl, rfl⟩
theorem ixn3_i (k : Int) (l : List NV) (a : Option Addr) (c : Nat) (m : Nat) (W : Wd) (hl : l.length ≤ 1000000) (hV : SlI W a l.length c 11 (l.flatMap ndC)) (hm : W.w.heap[m]? = some (.cells #[.int .i64 k] 3)) (hI : W.I m) :
  CallsI Tryz.prog 117 #[.slice a l.length c, .func (.func 65) #[] #[.pointer (some ⟨m, 0, none⟩)]] W.all fun v w' => ∃ r : Int, v = .int .i64 r ∧ leB 0 r = l.any fun y => isEnd k y.n := by
 refine vc_ixn3 k l.length c a m W.all _ hm (W.lt m hI) ?_
 refine den_loop (fun j vs ls _ => ∃ i : Nat, vs = [.int .i64 (i : Nat)] ∧ ls = [] ∧ i ≤ l.length ∧ j = l.length - i ∧ (l.any fun y => isEnd k y.n) = ((l.drop i).any fun y => isEnd k y.n)) l.length ⟨0, by simp [Sy.dens, Sy.den, E.i, E.b, E.t, gd, Env.push, z_a, z_b, z_c, z_d], rfl, Nat.zero_le _, rfl, rfl⟩ ?_
 rintro j vs ls' W2 x2 ⟨i, rfl, rfl, hi, rfl, ha⟩
 have x2' := ext_trans W.all_ext x2
 refine ⟨(i : Int), rfl, rfl, fun _ => den_br (fun c1 => ?_) fun c1 => den_ret fun _ _ _ => ⟨_, rfl, -1, rfl, ?_⟩⟩
 ·simp only [zE, ltB_true] at c1
  have hil : i < l.length := by omega
  have hx : l[i]? = some l[i] := List.getElem?_eq_getElem hil
  rw [tdrop_get hil] at ha
  generalize l[i] = v at hx ha
  refine den_chk ?_ (den_chk ?_ (den_look ⟨v.n.kd, v.n.inn, v.n.on, v.n.ev, v.n.vars.length, v.vc, v.n.back.length, v.bc, v.n.brk, ⟨v.n.nm.toArray⟩, ⟨v.n.key.toArray⟩, ⟨v.n.txt.toArray⟩, ⟨v.n.set.toArray⟩, v.va, v.ba, fun W3 x3 => ?_, ?_⟩))
  ·simp only [E.b, gd, Env.push]; exact SlI.some_of hV (by omega)
  ·simp only [zE]; exact leB_t (by omega)
  ·have := sl_look (P := Tryz.prog) ndC_len (by decide) hV nd_aggT nd_sizeT hx (ext_trans x2' x3)
   simp only [zE, Nat.add_zero] at this ⊢
   exact this
  ·simp only [zP]
   refine den_call_q (v := .bool (isEnd k v.n)) (fun hb _ => bg1_q v k m W2 (hb _ (List.mem_singleton.2 rfl))) ⟨isEnd k v.n, rfl, fun W3 x3 => ?_⟩
   simp only [zP]
   refine den_br (fun c2 => den_ret fun _ _ _ => ⟨_, rfl, (i : Int), rfl, ?_⟩) fun c2 => den_again ⟨l.length - (i + 1), by omega, i + 1, ?_, rfl, by omega, rfl, ?_⟩
   ·have c2 : isEnd k v.n = true := c2
    rw [ha, List.any_cons, c2]; exact leB_t (by omega)
   ·simp only [zE]; rw [w64i (by omega) (by omega)]; rfl
   ·have c2 : isEnd k v.n = false := c2
    rw [ha, List.any_cons, c2, Bool.false_or]
 ·simp only [zE, ltB_false] at c1
  rw [ha, List.drop_eq_nil_of_le (by omega)]; rfl
theorem ctn3_q (k : Int) (l : List NV) (a : Option Addr) (c : Nat) (m : Nat) (W : Wd) (hl : l.length ≤ 1000000) (hV : SlW W.w a l.length c 11 (l.flatMap ndC)) (hm : W.w.heap[m]? = some (.cells #[.int .i64 k] 3)) :
  CallsQ Tryz.prog 60 #[.slice a l.length c, .func (.func 65) #[] #[.pointer (some ⟨m, 0, none⟩)]] W (.bool (l.any fun y => isEnd k y.n)) := by
 have hmI : m < W.w.heap.size := (Array.getElem?_eq_some_iff.1 hm).1
 refine vc_ctn3 k l.length c a m W.all _ hm hmI ?_
 refine den_call_i (fun _ _ => ixn3_i k l a c m W.all hl hV.all hm hmI) fun v w' _ ⟨r, hv, hr⟩ => ⟨r, hv, fun W2 _ _ _ => den_ret fun _ _ _ => ⟨_, rfl, ?_⟩⟩
 show Value.bool (leB 0 r) = _
 rw [hr]
theorem starts_map (p : PV) (s : Int) : Vd.starts p.pr s = (p.nodes.filter fun v => Vd.isStart s v.n).map (·.n) := by
 unfold Vd.starts PV.pr
 simp only [List.filter_map]
 rfl
theorem oneStart_map (f : Md.Nd → Bool) (l : List NV) : Vd.oneStart f (l.map (·.n)) = match l with
  | [x] => f x.n
  | _ => false := by
 match l with
 | [] => rfl
 | [_] => rfl
 | _ :: _ :: _ => rfl
theorem one_of {α : Type} {l : List α} (h : l.length = 1) : ∃ x, l = [x] := List.length_eq_one_iff.1 h
theorem begins_den (D fr to : Sl3) (p : PV) (m N0 : Nat) (W : Wd) (hp : FitP p W) (hI : ¬ W.I m) :
  t_begins.den Tryz.prog N0 (fun e w' => e = .returned (.bool (Vd.allAt (Vd.beginN p.pr) 0 p.pr.nodes)) ∧ w'.heap[m]? = some (.cells (chkC D p fr to).toArray ChT)) []
   { N := [D.n, D.c, p.vars.length, p.vc, p.nodes.length, p.nc, p.flows.length, p.fc, fr.n, fr.c, to.n, to.c], T := [⟨p.nm.toArray⟩], A := [D.a, p.va, p.na, p.fa, fr.a, to.a], M := [m] } W := by
 have hln := hp.ln
 generalize hA : Vd.allAt (Vd.beginN p.pr) 0 p.pr.nodes = A
 refine den_loop (fun j vs ls _ => ∃ i : Nat, vs = [.int .i64 (i : Nat)] ∧ ls = [] ∧ i ≤ p.nodes.length ∧ j = p.nodes.length - i ∧ A = Vd.allAt (Vd.beginN p.pr) i (p.pr.nodes.drop i)) p.nodes.length ⟨0, by simp [Sy.dens, Sy.den, E.i, E.b, E.t, gd, Env.push, z_a, z_b, z_c, z_d], rfl, Nat.zero_le _, rfl, hA.symm⟩ ?_
 rintro j vs ls' W2 x2 ⟨i, rfl, rfl, hi, rfl, ha⟩
 refine ⟨(i : Int), rfl, rfl, fun _ => den_br (fun c1 => ?_) fun c1 => den_ret fun h1 _ _ => ⟨?_, h1 _ (List.mem_singleton.2 rfl)⟩⟩
 ·simp only [zE, ltB_true] at c1
  have hil : i < p.nodes.length := by omega
  have hx1 : p.nodes[i]? = some p.nodes[i] := List.getElem?_eq_getElem hil
  have hpl : i < p.pr.nodes.length := by rw [pr_len]; exact hil
  rw [allAt_drop hpl, pr_get hx1 hpl] at ha
  generalize p.nodes[i] = v at hx1 ha
  have hend : Vd.beginN p.pr i v.n = false → A = false := fun h => by rw [ha, h, Bool.false_and]
  have hgo : Vd.beginN p.pr i v.n = true → A = Vd.allAt (Vd.beginN p.pr) (i + 1) (p.pr.nodes.drop (i + 1)) := fun h => by rw [ha, h, Bool.true_and]
  refine den_chk ?_ (den_chk ?_ (den_look ⟨v.n.kd, v.n.inn, v.n.on, v.n.ev, v.n.vars.length, v.vc, v.n.back.length, v.bc, v.n.brk, ⟨v.n.nm.toArray⟩, ⟨v.n.key.toArray⟩, ⟨v.n.txt.toArray⟩, ⟨v.n.set.toArray⟩, v.va, v.ba, fun W3 x3 => ?_, ?_⟩))
  ·simp only [E.b, gd, Env.push]; exact SlI.some_of hp.ns (by omega)
  ·simp only [zE]; exact leB_t (by omega)
  ·have := sl_look (P := Tryz.prog) ndC_len (by decide) hp.ns nd_aggT nd_sizeT hx1 (ext_trans x2 x3)
   simp only [zE, Nat.add_zero] at this ⊢
   exact this
  simp only [zP]
  refine den_new fun m1 W3 _ x3 => den_new fun m2 W4 _ x4 => den_wr fun W5 x5 => den_wr fun W6 x6 => ?_
  have y6 := ext_trans x2 (ext_trans (ext_trans x3 x4) (ext_trans x5 x6))
  simp only [zP]
  refine den_call_q (v := .bool (Md.scope v.n.kd)) (fun _ _ => mscope_q v.n.kd W6) ⟨Md.scope v.n.kd, rfl, fun W7 x7 => ?_⟩
  have y7 := ext_trans y6 x7
  simp only [zP]
  have again : ∀ {ρ : Env} {t : List Blk} {L : Lv} {U : Wd}, True := trivial
  refine den_br (fun c2 => ?_) fun c2 => ?_
  ·have c2 : (!Md.scope v.n.kd) = true := c2
   refine den_frz fun W8 _ x8 _ _ => den_again ⟨p.nodes.length - (i + 1), by omega, i + 1, ?_, rfl, by omega, rfl, hgo (by rw [Vd.beginN, c2, Bool.true_or])⟩
   simp only [zE]; rw [w64i (by omega) (by omega)]; rfl
  have c2 : (!Md.scope v.n.kd) = false := c2
  have hN : Vd.beginN p.pr i v.n = if v.n.kd == 12 then (Vd.starts p.pr i).length == 0 && !(p.pr.nodes.any fun m => m.inn == (i : Int) && m.kd == 2)
    else if v.n.kd == 11 then Vd.oneStart (fun x => x.ev == 0) (Vd.starts p.pr i)
    else Vd.oneStart (fun x => !(x.ev == 0) && !(x.ev == 4 && !x.brk)) (Vd.starts p.pr i) := by rw [Vd.beginN, c2, Bool.false_or]
  rw [starts_map, oneStart_map, oneStart_map, List.length_map] at hN
  refine den_call_i (fun hb _ => starts_i D fr to p (i : Int) m (sans W7 m) (hp.ext (sans_ext y7 hI)) (sans_not _ _) (hb _ (List.mem_singleton.2 rfl))) fun u w' _ ⟨a8, c8, hu, hS⟩ => ⟨(p.nodes.filter fun v : NV => Vd.isStart (i : Int) v.n).length, c8, a8, hu, fun W8 e8 x8 n8 => ?_⟩
  have hS := SlAt.stay hS e8 n8
  have y8 := ext_trans y7 x8
  generalize (p.nodes.filter fun v : NV => Vd.isStart (i : Int) v.n) = l at hN hS ⊢
  simp only [zP]
  refine den_br (fun c3 => ?_) fun c3 => ?_
  ·have c3 : (v.n.kd == 12) = true := c3
   rw [c3, if_pos rfl] at hN
   refine den_br (fun c4 => ?_) fun c4 => den_ret fun h1 _ _ => ⟨?_, h1 _ (List.mem_singleton.2 rfl)⟩
   ·have c4 : l.length = 0 := by
     simp only [zE, Bool.not_eq_true', ltB_false] at c4
     omega
    have hE : p.pr.nodes.any (fun m => m.inn == (i : Int) && m.kd == 2) = p.nodes.any fun y => isEnd (i : Int) y.n := by
     unfold PV.pr
     simp only [List.any_map, Function.comp_def]
     rfl
    rw [c4, hE, show ((0 : Nat) == 0) = true from rfl, Bool.true_and] at hN
    refine den_call_q (v := .bool (p.nodes.any fun y => isEnd (i : Int) y.n)) (fun hb _ => ctn3_q (i : Int) p.nodes p.na p.nc m1 W8 hln (SlAt.w (hp.ns.ext y8)) (hb _ (List.mem_singleton.2 rfl))) ⟨p.nodes.any fun y => isEnd (i : Int) y.n, rfl, fun W9 x9 => ?_⟩
    simp only [zP]
    refine den_br (fun c5 => den_ret fun h1 _ _ => ⟨?_, h1 _ (List.mem_singleton.2 rfl)⟩) fun c5 => ?_
    ·have c5 : (p.nodes.any fun y => isEnd (i : Int) y.n) = true := c5
     rw [hend (by rw [hN, c5]; rfl)]; rfl
    ·have c5 : (p.nodes.any fun y => isEnd (i : Int) y.n) = false := c5
     refine den_frz fun W8 _ x8 _ _ => den_again ⟨p.nodes.length - (i + 1), by omega, i + 1, ?_, rfl, by omega, rfl, hgo (by rw [hN, c5]; rfl)⟩
     simp only [zE]; rw [w64i (by omega) (by omega)]; rfl
   ·have c4 : 0 < l.length := by
     simp only [zE, Bool.not_eq_false', ltB_true] at c4
     omega
    rw [hend (by rw [hN, show (l.length == 0) = false from beq_eq_false_iff_ne.2 (by omega), Bool.false_and])]; rfl
  have c3 : (v.n.kd == 12) = false := c3
  rw [c3, if_neg (fun h => nomatch h)] at hN
  have k1 : (!(((l.length : Nat) : Int) == 1) || a8.isSome) = true := by
   by_cases h : l.length = 1
   ·rw [SlI.some_of hS (by omega), Bool.or_true]
   ·rw [show ((((l.length : Nat) : Int) == 1)) = false by simp; omega]; rfl
  have k2 : (!(((l.length : Nat) : Int) == 1) || ltB 0 ((l.length : Nat) : Int)) = true := by
   by_cases h : l.length = 1
   ·rw [ltB_t (by omega), Bool.or_true]
   ·rw [show ((((l.length : Nat) : Int) == 1)) = false by simp; omega]; rfl
  refine den_br (fun c4 => ?_) fun c4 => ?_
  ·have c4 : (v.n.kd == 11) = true := c4
   rw [c4, if_pos rfl] at hN
   refine den_chk k1 (den_chk (by simp only [zE]; rw [leB_t (Int.le_refl 0), Bool.or_true]) (den_chk k2 (den_br (fun c5 => ?_) fun c5 => den_ret fun h1 _ _ => ⟨?_, h1 _ (List.mem_singleton.2 rfl)⟩)))
   ·have c5 : l.length = 1 := by
     simp only [zE, beq_iff_eq] at c5
     omega
    obtain ⟨x, rfl⟩ := one_of c5
    have hx2 : ([x] : List NV)[0]? = some x := rfl
    refine den_look ⟨x.n.ev, fun W9 x9 => ?_, ?_⟩
    ·have := sl_look_f (P := Tryz.prog) ndC_len hS k8_aggT (k := 4) hx2 (by decide) (u := .int .u8 x.n.ev) rfl x9
     simp only [zE] at this ⊢
     exact this
    simp only [zP]
    refine den_br (fun c6 => den_ret fun h1 _ _ => ⟨?_, h1 _ (List.mem_singleton.2 rfl)⟩) fun c6 => ?_
    ·have c6 : (!(x.n.ev == 0)) = true := c6
     rw [hend (by rw [hN]; simpa using c6)]; rfl
    ·have c6 : (!(x.n.ev == 0)) = false := c6
     refine den_frz fun W8 _ x8 _ _ => den_again ⟨p.nodes.length - (i + 1), by omega, i + 1, ?_, rfl, by omega, rfl, hgo (by rw [hN]; simpa using c6)⟩
     simp only [zE]; rw [w64i (by omega) (by omega)]; rfl
   ·have c5 : l.length ≠ 1 := by
     simp only [zE, beq_eq_false_iff_ne, ne_eq] at c5
     omega
    have : Vd.beginN p.pr i v.n = false := by
     rw [hN]; split
     ·exact absurd rfl c5
     ·rfl
    rw [hend this]; rfl
  ·have c4 : (v.n.kd == 11) = false := c4
   rw [c4, if_neg (fun h => nomatch h)] at hN
   refine den_chk k1 (den_chk (by simp only [zE]; rw [leB_t (Int.le_refl 0), Bool.or_true]) (den_chk k2 (den_br (fun c5 => ?_) fun c5 => den_ret fun h1 _ _ => ⟨?_, h1 _ (List.mem_singleton.2 rfl)⟩)))
   ·have c5 : l.length = 1 := by
     simp only [zE, beq_iff_eq] at c5
     omega
    obtain ⟨x, rfl⟩ := one_of c5
    have hx2 : ([x] : List NV)[0]? = some x := rfl
    have lk := fun (W9 : Wd) (x9 : Ext W8 W9) => sl_look_f (P := Tryz.prog) ndC_len hS k8_aggT (k := 4) hx2 (by decide) (u := .int .u8 x.n.ev) rfl x9
    have hN : Vd.beginN p.pr i v.n = (!(x.n.ev == 0) && !(x.n.ev == 4 && !x.n.brk)) := hN
    refine den_look ⟨x.n.ev, fun W9 x9 => ?_, ?_⟩
    ·have := lk W9 x9
     simp only [zE] at this ⊢
     exact this
    simp only [zP]
    refine den_br (fun c6 => ?_) fun c6 => den_ret fun h1 _ _ => ⟨?_, h1 _ (List.mem_singleton.2 rfl)⟩
    ·have c6 : (!(x.n.ev == 0)) = true := c6
     rw [c6, Bool.true_and] at hN
     refine den_look ⟨x.n.ev, fun W9 x9 => ?_, ?_⟩
     ·have := lk W9 x9
      simp only [zE] at this ⊢
      exact this
     simp only [zP]
     refine den_br (fun c7 => ?_) fun c7 => ?_
     ·have c7 : (x.n.ev == 4) = true := c7
      rw [c7, Bool.true_and] at hN
      refine den_look ⟨x.n.brk, fun W9 x9 => ?_, ?_⟩
      ·have := sl_look_f (P := Tryz.prog) ndC_len hS (by kernel_rfl : aggT Tryz.prog 4 = some false) (k := 8) hx2 (by decide) (u := .bool x.n.brk) rfl x9
       simp only [zE] at this ⊢
       exact this
      simp only [zP]
      refine den_br (fun c8 => den_ret fun h1 _ _ => ⟨?_, h1 _ (List.mem_singleton.2 rfl)⟩) fun c8 => ?_
      ·have c8 : (!x.n.brk) = true := c8
       rw [hend (by rw [hN, c8]; rfl)]; rfl
      ·have c8 : (!x.n.brk) = false := c8
       refine den_frz fun W8 _ x8 _ _ => den_again ⟨p.nodes.length - (i + 1), by omega, i + 1, ?_, rfl, by omega, rfl, hgo (by rw [hN, c8]; rfl)⟩
       simp only [zE]; rw [w64i (by omega) (by omega)]; rfl
     ·have c7 : (x.n.ev == 4) = false := c7
      refine den_frz fun W8 _ x8 _ _ => den_again ⟨p.nodes.length - (i + 1), by omega, i + 1, ?_, rfl, by omega, rfl, hgo (by rw [hN, c7]; rfl)⟩
      simp only [zE]; rw [w64i (by omega) (by omega)]; rfl
    ·have c6 : (!(x.n.ev == 0)) = false := c6
     rw [hend (by rw [hN, c6]; rfl)]; rfl
   ·have c5 : l.length ≠ 1 := by
     simp only [zE, beq_eq_false_iff_ne, ne_eq] at c5
     omega
    have : Vd.beginN p.pr i v.n = false := by
     rw [hN]; split
     ·exact absurd rfl c5
     ·rfl
    rw [hend this]; rfl
 ·simp only [zE, ltB_false] at c1
  rw [ha, List.drop_eq_nil_of_le (by rw [pr_len]; omega)]; rfl
end Go.Proofs.YtkpjmlnhhggenaaGreatDoor
end
