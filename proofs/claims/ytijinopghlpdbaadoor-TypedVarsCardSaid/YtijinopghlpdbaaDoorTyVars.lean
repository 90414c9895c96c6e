/- The statement TypedVars: the walk (written by wip/gen_tyvars.py). -/
import Derived.Test.YtijinopghlpdbaaDoorTyWalks
namespace Go.Proofs.YtijinopghlpdbaaDoor
open Go Go.RowKit Go.SF
set_option linter.unusedSimpArgs false
set_option linter.unusedVariables false

theorem vars_row {W : Wd} {n0 : Nat} {a : Option Addr} {c n : Nat} {l : List Tx.Var} (h : W.w.ownsRow n0 29 4 (.slice a n c) n (l.flatMap varC)) (hn : n = l.length) : VarsI W.all a c l := by
  subst hn
  exact ((owns_sl h).w).all
theorem varC_one (l : List Tx.Var) : ∀ u ∈ l.flatMap varC, u.oneCell' = true := by
  intro u hu
  obtain ⟨v, _, hv⟩ := List.mem_flatMap.1 hu
  simp only [varC, List.mem_cons, List.not_mem_nil, or_false] at hv
  rcases hv with rfl | rfl | rfl | rfl <;> rfl
theorem vars_cells {W : Wd} {a : Option Addr} {c : Nat} {vars : List Tx.Var} (h : VarsI W a c vars) : (a = none → ((vars.length : Nat) : Int) ≤ 0 ∧ ((c : Nat) : Int) ≤ 0) ∧ ∀ ad, a = some ad → ∀ W', Ext W W' → ∀ (j : Nat) u, (vars.flatMap varC)[j]? = some u → W'.w.cell? (ad.add j) = some u := by
  refine ⟨fun e => ?_, fun ad e W' x j u hu => ?_⟩
  · obtain ⟨_, _, h3⟩ := h
    rcases h3 with ⟨_, h4, h5⟩ | ⟨b, o, h4, _⟩
    · omega
    · rw [e] at h4; cases h4
  · obtain ⟨_, _, h3⟩ := VarsI.ext h x
    rcases h3 with ⟨_, h4, _⟩ | ⟨b, o, h4, _, _, hc⟩
    · rw [List.length_eq_zero_iff.1 h4] at hu; simp at hu
    · rw [e] at h4
      injection h4 with h4
      subst h4
      rw [add_none]
      exact hc j u hu
theorem flat_snoc (l : List Tx.Var) (m : Tx.Var) : (l ++ [m]).flatMap varC = l.flatMap varC ++ varC m := by simp
theorem vars_q (x : Px.Ex) (vs : List Value) (vars : List Tx.Var) (a : Option Addr) (c : Nat) (m : Tx.Var) (W : Wd) (hwx : Tx.wide x = true) (hx : ExI W x vs) (hV : VarsI W a c vars) (hG : Glob W) (hT : GlobT W) :
    CallsQ Tryd.prog 3 #[.agg vs.toArray, .slice a vars.length c, .agg #[.string ⟨m.name.toArray⟩, .int .u8 m.k, .int .i64 m.n, .string ⟨m.t.toArray⟩]] W (.bool true) := by
  have hx := hx.ext W.all_ext
  have hG := hG.ext W.all_ext
  have hT := hT.ext W.all_ext
  have hV := hV.all
  obtain ⟨op, k, nn, t, nm, al, len, cl, rfl⟩ := hx.shape
  refine vc_lvars op k nn m.k m.n len cl vars.length c t nm ⟨m.name.toArray⟩ ⟨m.t.toArray⟩ al a W.all _ ?_
  refine den_new fun m0 W1 _ x1 => den_new fun m1 W2 _ x2 => ?_
  have y2 := ext_trans x1 x2
  refine den_call_q (fun _ _ => large_q x _ vars a c W2 hwx (hx.ext y2)) ⟨Tx.large x vars, rfl, fun W3 x3 => ?_⟩
  have y3 := ext_trans y2 x3
  refine den_br (fun c1 => ?_) fun c1 => den_call_q (fun _ _ => awake_q W3 (hG.ext y3) (hT.ext y3)) ⟨true, rfl, fun _ _ => den_ret fun _ _ _ => ⟨_, rfl, rfl⟩⟩
  simp only [Sy.dens, Sy.den, E.i, E.b, E.t, gd, Env.push, List.cons_append, List.nil_append, List.append_nil, Int.toNat_natCast, Bool.not_eq_true', Bool.or_eq_false_iff] at c1
  have c1 := c1.1
  refine den_call_q (fun _ _ => awake_q W3 (hG.ext y3) (hT.ext y3)) ⟨true, rfl, fun W4 x4 => den_br (fun c3 => by cases c3) fun _ => ?_⟩
  have y4 := ext_trans y3 x4
  simp only [Tx.large, Bool.or_eq_false_iff, decide_eq_false_iff_not] at c1
  have hth := (Tx.thin_of 41 x c1.1 hwx).1
  have hvl : vars.length ≤ 100 := by omega
  have hdeep := (Tx.thin_of 41 x c1.1 hwx).2
  have hmore := fun h => Tx.type_more (vars := vars) m (e := x) h
  have hnot := fun h => Tx.type_not (vars := vars) (m := m) (e := x) h
  have fl := flat_len varC_len vars
  refine den_call_q (fun _ _ => tType_q x _ vars a c W4 hth (by omega) (hx.ext y4) (hV.ext y4) (hT.ext y4)) ⟨(Tx.type vars x).1, (Tx.type vars x).2, rfl, fun W5 x5 => ?_⟩
  have y5 := ext_trans y4 x5
  simp only [Env.push, List.cons_append, List.nil_append, List.append_nil]
  refine den_both ?_ ?_
  · refine den_grow fun W6 x6 => ?_
    have y6 := ext_trans y5 x6
    refine den_app fun a2 c2 W7 _ x7 => ?_
    have y7 := ext_trans y6 x7
    simp only [Env.push, List.cons_append, List.nil_append, List.append_nil]
    refine den_both ?_ ?_
    · refine den_chk (by simp only [Sy.dens, Sy.den, E.i, E.b, E.t, gd, Env.push, List.cons_append, List.nil_append, List.append_nil, Int.toNat_natCast]; exact leB_t (by omega)) ?_
      refine den_grow fun W8 x8 => ?_
      have y8 := ext_trans y7 x8
      refine den_cells (vars.flatMap varC) (by simp only [Sy.dens, Sy.den, E.i, E.b, E.t, gd, Env.push, List.cons_append, List.nil_append, List.append_nil, Int.toNat_natCast]; exact fl) (varC_one vars) (vars_cells (hV.ext y8)).1 (vars_cells (hV.ext y8)).2 ?_
      simp only [Env.push, List.cons_append, List.nil_append, List.append_nil]
      refine den_app fun a3 c3 W9 _ x9 => ?_
      have y9 := ext_trans y8 x9
      simp only [Env.push, List.cons_append, List.nil_append, List.append_nil]
      refine den_grow fun W10 x10 => ?_
      have y10 := ext_trans y9 x10
      refine den_app fun a4 c4 W11 _ x11 => ?_
      have y11 := ext_trans y10 x11
      simp only [Env.push, List.cons_append, List.nil_append, List.append_nil]
      refine den_chk (by simp only [Sy.dens, Sy.den, E.i, E.b, E.t, gd, Env.push, List.cons_append, List.nil_append, List.append_nil, Int.toNat_natCast]; exact leB_t (by omega)) ?_
      refine den_grow fun W12 x12 => ?_
      have y12 := ext_trans y11 x12
      refine den_app fun a5 c5 W13 _ x13 => ?_
      have y13 := ext_trans y12 x13
      simp only [Env.push, List.cons_append, List.nil_append, List.append_nil]
      refine den_grow fun W14 x14 => ?_
      have y14 := ext_trans y13 x14
      refine den_call_q (fun _ hr => ?_) ⟨(Tx.type (vars ++ [m]) x).1, (Tx.type (vars ++ [m]) x).2, rfl, fun W15 x15 => ?_⟩
      · have h : W14.w.ownsRow W.all.w.heap.size 29 4 (.slice a5 (vars.length + 1) c5) (vars.length + 1) (vars.flatMap varC ++ varC m) := (hr _ (List.mem_cons_self ..)).1
        rw [← flat_snoc] at h
        have hq := tType_q x _ (vars ++ [m]) a5 c5 W14.all hth (by simp; omega) (hx.ext (ext_trans y14 W14.all_ext)) (vars_row h (by simp)) (hT.ext (ext_trans y14 W14.all_ext))
        rw [show (vars ++ [m]).length = vars.length + 1 from by simp] at hq
        exact hq
      have y15 := ext_trans y14 x15
      simp only [Env.push, List.cons_append, List.nil_append, List.append_nil]
      refine den_grow fun W16 x16 => ?_
      have y16 := ext_trans y15 x16
      refine den_br (fun c5 => ?_) fun c5 => ?_
      · exfalso
        simp only [Sy.dens, Sy.den, E.i, E.b, E.t, gd, Env.push, List.cons_append, List.nil_append, List.append_nil, Int.toNat_natCast, Bool.and_eq_true, beq_iff_eq] at c5
        rw [hmore c5.1] at c5
        simp at c5
      · refine den_grow fun W17 x17 => ?_
        have y17 := ext_trans y16 x17
        refine den_app fun a6 c6 W18 _ x18 => ?_
        have y18 := ext_trans y17 x18
        simp only [Env.push, List.cons_append, List.nil_append, List.append_nil]
        refine den_chk (by simp only [Sy.dens, Sy.den, E.i, E.b, E.t, gd, Env.push, List.cons_append, List.nil_append, List.append_nil, Int.toNat_natCast]; exact leB_t (by omega)) ?_
        refine den_grow fun W19 x19 => ?_
        have y19 := ext_trans y18 x19
        refine den_cells (vars.flatMap varC) (by simp only [Sy.dens, Sy.den, E.i, E.b, E.t, gd, Env.push, List.cons_append, List.nil_append, List.append_nil, Int.toNat_natCast]; exact fl) (varC_one vars) (vars_cells (hV.ext y19)).1 (vars_cells (hV.ext y19)).2 ?_
        simp only [Env.push, List.cons_append, List.nil_append, List.append_nil]
        refine den_app fun a7 c7 W20 _ x20 => ?_
        have y20 := ext_trans y19 x20
        simp only [Env.push, List.cons_append, List.nil_append, List.append_nil]
        refine den_grow fun W21 x21 => ?_
        have y21 := ext_trans y20 x21
        refine den_call_q (fun _ hr => ?_) ⟨(Tx.type (m :: vars) x).1, (Tx.type (m :: vars) x).2, rfl, fun W22 x22 => ?_⟩
        · have h : W21.w.ownsRow W.all.w.heap.size 29 4 (.slice a7 (1 + vars.length) c7) (1 + vars.length) (varC m ++ (vars.flatMap varC ++ [])) := (hr _ (List.mem_cons_self ..)).1
          rw [List.append_nil] at h
          have hq := tType_q x _ (m :: vars) a7 c7 W21.all hth (by simp; omega) (hx.ext (ext_trans y21 W21.all_ext)) (vars_row (l := m :: vars) h (by simp; omega)) (hT.ext (ext_trans y21 W21.all_ext))
          rw [show (m :: vars).length = 1 + vars.length from by simp; omega] at hq
          exact hq
        have y22 := ext_trans y21 x22
        simp only [Env.push, List.cons_append, List.nil_append, List.append_nil]
        refine den_grow fun W23 x23 => ?_
        have y23 := ext_trans y22 x23
        refine den_call_q (fun _ _ => names_q 41 x _ m.name W23 hdeep hth (hx.ext y23)) ⟨Tx.names m.name x, rfl, fun _ _ => den_ret fun _ _ _ => ⟨_, rfl, ?_⟩⟩
        simp only [Sy.dens, Sy.den, E.i, E.b, E.t, gd, Env.push, List.cons_append, List.nil_append, List.append_nil, Int.toNat_natCast]
        congr 1
        cases hn : Tx.names m.name x
        · rw [(hnot hn).1, (hnot hn).2]; simp
        · rfl
    · refine den_grow fun W8 x8 => ?_
      have y8 := ext_trans y7 x8
      refine den_app fun a3 c3 W9 _ x9 => ?_
      have y9 := ext_trans y8 x9
      simp only [Env.push, List.cons_append, List.nil_append, List.append_nil]
      refine den_chk (by simp only [Sy.dens, Sy.den, E.i, E.b, E.t, gd, Env.push, List.cons_append, List.nil_append, List.append_nil, Int.toNat_natCast]; exact leB_t (by omega)) ?_
      refine den_grow fun W10 x10 => ?_
      have y10 := ext_trans y9 x10
      refine den_cells (vars.flatMap varC) (by simp only [Sy.dens, Sy.den, E.i, E.b, E.t, gd, Env.push, List.cons_append, List.nil_append, List.append_nil, Int.toNat_natCast]; exact fl) (varC_one vars) (vars_cells (hV.ext y10)).1 (vars_cells (hV.ext y10)).2 ?_
      simp only [Env.push, List.cons_append, List.nil_append, List.append_nil]
      refine den_app fun a4 c4 W11 _ x11 => ?_
      have y11 := ext_trans y10 x11
      simp only [Env.push, List.cons_append, List.nil_append, List.append_nil]
      refine den_chk (by simp only [Sy.dens, Sy.den, E.i, E.b, E.t, gd, Env.push, List.cons_append, List.nil_append, List.append_nil, Int.toNat_natCast]; exact leB_t (by omega)) ?_
      refine den_grow fun W12 x12 => ?_
      have y12 := ext_trans y11 x12
      refine den_app fun a5 c5 W13 _ x13 => ?_
      have y13 := ext_trans y12 x13
      simp only [Env.push, List.cons_append, List.nil_append, List.append_nil]
      refine den_grow fun W14 x14 => ?_
      have y14 := ext_trans y13 x14
      refine den_call_q (fun _ hr => ?_) ⟨(Tx.type (vars ++ [m]) x).1, (Tx.type (vars ++ [m]) x).2, rfl, fun W15 x15 => ?_⟩
      · have h : W14.w.ownsRow W.all.w.heap.size 29 4 (.slice a5 (vars.length + 1) c5) (vars.length + 1) (vars.flatMap varC ++ varC m) := (hr _ (List.mem_cons_self ..)).1
        rw [← flat_snoc] at h
        have hq := tType_q x _ (vars ++ [m]) a5 c5 W14.all hth (by simp; omega) (hx.ext (ext_trans y14 W14.all_ext)) (vars_row h (by simp)) (hT.ext (ext_trans y14 W14.all_ext))
        rw [show (vars ++ [m]).length = vars.length + 1 from by simp] at hq
        exact hq
      have y15 := ext_trans y14 x15
      simp only [Env.push, List.cons_append, List.nil_append, List.append_nil]
      refine den_grow fun W16 x16 => ?_
      have y16 := ext_trans y15 x16
      refine den_br (fun c5 => ?_) fun c5 => ?_
      · exfalso
        simp only [Sy.dens, Sy.den, E.i, E.b, E.t, gd, Env.push, List.cons_append, List.nil_append, List.append_nil, Int.toNat_natCast, Bool.and_eq_true, beq_iff_eq] at c5
        rw [hmore c5.1] at c5
        simp at c5
      · refine den_grow fun W17 x17 => ?_
        have y17 := ext_trans y16 x17
        refine den_app fun a6 c6 W18 _ x18 => ?_
        have y18 := ext_trans y17 x18
        simp only [Env.push, List.cons_append, List.nil_append, List.append_nil]
        refine den_chk (by simp only [Sy.dens, Sy.den, E.i, E.b, E.t, gd, Env.push, List.cons_append, List.nil_append, List.append_nil, Int.toNat_natCast]; exact leB_t (by omega)) ?_
        refine den_grow fun W19 x19 => ?_
        have y19 := ext_trans y18 x19
        refine den_cells (vars.flatMap varC) (by simp only [Sy.dens, Sy.den, E.i, E.b, E.t, gd, Env.push, List.cons_append, List.nil_append, List.append_nil, Int.toNat_natCast]; exact fl) (varC_one vars) (vars_cells (hV.ext y19)).1 (vars_cells (hV.ext y19)).2 ?_
        simp only [Env.push, List.cons_append, List.nil_append, List.append_nil]
        refine den_app fun a7 c7 W20 _ x20 => ?_
        have y20 := ext_trans y19 x20
        simp only [Env.push, List.cons_append, List.nil_append, List.append_nil]
        refine den_grow fun W21 x21 => ?_
        have y21 := ext_trans y20 x21
        refine den_call_q (fun _ hr => ?_) ⟨(Tx.type (m :: vars) x).1, (Tx.type (m :: vars) x).2, rfl, fun W22 x22 => ?_⟩
        · have h : W21.w.ownsRow W.all.w.heap.size 29 4 (.slice a7 (1 + vars.length) c7) (1 + vars.length) (varC m ++ (vars.flatMap varC ++ [])) := (hr _ (List.mem_cons_self ..)).1
          rw [List.append_nil] at h
          have hq := tType_q x _ (m :: vars) a7 c7 W21.all hth (by simp; omega) (hx.ext (ext_trans y21 W21.all_ext)) (vars_row (l := m :: vars) h (by simp; omega)) (hT.ext (ext_trans y21 W21.all_ext))
          rw [show (m :: vars).length = 1 + vars.length from by simp; omega] at hq
          exact hq
        have y22 := ext_trans y21 x22
        simp only [Env.push, List.cons_append, List.nil_append, List.append_nil]
        refine den_grow fun W23 x23 => ?_
        have y23 := ext_trans y22 x23
        refine den_call_q (fun _ _ => names_q 41 x _ m.name W23 hdeep hth (hx.ext y23)) ⟨Tx.names m.name x, rfl, fun _ _ => den_ret fun _ _ _ => ⟨_, rfl, ?_⟩⟩
        simp only [Sy.dens, Sy.den, E.i, E.b, E.t, gd, Env.push, List.cons_append, List.nil_append, List.append_nil, Int.toNat_natCast]
        congr 1
        cases hn : Tx.names m.name x
        · rw [(hnot hn).1, (hnot hn).2]; simp
        · rfl
  · refine den_grow fun W6 x6 => ?_
    have y6 := ext_trans y5 x6
    refine den_app fun a2 c2 W7 _ x7 => ?_
    have y7 := ext_trans y6 x7
    simp only [Env.push, List.cons_append, List.nil_append, List.append_nil]
    refine den_grow fun W8 x8 => ?_
    have y8 := ext_trans y7 x8
    refine den_app fun a3 c3 W9 _ x9 => ?_
    have y9 := ext_trans y8 x9
    simp only [Env.push, List.cons_append, List.nil_append, List.append_nil]
    refine den_chk (by simp only [Sy.dens, Sy.den, E.i, E.b, E.t, gd, Env.push, List.cons_append, List.nil_append, List.append_nil, Int.toNat_natCast]; exact leB_t (by omega)) ?_
    refine den_grow fun W10 x10 => ?_
    have y10 := ext_trans y9 x10
    refine den_cells (vars.flatMap varC) (by simp only [Sy.dens, Sy.den, E.i, E.b, E.t, gd, Env.push, List.cons_append, List.nil_append, List.append_nil, Int.toNat_natCast]; exact fl) (varC_one vars) (vars_cells (hV.ext y10)).1 (vars_cells (hV.ext y10)).2 ?_
    simp only [Env.push, List.cons_append, List.nil_append, List.append_nil]
    refine den_app fun a4 c4 W11 _ x11 => ?_
    have y11 := ext_trans y10 x11
    simp only [Env.push, List.cons_append, List.nil_append, List.append_nil]
    refine den_chk (by simp only [Sy.dens, Sy.den, E.i, E.b, E.t, gd, Env.push, List.cons_append, List.nil_append, List.append_nil, Int.toNat_natCast]; exact leB_t (by omega)) ?_
    refine den_grow fun W12 x12 => ?_
    have y12 := ext_trans y11 x12
    refine den_app fun a5 c5 W13 _ x13 => ?_
    have y13 := ext_trans y12 x13
    simp only [Env.push, List.cons_append, List.nil_append, List.append_nil]
    refine den_grow fun W14 x14 => ?_
    have y14 := ext_trans y13 x14
    refine den_call_q (fun _ hr => ?_) ⟨(Tx.type (vars ++ [m]) x).1, (Tx.type (vars ++ [m]) x).2, rfl, fun W15 x15 => ?_⟩
    · have h : W14.w.ownsRow W.all.w.heap.size 29 4 (.slice a5 (vars.length + 1) c5) (vars.length + 1) (vars.flatMap varC ++ varC m) := (hr _ (List.mem_cons_self ..)).1
      rw [← flat_snoc] at h
      have hq := tType_q x _ (vars ++ [m]) a5 c5 W14.all hth (by simp; omega) (hx.ext (ext_trans y14 W14.all_ext)) (vars_row h (by simp)) (hT.ext (ext_trans y14 W14.all_ext))
      rw [show (vars ++ [m]).length = vars.length + 1 from by simp] at hq
      exact hq
    have y15 := ext_trans y14 x15
    simp only [Env.push, List.cons_append, List.nil_append, List.append_nil]
    refine den_grow fun W16 x16 => ?_
    have y16 := ext_trans y15 x16
    refine den_br (fun c5 => ?_) fun c5 => ?_
    · exfalso
      simp only [Sy.dens, Sy.den, E.i, E.b, E.t, gd, Env.push, List.cons_append, List.nil_append, List.append_nil, Int.toNat_natCast, Bool.and_eq_true, beq_iff_eq] at c5
      rw [hmore c5.1] at c5
      simp at c5
    · refine den_grow fun W17 x17 => ?_
      have y17 := ext_trans y16 x17
      refine den_app fun a6 c6 W18 _ x18 => ?_
      have y18 := ext_trans y17 x18
      simp only [Env.push, List.cons_append, List.nil_append, List.append_nil]
      refine den_chk (by simp only [Sy.dens, Sy.den, E.i, E.b, E.t, gd, Env.push, List.cons_append, List.nil_append, List.append_nil, Int.toNat_natCast]; exact leB_t (by omega)) ?_
      refine den_grow fun W19 x19 => ?_
      have y19 := ext_trans y18 x19
      refine den_cells (vars.flatMap varC) (by simp only [Sy.dens, Sy.den, E.i, E.b, E.t, gd, Env.push, List.cons_append, List.nil_append, List.append_nil, Int.toNat_natCast]; exact fl) (varC_one vars) (vars_cells (hV.ext y19)).1 (vars_cells (hV.ext y19)).2 ?_
      simp only [Env.push, List.cons_append, List.nil_append, List.append_nil]
      refine den_app fun a7 c7 W20 _ x20 => ?_
      have y20 := ext_trans y19 x20
      simp only [Env.push, List.cons_append, List.nil_append, List.append_nil]
      refine den_grow fun W21 x21 => ?_
      have y21 := ext_trans y20 x21
      refine den_call_q (fun _ hr => ?_) ⟨(Tx.type (m :: vars) x).1, (Tx.type (m :: vars) x).2, rfl, fun W22 x22 => ?_⟩
      · have h : W21.w.ownsRow W.all.w.heap.size 29 4 (.slice a7 (1 + vars.length) c7) (1 + vars.length) (varC m ++ (vars.flatMap varC ++ [])) := (hr _ (List.mem_cons_self ..)).1
        rw [List.append_nil] at h
        have hq := tType_q x _ (m :: vars) a7 c7 W21.all hth (by simp; omega) (hx.ext (ext_trans y21 W21.all_ext)) (vars_row (l := m :: vars) h (by simp; omega)) (hT.ext (ext_trans y21 W21.all_ext))
        rw [show (m :: vars).length = 1 + vars.length from by simp; omega] at hq
        exact hq
      have y22 := ext_trans y21 x22
      simp only [Env.push, List.cons_append, List.nil_append, List.append_nil]
      refine den_grow fun W23 x23 => ?_
      have y23 := ext_trans y22 x23
      refine den_call_q (fun _ _ => names_q 41 x _ m.name W23 hdeep hth (hx.ext y23)) ⟨Tx.names m.name x, rfl, fun _ _ => den_ret fun _ _ _ => ⟨_, rfl, ?_⟩⟩
      simp only [Sy.dens, Sy.den, E.i, E.b, E.t, gd, Env.push, List.cons_append, List.nil_append, List.append_nil, Int.toNat_natCast]
      congr 1
      cases hn : Tx.names m.name x
      · rw [(hnot hn).1, (hnot hn).2]; simp
      · rfl
end Go.Proofs.YtijinopghlpdbaaDoor
