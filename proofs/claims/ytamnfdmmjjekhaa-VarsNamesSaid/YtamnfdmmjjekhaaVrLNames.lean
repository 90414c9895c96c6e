/- VarsNames: the walk (printed by gen_vrnames.py). -/
import Derived.Test.YtamnfdmmjjekhaaVrLEnv
import Derived.Test.YtamnfdmmjjekhaaVrSame
import Derived.Test.YtamnfdmmjjekhaaVcVars9
namespace Vr
open Go
def A : Bs := [97]
def Q : Bs := [113]
def ringL : List It := [⟨1, 6, 1, [], 7, 0, 0, []⟩, ⟨2, 1, 2, [], 1, 0, 0, []⟩, ⟨3, 2, 1, [], 1, 0, 0, []⟩, ⟨4, 3, 2, [], 2, 0, 0, []⟩, ⟨5, 4, 1, [], -1, 0, 0, []⟩, ⟨6, 3, 1, [], 4, 0, 0, []⟩]
def csA : List Ce := [⟨1, A, ⟨1, 2, []⟩⟩, ⟨1, X, ⟨1, 1, []⟩⟩]
def csB : List Ce := [⟨1, A, ⟨1, 2, []⟩⟩, ⟨1, X, ⟨1, 1, []⟩⟩, ⟨6, X, ⟨1, 3, []⟩⟩]
def csC : List Ce := [⟨1, A, ⟨1, 5, []⟩⟩, ⟨1, X, ⟨1, 1, []⟩⟩, ⟨6, X, ⟨1, 6, []⟩⟩]
def csD : List Ce := [⟨1, A, ⟨1, 2, []⟩⟩, ⟨1, X, ⟨1, 8, []⟩⟩, ⟨6, X, ⟨1, 3, []⟩⟩]
theorem of_dec {l r : List Ce} (hs : St.Srt lt r) (hp : r.Perm l) (hf : ∀ x ∈ l, r.filter (St.eqv lt x) = l.filter (St.eqv lt x)) : St.Of lt l r := by
  refine ⟨hs, hp, fun z => ?_⟩
  by_cases hz : ∃ x ∈ l, St.eqv lt z x = true
  · obtain ⟨x, hx, e⟩ := hz
    have hq : St.eqv lt z = St.eqv lt x := by
      funext y
      rw [eqv_eq] at e
      simp only [Bool.and_eq_true, decide_eq_true_eq] at e
      rw [eqv_eq, eqv_eq, e.1, e.2]
    rw [hq]; exact hf x hx
  · have h0 : ∀ x ∈ l, ¬ St.eqv lt z x = true := fun x hx h => hz ⟨x, hx, h⟩
    rw [List.filter_eq_nil_iff.2 h0, List.filter_eq_nil_iff.2 fun x hx => h0 x (hp.mem_iff.1 hx)]
end Vr
namespace Go.Proofs.Ytamnfdmmjjekhaa
open Go Go.RowKit Go.SF
set_option linter.unusedSimpArgs false
set_option linter.unusedVariables false
def stS (a : Option Addr) (c : Nat) (C : Vr.Sl) : Vr.StV := { ck := 0, nx := 6, d := ⟨none, 0, 0⟩, i := ⟨a, 6, c⟩, c := C, h := ⟨none, 0, 0⟩ }
theorem tower_one : ∀ u ∈ Vr.towerL.flatMap Vr.It.enc, u.oneCell' = true := fun u hu => by
  obtain ⟨x, _, h⟩ := List.mem_flatMap.1 hu
  simp only [Vr.It.enc, List.mem_cons, List.not_mem_nil, or_false] at h
  rcases h with rfl | rfl | rfl | rfl | rfl | rfl | rfl | rfl <;> rfl
theorem ring_ups : ∀ x ∈ Vr.ringL, (Lit.int .i64 x.up).wf = true := by decide
theorem hC0 (w : World) : SlW w none 0 0 5 (([] : List Vr.Ce).flatMap Vr.Ce.enc) := ⟨rfl, Nat.le_refl _, .inl ⟨trivial, rfl, rfl⟩⟩
theorem qst_s (a : Option Addr) (c : Nat) (C : Vr.Sl) (W : Wd) : QSt W (stS a c C) := ⟨⟨[], by decide, ⟨rfl, Nat.le_refl _, .inl ⟨trivial, rfl, rfl⟩⟩, fun y hy => by cases hy⟩, [], by decide, ⟨rfl, Nat.le_refl _, .inl ⟨trivial, rfl, rfl⟩⟩⟩
theorem towerr_i (W : Wd) : CallsI Try.prog 21 #[] W.all fun v w' => ∃ a c, v = (stS a c ⟨none, 0, 0⟩).val ∧ w'.ownsRow W.w.heap.size 54 8 (.slice a 6 c) 6 (Vr.towerL.flatMap Vr.It.enc) := by
  refine vc_towerr W.all _ ?_
  exact den_new fun m W1 _ x1 => den_app fun a c W2 ha x2 => den_wr fun W3 x3 => den_ret fun _ _ hR => ⟨_, rfl, a, c, rfl, (hR _ (List.mem_cons_self ..)).1⟩
theorem den_newfv {P : Program} {n0 : Nat} {R : Ending → World → Prop} {Lo : Lv} {ρ : Env} {W : Wd} {ty : TypeId} {cs : List Sy} {t : Tree} {L : List Value} {n sz : Nat} (hL : Sy.dens ρ cs = L) (hl : L.length = n * sz)
    (h : ∀ a W', Ext W W' → SlI W' a n n sz L → t.den P n0 R Lo (ρ.push { A := [a] }) W') : (Tree.newf ty cs t).den P n0 R Lo ρ W :=
  den_newf fun m W' _ x hI hc => h _ W' x (by subst hL; exact sl_block hc rfl hl hI)
theorem sees_c (W : Wd) (a1 : Option Addr) (c1 : Nat) (a : Option Addr) (c : Nat) (cs : List Vr.Ce) {n : Nat} (hl : cs.length = n) (sc : Int) (hw : (Lit.int .i64 sc).wf = true) (nm : Vr.Bs) (wh v : Int)
    (h1 : SlW W.w a1 6 c1 8 (Vr.towerL.flatMap Vr.It.enc)) (h2 : SlW W.w a n c 5 (cs.flatMap Vr.Ce.enc)) (h3 : Vr.sees Vr.towerL cs sc nm wh v = true) (hc : cs.length ≤ 1000000 := by decide) :
    CallsQ Try.prog 24 #[(stS a1 c1 ⟨a, n, c⟩).val, .int .i64 sc, .string ⟨nm.toArray⟩, .int .i64 wh, .int .i64 v] W (.bool true) := by
  have := sees_q (stS a1 c1 ⟨a, n, c⟩) Vr.towerL (by decide) tower_ups cs hc sc hw nm wh v W h1 h2
  rw [h3] at this
  exact this
theorem of_1 : St.Of Vr.lt (Vr.opened 1 ([⟨Vr.X, ⟨1, 1, []⟩⟩, ⟨Vr.A, ⟨1, 2, []⟩⟩, ⟨Vr.X, ⟨1, 9, []⟩⟩] : List Vr.Va) ([] : List Vr.Ce)) Vr.csA := Vr.of_dec (by unfold St.Srt; decide) (by decide) (by decide)
theorem of_2 : St.Of Vr.lt (Vr.opened 6 (Vr.one Vr.X 3) Vr.csA) Vr.csB := Vr.of_dec (by unfold St.Srt; decide) (by decide) (by decide)
theorem of_3 : St.Of Vr.lt (Vr.opened 1 (Vr.one Vr.X 8) Vr.csB) Vr.csD := Vr.of_dec (by unfold St.Srt; decide) (by decide) (by decide)
set_option maxRecDepth 100000 in
theorem l_lnames_4 (n0 : Nat) (Nv3 : Nat) (Nv13 : Nat) (Nv23 : Nat) (Nv27 : Nat) (Nv29 : Nat) (Nv31 : Nat) (Nv33 : Nat) (Nv35 : Nat) (Nv65 : Nat) (Nv73 : Nat) (Nv79 : Nat) (Nv85 : Nat) (Av1 : Option Addr) (Av4 : Option Addr) (Av7 : Option Addr) (Av9 : Option Addr) (Av12 : Option Addr) (Av14 : Option Addr) (Av15 : Option Addr) (Av16 : Option Addr) (Av17 : Option Addr) (Av18 : Option Addr) (Av19 : Option Addr) (Av20 : Option Addr) (Av25 : Option Addr) (Av30 : Option Addr) (Av35 : Option Addr) (Av38 : Option Addr) (Av40 : Option Addr) (Av43 : Option Addr) (Av46 : Option Addr) (Av49 : Option Addr) (Av50 : Option Addr) (Mv0 : Nat) (Mv1 : Nat) (Mv2 : Nat) (Mv3 : Nat) (Mv4 : Nat) (Mv5 : Nat) (Mv6 : Nat) (Lv1 : List Value) (Lv2 : List Value) (W : Wd) (hn : n0 ≤ W.w.heap.size) (hs1 : Av1.isSome = true) (hAv12 : SlI W Av12 3 Nv23 5 (Vr.csB.flatMap Vr.Ce.enc)) (hs46 : Av46.isSome = true)  :
    t_lnames_4.den Try.prog n0 (Ret fun u x => u = Value.bool true) [] { I := [0, 6, 0, 6, 0, 6, 0, 6, 22, 0, 6, 23, 0, 6, 23, 0, 6, 0, 0, 6, 0, 6], N := [0, 0, 6, Nv3, 0, 0, 0, 0, 0, 0, 6, Nv3, 2, Nv13, 0, 0, 1, 1, 0, 0, 6, Nv3, 3, Nv23, 0, 0, 3, Nv27, 0, Nv29, 0, Nv31, 3, Nv33, 2, Nv35, 0, 0, 6, Nv3, 3, Nv23, 0, 0, 0, 0, 6, Nv3, 3, Nv23, 0, 0, 0, 0, 6, Nv3, 3, Nv23, 0, 0, 0, 0, 6, Nv3, 3, Nv65, 0, 0, 0, 0, 6, Nv3, 2, Nv73, 0, 0, 0, 0, 6, Nv79, 0, 0, 0, 0, 3, Nv85], B := [true, true, true, true, true, true, true, true, true, true, true, true], T := [⟨(Vr.A : Vr.Bs).toArray⟩], A := [none, Av1, none, none, Av4, none, Av1, Av7, none, Av9, none, Av1, Av12, none, Av14, Av15, Av16, Av17, Av18, Av19, Av20, none, Av1, Av12, none, Av25, none, Av1, Av12, none, Av30, none, Av1, Av12, none, Av35, none, Av1, Av38, none, Av40, none, Av1, Av43, none, none, Av46, none, none, Av49, Av50], M := [Mv0, Mv1, Mv2, Mv3, Mv4, Mv5, Mv6], L := [(Vr.towerL.flatMap Vr.It.enc), Lv1, Lv2, (Vr.ringL.flatMap Vr.It.enc)] } W := by
  refine den_grow fun W72 x72 => ?_
  have hn := Nat.le_trans hn x72.size
  have hAv12 := hAv12.ext x72
  refine den_call_i (fun _ _ => one_i Vr.X 8 W72) fun v w _ h => ?_
  obtain ⟨Av51, rfl, hz⟩ := h
  refine ExE.mk (d := { N := [1, 1], A := [Av51] }) ⟨rfl, fun v hv => by cases hv⟩ ⟨rfl, fun W73 e x73 n => ?_⟩
  have hAv51 := hz.stay e n
  simp only [Env.push, List.cons_append, List.nil_append, List.append_nil]
  have hn := Nat.le_trans hn x73.size
  have hAv12 := hAv12.ext x73
  refine den_grow fun W74 x74 => ?_
  have hn := Nat.le_trans hn x74.size
  have hAv12 := hAv12.ext x74
  have hAv51 := hAv51.ext x74
  refine den_call_i (fun _ _ => open_i (stS Av1 Nv3 ⟨Av12, 3, Nv23⟩) Vr.csB (by decide) (Vr.one Vr.X 8) (by decide) 1 ⟨Av51, 1, 1⟩ W74 (SlAt.w hAv12) (SlAt.w hAv51)) fun v w _ h => ?_
  obtain ⟨r, hr, Av54, Nv93, rfl, hz⟩ := h
  obtain rfl : r = Vr.csD := hr.eq Vr.wo of_3
  refine ExE.mk (d := { I := [0, 6], N := [0, 0, 6, Nv3, 3, Nv93, 0, 0], A := [none, Av1, Av54, none] }) ⟨rfl, fun v hv => by cases hv⟩ ⟨rfl, fun W75 e x75 n => ?_⟩
  have hAv54 := hz.stay e n
  simp only [Env.push, List.cons_append, List.nil_append, List.append_nil]
  have hn := Nat.le_trans hn x75.size
  have hAv12 := hAv12.ext x75
  have hAv51 := hAv51.ext x75
  refine den_grow fun W76 x76 => ?_
  have hn := Nat.le_trans hn x76.size
  have hAv12 := hAv12.ext x76
  have hAv51 := hAv51.ext x76
  have hAv54 := hAv54.ext x76
  refine den_call_q (fun _ hR => sees_c W76 Av1 Nv3 Av54 Nv93 Vr.csD rfl 1 rfl Vr.X (1) 8 (owns_sl  (e := 54) (sz := 8) (a := Av1) (n := 6) (c := Nv3) (k := 6) (xs := (Vr.towerL.flatMap Vr.It.enc)) (hR _ (List.mem_cons_of_mem _ (List.mem_cons_self ..))).1).w (SlAt.w hAv54) (by decide +kernel)) ⟨true, rfl, fun W77 x77 => ?_⟩
  simp only [Env.push, List.cons_append, List.nil_append, List.append_nil]
  have hn := Nat.le_trans hn x77.size
  have hAv12 := hAv12.ext x77
  have hAv51 := hAv51.ext x77
  have hAv54 := hAv54.ext x77
  refine den_grow fun W78 x78 => ?_
  have hn := Nat.le_trans hn x78.size
  have hAv12 := hAv12.ext x78
  have hAv51 := hAv51.ext x78
  have hAv54 := hAv54.ext x78
  exact den_ret fun _ _ _ => ⟨_, rfl, rfl⟩

set_option maxRecDepth 100000 in
theorem l_lnames_11 (n0 : Nat) (Nv3 : Nat) (Nv13 : Nat) (Nv23 : Nat) (Nv27 : Nat) (Nv29 : Nat) (Nv31 : Nat) (Nv33 : Nat) (Nv35 : Nat) (Nv65 : Nat) (Nv73 : Nat) (Nv79 : Nat) (Av1 : Option Addr) (Av4 : Option Addr) (Av7 : Option Addr) (Av9 : Option Addr) (Av12 : Option Addr) (Av14 : Option Addr) (Av15 : Option Addr) (Av16 : Option Addr) (Av17 : Option Addr) (Av18 : Option Addr) (Av19 : Option Addr) (Av20 : Option Addr) (Av25 : Option Addr) (Av30 : Option Addr) (Av35 : Option Addr) (Av38 : Option Addr) (Av40 : Option Addr) (Av43 : Option Addr) (Av46 : Option Addr) (Mv0 : Nat) (Mv1 : Nat) (Mv2 : Nat) (Mv3 : Nat) (Mv4 : Nat) (Mv5 : Nat) (Mv6 : Nat) (Lv1 : List Value) (Lv2 : List Value) (Lv3 : List Value) (W : Wd) (hn : n0 ≤ W.w.heap.size) (hs1 : Av1.isSome = true) (hAv12 : SlI W Av12 3 Nv23 5 (Vr.csB.flatMap Vr.Ce.enc)) (hAv43 : SlI W Av43 2 Nv73 5 (Vr.csA.flatMap Vr.Ce.enc)) (hs46 : Av46.isSome = true) (hLr : Lv3 = Vr.ringL.flatMap Vr.It.enc) :
    t_lnames_11.den Try.prog n0 (Ret fun u x => u = Value.bool true) [] { I := [0, 6, 0, 6, 0, 6, 0, 6, 22, 0, 6, 23, 0, 6, 23, 0, 6, 0, 0, 6, 0, 6], N := [0, 0, 6, Nv3, 0, 0, 0, 0, 0, 0, 6, Nv3, 2, Nv13, 0, 0, 1, 1, 0, 0, 6, Nv3, 3, Nv23, 0, 0, 3, Nv27, 0, Nv29, 0, Nv31, 3, Nv33, 2, Nv35, 0, 0, 6, Nv3, 3, Nv23, 0, 0, 0, 0, 6, Nv3, 3, Nv23, 0, 0, 0, 0, 6, Nv3, 3, Nv23, 0, 0, 0, 0, 6, Nv3, 3, Nv65, 0, 0, 0, 0, 6, Nv3, 2, Nv73, 0, 0, 0, 0, 6, Nv79, 0, 0, 0, 0], B := [true, true, true, true, true, true, true, true, true, true], T := [⟨(Vr.A : Vr.Bs).toArray⟩], A := [none, Av1, none, none, Av4, none, Av1, Av7, none, Av9, none, Av1, Av12, none, Av14, Av15, Av16, Av17, Av18, Av19, Av20, none, Av1, Av12, none, Av25, none, Av1, Av12, none, Av30, none, Av1, Av12, none, Av35, none, Av1, Av38, none, Av40, none, Av1, Av43, none, none, Av46, none, none], M := [Mv0, Mv1, Mv2, Mv3, Mv4, Mv5, Mv6], L := [(Vr.towerL.flatMap Vr.It.enc), Lv1, Lv2, Lv3] } W := by
  subst hLr
  refine den_grow fun W64 x64 => ?_
  have hn := Nat.le_trans hn x64.size
  have hAv12 := hAv12.ext x64
  have hAv43 := hAv43.ext x64
  refine den_call_q (fun _ hR => sees_c W64 Av1 Nv3 Av43 Nv73 Vr.csA rfl 6 rfl Vr.X (1) 1 (owns_sl  (e := 54) (sz := 8) (a := Av1) (n := 6) (c := Nv3) (k := 6) (xs := (Vr.towerL.flatMap Vr.It.enc)) (hR _ (List.mem_cons_of_mem _ (List.mem_cons_self ..))).1).w (SlAt.w hAv43) (by decide +kernel)) ⟨true, rfl, fun W65 x65 => ?_⟩
  simp only [Env.push, List.cons_append, List.nil_append, List.append_nil]
  have hn := Nat.le_trans hn x65.size
  have hAv12 := hAv12.ext x65
  have hAv43 := hAv43.ext x65
  refine den_br_t rfl ?_
  refine den_both ?_ ?_
  · refine den_grow fun W66 x66 => ?_
    have hn := Nat.le_trans hn x66.size
    have hAv12 := hAv12.ext x66
    have hAv43 := hAv43.ext x66
    refine den_call_i (fun _ hR => wayL_i (stS Av46 Nv79 ⟨none, 0, 0⟩) Vr.ringL (by decide) ring_ups 3 rfl W66 (owns_sl  (e := 54) (sz := 8) (a := Av46) (n := 6) (c := Nv79) (k := 6) (xs := Vr.ringL.flatMap Vr.It.enc) (hR _ (List.mem_cons_self ..)).1).w) fun v w _ h => ?_
    rw [show Vr.way Vr.ringL 3 = [3, 1, 6] from by decide +kernel] at h
    obtain ⟨Av49, Nv85, rfl, hz⟩ := h
    refine ExE.mk (d := { N := [3, Nv85], A := [Av49] }) ⟨rfl, fun v hv => by cases hv⟩ ⟨rfl, fun W67 e x67 n => ?_⟩
    have hAv49 := hz.stay e n
    simp only [Env.push, List.cons_append, List.nil_append, List.append_nil]
    have hn := Nat.le_trans hn x67.size
    have hAv12 := hAv12.ext x67
    have hAv43 := hAv43.ext x67
    refine den_grow fun W68 x68 => ?_
    have hn := Nat.le_trans hn x68.size
    have hAv12 := hAv12.ext x68
    have hAv43 := hAv43.ext x68
    have hAv49 := hAv49.ext x68
    refine den_newfv (L := (([3, 1, 6] : List Int).map (Value.int .i64))) (n := 3) (sz := 1) rfl rfl fun Av50 W69 x69 hAv50 => ?_
    simp only [Env.push, List.cons_append, List.nil_append, List.append_nil]
    have hn := Nat.le_trans hn x69.size
    have hAv12 := hAv12.ext x69
    have hAv43 := hAv43.ext x69
    have hAv49 := hAv49.ext x69
    refine den_grow fun W70 x70 => ?_
    have hn := Nat.le_trans hn x70.size
    have hAv12 := hAv12.ext x70
    have hAv43 := hAv43.ext x70
    have hAv49 := hAv49.ext x70
    have hAv50 := hAv50.ext x70
    refine den_call_q (fun _ hR => ints_q [3, 1, 6] [3, 1, 6] (by decide) Av49 Av50 3 Nv85 3 3 W70 (SlAt.w hAv49) (SlAt.w hAv50)) ⟨true, rfl, fun W71 x71 => ?_⟩
    simp only [Env.push, List.cons_append, List.nil_append, List.append_nil]
    have hn := Nat.le_trans hn x71.size
    have hAv12 := hAv12.ext x71
    have hAv43 := hAv43.ext x71
    have hAv49 := hAv49.ext x71
    have hAv50 := hAv50.ext x71
    refine den_br_t rfl ?_
    exact l_lnames_4 _ Nv3 Nv13 Nv23 Nv27 Nv29 Nv31 Nv33 Nv35 Nv65 Nv73 Nv79 Nv85 Av1 Av4 Av7 Av9 Av12 Av14 Av15 Av16 Av17 Av18 Av19 Av20 Av25 Av30 Av35 Av38 Av40 Av43 Av46 Av49 Av50 Mv0 Mv1 Mv2 Mv3 Mv4 Mv5 Mv6 Lv1 Lv2 W71 hn hs1 hAv12 hs46
  · refine den_grow fun W79 x79 => ?_
    have hn := Nat.le_trans hn x79.size
    have hAv12 := hAv12.ext x79
    have hAv43 := hAv43.ext x79
    refine den_newfv (L := (([3, 1, 6] : List Int).map (Value.int .i64))) (n := 3) (sz := 1) rfl rfl fun Av49 W80 x80 hAv49 => ?_
    simp only [Env.push, List.cons_append, List.nil_append, List.append_nil]
    have hn := Nat.le_trans hn x80.size
    have hAv12 := hAv12.ext x80
    have hAv43 := hAv43.ext x80
    refine den_grow fun W81 x81 => ?_
    have hn := Nat.le_trans hn x81.size
    have hAv12 := hAv12.ext x81
    have hAv43 := hAv43.ext x81
    have hAv49 := hAv49.ext x81
    refine den_call_i (fun _ hR => wayL_i (stS Av46 Nv79 ⟨none, 0, 0⟩) Vr.ringL (by decide) ring_ups 3 rfl W81 (owns_sl  (e := 54) (sz := 8) (a := Av46) (n := 6) (c := Nv79) (k := 6) (xs := Vr.ringL.flatMap Vr.It.enc) (hR _ (List.mem_cons_self ..)).1).w) fun v w _ h => ?_
    rw [show Vr.way Vr.ringL 3 = [3, 1, 6] from by decide +kernel] at h
    obtain ⟨Av50, Nv85, rfl, hz⟩ := h
    refine ExE.mk (d := { N := [3, Nv85], A := [Av50] }) ⟨rfl, fun v hv => by cases hv⟩ ⟨rfl, fun W82 e x82 n => ?_⟩
    have hAv50 := hz.stay e n
    simp only [Env.push, List.cons_append, List.nil_append, List.append_nil]
    have hn := Nat.le_trans hn x82.size
    have hAv12 := hAv12.ext x82
    have hAv43 := hAv43.ext x82
    have hAv49 := hAv49.ext x82
    refine den_grow fun W83 x83 => ?_
    have hn := Nat.le_trans hn x83.size
    have hAv12 := hAv12.ext x83
    have hAv43 := hAv43.ext x83
    have hAv49 := hAv49.ext x83
    have hAv50 := hAv50.ext x83
    refine den_call_q (fun _ hR => ints_q [3, 1, 6] [3, 1, 6] (by decide) Av50 Av49 3 Nv85 3 3 W83 (SlAt.w hAv50) (SlAt.w hAv49)) ⟨true, rfl, fun W84 x84 => ?_⟩
    simp only [Env.push, List.cons_append, List.nil_append, List.append_nil]
    have hn := Nat.le_trans hn x84.size
    have hAv12 := hAv12.ext x84
    have hAv43 := hAv43.ext x84
    have hAv49 := hAv49.ext x84
    have hAv50 := hAv50.ext x84
    refine den_br_t rfl ?_
    exact l_lnames_4 _ Nv3 Nv13 Nv23 Nv27 Nv29 Nv31 Nv33 Nv35 Nv65 Nv73 Nv79 Nv85 Av1 Av4 Av7 Av9 Av12 Av14 Av15 Av16 Av17 Av18 Av19 Av20 Av25 Av30 Av35 Av38 Av40 Av43 Av46 Av49 Av50 Mv0 Mv1 Mv2 Mv3 Mv4 Mv5 Mv6 Lv1 Lv2 W84 hn hs1 hAv12 hs46

set_option maxRecDepth 100000 in
theorem l_lnames_24 (n0 : Nat) (Nv3 : Nat) (Nv13 : Nat) (Nv23 : Nat) (Nv27 : Nat) (Nv29 : Nat) (Nv31 : Nat) (Nv33 : Nat) (Nv35 : Nat) (Nv65 : Nat) (Av1 : Option Addr) (Av4 : Option Addr) (Av7 : Option Addr) (Av9 : Option Addr) (Av12 : Option Addr) (Av14 : Option Addr) (Av15 : Option Addr) (Av16 : Option Addr) (Av17 : Option Addr) (Av18 : Option Addr) (Av19 : Option Addr) (Av20 : Option Addr) (Av25 : Option Addr) (Av30 : Option Addr) (Av35 : Option Addr) (Av38 : Option Addr) (Mv0 : Nat) (Mv1 : Nat) (Mv2 : Nat) (Mv3 : Nat) (Mv4 : Nat) (W : Wd) (hn : n0 ≤ W.w.heap.size) (hs1 : Av1.isSome = true) (hAv12 : SlI W Av12 3 Nv23 5 (Vr.csB.flatMap Vr.Ce.enc)) (hAv38 : SlI W Av38 3 Nv65 5 (Vr.csC.flatMap Vr.Ce.enc))  :
    t_lnames_24.den Try.prog n0 (Ret fun u x => u = Value.bool true) [] { I := [0, 6, 0, 6, 0, 6, 0, 6, 22, 0, 6, 23, 0, 6, 23, 0, 6, 0], N := [0, 0, 6, Nv3, 0, 0, 0, 0, 0, 0, 6, Nv3, 2, Nv13, 0, 0, 1, 1, 0, 0, 6, Nv3, 3, Nv23, 0, 0, 3, Nv27, 0, Nv29, 0, Nv31, 3, Nv33, 2, Nv35, 0, 0, 6, Nv3, 3, Nv23, 0, 0, 0, 0, 6, Nv3, 3, Nv23, 0, 0, 0, 0, 6, Nv3, 3, Nv23, 0, 0, 0, 0, 6, Nv3, 3, Nv65, 0, 0], B := [true, true, true, true, true], T := [⟨(Vr.A : Vr.Bs).toArray⟩], A := [none, Av1, none, none, Av4, none, Av1, Av7, none, Av9, none, Av1, Av12, none, Av14, Av15, Av16, Av17, Av18, Av19, Av20, none, Av1, Av12, none, Av25, none, Av1, Av12, none, Av30, none, Av1, Av12, none, Av35, none, Av1, Av38, none], M := [Mv0, Mv1, Mv2, Mv3, Mv4], L := [(Vr.towerL.flatMap Vr.It.enc)] } W := by
  refine den_call_q (fun _ hR => rs18_q (stS Av1 Nv3 ⟨Av12, 3, Nv23⟩) ⟨Av12, 3, Nv23⟩ Vr.towerL (by decide) Vr.csB (by decide) W.all (qst_s _ _ _ _) (SlW.all (owns_sl  (e := 54) (sz := 8) (a := Av1) (n := 6) (c := Nv3) (k := 6) (xs := (Vr.towerL.flatMap Vr.It.enc)) (hR _ (List.mem_cons_self ..)).1).w) (SlW.all (SlAt.w hAv12)) (SlW.all (SlAt.w hAv12))) ⟨true, rfl, fun W48 x48 => ?_⟩
  simp only [Env.push, List.cons_append, List.nil_append, List.append_nil]
  have hn := Nat.le_trans hn x48.size
  have hAv12 := hAv12.ext x48
  have hAv38 := hAv38.ext x48
  refine den_br_t rfl ?_
  refine den_call_q (fun _ hR => rs18_q (stS Av1 Nv3 ⟨Av12, 3, Nv23⟩) ⟨Av12, 3, Nv23⟩ Vr.towerL (by decide) Vr.csB (by decide) W48.all (qst_s _ _ _ _) (SlW.all (owns_sl  (e := 54) (sz := 8) (a := Av1) (n := 6) (c := Nv3) (k := 6) (xs := (Vr.towerL.flatMap Vr.It.enc)) (hR _ (List.mem_cons_self ..)).1).w) (SlW.all (SlAt.w hAv12)) (SlW.all (SlAt.w hAv12))) ⟨true, rfl, fun W49 x49 => ?_⟩
  simp only [Env.push, List.cons_append, List.nil_append, List.append_nil]
  have hn := Nat.le_trans hn x49.size
  have hAv12 := hAv12.ext x49
  have hAv38 := hAv38.ext x49
  refine den_br_t rfl ?_
  refine den_call_q (fun _ hR => sees_c W49 Av1 Nv3 Av38 Nv65 Vr.csC rfl 6 rfl Vr.X (6) 6 (owns_sl  (e := 54) (sz := 8) (a := Av1) (n := 6) (c := Nv3) (k := 6) (xs := (Vr.towerL.flatMap Vr.It.enc)) (hR _ (List.mem_cons_self ..)).1).w (SlAt.w hAv38) (by decide +kernel)) ⟨true, rfl, fun W50 x50 => ?_⟩
  simp only [Env.push, List.cons_append, List.nil_append, List.append_nil]
  have hn := Nat.le_trans hn x50.size
  have hAv12 := hAv12.ext x50
  have hAv38 := hAv38.ext x50
  refine den_br_t rfl ?_
  refine den_call_q (fun _ hR => sees_c W50 Av1 Nv3 Av38 Nv65 Vr.csC rfl 1 rfl Vr.A (1) 5 (owns_sl  (e := 54) (sz := 8) (a := Av1) (n := 6) (c := Nv3) (k := 6) (xs := (Vr.towerL.flatMap Vr.It.enc)) (hR _ (List.mem_cons_self ..)).1).w (SlAt.w hAv38) (by decide +kernel)) ⟨true, rfl, fun W51 x51 => ?_⟩
  simp only [Env.push, List.cons_append, List.nil_append, List.append_nil]
  have hn := Nat.le_trans hn x51.size
  have hAv12 := hAv12.ext x51
  have hAv38 := hAv38.ext x51
  refine den_br_t rfl ?_
  refine den_call_q (fun _ hR => sees_c W51 Av1 Nv3 Av38 Nv65 Vr.csC rfl 1 rfl Vr.X (1) 1 (owns_sl  (e := 54) (sz := 8) (a := Av1) (n := 6) (c := Nv3) (k := 6) (xs := (Vr.towerL.flatMap Vr.It.enc)) (hR _ (List.mem_cons_self ..)).1).w (SlAt.w hAv38) (by decide +kernel)) ⟨true, rfl, fun W52 x52 => ?_⟩
  simp only [Env.push, List.cons_append, List.nil_append, List.append_nil]
  have hn := Nat.le_trans hn x52.size
  have hAv12 := hAv12.ext x52
  have hAv38 := hAv38.ext x52
  refine den_br_f rfl ?_
  refine den_newfv (L := (([6, 9] : List Int).map (Value.int .i64))) (n := 2) (sz := 1) rfl rfl fun Av40 W53 x53 hAv40 => ?_
  simp only [Env.push, List.cons_append, List.nil_append, List.append_nil]
  have hn := Nat.le_trans hn x53.size
  have hAv12 := hAv12.ext x53
  have hAv38 := hAv38.ext x53
  refine den_call_i (fun _ hR => drop_i (stS Av1 Nv3 ⟨Av12, 3, Nv23⟩) Vr.csB (by decide) [6, 9] (by decide) ⟨Av40, 2, 2⟩ W53 (SlAt.w hAv12) (SlAt.w hAv40)) fun v w _ h => ?_
  rw [show (Vr.csB.filter fun x => !Vr.isIn [6, 9] x) = Vr.csA from by decide +kernel] at h
  obtain ⟨Av43, Nv73, rfl, hz⟩ := h
  refine ExE.mk (d := { I := [0, 6], N := [0, 0, 6, Nv3, 2, Nv73, 0, 0], A := [none, Av1, Av43, none] }) ⟨rfl, fun v hv => by cases hv⟩ ⟨rfl, fun W54 e x54 n => ?_⟩
  have hAv43 := hz.stay e n
  simp only [Env.push, List.cons_append, List.nil_append, List.append_nil]
  have hn := Nat.le_trans hn x54.size
  have hAv12 := hAv12.ext x54
  have hAv38 := hAv38.ext x54
  have hAv40 := hAv40.ext x54
  refine den_new fun Mv5 W55 _ x55 => ?_
  simp only [Env.push, List.cons_append, List.nil_append, List.append_nil]
  have hn := Nat.le_trans hn x55.size
  have hAv12 := hAv12.ext x55
  have hAv38 := hAv38.ext x55
  have hAv40 := hAv40.ext x55
  have hAv43 := hAv43.ext x55
  refine den_wr fun W56 x56 => ?_
  have hn := Nat.le_trans hn x56.size
  have hAv12 := hAv12.ext x56
  have hAv38 := hAv38.ext x56
  have hAv40 := hAv40.ext x56
  have hAv43 := hAv43.ext x56
  refine den_callr_i (fun _ _ => towerr_i W56) fun v w _ h => ?_
  obtain ⟨Av46, Nv79, rfl, hr⟩ := h
  refine ExE.mk (d := { I := [0, 6], N := [0, 0, 6, Nv79, 0, 0, 0, 0], A := [none, Av46, none, none], L := [Vr.towerL.flatMap Vr.It.enc] }) ⟨rfl, fun v hv => by cases hv⟩ ⟨rfl, rowsNew_one hn (by simpa [conts, Seg.den, gd, Env.push, Sy.den, E.i] using hr) (by simpa [conts, Seg.den, gd, Env.push] using tower_one), fun W57 e x57 n => ?_⟩
  have hs46 := (SlW.all (W := ⟨w, fun _ => False, fun _ h => h.elim⟩) (owns_sl hr).w).some_of (by decide)
  simp only [Env.push, List.cons_append, List.nil_append, List.append_nil]
  have hn := Nat.le_trans hn x57.size
  have hAv12 := hAv12.ext x57
  have hAv38 := hAv38.ext x57
  have hAv40 := hAv40.ext x57
  have hAv43 := hAv43.ext x57
  refine den_new fun Mv6 W58 _ x58 => ?_
  simp only [Env.push, List.cons_append, List.nil_append, List.append_nil]
  have hn := Nat.le_trans hn x58.size
  have hAv12 := hAv12.ext x58
  have hAv38 := hAv38.ext x58
  have hAv40 := hAv40.ext x58
  have hAv43 := hAv43.ext x58
  refine den_wr fun W59 x59 => ?_
  have hn := Nat.le_trans hn x59.size
  have hAv12 := hAv12.ext x59
  have hAv38 := hAv38.ext x59
  have hAv40 := hAv40.ext x59
  have hAv43 := hAv43.ext x59
  refine den_chk (show Option.isSome _ = true from hs46) ?_
  refine den_chk rfl ?_
  refine den_grow fun W60 x60 => ?_
  have hn := Nat.le_trans hn x60.size
  have hAv12 := hAv12.ext x60
  have hAv38 := hAv38.ext x60
  have hAv40 := hAv40.ext x60
  have hAv43 := hAv43.ext x60
  refine den_rset fun W61 x61 => ?_
  simp only [Env.push, List.cons_append, List.nil_append, List.append_nil]
  have hn := Nat.le_trans hn x61.size
  have hAv12 := hAv12.ext x61
  have hAv38 := hAv38.ext x61
  have hAv40 := hAv40.ext x61
  have hAv43 := hAv43.ext x61
  refine den_grow fun W62 x62 => ?_
  have hn := Nat.le_trans hn x62.size
  have hAv12 := hAv12.ext x62
  have hAv38 := hAv38.ext x62
  have hAv40 := hAv40.ext x62
  have hAv43 := hAv43.ext x62
  refine den_rset fun W63 x63 => ?_
  simp only [Env.push, List.cons_append, List.nil_append, List.append_nil]
  have hn := Nat.le_trans hn x63.size
  have hAv12 := hAv12.ext x63
  have hAv38 := hAv38.ext x63
  have hAv40 := hAv40.ext x63
  have hAv43 := hAv43.ext x63
  exact l_lnames_11 _ Nv3 Nv13 Nv23 Nv27 Nv29 Nv31 Nv33 Nv35 Nv65 Nv73 Nv79 Av1 Av4 Av7 Av9 Av12 Av14 Av15 Av16 Av17 Av18 Av19 Av20 Av25 Av30 Av35 Av38 Av40 Av43 Av46 Mv0 Mv1 Mv2 Mv3 Mv4 Mv5 Mv6 ((Vr.towerL.flatMap Vr.It.enc)) ((setL (Vr.towerL.flatMap Vr.It.enc) 4 [.int .i64 7])) ((setL (setL (Vr.towerL.flatMap Vr.It.enc) 4 [.int .i64 7]) 1 [.int .i64 6])) W63 hn hs1 hAv12 hAv43 hs46 rfl

set_option maxRecDepth 100000 in
theorem l_lnames_31 (n0 : Nat) (Nv3 : Nat) (Nv13 : Nat) (Nv23 : Nat) (Nv27 : Nat) (Nv29 : Nat) (Nv31 : Nat) (Nv33 : Nat) (Nv35 : Nat) (Av1 : Option Addr) (Av4 : Option Addr) (Av7 : Option Addr) (Av9 : Option Addr) (Av12 : Option Addr) (Av14 : Option Addr) (Av15 : Option Addr) (Av16 : Option Addr) (Av17 : Option Addr) (Av18 : Option Addr) (Av19 : Option Addr) (Av20 : Option Addr) (Av25 : Option Addr) (Mv0 : Nat) (Mv1 : Nat) (W : Wd) (hn : n0 ≤ W.w.heap.size) (hs1 : Av1.isSome = true) (hAv12 : SlI W Av12 3 Nv23 5 (Vr.csB.flatMap Vr.Ce.enc))  :
    t_lnames_31.den Try.prog n0 (Ret fun u x => u = Value.bool true) [] { I := [0, 6, 0, 6, 0, 6, 0, 6, 22, 0, 6, 23], N := [0, 0, 6, Nv3, 0, 0, 0, 0, 0, 0, 6, Nv3, 2, Nv13, 0, 0, 1, 1, 0, 0, 6, Nv3, 3, Nv23, 0, 0, 3, Nv27, 0, Nv29, 0, Nv31, 3, Nv33, 2, Nv35, 0, 0, 6, Nv3, 3, Nv23, 0, 0, 0, 0, 6, Nv3, 3, Nv23, 0, 0], B := [true, true, true, true, true], T := [⟨(Vr.A : Vr.Bs).toArray⟩], A := [none, Av1, none, none, Av4, none, Av1, Av7, none, Av9, none, Av1, Av12, none, Av14, Av15, Av16, Av17, Av18, Av19, Av20, none, Av1, Av12, none, Av25, none, Av1, Av12, none], M := [Mv0, Mv1], L := [(Vr.towerL.flatMap Vr.It.enc)] } W := by
  refine den_new fun Mv2 W33 _ x33 => ?_
  simp only [Env.push, List.cons_append, List.nil_append, List.append_nil]
  have hn := Nat.le_trans hn x33.size
  have hAv12 := hAv12.ext x33
  refine den_wr fun W34 x34 => ?_
  have hn := Nat.le_trans hn x34.size
  have hAv12 := hAv12.ext x34
  refine den_newfv (L := (([⟨Vr.A, ⟨1, 0, [120]⟩⟩] : List Vr.Va).flatMap Vr.Va.enc)) (n := 1) (sz := 4) rfl rfl fun Av30 W35 x35 hAv30 => ?_
  simp only [Env.push, List.cons_append, List.nil_append, List.append_nil]
  have hn := Nat.le_trans hn x35.size
  have hAv12 := hAv12.ext x35
  refine den_call_i (fun _ hR => put_i (stS Av1 Nv3 ⟨Av12, 3, Nv23⟩) Vr.towerL (by decide) tower_ups Vr.csB (by decide) 6 rfl ([⟨Vr.A, ⟨1, 0, [120]⟩⟩] : List Vr.Va) (by decide) (by decide) ⟨Av30, 1, 1⟩ W35 (owns_sl  (e := 54) (sz := 8) (a := Av1) (n := 6) (c := Nv3) (k := 6) (xs := (Vr.towerL.flatMap Vr.It.enc)) (hR _ (List.mem_cons_self ..)).1).w (SlAt.w hAv12) (SlAt.w hAv30)) fun v w _ h => ?_
  rw [show Vr.putL Vr.towerL 6 ([⟨Vr.A, ⟨1, 0, [120]⟩⟩] : List Vr.Va) Vr.csB = (23, []) from by decide +kernel] at h
  obtain ⟨_, rfl⟩ : _ ∧ _ := h.resolve_left fun h => absurd h.1 (by decide)
  refine ExE.mk (d := { I := [0, 6, 23], N := [0, 0, 6, Nv3, 3, Nv23, 0, 0], A := [none, Av1, Av12, none] }) ⟨rfl, fun v hv => by cases hv⟩ ⟨rfl, fun W36 e x36 n => ?_⟩
  simp only [Env.push, List.cons_append, List.nil_append, List.append_nil]
  have hn := Nat.le_trans hn x36.size
  have hAv12 := hAv12.ext x36
  have hAv30 := hAv30.ext x36
  refine den_new fun Mv3 W37 _ x37 => ?_
  simp only [Env.push, List.cons_append, List.nil_append, List.append_nil]
  have hn := Nat.le_trans hn x37.size
  have hAv12 := hAv12.ext x37
  have hAv30 := hAv30.ext x37
  refine den_wr fun W38 x38 => ?_
  have hn := Nat.le_trans hn x38.size
  have hAv12 := hAv12.ext x38
  have hAv30 := hAv30.ext x38
  refine den_both ?_ ?_
  · refine den_grow fun W39 x39 => ?_
    have hn := Nat.le_trans hn x39.size
    have hAv12 := hAv12.ext x39
    have hAv30 := hAv30.ext x39
    refine den_newfv (L := (([⟨Vr.X, ⟨1, 4, []⟩⟩, ⟨Vr.A, ⟨1, 5, []⟩⟩, ⟨Vr.X, ⟨1, 6, []⟩⟩] : List Vr.Va).flatMap Vr.Va.enc)) (n := 3) (sz := 4) rfl rfl fun Av35 W40 x40 hAv35 => ?_
    simp only [Env.push, List.cons_append, List.nil_append, List.append_nil]
    have hn := Nat.le_trans hn x40.size
    have hAv12 := hAv12.ext x40
    have hAv30 := hAv30.ext x40
    refine den_both ?_ ?_
    · refine den_grow fun W41 x41 => ?_
      have hn := Nat.le_trans hn x41.size
      have hAv12 := hAv12.ext x41
      have hAv30 := hAv30.ext x41
      have hAv35 := hAv35.ext x41
      refine den_call_i (fun _ hR => put_i (stS Av1 Nv3 ⟨Av12, 3, Nv23⟩) Vr.towerL (by decide) tower_ups Vr.csB (by decide) 6 rfl ([⟨Vr.X, ⟨1, 4, []⟩⟩, ⟨Vr.A, ⟨1, 5, []⟩⟩, ⟨Vr.X, ⟨1, 6, []⟩⟩] : List Vr.Va) (by decide) (by decide) ⟨Av35, 3, 3⟩ W41 (owns_sl  (e := 54) (sz := 8) (a := Av1) (n := 6) (c := Nv3) (k := 6) (xs := (Vr.towerL.flatMap Vr.It.enc)) (hR _ (List.mem_cons_self ..)).1).w (SlAt.w hAv12) (SlAt.w hAv35)) fun v w _ h => ?_
      rw [show Vr.putL Vr.towerL 6 ([⟨Vr.X, ⟨1, 4, []⟩⟩, ⟨Vr.A, ⟨1, 5, []⟩⟩, ⟨Vr.X, ⟨1, 6, []⟩⟩] : List Vr.Va) Vr.csB = (0, Vr.csC) from by decide +kernel] at h
      obtain ⟨_, Av38, Nv65, rfl, hz⟩ : _ ∧ _ := h.resolve_right fun h => h.1 rfl
      refine ExE.mk (d := { I := [0, 6, 0], N := [0, 0, 6, Nv3, 3, Nv65, 0, 0], A := [none, Av1, Av38, none] }) ⟨rfl, fun v hv => by cases hv⟩ ⟨rfl, fun W42 e x42 n => ?_⟩
      have hAv38 := hz.stay e n
      simp only [Env.push, List.cons_append, List.nil_append, List.append_nil]
      have hn := Nat.le_trans hn x42.size
      have hAv12 := hAv12.ext x42
      have hAv30 := hAv30.ext x42
      have hAv35 := hAv35.ext x42
      refine den_grow fun W43 x43 => ?_
      have hn := Nat.le_trans hn x43.size
      have hAv12 := hAv12.ext x43
      have hAv30 := hAv30.ext x43
      have hAv35 := hAv35.ext x43
      have hAv38 := hAv38.ext x43
      refine den_new fun Mv4 W44 _ x44 => ?_
      simp only [Env.push, List.cons_append, List.nil_append, List.append_nil]
      have hn := Nat.le_trans hn x44.size
      have hAv12 := hAv12.ext x44
      have hAv30 := hAv30.ext x44
      have hAv35 := hAv35.ext x44
      have hAv38 := hAv38.ext x44
      refine den_grow fun W45 x45 => ?_
      have hn := Nat.le_trans hn x45.size
      have hAv12 := hAv12.ext x45
      have hAv30 := hAv30.ext x45
      have hAv35 := hAv35.ext x45
      have hAv38 := hAv38.ext x45
      refine den_wr fun W46 x46 => ?_
      have hn := Nat.le_trans hn x46.size
      have hAv12 := hAv12.ext x46
      have hAv30 := hAv30.ext x46
      have hAv35 := hAv35.ext x46
      have hAv38 := hAv38.ext x46
      refine den_grow fun W47 x47 => ?_
      have hn := Nat.le_trans hn x47.size
      have hAv12 := hAv12.ext x47
      have hAv30 := hAv30.ext x47
      have hAv35 := hAv35.ext x47
      have hAv38 := hAv38.ext x47
      refine den_br_t rfl ?_
      exact l_lnames_24 _ Nv3 Nv13 Nv23 Nv27 Nv29 Nv31 Nv33 Nv35 Nv65 Av1 Av4 Av7 Av9 Av12 Av14 Av15 Av16 Av17 Av18 Av19 Av20 Av25 Av30 Av35 Av38 Mv0 Mv1 Mv2 Mv3 Mv4 W47 hn hs1 hAv12 hAv38
    · refine den_grow fun W85 x85 => ?_
      have hn := Nat.le_trans hn x85.size
      have hAv12 := hAv12.ext x85
      have hAv30 := hAv30.ext x85
      have hAv35 := hAv35.ext x85
      refine den_new fun Mv4 W86 _ x86 => ?_
      simp only [Env.push, List.cons_append, List.nil_append, List.append_nil]
      have hn := Nat.le_trans hn x86.size
      have hAv12 := hAv12.ext x86
      have hAv30 := hAv30.ext x86
      have hAv35 := hAv35.ext x86
      refine den_grow fun W87 x87 => ?_
      have hn := Nat.le_trans hn x87.size
      have hAv12 := hAv12.ext x87
      have hAv30 := hAv30.ext x87
      have hAv35 := hAv35.ext x87
      refine den_call_i (fun _ hR => put_i (stS Av1 Nv3 ⟨Av12, 3, Nv23⟩) Vr.towerL (by decide) tower_ups Vr.csB (by decide) 6 rfl ([⟨Vr.X, ⟨1, 4, []⟩⟩, ⟨Vr.A, ⟨1, 5, []⟩⟩, ⟨Vr.X, ⟨1, 6, []⟩⟩] : List Vr.Va) (by decide) (by decide) ⟨Av35, 3, 3⟩ W87 (owns_sl  (e := 54) (sz := 8) (a := Av1) (n := 6) (c := Nv3) (k := 6) (xs := (Vr.towerL.flatMap Vr.It.enc)) (hR _ (List.mem_cons_self ..)).1).w (SlAt.w hAv12) (SlAt.w hAv35)) fun v w _ h => ?_
      rw [show Vr.putL Vr.towerL 6 ([⟨Vr.X, ⟨1, 4, []⟩⟩, ⟨Vr.A, ⟨1, 5, []⟩⟩, ⟨Vr.X, ⟨1, 6, []⟩⟩] : List Vr.Va) Vr.csB = (0, Vr.csC) from by decide +kernel] at h
      obtain ⟨_, Av38, Nv65, rfl, hz⟩ : _ ∧ _ := h.resolve_right fun h => h.1 rfl
      refine ExE.mk (d := { I := [0, 6, 0], N := [0, 0, 6, Nv3, 3, Nv65, 0, 0], A := [none, Av1, Av38, none] }) ⟨rfl, fun v hv => by cases hv⟩ ⟨rfl, fun W88 e x88 n => ?_⟩
      have hAv38 := hz.stay e n
      simp only [Env.push, List.cons_append, List.nil_append, List.append_nil]
      have hn := Nat.le_trans hn x88.size
      have hAv12 := hAv12.ext x88
      have hAv30 := hAv30.ext x88
      have hAv35 := hAv35.ext x88
      refine den_grow fun W89 x89 => ?_
      have hn := Nat.le_trans hn x89.size
      have hAv12 := hAv12.ext x89
      have hAv30 := hAv30.ext x89
      have hAv35 := hAv35.ext x89
      have hAv38 := hAv38.ext x89
      refine den_wr fun W90 x90 => ?_
      have hn := Nat.le_trans hn x90.size
      have hAv12 := hAv12.ext x90
      have hAv30 := hAv30.ext x90
      have hAv35 := hAv35.ext x90
      have hAv38 := hAv38.ext x90
      refine den_grow fun W91 x91 => ?_
      have hn := Nat.le_trans hn x91.size
      have hAv12 := hAv12.ext x91
      have hAv30 := hAv30.ext x91
      have hAv35 := hAv35.ext x91
      have hAv38 := hAv38.ext x91
      refine den_br_t rfl ?_
      exact l_lnames_24 _ Nv3 Nv13 Nv23 Nv27 Nv29 Nv31 Nv33 Nv35 Nv65 Av1 Av4 Av7 Av9 Av12 Av14 Av15 Av16 Av17 Av18 Av19 Av20 Av25 Av30 Av35 Av38 Mv0 Mv1 Mv2 Mv3 Mv4 W91 hn hs1 hAv12 hAv38
  · refine den_grow fun W92 x92 => ?_
    have hn := Nat.le_trans hn x92.size
    have hAv12 := hAv12.ext x92
    have hAv30 := hAv30.ext x92
    refine den_new fun Mv4 W93 _ x93 => ?_
    simp only [Env.push, List.cons_append, List.nil_append, List.append_nil]
    have hn := Nat.le_trans hn x93.size
    have hAv12 := hAv12.ext x93
    have hAv30 := hAv30.ext x93
    refine den_grow fun W94 x94 => ?_
    have hn := Nat.le_trans hn x94.size
    have hAv12 := hAv12.ext x94
    have hAv30 := hAv30.ext x94
    refine den_newfv (L := (([⟨Vr.X, ⟨1, 4, []⟩⟩, ⟨Vr.A, ⟨1, 5, []⟩⟩, ⟨Vr.X, ⟨1, 6, []⟩⟩] : List Vr.Va).flatMap Vr.Va.enc)) (n := 3) (sz := 4) rfl rfl fun Av35 W95 x95 hAv35 => ?_
    simp only [Env.push, List.cons_append, List.nil_append, List.append_nil]
    have hn := Nat.le_trans hn x95.size
    have hAv12 := hAv12.ext x95
    have hAv30 := hAv30.ext x95
    refine den_grow fun W96 x96 => ?_
    have hn := Nat.le_trans hn x96.size
    have hAv12 := hAv12.ext x96
    have hAv30 := hAv30.ext x96
    have hAv35 := hAv35.ext x96
    refine den_call_i (fun _ hR => put_i (stS Av1 Nv3 ⟨Av12, 3, Nv23⟩) Vr.towerL (by decide) tower_ups Vr.csB (by decide) 6 rfl ([⟨Vr.X, ⟨1, 4, []⟩⟩, ⟨Vr.A, ⟨1, 5, []⟩⟩, ⟨Vr.X, ⟨1, 6, []⟩⟩] : List Vr.Va) (by decide) (by decide) ⟨Av35, 3, 3⟩ W96 (owns_sl  (e := 54) (sz := 8) (a := Av1) (n := 6) (c := Nv3) (k := 6) (xs := (Vr.towerL.flatMap Vr.It.enc)) (hR _ (List.mem_cons_self ..)).1).w (SlAt.w hAv12) (SlAt.w hAv35)) fun v w _ h => ?_
    rw [show Vr.putL Vr.towerL 6 ([⟨Vr.X, ⟨1, 4, []⟩⟩, ⟨Vr.A, ⟨1, 5, []⟩⟩, ⟨Vr.X, ⟨1, 6, []⟩⟩] : List Vr.Va) Vr.csB = (0, Vr.csC) from by decide +kernel] at h
    obtain ⟨_, Av38, Nv65, rfl, hz⟩ : _ ∧ _ := h.resolve_right fun h => h.1 rfl
    refine ExE.mk (d := { I := [0, 6, 0], N := [0, 0, 6, Nv3, 3, Nv65, 0, 0], A := [none, Av1, Av38, none] }) ⟨rfl, fun v hv => by cases hv⟩ ⟨rfl, fun W97 e x97 n => ?_⟩
    have hAv38 := hz.stay e n
    simp only [Env.push, List.cons_append, List.nil_append, List.append_nil]
    have hn := Nat.le_trans hn x97.size
    have hAv12 := hAv12.ext x97
    have hAv30 := hAv30.ext x97
    have hAv35 := hAv35.ext x97
    refine den_grow fun W98 x98 => ?_
    have hn := Nat.le_trans hn x98.size
    have hAv12 := hAv12.ext x98
    have hAv30 := hAv30.ext x98
    have hAv35 := hAv35.ext x98
    have hAv38 := hAv38.ext x98
    refine den_wr fun W99 x99 => ?_
    have hn := Nat.le_trans hn x99.size
    have hAv12 := hAv12.ext x99
    have hAv30 := hAv30.ext x99
    have hAv35 := hAv35.ext x99
    have hAv38 := hAv38.ext x99
    refine den_grow fun W100 x100 => ?_
    have hn := Nat.le_trans hn x100.size
    have hAv12 := hAv12.ext x100
    have hAv30 := hAv30.ext x100
    have hAv35 := hAv35.ext x100
    have hAv38 := hAv38.ext x100
    refine den_br_t rfl ?_
    exact l_lnames_24 _ Nv3 Nv13 Nv23 Nv27 Nv29 Nv31 Nv33 Nv35 Nv65 Av1 Av4 Av7 Av9 Av12 Av14 Av15 Av16 Av17 Av18 Av19 Av20 Av25 Av30 Av35 Av38 Mv0 Mv1 Mv2 Mv3 Mv4 W100 hn hs1 hAv12 hAv38
set_option maxRecDepth 100000 in
theorem lnames_q (W : Wd) : CallsQ Try.prog 8 #[] W (.bool true) := by
  refine vc_lnames W.all _ ?_
  have hn : W.all.w.heap.size ≤ W.all.w.heap.size := Nat.le_refl _
  refine den_call_q (fun _ hR => works_q W.all) ⟨true, rfl, fun W1 x1 => ?_⟩
  simp only [Env.push, List.cons_append, List.nil_append, List.append_nil]
  have hn := Nat.le_trans hn x1.size
  refine den_br_f rfl ?_
  refine den_callr_i (fun _ _ => towerr_i W1) fun v w _ h => ?_
  obtain ⟨Av1, Nv3, rfl, hr⟩ := h
  refine ExE.mk (d := { I := [0, 6], N := [0, 0, 6, Nv3, 0, 0, 0, 0], A := [none, Av1, none, none], L := [Vr.towerL.flatMap Vr.It.enc] }) ⟨rfl, fun v hv => by cases hv⟩ ⟨rfl, rowsNew_one hn (by simpa [conts, Seg.den, gd, Env.push, Sy.den, E.i] using hr) (by simpa [conts, Seg.den, gd, Env.push] using tower_one), fun W2 e x2 n => ?_⟩
  have hs1 := (SlW.all (W := ⟨w, fun _ => False, fun _ h => h.elim⟩) (owns_sl hr).w).some_of (by decide)
  simp only [Env.push, List.cons_append, List.nil_append, List.append_nil]
  have hn := Nat.le_trans hn x2.size
  refine den_grow fun W3 x3 => ?_
  have hn := Nat.le_trans hn x3.size
  refine den_grow fun W4 x4 => ?_
  have hn := Nat.le_trans hn x4.size
  refine den_grow fun W5 x5 => ?_
  have hn := Nat.le_trans hn x5.size
  refine den_newfv (L := (([⟨Vr.X, ⟨1, 1, []⟩⟩, ⟨Vr.A, ⟨1, 2, []⟩⟩, ⟨Vr.X, ⟨1, 9, []⟩⟩] : List Vr.Va).flatMap Vr.Va.enc)) (n := 3) (sz := 4) rfl rfl fun Av4 W6 x6 hAv4 => ?_
  simp only [Env.push, List.cons_append, List.nil_append, List.append_nil]
  have hn := Nat.le_trans hn x6.size
  refine den_call_i (fun _ _ => open_i (stS Av1 Nv3 ⟨none, 0, 0⟩) ([] : List Vr.Ce) (by decide) ([⟨Vr.X, ⟨1, 1, []⟩⟩, ⟨Vr.A, ⟨1, 2, []⟩⟩, ⟨Vr.X, ⟨1, 9, []⟩⟩] : List Vr.Va) (by decide) 1 ⟨Av4, 3, 3⟩ W6 (hC0 W6.w) (SlAt.w hAv4)) fun v w _ h => ?_
  obtain ⟨r, hr, Av7, Nv13, rfl, hz⟩ := h
  obtain rfl : r = Vr.csA := hr.eq Vr.wo of_1
  refine ExE.mk (d := { I := [0, 6], N := [0, 0, 6, Nv3, 2, Nv13, 0, 0], A := [none, Av1, Av7, none] }) ⟨rfl, fun v hv => by cases hv⟩ ⟨rfl, fun W7 e x7 n => ?_⟩
  have hAv7 := hz.stay e n
  simp only [Env.push, List.cons_append, List.nil_append, List.append_nil]
  have hn := Nat.le_trans hn x7.size
  have hAv4 := hAv4.ext x7
  refine den_call_i (fun _ _ => one_i Vr.X 3 W7) fun v w _ h => ?_
  obtain ⟨Av9, rfl, hz⟩ := h
  refine ExE.mk (d := { N := [1, 1], A := [Av9] }) ⟨rfl, fun v hv => by cases hv⟩ ⟨rfl, fun W8 e x8 n => ?_⟩
  have hAv9 := hz.stay e n
  simp only [Env.push, List.cons_append, List.nil_append, List.append_nil]
  have hn := Nat.le_trans hn x8.size
  have hAv4 := hAv4.ext x8
  have hAv7 := hAv7.ext x8
  refine den_call_i (fun _ _ => open_i (stS Av1 Nv3 ⟨Av7, 2, Nv13⟩) Vr.csA (by decide) (Vr.one Vr.X 3) (by decide) 6 ⟨Av9, 1, 1⟩ W8 (SlAt.w hAv7) (SlAt.w hAv9)) fun v w _ h => ?_
  obtain ⟨r, hr, Av12, Nv23, rfl, hz⟩ := h
  obtain rfl : r = Vr.csB := hr.eq Vr.wo of_2
  refine ExE.mk (d := { I := [0, 6], N := [0, 0, 6, Nv3, 3, Nv23, 0, 0], A := [none, Av1, Av12, none] }) ⟨rfl, fun v hv => by cases hv⟩ ⟨rfl, fun W9 e x9 n => ?_⟩
  have hAv12 := hz.stay e n
  simp only [Env.push, List.cons_append, List.nil_append, List.append_nil]
  have hn := Nat.le_trans hn x9.size
  have hAv4 := hAv4.ext x9
  have hAv7 := hAv7.ext x9
  have hAv9 := hAv9.ext x9
  refine den_new fun Mv0 W10 _ x10 => ?_
  simp only [Env.push, List.cons_append, List.nil_append, List.append_nil]
  have hn := Nat.le_trans hn x10.size
  have hAv4 := hAv4.ext x10
  have hAv7 := hAv7.ext x10
  have hAv9 := hAv9.ext x10
  have hAv12 := hAv12.ext x10
  refine den_wr fun W11 x11 => ?_
  have hn := Nat.le_trans hn x11.size
  have hAv4 := hAv4.ext x11
  have hAv7 := hAv7.ext x11
  have hAv9 := hAv9.ext x11
  have hAv12 := hAv12.ext x11
  refine den_chk (Bool.or_eq_true_iff.2 (.inr (hAv12.some_of (by decide)))) ?_
  refine den_chk rfl ?_
  refine den_chk rfl ?_
  refine den_br_t rfl ?_
  refine den_look ⟨⟨(Vr.A : Vr.Bs).toArray⟩, fun W' xW => sl_look_f (P := Try.prog) Vr.Ce.enc_len hAv12 (t := 9) (by kernel_rfl) (i := 0) (x := ⟨1, Vr.A, ⟨1, 2, []⟩⟩) rfl (k := 1) (by decide) rfl xW, ?_⟩
  simp only [Env.push, List.cons_append, List.nil_append, List.append_nil]
  refine den_br_t rfl ?_
  refine den_call_q (fun _ hR => sees_c W11 Av1 Nv3 Av12 Nv23 Vr.csB rfl 6 rfl Vr.X (6) 3 (owns_sl  (e := 54) (sz := 8) (a := Av1) (n := 6) (c := Nv3) (k := 6) (xs := (Vr.towerL.flatMap Vr.It.enc)) (hR _ (List.mem_cons_self ..)).1).w (SlAt.w hAv12) (by decide +kernel)) ⟨true, rfl, fun W12 x12 => ?_⟩
  simp only [Env.push, List.cons_append, List.nil_append, List.append_nil]
  have hn := Nat.le_trans hn x12.size
  have hAv4 := hAv4.ext x12
  have hAv7 := hAv7.ext x12
  have hAv9 := hAv9.ext x12
  have hAv12 := hAv12.ext x12
  refine den_br_t rfl ?_
  refine den_call_q (fun _ hR => sees_c W12 Av1 Nv3 Av12 Nv23 Vr.csB rfl 6 rfl Vr.A (1) 2 (owns_sl  (e := 54) (sz := 8) (a := Av1) (n := 6) (c := Nv3) (k := 6) (xs := (Vr.towerL.flatMap Vr.It.enc)) (hR _ (List.mem_cons_self ..)).1).w (SlAt.w hAv12) (by decide +kernel)) ⟨true, rfl, fun W13 x13 => ?_⟩
  simp only [Env.push, List.cons_append, List.nil_append, List.append_nil]
  have hn := Nat.le_trans hn x13.size
  have hAv4 := hAv4.ext x13
  have hAv7 := hAv7.ext x13
  have hAv9 := hAv9.ext x13
  have hAv12 := hAv12.ext x13
  refine den_br_t rfl ?_
  refine den_call_q (fun _ hR => sees_c W13 Av1 Nv3 Av12 Nv23 Vr.csB rfl 3 rfl Vr.X (1) 1 (owns_sl  (e := 54) (sz := 8) (a := Av1) (n := 6) (c := Nv3) (k := 6) (xs := (Vr.towerL.flatMap Vr.It.enc)) (hR _ (List.mem_cons_self ..)).1).w (SlAt.w hAv12) (by decide +kernel)) ⟨true, rfl, fun W14 x14 => ?_⟩
  simp only [Env.push, List.cons_append, List.nil_append, List.append_nil]
  have hn := Nat.le_trans hn x14.size
  have hAv4 := hAv4.ext x14
  have hAv7 := hAv7.ext x14
  have hAv9 := hAv9.ext x14
  have hAv12 := hAv12.ext x14
  refine den_br_t rfl ?_
  refine den_call_i (fun _ hR => wayL_i (stS Av1 Nv3 ⟨Av12, 3, Nv23⟩) Vr.towerL (by decide) tower_ups 6 rfl W14 (owns_sl  (e := 54) (sz := 8) (a := Av1) (n := 6) (c := Nv3) (k := 6) (xs := (Vr.towerL.flatMap Vr.It.enc)) (hR _ (List.mem_cons_self ..)).1).w) fun v w _ h => ?_
  rw [show Vr.way Vr.towerL 6 = [6, 3, 1] from by decide +kernel] at h
  obtain ⟨Av14, Nv27, rfl, hz⟩ := h
  refine ExE.mk (d := { N := [3, Nv27], A := [Av14] }) ⟨rfl, fun v hv => by cases hv⟩ ⟨rfl, fun W15 e x15 n => ?_⟩
  have hAv14 := hz.stay e n
  simp only [Env.push, List.cons_append, List.nil_append, List.append_nil]
  have hn := Nat.le_trans hn x15.size
  have hAv4 := hAv4.ext x15
  have hAv7 := hAv7.ext x15
  have hAv9 := hAv9.ext x15
  have hAv12 := hAv12.ext x15
  refine den_newfv (L := (([6, 3, 1] : List Int).map (Value.int .i64))) (n := 3) (sz := 1) rfl rfl fun Av15 W16 x16 hAv15 => ?_
  simp only [Env.push, List.cons_append, List.nil_append, List.append_nil]
  have hn := Nat.le_trans hn x16.size
  have hAv4 := hAv4.ext x16
  have hAv7 := hAv7.ext x16
  have hAv9 := hAv9.ext x16
  have hAv12 := hAv12.ext x16
  have hAv14 := hAv14.ext x16
  refine den_call_q (fun _ hR => ints_q [6, 3, 1] [6, 3, 1] (by decide) Av14 Av15 3 Nv27 3 3 W16 (SlAt.w hAv14) (SlAt.w hAv15)) ⟨true, rfl, fun W17 x17 => ?_⟩
  simp only [Env.push, List.cons_append, List.nil_append, List.append_nil]
  have hn := Nat.le_trans hn x17.size
  have hAv4 := hAv4.ext x17
  have hAv7 := hAv7.ext x17
  have hAv9 := hAv9.ext x17
  have hAv12 := hAv12.ext x17
  have hAv14 := hAv14.ext x17
  have hAv15 := hAv15.ext x17
  refine den_br_t rfl ?_
  refine den_call_i (fun _ hR => wayL_i (stS Av1 Nv3 ⟨Av12, 3, Nv23⟩) Vr.towerL (by decide) tower_ups 2 rfl W17 (owns_sl  (e := 54) (sz := 8) (a := Av1) (n := 6) (c := Nv3) (k := 6) (xs := (Vr.towerL.flatMap Vr.It.enc)) (hR _ (List.mem_cons_self ..)).1).w) fun v w _ h => ?_
  rw [show Vr.way Vr.towerL 2 = [] from by decide +kernel] at h
  obtain ⟨Av16, Nv29, rfl, hz⟩ := h
  refine ExE.mk (d := { N := [0, Nv29], A := [Av16] }) ⟨rfl, fun v hv => by cases hv⟩ ⟨rfl, fun W18 e x18 n => ?_⟩
  have hAv16 := hz.stay e n
  simp only [Env.push, List.cons_append, List.nil_append, List.append_nil]
  have hn := Nat.le_trans hn x18.size
  have hAv4 := hAv4.ext x18
  have hAv7 := hAv7.ext x18
  have hAv9 := hAv9.ext x18
  have hAv12 := hAv12.ext x18
  have hAv14 := hAv14.ext x18
  have hAv15 := hAv15.ext x18
  refine den_br_t rfl ?_
  refine den_call_i (fun _ hR => wayL_i (stS Av1 Nv3 ⟨Av12, 3, Nv23⟩) Vr.towerL (by decide) tower_ups 9 rfl W18 (owns_sl  (e := 54) (sz := 8) (a := Av1) (n := 6) (c := Nv3) (k := 6) (xs := (Vr.towerL.flatMap Vr.It.enc)) (hR _ (List.mem_cons_self ..)).1).w) fun v w _ h => ?_
  rw [show Vr.way Vr.towerL 9 = [] from by decide +kernel] at h
  obtain ⟨Av17, Nv31, rfl, hz⟩ := h
  refine ExE.mk (d := { N := [0, Nv31], A := [Av17] }) ⟨rfl, fun v hv => by cases hv⟩ ⟨rfl, fun W19 e x19 n => ?_⟩
  have hAv17 := hz.stay e n
  simp only [Env.push, List.cons_append, List.nil_append, List.append_nil]
  have hn := Nat.le_trans hn x19.size
  have hAv4 := hAv4.ext x19
  have hAv7 := hAv7.ext x19
  have hAv9 := hAv9.ext x19
  have hAv12 := hAv12.ext x19
  have hAv14 := hAv14.ext x19
  have hAv15 := hAv15.ext x19
  have hAv16 := hAv16.ext x19
  refine den_br_t rfl ?_
  refine den_call_i (fun _ hR => env_i (stS Av1 Nv3 ⟨Av12, 3, Nv23⟩) Vr.towerL (by decide) tower_ups Vr.csB (by decide) 6 rfl W19 (owns_sl  (e := 54) (sz := 8) (a := Av1) (n := 6) (c := Nv3) (k := 6) (xs := (Vr.towerL.flatMap Vr.It.enc)) (hR _ (List.mem_cons_self ..)).1).w (SlAt.w hAv12)) fun v w _ h => ?_
  obtain ⟨Av18, Nv33, rfl, hz⟩ := h
  rw [show (Vr.envL Vr.csB (Vr.way Vr.towerL 6)).length = 3 from by decide +kernel]
  refine ExE.mk (d := { N := [3, Nv33], A := [Av18] }) ⟨rfl, fun v hv => by cases hv⟩ ⟨rfl, fun W20 e x20 n => ?_⟩
  simp only [Env.push, List.cons_append, List.nil_append, List.append_nil]
  have hn := Nat.le_trans hn x20.size
  have hAv4 := hAv4.ext x20
  have hAv7 := hAv7.ext x20
  have hAv9 := hAv9.ext x20
  have hAv12 := hAv12.ext x20
  have hAv14 := hAv14.ext x20
  have hAv15 := hAv15.ext x20
  have hAv16 := hAv16.ext x20
  have hAv17 := hAv17.ext x20
  refine den_br_t rfl ?_
  refine den_call_i (fun _ hR => cells_r (stS Av1 Nv3 ⟨Av12, 3, Nv23⟩) Vr.csB (by decide) 1 W20 (SlAt.w hAv12)) fun v w _ h => ?_
  obtain ⟨Av19, Nv35, rfl, hz⟩ := h
  rw [show (Vr.csB.filter fun x => x.sc == 1).length = 2 from by decide +kernel]
  refine ExE.mk (d := { N := [2, Nv35], A := [Av19] }) ⟨rfl, fun v hv => by cases hv⟩ ⟨rfl, fun W21 e x21 n => ?_⟩
  simp only [Env.push, List.cons_append, List.nil_append, List.append_nil]
  have hn := Nat.le_trans hn x21.size
  have hAv4 := hAv4.ext x21
  have hAv7 := hAv7.ext x21
  have hAv9 := hAv9.ext x21
  have hAv12 := hAv12.ext x21
  have hAv14 := hAv14.ext x21
  have hAv15 := hAv15.ext x21
  have hAv16 := hAv16.ext x21
  have hAv17 := hAv17.ext x21
  refine den_br_f rfl ?_
  refine den_both ?_ ?_
  · refine den_grow fun W22 x22 => ?_
    have hn := Nat.le_trans hn x22.size
    have hAv4 := hAv4.ext x22
    have hAv7 := hAv7.ext x22
    have hAv9 := hAv9.ext x22
    have hAv12 := hAv12.ext x22
    have hAv14 := hAv14.ext x22
    have hAv15 := hAv15.ext x22
    have hAv16 := hAv16.ext x22
    have hAv17 := hAv17.ext x22
    refine den_newfv (L := (([⟨Vr.A, ⟨1, 7, []⟩⟩, ⟨Vr.Q, ⟨1, 1, []⟩⟩] : List Vr.Va).flatMap Vr.Va.enc)) (n := 2) (sz := 4) rfl rfl fun Av20 W23 x23 hAv20 => ?_
    simp only [Env.push, List.cons_append, List.nil_append, List.append_nil]
    have hn := Nat.le_trans hn x23.size
    have hAv4 := hAv4.ext x23
    have hAv7 := hAv7.ext x23
    have hAv9 := hAv9.ext x23
    have hAv12 := hAv12.ext x23
    have hAv14 := hAv14.ext x23
    have hAv15 := hAv15.ext x23
    have hAv16 := hAv16.ext x23
    have hAv17 := hAv17.ext x23
    refine den_both ?_ ?_
    · refine den_grow fun W24 x24 => ?_
      have hn := Nat.le_trans hn x24.size
      have hAv4 := hAv4.ext x24
      have hAv7 := hAv7.ext x24
      have hAv9 := hAv9.ext x24
      have hAv12 := hAv12.ext x24
      have hAv14 := hAv14.ext x24
      have hAv15 := hAv15.ext x24
      have hAv16 := hAv16.ext x24
      have hAv17 := hAv17.ext x24
      have hAv20 := hAv20.ext x24
      refine den_call_i (fun _ hR => put_i (stS Av1 Nv3 ⟨Av12, 3, Nv23⟩) Vr.towerL (by decide) tower_ups Vr.csB (by decide) 6 rfl ([⟨Vr.A, ⟨1, 7, []⟩⟩, ⟨Vr.Q, ⟨1, 1, []⟩⟩] : List Vr.Va) (by decide) (by decide) ⟨Av20, 2, 2⟩ W24 (owns_sl  (e := 54) (sz := 8) (a := Av1) (n := 6) (c := Nv3) (k := 6) (xs := (Vr.towerL.flatMap Vr.It.enc)) (hR _ (List.mem_cons_self ..)).1).w (SlAt.w hAv12) (SlAt.w hAv20)) fun v w _ h => ?_
      rw [show Vr.putL Vr.towerL 6 ([⟨Vr.A, ⟨1, 7, []⟩⟩, ⟨Vr.Q, ⟨1, 1, []⟩⟩] : List Vr.Va) Vr.csB = (22, []) from by decide +kernel] at h
      obtain ⟨_, rfl⟩ : _ ∧ _ := h.resolve_left fun h => absurd h.1 (by decide)
      refine ExE.mk (d := { I := [0, 6, 22], N := [0, 0, 6, Nv3, 3, Nv23, 0, 0], A := [none, Av1, Av12, none] }) ⟨rfl, fun v hv => by cases hv⟩ ⟨rfl, fun W25 e x25 n => ?_⟩
      simp only [Env.push, List.cons_append, List.nil_append, List.append_nil]
      have hn := Nat.le_trans hn x25.size
      have hAv4 := hAv4.ext x25
      have hAv7 := hAv7.ext x25
      have hAv9 := hAv9.ext x25
      have hAv12 := hAv12.ext x25
      have hAv14 := hAv14.ext x25
      have hAv15 := hAv15.ext x25
      have hAv16 := hAv16.ext x25
      have hAv17 := hAv17.ext x25
      have hAv20 := hAv20.ext x25
      refine den_grow fun W26 x26 => ?_
      have hn := Nat.le_trans hn x26.size
      have hAv4 := hAv4.ext x26
      have hAv7 := hAv7.ext x26
      have hAv9 := hAv9.ext x26
      have hAv12 := hAv12.ext x26
      have hAv14 := hAv14.ext x26
      have hAv15 := hAv15.ext x26
      have hAv16 := hAv16.ext x26
      have hAv17 := hAv17.ext x26
      have hAv20 := hAv20.ext x26
      refine den_new fun Mv1 W27 _ x27 => ?_
      simp only [Env.push, List.cons_append, List.nil_append, List.append_nil]
      have hn := Nat.le_trans hn x27.size
      have hAv4 := hAv4.ext x27
      have hAv7 := hAv7.ext x27
      have hAv9 := hAv9.ext x27
      have hAv12 := hAv12.ext x27
      have hAv14 := hAv14.ext x27
      have hAv15 := hAv15.ext x27
      have hAv16 := hAv16.ext x27
      have hAv17 := hAv17.ext x27
      have hAv20 := hAv20.ext x27
      refine den_grow fun W28 x28 => ?_
      have hn := Nat.le_trans hn x28.size
      have hAv4 := hAv4.ext x28
      have hAv7 := hAv7.ext x28
      have hAv9 := hAv9.ext x28
      have hAv12 := hAv12.ext x28
      have hAv14 := hAv14.ext x28
      have hAv15 := hAv15.ext x28
      have hAv16 := hAv16.ext x28
      have hAv17 := hAv17.ext x28
      have hAv20 := hAv20.ext x28
      refine den_wr fun W29 x29 => ?_
      have hn := Nat.le_trans hn x29.size
      have hAv4 := hAv4.ext x29
      have hAv7 := hAv7.ext x29
      have hAv9 := hAv9.ext x29
      have hAv12 := hAv12.ext x29
      have hAv14 := hAv14.ext x29
      have hAv15 := hAv15.ext x29
      have hAv16 := hAv16.ext x29
      have hAv17 := hAv17.ext x29
      have hAv20 := hAv20.ext x29
      refine den_grow fun W30 x30 => ?_
      have hn := Nat.le_trans hn x30.size
      have hAv4 := hAv4.ext x30
      have hAv7 := hAv7.ext x30
      have hAv9 := hAv9.ext x30
      have hAv12 := hAv12.ext x30
      have hAv14 := hAv14.ext x30
      have hAv15 := hAv15.ext x30
      have hAv16 := hAv16.ext x30
      have hAv17 := hAv17.ext x30
      have hAv20 := hAv20.ext x30
      refine den_newfv (L := (([⟨Vr.A, ⟨3, 0, []⟩⟩, ⟨Vr.Q, ⟨0, 0, []⟩⟩] : List Vr.Va).flatMap Vr.Va.enc)) (n := 2) (sz := 4) rfl rfl fun Av25 W31 x31 hAv25 => ?_
      simp only [Env.push, List.cons_append, List.nil_append, List.append_nil]
      have hn := Nat.le_trans hn x31.size
      have hAv4 := hAv4.ext x31
      have hAv7 := hAv7.ext x31
      have hAv9 := hAv9.ext x31
      have hAv12 := hAv12.ext x31
      have hAv14 := hAv14.ext x31
      have hAv15 := hAv15.ext x31
      have hAv16 := hAv16.ext x31
      have hAv17 := hAv17.ext x31
      have hAv20 := hAv20.ext x31
      refine den_call_i (fun _ hR => put_i (stS Av1 Nv3 ⟨Av12, 3, Nv23⟩) Vr.towerL (by decide) tower_ups Vr.csB (by decide) 6 rfl ([⟨Vr.A, ⟨3, 0, []⟩⟩, ⟨Vr.Q, ⟨0, 0, []⟩⟩] : List Vr.Va) (by decide) (by decide) ⟨Av25, 2, 2⟩ W31 (owns_sl  (e := 54) (sz := 8) (a := Av1) (n := 6) (c := Nv3) (k := 6) (xs := (Vr.towerL.flatMap Vr.It.enc)) (hR _ (List.mem_cons_self ..)).1).w (SlAt.w hAv12) (SlAt.w hAv25)) fun v w _ h => ?_
      rw [show Vr.putL Vr.towerL 6 ([⟨Vr.A, ⟨3, 0, []⟩⟩, ⟨Vr.Q, ⟨0, 0, []⟩⟩] : List Vr.Va) Vr.csB = (23, []) from by decide +kernel] at h
      obtain ⟨_, rfl⟩ : _ ∧ _ := h.resolve_left fun h => absurd h.1 (by decide)
      refine ExE.mk (d := { I := [0, 6, 23], N := [0, 0, 6, Nv3, 3, Nv23, 0, 0], A := [none, Av1, Av12, none] }) ⟨rfl, fun v hv => by cases hv⟩ ⟨rfl, fun W32 e x32 n => ?_⟩
      simp only [Env.push, List.cons_append, List.nil_append, List.append_nil]
      have hn := Nat.le_trans hn x32.size
      have hAv4 := hAv4.ext x32
      have hAv7 := hAv7.ext x32
      have hAv9 := hAv9.ext x32
      have hAv12 := hAv12.ext x32
      have hAv14 := hAv14.ext x32
      have hAv15 := hAv15.ext x32
      have hAv16 := hAv16.ext x32
      have hAv17 := hAv17.ext x32
      have hAv20 := hAv20.ext x32
      have hAv25 := hAv25.ext x32
      exact l_lnames_31 _ Nv3 Nv13 Nv23 Nv27 Nv29 Nv31 Nv33 Nv35 Av1 Av4 Av7 Av9 Av12 Av14 Av15 Av16 Av17 Av18 Av19 Av20 Av25 Mv0 Mv1 W32 hn hs1 hAv12
    · refine den_grow fun W101 x101 => ?_
      have hn := Nat.le_trans hn x101.size
      have hAv4 := hAv4.ext x101
      have hAv7 := hAv7.ext x101
      have hAv9 := hAv9.ext x101
      have hAv12 := hAv12.ext x101
      have hAv14 := hAv14.ext x101
      have hAv15 := hAv15.ext x101
      have hAv16 := hAv16.ext x101
      have hAv17 := hAv17.ext x101
      have hAv20 := hAv20.ext x101
      refine den_new fun Mv1 W102 _ x102 => ?_
      simp only [Env.push, List.cons_append, List.nil_append, List.append_nil]
      have hn := Nat.le_trans hn x102.size
      have hAv4 := hAv4.ext x102
      have hAv7 := hAv7.ext x102
      have hAv9 := hAv9.ext x102
      have hAv12 := hAv12.ext x102
      have hAv14 := hAv14.ext x102
      have hAv15 := hAv15.ext x102
      have hAv16 := hAv16.ext x102
      have hAv17 := hAv17.ext x102
      have hAv20 := hAv20.ext x102
      refine den_grow fun W103 x103 => ?_
      have hn := Nat.le_trans hn x103.size
      have hAv4 := hAv4.ext x103
      have hAv7 := hAv7.ext x103
      have hAv9 := hAv9.ext x103
      have hAv12 := hAv12.ext x103
      have hAv14 := hAv14.ext x103
      have hAv15 := hAv15.ext x103
      have hAv16 := hAv16.ext x103
      have hAv17 := hAv17.ext x103
      have hAv20 := hAv20.ext x103
      refine den_call_i (fun _ hR => put_i (stS Av1 Nv3 ⟨Av12, 3, Nv23⟩) Vr.towerL (by decide) tower_ups Vr.csB (by decide) 6 rfl ([⟨Vr.A, ⟨1, 7, []⟩⟩, ⟨Vr.Q, ⟨1, 1, []⟩⟩] : List Vr.Va) (by decide) (by decide) ⟨Av20, 2, 2⟩ W103 (owns_sl  (e := 54) (sz := 8) (a := Av1) (n := 6) (c := Nv3) (k := 6) (xs := (Vr.towerL.flatMap Vr.It.enc)) (hR _ (List.mem_cons_self ..)).1).w (SlAt.w hAv12) (SlAt.w hAv20)) fun v w _ h => ?_
      rw [show Vr.putL Vr.towerL 6 ([⟨Vr.A, ⟨1, 7, []⟩⟩, ⟨Vr.Q, ⟨1, 1, []⟩⟩] : List Vr.Va) Vr.csB = (22, []) from by decide +kernel] at h
      obtain ⟨_, rfl⟩ : _ ∧ _ := h.resolve_left fun h => absurd h.1 (by decide)
      refine ExE.mk (d := { I := [0, 6, 22], N := [0, 0, 6, Nv3, 3, Nv23, 0, 0], A := [none, Av1, Av12, none] }) ⟨rfl, fun v hv => by cases hv⟩ ⟨rfl, fun W104 e x104 n => ?_⟩
      simp only [Env.push, List.cons_append, List.nil_append, List.append_nil]
      have hn := Nat.le_trans hn x104.size
      have hAv4 := hAv4.ext x104
      have hAv7 := hAv7.ext x104
      have hAv9 := hAv9.ext x104
      have hAv12 := hAv12.ext x104
      have hAv14 := hAv14.ext x104
      have hAv15 := hAv15.ext x104
      have hAv16 := hAv16.ext x104
      have hAv17 := hAv17.ext x104
      have hAv20 := hAv20.ext x104
      refine den_grow fun W105 x105 => ?_
      have hn := Nat.le_trans hn x105.size
      have hAv4 := hAv4.ext x105
      have hAv7 := hAv7.ext x105
      have hAv9 := hAv9.ext x105
      have hAv12 := hAv12.ext x105
      have hAv14 := hAv14.ext x105
      have hAv15 := hAv15.ext x105
      have hAv16 := hAv16.ext x105
      have hAv17 := hAv17.ext x105
      have hAv20 := hAv20.ext x105
      refine den_wr fun W106 x106 => ?_
      have hn := Nat.le_trans hn x106.size
      have hAv4 := hAv4.ext x106
      have hAv7 := hAv7.ext x106
      have hAv9 := hAv9.ext x106
      have hAv12 := hAv12.ext x106
      have hAv14 := hAv14.ext x106
      have hAv15 := hAv15.ext x106
      have hAv16 := hAv16.ext x106
      have hAv17 := hAv17.ext x106
      have hAv20 := hAv20.ext x106
      refine den_grow fun W107 x107 => ?_
      have hn := Nat.le_trans hn x107.size
      have hAv4 := hAv4.ext x107
      have hAv7 := hAv7.ext x107
      have hAv9 := hAv9.ext x107
      have hAv12 := hAv12.ext x107
      have hAv14 := hAv14.ext x107
      have hAv15 := hAv15.ext x107
      have hAv16 := hAv16.ext x107
      have hAv17 := hAv17.ext x107
      have hAv20 := hAv20.ext x107
      refine den_newfv (L := (([⟨Vr.A, ⟨3, 0, []⟩⟩, ⟨Vr.Q, ⟨0, 0, []⟩⟩] : List Vr.Va).flatMap Vr.Va.enc)) (n := 2) (sz := 4) rfl rfl fun Av25 W108 x108 hAv25 => ?_
      simp only [Env.push, List.cons_append, List.nil_append, List.append_nil]
      have hn := Nat.le_trans hn x108.size
      have hAv4 := hAv4.ext x108
      have hAv7 := hAv7.ext x108
      have hAv9 := hAv9.ext x108
      have hAv12 := hAv12.ext x108
      have hAv14 := hAv14.ext x108
      have hAv15 := hAv15.ext x108
      have hAv16 := hAv16.ext x108
      have hAv17 := hAv17.ext x108
      have hAv20 := hAv20.ext x108
      refine den_call_i (fun _ hR => put_i (stS Av1 Nv3 ⟨Av12, 3, Nv23⟩) Vr.towerL (by decide) tower_ups Vr.csB (by decide) 6 rfl ([⟨Vr.A, ⟨3, 0, []⟩⟩, ⟨Vr.Q, ⟨0, 0, []⟩⟩] : List Vr.Va) (by decide) (by decide) ⟨Av25, 2, 2⟩ W108 (owns_sl  (e := 54) (sz := 8) (a := Av1) (n := 6) (c := Nv3) (k := 6) (xs := (Vr.towerL.flatMap Vr.It.enc)) (hR _ (List.mem_cons_self ..)).1).w (SlAt.w hAv12) (SlAt.w hAv25)) fun v w _ h => ?_
      rw [show Vr.putL Vr.towerL 6 ([⟨Vr.A, ⟨3, 0, []⟩⟩, ⟨Vr.Q, ⟨0, 0, []⟩⟩] : List Vr.Va) Vr.csB = (23, []) from by decide +kernel] at h
      obtain ⟨_, rfl⟩ : _ ∧ _ := h.resolve_left fun h => absurd h.1 (by decide)
      refine ExE.mk (d := { I := [0, 6, 23], N := [0, 0, 6, Nv3, 3, Nv23, 0, 0], A := [none, Av1, Av12, none] }) ⟨rfl, fun v hv => by cases hv⟩ ⟨rfl, fun W109 e x109 n => ?_⟩
      simp only [Env.push, List.cons_append, List.nil_append, List.append_nil]
      have hn := Nat.le_trans hn x109.size
      have hAv4 := hAv4.ext x109
      have hAv7 := hAv7.ext x109
      have hAv9 := hAv9.ext x109
      have hAv12 := hAv12.ext x109
      have hAv14 := hAv14.ext x109
      have hAv15 := hAv15.ext x109
      have hAv16 := hAv16.ext x109
      have hAv17 := hAv17.ext x109
      have hAv20 := hAv20.ext x109
      have hAv25 := hAv25.ext x109
      exact l_lnames_31 _ Nv3 Nv13 Nv23 Nv27 Nv29 Nv31 Nv33 Nv35 Av1 Av4 Av7 Av9 Av12 Av14 Av15 Av16 Av17 Av18 Av19 Av20 Av25 Mv0 Mv1 W109 hn hs1 hAv12
  · refine den_grow fun W110 x110 => ?_
    have hn := Nat.le_trans hn x110.size
    have hAv4 := hAv4.ext x110
    have hAv7 := hAv7.ext x110
    have hAv9 := hAv9.ext x110
    have hAv12 := hAv12.ext x110
    have hAv14 := hAv14.ext x110
    have hAv15 := hAv15.ext x110
    have hAv16 := hAv16.ext x110
    have hAv17 := hAv17.ext x110
    refine den_new fun Mv1 W111 _ x111 => ?_
    simp only [Env.push, List.cons_append, List.nil_append, List.append_nil]
    have hn := Nat.le_trans hn x111.size
    have hAv4 := hAv4.ext x111
    have hAv7 := hAv7.ext x111
    have hAv9 := hAv9.ext x111
    have hAv12 := hAv12.ext x111
    have hAv14 := hAv14.ext x111
    have hAv15 := hAv15.ext x111
    have hAv16 := hAv16.ext x111
    have hAv17 := hAv17.ext x111
    refine den_grow fun W112 x112 => ?_
    have hn := Nat.le_trans hn x112.size
    have hAv4 := hAv4.ext x112
    have hAv7 := hAv7.ext x112
    have hAv9 := hAv9.ext x112
    have hAv12 := hAv12.ext x112
    have hAv14 := hAv14.ext x112
    have hAv15 := hAv15.ext x112
    have hAv16 := hAv16.ext x112
    have hAv17 := hAv17.ext x112
    refine den_newfv (L := (([⟨Vr.A, ⟨1, 7, []⟩⟩, ⟨Vr.Q, ⟨1, 1, []⟩⟩] : List Vr.Va).flatMap Vr.Va.enc)) (n := 2) (sz := 4) rfl rfl fun Av20 W113 x113 hAv20 => ?_
    simp only [Env.push, List.cons_append, List.nil_append, List.append_nil]
    have hn := Nat.le_trans hn x113.size
    have hAv4 := hAv4.ext x113
    have hAv7 := hAv7.ext x113
    have hAv9 := hAv9.ext x113
    have hAv12 := hAv12.ext x113
    have hAv14 := hAv14.ext x113
    have hAv15 := hAv15.ext x113
    have hAv16 := hAv16.ext x113
    have hAv17 := hAv17.ext x113
    refine den_grow fun W114 x114 => ?_
    have hn := Nat.le_trans hn x114.size
    have hAv4 := hAv4.ext x114
    have hAv7 := hAv7.ext x114
    have hAv9 := hAv9.ext x114
    have hAv12 := hAv12.ext x114
    have hAv14 := hAv14.ext x114
    have hAv15 := hAv15.ext x114
    have hAv16 := hAv16.ext x114
    have hAv17 := hAv17.ext x114
    have hAv20 := hAv20.ext x114
    refine den_call_i (fun _ hR => put_i (stS Av1 Nv3 ⟨Av12, 3, Nv23⟩) Vr.towerL (by decide) tower_ups Vr.csB (by decide) 6 rfl ([⟨Vr.A, ⟨1, 7, []⟩⟩, ⟨Vr.Q, ⟨1, 1, []⟩⟩] : List Vr.Va) (by decide) (by decide) ⟨Av20, 2, 2⟩ W114 (owns_sl  (e := 54) (sz := 8) (a := Av1) (n := 6) (c := Nv3) (k := 6) (xs := (Vr.towerL.flatMap Vr.It.enc)) (hR _ (List.mem_cons_self ..)).1).w (SlAt.w hAv12) (SlAt.w hAv20)) fun v w _ h => ?_
    rw [show Vr.putL Vr.towerL 6 ([⟨Vr.A, ⟨1, 7, []⟩⟩, ⟨Vr.Q, ⟨1, 1, []⟩⟩] : List Vr.Va) Vr.csB = (22, []) from by decide +kernel] at h
    obtain ⟨_, rfl⟩ : _ ∧ _ := h.resolve_left fun h => absurd h.1 (by decide)
    refine ExE.mk (d := { I := [0, 6, 22], N := [0, 0, 6, Nv3, 3, Nv23, 0, 0], A := [none, Av1, Av12, none] }) ⟨rfl, fun v hv => by cases hv⟩ ⟨rfl, fun W115 e x115 n => ?_⟩
    simp only [Env.push, List.cons_append, List.nil_append, List.append_nil]
    have hn := Nat.le_trans hn x115.size
    have hAv4 := hAv4.ext x115
    have hAv7 := hAv7.ext x115
    have hAv9 := hAv9.ext x115
    have hAv12 := hAv12.ext x115
    have hAv14 := hAv14.ext x115
    have hAv15 := hAv15.ext x115
    have hAv16 := hAv16.ext x115
    have hAv17 := hAv17.ext x115
    have hAv20 := hAv20.ext x115
    refine den_grow fun W116 x116 => ?_
    have hn := Nat.le_trans hn x116.size
    have hAv4 := hAv4.ext x116
    have hAv7 := hAv7.ext x116
    have hAv9 := hAv9.ext x116
    have hAv12 := hAv12.ext x116
    have hAv14 := hAv14.ext x116
    have hAv15 := hAv15.ext x116
    have hAv16 := hAv16.ext x116
    have hAv17 := hAv17.ext x116
    have hAv20 := hAv20.ext x116
    refine den_wr fun W117 x117 => ?_
    have hn := Nat.le_trans hn x117.size
    have hAv4 := hAv4.ext x117
    have hAv7 := hAv7.ext x117
    have hAv9 := hAv9.ext x117
    have hAv12 := hAv12.ext x117
    have hAv14 := hAv14.ext x117
    have hAv15 := hAv15.ext x117
    have hAv16 := hAv16.ext x117
    have hAv17 := hAv17.ext x117
    have hAv20 := hAv20.ext x117
    refine den_grow fun W118 x118 => ?_
    have hn := Nat.le_trans hn x118.size
    have hAv4 := hAv4.ext x118
    have hAv7 := hAv7.ext x118
    have hAv9 := hAv9.ext x118
    have hAv12 := hAv12.ext x118
    have hAv14 := hAv14.ext x118
    have hAv15 := hAv15.ext x118
    have hAv16 := hAv16.ext x118
    have hAv17 := hAv17.ext x118
    have hAv20 := hAv20.ext x118
    refine den_newfv (L := (([⟨Vr.A, ⟨3, 0, []⟩⟩, ⟨Vr.Q, ⟨0, 0, []⟩⟩] : List Vr.Va).flatMap Vr.Va.enc)) (n := 2) (sz := 4) rfl rfl fun Av25 W119 x119 hAv25 => ?_
    simp only [Env.push, List.cons_append, List.nil_append, List.append_nil]
    have hn := Nat.le_trans hn x119.size
    have hAv4 := hAv4.ext x119
    have hAv7 := hAv7.ext x119
    have hAv9 := hAv9.ext x119
    have hAv12 := hAv12.ext x119
    have hAv14 := hAv14.ext x119
    have hAv15 := hAv15.ext x119
    have hAv16 := hAv16.ext x119
    have hAv17 := hAv17.ext x119
    have hAv20 := hAv20.ext x119
    refine den_call_i (fun _ hR => put_i (stS Av1 Nv3 ⟨Av12, 3, Nv23⟩) Vr.towerL (by decide) tower_ups Vr.csB (by decide) 6 rfl ([⟨Vr.A, ⟨3, 0, []⟩⟩, ⟨Vr.Q, ⟨0, 0, []⟩⟩] : List Vr.Va) (by decide) (by decide) ⟨Av25, 2, 2⟩ W119 (owns_sl  (e := 54) (sz := 8) (a := Av1) (n := 6) (c := Nv3) (k := 6) (xs := (Vr.towerL.flatMap Vr.It.enc)) (hR _ (List.mem_cons_self ..)).1).w (SlAt.w hAv12) (SlAt.w hAv25)) fun v w _ h => ?_
    rw [show Vr.putL Vr.towerL 6 ([⟨Vr.A, ⟨3, 0, []⟩⟩, ⟨Vr.Q, ⟨0, 0, []⟩⟩] : List Vr.Va) Vr.csB = (23, []) from by decide +kernel] at h
    obtain ⟨_, rfl⟩ : _ ∧ _ := h.resolve_left fun h => absurd h.1 (by decide)
    refine ExE.mk (d := { I := [0, 6, 23], N := [0, 0, 6, Nv3, 3, Nv23, 0, 0], A := [none, Av1, Av12, none] }) ⟨rfl, fun v hv => by cases hv⟩ ⟨rfl, fun W120 e x120 n => ?_⟩
    simp only [Env.push, List.cons_append, List.nil_append, List.append_nil]
    have hn := Nat.le_trans hn x120.size
    have hAv4 := hAv4.ext x120
    have hAv7 := hAv7.ext x120
    have hAv9 := hAv9.ext x120
    have hAv12 := hAv12.ext x120
    have hAv14 := hAv14.ext x120
    have hAv15 := hAv15.ext x120
    have hAv16 := hAv16.ext x120
    have hAv17 := hAv17.ext x120
    have hAv20 := hAv20.ext x120
    have hAv25 := hAv25.ext x120
    exact l_lnames_31 _ Nv3 Nv13 Nv23 Nv27 Nv29 Nv31 Nv33 Nv35 Av1 Av4 Av7 Av9 Av12 Av14 Av15 Av16 Av17 Av18 Av19 Av20 Av25 Mv0 Mv1 W120 hn hs1 hAv12
end Go.Proofs.Ytamnfdmmjjekhaa
