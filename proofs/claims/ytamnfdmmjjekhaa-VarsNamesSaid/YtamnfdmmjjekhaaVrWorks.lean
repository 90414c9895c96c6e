/- works: the examples hold. -/
import Derived.Test.YtamnfdmmjjekhaaVrLaw
import Derived.Test.YtamnfdmmjjekhaaVrOpen
namespace Vr
open Go
def towerS (a : Option Addr) : StV := { ck := 0, nx := 6, d := ⟨none, 0, 0⟩, i := ⟨a, 6, 6⟩, c := ⟨none, 0, 0⟩, h := ⟨none, 0, 0⟩ }
def X : Bs := [120]
def Y : Bs := [121]
end Vr
namespace Go.Proofs.Ytamnfdmmjjekhaa
open Go Go.RowKit Go.SF
set_option linter.unusedSimpArgs false
set_option linter.unusedVariables false
theorem sl_block {w : World} {J : Nat → Prop} {m : Nat} {arr : Array Value} {t : TypeId} {L : List Value} {n sz : Nat} (h : w.heap[m]? = some (.cells arr t)) (ha : arr.toList = L) (hl : L.length = n * sz) (hJ : J m) : SlAt w J (some ⟨m, 0, none⟩) n n sz L := by
  refine ⟨hl, Nat.le_refl _, .inr ⟨m, 0, rfl, hJ, (Array.getElem?_eq_some_iff.1 h).1, fun j u hu => ?_⟩⟩
  subst ha
  simp only [World.cell?, h, Nat.zero_add]
  simpa using hu
/-- a state in memory -/
structure Sto (W : Wd) (S : Vr.StV) (its : List Vr.It) (cs : List Vr.Ce) : Prop where
  i : SlI W S.i.a S.i.n S.i.c 8 (its.flatMap Vr.It.enc)
  c : SlI W S.c.a S.c.n S.c.c 5 (cs.flatMap Vr.Ce.enc)
theorem Sto.ext {V W : Wd} {S : Vr.StV} {its : List Vr.It} {cs : List Vr.Ce} (h : Sto V S its cs) (x : Ext V W) : Sto W S its cs := ⟨h.i.ext x, h.c.ext x⟩
theorem tower_i (W : Wd) : CallsI Try.prog 21 #[] W.all fun v w' => ∃ a, v = (Vr.towerS a).val ∧ SlAt w' (fun b => W.w.heap.size ≤ b) a 6 6 8 (Vr.towerL.flatMap Vr.It.enc) := by
  refine vc_tower W.all _ ?_
  refine den_new fun m W1 _ x1 => den_newf fun k W2 hk x2 hI hc => den_wr fun W3 x3 => den_ret fun _ _ _ => ⟨_, rfl, some ⟨k, 0, none⟩, rfl, sl_block ((x3.keep k hI).trans hc) rfl rfl hk⟩
theorem one_i (nm : Vr.Bs) (n : Int) (W : Wd) : CallsI Try.prog 23 #[.string ⟨nm.toArray⟩, .int .i64 n] W.all fun v w' => ∃ a, v = .slice a 1 1 ∧ SlAt w' (fun b => W.w.heap.size ≤ b) a 1 1 4 ((Vr.one nm n).flatMap Vr.Va.enc) := by
  refine vc_one n ⟨nm.toArray⟩ W.all _ ?_
  refine den_grow fun W1 x1 => den_newf fun k W2 hk x2 _ hc => den_ret fun _ _ _ => ⟨_, rfl, some ⟨k, 0, none⟩, rfl, sl_block hc rfl rfl hk⟩
theorem works_o : St.Of Vr.lt (Vr.opened 3 (Vr.one Vr.Y 2) [⟨1, Vr.X, Vr.num 1⟩]) [⟨1, Vr.X, Vr.num 1⟩, ⟨3, Vr.Y, Vr.num 2⟩] := by
  have e : Vr.opened 3 (Vr.one Vr.Y 2) [⟨1, Vr.X, Vr.num 1⟩] = [⟨3, Vr.Y, Vr.num 2⟩, ⟨1, Vr.X, Vr.num 1⟩] := by decide
  rw [e]
  refine ⟨by simp [St.Srt, Vr.lt], List.Perm.swap .., fun z => ?_⟩
  have h : ¬ (St.eqv Vr.lt z ⟨1, Vr.X, Vr.num 1⟩ = true ∧ St.eqv Vr.lt z ⟨3, Vr.Y, Vr.num 2⟩ = true) := by
    rintro ⟨h1, h2⟩
    have := St.eqv_lt Vr.wo h1 h2
    exact absurd this (by decide)
  simp only [List.filter_cons, List.filter_nil]
  by_cases h1 : St.eqv Vr.lt z ⟨1, Vr.X, Vr.num 1⟩ = true <;> by_cases h2 : St.eqv Vr.lt z ⟨3, Vr.Y, Vr.num 2⟩ = true <;> simp_all
def csA : List Vr.Ce := [⟨1, Vr.X, Vr.num 1⟩, ⟨3, Vr.Y, Vr.num 2⟩]
def csB : List Vr.Ce := [⟨1, Vr.X, Vr.num 5⟩, ⟨3, Vr.Y, Vr.num 2⟩]
theorem tower_ups : ∀ x ∈ Vr.towerL, (Lit.int .i64 x.up).wf = true := by decide
theorem works_p : Vr.putL Vr.towerL 3 (Vr.one Vr.X 5) csA = (0, csB) := by decide +kernel
theorem works_s1 : Vr.sees Vr.towerL csA 3 Vr.X 1 1 = true := by decide +kernel
theorem works_s2 : Vr.sees Vr.towerL csA 3 Vr.Y 3 2 = true := by decide +kernel
theorem works_s3 : Vr.sees Vr.towerL csA 1 Vr.Y (-1) 0 = true := by decide +kernel
theorem works_s4 : Vr.sees Vr.towerL csB 1 Vr.X 1 5 = true := by decide +kernel
theorem works_s5 : Vr.sees Vr.towerL csA 5 Vr.X (-1) 0 = true := by decide +kernel
theorem works_w : Vr.way Vr.towerL 5 = [5] := by decide +kernel
theorem works_rest (n0 : Nat) (a0 a2 a3 a4 a5 a6 a7 : Option Addr) (c3 c5 c6 m0 m1 : Nat) (W : Wd) (hI : SlI W a0 6 6 8 (Vr.towerL.flatMap Vr.It.enc)) (hA : SlI W a5 2 c5 5 (csA.flatMap Vr.Ce.enc)) (hB : SlI W a6 2 c6 5 (csB.flatMap Vr.Ce.enc)) :
    t_works_7.den Try.prog n0 (Ret fun u x => u = Value.bool true) [] { I := [0, 6, 0, 6, 0, 6, 0, 6, 0], N := [0, 0, 6, 6, 0, 0, 0, 0, 1, 1, 0, 0, 6, 6, 1, c3, 0, 0, 1, 1, 0, 0, 6, 6, 2, c5, 0, 0, 0, 0, 6, 6, 2, c6, 0, 0], B := [true], A := [none, a0, none, none, a2, none, a0, a3, none, a4, none, a0, a5, none, a7, none, a0, a6, none], M := [m0, m1] } W := by
  have sq : ∀ (W : Wd) (a : Option Addr) (c : Nat) (cs : List Vr.Ce) (sc : Int) (nm : Vr.Bs) (wh n : Int), cs.length = 2 → (Lit.int .i64 sc).wf = true → SlI W a0 6 6 8 (Vr.towerL.flatMap Vr.It.enc) → SlI W a 2 c 5 (cs.flatMap Vr.Ce.enc) → Vr.sees Vr.towerL cs sc nm wh n = true →
      CallsQ Try.prog 24 #[Vr.StV.val { Vr.towerS a0 with c := ⟨a, 2, c⟩ }, .int .i64 sc, .string ⟨nm.toArray⟩, .int .i64 wh, .int .i64 n] W (.bool true) := fun W a c cs sc nm wh n hl hw h1 h2 h3 => by
    have := sees_q { Vr.towerS a0 with c := ⟨a, 2, c⟩ } Vr.towerL (by decide) tower_ups cs (by omega) sc hw nm wh n W (SlAt.w h1) (SlAt.w h2)
    rw [h3] at this
    exact this
  refine den_call_q (fun _ _ => sq W a5 c5 csA 3 Vr.Y 3 2 rfl rfl hI hA works_s2) ⟨true, rfl, fun W1 x1 => ?_⟩
  simp only [Env.push, List.cons_append, List.nil_append, List.append_nil]
  refine den_br_t rfl ?_
  refine den_call_q (fun _ _ => sq W1 a5 c5 csA 1 Vr.Y (-1) 0 rfl rfl (hI.ext x1) (hA.ext x1) works_s3) ⟨true, rfl, fun W2 x2 => ?_⟩
  simp only [Env.push, List.cons_append, List.nil_append, List.append_nil]
  have y2 := ext_trans x1 x2
  refine den_br_t rfl ?_
  refine den_call_q (fun _ _ => sq W2 a6 c6 csB 1 Vr.X 1 5 rfl rfl (hI.ext y2) (hB.ext y2) works_s4) ⟨true, rfl, fun W3 x3 => ?_⟩
  simp only [Env.push, List.cons_append, List.nil_append, List.append_nil]
  have y3 := ext_trans y2 x3
  refine den_br_t rfl ?_
  refine den_call_i (fun _ _ => wayL_i { Vr.towerS a0 with c := ⟨a5, 2, c5⟩ } Vr.towerL (by decide) tower_ups 5 rfl W3 (SlAt.w (hI.ext y3))) fun v w _ h => ?_
  obtain ⟨b1, c1, rfl, hw⟩ := h
  rw [works_w] at hw ⊢
  refine ExE.mk (d := { N := [1, c1], A := [b1] }) ⟨rfl, fun v hv => by cases hv⟩ ⟨rfl, fun W4 e4 x4 n4 => ?_⟩
  have hw := hw.stay e4 n4
  simp only [Env.push, List.cons_append, List.nil_append, List.append_nil]
  have y4 := ext_trans y3 x4
  refine den_newf fun k W5 _ x5 Ik hk => ?_
  simp only [Env.push, List.cons_append, List.nil_append, List.append_nil]
  have y5 := ext_trans y4 x5
  have hk : SlI W5 (some ⟨k, 0, none⟩) 1 1 1 ([5].map (Value.int .i64)) := sl_block hk rfl rfl Ik
  refine den_call_q (fun _ _ => ints_q [5] [5] (by decide) b1 (some ⟨k, 0, none⟩) 1 c1 1 1 W5 (SlAt.w (hw.ext x5)) (SlAt.w hk)) ⟨true, rfl, fun W6 x6 => ?_⟩
  simp only [Env.push, List.cons_append, List.nil_append, List.append_nil]
  have y6 := ext_trans y5 x6
  refine den_br_t rfl ?_
  refine den_call_q (fun _ _ => sq W6 a5 c5 csA 5 Vr.X (-1) 0 rfl rfl (hI.ext y6) (hA.ext y6) works_s5) ⟨true, rfl, fun W7 x7 => den_ret fun _ _ _ => ⟨_, rfl, rfl⟩⟩
theorem works_q (W : Wd) : CallsQ Try.prog 9 #[] W (.bool true) := by
  refine vc_works W.all _ ?_
  refine den_call_i (fun _ _ => tower_i W.all) fun v0 w0 _ h0 => ?_
  obtain ⟨a0, rfl, hs0⟩ := h0
  refine ExE.mk (d := { I := [0, 6], N := [0, 0, 6, 6, 0, 0, 0, 0], A := [none, a0, none, none] }) ⟨rfl, fun v hv => by cases hv⟩ ⟨rfl, fun W1 e1 x1 n1 => ?_⟩
  have hI0 := hs0.stay e1 n1
  simp only [Env.push, List.cons_append, List.nil_append, List.append_nil]
  refine den_call_i (fun _ _ => one_i Vr.X 1 W1) fun v2 w2 _ h2 => ?_
  obtain ⟨a2, rfl, hs2⟩ := h2
  refine ExE.mk (d := { N := [1, 1], A := [a2] }) ⟨rfl, fun v hv => by cases hv⟩ ⟨rfl, fun W2 e2 x2 n2 => ?_⟩
  have hI2 := hs2.stay e2 n2
  simp only [Env.push, List.cons_append, List.nil_append, List.append_nil]
  have hI0 := hI0.ext x2
  have hC0 : SlW W2.w none 0 0 5 (([] : List Vr.Ce).flatMap Vr.Ce.enc) := ⟨rfl, Nat.le_refl _, .inl ⟨trivial, rfl, rfl⟩⟩
  refine den_call_i (fun _ _ => open_i (Vr.towerS a0) [] (by decide) (Vr.one Vr.X 1) (by decide) 1 ⟨a2, 1, 1⟩ W2 hC0 (SlAt.w hI2)) fun v3 w3 _ h3 => ?_
  obtain ⟨r1, hr1, a3, c3, rfl, hs3⟩ := h3
  obtain rfl : r1 = [⟨1, Vr.X, Vr.num 1⟩] := hr1.eq Vr.wo (St.Of.refl (l := ([⟨1, Vr.X, Vr.num 1⟩] : List Vr.Ce)) (by simp [St.Srt]))
  refine ExE.mk (d := { I := [0, 6], N := [0, 0, 6, 6, 1, c3, 0, 0], A := [none, a0, a3, none] }) ⟨rfl, fun v hv => by cases hv⟩ ⟨rfl, fun W3 e3 x3 n3 => ?_⟩
  have hC3 := hs3.stay e3 n3
  simp only [Env.push, List.cons_append, List.nil_append, List.append_nil]
  have hI0 := hI0.ext x3
  refine den_call_i (fun _ _ => one_i Vr.Y 2 W3) fun v4 w4 _ h4 => ?_
  obtain ⟨a4, rfl, hs4⟩ := h4
  refine ExE.mk (d := { N := [1, 1], A := [a4] }) ⟨rfl, fun v hv => by cases hv⟩ ⟨rfl, fun W4 e4 x4 n4 => ?_⟩
  have hI4 := hs4.stay e4 n4
  simp only [Env.push, List.cons_append, List.nil_append, List.append_nil]
  have hI0 := hI0.ext x4
  have hC3 := hC3.ext x4
  refine den_call_i (fun _ _ => open_i { Vr.towerS a0 with c := ⟨a3, 1, c3⟩ } [⟨1, Vr.X, Vr.num 1⟩] (by decide) (Vr.one Vr.Y 2) (by decide) 3 ⟨a4, 1, 1⟩ W4 (SlAt.w hC3) (SlAt.w hI4)) fun v5 w5 _ h5 => ?_
  obtain ⟨r2, hr2, a5, c5, rfl, hs5⟩ := h5
  obtain rfl : r2 = [⟨1, Vr.X, Vr.num 1⟩, ⟨3, Vr.Y, Vr.num 2⟩] := hr2.eq Vr.wo works_o
  refine ExE.mk (d := { I := [0, 6], N := [0, 0, 6, 6, 2, c5, 0, 0], A := [none, a0, a5, none] }) ⟨rfl, fun v hv => by cases hv⟩ ⟨rfl, fun W5 e5 x5 n5 => ?_⟩
  have hC5 := hs5.stay e5 n5
  simp only [Env.push, List.cons_append, List.nil_append, List.append_nil]
  have hI0 := hI0.ext x5
  have pq : ∀ (W : Wd) (b : Option Addr), SlI W a0 6 6 8 (Vr.towerL.flatMap Vr.It.enc) → SlI W a5 2 c5 5 (csA.flatMap Vr.Ce.enc) → SlI W b 1 1 4 ((Vr.one Vr.X 5).flatMap Vr.Va.enc) →
      CallsI Try.prog 16 #[Vr.StV.val { Vr.towerS a0 with c := ⟨a5, 2, c5⟩ }, .int .i64 3, .slice b 1 1] W.all fun v w' => PutR W.w w' { Vr.towerS a0 with c := ⟨a5, 2, c5⟩ } v (0, csB) := fun W b h1 h2 h3 => by
    have := put_i { Vr.towerS a0 with c := ⟨a5, 2, c5⟩ } Vr.towerL (by decide) tower_ups csA (by decide) 3 rfl (Vr.one Vr.X 5) (by decide) (by decide) ⟨b, 1, 1⟩ W (SlAt.w h1) (SlAt.w h2) (SlAt.w h3)
    rw [works_p] at this
    exact this
  refine den_new fun m0 W6 _ x6 => den_wr fun W7 x7 => ?_
  have y7 := ext_trans x6 x7
  simp only [Env.push, List.cons_append, List.nil_append, List.append_nil]
  have sq := sees_q { Vr.towerS a0 with c := ⟨a5, 2, c5⟩ } Vr.towerL (by decide) tower_ups csA (by decide) 3 rfl Vr.X 1 1
  rw [works_s1] at sq
  refine ⟨?_, ?_⟩
  · refine den_grow fun W8 x8 => den_newf fun k W9 _ x9 Ik hk => ?_
    simp only [Env.push, List.cons_append, List.nil_append, List.append_nil]
    have hk : SlI W9 (some ⟨k, 0, none⟩) 1 1 4 ((Vr.one Vr.X 5).flatMap Vr.Va.enc) := sl_block hk rfl rfl Ik
    have y9 := ext_trans (ext_trans y7 x8) x9
    refine ⟨?_, ?_⟩
    · refine den_grow fun W10 x10 => ?_
      have y10 := ext_trans y9 x10
      refine den_call_i (fun _ _ => pq W10 _ (hI0.ext y10) (hC5.ext y10) (hk.ext x10)) fun v w _ h => ?_
      obtain ⟨_, a6, c6, rfl, hB⟩ : _ ∧ _ := h.resolve_right fun h => h.1 rfl
      refine ExE.mk (d := { I := [0, 6, 0], N := [0, 0, 6, 6, 2, c6, 0, 0], A := [none, a0, a6, none] }) ⟨rfl, fun v hv => by cases hv⟩ ⟨rfl, fun W11 e11 x11 n11 => ?_⟩
      have hB := hB.stay e11 n11
      have y11 := ext_trans y10 x11
      simp only [Env.push, List.cons_append, List.nil_append, List.append_nil]
      refine den_grow fun Wa xa => den_new fun m1 Wb _ xb => den_grow fun Wc xc => den_wr fun Wd' xd => den_grow fun We xe => ?_
      simp only [Env.push, List.cons_append, List.nil_append, List.append_nil]
      have z := ext_trans (ext_trans (ext_trans (ext_trans xa xb) xc) xd) xe
      have y := ext_trans y11 z
      refine den_call_q (fun _ _ => sq We (SlAt.w (hI0.ext y)) (SlAt.w (hC5.ext y))) ⟨true, rfl, fun W12 x12 => ?_⟩
      simp only [Env.push, List.cons_append, List.nil_append, List.append_nil]
      have y := ext_trans y x12
      refine den_br_t rfl ?_
      exact works_rest _ a0 a2 a3 a4 a5 a6 _ c3 c5 c6 m0 m1 W12 (hI0.ext y) (hC5.ext y) (hB.ext (ext_trans z x12))
    · refine den_grow fun Wa xa => den_new fun m1 Wb _ xb => den_grow fun W10 x10 => ?_
      have yk := ext_trans (ext_trans xa xb) x10
      have y10 := ext_trans y9 yk
      simp only [Env.push, List.cons_append, List.nil_append, List.append_nil]
      refine den_call_i (fun _ _ => pq W10 _ (hI0.ext y10) (hC5.ext y10) (hk.ext yk)) fun v w _ h => ?_
      obtain ⟨_, a6, c6, rfl, hB⟩ : _ ∧ _ := h.resolve_right fun h => h.1 rfl
      refine ExE.mk (d := { I := [0, 6, 0], N := [0, 0, 6, 6, 2, c6, 0, 0], A := [none, a0, a6, none] }) ⟨rfl, fun v hv => by cases hv⟩ ⟨rfl, fun W11 e11 x11 n11 => ?_⟩
      have hB := hB.stay e11 n11
      have y11 := ext_trans y10 x11
      simp only [Env.push, List.cons_append, List.nil_append, List.append_nil]
      refine den_grow fun Wc xc => den_wr fun Wd' xd => den_grow fun We xe => ?_
      have z := ext_trans (ext_trans xc xd) xe
      have y := ext_trans y11 z
      refine den_call_q (fun _ _ => sq We (SlAt.w (hI0.ext y)) (SlAt.w (hC5.ext y))) ⟨true, rfl, fun W12 x12 => ?_⟩
      simp only [Env.push, List.cons_append, List.nil_append, List.append_nil]
      have y := ext_trans y x12
      refine den_br_t rfl ?_
      exact works_rest _ a0 a2 a3 a4 a5 a6 _ c3 c5 c6 m0 m1 W12 (hI0.ext y) (hC5.ext y) (hB.ext (ext_trans z x12))
  · refine den_grow fun W8 x8 => den_new fun m1 Wb _ xb => den_grow fun Wc xc => den_newf fun k W9 _ x9 Ik hk => ?_
    simp only [Env.push, List.cons_append, List.nil_append, List.append_nil]
    have hk : SlI W9 (some ⟨k, 0, none⟩) 1 1 4 ((Vr.one Vr.X 5).flatMap Vr.Va.enc) := sl_block hk rfl rfl Ik
    have y9 := ext_trans (ext_trans (ext_trans (ext_trans y7 x8) xb) xc) x9
    refine den_grow fun W10 x10 => ?_
    have y10 := ext_trans y9 x10
    refine den_call_i (fun _ _ => pq W10 _ (hI0.ext y10) (hC5.ext y10) (hk.ext x10)) fun v w _ h => ?_
    obtain ⟨_, a6, c6, rfl, hB⟩ : _ ∧ _ := h.resolve_right fun h => h.1 rfl
    refine ExE.mk (d := { I := [0, 6, 0], N := [0, 0, 6, 6, 2, c6, 0, 0], A := [none, a0, a6, none] }) ⟨rfl, fun v hv => by cases hv⟩ ⟨rfl, fun W11 e11 x11 n11 => ?_⟩
    have hB := hB.stay e11 n11
    have y11 := ext_trans y10 x11
    simp only [Env.push, List.cons_append, List.nil_append, List.append_nil]
    refine den_grow fun Wc xc => den_wr fun Wd' xd => den_grow fun We xe => ?_
    have z := ext_trans (ext_trans xc xd) xe
    have y := ext_trans y11 z
    refine den_call_q (fun _ _ => sq We (SlAt.w (hI0.ext y)) (SlAt.w (hC5.ext y))) ⟨true, rfl, fun W12 x12 => ?_⟩
    simp only [Env.push, List.cons_append, List.nil_append, List.append_nil]
    have y := ext_trans y x12
    refine den_br_t rfl ?_
    exact works_rest _ a0 a2 a3 a4 a5 a6 _ c3 c5 c6 m0 m1 W12 (hI0.ext y) (hC5.ext y) (hB.ext (ext_trans z x12))
end Go.Proofs.Ytamnfdmmjjekhaa
