/- TypedNames: the walk (written by wip/gen_tynames.py). -/
import Derived.Test.YtijinopghlpdbaaGreatDoorTyRef
import Derived.Test.YtijinopghlpdbaaGreatDoorTyLaw
namespace Go.Proofs.YtijinopghlpdbaaGreatDoor
open Go Go.RowKit Go.SF
set_option linter.unusedSimpArgs false
set_option linter.unusedVariables false
/-- a slice of a new table that stays -/
theorem sl_new {W : Wd} {m : Nat} {cs : Array Value} {ty : TypeId} (h : W.w.heap[m]? = some (.cells cs ty)) (hI : W.I m) {n c sz : Nat} {xs : List Value} (hl : xs.length = n * sz) (hc : n ≤ c) (hp : ∀ (j : Nat) u, xs[j]? = some u → cs[j]? = some u) : SlI W (some ⟨m, 0, none⟩) n c sz xs := by
  refine ⟨hl, hc, .inr ⟨m, 0, rfl, hI, (Array.getElem?_eq_some_iff.1 h).1, fun j u hu => ?_⟩⟩
  have := hp j u hu
  simp [World.cell?, h, this]
theorem exi_leaf (W : Wd) (op k n : Int) (t nm : Lx.Bs) : ExI W (.mk op k n t nm []) (exV op k n t nm none 0 0) := by
  simp only [ExI, ExAt]
  exact ⟨none, 0, [], rfl, SlAt.nil _ _ _, by simp [ExsAt]⟩
theorem exi_new {W : Wd} {m : Nat} {cs : Array Value} {ty : TypeId} (h : W.w.heap[m]? = some (.cells cs ty)) (hI : W.I m) (op k n : Int) (t nm : Lx.Bs) {args : List Px.Ex} {ls : List Value} {c : Nat} (hE : ExsAt W.w W.I args ls) (hl : ls.length = args.length * 6) (hc : args.length ≤ c) (hp : ∀ (j : Nat) u, ls[j]? = some u → cs[j]? = some u) :
    ExI W (.mk op k n t nm args) (exV op k n t nm (some ⟨m, 0, none⟩) args.length c) := by
  simp only [ExI, ExAt]
  exact ⟨_, c, ls, rfl, sl_new h hI hl hc hp, hE⟩
theorem exs_nil (w : World) (J : Nat → Prop) : ExsAt w J [] [] := by simp [ExsAt]
theorem exs_cons {w : World} {J : Nat → Prop} {e : Px.Ex} {l : List Px.Ex} {vs ls : List Value} (h : ExAt w J e vs) (hl : ExsAt w J l ls) : ExsAt w J (e :: l) (vs ++ ls) := by
  simp only [ExsAt]; exact ⟨vs, ls, rfl, h, hl⟩
abbrev V3 := Int × Int × Lx.Bs
def vz : V3 := (0, 0, [])
def valsT : List V3 := [(1, 3, []), (2, 1, []), (3, 0, [116])]
def v3C (v : V3) : List Value := [.int .u8 v.1, .int .i64 v.2.1, .string ⟨v.2.2.toArray⟩]
def litE (v : V3) : Px.Ex := .mk 1 v.1 v.2.1 v.2.2 [] []
def e1 (op : Int) (a : V3) : Px.Ex := .mk op 0 0 [] [] [litE a]
def e2 (op : Int) (a b : V3) : Px.Ex := .mk op 0 0 [] [] [litE a, litE b]
def litV (v : V3) : List Value := exV 1 v.1 v.2.1 v.2.2 [] none 0 0
theorem vals_thin : ∀ i : Nat, Px.thin (litE (valsT.getD i vz)) = true := fun i =>
  match i with
  | 0 => by simp [valsT, litE, Px.thin, Px.thins]
  | 1 => by simp [valsT, litE, Px.thin, Px.thins]
  | 2 => by simp [valsT, litE, Px.thin, Px.thins]
  | i + 3 => by
    have : valsT.getD (i + 3) vz = vz := rfl
    rw [this]
    simp [vz, litE, Px.thin, Px.thins]
theorem thin_e1 (op : Int) (i : Nat) : Px.thin (e1 op (valsT.getD i vz)) = true := by
  have h := vals_thin i
  generalize valsT.getD i vz = z at *
  simp [e1, Px.thin, Px.thins, h]
theorem thin_e2 (op : Int) (i k : Nat) : Px.thin (e2 op (valsT.getD i vz) (valsT.getD k vz)) = true := by
  have h := vals_thin i
  have h2 := vals_thin k
  generalize valsT.getD i vz = z at *
  generalize valsT.getD k vz = z2 at *
  simp [e2, Px.thin, Px.thins, h, h2]
theorem e1_at {W : Wd} {m : Nat} {a b : V3} {ty : TypeId} (h : W.w.heap[m]? = some (.cells (litV a ++ litV b).toArray ty)) (hI : W.I m) (op : Int) : ExI W (e1 op a) (exV op 0 0 [] [] (some ⟨m, 0, none⟩) 1 2) := by
  refine exi_new (args := [litE a]) h hI op 0 0 [] [] (exs_cons (exi_leaf W _ _ _ _ _) (exs_nil _ _)) rfl (by show 1 ≤ 2; decide) fun j u hu => ?_
  rw [List.append_nil] at hu
  have hu : (litV a)[j]? = some u := hu
  rw [List.getElem?_toArray, List.getElem?_append_left (List.getElem?_eq_some_iff.1 hu).1]
  exact hu
theorem e2_at {W : Wd} {m : Nat} {a b : V3} {ty : TypeId} (h : W.w.heap[m]? = some (.cells (litV a ++ litV b).toArray ty)) (hI : W.I m) (op : Int) : ExI W (e2 op a b) (exV op 0 0 [] [] (some ⟨m, 0, none⟩) 2 2) := by
  refine exi_new (args := [litE a, litE b]) h hI op 0 0 [] [] (exs_cons (exi_leaf W _ _ _ _ _) (exs_cons (exi_leaf W _ _ _ _ _) (exs_nil _ _))) rfl (by show 2 ≤ 2; decide) fun j u hu => ?_
  rw [List.append_nil] at hu
  rw [List.getElem?_toArray]
  exact hu
def deepN : Nat → Px.Ex
  | 0 => .mk 1 1 3 [] [] []
  | n + 1 => .mk 3 0 0 [] [] [deepN n]
theorem deep_thin : ∀ n, Px.thin (deepN n) = true
  | 0 => by simp [deepN, Px.thin, Px.thins]
  | n + 1 => by have := deep_thin n; simp [deepN, Px.thin, Px.thins, this]
theorem deep_type : ∀ n, Tx.typed [] (deepN n) = (1, 0)
  | 0 => by rw [deepN, Tx.typed]; rfl
  | n + 1 => by
    rw [deepN, Tx.typed, if_neg (by decide), if_neg (by decide)]
    simp only [Tx.typeds, deep_type n, if_pos]
    decide
theorem deep_whole : Tx.whole 16 (deepN 15) = true := by decide
theorem deep_ty : Tx.type [] (deepN 15) = (1, 0) := by rw [Tx.type, if_pos deep_whole, deep_type]
def exs8 : List Px.Ex := [.mk 0 0 0 [] [] [], .mk 99 0 0 [] [] [], .mk 17 0 0 [] [] [], .mk 3 0 0 [] [] [], .mk 1 9 0 [] [] [], .mk 1 0 0 [] [] [deepN 15], .mk 8 0 0 [] [] [deepN 15], .mk 3 0 0 [] [] [deepN 15]]
theorem exs8_bad : ∀ e ∈ exs8, Tx.whole 16 e = false := by decide
theorem exs8_thin : ∀ e ∈ exs8, Px.thin e = true := by
  have h := deep_thin 15
  intro e he
  simp only [exs8, List.mem_cons, List.not_mem_nil, or_false] at he
  rcases he with rfl | rfl | rfl | rfl | rfl | rfl | rfl | rfl <;> simp [Px.thin, Px.thins, h]
theorem exs8_type : ∀ e ∈ exs8, Tx.type [] e = (0, 4) := fun e he => by unfold Tx.type; rw [exs8_bad e he]; rfl
def exN : Px.Ex := .mk 2 0 0 [] [110] []
def vars1 : List Tx.Var := [⟨[110], 0, 0, []⟩]
def vars2 : List Tx.Var := [⟨[110], 3, 0, [116]⟩, ⟨[110], 1, 3, []⟩]
theorem ty_l : Tx.type [] (.mk 1 0 0 [] [] []) = (0, 23) := by rw [Tx.type, if_pos (by decide), Tx.typed]; rfl
theorem ty_1 : Tx.type vars1 exN = (0, 23) := by rw [Tx.type, if_pos (by decide), exN, Tx.typed, if_neg (by decide), if_pos rfl]; decide
theorem ty_2 : Tx.type vars2 exN = (3, 0) := by rw [Tx.type, if_pos (by decide), exN, Tx.typed, if_neg (by decide), if_pos rfl]; decide
theorem thin_l : Px.thin (.mk 1 0 0 [] [] []) = true := by simp [Px.thin, Px.thins]
theorem thin_n : Px.thin exN = true := by simp [exN, Px.thin, Px.thins]
theorem wrap8 {n : Nat} (h : n ≤ 16) : IntKind.u8.wrap ((n : Int) + 1) = ((n + 1 : Nat) : Int) := by
  simp [IntKind.wrap, IntKind.bits, IntKind.signed]; omega
set_option maxRecDepth 100000 in
theorem typedNames_q (W0 : Wd) (hG : Glob W0) (hT : GlobT W0) : CallsQ Tryz.prog 4 #[] W0 (.bool true) := by
  refine vc_lnames W0.all _ ?_
  have hG := hG.ext W0.all_ext
  have hT := hT.ext W0.all_ext
  refine den_newf fun mv W1 _ x1 Iv hv => ?_
  have hS : SlI W1 (some ⟨mv, 0, none⟩) 3 3 3 (valsT.flatMap v3C) := sl_new hv Iv rfl (by decide) fun j u hu => by
    rw [List.getElem?_toArray]; exact hu
  refine den_loop (fun j vs ls _ => ∃ op : Nat, 3 ≤ op ∧ op ≤ 17 ∧ vs = [.int .u8 (op : Nat)] ∧ ls = [] ∧ j = 17 - op) 14 ⟨3, by omega, by omega, rfl, rfl, rfl⟩ ?_
  rintro j vs ls W2 x2 ⟨op, ho3, ho17, rfl, rfl, rfl⟩
  have y2 := ext_trans x1 x2
  refine ⟨(op : Int), rfl, rfl, fun _ => den_br (fun c1 => ?_) fun c1 => ?_⟩
  · have c1 : op ≤ 16 := by simp only [Sy.dens, Sy.den, E.i, E.b, E.t, gd, Env.push, List.cons_append, List.nil_append, List.append_nil, Int.toNat_natCast, leB_true] at c1; omega
    refine den_loop (fun j vs ls _ => ∃ i : Nat, i ≤ 3 ∧ vs = [.int .i64 (i : Nat)] ∧ ls = [] ∧ j = 3 - i) 3 ⟨0, by omega, rfl, rfl, rfl⟩ ?_
    rintro j vs ls W3 x3 ⟨i, hi, rfl, rfl, rfl⟩
    have y3 := ext_trans x2 x3
    refine ⟨(i : Int), rfl, rfl, fun _ => den_br (fun c2 => ?_) fun c2 => den_again ⟨17 - (op + 1), by omega, op + 1, by omega, by omega, ?_, rfl, rfl⟩⟩
    · have c2 : i < 3 := by simp only [Sy.dens, Sy.den, E.i, E.b, E.t, gd, Env.push, List.cons_append, List.nil_append, List.append_nil, Int.toNat_natCast, ltB_true] at c2; omega
      refine den_loop (fun j vs ls _ => ∃ k : Nat, k ≤ 3 ∧ vs = [.int .i64 (k : Nat)] ∧ ls = [] ∧ j = 3 - k) 3 ⟨0, by omega, rfl, rfl, rfl⟩ ?_
      rintro j vs ls W4 x4 ⟨k, hk, rfl, rfl, rfl⟩
      have y4 := ext_trans y3 x4
      refine ⟨(k : Int), rfl, rfl, fun _ => den_br (fun c3 => ?_) fun c3 => den_again ⟨3 - (i + 1), by omega, i + 1, by omega, ?_, rfl, rfl⟩⟩
      · have c3 : k < 3 := by simp only [Sy.dens, Sy.den, E.i, E.b, E.t, gd, Env.push, List.cons_append, List.nil_append, List.append_nil, Int.toNat_natCast, ltB_true] at c3; omega
        have gv : ∀ i, i < 3 → valsT[i]? = some (valsT.getD i vz) := fun i hi => by
          match i, hi with
          | 0, _ => rfl
          | 1, _ => rfl
          | 2, _ => rfl
        refine den_chk rfl (den_chk ?_ (den_look ⟨(valsT.getD i vz).1, (valsT.getD i vz).2.1, ⟨(valsT.getD i vz).2.2.toArray⟩, fun V xV => ?_, ?_⟩))
        · simp only [Sy.dens, Sy.den, E.i, E.b, E.t, gd, Env.push, List.cons_append, List.nil_append, List.append_nil, Int.toNat_natCast]; exact leB_t (by omega)
        · have := sl_look (f := v3C) (sz := 3) (fun _ => rfl) (by decide) hS val_aggT val_sizeT (gv i c2) (ext_trans y4 xV)
          simp only [Sy.dens, Sy.den, E.i, E.b, E.t, gd, Env.push, List.cons_append, List.nil_append, List.append_nil, Int.toNat_natCast] at this ⊢
          exact this
        simp only [Env.push, List.cons_append, List.nil_append, List.append_nil]
        refine den_chk ?_ (den_look ⟨(valsT.getD k vz).1, (valsT.getD k vz).2.1, ⟨(valsT.getD k vz).2.2.toArray⟩, fun V xV => ?_, ?_⟩)
        · simp only [Sy.dens, Sy.den, E.i, E.b, E.t, gd, Env.push, List.cons_append, List.nil_append, List.append_nil, Int.toNat_natCast]; exact leB_t (by omega)
        · have := sl_look (f := v3C) (sz := 3) (fun _ => rfl) (by decide) hS val_aggT val_sizeT (gv k c3) (ext_trans y4 xV)
          simp only [Sy.dens, Sy.den, E.i, E.b, E.t, gd, Env.push, List.cons_append, List.nil_append, List.append_nil, Int.toNat_natCast] at this ⊢
          exact this
        simp only [Env.push, List.cons_append, List.nil_append, List.append_nil]
        refine den_both ?_ ?_
        · refine den_grow fun Wa xa => den_newf fun mA W7 _ x7 I7 h7 => den_grow fun Wb xb => den_new fun m1 Wc _ xc => den_grow fun Wd' xd => den_wr fun W8 x8 => ?_
          have y8 := ext_trans (ext_trans (ext_trans xb xc) xd) x8
          have z8 := ext_trans x1 (ext_trans y4 (ext_trans (ext_trans xa x7) y8))
          refine den_br (fun c4 => ?_) fun c4 => ?_
          · have hop : (op = 3 ∨ op = 4) ∨ op = 16 := by
              simp only [Sy.dens, Sy.den, E.i, E.b, E.t, gd, Env.push, List.cons_append, List.nil_append, List.append_nil, Int.toNat_natCast, Bool.or_eq_true, beq_iff_eq] at c4; omega
            have hE1 : ∀ V, Ext W8 V → ExI V (e1 op (valsT.getD i vz)) (exV op 0 0 [] [] (some ⟨mA, 0, none⟩) 1 2) := fun V xV => (e1_at h7 I7 op).ext (ext_trans y8 xV)
            refine den_sub (den_wr fun W9 x9 => ?_)
            refine den_call_q (fun _ _ => tType_q (e1 op (valsT.getD i vz)) _ [] none 0 W9 (thin_e1 op i) (by decide) (hE1 W9 x9) (SlAt.nil _ _ _) (hT.ext (ext_trans z8 x9))) ⟨(Tx.type [] (e1 op (valsT.getD i vz))).1, (Tx.type [] (e1 op (valsT.getD i vz))).2, rfl, fun W10 x10 => ?_⟩
            have z10 := ext_trans x9 x10
            refine den_call_q (fun _ _ => xType_q (e1 op (valsT.getD i vz)) _ [] none 0 W10 (thin_e1 op i) (by decide) (hE1 W10 z10) (SlAt.nil _ _ _)) ⟨(Tx.type [] (e1 op (valsT.getD i vz))).1, (Tx.type [] (e1 op (valsT.getD i vz))).2, rfl, fun W11 x11 => ?_⟩
            refine den_br_f (by simp [Sy.dens, Sy.den, E.i, E.b, E.t, gd, Env.push, List.cons_append, List.nil_append, List.append_nil, Int.toNat_natCast]) (den_frz fun W12 _ x12 _ _ => den_again ⟨3 - (k + 1), by omega, k + 1, by omega, ?_, rfl, by omega⟩)
            simp only [Sy.dens, Sy.den, E.i, E.b, E.t, gd, Env.push, List.cons_append, List.nil_append, List.append_nil, Int.toNat_natCast]; rw [w64i (by omega) (by omega)]; rfl
          · have hE2 : ∀ V, Ext W8 V → ExI V (e2 op (valsT.getD i vz) (valsT.getD k vz)) (exV op 0 0 [] [] (some ⟨mA, 0, none⟩) 2 2) := fun V xV => (e2_at h7 I7 op).ext (ext_trans y8 xV)
            refine den_call_q (fun _ _ => tType_q (e2 op (valsT.getD i vz) (valsT.getD k vz)) _ [] none 0 W8 (thin_e2 op i k) (by decide) (hE2 W8 (Ext.refl _)) (SlAt.nil _ _ _) (hT.ext z8)) ⟨(Tx.type [] (e2 op (valsT.getD i vz) (valsT.getD k vz))).1, (Tx.type [] (e2 op (valsT.getD i vz) (valsT.getD k vz))).2, rfl, fun W10 x10 => ?_⟩
            refine den_call_q (fun _ _ => xType_q (e2 op (valsT.getD i vz) (valsT.getD k vz)) _ [] none 0 W10 (thin_e2 op i k) (by decide) (hE2 W10 x10) (SlAt.nil _ _ _)) ⟨(Tx.type [] (e2 op (valsT.getD i vz) (valsT.getD k vz))).1, (Tx.type [] (e2 op (valsT.getD i vz) (valsT.getD k vz))).2, rfl, fun W11 x11 => ?_⟩
            refine den_br_f (by simp [Sy.dens, Sy.den, E.i, E.b, E.t, gd, Env.push, List.cons_append, List.nil_append, List.append_nil, Int.toNat_natCast]) (den_frz fun W12 _ x12 _ _ => den_again ⟨3 - (k + 1), by omega, k + 1, by omega, ?_, rfl, by omega⟩)
            simp only [Sy.dens, Sy.den, E.i, E.b, E.t, gd, Env.push, List.cons_append, List.nil_append, List.append_nil, Int.toNat_natCast]; rw [w64i (by omega) (by omega)]; rfl
        · refine den_grow fun Wa xa => den_new fun m1 Wc _ xc => den_grow fun Wb xb => den_newf fun mA W7 _ x7 I7 h7 => den_grow fun Wd' xd => den_wr fun W8 x8 => ?_
          have y8 := ext_trans xd x8
          have z8 := ext_trans x1 (ext_trans y4 (ext_trans (ext_trans (ext_trans (ext_trans xa xc) xb) x7) y8))
          refine den_br (fun c4 => ?_) fun c4 => ?_
          · have hop : (op = 3 ∨ op = 4) ∨ op = 16 := by
              simp only [Sy.dens, Sy.den, E.i, E.b, E.t, gd, Env.push, List.cons_append, List.nil_append, List.append_nil, Int.toNat_natCast, Bool.or_eq_true, beq_iff_eq] at c4; omega
            have hE1 : ∀ V, Ext W8 V → ExI V (e1 op (valsT.getD i vz)) (exV op 0 0 [] [] (some ⟨mA, 0, none⟩) 1 2) := fun V xV => (e1_at h7 I7 op).ext (ext_trans y8 xV)
            refine den_sub (den_wr fun W9 x9 => ?_)
            refine den_call_q (fun _ _ => tType_q (e1 op (valsT.getD i vz)) _ [] none 0 W9 (thin_e1 op i) (by decide) (hE1 W9 x9) (SlAt.nil _ _ _) (hT.ext (ext_trans z8 x9))) ⟨(Tx.type [] (e1 op (valsT.getD i vz))).1, (Tx.type [] (e1 op (valsT.getD i vz))).2, rfl, fun W10 x10 => ?_⟩
            have z10 := ext_trans x9 x10
            refine den_call_q (fun _ _ => xType_q (e1 op (valsT.getD i vz)) _ [] none 0 W10 (thin_e1 op i) (by decide) (hE1 W10 z10) (SlAt.nil _ _ _)) ⟨(Tx.type [] (e1 op (valsT.getD i vz))).1, (Tx.type [] (e1 op (valsT.getD i vz))).2, rfl, fun W11 x11 => ?_⟩
            refine den_br_f (by simp [Sy.dens, Sy.den, E.i, E.b, E.t, gd, Env.push, List.cons_append, List.nil_append, List.append_nil, Int.toNat_natCast]) (den_frz fun W12 _ x12 _ _ => den_again ⟨3 - (k + 1), by omega, k + 1, by omega, ?_, rfl, by omega⟩)
            simp only [Sy.dens, Sy.den, E.i, E.b, E.t, gd, Env.push, List.cons_append, List.nil_append, List.append_nil, Int.toNat_natCast]; rw [w64i (by omega) (by omega)]; rfl
          · have hE2 : ∀ V, Ext W8 V → ExI V (e2 op (valsT.getD i vz) (valsT.getD k vz)) (exV op 0 0 [] [] (some ⟨mA, 0, none⟩) 2 2) := fun V xV => (e2_at h7 I7 op).ext (ext_trans y8 xV)
            refine den_call_q (fun _ _ => tType_q (e2 op (valsT.getD i vz) (valsT.getD k vz)) _ [] none 0 W8 (thin_e2 op i k) (by decide) (hE2 W8 (Ext.refl _)) (SlAt.nil _ _ _) (hT.ext z8)) ⟨(Tx.type [] (e2 op (valsT.getD i vz) (valsT.getD k vz))).1, (Tx.type [] (e2 op (valsT.getD i vz) (valsT.getD k vz))).2, rfl, fun W10 x10 => ?_⟩
            refine den_call_q (fun _ _ => xType_q (e2 op (valsT.getD i vz) (valsT.getD k vz)) _ [] none 0 W10 (thin_e2 op i k) (by decide) (hE2 W10 x10) (SlAt.nil _ _ _)) ⟨(Tx.type [] (e2 op (valsT.getD i vz) (valsT.getD k vz))).1, (Tx.type [] (e2 op (valsT.getD i vz) (valsT.getD k vz))).2, rfl, fun W11 x11 => ?_⟩
            refine den_br_f (by simp [Sy.dens, Sy.den, E.i, E.b, E.t, gd, Env.push, List.cons_append, List.nil_append, List.append_nil, Int.toNat_natCast]) (den_frz fun W12 _ x12 _ _ => den_again ⟨3 - (k + 1), by omega, k + 1, by omega, ?_, rfl, by omega⟩)
            simp only [Sy.dens, Sy.den, E.i, E.b, E.t, gd, Env.push, List.cons_append, List.nil_append, List.append_nil, Int.toNat_natCast]; rw [w64i (by omega) (by omega)]; rfl
      · simp only [Sy.dens, Sy.den, E.i, E.b, E.t, gd, Env.push, List.cons_append, List.nil_append, List.append_nil, Int.toNat_natCast]; rw [w64i (by omega) (by omega)]; rfl
    · simp only [Sy.dens, Sy.den, E.i, E.b, E.t, gd, Env.push, List.cons_append, List.nil_append, List.append_nil, Int.toNat_natCast]; rw [wrap8 c1]
  · refine den_chk rfl (den_chk rfl (den_chk rfl (den_look ⟨1, 3, ⟨#[]⟩, fun V xV => ?_, ?_⟩)))
    · have := sl_look (f := v3C) (sz := 3) (fun _ => rfl) (by decide) hS val_aggT val_sizeT (i := 0) (x := (1, 3, [])) rfl (ext_trans x2 xV)
      simp only [Sy.dens, Sy.den, E.i, E.b, E.t, gd, Env.push, List.cons_append, List.nil_append, List.append_nil, Int.toNat_natCast] at this ⊢
      exact this
    simp only [Env.push, List.cons_append, List.nil_append, List.append_nil]
    refine den_new fun m0 W3 _ x3 => den_wr fun W4 x4 => ?_
    refine den_loop (fun j vs ls V => ∃ (i : Nat) (ds : List Value), 1 ≤ i ∧ i ≤ 16 ∧ vs = .int .i64 (i : Nat) :: ds ∧ ls = [] ∧ j = 16 - i ∧ ExI V (deepN (i - 1)) ds) 15 ⟨1, exV 1 1 3 [] [] none 0 0, by omega, by omega, rfl, rfl, rfl, exi_leaf _ _ _ _ _ _⟩ ?_
    rintro j vs ls W5 x5 ⟨i, ds, hi1, hi16, rfl, rfl, rfl, hx⟩
    obtain ⟨dop, dk, dn, dt, dnm, dal, dlen, dcl, rfl⟩ := hx.shape
    have y5 := ext_trans (ext_trans (ext_trans x2 x3) x4) x5
    refine ⟨(i : Int), dop, dk, dn, dlen, dcl, dt, dnm, dal, rfl, rfl, fun _ => den_br (fun c2 => ?_) fun c2 => ?_⟩
    · have c2 : i < 16 := by simp only [Sy.dens, Sy.den, E.i, E.b, E.t, gd, Env.push, List.cons_append, List.nil_append, List.append_nil, Int.toNat_natCast, ltB_true] at c2; omega
      refine den_newf fun m2 W6 _ x6 I6 h6 => den_wr fun W7 x7 => den_again ⟨16 - (i + 1), by omega, i + 1, exV 3 0 0 [] [] (some ⟨m2, 0, none⟩) 1 1, by omega, by omega, ?_, rfl, rfl, ?_⟩
      · simp only [Sy.dens, Sy.den, E.i, E.b, E.t, gd, Env.push, List.cons_append, List.nil_append, List.append_nil, Int.toNat_natCast]; rw [w64i (by omega) (by omega)]; rfl
      · rw [show i + 1 - 1 = (i - 1) + 1 from by omega, deepN]
        refine ExI.ext (exi_new (args := [deepN (i - 1)]) h6 I6 3 0 0 [] [] (exs_cons (hx.ext x6) (exs_nil _ _)) rfl (Nat.le_refl 1) fun j u hu => ?_) x7
        rw [List.append_nil] at hu
        rw [List.getElem?_toArray]; exact hu
    · have c2 : i = 16 := by simp only [Sy.dens, Sy.den, E.i, E.b, E.t, gd, Env.push, List.cons_append, List.nil_append, List.append_nil, Int.toNat_natCast, ltB_false] at c2; omega
      subst c2
      have hx : ExI W5 (deepN 15) _ := hx
      have one : ∀ {Wn V : Wd} {m : Nat} {ty : TypeId}, Ext W5 Wn → Wn.w.heap[m]? = some (.cells ([Value.int .u8 dop, .int .u8 dk, .int .i64 dn, .string dt, .string dnm, .slice dal dlen dcl] : List Value).toArray ty) → Wn.I m → Ext Wn V → ∀ op k n t nm, ExI V (.mk op k n t nm [deepN 15]) (exV op k n t nm (some ⟨m, 0, none⟩) 1 1) := fun {Wn V m ty} xn h hI xV op k n t nm => by
        refine ExI.ext (exi_new (args := [deepN 15]) h hI op k n t nm (exs_cons (hx.ext xn) (exs_nil _ _)) rfl (by decide) fun j u hu => ?_) xV
        rw [List.append_nil] at hu
        rw [List.getElem?_toArray]; exact hu
      refine den_newf fun m1 W6 _ x6 I6 h6 => den_new fun md W7 _ x7 => den_wr fun W8 x8 => den_newf fun m2 W9 _ x9 I9 h9 => den_newf fun m3 W10 _ x10 I10 h10 => den_newf fun m8 W11 _ x11 I11 h11 => ?_
      have a9 := ext_trans x6 (ext_trans x7 (ext_trans x8 x9))
      have a10 := ext_trans a9 x10
      have a11 := ext_trans a10 x11
      have hE8 : ExsAt W11.w W11.I exs8 (exV 0 0 0 [] [] none 0 0 ++ (exV 99 0 0 [] [] none 0 0 ++ (exV 17 0 0 [] [] none 0 0 ++ (exV 3 0 0 [] [] none 0 0 ++ (exV 1 9 0 [] [] none 0 0 ++ (exV 1 0 0 [] [] (some ⟨m2, 0, none⟩) 1 1 ++ (exV 8 0 0 [] [] (some ⟨m3, 0, none⟩) 1 1 ++ (exV 3 0 0 [] [] (some ⟨m1, 0, none⟩) 1 1 ++ [])))))))) :=
        exs_cons (exi_leaf W11 _ _ _ _ _) (exs_cons (exi_leaf W11 _ _ _ _ _) (exs_cons (exi_leaf W11 _ _ _ _ _) (exs_cons (exi_leaf W11 _ _ _ _ _) (exs_cons (exi_leaf W11 _ _ _ _ _)
          (exs_cons (one a9 h9 I9 (ext_trans x10 x11) _ _ _ _ _) (exs_cons (one a10 h10 I10 x11 _ _ _ _ _) (exs_cons (one x6 h6 I6 (ext_trans x7 (ext_trans x8 (ext_trans x9 (ext_trans x10 x11)))) _ _ _ _ _) (exs_nil _ _))))))))
      have hS8 : SlI W11 (some ⟨m8, 0, none⟩) 8 8 6 (exV 0 0 0 [] [] none 0 0 ++ (exV 99 0 0 [] [] none 0 0 ++ (exV 17 0 0 [] [] none 0 0 ++ (exV 3 0 0 [] [] none 0 0 ++ (exV 1 9 0 [] [] none 0 0 ++ (exV 1 0 0 [] [] (some ⟨m2, 0, none⟩) 1 1 ++ (exV 8 0 0 [] [] (some ⟨m3, 0, none⟩) 1 1 ++ (exV 3 0 0 [] [] (some ⟨m1, 0, none⟩) 1 1 ++ [])))))))) := sl_new h11 I11 rfl (by decide) fun j u hu => by
        rw [List.getElem?_toArray]; exact hu
      have t11 := ext_trans x1 (ext_trans y5 a11)
      refine den_loop (fun j vs ls _ => ∃ i : Nat, i ≤ 8 ∧ vs = [.int .i64 (i : Nat)] ∧ ls = [] ∧ j = 8 - i) 8 ⟨0, by omega, rfl, rfl, rfl⟩ ?_
      rintro j vs ls W12 x12 ⟨i, hi, rfl, rfl, rfl⟩
      refine ⟨(i : Int), rfl, rfl, fun _ => den_br (fun c3 => ?_) fun c3 => ?_⟩
      · have c3 : i < exs8.length := by simp only [Sy.dens, Sy.den, E.i, E.b, E.t, gd, Env.push, List.cons_append, List.nil_append, List.append_nil, Int.toNat_natCast, ltB_true] at c3; show i < 8; omega
        have hg0 : exs8[i]? = some exs8[i] := List.getElem?_eq_getElem c3
        have hmem : exs8[i] ∈ exs8 := List.getElem_mem c3
        obtain ⟨us, hu, hg⟩ := exs_get hE8 hg0
        have hu1 : ExI W11 exs8[i] us := hu
        have hbad := exs8_bad _ hmem
        have hthin := exs8_thin _ hmem
        have hty := exs8_type _ hmem
        generalize exs8[i] = ee at *
        obtain ⟨o1, k1, n1, t1, m1', al1, len1, cl1, rfl⟩ := hu1.shape
        refine den_chk rfl (den_chk ?_ (den_look ⟨o1, k1, n1, len1, cl1, t1, m1', al1, fun V xV => ?_, ?_⟩))
        · simp only [Sy.dens, Sy.den, E.i, E.b, E.t, gd, Env.push, List.cons_append, List.nil_append, List.append_nil, Int.toNat_natCast]; exact leB_t (by omega)
        · have := sl_look_at (W := W11) hS8 ex_agg ex_size rfl (by decide) hg (ext_trans x12 xV)
          simp only [Sy.dens, Sy.den, E.i, E.b, E.t, gd, Env.push, List.cons_append, List.nil_append, List.append_nil, Int.toNat_natCast] at this ⊢
          exact this
        simp only [Env.push, List.cons_append, List.nil_append, List.append_nil]
        refine den_new fun mq W13 _ x13 => den_wr fun W14 x14 => ?_
        have y14 := ext_trans x12 (ext_trans x13 x14)
        have hq := tType_q ee _ [] none 0 W14 hthin (by decide) (hu1.ext y14) (SlAt.nil _ _ _) (hT.ext (ext_trans t11 y14))
        rw [hty] at hq
        refine den_call_q (fun _ _ => hq) ⟨0, 4, rfl, fun W15 x15 => ?_⟩
        have y15 := ext_trans y14 x15
        have hq := tWhole_q ee _ W15 hthin (hu1.ext y15) (hT.ext (ext_trans t11 y15))
        rw [hbad] at hq
        refine den_call_q (fun _ _ => hq) ⟨false, rfl, fun W16 x16 => den_br_f rfl (den_frz fun W17 _ x17 _ _ => den_again ⟨8 - (i + 1), by have : i < 8 := c3; omega, i + 1, c3, ?_, rfl, rfl⟩)⟩
        simp only [Sy.dens, Sy.den, E.i, E.b, E.t, gd, Env.push, List.cons_append, List.nil_append, List.append_nil, Int.toNat_natCast]; rw [w64i (by omega) (by have : i < 8 := c3; omega)]; rfl
      · have hq := tType_q (.mk 1 0 0 [] [] []) _ [] none 0 W12 thin_l (by decide) (exi_leaf W12 1 0 0 [] []) (SlAt.nil _ _ _) (hT.ext (ext_trans t11 x12))
        rw [ty_l] at hq
        refine den_call_q (fun _ _ => hq) ⟨0, 23, rfl, fun W13 x13 => den_newf fun mn W14 _ x14 I14 h14 => ?_⟩
        have y14 := ext_trans t11 (ext_trans x12 (ext_trans x13 x14))
        have hV1 : VarsI W14 (some ⟨mn, 0, none⟩) 1 vars1 := sl_new (n := 1) h14 I14 rfl (by decide) fun j u hu => by rw [List.getElem?_toArray]; exact hu
        have hq := tType_q exN _ vars1 _ 1 W14 thin_n (by decide) (exi_leaf W14 2 0 0 [] [110]) hV1 (hT.ext y14)
        rw [ty_1] at hq
        refine den_call_q (fun _ _ => hq) ⟨0, 23, rfl, fun W15 x15 => den_chk rfl (den_chk rfl (den_look ⟨3, 0, ⟨#[116]⟩, fun V xV => ?_, ?_⟩))⟩
        · have := sl_look (f := v3C) (sz := 3) (fun _ => rfl) (by decide) hS val_aggT val_sizeT (i := 2) (x := (3, 0, [116])) rfl (ext_trans (ext_trans y5 a11) (ext_trans x12 (ext_trans x13 (ext_trans x14 (ext_trans x15 xV)))))
          simp only [Sy.dens, Sy.den, E.i, E.b, E.t, gd, Env.push, List.cons_append, List.nil_append, List.append_nil, Int.toNat_natCast] at this ⊢
          exact this
        simp only [Env.push, List.cons_append, List.nil_append, List.append_nil]
        refine den_look ⟨1, 3, ⟨#[]⟩, fun V xV => ?_, ?_⟩
        · have := sl_look (f := v3C) (sz := 3) (fun _ => rfl) (by decide) hS val_aggT val_sizeT (i := 0) (x := (1, 3, [])) rfl (ext_trans (ext_trans y5 a11) (ext_trans x12 (ext_trans x13 (ext_trans x14 (ext_trans x15 xV)))))
          simp only [Sy.dens, Sy.den, E.i, E.b, E.t, gd, Env.push, List.cons_append, List.nil_append, List.append_nil, Int.toNat_natCast] at this ⊢
          exact this
        simp only [Env.push, List.cons_append, List.nil_append, List.append_nil]
        refine den_grow fun W16 x16 => den_newf fun m2' W17 _ x17 I17 h17 => ?_
        have y17 := ext_trans y14 (ext_trans x15 (ext_trans x16 x17))
        have hV2 : VarsI W17 (some ⟨m2', 0, none⟩) 2 vars2 := sl_new (n := 2) h17 I17 rfl (by decide) fun j u hu => by rw [List.getElem?_toArray]; exact hu
        have hq : ∀ V, Ext W17 V → _ := fun V xV => tType_q exN _ vars2 _ 2 V thin_n (by decide) (exi_leaf V 2 0 0 [] [110]) (hV2.ext xV) (hT.ext (ext_trans y17 xV))
        rw [ty_2] at hq
        refine den_callq ⟨3, 0, fun V xV _ _ => hq V xV, den_grow fun W18 x18 => ?_⟩
        have y18 := ext_trans y17 x18
        have hq := tType_q (deepN 15) _ [] none 0 W18 (deep_thin 15) (by decide) (hx.ext (ext_trans a11 (ext_trans x12 (ext_trans x13 (ext_trans x14 (ext_trans x15 (ext_trans x16 (ext_trans x17 x18)))))))) (SlAt.nil _ _ _) (hT.ext y18)
        rw [deep_ty] at hq
        refine den_call_q (fun _ _ => hq) ⟨1, 0, rfl, fun W19 x19 => den_br_t rfl (den_call_q (fun _ _ => awake_q W19 (hG.ext (ext_trans y18 x19)) (hT.ext (ext_trans y18 x19))) ⟨true, rfl, fun _ _ => den_ret fun _ _ _ => ⟨_, rfl, rfl⟩⟩)⟩
end Go.Proofs.YtijinopghlpdbaaGreatDoor
