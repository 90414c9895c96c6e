/- What an expression that has a type comes to: the walks (written by wip/gen_tycomes.py). -/
import Derived.Test.YtijinopghlpdbaaGreatDoorTyLaw
import Derived.Test.YtijinopghlpdbaaGreatDoorTyComesP
import Derived.Test.YtijinopghlpdbaaGreatDoorVsTwoT
import Derived.Test.YtijinopghlpdbaaGreatDoorVcTypedC
namespace Go.Proofs.YtijinopghlpdbaaGreatDoor
open Go Go.RowKit Go.SF
set_option linter.unusedSimpArgs false
set_option linter.unusedVariables false

theorem row_vars {W : Wd} {n0 : Nat} {e : TypeId} {a : Option Addr} {c n : Nat} {l : List Tx.Var} (h : W.w.ownsRow n0 e 4 (.slice a n c) n (l.flatMap varC)) (hn : n = l.length) : VarsI W.all a c l := by
  subst hn
  exact ((owns_sl h).w).all
/-- a load of a part of an element -/
theorem sl_look_p {α : Type} {f : α → List Value} {sz : Nat} (hf : ∀ x, (f x).length = sz) {W : Wd} {a : Option Addr} {n c : Nat} {l : List α} (h : SlI W a n c sz (l.flatMap f)) {t : TypeId} {k o : Nat} (hA : aggT Tryz.prog t = some true) (hS : sizeT Tryz.prog t = some k) {i : Nat} {x : α} (hx : l[i]? = some x)
    {ws : List Value} (hw : ws.length = k) (hz : 0 < sz) (hk : o + k ≤ sz) (hg : ∀ j, j < k → (f x)[o + j]? = ws[j]?) {W' : Wd} (hW : Ext W W') : (Instr.loadAt t (.pointer (some ((a.getD default).add (i * sz + o))))).run Tryz.prog W'.w = .ok (.agg ws.toArray) W'.w := by
  obtain ⟨h1, h2, h3⟩ := h.ext hW
  have hl := flat_len hf l
  rcases h3 with ⟨_, rfl, rfl⟩ | ⟨b, p, rfl, hI, hb, hc⟩
  · exfalso
    have hi := (List.getElem?_eq_some_iff.1 hx).1
    rw [hl] at h1
    have := Nat.eq_of_mul_eq_mul_right hz h1
    omega
  · refine look_agg hA hS hw fun j u hu => ?_
    have hj : j < k := by rw [← hw]; exact (List.getElem?_eq_some_iff.1 hu).1
    have h5 := flat_get hf (o + j) hx (by omega)
    rw [hg j hj] at h5
    have := hc (i * sz + (o + j)) u (by rw [h5]; exact hu)
    simp only [Option.getD_some]
    rw [add_none, add_none, show p + (i * sz + o) + j = p + (i * sz + (o + j)) from by omega]
    exact this
theorem val_aggT : aggT Tryz.prog 23 = some true := by kernel_rfl
theorem val_sizeT : sizeT Tryz.prog 23 = some 3 := by kernel_rfl
theorem str_aggT : aggT Tryz.prog 9 = some false := by kernel_rfl
theorem may_size {v : Va.V} (h : Va.may v = true) : v.t.size ≤ 40 := by
  have nil : ∀ t : ByteArray, t.data.toList = [] → t.size ≤ 40 := fun t h => by
    have : t.data.toList.length = 0 := by rw [h]; rfl
    rw [size_len] at this
    omega
  by_cases hk : v.k = 3
  · exact (Tx.may_text h hk).2
  · unfold Va.may at h
    split at h
    · simp only [Bool.and_eq_true, beq_iff_eq] at h; exact nil _ h.2
    · split at h
      · simp only [beq_iff_eq] at h; exact nil _ h
      · split at h
        · simp only [Bool.and_eq_true, beq_iff_eq] at h; exact nil _ h.2
        · cases h
def Fine (vars : List Tx.Var) : Prop := ∀ v ∈ vars, Va.may (Tx.valOf v) = true ∧ Va.Fit v.n
theorem come_ok : ∀ (n : Nat) (x : Px.Ex) (vs : List Value) (vars : List Tx.Var) (a : Option Addr) (c : Nat) (W : Wd), Px.thin x = true → Tx.whole n x = true → (Tx.typed vars x).2 = 0 → vars.length ≤ 1000000 → Fine vars → ExI W x vs → VarsI W a c vars →
    CallsQ Tryz.prog 15 #[.agg vs.toArray, .slice a vars.length c] W (Vt.vT (Tx.come vars x)) := by
  intro n
  induction n with
  | zero => intro x vs vars a c W _ h; cases h
  | succ n ih =>
    intro x vs vars a c W hth hw0 ht0 hvl hv hx hV
    obtain ⟨op, k, nn, t, nm, args⟩ := x
    have hx := hx.ext W.all_ext
    have hV := hV.all
    simp only [ExI, ExAt] at hx
    obtain ⟨al, cl, ls, rfl, hS, hE⟩ := hx
    have hth0 := hth
    simp only [Px.thin, Bool.and_eq_true, decide_eq_true_eq] at hth
    obtain ⟨⟨hal, htl, hnl, hf0, hf1⟩, hth⟩ := hth
    simp only [Tx.whole, Bool.and_eq_true, decide_eq_true_eq, Bool.or_eq_true, bne_iff_ne, ne_eq, beq_iff_eq] at hw0
    obtain ⟨hop, hln, hmy, hwl⟩ := hw0
    simp only [Tx.typed] at ht0
    refine vc_lcome op k nn args.length cl vars.length c ⟨t.toArray⟩ ⟨nm.toArray⟩ al a W.all _ ?_
    refine den_new fun m0 W1 hm0 x1 => den_new fun m1 W2 hm1 x2 => den_br (fun c1 => ?_) fun c1 => den_br (fun c2 => ?_) fun c2 => ?_
    · have c1 : op = 1 := by simpa [Sy.dens, Sy.den, E.i, E.b, E.t, gd, Env.push, List.cons_append, List.nil_append, List.append_nil, Int.toNat_natCast] using c1
      refine den_wr fun _ _ => den_ret fun _ _ _ => ⟨_, rfl, ?_⟩
      rw [Tx.come, if_pos c1]; rfl
    · have c1 : ¬ op = 1 := by simpa [Sy.dens, Sy.den, E.i, E.b, E.t, gd, Env.push, List.cons_append, List.nil_append, List.append_nil, Int.toNat_natCast] using c1
      have c2 : op = 2 := by simpa [Sy.dens, Sy.den, E.i, E.b, E.t, gd, Env.push, List.cons_append, List.nil_append, List.append_nil, Int.toNat_natCast] using c2
      have y2 := ext_trans x1 x2
      have hgo : Tx.come vars (.mk op k nn t nm args) = match vars.find? (fun v => v.name == nm) with | some v => (Tx.valOf v, 0) | none => (Va.none, 22) := by rw [Tx.come, if_neg c1, if_pos c2]; cases vars.find? (fun v => v.name == nm) <;> rfl
      refine den_loop (fun j vs ls _ => ∃ i : Nat, vs = [.int .i64 (i : Nat)] ∧ ls = [] ∧ i ≤ vars.length ∧ j = vars.length - i ∧ vars.find? (fun v => v.name == nm) = (vars.drop i).find? fun v => v.name == nm) vars.length ⟨0, by simp [Sy.dens, Sy.den, E.i, E.b, E.t, gd, Env.push, List.cons_append, List.nil_append, List.append_nil, Int.toNat_natCast], rfl, Nat.zero_le _, rfl, rfl⟩ ?_
      rintro j vs ls' W3 x3 ⟨i, rfl, rfl, hi, rfl, ha⟩
      have y3 := ext_trans y2 x3
      refine ⟨(i : Int), rfl, rfl, fun _ => den_br (fun c3 => ?_) fun c3 => den_wr fun _ _ => den_ret fun _ _ _ => ⟨_, rfl, ?_⟩⟩
      · simp only [Sy.dens, Sy.den, E.i, E.b, E.t, gd, Env.push, List.cons_append, List.nil_append, List.append_nil, Int.toNat_natCast, ltB_true] at c3
        have hil : i < vars.length := by omega
        have hx : vars[i]? = some vars[i] := List.getElem?_eq_getElem hil
        rw [tdrop_get hil] at ha
        refine den_chk ?_ (den_chk ?_ (den_look ⟨⟨vars[i].name.toArray⟩, fun V xV => ?_, ?_⟩))
        · simp only [E.b, gd, Env.push]; exact SlI.some_of hV (by omega)
        · simp only [Sy.dens, Sy.den, E.i, E.b, E.t, gd, Env.push, List.cons_append, List.nil_append, List.append_nil, Int.toNat_natCast]; exact leB_t (by omega)
        · have := sl_look_f (P := Tryz.prog) varC_len hV str_aggT (k := 0) hx (by decide) (u := .string ⟨vars[i].name.toArray⟩) rfl (ext_trans y3 xV)
          simp only [Sy.dens, Sy.den, E.i, E.b, E.t, gd, Env.push, List.cons_append, List.nil_append, List.append_nil, Int.toNat_natCast] at this ⊢
          exact this
        simp only [Env.push, List.cons_append, List.nil_append, List.append_nil]
        refine den_grow fun W4 x4 => den_br (fun c4 => den_look ⟨vars[i].k, vars[i].n, ⟨vars[i].t.toArray⟩, fun V xV => ?_, ?_⟩) fun c4 => den_again ⟨vars.length - (i + 1), by omega, i + 1, ?_, rfl, by omega, rfl, ?_⟩
        · have := sl_look_p varC_len hV val_aggT val_sizeT hx (ws := [.int .u8 vars[i].k, .int .i64 vars[i].n, .string ⟨vars[i].t.toArray⟩]) rfl (by decide) (o := 1) (by decide) (fun j hj => by
            rw [show (varC vars[i])[1 + j]? = ([Value.int .u8 vars[i].k, .int .i64 vars[i].n, .string ⟨vars[i].t.toArray⟩] : List Value)[j]? from by
              simp only [varC]; rw [Nat.add_comm]; rfl]) (ext_trans (ext_trans y3 x4) xV)
          simp only [Sy.dens, Sy.den, E.i, E.b, E.t, gd, Env.push, List.cons_append, List.nil_append, List.append_nil, Int.toNat_natCast] at this ⊢
          exact this
        · simp only [Env.push, List.cons_append, List.nil_append, List.append_nil]
          refine den_wr fun _ _ => den_ret fun _ _ _ => ⟨_, rfl, ?_⟩
          simp only [Sy.dens, Sy.den, E.i, E.b, E.t, gd, Env.push, List.cons_append, List.nil_append, List.append_nil, Int.toNat_natCast, tba] at c4
          rw [hgo, ha, List.find?_cons, c4]; rfl
        · simp only [Sy.dens, Sy.den, E.i, E.b, E.t, gd, Env.push, List.cons_append, List.nil_append, List.append_nil, Int.toNat_natCast]; rw [w64i (by omega) (by omega)]; rfl
        · simp only [Sy.dens, Sy.den, E.i, E.b, E.t, gd, Env.push, List.cons_append, List.nil_append, List.append_nil, Int.toNat_natCast, tba] at c4
          rw [ha, List.find?_cons, c4]
      · simp only [Sy.dens, Sy.den, E.i, E.b, E.t, gd, Env.push, List.cons_append, List.nil_append, List.append_nil, Int.toNat_natCast, ltB_false] at c3
        rw [hgo, ha, List.drop_eq_nil_of_le (by omega)]; rfl
    · have c1 : ¬ op = 1 := by simpa [Sy.dens, Sy.den, E.i, E.b, E.t, gd, Env.push, List.cons_append, List.nil_append, List.append_nil, Int.toNat_natCast] using c1
      have c2 : ¬ op = 2 := by simpa [Sy.dens, Sy.den, E.i, E.b, E.t, gd, Env.push, List.cons_append, List.nil_append, List.append_nil, Int.toNat_natCast] using c2
      have y2 := ext_trans x1 x2
      rw [if_neg c1, if_neg c2] at ht0
      have hN : 1 ≤ args.length := by rcases Tx.argN_cases hop c1 c2 with ⟨e, _⟩ | ⟨e, _⟩ <;> omega
      obtain ⟨x1e, rest, hargs⟩ : ∃ x r, args = x :: r := by
        cases args with
        | nil => simp at hN
        | cons x r => exact ⟨x, r, rfl⟩
      have hg0 : args[0]? = some x1e := by rw [hargs]; rfl
      have hmem : x1e ∈ args := by rw [hargs]; exact List.mem_cons_self ..
      obtain ⟨us, hu, hg⟩ := exs_get hE hg0
      have hu1 : ExI W.all x1e us := hu
      obtain ⟨o1, k1, n1, t1, m1', al1, len1, cl1, rfl⟩ := hu.shape
      have hth1 := Px.thin_mem hth hmem
      have hw1 := Tx.whole_all hwl hmem
      have ht1 : (Tx.typed vars x1e).2 = 0 := by
        cases hl : Tx.typeds vars args with
        | error f => rw [hl] at ht0; exact absurd ht0 (Tx.typeds_ne hl)
        | ok r => exact Tx.typeds_mem hl x1e hmem
      obtain ⟨A, hA⟩ : ∃ A, A = Tx.come vars x1e := ⟨_, rfl⟩
      have hgA := Tx.come_good hv n x1e ht1 hw1 hth1
      rw [← hA] at hgA
      refine den_br_f ?_ (den_chk ?_ (den_chk rfl (den_chk ?_ (den_look ⟨o1, k1, n1, len1, cl1, t1, m1', al1, fun V xV => ?_, ?_⟩))))
      · simp only [Sy.dens, Sy.den, E.i, E.b, E.t, gd, Env.push, List.cons_append, List.nil_append, List.append_nil, Int.toNat_natCast]; rw [beq_eq_false_iff_ne]; omega
      · simp only [E.b, gd, Env.push]; exact SlI.some_of hS (by omega)
      · simp only [Sy.dens, Sy.den, E.i, E.b, E.t, gd, Env.push, List.cons_append, List.nil_append, List.append_nil, Int.toNat_natCast]; exact ltB_t (by omega)
      · have := sl_look_at (W := W.all) hS ex_agg ex_size rfl (by decide) hg (ext_trans y2 xV)
        simp only [Sy.dens, Sy.den, E.i, E.b, E.t, gd, Env.push, List.cons_append, List.nil_append, List.append_nil, Int.toNat_natCast] at this ⊢
        exact this
      simp only [Env.push, List.cons_append, List.nil_append, List.append_nil]
      have hq := ih x1e _ vars a c W2 hth1 hw1 ht1 hvl hv (hu1.ext y2) (hV.ext y2)
      rw [← hA] at hq
      refine den_call_q (fun _ _ => hq) ⟨A.1.k, A.1.n, A.2, A.1.t, rfl, fun W3 x3 => ?_⟩
      have y3 := ext_trans y2 x3
      simp only [Env.push, List.cons_append, List.nil_append, List.append_nil]
      refine den_new fun _ W4 _ x4 => den_wr fun W5 x5 => den_br (fun c0 => den_wr fun _ _ => den_ret fun _ _ _ => ⟨_, rfl, ?_⟩) fun c0 => ?_
      · have c0 : ¬ A.2 = 0 := by simpa [Sy.dens, Sy.den, E.i, E.b, E.t, gd, Env.push, List.cons_append, List.nil_append, List.append_nil, Int.toNat_natCast] using c0
        rw [Tx.come, if_neg c1, if_neg c2, hargs]
        cases rest with
        | nil => simp only [Tx.comes, ← hA]; rw [if_neg c0]; rfl
        | cons x2 r => simp only [Tx.comes, ← hA]; rw [if_neg c0]; rfl
      have c0 : A.2 = 0 := by simpa [Sy.dens, Sy.den, E.i, E.b, E.t, gd, Env.push, List.cons_append, List.nil_append, List.append_nil, Int.toNat_natCast] using c0
      have haF := (hgA.1 c0).2.2
      have y5 := ext_trans y3 (ext_trans x4 x5)
      refine den_br (fun c5 => ?_) fun c5 => ?_
      · have c5 : args.length = 1 := by
          simp only [Sy.dens, Sy.den, E.i, E.b, E.t, gd, Env.push, List.cons_append, List.nil_append, List.append_nil, Int.toNat_natCast, beq_iff_eq] at c5; omega
        have hr : rest = [] := by rw [hargs] at c5; simpa using c5
        have hq := Vt.one_q op A.1.k A.1.n A.1.t haF W5
        refine den_call_q (fun _ _ => hq) ⟨(Va.one op A.1).1.k, (Va.one op A.1).1.n, (Va.one op A.1).2, (Va.one op A.1).1.t, rfl, fun W6 x6 => den_wr fun _ _ => den_ret fun _ _ _ => ⟨_, rfl, ?_⟩⟩
        rw [Tx.come, if_neg c1, if_neg c2, hargs, hr]
        simp only [Tx.comes, ← hA]
        rw [if_pos c0]; rfl
      · have c5 : ¬ args.length = 1 := by
          simp only [Sy.dens, Sy.den, E.i, E.b, E.t, gd, Env.push, List.cons_append, List.nil_append, List.append_nil, Int.toNat_natCast, beq_eq_false_iff_ne, ne_eq] at c5; omega
        have h2 : args.length = 2 := by rcases Tx.argN_cases hop c1 c2 with ⟨e, _⟩ | ⟨e, _⟩ <;> omega
        obtain ⟨x2, hr⟩ : ∃ y, rest = [y] := by
          rw [hargs] at h2
          match rest, h2 with
          | [y], _ => exact ⟨y, rfl⟩
        subst hr
        have hgx2 : args[1]? = some x2 := by rw [hargs]; rfl
        have hmem2 : x2 ∈ args := by rw [hargs]; simp
        obtain ⟨us2, hu2', hg2⟩ := exs_get hE hgx2
        have hu2 : ExI W.all x2 us2 := hu2'
        obtain ⟨o2, k2, n2, t2, m2, al2, len2, cl2, rfl⟩ := hu2'.shape
        have hth2 := Px.thin_mem hth hmem2
        have hw2 := Tx.whole_all hwl hmem2
        have ht2 : (Tx.typed vars x2).2 = 0 := by
          cases hl : Tx.typeds vars args with
          | error f => rw [hl] at ht0; exact absurd ht0 (Tx.typeds_ne hl)
          | ok r => exact Tx.typeds_mem hl x2 hmem2
        obtain ⟨B, hB⟩ : ∃ B, B = Tx.come vars x2 := ⟨_, rfl⟩
        have hgB := Tx.come_good hv n x2 ht2 hw2 hth2
        rw [← hB] at hgB
        have hgo : Tx.come vars (.mk op k nn t nm args) = if A.2 = 0 then (if (op = 13 ∧ Va.yes A.1 = false) ∨ (op = 14 ∧ Va.yes A.1 = true) then (A.1, 0) else if B.2 = 0 then Va.two op A.1 B.1 else (Va.none, B.2)) else (Va.none, A.2) := by
          rw [Tx.come, if_neg c1, if_neg c2, hargs]
          simp only [Tx.comes, ← hA, ← hB]
        have hl1 : ltB 1 ((args.length : Nat) : Int) = true := ltB_t (by omega)
        refine den_br (fun c6 => ?_) fun c6 => den_br (fun c7 => ?_) fun c7 => ?_
        · have c6 : op = 13 := by simpa [Sy.dens, Sy.den, E.i, E.b, E.t, gd, Env.push, List.cons_append, List.nil_append, List.append_nil, Int.toNat_natCast] using c6
          refine den_grow fun W6 x6 => den_br (fun c8 => den_wr fun _ _ => den_ret fun _ _ _ => ⟨_, rfl, ?_⟩) fun c8 => ?_
          · have c8 : Va.yes A.1 = false := by simp only [Sy.dens, Sy.den, E.i, E.b, E.t, gd, Env.push, List.cons_append, List.nil_append, List.append_nil, Int.toNat_natCast, Bool.not_eq_true'] at c8; unfold Va.yes; exact c8
            rw [hgo, if_pos c0, if_pos (.inl ⟨c6, c8⟩)]; rfl
          · have c8 : Va.yes A.1 = true := by simp only [Sy.dens, Sy.den, E.i, E.b, E.t, gd, Env.push, List.cons_append, List.nil_append, List.append_nil, Int.toNat_natCast, Bool.not_eq_false'] at c8; unfold Va.yes; exact c8
            have y6 := ext_trans y5 x6
            have hs : ¬ ((op = 13 ∧ Va.yes A.1 = false) ∨ (op = 14 ∧ Va.yes A.1 = true)) := by rintro (h | h) <;> first | omega | (rw [c8] at h; cases h.2)
            refine den_chk rfl (den_chk (by simp only [Sy.dens, Sy.den, E.i, E.b, E.t, gd, Env.push, List.cons_append, List.nil_append, List.append_nil, Int.toNat_natCast]; exact hl1) (den_look ⟨o2, k2, n2, len2, cl2, t2, m2, al2, fun V xV => ?_, ?_⟩))
            · have := sl_look_at (W := W.all) hS ex_agg ex_size rfl (by decide) hg2 (ext_trans y6 xV)
              simp only [Sy.dens, Sy.den, E.i, E.b, E.t, gd, Env.push, List.cons_append, List.nil_append, List.append_nil, Int.toNat_natCast] at this ⊢
              exact this
            simp only [Env.push, List.cons_append, List.nil_append, List.append_nil]
            have hq := ih x2 _ vars a c W6 hth2 hw2 ht2 hvl hv (hu2.ext y6) (hV.ext y6)
            rw [← hB] at hq
            refine den_call_q (fun _ _ => hq) ⟨B.1.k, B.1.n, B.2, B.1.t, rfl, fun V1 v1 => ?_⟩
            have z1 := ext_trans y6 v1
            simp only [Env.push, List.cons_append, List.nil_append, List.append_nil]
            refine den_new fun _ V2 _ v2 => den_wr fun V3 v3 => den_br (fun d => den_wr fun _ _ => den_ret fun _ _ _ => ⟨_, rfl, ?_⟩) fun d => ?_
            · have d : ¬ B.2 = 0 := by simpa [Sy.dens, Sy.den, E.i, E.b, E.t, gd, Env.push, List.cons_append, List.nil_append, List.append_nil, Int.toNat_natCast] using d
              rw [hgo, if_pos c0, if_neg hs, if_neg d]; rfl
            · have d : B.2 = 0 := by simpa [Sy.dens, Sy.den, E.i, E.b, E.t, gd, Env.push, List.cons_append, List.nil_append, List.append_nil, Int.toNat_natCast] using d
              have hb := hgB.1 d
              refine den_call_q (fun _ _ => Vt.two_q op A.1.k A.1.n B.1.k B.1.n A.1.t B.1.t haF hb.2.2 V3) ⟨(Va.two op A.1 B.1).1.k, (Va.two op A.1 B.1).1.n, (Va.two op A.1 B.1).2, (Va.two op A.1 B.1).1.t, rfl, fun V4 v4 => den_wr fun _ _ => den_ret fun _ _ _ => ⟨_, rfl, ?_⟩⟩
              rw [hgo, if_pos c0, if_neg hs, if_pos d]; rfl
        · have c6 : ¬ op = 13 := by simpa [Sy.dens, Sy.den, E.i, E.b, E.t, gd, Env.push, List.cons_append, List.nil_append, List.append_nil, Int.toNat_natCast] using c6
          have c7 : op = 14 := by simpa [Sy.dens, Sy.den, E.i, E.b, E.t, gd, Env.push, List.cons_append, List.nil_append, List.append_nil, Int.toNat_natCast] using c7
          refine den_grow fun W6 x6 => den_br (fun c8 => den_wr fun _ _ => den_ret fun _ _ _ => ⟨_, rfl, ?_⟩) fun c8 => ?_
          · have c8 : Va.yes A.1 = true := by simp only [Sy.dens, Sy.den, E.i, E.b, E.t, gd, Env.push, List.cons_append, List.nil_append, List.append_nil, Int.toNat_natCast] at c8; unfold Va.yes; exact c8
            rw [hgo, if_pos c0, if_pos (.inr ⟨c7, c8⟩)]; rfl
          · have c8 : Va.yes A.1 = false := by simp only [Sy.dens, Sy.den, E.i, E.b, E.t, gd, Env.push, List.cons_append, List.nil_append, List.append_nil, Int.toNat_natCast] at c8; unfold Va.yes; exact c8
            have y6 := ext_trans y5 x6
            have hs : ¬ ((op = 13 ∧ Va.yes A.1 = false) ∨ (op = 14 ∧ Va.yes A.1 = true)) := by rintro (h | h) <;> first | omega | (rw [c8] at h; cases h.2)
            refine den_chk rfl (den_chk (by simp only [Sy.dens, Sy.den, E.i, E.b, E.t, gd, Env.push, List.cons_append, List.nil_append, List.append_nil, Int.toNat_natCast]; exact hl1) (den_look ⟨o2, k2, n2, len2, cl2, t2, m2, al2, fun V xV => ?_, ?_⟩))
            · have := sl_look_at (W := W.all) hS ex_agg ex_size rfl (by decide) hg2 (ext_trans y6 xV)
              simp only [Sy.dens, Sy.den, E.i, E.b, E.t, gd, Env.push, List.cons_append, List.nil_append, List.append_nil, Int.toNat_natCast] at this ⊢
              exact this
            simp only [Env.push, List.cons_append, List.nil_append, List.append_nil]
            have hq := ih x2 _ vars a c W6 hth2 hw2 ht2 hvl hv (hu2.ext y6) (hV.ext y6)
            rw [← hB] at hq
            refine den_call_q (fun _ _ => hq) ⟨B.1.k, B.1.n, B.2, B.1.t, rfl, fun V1 v1 => ?_⟩
            have z1 := ext_trans y6 v1
            simp only [Env.push, List.cons_append, List.nil_append, List.append_nil]
            refine den_new fun _ V2 _ v2 => den_wr fun V3 v3 => den_br (fun d => den_wr fun _ _ => den_ret fun _ _ _ => ⟨_, rfl, ?_⟩) fun d => ?_
            · have d : ¬ B.2 = 0 := by simpa [Sy.dens, Sy.den, E.i, E.b, E.t, gd, Env.push, List.cons_append, List.nil_append, List.append_nil, Int.toNat_natCast] using d
              rw [hgo, if_pos c0, if_neg hs, if_neg d]; rfl
            · have d : B.2 = 0 := by simpa [Sy.dens, Sy.den, E.i, E.b, E.t, gd, Env.push, List.cons_append, List.nil_append, List.append_nil, Int.toNat_natCast] using d
              have hb := hgB.1 d
              refine den_call_q (fun _ _ => Vt.two_q op A.1.k A.1.n B.1.k B.1.n A.1.t B.1.t haF hb.2.2 V3) ⟨(Va.two op A.1 B.1).1.k, (Va.two op A.1 B.1).1.n, (Va.two op A.1 B.1).2, (Va.two op A.1 B.1).1.t, rfl, fun V4 v4 => den_wr fun _ _ => den_ret fun _ _ _ => ⟨_, rfl, ?_⟩⟩
              rw [hgo, if_pos c0, if_neg hs, if_pos d]; rfl
        · have c6 : ¬ op = 13 := by simpa [Sy.dens, Sy.den, E.i, E.b, E.t, gd, Env.push, List.cons_append, List.nil_append, List.append_nil, Int.toNat_natCast] using c6
          have c7 : ¬ op = 14 := by simpa [Sy.dens, Sy.den, E.i, E.b, E.t, gd, Env.push, List.cons_append, List.nil_append, List.append_nil, Int.toNat_natCast] using c7
          have hs : ¬ ((op = 13 ∧ Va.yes A.1 = false) ∨ (op = 14 ∧ Va.yes A.1 = true)) := by omega
          refine den_chk rfl (den_chk (by simp only [Sy.dens, Sy.den, E.i, E.b, E.t, gd, Env.push, List.cons_append, List.nil_append, List.append_nil, Int.toNat_natCast]; exact hl1) (den_look ⟨o2, k2, n2, len2, cl2, t2, m2, al2, fun V xV => ?_, ?_⟩))
          · have := sl_look_at (W := W.all) hS ex_agg ex_size rfl (by decide) hg2 (ext_trans y5 xV)
            simp only [Sy.dens, Sy.den, E.i, E.b, E.t, gd, Env.push, List.cons_append, List.nil_append, List.append_nil, Int.toNat_natCast] at this ⊢
            exact this
          simp only [Env.push, List.cons_append, List.nil_append, List.append_nil]
          have hq := ih x2 _ vars a c W5 hth2 hw2 ht2 hvl hv (hu2.ext y5) (hV.ext y5)
          rw [← hB] at hq
          refine den_call_q (fun _ _ => hq) ⟨B.1.k, B.1.n, B.2, B.1.t, rfl, fun V1 v1 => ?_⟩
          have z1 := ext_trans y5 v1
          simp only [Env.push, List.cons_append, List.nil_append, List.append_nil]
          refine den_new fun _ V2 _ v2 => den_wr fun V3 v3 => den_br (fun d => den_wr fun _ _ => den_ret fun _ _ _ => ⟨_, rfl, ?_⟩) fun d => ?_
          · have d : ¬ B.2 = 0 := by simpa [Sy.dens, Sy.den, E.i, E.b, E.t, gd, Env.push, List.cons_append, List.nil_append, List.append_nil, Int.toNat_natCast] using d
            rw [hgo, if_pos c0, if_neg hs, if_neg d]; rfl
          · have d : B.2 = 0 := by simpa [Sy.dens, Sy.den, E.i, E.b, E.t, gd, Env.push, List.cons_append, List.nil_append, List.append_nil, Int.toNat_natCast] using d
            have hb := hgB.1 d
            refine den_call_q (fun _ _ => Vt.two_q op A.1.k A.1.n B.1.k B.1.n A.1.t B.1.t haF hb.2.2 V3) ⟨(Va.two op A.1 B.1).1.k, (Va.two op A.1 B.1).1.n, (Va.two op A.1 B.1).2, (Va.two op A.1 B.1).1.t, rfl, fun V4 v4 => den_wr fun _ _ => den_ret fun _ _ _ => ⟨_, rfl, ?_⟩⟩
            rw [hgo, if_pos c0, if_neg hs, if_pos d]; rfl
/-! ### the statement -/
theorem comes_q (x : Px.Ex) (vs : List Value) (vars : List Tx.Var) (a : Option Addr) (c : Nat) (W : Wd) (hwx : Tx.wide x = true) (hvw : ∀ v ∈ vars, Va.Fit v.n ∧ v.t.length ≤ 9223372036854775807) (hx : ExI W x vs) (hV : VarsI W a c vars) (hG : Glob W) (hT : GlobT W) :
    CallsQ Tryz.prog 5 #[.agg vs.toArray, .slice a vars.length c] W (.bool true) := by
  have hx := hx.ext W.all_ext
  have hG := hG.ext W.all_ext
  have hT := hT.ext W.all_ext
  have hV := hV.all
  obtain ⟨op, k, nn, t, nm, al, len, cl, rfl⟩ := hx.shape
  refine vc_lcomes op k nn len cl vars.length c t nm al a W.all _ ?_
  refine den_new fun m0 W1 _ x1 => ?_
  refine den_call_q (fun _ _ => large_q x _ vars a c W1 hwx (hx.ext x1)) ⟨Tx.large x vars, rfl, fun W2 x2 => ?_⟩
  have y2 := ext_trans x1 x2
  refine den_br (fun c1 => ?_) fun c1 => den_call_q (fun _ _ => awake_q W2 (hG.ext y2) (hT.ext y2)) ⟨true, rfl, fun _ _ => den_ret fun _ _ _ => ⟨_, rfl, rfl⟩⟩
  have c1 : Tx.large x vars = false := by simpa [Sy.dens, Sy.den, E.i, E.b, E.t, gd, Env.push, List.cons_append, List.nil_append, List.append_nil, Int.toNat_natCast] using c1
  refine den_call_q (fun _ _ => awake_q W2 (hG.ext y2) (hT.ext y2)) ⟨true, rfl, fun W3 x3 => den_br (fun c3 => by cases c3) fun _ => ?_⟩
  have y3 := ext_trans y2 x3
  simp only [Tx.large, Bool.or_eq_false_iff, decide_eq_false_iff_not] at c1
  have hth := (Tx.thin_of 41 x c1.1 hwx).1
  refine den_call_q (fun _ _ => tType_q x _ vars a c W3 hth (by omega) (hx.ext y3) (hV.ext y3) (hT.ext y3)) ⟨(Tx.type vars x).1, (Tx.type vars x).2, rfl, fun W4 x4 => ?_⟩
  have y4 := ext_trans y3 x4
  simp only [Env.push, List.cons_append, List.nil_append, List.append_nil]
  refine den_br (fun c4 => den_ret fun _ _ _ => ⟨_, rfl, ?_⟩) fun c4 => ?_
  · have c4 : ¬ (Tx.type vars x).2 = 0 := by simpa [Sy.dens, Sy.den, E.i, E.b, E.t, gd, Env.push, List.cons_append, List.nil_append, List.append_nil, Int.toNat_natCast] using c4
    simp only [Sy.dens, Sy.den, E.i, E.b, E.t, gd, Env.push, List.cons_append, List.nil_append, List.append_nil, Int.toNat_natCast]
    rw [Tx.type_zero c4]; rfl
  have c4 : (Tx.type vars x).2 = 0 := by simpa [Sy.dens, Sy.den, E.i, E.b, E.t, gd, Env.push, List.cons_append, List.nil_append, List.append_nil, Int.toNat_natCast] using c4
  have hwh : Tx.whole 16 x = true := by
    unfold Tx.type at c4
    split at c4
    · assumption
    · cases c4
  have hty : Tx.type vars x = Tx.typed vars x := by unfold Tx.type; rw [if_pos hwh]
  refine den_loop (fun j vs ls _ => ∃ (i : Nat) (a2 : Option Addr) (c2 : Nat), vs = [.int .i64 (i : Nat), .slice a2 i c2] ∧ ls = [(vars.take i).flatMap varC] ∧ i ≤ vars.length ∧ j = vars.length - i ∧ ∀ v ∈ vars.take i, Va.may (Tx.valOf v) = true) vars.length ⟨0, none, 0, rfl, rfl, Nat.zero_le _, rfl, fun v hv => by simp at hv⟩ ?_
  rintro j vs ls' W5 x5 ⟨i, a2, c2, rfl, rfl, hi, rfl, hmay⟩
  have y5 := ext_trans y4 x5
  refine ⟨(i : Int), i, c2, a2, (vars.take i).flatMap varC, rfl, (by simp [rowConts, conts, Seg.den, gd, Env.push]), fun hR => den_br (fun c5 => ?_) fun c5 => ?_⟩
  · simp only [Sy.dens, Sy.den, E.i, E.b, E.t, gd, Env.push, List.cons_append, List.nil_append, List.append_nil, Int.toNat_natCast, ltB_true] at c5
    have hil : i < vars.length := by omega
    have hx : vars[i]? = some vars[i] := List.getElem?_eq_getElem hil
    have htk : vars.take (i + 1) = vars.take i ++ [vars[i]] := by rw [List.take_add_one, hx]; rfl
    have hvi := hvw _ (List.getElem_mem hil)
    have lkv : ∀ V, Ext W5 V → _ := fun V xV => sl_look_p varC_len hV val_aggT val_sizeT hx (ws := [.int .u8 vars[i].k, .int .i64 vars[i].n, .string ⟨vars[i].t.toArray⟩]) rfl (by decide) (o := 1) (by decide) (fun j hj => by
            rw [show (varC vars[i])[1 + j]? = ([Value.int .u8 vars[i].k, .int .i64 vars[i].n, .string ⟨vars[i].t.toArray⟩] : List Value)[j]? from by
              simp only [varC]; rw [Nat.add_comm]; rfl]) (ext_trans y5 xV)
    refine den_chk ?_ (den_chk ?_ (den_look ⟨vars[i].k, vars[i].n, ⟨vars[i].t.toArray⟩, fun V xV => ?_, ?_⟩))
    · simp only [E.b, gd, Env.push]; exact SlI.some_of hV (by omega)
    · simp only [Sy.dens, Sy.den, E.i, E.b, E.t, gd, Env.push, List.cons_append, List.nil_append, List.append_nil, Int.toNat_natCast]; exact leB_t (by omega)
    · have := lkv V xV
      simp only [Sy.dens, Sy.den, E.i, E.b, E.t, gd, Env.push, List.cons_append, List.nil_append, List.append_nil, Int.toNat_natCast] at this ⊢
      exact this
    simp only [Env.push, List.cons_append, List.nil_append, List.append_nil]
    refine den_call_q (v := .bool (Va.may (Tx.valOf vars[i]))) (fun _ _ => Vs.may_q vars[i].k vars[i].n ⟨vars[i].t.toArray⟩ (by rw [← size_len]; exact_mod_cast hvi.2) W5) ⟨Va.may (Tx.valOf vars[i]), rfl, fun W6 x6 => den_br (fun c6 => den_ret fun _ _ _ => ⟨_, rfl, rfl⟩) fun c6 => ?_⟩
    have c6 : Va.may (Tx.valOf vars[i]) = true := by simpa [Sy.dens, Sy.den, E.i, E.b, E.t, gd, Env.push, List.cons_append, List.nil_append, List.append_nil, Int.toNat_natCast] using c6
    refine den_look ⟨⟨vars[i].name.toArray⟩, fun V xV => ?_, ?_⟩
    · have := sl_look_f (P := Tryz.prog) varC_len hV str_aggT (k := 0) hx (by decide) (u := .string ⟨vars[i].name.toArray⟩) rfl (ext_trans (ext_trans y5 x6) xV)
      simp only [Sy.dens, Sy.den, E.i, E.b, E.t, gd, Env.push, List.cons_append, List.nil_append, List.append_nil, Int.toNat_natCast] at this ⊢
      exact this
    simp only [Env.push, List.cons_append, List.nil_append, List.append_nil]
    refine den_look ⟨vars[i].k, vars[i].n, ⟨vars[i].t.toArray⟩, fun V xV => ?_, ?_⟩
    · have := lkv V (ext_trans x6 xV)
      simp only [Sy.dens, Sy.den, E.i, E.b, E.t, gd, Env.push, List.cons_append, List.nil_append, List.append_nil, Int.toNat_natCast] at this ⊢
      exact this
    simp only [Env.push, List.cons_append, List.nil_append, List.append_nil]
    refine den_grow fun W7 x7 => den_new fun m1 W8 _ x8 => den_chk ?_ (den_grow fun W9 x9 => den_app fun a3 c3 W10 _ x10 => den_grow fun W11 x11 => den_frz fun W12 _ x12 _ _ => den_again ⟨vars.length - (i + 1), by omega, i + 1, a3, c3, ?_, ?_, by omega, rfl, fun v hv => ?_⟩)
    · simp only [Sy.dens, Sy.den, E.i, E.b, E.t, gd, Env.push, List.cons_append, List.nil_append, List.append_nil, Int.toNat_natCast]; exact leB_t (by omega)
    · simp only [Sy.dens, Sy.den, E.i, E.b, E.t, gd, Env.push, List.cons_append, List.nil_append, List.append_nil, Int.toNat_natCast]
      rw [w64i (by omega) (by omega)]
      rfl
    · rw [htk, List.flatMap_append]
      simp [rowConts, conts, Seg.den, gd, Env.push, Sy.den, E.i, E.t, varC, -List.take_append_getElem]
    · rw [htk] at hv
      rcases List.mem_append.1 hv with h | h
      · exact hmay v h
      · obtain rfl := List.mem_singleton.1 h; exact c6
  · simp only [Sy.dens, Sy.den, E.i, E.b, E.t, gd, Env.push, List.cons_append, List.nil_append, List.append_nil, Int.toNat_natCast, ltB_false] at c5
    obtain rfl : i = vars.length := by omega
    rw [List.take_length] at hmay hR
    have hfine : Fine vars := fun v hv => ⟨hmay v hv, (hvw v hv).1⟩
    have hg := Tx.come_good hfine 16 x (by rw [← hty]; exact c4) hwh hth
    rw [← hty] at hg
    obtain ⟨A, hA⟩ : ∃ A, A = Tx.come vars x := ⟨_, rfl⟩
    rw [← hA] at hg
    refine den_call_q (v := Vt.vT A) (fun _ hr => ?_) ⟨A.1.k, A.1.n, A.2, A.1.t, rfl, fun W6 x6 => ?_⟩
    · have h : W5.w.ownsRow W.all.w.heap.size 42 4 (.slice a2 vars.length c2) vars.length ((vars.take vars.length).flatMap varC ++ []) := (hr _ (List.mem_singleton.2 rfl)).1
      rw [List.append_nil, List.take_length] at h
      have hq := come_ok 16 x _ vars a2 c2 W5.all hth hwh (by rw [← hty]; exact c4) (by omega) hfine (hx.ext (ext_trans y5 W5.all_ext)) (row_vars h rfl)
      rw [← hA] at hq
      exact hq
    simp only [Env.push, List.cons_append, List.nil_append, List.append_nil]
    refine den_new fun _ W7 _ x7 => den_wr fun W8 x8 => den_br (fun c6 => den_ret fun _ _ _ => ⟨_, rfl, ?_⟩) fun c6 => ?_
    · have c6 : ¬ A.2 = 0 := by simpa [Sy.dens, Sy.den, E.i, E.b, E.t, gd, Env.push, List.cons_append, List.nil_append, List.append_nil, Int.toNat_natCast] using c6
      have := hg.2 c6
      simp only [Sy.dens, Sy.den, E.i, E.b, E.t, gd, Env.push, List.cons_append, List.nil_append, List.append_nil, Int.toNat_natCast]
      rcases this with h | h <;> rw [h] <;> rfl
    · have c6 : A.2 = 0 := by simpa [Sy.dens, Sy.den, E.i, E.b, E.t, gd, Env.push, List.cons_append, List.nil_append, List.append_nil, Int.toNat_natCast] using c6
      obtain ⟨g1, g2, g3⟩ := hg.1 c6
      refine den_br_t ?_ (den_call_q (fun _ _ => Vs.may_q A.1.k A.1.n A.1.t (by have := may_size g2; omega) W8) ⟨true, by rw [show (⟨A.1.k, A.1.n, A.1.t⟩ : Va.V) = A.1 from rfl, g2]; rfl, fun _ _ => den_ret fun _ _ _ => ⟨_, rfl, rfl⟩⟩)
      simp only [Sy.dens, Sy.den, E.i, E.b, E.t, gd, Env.push, List.cons_append, List.nil_append, List.append_nil, Int.toNat_natCast]
      rw [g1]; simp
end Go.Proofs.YtijinopghlpdbaaGreatDoor
