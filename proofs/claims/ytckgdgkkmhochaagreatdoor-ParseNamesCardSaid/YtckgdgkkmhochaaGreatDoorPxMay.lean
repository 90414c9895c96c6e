/- Whether a tree may be. -/
import Derived.Test.YtckgdgkkmhochaaGreatDoorPxSame
import Derived.Test.YtckgdgkkmhochaaGreatDoorPxShowP
import Derived.Test.YtckgdgkkmhochaaGreatDoorVsMay
namespace Go.Proofs.YtckgdgkkmhochaaGreatDoor
open Go Go.RowKit Go.SF
set_option linter.unusedSimpArgs false
set_option linter.unusedVariables false

theorem args_q (o : Int) (W : Wd) : CallsQ Tryz.prog 50 #[.int .u8 o] W (.int .i64 (Px.argsOf o : Nat)) := by
  refine vc_args o W.all _ ?_
  unfold Px.argsOf
  refine den_br (fun c => den_ret fun _ _ _ => ⟨_, rfl, ?_⟩) fun c => den_br (fun c2 => den_ret fun _ _ _ => ⟨_, rfl, ?_⟩) fun c2 => den_br (fun c3 => den_ret fun _ _ _ => ⟨_, rfl, ?_⟩) fun c3 => den_br (fun c4 => den_ret fun _ _ _ => ⟨_, rfl, ?_⟩) fun c4 => den_br (fun c5 => den_ret fun _ _ _ => ⟨_, rfl, ?_⟩) fun c5 => den_ret fun _ _ _ => ⟨_, rfl, ?_⟩
  all_goals (simp only [Sy.dens, Sy.den, E.i, E.b, E.t, gd, Env.push, List.cons_append, List.nil_append, List.append_nil, Int.toNat_natCast] at *; simp_all)
theorem word_q (t : ByteArray) (ht : t.size ≤ 281474976710656) (W : Wd) (hG : Glob W) : CallsQ Tryz.prog 51 #[.string t] W (.bool (Px.word t.data.toList)) := by
  refine vc_word t W.all _ ?_
  unfold Px.word
  refine den_br (fun c => den_call_q (fun _ _ => may_q 2 t ht W.all (hG.ext W.all_ext)) ⟨Lx.may 2 t.data.toList, rfl, fun W' x => den_ret fun _ _ _ => ⟨_, rfl, ?_⟩⟩) fun c => den_ret fun _ _ _ => ⟨_, rfl, ?_⟩
  · simp only [Sy.dens, Sy.den, E.i, E.b, E.t, gd, Env.push, List.cons_append, List.nil_append, List.append_nil, Int.toNat_natCast] at c ⊢
    have c : ((!(t.data.toList == [121, 101, 115]) && !(t.data.toList == [110, 111])) && !(t.data.toList == [108, 101, 110])) = true := c
    simp only [Bool.and_eq_true] at c
    rw [c.1.1, c.1.2, c.2]; rfl
  · simp only [Sy.dens, Sy.den, E.i, E.b, E.t, gd, Env.push, List.cons_append, List.nil_append, List.append_nil, Int.toNat_natCast] at c ⊢
    have c : ((!(t.data.toList == [121, 101, 115]) && !(t.data.toList == [110, 111])) && !(t.data.toList == [108, 101, 110])) = false := c
    congr 1
    revert c
    cases (t.data.toList == [121, 101, 115]) <;> cases (t.data.toList == [110, 111]) <;> cases (t.data.toList == [108, 101, 110]) <;> simp
def MayOk (n : Nat) : Prop := ∀ (x : Px.Ex) (vs : List Value) (W : Wd), Px.thin x = true → ExI W x vs → Glob W → CallsQ Tryz.prog 35 #[.agg vs.toArray, .int .i64 (n : Nat)] W (.bool (Px.may n x))
theorem mayc_q (n : Nat) (hn : n < 1000) (ih : MayOk n) (x : Px.Ex) (vs : List Value) (W : Wd) (hth : Px.thin x = true) (hx : ExI W x vs) (hG : Glob W) (p : Nat) (hp : W.w.heap[p]? = some (.cells #[.int .i64 ((n + 1 : Nat) : Int)] 3)) (hI : W.I p) :
    CallsQ Tryz.prog 54 #[.agg vs.toArray, .pointer (some ⟨p, 0, none⟩)] W (.bool (!Px.may n x)) := by
  obtain ⟨op, k, nn, t, nm, al, len, cl, rfl⟩ := hx.shape
  refine vc_mayc op k nn ((n + 1 : Nat) : Int) len cl t nm al p W.all _ hp (W.lt p hI) ?_
  refine den_new fun m W1 _ x1 => ?_
  have x1' := ext_trans W.all_ext x1
  have hq := ih x _ W1 hth (hx.ext x1') (hG.ext x1')
  have hw : IntKind.i64.wrap (((n + 1 : Nat) : Int) - 1) = (n : Int) := by rw [w64i (by omega) (by omega)]; omega
  rw [← hw] at hq
  refine den_call_q (fun _ _ => hq) ⟨Px.may n x, rfl, fun W2 x2 => den_ret fun _ _ _ => ⟨_, rfl, rfl⟩⟩
theorem idx_i (n : Nat) (hn : n < 1000) (ih : MayOk n) (args : List Px.Ex) (a : Option Addr) (c : Nat) (ls : List Value) (W : Wd) (hl : args.length ≤ 1000) (hth : Px.thins args = true) (hS : SlI W a args.length c 6 ls) (hE : ExsAt W.w W.I args ls) (hG : Glob W) (p : Nat) (hp : W.w.heap[p]? = some (.cells #[.int .i64 ((n + 1 : Nat) : Int)] 3)) (hI : W.I p) :
    CallsI Tryz.prog 78 #[.slice a args.length c, .func (.func 54) #[] #[.pointer (some ⟨p, 0, none⟩)]] W.all fun v w' => ∃ r : Int, v = .int .i64 r ∧ leB 0 r = !args.all (Px.may n) := by
  refine vc_idx ((n + 1 : Nat) : Int) args.length c a p W.all _ hp (W.lt p hI) ?_
  refine den_loop (fun j vs ls _ => ∃ i : Nat, vs = [.int .i64 (i : Nat)] ∧ ls = [] ∧ i ≤ args.length ∧ j = args.length - i ∧ args.all (Px.may n) = (args.drop i).all (Px.may n)) args.length ⟨0, by simp [Sy.dens, Sy.den, E.i, E.b, E.t, gd, Env.push, List.cons_append, List.nil_append, List.append_nil, Int.toNat_natCast], rfl, Nat.zero_le _, rfl, rfl⟩ ?_
  rintro j vs ls' W2 x2 ⟨i, rfl, rfl, hi, rfl, ha⟩
  have x2' := ext_trans W.all_ext x2
  refine ⟨(i : Int), rfl, rfl, fun _ => den_br (fun c1 => ?_) fun c1 => den_ret fun _ _ _ => ⟨_, rfl, -1, rfl, ?_⟩⟩
  · simp only [Sy.dens, Sy.den, E.i, E.b, E.t, gd, Env.push, List.cons_append, List.nil_append, List.append_nil, Int.toNat_natCast, ltB_true] at c1
    have hil : i < args.length := by omega
    have hx : args[i]? = some args[i] := List.getElem?_eq_getElem hil
    obtain ⟨us, hu, hg⟩ := exs_get hE hx
    have hu2 : ExI W args[i] us := hu
    obtain ⟨op', k', nn', t', nm', al', len', cl', rfl⟩ := hu.shape
    refine den_chk ?_ (den_chk ?_ (den_look ⟨op', k', nn', len', cl', t', nm', al', fun W3 x3 => ?_, ?_⟩))
    · simp only [E.b, gd, Env.push]; exact SlI.some_of hS (by omega)
    · simp only [Sy.dens, Sy.den, E.i, E.b, E.t, gd, Env.push, List.cons_append, List.nil_append, List.append_nil, Int.toNat_natCast]; exact leB_t (by omega)
    · have := sl_look_at (W := W) hS ex_agg ex_size rfl (by decide) hg (ext_trans x2' x3)
      simp only [Sy.dens, Sy.den, E.i, E.b, E.t, gd, Env.push, List.cons_append, List.nil_append, List.append_nil, Int.toNat_natCast] at this ⊢
      exact this
    · simp only [Env.push, List.cons_append, List.nil_append, List.append_nil]
      have hq := mayc_q n hn ih args[i] _ W2 (Px.thin_mem hth (List.getElem_mem hil)) (hu2.ext x2') (hG.ext x2') p (by rw [x2'.keep p hI]; exact hp) (x2'.sub p hI)
      have ha1 : args.all (Px.may n) = (Px.may n args[i] && (args.drop (i + 1)).all (Px.may n)) := by rw [ha, drop_get hil]; rfl
      refine den_call_q (fun _ _ => hq) ⟨!Px.may n args[i], rfl, fun W3 x3 => den_br (fun c2 => den_ret fun _ _ _ => ⟨_, rfl, (i : Int), rfl, ?_⟩) fun c2 => den_again ⟨args.length - (i + 1), by omega, i + 1, ?_, rfl, by omega, rfl, ?_⟩⟩
      · have c2 : Px.may n args[i] = false := by simpa [Sy.dens, Sy.den, E.i, E.b, E.t, gd, Env.push, List.cons_append, List.nil_append, List.append_nil, Int.toNat_natCast] using c2
        rw [ha1, c2]; exact leB_t (by omega)
      · simp only [Sy.dens, Sy.den, E.i, E.b, E.t, gd, Env.push, List.cons_append, List.nil_append, List.append_nil, Int.toNat_natCast]; rw [w64i (by omega) (by omega)]; rfl
      · have c2 : Px.may n args[i] = true := by simpa [Sy.dens, Sy.den, E.i, E.b, E.t, gd, Env.push, List.cons_append, List.nil_append, List.append_nil, Int.toNat_natCast] using c2
        rw [ha1, c2, Bool.true_and]
  · simp only [Sy.dens, Sy.den, E.i, E.b, E.t, gd, Env.push, List.cons_append, List.nil_append, List.append_nil, Int.toNat_natCast, ltB_false] at c1
    rw [ha, List.drop_eq_nil_of_le (by omega)]; rfl
theorem cont_q (n : Nat) (hn : n < 1000) (ih : MayOk n) (args : List Px.Ex) (a : Option Addr) (c : Nat) (ls : List Value) (W : Wd) (hl : args.length ≤ 1000) (hth : Px.thins args = true) (hS : SlI W a args.length c 6 ls) (hE : ExsAt W.w W.I args ls) (hG : Glob W) (p : Nat) (hp : W.w.heap[p]? = some (.cells #[.int .i64 ((n + 1 : Nat) : Int)] 3)) (hI : W.I p) :
    CallsQ Tryz.prog 53 #[.slice a args.length c, .func (.func 54) #[] #[.pointer (some ⟨p, 0, none⟩)]] W (.bool (!args.all (Px.may n))) := by
  refine vc_cont ((n + 1 : Nat) : Int) args.length c a p W.all _ hp (W.lt p hI) ?_
  refine den_call_i (fun _ _ => idx_i n hn ih args a c ls W.all hl hth (SlAt.move (fun b hb _ => ⟨W.lt b hb, rfl⟩) hS) (ExsAt.move (fun b hb _ => ⟨W.lt b hb, rfl⟩) hE) (hG.ext W.all_ext) p hp (W.lt p hI)) fun v w' _ ⟨r, hv, hr⟩ => ⟨r, hv, fun W2 _ _ _ => den_ret fun _ _ _ => ⟨_, rfl, ?_⟩⟩
  show Value.bool (leB 0 r) = _
  rw [hr]
theorem may_ok : ∀ n : Nat, n < 1000 → MayOk n := by
  intro n
  induction n with
  | zero =>
    intro _ x vs W hth hx hG
    obtain ⟨op, k, nn, t, nm, al, len, cl, rfl⟩ := hx.shape
    refine vc_pmay op k nn ((0 : Nat) : Int) len cl t nm al W.all _ ?_
    refine den_new fun _ _ _ _ => den_new fun _ _ _ _ => den_br_f ?_ (den_grow fun _ _ => den_ret fun _ _ _ => ⟨_, rfl, ?_⟩)
    · simp [Sy.dens, Sy.den, E.i, E.b, E.t, gd, Env.push, List.cons_append, List.nil_append, List.append_nil, Int.toNat_natCast]
    · rfl
  | succ n ih =>
    intro hn x vs W hth hx hG
    have ih := ih (by omega)
    obtain ⟨op, k, nn, t, nm, args⟩ := x
    have hx := hx.ext W.all_ext
    have hG := hG.ext W.all_ext
    simp only [ExI, ExAt] at hx
    obtain ⟨a, c, ls, rfl, hS, hE⟩ := hx
    simp only [Px.thin, Bool.and_eq_true, decide_eq_true_eq] at hth
    obtain ⟨⟨hal, htl, hnl, hf0, hf1⟩, hth⟩ := hth
    refine vc_pmay op k nn ((n + 1 : Nat) : Int) args.length c ⟨t.toArray⟩ ⟨nm.toArray⟩ a W.all _ ?_
    have htt : (⟨t.toArray⟩ : ByteArray).data.toList = t := by simp
    have hnn : (⟨nm.toArray⟩ : ByteArray).data.toList = nm := by simp
    have hnz : (⟨nm.toArray⟩ : ByteArray).size = nm.length := by rw [← size_len, hnn]
    have htz : (⟨t.toArray⟩ : ByteArray).size = t.length := by rw [← size_len, htt]
    have hM : Px.may (n + 1) (.mk op k nn t nm args) = (Px.head (.mk op k nn t nm args) && args.all (Px.may n)) := rfl
    rw [hM]
    simp only [Px.head]
    refine den_new fun m0 W1 hm0 x1 => den_new fun m1 W2 hm1 x2 => den_br (fun c0 => ?_) fun c0 => den_grow fun _ _ => den_ret fun _ _ _ => ⟨_, rfl, ?_⟩
    · have y2 := ext_trans x1 x2
      have hop : 1 ≤ op ∧ op ≤ 16 := by
        simp only [Sy.dens, Sy.den, E.i, E.b, E.t, gd, Env.push, List.cons_append, List.nil_append, List.append_nil, Int.toNat_natCast, Bool.not_eq_true', Bool.or_eq_false_iff, ltB_false] at c0
        omega
      have d1 : decide (1 ≤ op) = true := by simp [hop.1]
      have d2 : decide (op ≤ 16) = true := by simp [hop.2]
      rw [d1, d2, Bool.true_and, Bool.true_and]
      have e1 : ((args.length : Int) == ((Px.argsOf op : Nat) : Int)) = (args.length == Px.argsOf op) := by rw [Bool.eq_iff_iff]; simp; omega
      refine den_callq ⟨((Px.argsOf op : Nat) : Int), fun V xV _ _ => args_q op V, den_grow fun W3 x3 => den_br (fun c1 => den_ret fun _ _ _ => ⟨_, rfl, ?_⟩) fun c1 => ?_⟩
      · simp only [Sy.dens, Sy.den, E.i, E.b, E.t, gd, Env.push, List.cons_append, List.nil_append, List.append_nil, Int.toNat_natCast] at c1 ⊢
        rw [e1] at c1
        have c1 : (args.length == Px.argsOf op) = false := by simpa using c1
        rw [c1]; rfl
      · simp only [Sy.dens, Sy.den, E.i, E.b, E.t, gd, Env.push, List.cons_append, List.nil_append, List.append_nil, Int.toNat_natCast] at c1
        rw [e1] at c1
        have c1 : (args.length == Px.argsOf op) = true := by simpa using c1
        rw [c1, Bool.true_and]
        refine den_br (fun c2 => ?_) fun c2 => den_grow fun _ _ => den_ret fun _ _ _ => ⟨_, rfl, ?_⟩
        · simp only [Sy.dens, Sy.den, E.i, E.b, E.t, gd, Env.push, List.cons_append, List.nil_append, List.append_nil, Int.toNat_natCast] at c2
          have c2 : (op == 1 || (k == 0 && (nn == 0 && t == []))) = true := by
            revert c2
            show (!(!(op == 1) && !((k == 0) && ((nn == 0) && (t == []))))) = true → _
            cases op == 1 <;> cases k == 0 <;> cases nn == 0 <;> cases t == [] <;> simp
          rw [c2, Bool.true_and]
          have hw : ∀ V, Ext W3 V → _ := fun V xV => word_q ⟨nm.toArray⟩ (by rw [hnz]; omega) V (hG.ext (ext_trans (ext_trans y2 x3) xV))
          rw [hnn] at hw
          refine den_callq ⟨Px.word nm, fun V xV _ _ => hw V xV, den_grow fun W4 x4 => den_br (fun c3 => den_ret fun _ _ _ => ⟨_, rfl, ?_⟩) fun c3 => ?_⟩
          · simp only [Sy.dens, Sy.den, E.i, E.b, E.t, gd, Env.push, List.cons_append, List.nil_append, List.append_nil, Int.toNat_natCast] at c3 ⊢
            have c3 : (!((op == 2) == Px.word nm) || (!(op == 2) && !(nm == []))) = true := c3
            congr 1
            revert c3
            cases op == 2 <;> cases Px.word nm <;> cases nm == [] <;> simp
          · simp only [Sy.dens, Sy.den, E.i, E.b, E.t, gd, Env.push, List.cons_append, List.nil_append, List.append_nil, Int.toNat_natCast] at c3
            have c3 : (!((op == 2) == Px.word nm) || (!(op == 2) && !(nm == []))) = false := c3
            have c3' : ((op == 2) == Px.word nm) = true ∧ (op == 2 || nm == []) = true := by
              revert c3
              cases op == 2 <;> cases Px.word nm <;> cases nm == [] <;> simp
            rw [c3'.1, c3'.2, Bool.true_and, Bool.true_and]
            have y4 := ext_trans (ext_trans y2 x3) x4
            have hcont : ∀ V, Ext W4 V → V.w.heap[m1]? = some (.cells #[.int .i64 ((n + 1 : Nat) : Int)] 3) → _ := fun V xV hp => cont_q n (by omega) ih args a c ls V.all hal hth (SlAt.move (fun b hb _ => ⟨(ext_trans (ext_trans y4 xV) V.all_ext).sub b hb, (ext_trans y4 xV).keep b hb⟩) hS) (ExsAt.move (fun b hb _ => ⟨(ext_trans (ext_trans y4 xV) V.all_ext).sub b hb, (ext_trans y4 xV).keep b hb⟩) hE) (hG.ext (ext_trans (ext_trans y4 xV) V.all_ext)) m1 hp (Array.getElem?_eq_some_iff.1 hp).1
            refine den_br (fun c4 => ?_) fun c4 => ?_
            · have c4 : (op == 1) = true := c4
              rw [c4, Bool.not_true, Bool.false_or]
              refine den_call_q (fun _ _ => Vs.may_q k nn ⟨t.toArray⟩ (by rw [htz]; omega) W4) ⟨Va.may ⟨k, nn, ⟨t.toArray⟩⟩, rfl, fun W5 x5 => den_br (fun c5 => den_ret fun _ _ _ => ⟨_, rfl, ?_⟩) fun c5 => ?_⟩
              · simp only [Sy.dens, Sy.den, E.i, E.b, E.t, gd, Env.push, List.cons_append, List.nil_append, List.append_nil, Int.toNat_natCast] at c5 ⊢
                have c5 : ((!Va.may ⟨k, nn, ⟨t.toArray⟩⟩ || (k == 0)) || ((k == 1) && decide (nn < 0))) = true := c5
                congr 1
                revert c5
                cases Va.may ⟨k, nn, ⟨t.toArray⟩⟩ <;> cases k == 0 <;> cases k == 1 <;> cases decide (nn < 0) <;> simp
              · simp only [Sy.dens, Sy.den, E.i, E.b, E.t, gd, Env.push, List.cons_append, List.nil_append, List.append_nil, Int.toNat_natCast] at c5
                have c5 : ((!Va.may ⟨k, nn, ⟨t.toArray⟩⟩ || (k == 0)) || ((k == 1) && decide (nn < 0))) = false := c5
                have c5 : (Va.may ⟨k, nn, ⟨t.toArray⟩⟩ && (!(k == 0) && !(k == 1 && decide (nn < 0)))) = true := by
                  revert c5
                  cases Va.may ⟨k, nn, ⟨t.toArray⟩⟩ <;> cases k == 0 <;> cases k == 1 <;> cases decide (nn < 0) <;> simp
                rw [c5, Bool.true_and]
                refine den_call_q (fun hb _ => hcont W5 x5 (hb _ (List.mem_singleton.2 rfl))) ⟨!args.all (Px.may n), rfl, fun W6 x6 => den_ret fun _ _ _ => ⟨_, rfl, ?_⟩⟩
                show Value.bool (!!args.all (Px.may n)) = _
                rw [Bool.not_not]
            · have c4 : (op == 1) = false := c4
              rw [c4, Bool.not_false, Bool.true_or, Bool.true_and]
              refine den_call_q (fun hb _ => hcont W4 (Ext.refl _) (hb _ (List.mem_singleton.2 rfl))) ⟨!args.all (Px.may n), rfl, fun W6 x6 => den_ret fun _ _ _ => ⟨_, rfl, ?_⟩⟩
              show Value.bool (!!args.all (Px.may n)) = _
              rw [Bool.not_not]
        · simp only [Sy.dens, Sy.den, E.i, E.b, E.t, gd, Env.push, List.cons_append, List.nil_append, List.append_nil, Int.toNat_natCast] at c2 ⊢
          have c2 : (!(!(op == 1) && !((k == 0) && ((nn == 0) && (t == []))))) = false := c2
          congr 1
          revert c2
          cases op == 1 <;> cases k == 0 <;> cases nn == 0 <;> cases t == [] <;> simp
    · simp only [Sy.dens, Sy.den, E.i, E.b, E.t, gd, Env.push, List.cons_append, List.nil_append, List.append_nil, Int.toNat_natCast] at c0 ⊢
      have hz : (((n + 1 : Nat) : Int) == 0) = false := by rw [beq_eq_false_iff_ne]; omega
      rw [hz] at c0
      congr 1
      have : ¬ (1 ≤ op) ∨ ¬ (op ≤ 16) := by
        simp only [Bool.not_eq_false', Bool.false_or, Bool.or_eq_true, ltB_true] at c0
        omega
      rcases this with h | h <;> simp [h]
theorem mayT_q (x : Px.Ex) (vs : List Value) (W : Wd) (hth : Px.thin x = true) (hx : ExI W x vs) (hG : Glob W) : CallsQ Tryz.prog 14 #[.agg vs.toArray] W (.bool (Px.may 16 x)) := by
  obtain ⟨op, k, nn, t, nm, al, len, cl, rfl⟩ := hx.shape
  refine vc_pMay op k nn len cl t nm al W.all _ ?_
  have h := may_ok 16 (by decide)
  refine den_new fun m0 W1 _ x1 => den_call_q (fun _ _ => h x _ W1 hth (hx.ext (ext_trans W.all_ext x1)) (hG.ext (ext_trans W.all_ext x1))) ⟨Px.may 16 x, rfl, fun W2 x2 => den_ret fun _ _ _ => ⟨_, rfl, rfl⟩⟩
end Go.Proofs.YtckgdgkkmhochaaGreatDoor
