/- parse.Same: the walk. -/
import Derived.Test.YtckgdgkkmhochaaGreatDoorPxLaw
import Derived.Test.YtckgdgkkmhochaaGreatDoorVcPNames
namespace Go.Proofs.YtckgdgkkmhochaaGreatDoor
open Go Go.RowKit Go.SF
set_option linter.unusedSimpArgs false
set_option linter.unusedVariables false
def PSame (n : Nat) : Prop := ∀ (x y : Px.Ex) (vs us : List Value) (W : Wd), Px.deep x ≤ n → Px.thin x = true → ExI W x vs → ExI W y us → CallsQ Tryz.prog 16 #[.agg vs.toArray, .agg us.toArray] W (.bool (Px.same x y))
theorem psames_q (n : Nat) (ih : PSame n) (args args' : List Px.Ex) (a a' : Option Addr) (c c' : Nat) (ls ls' : List Value) (W : Wd) (hl1000 : args.length ≤ 1000) (hd : Px.deeps args ≤ n) (hth : Px.thins args = true) (hS : SlI W a args.length c 6 ls) (hE : ExsAt W.w W.I args ls) (hS' : SlI W a' args'.length c' 6 ls') (hE' : ExsAt W.w W.I args' ls') :
    CallsQ Tryz.prog 37 #[.slice a args.length c, .slice a' args'.length c', .func (.func 16) #[] #[]] W (.bool (Px.sames args args')) := by
  refine vc_psamef args.length c args'.length c' a a' W.all _ ?_
  refine den_br (fun c0 => den_ret fun _ _ _ => ⟨_, rfl, ?_⟩) fun c0 => ?_
  · have c0 : ¬ ((args.length : Nat) : Int) = ((args'.length : Nat) : Int) := by simpa [Sy.dens, Sy.den, E.i, E.b, E.t, gd, Env.push, List.cons_append, List.nil_append, List.append_nil, Int.toNat_natCast] using c0
    have : Px.sames args args' = false := by
      cases h : Px.sames args args'
      · rfl
      · exact absurd (by rw [Px.sames_len h]) c0
    rw [this]; rfl
  · have c0 : ((args.length : Nat) : Int) = ((args'.length : Nat) : Int) := by simpa [Sy.dens, Sy.den, E.i, E.b, E.t, gd, Env.push, List.cons_append, List.nil_append, List.append_nil, Int.toNat_natCast] using c0
    have hl : args.length = args'.length := by omega
    refine den_loop (fun j vs ls _ => ∃ i : Nat, vs = [.int .i64 (i : Nat)] ∧ ls = [] ∧ i ≤ args.length ∧ j = args.length - i ∧ Px.sames args args' = Px.sames (args.drop i) (args'.drop i)) args.length ⟨0, rfl, rfl, Nat.zero_le _, rfl, rfl⟩ ?_
    rintro j vs ls'' W3 x3 ⟨i, rfl, rfl, hi, rfl, hs⟩
    have x3' : Ext W W3 := ext_trans W.all_ext x3
    refine ⟨(i : Int), rfl, rfl, fun _ => den_br (fun c1 => ?_) fun c1 => den_ret fun _ _ _ => ⟨_, rfl, ?_⟩⟩
    · simp only [Sy.dens, Sy.den, E.i, E.b, E.t, gd, Env.push, List.cons_append, List.nil_append, List.append_nil, Int.toNat_natCast, ltB_true] at c1
      have hil : i < args.length := by omega
      have hil' : i < args'.length := by omega
      have hg := List.getElem?_eq_getElem hil
      have hg' := List.getElem?_eq_getElem hil'
      obtain ⟨us, hu, hgu⟩ := exs_get hE hg
      obtain ⟨us', hu', hgu'⟩ := exs_get hE' hg'
      obtain ⟨o1, k1, n1, t1, m1, al1, len1, cl1, rfl⟩ := hu.shape
      obtain ⟨o2, k2, n2, t2, m2, al2, len2, cl2, rfl⟩ := hu'.shape
      have hdm := Px.deep_mem (List.getElem_mem hil)
      refine den_chk ?_ (den_chk ?_ (den_look ⟨o1, k1, n1, len1, cl1, t1, m1, al1, fun W4 x4 => ?_, ?_⟩))
      · simp only [E.b, gd, Env.push]; exact SlI.some_of hS (by omega)
      · simp only [Sy.dens, Sy.den, E.i, E.b, E.t, gd, Env.push, List.cons_append, List.nil_append, List.append_nil, Int.toNat_natCast]; exact leB_t (by omega)
      · have := sl_look_at (W := W) hS ex_agg ex_size rfl (by decide) hgu (ext_trans x3' x4)
        simp only [Sy.dens, Sy.den, E.i, E.b, E.t, gd, Env.push, List.cons_append, List.nil_append, List.append_nil, Int.toNat_natCast] at this ⊢
        exact this
      · simp only [Env.push, List.cons_append, List.nil_append, List.append_nil]
        refine den_new fun _ W4 _ x4 => den_wr fun W5 x5 => ?_
        have x5' := ext_trans (ext_trans x3' x4) x5
        refine den_chk ?_ (den_chk ?_ (den_look ⟨o2, k2, n2, len2, cl2, t2, m2, al2, fun W6 x6 => ?_, ?_⟩))
        · simp only [E.b, gd, Env.push]; exact SlI.some_of hS' (by omega)
        · simp only [Sy.dens, Sy.den, E.i, E.b, E.t, gd, Env.push, List.cons_append, List.nil_append, List.append_nil, Int.toNat_natCast]; exact ltB_t (by omega)
        · have := sl_look_at (W := W) hS' ex_agg ex_size rfl (by decide) hgu' (ext_trans x5' x6)
          simp only [Sy.dens, Sy.den, E.i, E.b, E.t, gd, Env.push, List.cons_append, List.nil_append, List.append_nil, Int.toNat_natCast] at this ⊢
          exact this
        · simp only [Env.push, List.cons_append, List.nil_append, List.append_nil]
          refine den_new fun _ W6 _ x6 => den_wr fun W7 x7 => ?_
          have x7' := ext_trans (ext_trans x5' x6) x7
          have hq := ih args[i] args'[i] _ _ W7 (by omega) (Px.thin_mem hth (List.getElem_mem hil)) (ExI.ext (W := W) hu x7') (ExI.ext (W := W) hu' x7')
          have hs1 : Px.sames args args' = (Px.same args[i] args'[i] && Px.sames (args.drop (i + 1)) (args'.drop (i + 1))) := by
            rw [hs, drop_get hil, drop_get hil']; rfl
          refine den_call_q (fun _ _ => hq) ⟨Px.same args[i] args'[i], rfl, fun W8 x8 => den_br (fun c2 => den_ret fun _ _ _ => ⟨_, rfl, ?_⟩) fun c2 => den_frz fun W9 _ x9 _ _ => den_again ⟨args.length - (i + 1), by omega, i + 1, ?_, rfl, by omega, rfl, ?_⟩⟩
          · have c2 : Px.same args[i] args'[i] = false := by simpa [Sy.dens, Sy.den, E.i, E.b, E.t, gd, Env.push, List.cons_append, List.nil_append, List.append_nil, Int.toNat_natCast] using c2
            rw [hs1, c2]; rfl
          · simp only [Sy.dens, Sy.den, E.i, E.b, E.t, gd, Env.push, List.cons_append, List.nil_append, List.append_nil, Int.toNat_natCast]; rw [w64i (by omega) (by omega)]; rfl
          · have c2 : Px.same args[i] args'[i] = true := by simpa [Sy.dens, Sy.den, E.i, E.b, E.t, gd, Env.push, List.cons_append, List.nil_append, List.append_nil, Int.toNat_natCast] using c2
            rw [hs1, c2, Bool.true_and]
    · simp only [Sy.dens, Sy.den, E.i, E.b, E.t, gd, Env.push, List.cons_append, List.nil_append, List.append_nil, Int.toNat_natCast, ltB_false] at c1
      rw [hs, List.drop_eq_nil_of_le (by omega), List.drop_eq_nil_of_le (by omega)]; rfl
theorem psame_q : ∀ n : Nat, PSame n := by
  intro n
  induction n with
  | zero => intro x y vs us W h; have := Px.deep_pos x; omega
  | succ n ih =>
    intro x y vs us W hd hth hx hy
    obtain ⟨op, k, nn, t, nm, args⟩ := x
    obtain ⟨op', k', nn', t', nm', args'⟩ := y
    have hx := hx.ext W.all_ext
    have hy := hy.ext W.all_ext
    simp only [ExI, ExAt] at hx hy
    obtain ⟨a, c, ls, rfl, hS, hE⟩ := hx
    obtain ⟨a', c', ls', rfl, hS', hE'⟩ := hy
    simp only [Px.deep] at hd
    simp only [Px.thin, Bool.and_eq_true, decide_eq_true_eq] at hth
    refine vc_psame op k nn op' k' nn' args.length c args'.length c' ⟨t.toArray⟩ ⟨nm.toArray⟩ ⟨t'.toArray⟩ ⟨nm'.toArray⟩ a a' W.all _ ?_
    have hsm : Px.same (.mk op k nn t nm args) (.mk op' k' nn' t' nm' args') = ((op == op' && ((k == k' && (nn == nn' && t == t')) && nm == nm')) && Px.sames args args') := rfl
    refine den_new fun m W1 _ x1 => den_new fun m2 W2 _ x2 => den_br (fun c0 => ?_) fun c0 => den_ret fun _ _ _ => ⟨_, rfl, ?_⟩
    · simp only [Sy.dens, Sy.den, E.i, E.b, E.t, gd, Env.push, List.cons_append, List.nil_append, List.append_nil, Int.toNat_natCast, teq_ba] at c0
      have hh : (op == op' && ((k == k' && (nn == nn' && t == t')) && nm == nm')) = true := by
        revert c0
        cases op == op' <;> cases k == k' <;> cases nn == nn' <;> cases t == t' <;> cases nm == nm' <;> simp
      have y2 := ext_trans x1 x2
      have hq := psames_q n ih args args' a a' c c' ls ls' W2 hth.1.1 (by omega) hth.2 (SlI.ext (W := W.all) hS y2) (ExsAt.move (fun b hb _ => ⟨y2.sub b hb, y2.keep b hb⟩) hE) (SlI.ext (W := W.all) hS' y2) (ExsAt.move (fun b hb _ => ⟨y2.sub b hb, y2.keep b hb⟩) hE')
      refine den_call_q (fun _ _ => hq) ⟨Px.sames args args', rfl, fun W3 x3 => den_ret fun _ _ _ => ⟨_, rfl, ?_⟩⟩
      rw [hsm, hh, Bool.true_and]; rfl
    · simp only [Sy.dens, Sy.den, E.i, E.b, E.t, gd, Env.push, List.cons_append, List.nil_append, List.append_nil, Int.toNat_natCast, teq_ba] at c0
      have hh : (op == op' && ((k == k' && (nn == nn' && t == t')) && nm == nm')) = false := by
        revert c0
        cases op == op' <;> cases k == k' <;> cases nn == nn' <;> cases t == t' <;> cases nm == nm' <;> simp
      rw [hsm, hh, Bool.false_and]; rfl
end Go.Proofs.YtckgdgkkmhochaaGreatDoor
