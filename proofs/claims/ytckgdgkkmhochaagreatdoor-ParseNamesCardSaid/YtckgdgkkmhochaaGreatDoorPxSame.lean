/- Whether two trees are the same, as the document has it. -/
import Derived.Test.YtckgdgkkmhochaaGreatDoorPxParse
namespace Go.Proofs.YtckgdgkkmhochaaGreatDoor
open Go Go.RowKit Go.SF
set_option linter.unusedSimpArgs false
set_option linter.unusedVariables false

theorem teq_ba (a b : Lx.Bs) : ((⟨a.toArray⟩ : ByteArray).data.toList == (⟨b.toArray⟩ : ByteArray).data.toList) = (a == b) := by simp
theorem drop_get {α : Type} {l : List α} {i : Nat} (h : i < l.length) : l.drop i = l[i] :: l.drop (i + 1) := List.drop_eq_getElem_cons h
theorem same_q (n : Nat) : ∀ (x y : Px.Ex) (vs us : List Value) (W : Wd), Px.deep x ≤ n → Px.thin x = true → ExI W x vs → ExI W y us → CallsQ Tryz.prog 17 #[.agg vs.toArray, .agg us.toArray] W (.bool (Px.same x y)) := by
  induction n with
  | zero => intro x y vs us W h; cases x; simp [Px.deep] at h
  | succ n ih =>
    intro x y vs us W hd hth hx hy
    obtain ⟨op, k, nn, t, nm, args⟩ := x
    obtain ⟨op', k', nn', t', nm', args'⟩ := y
    have hx := hx.ext W.all_ext
    have hy := hy.ext W.all_ext
    simp only [ExI, ExAt] at hx hy
    obtain ⟨a, c, ls, rfl, hS, hE⟩ := hx
    obtain ⟨a', c', ls', rfl, hS', hE'⟩ := hy
    simp only [Px.deep] at hd
    simp only [Px.thin, Bool.and_eq_true, decide_eq_true_eq] at hth
    refine vc_same op k nn op' k' nn' args.length c args'.length c' ⟨t.toArray⟩ ⟨nm.toArray⟩ ⟨t'.toArray⟩ ⟨nm'.toArray⟩ a a' W.all _ ?_
    have hsm : Px.same (.mk op k nn t nm args) (.mk op' k' nn' t' nm' args') = ((op == op' && ((k == k' && (nn == nn' && t == t')) && nm == nm')) && Px.sames args args') := rfl
    refine den_new fun m W1 _ x1 => den_new fun m2 W2 _ x2 => den_br (fun c0 => den_ret fun _ _ _ => ⟨_, rfl, ?_⟩) fun c0 => ?_
    · simp only [Sy.dens, Sy.den, E.i, E.b, E.t, gd, Env.push, List.cons_append, List.nil_append, List.append_nil, Int.toNat_natCast, teq_ba] at c0
      rw [hsm]
      simp only [Sy.dens, Sy.den, E.i, E.b, E.t, gd, Env.push, List.cons_append, List.nil_append, List.append_nil, Int.toNat_natCast]
      by_cases hl : args.length = args'.length
      · have hl' : ((args.length : Int) == (args'.length : Int)) = true := by simp [hl]
        rw [hl'] at c0
        have : (op == op' && ((k == k' && (nn == nn' && t == t')) && nm == nm')) = false := by
          revert c0
          cases op == op' <;> cases k == k' <;> cases nn == nn' <;> cases t == t' <;> cases nm == nm' <;> simp
        rw [this]; rfl
      · have : Px.sames args args' = false := by
          cases h : Px.sames args args'
          · rfl
          · exact absurd (Px.sames_len h) hl
        rw [this, Bool.and_false]
    · simp only [Sy.dens, Sy.den, E.i, E.b, E.t, gd, Env.push, List.cons_append, List.nil_append, List.append_nil, Int.toNat_natCast, teq_ba] at c0
      have hh : (op == op' && ((k == k' && (nn == nn' && t == t')) && nm == nm')) = true ∧ ((args.length : Int) == (args'.length : Int)) = true := by
        revert c0
        cases op == op' <;> cases k == k' <;> cases nn == nn' <;> cases t == t' <;> cases nm == nm' <;> cases ((args.length : Int) == (args'.length : Int)) <;> simp
      have hl : args.length = args'.length := by have := hh.2; rw [beq_iff_eq] at this; omega
      rw [hsm, hh.1, Bool.true_and]
      refine den_loop (fun j vs ls _ => ∃ i : Nat, vs = [.int .i64 (i : Nat)] ∧ ls = [] ∧ i ≤ args.length ∧ j = args.length - i ∧ Px.sames args args' = Px.sames (args.drop i) (args'.drop i)) args.length ⟨0, by simp [Sy.dens, Sy.den, E.i, E.b, E.t, gd, Env.push, List.cons_append, List.nil_append, List.append_nil, Int.toNat_natCast], rfl, Nat.zero_le _, rfl, rfl⟩ ?_
      rintro j vs ls'' W3 x3 ⟨i, rfl, rfl, hi, rfl, hs⟩
      have x3' := ext_trans (ext_trans x1 x2) x3
      refine ⟨(i : Int), rfl, rfl, fun _ => den_br (fun c1 => ?_) fun c1 => den_ret fun _ _ _ => ⟨_, rfl, ?_⟩⟩
      · simp only [Sy.dens, Sy.den, E.i, E.b, E.t, gd, Env.push, List.cons_append, List.nil_append, List.append_nil, Int.toNat_natCast, ltB_true] at c1
        have hil : i < args.length := by omega
        have hil' : i < args'.length := by omega
        have hg := List.getElem?_eq_getElem hil
        have hg' := List.getElem?_eq_getElem hil'
        obtain ⟨us, hu, hgu⟩ := exs_get hE hg
        obtain ⟨us', hu', hgu'⟩ := exs_get hE' hg'
        obtain ⟨o1, k1, n1, t1, m1, al1, len1, cl1, rfl⟩ := hu.shape
        obtain ⟨o2, k2, n2, t2, m2, al2, len2, cl2, rfl⟩ := hu'.shape
        have hdm := Px.deep_mem (List.getElem_mem hil)
        refine den_chk ?_ (den_chk ?_ (den_look ⟨o1, k1, n1, len1, cl1, t1, m1, al1, fun W4 x4 => ?_, ?_⟩))
        · simp only [E.b, gd, Env.push]; exact SlI.some_of hS (by omega)
        · simp only [Sy.dens, Sy.den, E.i, E.b, E.t, gd, Env.push, List.cons_append, List.nil_append, List.append_nil, Int.toNat_natCast]; exact leB_t (by omega)
        · have := sl_look_at (W := W.all) hS ex_agg ex_size rfl (by decide) hgu (ext_trans x3' x4)
          simp only [Sy.dens, Sy.den, E.i, E.b, E.t, gd, Env.push, List.cons_append, List.nil_append, List.append_nil, Int.toNat_natCast] at this ⊢
          exact this
        · simp only [Env.push, List.cons_append, List.nil_append, List.append_nil]
          refine den_chk ?_ (den_chk ?_ (den_look ⟨o2, k2, n2, len2, cl2, t2, m2, al2, fun W4 x4 => ?_, ?_⟩))
          · simp only [E.b, gd, Env.push]; exact SlI.some_of hS' (by omega)
          · simp only [Sy.dens, Sy.den, E.i, E.b, E.t, gd, Env.push, List.cons_append, List.nil_append, List.append_nil, Int.toNat_natCast]; exact ltB_t (by omega)
          · have := sl_look_at (W := W.all) hS' ex_agg ex_size rfl (by decide) hgu' (ext_trans x3' x4)
            simp only [Sy.dens, Sy.den, E.i, E.b, E.t, gd, Env.push, List.cons_append, List.nil_append, List.append_nil, Int.toNat_natCast] at this ⊢
            exact this
          · simp only [Env.push, List.cons_append, List.nil_append, List.append_nil]
            have hq : ∀ V, Ext W3 V → _ := fun V xV => ih args[i] args'[i] _ _ V (by omega) (Px.thin_mem hth.2 (List.getElem_mem hil)) (ExI.ext (W := W.all) hu (ext_trans x3' xV)) (ExI.ext (W := W.all) hu' (ext_trans x3' xV))
            refine den_callq ⟨Px.same args[i] args'[i], fun V xV _ _ => hq V xV, ?_⟩
            simp only [Env.push, List.cons_append, List.nil_append, List.append_nil]
            have hs1 : Px.sames args args' = (Px.same args[i] args'[i] && Px.sames (args.drop (i + 1)) (args'.drop (i + 1))) := by
              rw [hs, drop_get hil, drop_get hil']; rfl
            refine den_grow fun W5 x5 => den_br (fun c2 => den_ret fun _ _ _ => ⟨_, rfl, ?_⟩) fun c2 => den_again ⟨args.length - (i + 1), by omega, i + 1, ?_, rfl, by omega, rfl, ?_⟩
            · have c2 : Px.same args[i] args'[i] = false := by simpa [Sy.dens, Sy.den, E.i, E.b, E.t, gd, Env.push, List.cons_append, List.nil_append, List.append_nil, Int.toNat_natCast] using c2
              rw [hs1, c2]; rfl
            · simp only [Sy.dens, Sy.den, E.i, E.b, E.t, gd, Env.push, List.cons_append, List.nil_append, List.append_nil, Int.toNat_natCast]; rw [w64i (by omega) (by omega)]; rfl
            · have c2 : Px.same args[i] args'[i] = true := by simpa [Sy.dens, Sy.den, E.i, E.b, E.t, gd, Env.push, List.cons_append, List.nil_append, List.append_nil, Int.toNat_natCast] using c2
              rw [hs1, c2, Bool.true_and]
      · simp only [Sy.dens, Sy.den, E.i, E.b, E.t, gd, Env.push, List.cons_append, List.nil_append, List.append_nil, Int.toNat_natCast, ltB_false] at c1
        have : i = args.length := by omega
        rw [hs, List.drop_eq_nil_of_le (by omega), List.drop_eq_nil_of_le (by omega)]; rfl
end Go.Proofs.YtckgdgkkmhochaaGreatDoor
