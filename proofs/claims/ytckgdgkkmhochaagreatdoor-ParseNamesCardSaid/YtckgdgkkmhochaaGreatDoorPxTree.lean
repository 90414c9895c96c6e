/- Trees in memory, read: an argument of a tree; how deep a tree is. -/
import Derived.Test.YtckgdgkkmhochaaGreatDoorPxRead
import Derived.Test.YtckgdgkkmhochaaGreatDoorPxFacts
namespace Go.Proofs.YtckgdgkkmhochaaGreatDoor
open Go Go.RowKit Go.SF
set_option linter.unusedSimpArgs false
set_option linter.unusedVariables false

/-- a tree that stays -/
def ExI (W : Wd) (e : Px.Ex) (vs : List Value) : Prop := ExAt W.w W.I e vs
theorem ExI.ext {W W' : Wd} {e : Px.Ex} {vs : List Value} (h : ExI W e vs) (x : Ext W W') : ExI W' e vs := ExAt.move (fun b hb _ => ⟨x.sub b hb, x.keep b hb⟩) h
theorem ExS.i {W : Wd} {n0 : Nat} {e : Px.Ex} {vs : List Value} (h : ExS W n0 e vs) : ExI W e vs := ExAt.move (fun b hb _ => ⟨hb.1, rfl⟩) h
theorem ExAt.i {W : Wd} {w : World} {n1 : Nat} {e : Px.Ex} {vs : List Value} (h : ExAt w (fun b => n1 ≤ b) e vs) (hw : W.w = w) (hn : NewIn n1 W) : ExI W e vs := (h.stay hw hn (Nat.le_refl _)).i
theorem exs_get {w : World} {J : Nat → Prop} : ∀ {l : List Px.Ex} {ls : List Value}, ExsAt w J l ls → ∀ {i : Nat} {x : Px.Ex}, l[i]? = some x → ∃ vs, ExAt w J x vs ∧ ∀ j, j < 6 → ls[i * 6 + j]? = vs[j]?
  | [], ls, h, i, x, hx => by simp at hx
  | e :: l, ls, h, i, x, hx => by
    simp only [ExsAt] at h
    obtain ⟨y, m, rfl, hy, hm⟩ := h
    cases i with
    | zero =>
      simp only [List.getElem?_cons_zero, Option.some.injEq] at hx
      subst hx
      exact ⟨y, hy, fun j hj => by rw [Nat.zero_mul, Nat.zero_add, List.getElem?_append_left (by rw [hy.len]; exact hj)]⟩
    | succ i =>
      rw [List.getElem?_cons_succ] at hx
      obtain ⟨vs, hv, hc⟩ := exs_get hm hx
      exact ⟨vs, hv, fun j hj => by
        rw [List.getElem?_append_right (by rw [hy.len]; omega), hy.len, show (i + 1) * 6 + j - 6 = i * 6 + j from by omega]
        exact hc j hj⟩
theorem sl_look_at {W : Wd} {a : Option Addr} {n c sz : Nat} {xs : List Value} (h : SlI W a n c sz xs) {t : TypeId} (hA : aggT Tryz.prog t = some true) (hS : sizeT Tryz.prog t = some sz) {i : Nat} {vs : List Value} (hv : vs.length = sz) (hz : 0 < sz) (hg : ∀ j, j < sz → xs[i * sz + j]? = vs[j]?)
    {W' : Wd} (hW : Ext W W') : (Instr.loadAt t (.pointer (some ((a.getD default).add (i * sz + 0))))).run Tryz.prog W'.w = .ok (.agg vs.toArray) W'.w := by
  obtain ⟨h1, h2, h3⟩ := h.ext hW
  rcases h3 with ⟨_, rfl, rfl⟩ | ⟨b, o, rfl, hI, hb, hc⟩
  · exfalso
    have h0 := hg 0 hz
    have : xs = [] := List.length_eq_zero_iff.1 (by simpa using h1)
    rw [this, List.getElem?_nil, List.getElem?_eq_getElem (l := vs) (by omega)] at h0
    cases h0
  · refine look_agg hA hS hv fun j u hu => ?_
    have hj : j < sz := by rw [← hv]; exact (List.getElem?_eq_some_iff.1 hu).1
    have := hc (i * sz + j) u (by rw [hg j hj]; exact hu)
    simp only [Option.getD_some, Nat.add_zero]
    rw [add_none, add_none, show o + i * sz + j = o + (i * sz + j) from by omega]
    exact this
theorem ex_agg : aggT Tryz.prog 26 = some true := by kernel_rfl
theorem ex_size : sizeT Tryz.prog 26 = some 6 := by kernel_rfl

/-! ### how deep -/
theorem depth_q (n : Nat) : ∀ (x : Px.Ex) (vs : List Value) (W : Wd), Px.deep x ≤ n → n ≤ 1000000 → Px.thin x = true → ExI W x vs → CallsQ Tryz.prog 40 #[.agg vs.toArray] W (.int .i64 (Px.deep x : Nat)) := by
  induction n with
  | zero => intro x vs W h; cases x; simp [Px.deep] at h
  | succ n ih =>
    intro x vs W hd hn hth hx
    obtain ⟨op, k, nn, t, nm, args⟩ := x
    have hx := hx.ext W.all_ext
    simp only [ExI, ExAt] at hx
    obtain ⟨a, c, ls, rfl, hS, hE⟩ := hx
    simp only [Px.deep] at hd
    simp only [Px.thin, Bool.and_eq_true, decide_eq_true_eq] at hth
    refine vc_depth op k nn args.length c ⟨t.toArray⟩ ⟨nm.toArray⟩ a W.all _ ?_
    refine den_new fun m W1 _ x1 => den_loop (fun j vs ls _ => ∃ i : Nat, vs = [.int .i64 (Px.deeps (args.take i) : Nat), .int .i64 (i : Nat)] ∧ ls = [] ∧ i ≤ args.length ∧ j = args.length - i) args.length ⟨0, by simp [Px.deeps, Sy.dens, Sy.den, E.i, E.b, E.t, gd, Env.push, List.cons_append, List.nil_append, List.append_nil, Int.toNat_natCast], rfl, Nat.zero_le _, rfl⟩ ?_
    rintro j vs ls' W2 x2 ⟨i, rfl, rfl, hi, rfl⟩
    have x2' := ext_trans x1 x2
    refine ⟨((Px.deeps (args.take i) : Nat) : Int), (i : Int), rfl, rfl, fun _ => ?_⟩
    have hle := Px.deeps_take args i
    refine den_br (fun c1 => ?_) fun c1 => ?_
    · simp only [Sy.dens, Sy.den, E.i, E.b, E.t, gd, Env.push, List.cons_append, List.nil_append, List.append_nil, Int.toNat_natCast, ltB_true] at c1
      have hil : i < args.length := by omega
      have hx : args[i]? = some args[i] := List.getElem?_eq_getElem hil
      obtain ⟨us, hu, hg⟩ := exs_get hE hx
      obtain ⟨op', k', nn', t', nm', al', len', cl', rfl⟩ := hu.shape
      have hs := Px.deep_mem (List.getElem_mem hil)
      refine den_chk ?_ (den_chk ?_ (den_look ⟨op', k', nn', len', cl', t', nm', al', fun W3 x3 => ?_, ?_⟩))
      · simp only [E.b, gd, Env.push]; exact SlI.some_of hS (by omega)
      · simp only [Sy.dens, Sy.den, E.i, E.b, E.t, gd, Env.push, List.cons_append, List.nil_append, List.append_nil, Int.toNat_natCast]; exact leB_t (by omega)
      · have := sl_look_at (W := W.all) hS ex_agg ex_size rfl (by decide) hg (ext_trans x2' x3)
        simp only [Sy.dens, Sy.den, E.i, E.b, E.t, gd, Env.push, List.cons_append, List.nil_append, List.append_nil, Int.toNat_natCast] at this ⊢
        exact this
      · simp only [Env.push, List.cons_append, List.nil_append, List.append_nil]
        have hu2 : ExI W.all args[i] _ := hu
        have hq : ∀ V, Ext W2 V → _ := fun V xV => ih args[i] _ V (by omega) (by omega) (Px.thin_mem hth.2 (List.getElem_mem hil)) (hu2.ext (ext_trans x2' xV))
        refine den_new fun m2 W3 _ x3 => den_wr fun W4 x4 => den_call_q (fun _ _ => hq W4 (ext_trans x3 x4)) ⟨((Px.deep args[i] : Nat) : Int), rfl, fun W5 x5 => ?_⟩
        simp only [Env.push, List.cons_append, List.nil_append, List.append_nil]
        refine den_frz fun _ _ _ _ _ => den_again ⟨args.length - (i + 1), by omega, i + 1, ?_, rfl, by omega, rfl⟩
        simp only [Sy.dens, Sy.den, E.i, E.b, E.t, gd, Env.push, List.cons_append, List.nil_append, List.append_nil, Int.toNat_natCast]
        have ht : args.take (i + 1) = args.take i ++ [args[i]] := by rw [List.take_add_one, hx]; rfl
        rw [ht, Px.deeps_snoc, w64i (by omega) (by omega)]
        congr 2
        · congr 1; omega
    · simp only [Sy.dens, Sy.den, E.i, E.b, E.t, gd, Env.push, List.cons_append, List.nil_append, List.append_nil, Int.toNat_natCast, ltB_false] at c1
      obtain rfl : i = args.length := by omega
      refine den_ret fun _ _ _ => ⟨_, rfl, ?_⟩
      simp only [Sy.dens, Sy.den, E.i, E.b, E.t, gd, Env.push, List.cons_append, List.nil_append, List.append_nil, Int.toNat_natCast, List.take_length, Px.deep] at hle ⊢
      rw [w64i (by omega) (by omega)]
      rfl
end Go.Proofs.YtckgdgkkmhochaaGreatDoor
