/- What the statements ask: building trees, whether a text is a tree, the examples. -/
import Derived.Test.YtckgdgkkmhochaaGreatDoorPxShowQ
import Derived.Test.YtckgdgkkmhochaaGreatDoorVcParse3
namespace Px
open Go
open Lx hiding none run first may
def is_ (s : Bs) (x : Ex) : Bool := (parse s).2 == 0 && same (parse s).1 x
def no_ (s : Bs) (f : Int) : Bool := (parse s).2 == f && same (parse s).1 none_
def shows (x : Ex) (s : Bs) : Bool := ((show' x).2 == 0 && (show' x).1 == s) && is_ (show' x).1 x
end Px
namespace Go.Proofs.YtckgdgkkmhochaaGreatDoor
open Go Go.RowKit Go.SF
set_option linter.unusedSimpArgs false
set_option linter.unusedVariables false

theorem showT_q (x : Px.Ex) (vs : List Value) (W : Wd) (hth : Px.thin x = true) (hx : ExI W x vs) (hG : Glob W) (hT : Vs.Tabs W) : CallsQ Tryz.prog 10 #[.agg vs.toArray] W (.tuple #[.string ⟨(Px.show' x).1.toArray⟩, .int .i64 (Px.show' x).2]) := by
  obtain ⟨op, k, nn, t, nm, al, len, cl, rfl⟩ := hx.shape
  have w : ∀ V, Ext W.all V → Ext W V := fun V xV => ext_trans W.all_ext xV
  refine vc_pShow op k nn len cl t nm al W.all _ ?_
  refine den_new fun m0 W1 _ x1 => den_call_q (fun _ _ => mayT_q x _ W1 hth (hx.ext (w _ x1)) (hG.ext (w _ x1))) ⟨Px.may 16 x, rfl, fun W2 x2 => den_br (fun c => den_ret fun _ _ _ => ⟨_, rfl, ?_⟩) fun c => ?_⟩
  · have c : Px.may 16 x = false := by simpa [Sy.dens, Sy.den, E.i, E.b, E.t, gd, Env.push, List.cons_append, List.nil_append, List.append_nil, Int.toNat_natCast] using c
    simp only [Px.show', c, if_false, Bool.false_eq_true]; rfl
  · have c : Px.may 16 x = true := by simpa [Sy.dens, Sy.den, E.i, E.b, E.t, gd, Env.push, List.cons_append, List.nil_append, List.append_nil, Int.toNat_natCast] using c
    have x2' := w _ (ext_trans x1 x2)
    have hl := ba_size (Px.show_ 16 x)
    refine den_call_q (fun _ _ => show_ok 16 (Nat.le_refl _) x _ W2 c hth (hx.ext x2') (hT.ext x2')) ⟨⟨(Px.show_ 16 x).toArray⟩, rfl, fun W3 x3 => ?_⟩
    simp only [Env.push, List.cons_append, List.nil_append, List.append_nil]
    refine den_br (fun c2 => den_ret fun _ _ _ => ⟨_, rfl, ?_⟩) fun c2 => den_ret fun _ _ _ => ⟨_, rfl, ?_⟩
    · have c2 : 100 < (Px.show_ 16 x).length := by simp only [Sy.dens, Sy.den, E.i, E.b, E.t, gd, Env.push, List.cons_append, List.nil_append, List.append_nil, Int.toNat_natCast, ltB_true] at c2; omega
      simp only [Px.show', c, if_true, if_pos c2]; rfl
    · have c2 : ¬ 100 < (Px.show_ 16 x).length := by simp only [Sy.dens, Sy.den, E.i, E.b, E.t, gd, Env.push, List.cons_append, List.nil_append, List.append_nil, Int.toNat_natCast, ltB_false] at c2; omega
      simp only [Px.show', c, if_true, if_neg c2]; rfl

/-! ### trees made -/
/-- a tree, of what stood and what is new -/
def ExJ (W : Wd) (w' : World) (x : Px.Ex) (vs : List Value) : Prop := ExAt w' (fun b => W.I b ∨ W.w.heap.size ≤ b) x vs
theorem ExJ.i {W W' : Wd} {w' : World} {x : Px.Ex} {vs : List Value} (h : ExJ W w' x vs) (e : W'.w = w') (y : Ext W W') (n : NewIn W.w.heap.size W') : ExI W' x vs := by
  subst e
  exact ExAt.move (fun b hb hl => ⟨hb.elim (y.sub b) fun h => n b h hl, rfl⟩) h
/-- what a maker of trees hands over -/
def Makes (W : Wd) (x : Px.Ex) (v : Value) (w' : World) : Prop := ∃ op k n t nm al len cl, v = .agg #[.int .u8 op, .int .u8 k, .int .i64 n, .string t, .string nm, .slice al len cl] ∧ ExJ W w' x [.int .u8 op, .int .u8 k, .int .i64 n, .string t, .string nm, .slice al len cl]
theorem op2_i (o : Int) (x y : Px.Ex) (vs us : List Value) (W : Wd) (hx : ExI W x vs) (hy : ExI W y us) : CallsI Tryz.prog 24 #[.int .u8 o, .agg vs.toArray, .agg us.toArray] W.all (Makes W (Px.op2 o x y)) := by
  obtain ⟨op, k, n, t, nm, al, len, cl, rfl⟩ := hx.shape
  obtain ⟨op', k', n', t', nm', al', len', cl', rfl⟩ := hy.shape
  refine vc_l2 o op k n op' k' n' len cl len' cl' t nm t' nm' al al' W.all _ ?_
  refine den_new fun _ W1 _ x1 => den_new fun _ W2 _ x2 => den_new fun _ W3 _ x3 => den_new fun m W4 hm x4 => den_wr fun W5 x5 => den_ret fun hb _ _ => ?_
  have x := ext_trans (ext_trans (ext_trans (ext_trans x1 x2) x3) x4) x5
  have mv : ∀ {e : Px.Ex} {us : List Value}, ExI W e us → ExAt W5.w (fun b => W.I b ∨ W.w.heap.size ≤ b) e us := fun h => ExAt.move (fun b hb hl => ⟨.inl hb, x.keep b hl⟩) h
  exact ⟨_, rfl, _, _, _, _, _, _, _, _, rfl, ExAt.two (vs := [.int .u8 op, .int .u8 k, .int .i64 n, .string t, .string nm, .slice al len cl]) (us := [.int .u8 op', .int .u8 k', .int .i64 n', .string t', .string nm', .slice al' len' cl']) (hb _ (List.mem_singleton.2 rfl)) (.inr hm) (mv hx) (mv hy) o⟩
theorem op1_i (o : Int) (x : Px.Ex) (vs : List Value) (W : Wd) (hx : ExI W x vs) : CallsI Tryz.prog 25 #[.int .u8 o, .agg vs.toArray] W.all (Makes W (Px.op1 o x)) := by
  obtain ⟨op, k, n, t, nm, al, len, cl, rfl⟩ := hx.shape
  refine vc_l1 o op k n len cl t nm al W.all _ ?_
  refine den_new fun _ W1 _ x1 => den_new fun _ W2 _ x2 => den_new fun m W4 hm x4 => den_wr fun W5 x5 => den_ret fun hb _ _ => ?_
  have x := ext_trans (ext_trans (ext_trans x1 x2) x4) x5
  have mv : ∀ {e : Px.Ex} {us : List Value}, ExI W e us → ExAt W5.w (fun b => W.I b ∨ W.w.heap.size ≤ b) e us := fun h => ExAt.move (fun b hb hl => ⟨.inl hb, x.keep b hl⟩) h
  exact ⟨_, rfl, _, _, _, _, _, _, _, _, rfl, ExAt.one (vs := [.int .u8 op, .int .u8 k, .int .i64 n, .string t, .string nm, .slice al len cl]) (hb _ (List.mem_singleton.2 rfl)) (.inr hm) (mv hx) o⟩
theorem name_i (s : Lx.Bs) (W : Wd) : CallsI Tryz.prog 22 #[.string ⟨s.toArray⟩] W.all (Makes W (Px.name s)) := by
  refine vc_lname ⟨s.toArray⟩ W.all _ ?_
  exact den_new fun _ W1 _ x1 => den_wr fun W5 x5 => den_ret fun hb _ _ => ⟨_, rfl, _, _, _, _, _, _, _, _, rfl, ExAt.leaf _ _ 2 0 0 [] s⟩
theorem num_i (n : Int) (W : Wd) : CallsI Tryz.prog 26 #[.int .i64 n] W.all (Makes W (Px.leaf 1 n [])) := by
  refine vc_lnum n W.all _ ?_
  exact den_new fun _ W1 _ x1 => den_wr fun W5 x5 => den_ret fun hb _ _ => ⟨_, rfl, _, _, _, _, _, _, _, _, rfl, ExAt.leaf _ _ 1 1 n [] []⟩
theorem text_i (s : Lx.Bs) (W : Wd) : CallsI Tryz.prog 27 #[.string ⟨s.toArray⟩] W.all (Makes W (Px.leaf 3 0 s)) := by
  refine vc_ltext ⟨s.toArray⟩ W.all _ ?_
  exact den_new fun _ W1 _ x1 => den_wr fun W5 x5 => den_ret fun hb _ _ => ⟨_, rfl, _, _, _, _, _, _, _, _, rfl, ExAt.leaf _ _ 1 3 0 s []⟩

/-! ### is a text that tree? -/
theorem parse_thin (s : Lx.Bs) : Px.thin (Px.parse s).1 = true ∧ Px.deep (Px.parse s).1 ≤ 100 := by
  unfold Px.parse
  split
  · split
    · exact ⟨by decide, by decide⟩
    · rename_i e h
      have := whole_fine (lex_ok _) h
      have hl := lex_len s
      split
      · exact ⟨by decide, by decide⟩
      · exact ⟨this.1, by show Px.deep e ≤ 100; omega⟩
  · exact ⟨show Px.thin Px.none_ = true by decide, show Px.deep Px.none_ ≤ 100 by decide⟩
theorem is_q (s : Lx.Bs) (x : Px.Ex) (vs : List Value) (W : Wd) (hx : ExI W x vs) (hG : Glob W) : CallsQ Tryz.prog 19 #[.string ⟨s.toArray⟩, .agg vs.toArray] W (.bool (Px.is_ s x)) := by
  obtain ⟨op, k, nn, t, nm, al, len, cl, rfl⟩ := hx.shape
  have w : ∀ V, Ext W.all V → Ext W V := fun V xV => ext_trans W.all_ext xV
  have ht := parse_thin s
  refine vc_lis op k nn len cl ⟨s.toArray⟩ t nm al W.all _ ?_
  have hp := fun V h => parse_i' ⟨s.toArray⟩ V h
  simp only [show (⟨s.toArray⟩ : ByteArray).data.toList = s from by simp] at hp
  refine den_new fun m0 W1 _ x1 => den_call_i (fun _ _ => hp W1 (hG.ext (w _ x1))) fun v w' _ ⟨op', k', n', t', nm', al', len', cl', hv, hX⟩ => ⟨op', k', n', (Px.parse s).2, len', cl', t', nm', al', hv, fun W2 e2 y2 n2 => ?_⟩
  have hX2 := ExAt.i hX e2 n2
  simp only [Env.push, List.cons_append, List.nil_append, List.append_nil]
  refine den_new fun m1 W3 _ x3 => den_wr fun W4 x4 => den_br (fun c => ?_) fun c => den_ret fun _ _ _ => ⟨_, rfl, ?_⟩
  · have c : ((Px.parse s).2 == 0) = true := c
    have x4' := ext_trans (ext_trans (ext_trans x1 y2) x3) x4
    refine den_call_q (fun _ _ => same_q 100 _ x _ _ W4 ht.2 ht.1 (hX2.ext (ext_trans x3 x4)) (hx.ext (w _ x4'))) ⟨Px.same (Px.parse s).1 x, rfl, fun W5 x5 => den_ret fun _ _ _ => ⟨_, rfl, ?_⟩⟩
    simp only [Px.is_, c, Bool.true_and]; rfl
  · have c : ((Px.parse s).2 == 0) = false := c
    simp only [Px.is_, c, Bool.false_and]; rfl
theorem no_q (s : Lx.Bs) (f : Int) (W : Wd) (hG : Glob W) : CallsQ Tryz.prog 23 #[.string ⟨s.toArray⟩, .int .i64 f] W (.bool (Px.no_ s f)) := by
  have ht := parse_thin s
  refine vc_lno f ⟨s.toArray⟩ W.all _ ?_
  have hp := fun V h => parse_i' ⟨s.toArray⟩ V h
  simp only [show (⟨s.toArray⟩ : ByteArray).data.toList = s from by simp] at hp
  refine den_call_i (fun _ _ => hp W.all (hG.ext W.all_ext)) fun v w' _ ⟨op', k', n', t', nm', al', len', cl', hv, hX⟩ => ⟨op', k', n', (Px.parse s).2, len', cl', t', nm', al', hv, fun W2 e2 y2 n2 => ?_⟩
  have hX2 := ExAt.i hX e2 n2
  simp only [Env.push, List.cons_append, List.nil_append, List.append_nil]
  refine den_new fun m1 W3 _ x3 => den_wr fun W4 x4 => den_br (fun c => ?_) fun c => den_ret fun _ _ _ => ⟨_, rfl, ?_⟩
  · have c : ((Px.parse s).2 == f) = true := c
    refine den_call_q (fun _ _ => same_q 100 _ Px.none_ _ _ W4 ht.2 ht.1 (hX2.ext (ext_trans x3 x4)) (zero_ex _ _)) ⟨Px.same (Px.parse s).1 Px.none_, rfl, fun W5 x5 => den_ret fun _ _ _ => ⟨_, rfl, ?_⟩⟩
    simp only [Px.no_, c, Bool.true_and]; rfl
  · have c : ((Px.parse s).2 == f) = false := c
    simp only [Px.no_, c, Bool.false_and]; rfl
theorem shows_q (x : Px.Ex) (vs : List Value) (s : Lx.Bs) (W : Wd) (hth : Px.thin x = true) (hx : ExI W x vs) (hG : Glob W) (hT : Vs.Tabs W) : CallsQ Tryz.prog 28 #[.agg vs.toArray, .string ⟨s.toArray⟩] W (.bool (Px.shows x s)) := by
  obtain ⟨op, k, nn, t, nm, al, len, cl, rfl⟩ := hx.shape
  have w : ∀ V, Ext W.all V → Ext W V := fun V xV => ext_trans W.all_ext xV
  refine vc_lshows op k nn len cl t nm ⟨s.toArray⟩ al W.all _ ?_
  refine den_new fun m0 W1 _ x1 => den_call_q (fun _ _ => showT_q x _ W1 hth (hx.ext (w _ x1)) (hG.ext (w _ x1)) (hT.ext (w _ x1))) ⟨(Px.show' x).2, ⟨(Px.show' x).1.toArray⟩, rfl, fun W2 x2 => ?_⟩
  simp only [Env.push, List.cons_append, List.nil_append, List.append_nil]
  refine den_br (fun c => ?_) fun c => den_ret fun _ _ _ => ⟨_, rfl, ?_⟩
  · simp only [Sy.dens, Sy.den, E.i, E.b, E.t, gd, Env.push, List.cons_append, List.nil_append, List.append_nil, Int.toNat_natCast, teq_ba] at c
    have x2' := w _ (ext_trans x1 x2)
    refine den_call_q (fun _ _ => is_q (Px.show' x).1 x _ W2 (hx.ext x2') (hG.ext x2')) ⟨Px.is_ (Px.show' x).1 x, rfl, fun W3 x3 => den_ret fun _ _ _ => ⟨_, rfl, ?_⟩⟩
    simp only [Px.shows, c, Bool.true_and]; rfl
  · simp only [Sy.dens, Sy.den, E.i, E.b, E.t, gd, Env.push, List.cons_append, List.nil_append, List.append_nil, Int.toNat_natCast, teq_ba] at c
    simp only [Px.shows, c, Bool.false_and]; rfl
end Go.Proofs.YtckgdgkkmhochaaGreatDoor
