/- ParseBack: the walk (written by wip/gen_pxback.py). -/
import Derived.Test.YtckgdgkkmhochaaGreatDoorPxWorks
import Derived.Test.YtckgdgkkmhochaaGreatDoorPyP
import Derived.Test.YtckgdgkkmhochaaGreatDoorVcBack
set_option linter.unusedVariables false
namespace Px
open Go
theorem show_two {x : Ex} (hm : may 16 x = true) : ((show' x).2 = 0 ∧ (show' x).1 = show_ 16 x) ∨ ((show' x).2 = 40 ∧ (show' x).1 = []) := by
  unfold show'
  rw [if_pos hm]
  split
  · exact .inr ⟨rfl, rfl⟩
  · exact .inl ⟨rfl, rfl⟩
theorem show_no {x : Ex} (hm : may 16 x = false) : show' x = ([], 4) := by
  unfold show'; rw [hm]; rfl
theorem show_back {x : Ex} (hth : thin x = true) (h : (show' x).2 = 0) : may 16 x = true ∧ (show' x).1.length ≤ 100 ∧ parse (show' x).1 = (x, 0) := by
  unfold show' at h ⊢
  cases hm : may 16 x with
  | false => rw [hm] at h; simp at h
  | true =>
    rw [hm] at h
    simp only [if_true] at h ⊢
    split at h
    · simp at h
    · rename_i hl
      rw [if_neg hl]
      exact ⟨trivial, by show (show_ 16 x).length ≤ 100; omega, parse_show hm hth (by omega)⟩
theorem show_is {x : Ex} (hm : may 16 x = true) (hth : thin x = true) (h : (show' x).2 = 0) : is_ (show' x).1 x = true := by
  unfold is_
  rw [(show_back hth h).2.2]
  simp [same_refl]
end Px
namespace Go.Proofs.YtckgdgkkmhochaaGreatDoor
open Go Go.RowKit Go.SF
open Px (show_two show_no show_back show_is)
set_option linter.unusedSimpArgs false
set_option linter.unusedVariables false

def SizeOk (d : Nat) : Prop := ∀ (x : Px.Ex) (n : Nat) (vs : List Value) (W : Wd), Px.deep x ≤ d → n ≤ 300 → Tx.wide x = true → ExI W x vs →
  CallsQ Tryz.prog 29 #[.agg vs.toArray, .int .i64 (n : Nat)] W (.int .i64 (Tx.sz x n : Nat))
theorem size_ok : ∀ d : Nat, SizeOk d := by
  intro d
  induction d with
  | zero => intro x n vs W hd; have := Px.deep_pos x; omega
  | succ d ih =>
    intro x n vs W hd hn hw hx
    obtain ⟨op, k, nn, t, nm, args⟩ := x
    have hx := hx.ext W.all_ext
    simp only [ExI, ExAt] at hx
    obtain ⟨a, c, ls, rfl, hS, hE⟩ := hx
    simp only [Tx.wide, Bool.and_eq_true, decide_eq_true_eq] at hw
    obtain ⟨⟨hal, -⟩, hw⟩ := hw
    simp only [Px.deep] at hd
    refine vc_lsize op k nn (n : Int) args.length c ⟨t.toArray⟩ ⟨nm.toArray⟩ a W.all _ ?_
    refine den_new fun m0 W1 hm0 x1 => den_loop (fun j vs ls _ => ∃ (i m : Nat), vs = [.int .i64 (m : Nat), .int .i64 (i : Nat)] ∧ ls = [] ∧ i ≤ args.length ∧ j = args.length - i ∧ (m ≤ n ∨ m ≤ 1) ∧ Tx.szs args 1 n = Tx.szs (args.drop i) m n) args.length ⟨0, 1, by simp [Sy.dens, Sy.den, E.i, E.b, E.t, gd, Env.push, List.cons_append, List.nil_append, List.append_nil, Int.toNat_natCast], rfl, Nat.zero_le _, rfl, .inr (Nat.le_refl _), rfl⟩ ?_
    rintro j vs ls' W2 x2 ⟨i, m, rfl, rfl, hi, rfl, hm, hz⟩
    have x2' := ext_trans x1 x2
    refine ⟨(m : Int), (i : Int), rfl, rfl, fun _ => den_br (fun c1 => ?_) fun c1 => den_ret fun _ _ _ => ⟨_, rfl, ?_⟩⟩
    · simp only [Sy.dens, Sy.den, E.i, E.b, E.t, gd, Env.push, List.cons_append, List.nil_append, List.append_nil, Int.toNat_natCast, Bool.and_eq_true, ltB_true] at c1
      have hil : i < args.length := by omega
      have hmn : m < n := by omega
      have hx : args[i]? = some args[i] := List.getElem?_eq_getElem hil
      obtain ⟨us, hu, hg⟩ := exs_get hE hx
      have hu2 : ExI W.all args[i] us := hu
      obtain ⟨op', k', nn', t', nm', al', len', cl', rfl⟩ := hu.shape
      have hdr : args.drop i = args[i] :: args.drop (i + 1) := List.drop_eq_getElem_cons hil
      rw [hdr] at hz
      refine den_chk ?_ (den_chk ?_ (den_look ⟨op', k', nn', len', cl', t', nm', al', fun W3 x3 => ?_, ?_⟩))
      · simp only [E.b, gd, Env.push]; exact SlI.some_of hS (by omega)
      · simp only [Sy.dens, Sy.den, E.i, E.b, E.t, gd, Env.push, List.cons_append, List.nil_append, List.append_nil, Int.toNat_natCast]; exact leB_t (by omega)
      · have := sl_look_at (W := W.all) hS ex_agg ex_size rfl (by decide) hg (ext_trans x2' x3)
        simp only [Sy.dens, Sy.den, E.i, E.b, E.t, gd, Env.push, List.cons_append, List.nil_append, List.append_nil, Int.toNat_natCast] at this ⊢
        exact this
      · simp only [Env.push, List.cons_append, List.nil_append, List.append_nil]
        have hde := Px.deep_mem (List.getElem_mem hil)
        have hq := ih args[i] (n - m) _ W2 (by omega) (by omega) (Tx.wide_mem hw (List.getElem_mem hil)) (hu2.ext x2')
        have hdd : IntKind.i64.wrap ((n : Int) - (m : Int)) = ((n - m : Nat) : Int) := by rw [w64i (by omega) (by omega)]; omega
        rw [← hdd] at hq
        have hle := Tx.sz_le args[i] (n - m) (by omega)
        refine den_call_q (fun _ _ => hq) ⟨(Tx.sz args[i] (n - m) : Int), rfl, fun W3 x3 => den_again ⟨args.length - (i + 1), by omega, i + 1, m + Tx.sz args[i] (n - m), ?_, rfl, by omega, rfl, .inl (by omega), ?_⟩⟩
        · simp only [Sy.dens, Sy.den, E.i, E.b, E.t, gd, Env.push, List.cons_append, List.nil_append, List.append_nil, Int.toNat_natCast]
          rw [w64i (by omega) (by omega), w64i (by omega) (by omega)]; rfl
        · rw [hz, Tx.szs, if_pos hmn]
    · simp only [Sy.dens, Sy.den, E.i, E.b, E.t, gd, Env.push, List.cons_append, List.nil_append, List.append_nil, Int.toNat_natCast, Bool.and_eq_false_iff, ltB_false] at c1
      have : Tx.szs (args.drop i) m n = m := by
        rcases Nat.lt_or_ge i args.length with hil | hil
        · rw [List.drop_eq_getElem_cons hil, Tx.szs, if_neg (by omega)]
        · rw [List.drop_eq_nil_of_le hil, Tx.szs]
      simp only [Tx.sz]
      rw [hz, this]; rfl
theorem large_q (x : Px.Ex) (vs : List Value) (W : Wd) (hw : Tx.wide x = true) (hx : ExI W x vs) :
    CallsQ Tryz.prog 9 #[.agg vs.toArray] W (.bool (Tx.large x)) := by
  obtain ⟨op, k, nn, t, nm, al, len, cl, rfl⟩ := hx.shape
  refine vc_llarge op k nn len cl t nm al W.all _ ?_
  have h := size_ok (Px.deep x)
  refine den_new fun m0 W1 _ x1 => den_call_q (fun _ _ => h x 300 _ W1 (Nat.le_refl _) (Nat.le_refl _) hw (hx.ext (ext_trans W.all_ext x1))) ⟨(Tx.sz x 300 : Int), rfl, fun W2 x2 => den_ret fun _ _ _ => ⟨_, rfl, ?_⟩⟩
  simp only [Sy.dens, Sy.den, E.i, E.b, E.t, gd, Env.push, List.cons_append, List.nil_append, List.append_nil, Int.toNat_natCast, Tx.large, leB]
  congr 2
  exact propext (by omega)
set_option maxRecDepth 100000 in
theorem back_q (x : Px.Ex) (vs : List Value) (l : Lx.Bs) (W : Wd) (hw : Tx.wide x = true) (hx : ExI W x vs) (hG : Glob W) (hT : Vs.Tabs W) :
    CallsQ Tryz.prog 4 #[.agg vs.toArray, .string ⟨l.toArray⟩] W (.bool true) := by
  obtain ⟨op, k, nn, t, nm, al, len, cl, rfl⟩ := hx.shape
  have w : ∀ V, Ext W.all V → Ext W V := fun V xV => ext_trans W.all_ext xV
  have hlz := ba_size l
  have ht := parse_thin l
  have hp := fun V h => parse_i' ⟨l.toArray⟩ V h
  simp only [show (⟨l.toArray⟩ : ByteArray).data.toList = l from by simp] at hp
  refine vc_lback op k nn len cl t nm ⟨l.toArray⟩ al W.all _ ?_
  refine den_new fun m0 W1 _ x1 => den_call_q (fun _ _ => works_q W1 (hG.ext (w _ x1)) (hT.ext (w _ x1))) ⟨true, rfl, fun W2 x2 => ?_⟩
  simp only [Env.push, List.cons_append, List.nil_append, List.append_nil]
  refine den_br (fun _ => ?_) fun c => (by exfalso; simp [Sy.dens, Sy.den, E.i, E.b, E.t, gd, Env.push, List.cons_append, List.nil_append, List.append_nil, Int.toNat_natCast] at c)
  have y2 := ext_trans x1 x2
  refine den_call_q (fun _ _ => large_q x _ W2 hw (hx.ext (w _ y2))) ⟨Tx.large x, rfl, fun W3 x3 => ?_⟩
  simp only [Env.push, List.cons_append, List.nil_append, List.append_nil]
  have y3 := ext_trans y2 x3
  refine den_br (fun c => den_call_q (fun _ _ => works_q W3 (hG.ext (w _ y3)) (hT.ext (w _ y3))) ⟨true, rfl, fun W4 x4 => den_ret fun _ _ _ => ⟨_, rfl, rfl⟩⟩) fun c => ?_
  have c1 : Tx.large x = false ∧ l.length ≤ 1000 := by
    simp only [Sy.dens, Sy.den, E.i, E.b, E.t, gd, Env.push, List.cons_append, List.nil_append, List.append_nil, Int.toNat_natCast, Bool.or_eq_false_iff, ltB_false] at c
    exact ⟨c.1, by omega⟩
  obtain ⟨hth, hdp⟩ := Tx.large_thin c1.1 hw
  refine den_call_q (fun _ _ => showT_q x _ W3 hth (hx.ext (w _ y3)) (hG.ext (w _ y3)) (hT.ext (w _ y3))) ⟨(Px.show' x).2, ⟨(Px.show' x).1.toArray⟩, rfl, fun W4 x4 => ?_⟩
  simp only [Env.push, List.cons_append, List.nil_append, List.append_nil]
  have y4 := ext_trans y3 x4
  have hx4 := hx.ext (w _ y4)
  refine den_br (fun c => ?_) fun c => ?_
  · have c : (Px.show' x).2 = 0 := by simpa [Sy.dens, Sy.den, E.i, E.b, E.t, gd, Env.push, List.cons_append, List.nil_append, List.append_nil, Int.toNat_natCast] using c
    obtain ⟨b1, b2, b3⟩ := show_back hth c
    refine den_call_q (fun _ _ => is_q (Px.show' x).1 x _ W4 hx4 (hG.ext (w _ y4))) ⟨Px.is_ (Px.show' x).1 x, rfl, fun W5 x5 => ?_⟩
    simp only [Env.push, List.cons_append, List.nil_append, List.append_nil]
    have hi := show_is b1 hth c
    have hz := ba_size (Px.show' x).1
    refine den_br (fun _ => ?_) fun c2 => ?_
    · have y5 := ext_trans y4 x5
      refine den_call_q (fun _ _ => mayT_q x _ W5 hth (hx.ext (w _ y5)) (hG.ext (w _ y5))) ⟨Px.may 16 x, rfl, fun W6 x6 => ?_⟩
      simp only [Env.push, List.cons_append, List.nil_append, List.append_nil]
      refine den_br (fun c3 => (by exfalso; simp [Sy.dens, Sy.den, E.i, E.b, E.t, gd, Env.push, List.cons_append, List.nil_append, List.append_nil, Int.toNat_natCast, c, b1] at c3)) fun _ => ?_
      have y6 := ext_trans y5 x6
      refine den_call_i (fun _ _ => hp W6 (hG.ext (w _ y6))) fun v w' _ ⟨op', k', n', t', nm', al', len', cl', hv, hX⟩ => ⟨op', k', n', (Px.parse l).2, len', cl', t', nm', al', hv, fun V1 e1 z1 n1 => ?_⟩
      have hX1 := ExAt.i hX e1 n1
      clear hX e1 n1 hv
      simp only [Env.push, List.cons_append, List.nil_append, List.append_nil]
      refine den_new fun _ V2 _ z2 => den_wr fun V3 z3 => ?_
      have hX3 := (hX1.ext z2).ext z3
      have yV := ext_trans (ext_trans (ext_trans y6 z1) z2) z3
      refine den_br (fun c => ?_) fun c => ?_
      · have c : (Px.parse l).2 ≠ 0 := by simpa [Sy.dens, Sy.den, E.i, E.b, E.t, gd, Env.push, List.cons_append, List.nil_append, List.append_nil, Int.toNat_natCast] using c
        obtain ⟨e1, e2⟩ := Px.parse_err c
        refine den_call_q (fun _ _ => same_q 100 _ Px.none_ _ _ V3 ht.2 ht.1 hX3 (zero_ex _ _)) ⟨Px.same (Px.parse l).1 Px.none_, rfl, fun V4 z4 => den_ret fun _ _ _ => ⟨_, rfl, ?_⟩⟩
        rw [e1, Px.same_refl]
        rcases e2 with e2 | e2 <;> simp [Sy.dens, Sy.den, E.i, E.b, E.t, gd, Env.push, List.cons_append, List.nil_append, List.append_nil, Int.toNat_natCast, e2]
      · have c : (Px.parse l).2 = 0 := by simpa [Sy.dens, Sy.den, E.i, E.b, E.t, gd, Env.push, List.cons_append, List.nil_append, List.append_nil, Int.toNat_natCast] using c
        have hm := Px.parse_may c
        refine den_call_q (fun _ _ => showT_q (Px.parse l).1 _ V3 ht.1 hX3 (hG.ext (w _ yV)) (hT.ext (w _ yV))) ⟨(Px.show' (Px.parse l).1).2, ⟨(Px.show' (Px.parse l).1).1.toArray⟩, rfl, fun V4 z4 => ?_⟩
        simp only [Env.push, List.cons_append, List.nil_append, List.append_nil]
        have yV4 := ext_trans yV z4
        refine den_call_q (fun _ _ => mayT_q (Px.parse l).1 _ V4 ht.1 (hX3.ext z4) (hG.ext (w _ yV4))) ⟨Px.may 16 (Px.parse l).1, rfl, fun V5 z5 => ?_⟩
        simp only [Env.push, List.cons_append, List.nil_append, List.append_nil]
        have yV5 := ext_trans yV4 z5
        rcases show_two hm with ⟨s1, s2⟩ | ⟨s1, s2⟩
        · refine den_br (fun _ => ?_) fun c2 => (by exfalso; simp [Sy.dens, Sy.den, E.i, E.b, E.t, gd, Env.push, List.cons_append, List.nil_append, List.append_nil, Int.toNat_natCast, hm, s1] at c2)
          refine den_call_q (fun _ _ => is_q (Px.show' (Px.parse l).1).1 (Px.parse l).1 _ V5 ((hX3.ext z4).ext z5) (hG.ext (w _ yV5))) ⟨Px.is_ (Px.show' (Px.parse l).1).1 (Px.parse l).1, rfl, fun V6 z6 => den_ret fun _ _ _ => ⟨_, rfl, ?_⟩⟩
          rw [show_is hm ht.1 s1]; rfl
        · refine den_br (fun c2 => (by exfalso; simp [Sy.dens, Sy.den, E.i, E.b, E.t, gd, Env.push, List.cons_append, List.nil_append, List.append_nil, Int.toNat_natCast, hm, s1] at c2)) fun _ => den_ret fun _ _ _ => ⟨_, rfl, ?_⟩
          simp [Sy.dens, Sy.den, E.i, E.b, E.t, gd, Env.push, List.cons_append, List.nil_append, List.append_nil, Int.toNat_natCast, hm, s1]
    · exfalso
      simp only [Sy.dens, Sy.den, E.i, E.b, E.t, gd, Env.push, List.cons_append, List.nil_append, List.append_nil, Int.toNat_natCast, hi, Bool.not_true, Bool.false_or, Bool.not_eq_false', ltB_true] at c2
      omega
  · have c : (Px.show' x).2 ≠ 0 := by simpa [Sy.dens, Sy.den, E.i, E.b, E.t, gd, Env.push, List.cons_append, List.nil_append, List.append_nil, Int.toNat_natCast] using c
    refine den_call_q (fun _ _ => mayT_q x _ W4 hth hx4 (hG.ext (w _ y4))) ⟨Px.may 16 x, rfl, fun W5 x5 => ?_⟩
    simp only [Env.push, List.cons_append, List.nil_append, List.append_nil]
    have y5 := ext_trans y4 x5
    have hno : ((((Px.show' x).2 == 4) == Px.may 16 x) || !((Px.show' x).1 == [])) = false := by
      cases hm : Px.may 16 x with
      | false => rw [show_no hm]; rfl
      | true =>
        rcases show_two hm with ⟨s1, s2⟩ | ⟨s1, s2⟩
        · exact absurd s1 c
        · rw [s1, s2]; rfl
    refine den_br (fun c3 => ?_) fun _ => ?_
    · exfalso
      simp only [Sy.dens, Sy.den, E.i, E.b, E.t, gd, Env.push, List.cons_append, List.nil_append, List.append_nil, Int.toNat_natCast, teq_ba] at c3
      have c3 : ((((Px.show' x).2 == 4) == Px.may 16 x) || !((Px.show' x).1 == [])) = true := c3
      rw [hno] at c3; cases c3
    · refine den_call_i (fun _ _ => hp W5 (hG.ext (w _ y5))) fun v w' _ ⟨op', k', n', t', nm', al', len', cl', hv, hX⟩ => ⟨op', k', n', (Px.parse l).2, len', cl', t', nm', al', hv, fun V1 e1 z1 n1 => ?_⟩
      have hX1 := ExAt.i hX e1 n1
      clear hX e1 n1 hv
      simp only [Env.push, List.cons_append, List.nil_append, List.append_nil]
      refine den_new fun _ V2 _ z2 => den_wr fun V3 z3 => ?_
      have hX3 := (hX1.ext z2).ext z3
      have yV := ext_trans (ext_trans (ext_trans y5 z1) z2) z3
      refine den_br (fun c => ?_) fun c => ?_
      · have c : (Px.parse l).2 ≠ 0 := by simpa [Sy.dens, Sy.den, E.i, E.b, E.t, gd, Env.push, List.cons_append, List.nil_append, List.append_nil, Int.toNat_natCast] using c
        obtain ⟨e1, e2⟩ := Px.parse_err c
        refine den_call_q (fun _ _ => same_q 100 _ Px.none_ _ _ V3 ht.2 ht.1 hX3 (zero_ex _ _)) ⟨Px.same (Px.parse l).1 Px.none_, rfl, fun V4 z4 => den_ret fun _ _ _ => ⟨_, rfl, ?_⟩⟩
        rw [e1, Px.same_refl]
        rcases e2 with e2 | e2 <;> simp [Sy.dens, Sy.den, E.i, E.b, E.t, gd, Env.push, List.cons_append, List.nil_append, List.append_nil, Int.toNat_natCast, e2]
      · have c : (Px.parse l).2 = 0 := by simpa [Sy.dens, Sy.den, E.i, E.b, E.t, gd, Env.push, List.cons_append, List.nil_append, List.append_nil, Int.toNat_natCast] using c
        have hm := Px.parse_may c
        refine den_call_q (fun _ _ => showT_q (Px.parse l).1 _ V3 ht.1 hX3 (hG.ext (w _ yV)) (hT.ext (w _ yV))) ⟨(Px.show' (Px.parse l).1).2, ⟨(Px.show' (Px.parse l).1).1.toArray⟩, rfl, fun V4 z4 => ?_⟩
        simp only [Env.push, List.cons_append, List.nil_append, List.append_nil]
        have yV4 := ext_trans yV z4
        refine den_call_q (fun _ _ => mayT_q (Px.parse l).1 _ V4 ht.1 (hX3.ext z4) (hG.ext (w _ yV4))) ⟨Px.may 16 (Px.parse l).1, rfl, fun V5 z5 => ?_⟩
        simp only [Env.push, List.cons_append, List.nil_append, List.append_nil]
        have yV5 := ext_trans yV4 z5
        rcases show_two hm with ⟨s1, s2⟩ | ⟨s1, s2⟩
        · refine den_br (fun _ => ?_) fun c2 => (by exfalso; simp [Sy.dens, Sy.den, E.i, E.b, E.t, gd, Env.push, List.cons_append, List.nil_append, List.append_nil, Int.toNat_natCast, hm, s1] at c2)
          refine den_call_q (fun _ _ => is_q (Px.show' (Px.parse l).1).1 (Px.parse l).1 _ V5 ((hX3.ext z4).ext z5) (hG.ext (w _ yV5))) ⟨Px.is_ (Px.show' (Px.parse l).1).1 (Px.parse l).1, rfl, fun V6 z6 => den_ret fun _ _ _ => ⟨_, rfl, ?_⟩⟩
          rw [show_is hm ht.1 s1]; rfl
        · refine den_br (fun c2 => (by exfalso; simp [Sy.dens, Sy.den, E.i, E.b, E.t, gd, Env.push, List.cons_append, List.nil_append, List.append_nil, Int.toNat_natCast, hm, s1] at c2)) fun _ => den_ret fun _ _ _ => ⟨_, rfl, ?_⟩
          simp [Sy.dens, Sy.den, E.i, E.b, E.t, gd, Env.push, List.cons_append, List.nil_append, List.append_nil, Int.toNat_natCast, hm, s1]
end Go.Proofs.YtckgdgkkmhochaaGreatDoor
