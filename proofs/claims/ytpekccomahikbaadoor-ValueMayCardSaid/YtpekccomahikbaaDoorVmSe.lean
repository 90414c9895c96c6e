/- The law ValueMay, off the walk that the kernel computes. -/
import Derived.Test.YtpekccomahikbaaDoorVdDig
import Derived.Test.YtpekccomahikbaaDoorVnWorks
import Derived.Test.YtpekccomahikbaaDoorVmPlain
namespace Go.Proofs.YtpekccomahikbaaDoor
open Go Go.RowKit Go.SE
set_option linter.unusedSimpArgs false
set_option linter.unusedVariables false

set_option maxRecDepth 100000 in
theorem two_far (op ak an bk bn : Int) (at_ bt : ByteArray) (h : op < 5 ∨ 15 < op) (W : Wd) :
    CallsQ Tryd.prog 25 #[.int .u8 op, .agg #[.int .u8 ak, .int .i64 an, .string at_], .agg #[.int .u8 bk, .int .i64 bn, .string bt]] W (vT (Va.two op ⟨ak, an, at_⟩ ⟨bk, bn, bt⟩)) :=
  .of_i (by
    refine vc_two op ak an bk bn at_ bt W _ ?_
    have e : Va.two op ⟨ak, an, at_⟩ ⟨bk, bn, bt⟩ = (Va.none, 4) := by unfold Va.two; rw [if_pos h]
    rw [e]
    refine den_new fun _ _ _ => den_new fun _ _ _ => den_new fun _ _ _ => ?_
    repeat (with_reducible refine den_br_f (by simp only [Sy.dens, Sy.den, E.i, E.b, E.t, gd, Env.push, List.cons_append, List.nil_append, List.append_nil, Int.toNat_natCast]; rw [beq_eq_false_iff_ne]; omega) ?_)
    repeat' (first | (with_reducible refine den_br (fun _ => ?_) (fun _ => ?_)) | (with_reducible refine den_new fun _ _ _ => ?_) | (with_reducible refine den_wr fun _ _ => ?_) | (with_reducible refine den_grow fun _ _ => ?_) | (with_reducible refine den_ret fun _ _ _ _ _ => ?_))
    all_goals rfl)
theorem two_q (op ak an bk bn : Int) (at_ bt : ByteArray) (ha : Va.Fit an) (hb : Va.Fit bn) (W : Wd) :
    CallsQ Tryd.prog 25 #[.int .u8 op, .agg #[.int .u8 ak, .int .i64 an, .string at_], .agg #[.int .u8 bk, .int .i64 bn, .string bt]] W (vT (Va.two op ⟨ak, an, at_⟩ ⟨bk, bn, bt⟩)) := by
  by_cases h : op < 5 ∨ 15 < op
  · exact two_far op ak an bk bn at_ bt h W
  · have : op = 5 ∨ op = 6 ∨ op = 7 ∨ op = 8 ∨ op = 9 ∨ op = 10 ∨ op = 11 ∨ op = 12 ∨ op = 13 ∨ op = 14 ∨ op = 15 := by omega
    rcases this with rfl | rfl | rfl | rfl | rfl | rfl | rfl | rfl | rfl | rfl | rfl
    · exact two5_q ak an bk bn at_ bt ha hb W
    · exact two6_q ak an bk bn at_ bt ha hb W
    · exact two7_q ak an bk bn at_ bt ha hb W
    · exact two8_q ak an bk bn at_ bt ha hb W
    · exact two9_q ak an bk bn at_ bt ha hb W
    · exact two10_q ak an bk bn at_ bt ha hb W
    · exact two11_q ak an bk bn at_ bt ha hb W
    · exact two12_q ak an bk bn at_ bt ha hb W
    · exact two13_q ak an bk bn at_ bt ha hb W
    · exact two14_q ak an bk bn at_ bt ha hb W
    · exact two15_q ak an bk bn at_ bt ha hb W
theorem beq_self' (x : Int) : (x == x) = true := by simp
theorem u8_next (k : Int) (h : 0 ≤ k ∧ k ≤ 255) : (k == IntKind.u8.wrap (k + 1)) = false := by
  rw [beq_eq_false_iff_ne]
  simp only [IntKind.wrap, IntKind.bits, IntKind.signed] at *
  simp
  omega
theorem two_size (op ak an bk bn : Int) (at_ bt : ByteArray) (ha : at_.size ≤ 2000) (hb : bt.size ≤ 2000) : (Va.two op ⟨ak, an, at_⟩ ⟨bk, bn, bt⟩).1.t.size ≤ 9223372036854775807 := by
  have h0 : (⟨#[]⟩ : ByteArray).size = 0 := rfl
  unfold Va.two
  repeat' split
  all_goals try simp only [Va.none, Va.truth, h0]; try omega
  · unfold Va.sum
    split
    · simp only [Va.none, h0]; omega
    · simp only [Va.text, Va.app_size]; omega
  · unfold Va.numbers Va.told
    repeat' split
    all_goals simp only [Va.none, Va.num, h0]; omega
theorem one_size (op k n : Int) (t : ByteArray) : (Va.one op ⟨k, n, t⟩).1.t.size ≤ 9223372036854775807 := by
  have h0 : (⟨#[]⟩ : ByteArray).size = 0 := rfl
  unfold Va.one Va.told
  repeat' split
  all_goals simp only [Va.none, Va.num, Va.truth, h0]; omega
theorem valueMay_q (op ak an : Int) (at_ : ByteArray) (bk bn : Int) (bt : ByteArray) (hak : 0 ≤ ak ∧ ak ≤ 255) (ha : Va.Fit an) (hb : Va.Fit bn) (hta : at_.size ≤ 9223372036854775807) (htb : bt.size ≤ 9223372036854775807) (W : Wd) (hT : Tabs W) :
    CallsQ Tryd.prog 5 #[.int .u8 op, .agg #[.int .u8 ak, .int .i64 an, .string at_], .agg #[.int .u8 bk, .int .i64 bn, .string bt]] W (.bool true) :=
  .of_i (by
    refine vc_valueMay op ak an bk bn at_ bt W _ ?_
    have h1 := two_q op ak an bk bn at_ bt ha hb
    have h2 := one_q op ak an at_ ha
    have k1 := Va.two_kind op ⟨ak, an, at_⟩ ⟨bk, bn, bt⟩
    have k2 := Va.one_kind op ⟨ak, an, at_⟩
    have m1 := @Va.may_two op ⟨ak, an, at_⟩ ⟨bk, bn, bt⟩
    have m2 := Va.may_one op ⟨ak, an, at_⟩
    have s1 := two_size op ak an bk bn at_ bt
    have s2 := one_size op ak an at_
    have hsi := @Va.shown_iff ⟨ak, an, at_⟩ ⟨bk, bn, bt⟩
    generalize Va.two op ⟨ak, an, at_⟩ ⟨bk, bn, bt⟩ = r at *
    generalize Va.one op ⟨ak, an, at_⟩ = q at *
    obtain ⟨⟨xk, xn, xt⟩, xe⟩ := r
    obtain ⟨⟨yk, yn, yt⟩, ye⟩ := q
    refine den_new fun m W1 x1 => den_new fun m W2 x2 => den_call fun _ => .of_q (works_q _) fun W3 x3 => ⟨true, rfl, ?_⟩
    have x03 : Ext W W3 := (x1.trans x2).trans x3
    simp only [Env.push, List.cons_append, List.nil_append, List.append_nil]
    refine den_br (fun _ => den_call fun _ => .of_q (works_q _) fun W' x => ⟨true, rfl, den_ret fun _ _ _ _ _ => rfl⟩) fun c => ?_
    simp [E.b, E.i, E.t, gd, ltB] at c
    have za : at_.size ≤ 2000 := by have := of_decide_eq_false c.1; omega
    have zb : bt.size ≤ 2000 := by have := of_decide_eq_false c.2; omega
    refine den_call fun _ => .of_q (h1 _) fun W4 x4 => ⟨xk, xn, xe, xt, rfl, ?_⟩
    simp only [Env.push, List.cons_append, List.nil_append, List.append_nil]
    refine den_new fun m W5 x5 => den_wr fun W6 x6 => den_call fun _ => .of_q (h2 _) fun W7 x7 => ⟨yk, yn, ye, yt, rfl, ?_⟩
    simp only [Env.push, List.cons_append, List.nil_append, List.append_nil]
    have x07 : Ext W W7 := (((x03.trans x4).trans x5).trans x6).trans x7
    refine den_new fun m W8 x8 => den_wr fun W9 x9 => den_br_f ?_ ?_
    · simp only [Sy.dens, Sy.den, E.i, E.b, E.t, gd, Env.push, List.cons_append, List.nil_append, List.append_nil, Int.toNat_natCast]
      rcases k1 with ⟨e1, _⟩ | ⟨_, e1⟩ <;> rcases k2 with e2 | ⟨_, e2⟩ <;> simp_all [Va.none]
    have x09 : Ext W W9 := (x07.trans x8).trans x9
    refine den_call fun _ => .of_q (may_q ak an at_ hta W9) fun W10 x10 => ⟨Va.may ⟨ak, an, at_⟩, rfl, den_br (fun ca => ?_) fun _ => den_ret fun _ _ _ _ _ => rfl⟩
    replace ca : Va.may ⟨ak, an, at_⟩ = true := ca
    simp only [Env.push, List.cons_append, List.nil_append, List.append_nil]
    refine den_call fun _ => .of_q (may_q bk bn bt htb W10) fun W11 x11 => ⟨Va.may ⟨bk, bn, bt⟩, rfl, den_br (fun _ => den_ret fun _ _ _ _ _ => rfl) fun cb => ?_⟩
    replace cb : Va.may ⟨bk, bn, bt⟩ = true := by simpa [E.b, gd, Env.push] using cb
    simp only [Env.push, List.cons_append, List.nil_append, List.append_nil]
    have x011 : Ext W W11 := (x09.trans x10).trans x11
    refine den_callq ⟨true, fun W' x _ => ?_, ?_⟩
    · have := may_q xk xn xt (s1 za zb) W'
      rw [m1 ca cb] at this
      exact this
    simp only [Env.push, List.cons_append, List.nil_append, List.append_nil]
    refine den_br_t rfl (den_callq ⟨true, fun W' x _ => ?_, ?_⟩)
    · have := may_q yk yn yt s2 W'
      rw [m2] at this
      exact this
    simp only [Env.push, List.cons_append, List.nil_append, List.append_nil]
    refine den_br_t ?_ ?_
    · simp only [Sy.dens, Sy.den, E.i, E.b, E.t, gd, Env.push, List.cons_append, List.nil_append, List.append_nil, Int.toNat_natCast]
      rcases k1 with ⟨e1, e2⟩ | ⟨e1, _⟩ <;> simp_all
    refine den_callq ⟨Va.shown ⟨ak, an, at_⟩, fun W' x _ => show_q ak an at_ ha za W' (hT.ext (x011.trans x)), ?_⟩
    refine den_callq ⟨Va.shown ⟨bk, bn, bt⟩, fun W' x _ => show_q bk bn bt hb zb W' (hT.ext (x011.trans x)), ?_⟩
    simp only [Env.push, List.cons_append, List.nil_append, List.append_nil]
    refine den_br_t ?_ ?_
    · simp only [Sy.dens, Sy.den, E.i, E.b, E.t, gd, Env.push, List.cons_append, List.nil_append, List.append_nil, Int.toNat_natCast]
      rw [hsi ca cb]
      simp [Va.eqV]
    refine den_callq ⟨true, fun W' x _ => ?_, ?_⟩
    · have := vis_q ak an at_ ak hta W'
      rw [ca, beq_self'] at this
      exact this
    simp only [Env.push, List.cons_append, List.nil_append, List.append_nil]
    refine den_br_t rfl (den_callq ⟨false, fun W' x _ => ?_, ?_⟩)
    · have := vis_q ak an at_ (IntKind.u8.wrap (ak + 1)) hta W'
      rw [u8_next ak hak, Bool.false_and] at this
      exact this
    exact den_grow fun _ _ => den_ret fun _ _ _ _ _ => rfl)
end Go.Proofs.YtpekccomahikbaaDoor
