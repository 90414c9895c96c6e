/- The walk of ValueOrder (written by wip/gen_order.py). -/
import Derived.Test.YtpekccomahikbaaVaBox
import Derived.Test.YtpekccomahikbaaVaOrdPlain
import Derived.Deep.DeepCutAuto
import Derived.Deep.QuietTactic
import Derived.Test.YtpekccomahikbaaValueOrderW1
import Derived.Test.YtpekccomahikbaaValueOrderW2
import Derived.Test.YtpekccomahikbaaValueOrderW3
import Derived.Test.YtpekccomahikbaaValueOrderW4
import Derived.Test.YtpekccomahikbaaValueOrderL
namespace Go.Proofs.Ytpekccomahikbaa
open Go.RowKit Go.Own Go.Sort

set_option maxRecDepth 100000 in
set_option maxHeartbeats 6400000 in
theorem i64_fit' {a : Int} (h : (Lit.int .i64 a).wf = true) : Va.Fit a := i64_of_wf h

theorem valueOrder_walk (ak an : Int) (at_ : ByteArray) (bk bn : Int) (bt : ByteArray) (ck cn : Int) (ct : ByteArray) (w : World)
    (_wk0 : (Lit.int .u8 ak).wf = true) (wn0 : (Lit.int .i64 an).wf = true) (wt0 : at_.size ≤ maxLen) (_wk1 : (Lit.int .u8 bk).wf = true) (wn1 : (Lit.int .i64 bn).wf = true) (wt1 : bt.size ≤ maxLen) (_wk2 : (Lit.int .u8 ck).wf = true) (wn2 : (Lit.int .i64 cn).wf = true) (wt2 : ct.size ≤ maxLen) :
    Calls Try.prog 5 #[.agg #[.int .u8 ak, .int .i64 an, .string at_], .agg #[.int .u8 bk, .int .i64 bn, .string bt], .agg #[.int .u8 ck, .int .i64 cn, .string ct]] w fun e w' => e = .returned (.bool true) ∧ Up w w' := by
  by_cases hl : (2000 : Int) < at_.size ∨ (2000 : Int) < bt.size ∨ (2000 : Int) < ct.size
  · exact order_long ak an bk bn ck cn at_ bt ct w wt0 wt1 wt2 hl
  have f0 := i64_fit' wn0
  have f1 := i64_fit' wn1
  have f2 := i64_fit' wn2
  have s0 : at_.size ≤ 2000 := by omega
  have s1 : bt.size ≤ 2000 := by omega
  have s2 : ct.size ≤ 2000 := by omega
  by_cases hk : ak = bk ∧ (ak = 1 ∨ ak = 3)
  · obtain ⟨rfl, h13⟩ := hk
    have hp := fun w => two_any 9 ak bn ck cn bt ct w f1 f2 wt1 wt2
    have hq := fun w => two_any 9 ak an ck cn at_ ct w f0 f2 wt0 wt2
    have hfin : ∀ x : Bool, (x = true → Va.cmp ⟨ak, an, at_⟩ ⟨ak, bn, bt⟩ < 0) → (Va.two 9 ⟨ak, bn, bt⟩ ⟨ck, cn, ct⟩).2 = 23 ∨ ((Va.two 9 ⟨ak, bn, bt⟩ ⟨ck, cn, ct⟩).2 = 0 ∧ (Va.two 9 ⟨ak, bn, bt⟩ ⟨ck, cn, ct⟩).1.k = 2 ∧ (Va.two 9 ⟨ak, bn, bt⟩ ⟨ck, cn, ct⟩).1.t = ⟨#[]⟩ ∧ (Va.two 9 ⟨ak, an, at_⟩ ⟨ck, cn, ct⟩).1.k = 2 ∧ (Va.two 9 ⟨ak, an, at_⟩ ⟨ck, cn, ct⟩).1.t = ⟨#[]⟩ ∧ ((Va.two 9 ⟨ak, bn, bt⟩ ⟨ck, cn, ct⟩).1.n = 0 ∨ (Va.two 9 ⟨ak, bn, bt⟩ ⟨ck, cn, ct⟩).1.n = 1) ∧ ((Va.two 9 ⟨ak, an, at_⟩ ⟨ck, cn, ct⟩).1.n = 0 ∨ (Va.two 9 ⟨ak, an, at_⟩ ⟨ck, cn, ct⟩).1.n = 1) ∧ (x = true → (Va.two 9 ⟨ak, bn, bt⟩ ⟨ck, cn, ct⟩).1.n = 1 → (Va.two 9 ⟨ak, an, at_⟩ ⟨ck, cn, ct⟩).1.n = 1)) := by
      intro x hx
      by_cases hc : ak = ck
      · subst hc
        right
        rw [Va.two_less ⟨ak, bn, bt⟩ ⟨ak, cn, ct⟩ rfl h13, Va.two_less ⟨ak, an, at_⟩ ⟨ak, cn, ct⟩ rfl h13]
        refine ⟨rfl, rfl, rfl, rfl, rfl, Va.truth_n _, Va.truth_n _, fun h1 h2 => ?_⟩
        have hb : Va.cmp ⟨ak, bn, bt⟩ ⟨ak, cn, ct⟩ < 0 := by
          by_cases c : Va.cmp ⟨ak, bn, bt⟩ ⟨ak, cn, ct⟩ < 0
          · exact c
          · simp [Va.truth, c] at h2
        have := Va.cmp_trans ⟨ak, an, at_⟩ ⟨ak, bn, bt⟩ ⟨ak, cn, ct⟩ rfl (hx h1) hb
        simp [Va.truth, this]
      · left
        rw [Va.two_unlike ⟨ak, bn, bt⟩ ⟨ck, cn, ct⟩ (fun h => hc h.1)]
    have e9 := Va.two_less ⟨ak, an, at_⟩ ⟨ak, bn, bt⟩ rfl h13
    have e9' := Va.two_less ⟨ak, bn, bt⟩ ⟨ak, an, at_⟩ rfl h13
    have e10 := Va.two_leq ⟨ak, an, at_⟩ ⟨ak, bn, bt⟩ rfl h13
    have e11 := Va.two_eq ⟨ak, an, at_⟩ ⟨ak, bn, bt⟩ rfl h13
    have e12 := Va.two_ne ⟨ak, an, at_⟩ ⟨ak, bn, bt⟩ rfl h13
    have esw := Va.cmp_swap ⟨ak, an, at_⟩ ⟨ak, bn, bt⟩ rfl
    rcases Int.lt_trichotomy (Va.cmp ⟨ak, an, at_⟩ ⟨ak, bn, bt⟩) 0 with hc | hc | hc
    · rw [show decide (Va.cmp ⟨ak, an, at_⟩ ⟨ak, bn, bt⟩ < 0) = true from decide_eq_true hc] at e9
      rw [show decide (Va.cmp ⟨ak, bn, bt⟩ ⟨ak, an, at_⟩ < 0) = false from decide_eq_false (by omega)] at e9'
      rw [show decide (Va.cmp ⟨ak, an, at_⟩ ⟨ak, bn, bt⟩ ≤ 0) = true from decide_eq_true (by omega)] at e10
      rw [show (Va.cmp ⟨ak, an, at_⟩ ⟨ak, bn, bt⟩ == 0) = false from beq_eq_false_iff_ne.2 (by omega)] at e11 e12
      have hf := hfin true (fun _ => hc)
      simp only [true_implies] at hf
      exact order_lt ak an ak bn ck cn at_ bt ct w s0 s1 s2 _ _ _ _ _ _ _ _ (two_is _ _ _ _ _ _ _ _ _ _ _ e9 f0 f1 wt0 wt1) (two_is _ _ _ _ _ _ _ _ _ _ _ e9' f1 f0 wt1 wt0) (two_is _ _ _ _ _ _ _ _ _ _ _ e11 f0 f1 wt0 wt1) (two_is _ _ _ _ _ _ _ _ _ _ _ e10 f0 f1 wt0 wt1) (two_is _ _ _ _ _ _ _ _ _ _ _ e12 f0 f1 wt0 wt1) hp hq hf
    · rw [show decide (Va.cmp ⟨ak, an, at_⟩ ⟨ak, bn, bt⟩ < 0) = false from decide_eq_false (by omega)] at e9
      rw [show decide (Va.cmp ⟨ak, bn, bt⟩ ⟨ak, an, at_⟩ < 0) = false from decide_eq_false (by omega)] at e9'
      rw [show decide (Va.cmp ⟨ak, an, at_⟩ ⟨ak, bn, bt⟩ ≤ 0) = true from decide_eq_true (by omega)] at e10
      rw [show (Va.cmp ⟨ak, an, at_⟩ ⟨ak, bn, bt⟩ == 0) = true from beq_iff_eq.2 hc] at e11 e12
      have hf := hfin false (by simp)
      simp only [Bool.false_eq_true, false_implies, and_true] at hf
      exact order_eq ak an ak bn ck cn at_ bt ct w s0 s1 s2 _ _ _ _ _ _ _ _ (two_is _ _ _ _ _ _ _ _ _ _ _ e9 f0 f1 wt0 wt1) (two_is _ _ _ _ _ _ _ _ _ _ _ e9' f1 f0 wt1 wt0) (two_is _ _ _ _ _ _ _ _ _ _ _ e11 f0 f1 wt0 wt1) (two_is _ _ _ _ _ _ _ _ _ _ _ e10 f0 f1 wt0 wt1) (two_is _ _ _ _ _ _ _ _ _ _ _ e12 f0 f1 wt0 wt1) hp hq hf
    · rw [show decide (Va.cmp ⟨ak, an, at_⟩ ⟨ak, bn, bt⟩ < 0) = false from decide_eq_false (by omega)] at e9
      rw [show decide (Va.cmp ⟨ak, bn, bt⟩ ⟨ak, an, at_⟩ < 0) = true from decide_eq_true (by omega)] at e9'
      rw [show decide (Va.cmp ⟨ak, an, at_⟩ ⟨ak, bn, bt⟩ ≤ 0) = false from decide_eq_false (by omega)] at e10
      rw [show (Va.cmp ⟨ak, an, at_⟩ ⟨ak, bn, bt⟩ == 0) = false from beq_eq_false_iff_ne.2 (by omega)] at e11 e12
      have hf := hfin false (by simp)
      simp only [Bool.false_eq_true, false_implies, and_true] at hf
      exact order_gt ak an ak bn ck cn at_ bt ct w s0 s1 s2 _ _ _ _ _ _ _ _ (two_is _ _ _ _ _ _ _ _ _ _ _ e9 f0 f1 wt0 wt1) (two_is _ _ _ _ _ _ _ _ _ _ _ e9' f1 f0 wt1 wt0) (two_is _ _ _ _ _ _ _ _ _ _ _ e11 f0 f1 wt0 wt1) (two_is _ _ _ _ _ _ _ _ _ _ _ e10 f0 f1 wt0 wt1) (two_is _ _ _ _ _ _ _ _ _ _ _ e12 f0 f1 wt0 wt1) hp hq hf
  · have hk' : ¬ (bk = ak ∧ (bk = 1 ∨ bk = 3)) := fun h => hk ⟨h.1.symm, by rcases h.2 with c | c <;> omega⟩
    exact order_unlike ak an bk bn ck cn at_ bt ct w s0 s1 s2 _ _ _ _ (two_is _ _ _ _ _ _ _ _ _ _ _ (Va.two_unlike ⟨ak, an, at_⟩ ⟨bk, bn, bt⟩ hk) f0 f1 wt0 wt1) (two_is _ _ _ _ _ _ _ _ _ _ _ (Va.two_unlike ⟨bk, bn, bt⟩ ⟨ak, an, at_⟩ hk') f1 f0 wt1 wt0) (fun w => two_any 11 ak an bk bn at_ bt w f0 f1 wt0 wt1)

end Go.Proofs.Ytpekccomahikbaa
