/- The walk of ValueTruths. -/
import Derived.Test.YtpekccomahikbaaVaLaws
import Derived.Test.YtpekccomahikbaaVaOne
import Derived.Deep.DeepCutAuto
import Derived.Lib.QuietBelow
import Derived.BigQuiet
namespace Go.Proofs.Ytpekccomahikbaa
open Go.RowKit Go.Own Go.Sort

def bn (b : Bool) : Int := if b then 1 else 0
theorem bn_ne (b : Bool) : (bn b != 0) = b := by cases b <;> rfl

theorem not_clo (p : Bool) (w : World) :
    Calls Try.prog 14 #[.agg #[.int .u8 2, .int .i64 (bn p), .string ⟨#[]⟩]] w fun e w' => e = .returned (.agg #[.int .u8 2, .int .i64 (bn (!p)), .string ⟨#[]⟩]) ∧ Up w w' := by
  have hm := Lib.hid (fun w => one_ok_4 (bn p) ⟨#[]⟩ w)
  rw [bn_ne] at hm
  change Hid (∀ w, Calls Try.prog 15 _ w fun e w' => e = .returned (.tuple #[.agg #[.int .u8 2, .int .i64 (bn (!p)), .string ⟨#[]⟩], .int .i64 0]) ∧ Up w w') at hm
  generalize bn p = n at hm ⊢
  generalize bn (!p) = m at hm ⊢
  go_enter Try.func14, Try.ntmps14
  go_wp2_with fail
  refine (hm.out _).mono ?_; rintro e w1 ⟨rfl, u1⟩
  have hc1 := u1.cells
  have hz1 := u1.size
  simp at hz1
  have hl : w.heap.size + 1 < w1.heap.size := by omega
  go_wp2_with fail
  exact bodyPost_ret (v := .agg #[.int .u8 2, .int .i64 m, .string ⟨#[]⟩]) (by simp [results, Try.results14, go_sem, hc1, hl]) rfl ⟨rfl, by (repeat (first | exact Up.refl _ | assumption | refine Up.drew ?_ | refine Up.drewN ?_ _ | refine Up.alloc ?_ _ | refine Up.setCell ?_ (by simp <;> omega) _ | refine Up.trans ?_ (by assumption)))⟩

theorem two_clo (op : Int) (p q r : Bool) (w : World) (h : Va.two op ⟨2, bn p, ⟨#[]⟩⟩ ⟨2, bn q, ⟨#[]⟩⟩ = (⟨2, bn r, ⟨#[]⟩⟩, 0)) :
    Calls Try.prog 16 #[.int .u8 op, .agg #[.int .u8 2, .int .i64 (bn p), .string ⟨#[]⟩], .agg #[.int .u8 2, .int .i64 (bn q), .string ⟨#[]⟩]] w fun e w' => e = .returned (.agg #[.int .u8 2, .int .i64 (bn r), .string ⟨#[]⟩]) ∧ Up w w' := by
  have hm := Lib.hid (two_is op 2 (bn p) 2 (bn q) ⟨#[]⟩ ⟨#[]⟩ 2 (bn r) ⟨#[]⟩ 0 h (by cases p <;> exact fit_lit rfl) (by cases q <;> exact fit_lit rfl) (by decide) (by decide))
  clear h
  generalize bn p = n at hm ⊢
  generalize bn q = m at hm ⊢
  generalize bn r = k at hm ⊢
  go_enter Try.func16, Try.ntmps16
  go_wp2_with fail
  refine (hm.out _).mono ?_; rintro e w1 ⟨rfl, u1⟩
  have hc1 := u1.cells
  have hz1 := u1.size
  simp at hz1
  have hl : w.heap.size + 1 + 1 < w1.heap.size := by omega
  go_wp2_with fail
  exact bodyPost_ret (v := .agg #[.int .u8 2, .int .i64 k, .string ⟨#[]⟩]) (by simp [results, Try.results16, go_sem, hc1, hl]) rfl ⟨rfl, by (repeat (first | exact Up.refl _ | assumption | refine Up.drew ?_ | refine Up.drewN ?_ _ | refine Up.alloc ?_ _ | refine Up.setCell ?_ (by simp <;> omega) _ | refine Up.trans ?_ (by assumption)))⟩

theorem truth_bn (b : Bool) (w : World) :
    Calls Try.prog 13 #[.bool b] w fun e w' => e = .returned (.agg #[.int .u8 2, .int .i64 (bn b), .string ⟨#[]⟩]) ∧ Up w w' := truth_any b w
theorem yes_bn (b : Bool) (w : World) :
    Calls Try.prog 12 #[.agg #[.int .u8 2, .int .i64 (bn b), .string ⟨#[]⟩]] w fun e w' => e = .returned (.bool b) ∧ Up w w' := by
  have := yes_any 2 (bn b) ⟨#[]⟩ w
  rwa [bn_ne] at this


set_option maxRecDepth 100000 in
set_option maxHeartbeats 4000000 in
theorem valueTruths_walk (p q : Bool) (w : World) : Calls Try.prog 6 #[.bool p, .bool q] w fun e w' => e = .returned (.bool true) ∧ Up w w' := by
  go_enter Try.func6, Try.ntmps6
  go_upto_region 1 with fail
  go_cut [5, 6] (fun s5 s6 wx => ∃ A5 A6, s5 = .pointer (some ⟨A5, 0, none⟩) ∧ s6 = .pointer (some ⟨A6, 0, none⟩) ∧ Box3 A5 (.int .u8 2) (.int .i64 (bn p)) (.string ⟨#[]⟩) wx ∧ Box3 A6 (.int .u8 2) (.int .i64 (bn q)) (.string ⟨#[]⟩) wx ∧ Up w wx)
  case first =>
    go_wp2_with fail
    refine (truth_bn p _).mono ?_; rintro e w1 ⟨rfl, u1⟩
    go_wp2_with fail
    refine (truth_bn q _).mono ?_; rintro e w2 ⟨rfl, u2⟩
    go_wp2_with fail
    go_meet
    exact ⟨_, _, rfl, rfl, (Box3.new _ _ _ w2 23).up (by (repeat (first | exact Up.refl _ | assumption | refine Up.drew ?_ | refine Up.drewN ?_ _ | refine Up.alloc ?_ _ | refine Up.setCell ?_ (by simp <;> omega) _ | refine Up.trans ?_ (by assumption)))), by have := Box3.new (.int .u8 2) (.int .i64 (bn q)) (.string ⟨#[]⟩) (w2.alloc (.cells #[.int .u8 2, .int .i64 (bn p), .string ⟨#[]⟩] 23)) 23; simpa using this, by (repeat (first | exact Up.refl _ | assumption | refine Up.drew ?_ | refine Up.drewN ?_ _ | refine Up.alloc ?_ _ | refine Up.setCell ?_ (by simp <;> omega) _ | refine Up.trans ?_ (by assumption)))⟩
  case rest =>
    obtain ⟨A5, A6, rfl, rfl, b5, b6, u⟩ := hcut
    go_upto_region 4 with fail
    obtain ⟨l5, p5, q5, r5⟩ := b5
    obtain ⟨l6, p6, q6, r6⟩ := b6
    have kp5 := cell_regrown p5
    have kq5 := cell_regrown q5
    have kr5 := cell_regrown r5
    have kp6 := cell_regrown p6
    have kq6 := cell_regrown q6
    have kr6 := cell_regrown r6
    have g0 : ∀ d os, Calls Try.prog 10 #[] (grow (redrawn wc d) os) fun e w'' => e = .returned (.bool true) ∧ ∃ p : Regrown, w'' = grow (redrawn wc p.d) p.os := fun d os => Calls.regrown_of (works_any _)
    have g1 : ∀ d os, Calls Try.prog 14 #[.agg #[.int .u8 2, .int .i64 (bn p), .string ⟨#[]⟩]] (grow (redrawn wc d) os) fun e w'' => e = .returned (.agg #[.int .u8 2, .int .i64 (bn (!p)), .string ⟨#[]⟩]) ∧ ∃ p : Regrown, w'' = grow (redrawn wc p.d) p.os := fun d os => Calls.regrown_of (not_clo p _)
    have g2 : ∀ d os, Calls Try.prog 14 #[.agg #[.int .u8 2, .int .i64 (bn (!p)), .string ⟨#[]⟩]] (grow (redrawn wc d) os) fun e w'' => e = .returned (.agg #[.int .u8 2, .int .i64 (bn p), .string ⟨#[]⟩]) ∧ ∃ p : Regrown, w'' = grow (redrawn wc p.d) p.os := fun d os => Calls.regrown_of ((by have := not_clo (!p) (grow (redrawn wc d) os); rwa [Bool.not_not] at this))
    have g3 : ∀ d os, Calls Try.prog 14 #[.agg #[.int .u8 2, .int .i64 (bn q), .string ⟨#[]⟩]] (grow (redrawn wc d) os) fun e w'' => e = .returned (.agg #[.int .u8 2, .int .i64 (bn (!q)), .string ⟨#[]⟩]) ∧ ∃ p : Regrown, w'' = grow (redrawn wc p.d) p.os := fun d os => Calls.regrown_of (not_clo q _)
    have g4 : ∀ d os, Calls Try.prog 12 #[.agg #[.int .u8 2, .int .i64 (bn p), .string ⟨#[]⟩]] (grow (redrawn wc d) os) fun e w'' => e = .returned (.bool p) ∧ ∃ p : Regrown, w'' = grow (redrawn wc p.d) p.os := fun d os => Calls.regrown_of (yes_bn p _)
    have g5 : ∀ d os, Calls Try.prog 12 #[.agg #[.int .u8 2, .int .i64 (bn (!p)), .string ⟨#[]⟩]] (grow (redrawn wc d) os) fun e w'' => e = .returned (.bool (!p)) ∧ ∃ p : Regrown, w'' = grow (redrawn wc p.d) p.os := fun d os => Calls.regrown_of (yes_bn (!p) _)
    have g6 : ∀ d os, Calls Try.prog 16 #[.int .u8 13, .agg #[.int .u8 2, .int .i64 (bn p), .string ⟨#[]⟩], .agg #[.int .u8 2, .int .i64 (bn q), .string ⟨#[]⟩]] (grow (redrawn wc d) os) fun e w'' => e = .returned (.agg #[.int .u8 2, .int .i64 (bn (p && q)), .string ⟨#[]⟩]) ∧ ∃ p : Regrown, w'' = grow (redrawn wc p.d) p.os := fun d os => Calls.regrown_of (two_clo 13 p q (p && q) _ (by cases p <;> cases q <;> kernel_rfl))
    have g7 : ∀ d os, Calls Try.prog 16 #[.int .u8 13, .agg #[.int .u8 2, .int .i64 (bn q), .string ⟨#[]⟩], .agg #[.int .u8 2, .int .i64 (bn p), .string ⟨#[]⟩]] (grow (redrawn wc d) os) fun e w'' => e = .returned (.agg #[.int .u8 2, .int .i64 (bn (p && q)), .string ⟨#[]⟩]) ∧ ∃ p : Regrown, w'' = grow (redrawn wc p.d) p.os := fun d os => Calls.regrown_of (two_clo 13 q p (p && q) _ (by cases p <;> cases q <;> kernel_rfl))
    have g8 : ∀ d os, Calls Try.prog 16 #[.int .u8 14, .agg #[.int .u8 2, .int .i64 (bn p), .string ⟨#[]⟩], .agg #[.int .u8 2, .int .i64 (bn q), .string ⟨#[]⟩]] (grow (redrawn wc d) os) fun e w'' => e = .returned (.agg #[.int .u8 2, .int .i64 (bn (p || q)), .string ⟨#[]⟩]) ∧ ∃ p : Regrown, w'' = grow (redrawn wc p.d) p.os := fun d os => Calls.regrown_of (two_clo 14 p q (p || q) _ (by cases p <;> cases q <;> kernel_rfl))
    have g9 : ∀ d os, Calls Try.prog 16 #[.int .u8 14, .agg #[.int .u8 2, .int .i64 (bn q), .string ⟨#[]⟩], .agg #[.int .u8 2, .int .i64 (bn p), .string ⟨#[]⟩]] (grow (redrawn wc d) os) fun e w'' => e = .returned (.agg #[.int .u8 2, .int .i64 (bn (p || q)), .string ⟨#[]⟩]) ∧ ∃ p : Regrown, w'' = grow (redrawn wc p.d) p.os := fun d os => Calls.regrown_of (two_clo 14 q p (p || q) _ (by cases p <;> cases q <;> kernel_rfl))
    have g10 : ∀ d os, Calls Try.prog 14 #[.agg #[.int .u8 2, .int .i64 (bn (p && q)), .string ⟨#[]⟩]] (grow (redrawn wc d) os) fun e w'' => e = .returned (.agg #[.int .u8 2, .int .i64 (bn (!(p && q))), .string ⟨#[]⟩]) ∧ ∃ p : Regrown, w'' = grow (redrawn wc p.d) p.os := fun d os => Calls.regrown_of (not_clo (p && q) _)
    have g11 : ∀ d os, Calls Try.prog 16 #[.int .u8 14, .agg #[.int .u8 2, .int .i64 (bn (!p)), .string ⟨#[]⟩], .agg #[.int .u8 2, .int .i64 (bn (!q)), .string ⟨#[]⟩]] (grow (redrawn wc d) os) fun e w'' => e = .returned (.agg #[.int .u8 2, .int .i64 (bn (!(p && q))), .string ⟨#[]⟩]) ∧ ∃ p : Regrown, w'' = grow (redrawn wc p.d) p.os := fun d os => Calls.regrown_of (two_clo 14 (!p) (!q) (!(p && q)) _ (by cases p <;> cases q <;> kernel_rfl))
    have g12 : ∀ d os, Calls Try.prog 12 #[.agg #[.int .u8 2, .int .i64 (bn (p && q)), .string ⟨#[]⟩]] (grow (redrawn wc d) os) fun e w'' => e = .returned (.bool (p && q)) ∧ ∃ p : Regrown, w'' = grow (redrawn wc p.d) p.os := fun d os => Calls.regrown_of (yes_bn (p && q) _)
    have g13 : ∀ d os, Calls Try.prog 16 #[.int .u8 11, .agg #[.int .u8 2, .int .i64 (bn p), .string ⟨#[]⟩], .agg #[.int .u8 2, .int .i64 (bn q), .string ⟨#[]⟩]] (grow (redrawn wc d) os) fun e w'' => e = .returned (.agg #[.int .u8 2, .int .i64 (bn (p == q)), .string ⟨#[]⟩]) ∧ ∃ p : Regrown, w'' = grow (redrawn wc p.d) p.os := fun d os => Calls.regrown_of (two_clo 11 p q (p == q) _ (by cases p <;> cases q <;> kernel_rfl))
    have g14 : ∀ d os, Calls Try.prog 12 #[.agg #[.int .u8 2, .int .i64 (bn (p == q)), .string ⟨#[]⟩]] (grow (redrawn wc d) os) fun e w'' => e = .returned (.bool (p == q)) ∧ ∃ p : Regrown, w'' = grow (redrawn wc p.d) p.os := fun d os => Calls.regrown_of (yes_bn (p == q) _)
    obtain ⟨r, hr⟩ : ∃ r, (p == q) = r := ⟨_, rfl⟩
    rw [hr] at g13 g14
    have Hr := Lib.hid hr
    clear hr
    clear p5 q5 r5 l5 p6 q6 r6 l6
    have Hu := Lib.hid u
    clear u
    refine wp_region_quiet_below (by kernel_rfl) (by kernel_rfl) ?_
    simp only [List.append]
    repeat (go_big_quiet_step (first | (with_reducible exact g0 _ _) | (with_reducible exact g1 _ _) | (with_reducible exact g2 _ _) | (with_reducible exact g3 _ _) | (with_reducible exact g4 _ _) | (with_reducible exact g5 _ _) | (with_reducible exact g6 _ _) | (with_reducible exact g7 _ _) | (with_reducible exact g8 _ _) | (with_reducible exact g9 _ _) | (with_reducible exact g10 _ _) | (with_reducible exact g11 _ _) | (with_reducible exact g12 _ _) | (with_reducible exact g13 _ _) | (with_reducible exact g14 _ _)))
    have hr := Hr.out
    clear Hr
    cases p <;> cases q <;> cases r
    all_goals first | (exact absurd hr (by decide)) | skip
    all_goals
      clear hr
      repeat (go_big_quiet_step (first | (with_reducible exact g0 _ _) | (with_reducible exact g1 _ _) | (with_reducible exact g2 _ _) | (with_reducible exact g3 _ _) | (with_reducible exact g4 _ _) | (with_reducible exact g5 _ _) | (with_reducible exact g6 _ _) | (with_reducible exact g7 _ _) | (with_reducible exact g8 _ _) | (with_reducible exact g9 _ _) | (with_reducible exact g10 _ _) | (with_reducible exact g11 _ _) | (with_reducible exact g12 _ _) | (with_reducible exact g13 _ _) | (with_reducible exact g14 _ _)))
      refine wpQuiet_nil ?_
      intro _ hw'
      obtain ⟨⟨dq, osq⟩, hw''⟩ := hw'
      subst hw''
      go_wp2_with fail
      go_ret
      exact ⟨rfl, Hu.out.trans (below_regrown wc dq osq)⟩
end Go.Proofs.Ytpekccomahikbaa
