/- The walk of value.Two: an operator and a Kind at a time (written by wip/gen_two.py). -/
import Derived.Test.YtpekccomahikbaaVaNumbers2
import Derived.Test.YtpekccomahikbaaVaOrder
namespace Go.Proofs.Ytpekccomahikbaa
open Go.RowKit Go.Own

set_option maxRecDepth 100000 in
set_option maxHeartbeats 6400000 in
theorem two_form (op ak an bk bn : Int) (at_ bt : ByteArray) (w : World) (hop : op < 5 ∨ 15 < op) :
    Calls Try.prog 8 #[.int .u8 op, .agg #[.int .u8 ak, .int .i64 an, .string at_], .agg #[.int .u8 bk, .int .i64 bn, .string bt]] w fun e w' => e = .returned (.tuple #[.agg #[.int .u8 0, .int .i64 0, .string ⟨#[]⟩], .int .i64 4]) ∧ Up w w' := by
  generalize e1 : (ak == 1) = p1
  generalize e2 : (ak == 2) = p2
  generalize e3 : (ak == 3) = p3
  have hs : ∀ k : Int, 5 ≤ k → k ≤ 15 → (op == k) = false := fun k h1 h2 => by rw [beq_eq_false_iff_ne]; omega
  have f5 := hs 5 (by omega) (by omega); have f6 := hs 6 (by omega) (by omega); have f7 := hs 7 (by omega) (by omega); have f8 := hs 8 (by omega) (by omega); have f9 := hs 9 (by omega) (by omega); have f10 := hs 10 (by omega) (by omega); have f11 := hs 11 (by omega) (by omega); have f12 := hs 12 (by omega) (by omega); have f13 := hs 13 (by omega) (by omega); have f14 := hs 14 (by omega) (by omega); have f15 := hs 15 (by omega) (by omega)
  clear hs hop
  cases p1 <;> cases p2 <;> cases p3
  all_goals
    go_enter Try.func8, Try.ntmps8
    go_wp2_with fail
    exact bodyPost_ret (v := .tuple #[.agg #[.int .u8 0, .int .i64 0, .string ⟨#[]⟩], .int .i64 4]) (by simp [results, Try.results8, go_sem]) rfl ⟨rfl, by (repeat (first | exact Up.refl _ | assumption | refine Up.drew ?_ | refine Up.drewN ?_ _ | refine Up.alloc ?_ _ | refine Up.setCell ?_ (by simp <;> omega) _ | refine Up.trans ?_ (by assumption)))⟩

set_option maxRecDepth 100000 in
set_option maxHeartbeats 3200000 in
theorem two_type_1 (op an bk bn : Int) (at_ bt : ByteArray) (w : World) (h1 : 5 ≤ op) (h2 : op ≤ 15) (h : (bk == 1) = false) :
    Calls Try.prog 8 #[.int .u8 op, .agg #[.int .u8 1, .int .i64 an, .string at_], .agg #[.int .u8 bk, .int .i64 bn, .string bt]] w fun e w' => e = .returned (.tuple #[.agg #[.int .u8 0, .int .i64 0, .string ⟨#[]⟩], .int .i64 23]) ∧ Up w w' := by

  go_enter Try.func8, Try.ntmps8
  go_wp2_with fail
  all_goals (exact bodyPost_ret (v := .tuple #[.agg #[.int .u8 0, .int .i64 0, .string ⟨#[]⟩], .int .i64 23]) (by simp [results, Try.results8, go_sem]) rfl ⟨rfl, by (repeat (first | exact Up.refl _ | assumption | refine Up.drew ?_ | refine Up.drewN ?_ _ | refine Up.alloc ?_ _ | refine Up.setCell ?_ (by simp <;> omega) _ | refine Up.trans ?_ (by assumption)))⟩)

set_option maxRecDepth 100000 in
set_option maxHeartbeats 3200000 in
theorem two_type_2 (op an bk bn : Int) (at_ bt : ByteArray) (w : World) (h1 : 5 ≤ op) (h2 : op ≤ 15) (h : (bk == 2) = false) :
    Calls Try.prog 8 #[.int .u8 op, .agg #[.int .u8 2, .int .i64 an, .string at_], .agg #[.int .u8 bk, .int .i64 bn, .string bt]] w fun e w' => e = .returned (.tuple #[.agg #[.int .u8 0, .int .i64 0, .string ⟨#[]⟩], .int .i64 23]) ∧ Up w w' := by

  go_enter Try.func8, Try.ntmps8
  go_wp2_with fail
  all_goals (exact bodyPost_ret (v := .tuple #[.agg #[.int .u8 0, .int .i64 0, .string ⟨#[]⟩], .int .i64 23]) (by simp [results, Try.results8, go_sem]) rfl ⟨rfl, by (repeat (first | exact Up.refl _ | assumption | refine Up.drew ?_ | refine Up.drewN ?_ _ | refine Up.alloc ?_ _ | refine Up.setCell ?_ (by simp <;> omega) _ | refine Up.trans ?_ (by assumption)))⟩)

set_option maxRecDepth 100000 in
set_option maxHeartbeats 3200000 in
theorem two_type_3 (op an bk bn : Int) (at_ bt : ByteArray) (w : World) (h1 : 5 ≤ op) (h2 : op ≤ 15) (h : (bk == 3) = false) :
    Calls Try.prog 8 #[.int .u8 op, .agg #[.int .u8 3, .int .i64 an, .string at_], .agg #[.int .u8 bk, .int .i64 bn, .string bt]] w fun e w' => e = .returned (.tuple #[.agg #[.int .u8 0, .int .i64 0, .string ⟨#[]⟩], .int .i64 23]) ∧ Up w w' := by

  go_enter Try.func8, Try.ntmps8
  go_wp2_with fail
  all_goals (exact bodyPost_ret (v := .tuple #[.agg #[.int .u8 0, .int .i64 0, .string ⟨#[]⟩], .int .i64 23]) (by simp [results, Try.results8, go_sem]) rfl ⟨rfl, by (repeat (first | exact Up.refl _ | assumption | refine Up.drew ?_ | refine Up.drewN ?_ _ | refine Up.alloc ?_ _ | refine Up.setCell ?_ (by simp <;> omega) _ | refine Up.trans ?_ (by assumption)))⟩)

set_option maxRecDepth 100000 in
set_option maxHeartbeats 3200000 in
theorem two_type_0 (op ak an bk bn : Int) (at_ bt : ByteArray) (w : World) (h1 : 5 ≤ op) (h2 : op ≤ 15) (e1 : (ak == 1) = false) (e2 : (ak == 2) = false) (e3 : (ak == 3) = false) :
    Calls Try.prog 8 #[.int .u8 op, .agg #[.int .u8 ak, .int .i64 an, .string at_], .agg #[.int .u8 bk, .int .i64 bn, .string bt]] w fun e w' => e = .returned (.tuple #[.agg #[.int .u8 0, .int .i64 0, .string ⟨#[]⟩], .int .i64 23]) ∧ Up w w' := by

  go_enter Try.func8, Try.ntmps8
  go_wp2_with fail
  all_goals (exact bodyPost_ret (v := .tuple #[.agg #[.int .u8 0, .int .i64 0, .string ⟨#[]⟩], .int .i64 23]) (by simp [results, Try.results8, go_sem]) rfl ⟨rfl, by (repeat (first | exact Up.refl _ | assumption | refine Up.drew ?_ | refine Up.drewN ?_ _ | refine Up.alloc ?_ _ | refine Up.setCell ?_ (by simp <;> omega) _ | refine Up.trans ?_ (by assumption)))⟩)

set_option maxRecDepth 100000 in
set_option maxHeartbeats 1600000 in
theorem two_type_1_13 (an bn : Int) (at_ bt : ByteArray) (w : World) :
    Calls Try.prog 8 #[.int .u8 13, .agg #[.int .u8 1, .int .i64 an, .string at_], .agg #[.int .u8 1, .int .i64 bn, .string bt]] w fun e w' => e = .returned (.tuple #[.agg #[.int .u8 0, .int .i64 0, .string ⟨#[]⟩], .int .i64 23]) ∧ Up w w' := by

  go_enter Try.func8, Try.ntmps8
  go_wp2_with fail
  all_goals (exact bodyPost_ret (v := .tuple #[.agg #[.int .u8 0, .int .i64 0, .string ⟨#[]⟩], .int .i64 23]) (by simp [results, Try.results8, go_sem]) rfl ⟨rfl, by (repeat (first | exact Up.refl _ | assumption | refine Up.drew ?_ | refine Up.drewN ?_ _ | refine Up.alloc ?_ _ | refine Up.setCell ?_ (by simp <;> omega) _ | refine Up.trans ?_ (by assumption)))⟩)

set_option maxRecDepth 100000 in
set_option maxHeartbeats 1600000 in
theorem two_type_1_14 (an bn : Int) (at_ bt : ByteArray) (w : World) :
    Calls Try.prog 8 #[.int .u8 14, .agg #[.int .u8 1, .int .i64 an, .string at_], .agg #[.int .u8 1, .int .i64 bn, .string bt]] w fun e w' => e = .returned (.tuple #[.agg #[.int .u8 0, .int .i64 0, .string ⟨#[]⟩], .int .i64 23]) ∧ Up w w' := by

  go_enter Try.func8, Try.ntmps8
  go_wp2_with fail
  all_goals (exact bodyPost_ret (v := .tuple #[.agg #[.int .u8 0, .int .i64 0, .string ⟨#[]⟩], .int .i64 23]) (by simp [results, Try.results8, go_sem]) rfl ⟨rfl, by (repeat (first | exact Up.refl _ | assumption | refine Up.drew ?_ | refine Up.drewN ?_ _ | refine Up.alloc ?_ _ | refine Up.setCell ?_ (by simp <;> omega) _ | refine Up.trans ?_ (by assumption)))⟩)

set_option maxRecDepth 100000 in
set_option maxHeartbeats 1600000 in
theorem two_type_2_5 (an bn : Int) (at_ bt : ByteArray) (w : World) :
    Calls Try.prog 8 #[.int .u8 5, .agg #[.int .u8 2, .int .i64 an, .string at_], .agg #[.int .u8 2, .int .i64 bn, .string bt]] w fun e w' => e = .returned (.tuple #[.agg #[.int .u8 0, .int .i64 0, .string ⟨#[]⟩], .int .i64 23]) ∧ Up w w' := by

  go_enter Try.func8, Try.ntmps8
  go_wp2_with fail
  all_goals (exact bodyPost_ret (v := .tuple #[.agg #[.int .u8 0, .int .i64 0, .string ⟨#[]⟩], .int .i64 23]) (by simp [results, Try.results8, go_sem]) rfl ⟨rfl, by (repeat (first | exact Up.refl _ | assumption | refine Up.drew ?_ | refine Up.drewN ?_ _ | refine Up.alloc ?_ _ | refine Up.setCell ?_ (by simp <;> omega) _ | refine Up.trans ?_ (by assumption)))⟩)

set_option maxRecDepth 100000 in
set_option maxHeartbeats 1600000 in
theorem two_type_2_6 (an bn : Int) (at_ bt : ByteArray) (w : World) :
    Calls Try.prog 8 #[.int .u8 6, .agg #[.int .u8 2, .int .i64 an, .string at_], .agg #[.int .u8 2, .int .i64 bn, .string bt]] w fun e w' => e = .returned (.tuple #[.agg #[.int .u8 0, .int .i64 0, .string ⟨#[]⟩], .int .i64 23]) ∧ Up w w' := by

  go_enter Try.func8, Try.ntmps8
  go_wp2_with fail
  all_goals (exact bodyPost_ret (v := .tuple #[.agg #[.int .u8 0, .int .i64 0, .string ⟨#[]⟩], .int .i64 23]) (by simp [results, Try.results8, go_sem]) rfl ⟨rfl, by (repeat (first | exact Up.refl _ | assumption | refine Up.drew ?_ | refine Up.drewN ?_ _ | refine Up.alloc ?_ _ | refine Up.setCell ?_ (by simp <;> omega) _ | refine Up.trans ?_ (by assumption)))⟩)

set_option maxRecDepth 100000 in
set_option maxHeartbeats 1600000 in
theorem two_type_2_7 (an bn : Int) (at_ bt : ByteArray) (w : World) :
    Calls Try.prog 8 #[.int .u8 7, .agg #[.int .u8 2, .int .i64 an, .string at_], .agg #[.int .u8 2, .int .i64 bn, .string bt]] w fun e w' => e = .returned (.tuple #[.agg #[.int .u8 0, .int .i64 0, .string ⟨#[]⟩], .int .i64 23]) ∧ Up w w' := by

  go_enter Try.func8, Try.ntmps8
  go_wp2_with fail
  all_goals (exact bodyPost_ret (v := .tuple #[.agg #[.int .u8 0, .int .i64 0, .string ⟨#[]⟩], .int .i64 23]) (by simp [results, Try.results8, go_sem]) rfl ⟨rfl, by (repeat (first | exact Up.refl _ | assumption | refine Up.drew ?_ | refine Up.drewN ?_ _ | refine Up.alloc ?_ _ | refine Up.setCell ?_ (by simp <;> omega) _ | refine Up.trans ?_ (by assumption)))⟩)

set_option maxRecDepth 100000 in
set_option maxHeartbeats 1600000 in
theorem two_type_2_8 (an bn : Int) (at_ bt : ByteArray) (w : World) :
    Calls Try.prog 8 #[.int .u8 8, .agg #[.int .u8 2, .int .i64 an, .string at_], .agg #[.int .u8 2, .int .i64 bn, .string bt]] w fun e w' => e = .returned (.tuple #[.agg #[.int .u8 0, .int .i64 0, .string ⟨#[]⟩], .int .i64 23]) ∧ Up w w' := by

  go_enter Try.func8, Try.ntmps8
  go_wp2_with fail
  all_goals (exact bodyPost_ret (v := .tuple #[.agg #[.int .u8 0, .int .i64 0, .string ⟨#[]⟩], .int .i64 23]) (by simp [results, Try.results8, go_sem]) rfl ⟨rfl, by (repeat (first | exact Up.refl _ | assumption | refine Up.drew ?_ | refine Up.drewN ?_ _ | refine Up.alloc ?_ _ | refine Up.setCell ?_ (by simp <;> omega) _ | refine Up.trans ?_ (by assumption)))⟩)

set_option maxRecDepth 100000 in
set_option maxHeartbeats 1600000 in
theorem two_type_2_9 (an bn : Int) (at_ bt : ByteArray) (w : World) :
    Calls Try.prog 8 #[.int .u8 9, .agg #[.int .u8 2, .int .i64 an, .string at_], .agg #[.int .u8 2, .int .i64 bn, .string bt]] w fun e w' => e = .returned (.tuple #[.agg #[.int .u8 0, .int .i64 0, .string ⟨#[]⟩], .int .i64 23]) ∧ Up w w' := by

  go_enter Try.func8, Try.ntmps8
  go_wp2_with fail
  all_goals (exact bodyPost_ret (v := .tuple #[.agg #[.int .u8 0, .int .i64 0, .string ⟨#[]⟩], .int .i64 23]) (by simp [results, Try.results8, go_sem]) rfl ⟨rfl, by (repeat (first | exact Up.refl _ | assumption | refine Up.drew ?_ | refine Up.drewN ?_ _ | refine Up.alloc ?_ _ | refine Up.setCell ?_ (by simp <;> omega) _ | refine Up.trans ?_ (by assumption)))⟩)

set_option maxRecDepth 100000 in
set_option maxHeartbeats 1600000 in
theorem two_type_2_10 (an bn : Int) (at_ bt : ByteArray) (w : World) :
    Calls Try.prog 8 #[.int .u8 10, .agg #[.int .u8 2, .int .i64 an, .string at_], .agg #[.int .u8 2, .int .i64 bn, .string bt]] w fun e w' => e = .returned (.tuple #[.agg #[.int .u8 0, .int .i64 0, .string ⟨#[]⟩], .int .i64 23]) ∧ Up w w' := by

  go_enter Try.func8, Try.ntmps8
  go_wp2_with fail
  all_goals (exact bodyPost_ret (v := .tuple #[.agg #[.int .u8 0, .int .i64 0, .string ⟨#[]⟩], .int .i64 23]) (by simp [results, Try.results8, go_sem]) rfl ⟨rfl, by (repeat (first | exact Up.refl _ | assumption | refine Up.drew ?_ | refine Up.drewN ?_ _ | refine Up.alloc ?_ _ | refine Up.setCell ?_ (by simp <;> omega) _ | refine Up.trans ?_ (by assumption)))⟩)

set_option maxRecDepth 100000 in
set_option maxHeartbeats 1600000 in
theorem two_type_2_15 (an bn : Int) (at_ bt : ByteArray) (w : World) :
    Calls Try.prog 8 #[.int .u8 15, .agg #[.int .u8 2, .int .i64 an, .string at_], .agg #[.int .u8 2, .int .i64 bn, .string bt]] w fun e w' => e = .returned (.tuple #[.agg #[.int .u8 0, .int .i64 0, .string ⟨#[]⟩], .int .i64 23]) ∧ Up w w' := by

  go_enter Try.func8, Try.ntmps8
  go_wp2_with fail
  all_goals (exact bodyPost_ret (v := .tuple #[.agg #[.int .u8 0, .int .i64 0, .string ⟨#[]⟩], .int .i64 23]) (by simp [results, Try.results8, go_sem]) rfl ⟨rfl, by (repeat (first | exact Up.refl _ | assumption | refine Up.drew ?_ | refine Up.drewN ?_ _ | refine Up.alloc ?_ _ | refine Up.setCell ?_ (by simp <;> omega) _ | refine Up.trans ?_ (by assumption)))⟩)

set_option maxRecDepth 100000 in
set_option maxHeartbeats 1600000 in
theorem two_type_3_5 (an bn : Int) (at_ bt : ByteArray) (w : World) :
    Calls Try.prog 8 #[.int .u8 5, .agg #[.int .u8 3, .int .i64 an, .string at_], .agg #[.int .u8 3, .int .i64 bn, .string bt]] w fun e w' => e = .returned (.tuple #[.agg #[.int .u8 0, .int .i64 0, .string ⟨#[]⟩], .int .i64 23]) ∧ Up w w' := by

  go_enter Try.func8, Try.ntmps8
  go_wp2_with fail
  all_goals (exact bodyPost_ret (v := .tuple #[.agg #[.int .u8 0, .int .i64 0, .string ⟨#[]⟩], .int .i64 23]) (by simp [results, Try.results8, go_sem]) rfl ⟨rfl, by (repeat (first | exact Up.refl _ | assumption | refine Up.drew ?_ | refine Up.drewN ?_ _ | refine Up.alloc ?_ _ | refine Up.setCell ?_ (by simp <;> omega) _ | refine Up.trans ?_ (by assumption)))⟩)

set_option maxRecDepth 100000 in
set_option maxHeartbeats 1600000 in
theorem two_type_3_6 (an bn : Int) (at_ bt : ByteArray) (w : World) :
    Calls Try.prog 8 #[.int .u8 6, .agg #[.int .u8 3, .int .i64 an, .string at_], .agg #[.int .u8 3, .int .i64 bn, .string bt]] w fun e w' => e = .returned (.tuple #[.agg #[.int .u8 0, .int .i64 0, .string ⟨#[]⟩], .int .i64 23]) ∧ Up w w' := by

  go_enter Try.func8, Try.ntmps8
  go_wp2_with fail
  all_goals (exact bodyPost_ret (v := .tuple #[.agg #[.int .u8 0, .int .i64 0, .string ⟨#[]⟩], .int .i64 23]) (by simp [results, Try.results8, go_sem]) rfl ⟨rfl, by (repeat (first | exact Up.refl _ | assumption | refine Up.drew ?_ | refine Up.drewN ?_ _ | refine Up.alloc ?_ _ | refine Up.setCell ?_ (by simp <;> omega) _ | refine Up.trans ?_ (by assumption)))⟩)

set_option maxRecDepth 100000 in
set_option maxHeartbeats 1600000 in
theorem two_type_3_7 (an bn : Int) (at_ bt : ByteArray) (w : World) :
    Calls Try.prog 8 #[.int .u8 7, .agg #[.int .u8 3, .int .i64 an, .string at_], .agg #[.int .u8 3, .int .i64 bn, .string bt]] w fun e w' => e = .returned (.tuple #[.agg #[.int .u8 0, .int .i64 0, .string ⟨#[]⟩], .int .i64 23]) ∧ Up w w' := by

  go_enter Try.func8, Try.ntmps8
  go_wp2_with fail
  all_goals (exact bodyPost_ret (v := .tuple #[.agg #[.int .u8 0, .int .i64 0, .string ⟨#[]⟩], .int .i64 23]) (by simp [results, Try.results8, go_sem]) rfl ⟨rfl, by (repeat (first | exact Up.refl _ | assumption | refine Up.drew ?_ | refine Up.drewN ?_ _ | refine Up.alloc ?_ _ | refine Up.setCell ?_ (by simp <;> omega) _ | refine Up.trans ?_ (by assumption)))⟩)

set_option maxRecDepth 100000 in
set_option maxHeartbeats 1600000 in
theorem two_type_3_13 (an bn : Int) (at_ bt : ByteArray) (w : World) :
    Calls Try.prog 8 #[.int .u8 13, .agg #[.int .u8 3, .int .i64 an, .string at_], .agg #[.int .u8 3, .int .i64 bn, .string bt]] w fun e w' => e = .returned (.tuple #[.agg #[.int .u8 0, .int .i64 0, .string ⟨#[]⟩], .int .i64 23]) ∧ Up w w' := by

  go_enter Try.func8, Try.ntmps8
  go_wp2_with fail
  all_goals (exact bodyPost_ret (v := .tuple #[.agg #[.int .u8 0, .int .i64 0, .string ⟨#[]⟩], .int .i64 23]) (by simp [results, Try.results8, go_sem]) rfl ⟨rfl, by (repeat (first | exact Up.refl _ | assumption | refine Up.drew ?_ | refine Up.drewN ?_ _ | refine Up.alloc ?_ _ | refine Up.setCell ?_ (by simp <;> omega) _ | refine Up.trans ?_ (by assumption)))⟩)

set_option maxRecDepth 100000 in
set_option maxHeartbeats 1600000 in
theorem two_type_3_14 (an bn : Int) (at_ bt : ByteArray) (w : World) :
    Calls Try.prog 8 #[.int .u8 14, .agg #[.int .u8 3, .int .i64 an, .string at_], .agg #[.int .u8 3, .int .i64 bn, .string bt]] w fun e w' => e = .returned (.tuple #[.agg #[.int .u8 0, .int .i64 0, .string ⟨#[]⟩], .int .i64 23]) ∧ Up w w' := by

  go_enter Try.func8, Try.ntmps8
  go_wp2_with fail
  all_goals (exact bodyPost_ret (v := .tuple #[.agg #[.int .u8 0, .int .i64 0, .string ⟨#[]⟩], .int .i64 23]) (by simp [results, Try.results8, go_sem]) rfl ⟨rfl, by (repeat (first | exact Up.refl _ | assumption | refine Up.drew ?_ | refine Up.drewN ?_ _ | refine Up.alloc ?_ _ | refine Up.setCell ?_ (by simp <;> omega) _ | refine Up.trans ?_ (by assumption)))⟩)

set_option maxRecDepth 100000 in
set_option maxHeartbeats 1600000 in
theorem two_type_3_15 (an bn : Int) (at_ bt : ByteArray) (w : World) :
    Calls Try.prog 8 #[.int .u8 15, .agg #[.int .u8 3, .int .i64 an, .string at_], .agg #[.int .u8 3, .int .i64 bn, .string bt]] w fun e w' => e = .returned (.tuple #[.agg #[.int .u8 0, .int .i64 0, .string ⟨#[]⟩], .int .i64 23]) ∧ Up w w' := by

  go_enter Try.func8, Try.ntmps8
  go_wp2_with fail
  all_goals (exact bodyPost_ret (v := .tuple #[.agg #[.int .u8 0, .int .i64 0, .string ⟨#[]⟩], .int .i64 23]) (by simp [results, Try.results8, go_sem]) rfl ⟨rfl, by (repeat (first | exact Up.refl _ | assumption | refine Up.drew ?_ | refine Up.drewN ?_ _ | refine Up.alloc ?_ _ | refine Up.setCell ?_ (by simp <;> omega) _ | refine Up.trans ?_ (by assumption)))⟩)

end Go.Proofs.Ytpekccomahikbaa
