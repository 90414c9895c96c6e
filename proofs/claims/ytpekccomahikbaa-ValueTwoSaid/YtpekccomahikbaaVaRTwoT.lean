/- The walk of the document's Two: an operator and a Kind at a time (written by wip/gen_rtwo.py). -/
import Derived.Test.YtpekccomahikbaaVaRef
namespace Go.Proofs.Ytpekccomahikbaa
open Go.RowKit Go.Own

set_option maxRecDepth 100000 in
set_option maxHeartbeats 1600000 in
theorem rtwo_form (op ak an bk bn : Int) (at_ bt : ByteArray) (w : World) (hop : op < 5 ∨ 15 < op) :
    Calls Try.prog 9 #[.int .u8 op, .agg #[.int .u8 ak, .int .i64 an, .string at_], .agg #[.int .u8 bk, .int .i64 bn, .string bt]] w fun e w' => e = .returned (.tuple #[.agg #[.int .u8 0, .int .i64 0, .string ⟨#[]⟩], .int .i64 4]) ∧ Up w w' := by
  rcases hop with h | h
  all_goals
    go_enter Try.func9, Try.ntmps9
    go_wp2_with fail
    all_goals (exact bodyPost_ret (v := .tuple #[.agg #[.int .u8 0, .int .i64 0, .string ⟨#[]⟩], .int .i64 4]) (by simp [results, Try.results9, go_sem]) rfl ⟨rfl, by (repeat (first | exact Up.refl _ | assumption | refine Up.drew ?_ | refine Up.drewN ?_ _ | refine Up.alloc ?_ _ | refine Up.setCell ?_ (by simp <;> omega) _ | refine Up.trans ?_ (by assumption)))⟩)

set_option maxRecDepth 100000 in
set_option maxHeartbeats 1600000 in
theorem rtwo_type_1 (op an bk bn : Int) (at_ bt : ByteArray) (w : World) (h1 : 5 ≤ op) (h2 : op ≤ 15) (h : (bk == 1) = false) :
    Calls Try.prog 9 #[.int .u8 op, .agg #[.int .u8 1, .int .i64 an, .string at_], .agg #[.int .u8 bk, .int .i64 bn, .string bt]] w fun e w' => e = .returned (.tuple #[.agg #[.int .u8 0, .int .i64 0, .string ⟨#[]⟩], .int .i64 23]) ∧ Up w w' := by
  have hn : ((1 : Int) != bk) = true := by simp at h ⊢; omega
  go_enter Try.func9, Try.ntmps9
  go_wp2_with fail
  all_goals (exact bodyPost_ret (v := .tuple #[.agg #[.int .u8 0, .int .i64 0, .string ⟨#[]⟩], .int .i64 23]) (by simp [results, Try.results9, go_sem]) rfl ⟨rfl, by (repeat (first | exact Up.refl _ | assumption | refine Up.drew ?_ | refine Up.drewN ?_ _ | refine Up.alloc ?_ _ | refine Up.setCell ?_ (by simp <;> omega) _ | refine Up.trans ?_ (by assumption)))⟩)

set_option maxRecDepth 100000 in
set_option maxHeartbeats 1600000 in
theorem rtwo_type_2 (op an bk bn : Int) (at_ bt : ByteArray) (w : World) (h1 : 5 ≤ op) (h2 : op ≤ 15) (h : (bk == 2) = false) :
    Calls Try.prog 9 #[.int .u8 op, .agg #[.int .u8 2, .int .i64 an, .string at_], .agg #[.int .u8 bk, .int .i64 bn, .string bt]] w fun e w' => e = .returned (.tuple #[.agg #[.int .u8 0, .int .i64 0, .string ⟨#[]⟩], .int .i64 23]) ∧ Up w w' := by
  have hn : ((2 : Int) != bk) = true := by simp at h ⊢; omega
  go_enter Try.func9, Try.ntmps9
  go_wp2_with fail
  all_goals (exact bodyPost_ret (v := .tuple #[.agg #[.int .u8 0, .int .i64 0, .string ⟨#[]⟩], .int .i64 23]) (by simp [results, Try.results9, go_sem]) rfl ⟨rfl, by (repeat (first | exact Up.refl _ | assumption | refine Up.drew ?_ | refine Up.drewN ?_ _ | refine Up.alloc ?_ _ | refine Up.setCell ?_ (by simp <;> omega) _ | refine Up.trans ?_ (by assumption)))⟩)

set_option maxRecDepth 100000 in
set_option maxHeartbeats 1600000 in
theorem rtwo_type_3 (op an bk bn : Int) (at_ bt : ByteArray) (w : World) (h1 : 5 ≤ op) (h2 : op ≤ 15) (h : (bk == 3) = false) :
    Calls Try.prog 9 #[.int .u8 op, .agg #[.int .u8 3, .int .i64 an, .string at_], .agg #[.int .u8 bk, .int .i64 bn, .string bt]] w fun e w' => e = .returned (.tuple #[.agg #[.int .u8 0, .int .i64 0, .string ⟨#[]⟩], .int .i64 23]) ∧ Up w w' := by
  have hn : ((3 : Int) != bk) = true := by simp at h ⊢; omega
  go_enter Try.func9, Try.ntmps9
  go_wp2_with fail
  all_goals (exact bodyPost_ret (v := .tuple #[.agg #[.int .u8 0, .int .i64 0, .string ⟨#[]⟩], .int .i64 23]) (by simp [results, Try.results9, go_sem]) rfl ⟨rfl, by (repeat (first | exact Up.refl _ | assumption | refine Up.drew ?_ | refine Up.drewN ?_ _ | refine Up.alloc ?_ _ | refine Up.setCell ?_ (by simp <;> omega) _ | refine Up.trans ?_ (by assumption)))⟩)

set_option maxRecDepth 100000 in
set_option maxHeartbeats 3200000 in
theorem rtwo_type_0 (op ak an bk bn : Int) (at_ bt : ByteArray) (w : World) (h1 : 5 ≤ op) (h2 : op ≤ 15) (e1 : (ak == 1) = false) (e2 : (ak == 2) = false) (e3 : (ak == 3) = false) :
    Calls Try.prog 9 #[.int .u8 op, .agg #[.int .u8 ak, .int .i64 an, .string at_], .agg #[.int .u8 bk, .int .i64 bn, .string bt]] w fun e w' => e = .returned (.tuple #[.agg #[.int .u8 0, .int .i64 0, .string ⟨#[]⟩], .int .i64 23]) ∧ Up w w' := by
  have f1 : ak ≠ 1 := by simpa using e1
  have f2 : ak ≠ 2 := by simpa using e2
  have f3 : ak ≠ 3 := by simpa using e3
  have hk : ak < 1 ∨ 3 < ak := by omega
  clear e1 e2 e3 f1 f2 f3
  generalize hn : (ak != bk) = n
  rcases hk with hk | hk
  all_goals
    cases n
    all_goals
      go_enter Try.func9, Try.ntmps9
      go_wp2_with fail
      all_goals (exact bodyPost_ret (v := .tuple #[.agg #[.int .u8 0, .int .i64 0, .string ⟨#[]⟩], .int .i64 23]) (by simp [results, Try.results9, go_sem]) rfl ⟨rfl, by (repeat (first | exact Up.refl _ | assumption | refine Up.drew ?_ | refine Up.drewN ?_ _ | refine Up.alloc ?_ _ | refine Up.setCell ?_ (by simp <;> omega) _ | refine Up.trans ?_ (by assumption)))⟩)

set_option maxRecDepth 100000 in
set_option maxHeartbeats 1600000 in
theorem rtwo_type_1_13 (an bn : Int) (at_ bt : ByteArray) (w : World) :
    Calls Try.prog 9 #[.int .u8 13, .agg #[.int .u8 1, .int .i64 an, .string at_], .agg #[.int .u8 1, .int .i64 bn, .string bt]] w fun e w' => e = .returned (.tuple #[.agg #[.int .u8 0, .int .i64 0, .string ⟨#[]⟩], .int .i64 23]) ∧ Up w w' := by
  go_enter Try.func9, Try.ntmps9
  go_wp2_with fail
  all_goals (exact bodyPost_ret (v := .tuple #[.agg #[.int .u8 0, .int .i64 0, .string ⟨#[]⟩], .int .i64 23]) (by simp [results, Try.results9, go_sem]) rfl ⟨rfl, by (repeat (first | exact Up.refl _ | assumption | refine Up.drew ?_ | refine Up.drewN ?_ _ | refine Up.alloc ?_ _ | refine Up.setCell ?_ (by simp <;> omega) _ | refine Up.trans ?_ (by assumption)))⟩)

set_option maxRecDepth 100000 in
set_option maxHeartbeats 1600000 in
theorem rtwo_type_1_14 (an bn : Int) (at_ bt : ByteArray) (w : World) :
    Calls Try.prog 9 #[.int .u8 14, .agg #[.int .u8 1, .int .i64 an, .string at_], .agg #[.int .u8 1, .int .i64 bn, .string bt]] w fun e w' => e = .returned (.tuple #[.agg #[.int .u8 0, .int .i64 0, .string ⟨#[]⟩], .int .i64 23]) ∧ Up w w' := by
  go_enter Try.func9, Try.ntmps9
  go_wp2_with fail
  all_goals (exact bodyPost_ret (v := .tuple #[.agg #[.int .u8 0, .int .i64 0, .string ⟨#[]⟩], .int .i64 23]) (by simp [results, Try.results9, go_sem]) rfl ⟨rfl, by (repeat (first | exact Up.refl _ | assumption | refine Up.drew ?_ | refine Up.drewN ?_ _ | refine Up.alloc ?_ _ | refine Up.setCell ?_ (by simp <;> omega) _ | refine Up.trans ?_ (by assumption)))⟩)

set_option maxRecDepth 100000 in
set_option maxHeartbeats 1600000 in
theorem rtwo_type_2_5 (an bn : Int) (at_ bt : ByteArray) (w : World) :
    Calls Try.prog 9 #[.int .u8 5, .agg #[.int .u8 2, .int .i64 an, .string at_], .agg #[.int .u8 2, .int .i64 bn, .string bt]] w fun e w' => e = .returned (.tuple #[.agg #[.int .u8 0, .int .i64 0, .string ⟨#[]⟩], .int .i64 23]) ∧ Up w w' := by
  go_enter Try.func9, Try.ntmps9
  go_wp2_with fail
  all_goals (exact bodyPost_ret (v := .tuple #[.agg #[.int .u8 0, .int .i64 0, .string ⟨#[]⟩], .int .i64 23]) (by simp [results, Try.results9, go_sem]) rfl ⟨rfl, by (repeat (first | exact Up.refl _ | assumption | refine Up.drew ?_ | refine Up.drewN ?_ _ | refine Up.alloc ?_ _ | refine Up.setCell ?_ (by simp <;> omega) _ | refine Up.trans ?_ (by assumption)))⟩)

set_option maxRecDepth 100000 in
set_option maxHeartbeats 1600000 in
theorem rtwo_type_2_6 (an bn : Int) (at_ bt : ByteArray) (w : World) :
    Calls Try.prog 9 #[.int .u8 6, .agg #[.int .u8 2, .int .i64 an, .string at_], .agg #[.int .u8 2, .int .i64 bn, .string bt]] w fun e w' => e = .returned (.tuple #[.agg #[.int .u8 0, .int .i64 0, .string ⟨#[]⟩], .int .i64 23]) ∧ Up w w' := by
  go_enter Try.func9, Try.ntmps9
  go_wp2_with fail
  all_goals (exact bodyPost_ret (v := .tuple #[.agg #[.int .u8 0, .int .i64 0, .string ⟨#[]⟩], .int .i64 23]) (by simp [results, Try.results9, go_sem]) rfl ⟨rfl, by (repeat (first | exact Up.refl _ | assumption | refine Up.drew ?_ | refine Up.drewN ?_ _ | refine Up.alloc ?_ _ | refine Up.setCell ?_ (by simp <;> omega) _ | refine Up.trans ?_ (by assumption)))⟩)

set_option maxRecDepth 100000 in
set_option maxHeartbeats 1600000 in
theorem rtwo_type_2_7 (an bn : Int) (at_ bt : ByteArray) (w : World) :
    Calls Try.prog 9 #[.int .u8 7, .agg #[.int .u8 2, .int .i64 an, .string at_], .agg #[.int .u8 2, .int .i64 bn, .string bt]] w fun e w' => e = .returned (.tuple #[.agg #[.int .u8 0, .int .i64 0, .string ⟨#[]⟩], .int .i64 23]) ∧ Up w w' := by
  go_enter Try.func9, Try.ntmps9
  go_wp2_with fail
  all_goals (exact bodyPost_ret (v := .tuple #[.agg #[.int .u8 0, .int .i64 0, .string ⟨#[]⟩], .int .i64 23]) (by simp [results, Try.results9, go_sem]) rfl ⟨rfl, by (repeat (first | exact Up.refl _ | assumption | refine Up.drew ?_ | refine Up.drewN ?_ _ | refine Up.alloc ?_ _ | refine Up.setCell ?_ (by simp <;> omega) _ | refine Up.trans ?_ (by assumption)))⟩)

set_option maxRecDepth 100000 in
set_option maxHeartbeats 1600000 in
theorem rtwo_type_2_8 (an bn : Int) (at_ bt : ByteArray) (w : World) :
    Calls Try.prog 9 #[.int .u8 8, .agg #[.int .u8 2, .int .i64 an, .string at_], .agg #[.int .u8 2, .int .i64 bn, .string bt]] w fun e w' => e = .returned (.tuple #[.agg #[.int .u8 0, .int .i64 0, .string ⟨#[]⟩], .int .i64 23]) ∧ Up w w' := by
  go_enter Try.func9, Try.ntmps9
  go_wp2_with fail
  all_goals (exact bodyPost_ret (v := .tuple #[.agg #[.int .u8 0, .int .i64 0, .string ⟨#[]⟩], .int .i64 23]) (by simp [results, Try.results9, go_sem]) rfl ⟨rfl, by (repeat (first | exact Up.refl _ | assumption | refine Up.drew ?_ | refine Up.drewN ?_ _ | refine Up.alloc ?_ _ | refine Up.setCell ?_ (by simp <;> omega) _ | refine Up.trans ?_ (by assumption)))⟩)

set_option maxRecDepth 100000 in
set_option maxHeartbeats 1600000 in
theorem rtwo_type_2_9 (an bn : Int) (at_ bt : ByteArray) (w : World) :
    Calls Try.prog 9 #[.int .u8 9, .agg #[.int .u8 2, .int .i64 an, .string at_], .agg #[.int .u8 2, .int .i64 bn, .string bt]] w fun e w' => e = .returned (.tuple #[.agg #[.int .u8 0, .int .i64 0, .string ⟨#[]⟩], .int .i64 23]) ∧ Up w w' := by
  go_enter Try.func9, Try.ntmps9
  go_wp2_with fail
  all_goals (exact bodyPost_ret (v := .tuple #[.agg #[.int .u8 0, .int .i64 0, .string ⟨#[]⟩], .int .i64 23]) (by simp [results, Try.results9, go_sem]) rfl ⟨rfl, by (repeat (first | exact Up.refl _ | assumption | refine Up.drew ?_ | refine Up.drewN ?_ _ | refine Up.alloc ?_ _ | refine Up.setCell ?_ (by simp <;> omega) _ | refine Up.trans ?_ (by assumption)))⟩)

set_option maxRecDepth 100000 in
set_option maxHeartbeats 1600000 in
theorem rtwo_type_2_10 (an bn : Int) (at_ bt : ByteArray) (w : World) :
    Calls Try.prog 9 #[.int .u8 10, .agg #[.int .u8 2, .int .i64 an, .string at_], .agg #[.int .u8 2, .int .i64 bn, .string bt]] w fun e w' => e = .returned (.tuple #[.agg #[.int .u8 0, .int .i64 0, .string ⟨#[]⟩], .int .i64 23]) ∧ Up w w' := by
  go_enter Try.func9, Try.ntmps9
  go_wp2_with fail
  all_goals (exact bodyPost_ret (v := .tuple #[.agg #[.int .u8 0, .int .i64 0, .string ⟨#[]⟩], .int .i64 23]) (by simp [results, Try.results9, go_sem]) rfl ⟨rfl, by (repeat (first | exact Up.refl _ | assumption | refine Up.drew ?_ | refine Up.drewN ?_ _ | refine Up.alloc ?_ _ | refine Up.setCell ?_ (by simp <;> omega) _ | refine Up.trans ?_ (by assumption)))⟩)

set_option maxRecDepth 100000 in
set_option maxHeartbeats 1600000 in
theorem rtwo_type_2_15 (an bn : Int) (at_ bt : ByteArray) (w : World) :
    Calls Try.prog 9 #[.int .u8 15, .agg #[.int .u8 2, .int .i64 an, .string at_], .agg #[.int .u8 2, .int .i64 bn, .string bt]] w fun e w' => e = .returned (.tuple #[.agg #[.int .u8 0, .int .i64 0, .string ⟨#[]⟩], .int .i64 23]) ∧ Up w w' := by
  go_enter Try.func9, Try.ntmps9
  go_wp2_with fail
  all_goals (exact bodyPost_ret (v := .tuple #[.agg #[.int .u8 0, .int .i64 0, .string ⟨#[]⟩], .int .i64 23]) (by simp [results, Try.results9, go_sem]) rfl ⟨rfl, by (repeat (first | exact Up.refl _ | assumption | refine Up.drew ?_ | refine Up.drewN ?_ _ | refine Up.alloc ?_ _ | refine Up.setCell ?_ (by simp <;> omega) _ | refine Up.trans ?_ (by assumption)))⟩)

set_option maxRecDepth 100000 in
set_option maxHeartbeats 1600000 in
theorem rtwo_type_3_5 (an bn : Int) (at_ bt : ByteArray) (w : World) :
    Calls Try.prog 9 #[.int .u8 5, .agg #[.int .u8 3, .int .i64 an, .string at_], .agg #[.int .u8 3, .int .i64 bn, .string bt]] w fun e w' => e = .returned (.tuple #[.agg #[.int .u8 0, .int .i64 0, .string ⟨#[]⟩], .int .i64 23]) ∧ Up w w' := by
  go_enter Try.func9, Try.ntmps9
  go_wp2_with fail
  all_goals (exact bodyPost_ret (v := .tuple #[.agg #[.int .u8 0, .int .i64 0, .string ⟨#[]⟩], .int .i64 23]) (by simp [results, Try.results9, go_sem]) rfl ⟨rfl, by (repeat (first | exact Up.refl _ | assumption | refine Up.drew ?_ | refine Up.drewN ?_ _ | refine Up.alloc ?_ _ | refine Up.setCell ?_ (by simp <;> omega) _ | refine Up.trans ?_ (by assumption)))⟩)

set_option maxRecDepth 100000 in
set_option maxHeartbeats 1600000 in
theorem rtwo_type_3_6 (an bn : Int) (at_ bt : ByteArray) (w : World) :
    Calls Try.prog 9 #[.int .u8 6, .agg #[.int .u8 3, .int .i64 an, .string at_], .agg #[.int .u8 3, .int .i64 bn, .string bt]] w fun e w' => e = .returned (.tuple #[.agg #[.int .u8 0, .int .i64 0, .string ⟨#[]⟩], .int .i64 23]) ∧ Up w w' := by
  go_enter Try.func9, Try.ntmps9
  go_wp2_with fail
  all_goals (exact bodyPost_ret (v := .tuple #[.agg #[.int .u8 0, .int .i64 0, .string ⟨#[]⟩], .int .i64 23]) (by simp [results, Try.results9, go_sem]) rfl ⟨rfl, by (repeat (first | exact Up.refl _ | assumption | refine Up.drew ?_ | refine Up.drewN ?_ _ | refine Up.alloc ?_ _ | refine Up.setCell ?_ (by simp <;> omega) _ | refine Up.trans ?_ (by assumption)))⟩)

set_option maxRecDepth 100000 in
set_option maxHeartbeats 1600000 in
theorem rtwo_type_3_7 (an bn : Int) (at_ bt : ByteArray) (w : World) :
    Calls Try.prog 9 #[.int .u8 7, .agg #[.int .u8 3, .int .i64 an, .string at_], .agg #[.int .u8 3, .int .i64 bn, .string bt]] w fun e w' => e = .returned (.tuple #[.agg #[.int .u8 0, .int .i64 0, .string ⟨#[]⟩], .int .i64 23]) ∧ Up w w' := by
  go_enter Try.func9, Try.ntmps9
  go_wp2_with fail
  all_goals (exact bodyPost_ret (v := .tuple #[.agg #[.int .u8 0, .int .i64 0, .string ⟨#[]⟩], .int .i64 23]) (by simp [results, Try.results9, go_sem]) rfl ⟨rfl, by (repeat (first | exact Up.refl _ | assumption | refine Up.drew ?_ | refine Up.drewN ?_ _ | refine Up.alloc ?_ _ | refine Up.setCell ?_ (by simp <;> omega) _ | refine Up.trans ?_ (by assumption)))⟩)

set_option maxRecDepth 100000 in
set_option maxHeartbeats 1600000 in
theorem rtwo_type_3_13 (an bn : Int) (at_ bt : ByteArray) (w : World) :
    Calls Try.prog 9 #[.int .u8 13, .agg #[.int .u8 3, .int .i64 an, .string at_], .agg #[.int .u8 3, .int .i64 bn, .string bt]] w fun e w' => e = .returned (.tuple #[.agg #[.int .u8 0, .int .i64 0, .string ⟨#[]⟩], .int .i64 23]) ∧ Up w w' := by
  go_enter Try.func9, Try.ntmps9
  go_wp2_with fail
  all_goals (exact bodyPost_ret (v := .tuple #[.agg #[.int .u8 0, .int .i64 0, .string ⟨#[]⟩], .int .i64 23]) (by simp [results, Try.results9, go_sem]) rfl ⟨rfl, by (repeat (first | exact Up.refl _ | assumption | refine Up.drew ?_ | refine Up.drewN ?_ _ | refine Up.alloc ?_ _ | refine Up.setCell ?_ (by simp <;> omega) _ | refine Up.trans ?_ (by assumption)))⟩)

set_option maxRecDepth 100000 in
set_option maxHeartbeats 1600000 in
theorem rtwo_type_3_14 (an bn : Int) (at_ bt : ByteArray) (w : World) :
    Calls Try.prog 9 #[.int .u8 14, .agg #[.int .u8 3, .int .i64 an, .string at_], .agg #[.int .u8 3, .int .i64 bn, .string bt]] w fun e w' => e = .returned (.tuple #[.agg #[.int .u8 0, .int .i64 0, .string ⟨#[]⟩], .int .i64 23]) ∧ Up w w' := by
  go_enter Try.func9, Try.ntmps9
  go_wp2_with fail
  all_goals (exact bodyPost_ret (v := .tuple #[.agg #[.int .u8 0, .int .i64 0, .string ⟨#[]⟩], .int .i64 23]) (by simp [results, Try.results9, go_sem]) rfl ⟨rfl, by (repeat (first | exact Up.refl _ | assumption | refine Up.drew ?_ | refine Up.drewN ?_ _ | refine Up.alloc ?_ _ | refine Up.setCell ?_ (by simp <;> omega) _ | refine Up.trans ?_ (by assumption)))⟩)

set_option maxRecDepth 100000 in
set_option maxHeartbeats 1600000 in
theorem rtwo_type_3_15 (an bn : Int) (at_ bt : ByteArray) (w : World) :
    Calls Try.prog 9 #[.int .u8 15, .agg #[.int .u8 3, .int .i64 an, .string at_], .agg #[.int .u8 3, .int .i64 bn, .string bt]] w fun e w' => e = .returned (.tuple #[.agg #[.int .u8 0, .int .i64 0, .string ⟨#[]⟩], .int .i64 23]) ∧ Up w w' := by
  go_enter Try.func9, Try.ntmps9
  go_wp2_with fail
  all_goals (exact bodyPost_ret (v := .tuple #[.agg #[.int .u8 0, .int .i64 0, .string ⟨#[]⟩], .int .i64 23]) (by simp [results, Try.results9, go_sem]) rfl ⟨rfl, by (repeat (first | exact Up.refl _ | assumption | refine Up.drew ?_ | refine Up.drewN ?_ _ | refine Up.alloc ?_ _ | refine Up.setCell ?_ (by simp <;> omega) _ | refine Up.trans ?_ (by assumption)))⟩)

end Go.Proofs.Ytpekccomahikbaa
