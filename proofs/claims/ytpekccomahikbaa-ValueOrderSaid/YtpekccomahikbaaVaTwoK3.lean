/- The walk of value.Two: an operator and a Kind at a time (written by wip/gen_two.py). -/
import Derived.Test.YtpekccomahikbaaVaNumbers2
import Derived.Test.YtpekccomahikbaaVaOrder
namespace Go.Proofs.Ytpekccomahikbaa
open Go.RowKit Go.Own

set_option maxRecDepth 100000 in
set_option maxHeartbeats 1600000 in
theorem two_ok_3_9 (an bn : Int) (at_ bt : ByteArray) (w : World) :
    Calls Try.prog 8 #[.int .u8 9, .agg #[.int .u8 3, .int .i64 an, .string at_], .agg #[.int .u8 3, .int .i64 bn, .string bt]] w fun e w' => e = .returned (.tuple #[.agg #[.int .u8 2, .int .i64 (if decide (Va.cmp ⟨3, an, at_⟩ ⟨3, bn, bt⟩ < 0) then 1 else 0), .string ⟨#[]⟩], .int .i64 0]) ∧ Up w w' := by
  generalize he : Va.cmp ⟨3, an, at_⟩ ⟨3, bn, bt⟩ = c
  have hm := Lib.hid (fun w => he ▸ order_any 3 an 3 bn at_ bt w)
  clear he
  cases hd : decide (c < 0)
  all_goals
    go_enter Try.func8, Try.ntmps8
    go_wp2_with fail
    refine (hm.out _).mono ?_; rintro e w1 ⟨rfl, h1⟩
    have u1 := h1
    have hc1 := u1.cells
    have hz1 := u1.size
    try simp at hz1
    go_wp2_with fail
    refine (truth_any _ _).mono ?_; rintro e w2 ⟨rfl, h2⟩
    have u2 := u1.trans h2
    clear hc1 hz1
    have hc2 := u2.cells
    have hz2 := u2.size
    try simp at hz2
    go_wp2_with fail
    first | exact bodyPost_ret (v := .tuple #[.agg #[.int .u8 2, .int .i64 (if true then 1 else 0), .string ⟨#[]⟩], .int .i64 0]) (by simp [results, Try.results8, go_sem, hc2]) rfl ⟨rfl, by (repeat (first | exact Up.refl _ | assumption | refine Up.drew ?_ | refine Up.drewN ?_ _ | refine Up.alloc ?_ _ | refine Up.setCell ?_ (by simp <;> omega) _ | refine Up.trans ?_ (by assumption)))⟩ | exact bodyPost_ret (v := .tuple #[.agg #[.int .u8 2, .int .i64 (if false then 1 else 0), .string ⟨#[]⟩], .int .i64 0]) (by simp [results, Try.results8, go_sem, hc2]) rfl ⟨rfl, by (repeat (first | exact Up.refl _ | assumption | refine Up.drew ?_ | refine Up.drewN ?_ _ | refine Up.alloc ?_ _ | refine Up.setCell ?_ (by simp <;> omega) _ | refine Up.trans ?_ (by assumption)))⟩

set_option maxRecDepth 100000 in
set_option maxHeartbeats 1600000 in
theorem two_ok_3_10 (an bn : Int) (at_ bt : ByteArray) (w : World) :
    Calls Try.prog 8 #[.int .u8 10, .agg #[.int .u8 3, .int .i64 an, .string at_], .agg #[.int .u8 3, .int .i64 bn, .string bt]] w fun e w' => e = .returned (.tuple #[.agg #[.int .u8 2, .int .i64 (if decide (Va.cmp ⟨3, an, at_⟩ ⟨3, bn, bt⟩ ≤ 0) then 1 else 0), .string ⟨#[]⟩], .int .i64 0]) ∧ Up w w' := by
  generalize he : Va.cmp ⟨3, an, at_⟩ ⟨3, bn, bt⟩ = c
  have hm := Lib.hid (fun w => he ▸ order_any 3 an 3 bn at_ bt w)
  clear he
  cases hd : decide (c ≤ 0)
  all_goals
    go_enter Try.func8, Try.ntmps8
    go_wp2_with fail
    refine (hm.out _).mono ?_; rintro e w1 ⟨rfl, h1⟩
    have u1 := h1
    have hc1 := u1.cells
    have hz1 := u1.size
    try simp at hz1
    go_wp2_with fail
    refine (truth_any _ _).mono ?_; rintro e w2 ⟨rfl, h2⟩
    have u2 := u1.trans h2
    clear hc1 hz1
    have hc2 := u2.cells
    have hz2 := u2.size
    try simp at hz2
    go_wp2_with fail
    first | exact bodyPost_ret (v := .tuple #[.agg #[.int .u8 2, .int .i64 (if true then 1 else 0), .string ⟨#[]⟩], .int .i64 0]) (by simp [results, Try.results8, go_sem, hc2]) rfl ⟨rfl, by (repeat (first | exact Up.refl _ | assumption | refine Up.drew ?_ | refine Up.drewN ?_ _ | refine Up.alloc ?_ _ | refine Up.setCell ?_ (by simp <;> omega) _ | refine Up.trans ?_ (by assumption)))⟩ | exact bodyPost_ret (v := .tuple #[.agg #[.int .u8 2, .int .i64 (if false then 1 else 0), .string ⟨#[]⟩], .int .i64 0]) (by simp [results, Try.results8, go_sem, hc2]) rfl ⟨rfl, by (repeat (first | exact Up.refl _ | assumption | refine Up.drew ?_ | refine Up.drewN ?_ _ | refine Up.alloc ?_ _ | refine Up.setCell ?_ (by simp <;> omega) _ | refine Up.trans ?_ (by assumption)))⟩

set_option maxRecDepth 100000 in
set_option maxHeartbeats 1600000 in
theorem two_ok_3_11 (an bn : Int) (at_ bt : ByteArray) (w : World) :
    Calls Try.prog 8 #[.int .u8 11, .agg #[.int .u8 3, .int .i64 an, .string at_], .agg #[.int .u8 3, .int .i64 bn, .string bt]] w fun e w' => e = .returned (.tuple #[.agg #[.int .u8 2, .int .i64 (if Va.equal ⟨3, an, at_⟩ ⟨3, bn, bt⟩ then 1 else 0), .string ⟨#[]⟩], .int .i64 0]) ∧ Up w w' := by
  generalize he : Va.equal ⟨3, an, at_⟩ ⟨3, bn, bt⟩ = r
  have hm := Lib.hid (fun w => he ▸ equal_any 3 an 3 bn at_ bt w)
  clear he
  cases r
  all_goals
    go_enter Try.func8, Try.ntmps8
    go_wp2_with fail
    refine (hm.out _).mono ?_; rintro e w1 ⟨rfl, h1⟩
    have u1 := h1
    have hc1 := u1.cells
    have hz1 := u1.size
    try simp at hz1
    go_wp2_with fail
    refine (truth_any _ _).mono ?_; rintro e w2 ⟨rfl, h2⟩
    have u2 := u1.trans h2
    clear hc1 hz1
    have hc2 := u2.cells
    have hz2 := u2.size
    try simp at hz2
    go_wp2_with fail
    first | exact bodyPost_ret (v := .tuple #[.agg #[.int .u8 2, .int .i64 (if true then 1 else 0), .string ⟨#[]⟩], .int .i64 0]) (by simp [results, Try.results8, go_sem, hc2]) rfl ⟨rfl, by (repeat (first | exact Up.refl _ | assumption | refine Up.drew ?_ | refine Up.drewN ?_ _ | refine Up.alloc ?_ _ | refine Up.setCell ?_ (by simp <;> omega) _ | refine Up.trans ?_ (by assumption)))⟩ | exact bodyPost_ret (v := .tuple #[.agg #[.int .u8 2, .int .i64 (if false then 1 else 0), .string ⟨#[]⟩], .int .i64 0]) (by simp [results, Try.results8, go_sem, hc2]) rfl ⟨rfl, by (repeat (first | exact Up.refl _ | assumption | refine Up.drew ?_ | refine Up.drewN ?_ _ | refine Up.alloc ?_ _ | refine Up.setCell ?_ (by simp <;> omega) _ | refine Up.trans ?_ (by assumption)))⟩

set_option maxRecDepth 100000 in
set_option maxHeartbeats 1600000 in
theorem two_ok_3_12 (an bn : Int) (at_ bt : ByteArray) (w : World) :
    Calls Try.prog 8 #[.int .u8 12, .agg #[.int .u8 3, .int .i64 an, .string at_], .agg #[.int .u8 3, .int .i64 bn, .string bt]] w fun e w' => e = .returned (.tuple #[.agg #[.int .u8 2, .int .i64 (if !Va.equal ⟨3, an, at_⟩ ⟨3, bn, bt⟩ then 1 else 0), .string ⟨#[]⟩], .int .i64 0]) ∧ Up w w' := by
  generalize he : Va.equal ⟨3, an, at_⟩ ⟨3, bn, bt⟩ = r
  have hm := Lib.hid (fun w => he ▸ equal_any 3 an 3 bn at_ bt w)
  clear he
  cases r
  all_goals
    go_enter Try.func8, Try.ntmps8
    go_wp2_with fail
    refine (hm.out _).mono ?_; rintro e w1 ⟨rfl, h1⟩
    have u1 := h1
    have hc1 := u1.cells
    have hz1 := u1.size
    try simp at hz1
    go_wp2_with fail
    refine (truth_any _ _).mono ?_; rintro e w2 ⟨rfl, h2⟩
    have u2 := u1.trans h2
    clear hc1 hz1
    have hc2 := u2.cells
    have hz2 := u2.size
    try simp at hz2
    go_wp2_with fail
    first | exact bodyPost_ret (v := .tuple #[.agg #[.int .u8 2, .int .i64 (if true then 1 else 0), .string ⟨#[]⟩], .int .i64 0]) (by simp [results, Try.results8, go_sem, hc2]) rfl ⟨rfl, by (repeat (first | exact Up.refl _ | assumption | refine Up.drew ?_ | refine Up.drewN ?_ _ | refine Up.alloc ?_ _ | refine Up.setCell ?_ (by simp <;> omega) _ | refine Up.trans ?_ (by assumption)))⟩ | exact bodyPost_ret (v := .tuple #[.agg #[.int .u8 2, .int .i64 (if false then 1 else 0), .string ⟨#[]⟩], .int .i64 0]) (by simp [results, Try.results8, go_sem, hc2]) rfl ⟨rfl, by (repeat (first | exact Up.refl _ | assumption | refine Up.drew ?_ | refine Up.drewN ?_ _ | refine Up.alloc ?_ _ | refine Up.setCell ?_ (by simp <;> omega) _ | refine Up.trans ?_ (by assumption)))⟩

set_option maxRecDepth 100000 in
set_option maxHeartbeats 1600000 in
theorem two_ok_3_8 (an bn : Int) (at_ bt : ByteArray) (w : World) (hs : at_.size ≤ maxLen) (ht : bt.size ≤ maxLen) :
    Calls Try.prog 8 #[.int .u8 8, .agg #[.int .u8 3, .int .i64 an, .string at_], .agg #[.int .u8 3, .int .i64 bn, .string bt]] w fun e w' => e = .returned (.tuple #[.agg #[.int .u8 (Va.sum at_ bt).1.k, .int .i64 (Va.sum at_ bt).1.n, .string (Va.sum at_ bt).1.t], .int .i64 (Va.sum at_ bt).2]) ∧ Up w w' := by
  have hs1 : at_.size ≤ 9223372036854775807 := hs
  have ht1 : bt.size ≤ 9223372036854775807 := ht
  clear hs ht
  by_cases h1 : (40 : Int) < at_.size
  · rw [Va.big_1 h1]
    go_enter Try.func8, Try.ntmps8
    go_wp2_with fail
    exact bodyPost_ret (v := .tuple #[.agg #[.int .u8 0, .int .i64 0, .string ⟨#[]⟩], .int .i64 20]) (by simp [results, Try.results8, go_sem]) rfl ⟨rfl, by (repeat (first | exact Up.refl _ | assumption | refine Up.drew ?_ | refine Up.drewN ?_ _ | refine Up.alloc ?_ _ | refine Up.setCell ?_ (by simp <;> omega) _ | refine Up.trans ?_ (by assumption)))⟩
  · by_cases h2 : (40 - at_.size : Int) < bt.size
    · rw [Va.big_2 h2]
      go_enter Try.func8, Try.ntmps8
      go_wp2_with fail
      exact bodyPost_ret (v := .tuple #[.agg #[.int .u8 0, .int .i64 0, .string ⟨#[]⟩], .int .i64 20]) (by simp [results, Try.results8, go_sem]) rfl ⟨rfl, by (repeat (first | exact Up.refl _ | assumption | refine Up.drew ?_ | refine Up.drewN ?_ _ | refine Up.alloc ?_ _ | refine Up.setCell ?_ (by simp <;> omega) _ | refine Up.trans ?_ (by assumption)))⟩
    · rw [Va.big_3 h2]
      go_enter Try.func8, Try.ntmps8
      go_wp2_with fail
      refine (text_any _ _).mono ?_; rintro e w1 ⟨rfl, h1⟩
      have u1 := h1
      have hc1 := u1.cells
      have hz1 := u1.size
      try simp at hz1
      go_wp2_with fail
      exact bodyPost_ret (v := .tuple #[.agg #[.int .u8 3, .int .i64 0, .string (at_ ++ bt)], .int .i64 0]) (by simp [results, Try.results8, go_sem, hc1]) rfl ⟨rfl, by (repeat (first | exact Up.refl _ | assumption | refine Up.drew ?_ | refine Up.drewN ?_ _ | refine Up.alloc ?_ _ | refine Up.setCell ?_ (by simp <;> omega) _ | refine Up.trans ?_ (by assumption)))⟩

end Go.Proofs.Ytpekccomahikbaa
