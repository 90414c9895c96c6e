/- The walk of value.Two: an operator and a Kind at a time (written by wip/gen_two.py). -/
import Derived.Test.YtpekccomahikbaaVaNumbers2
import Derived.Test.YtpekccomahikbaaVaOrder
namespace Go.Proofs.Ytpekccomahikbaa
open Go.RowKit Go.Own

set_option maxRecDepth 100000 in
set_option maxHeartbeats 1600000 in
theorem two_ok_2_11 (an bn : Int) (at_ bt : ByteArray) (w : World) :
    Calls Try.prog 8 #[.int .u8 11, .agg #[.int .u8 2, .int .i64 an, .string at_], .agg #[.int .u8 2, .int .i64 bn, .string bt]] w fun e w' => e = .returned (.tuple #[.agg #[.int .u8 2, .int .i64 (if Va.equal ⟨2, an, at_⟩ ⟨2, bn, bt⟩ then 1 else 0), .string ⟨#[]⟩], .int .i64 0]) ∧ Up w w' := by
  generalize he : Va.equal ⟨2, an, at_⟩ ⟨2, bn, bt⟩ = r
  have hm := Lib.hid (fun w => he ▸ equal_any 2 an 2 bn at_ bt w)
  clear he
  cases r
  all_goals
    go_enter Try.func8, Try.ntmps8
    go_wp2_with fail
    refine (hm.out _).mono ?_; rintro e w1 ⟨rfl, h1⟩
    have u1 := h1
    have hc1 := u1.cells
    have hz1 := u1.size
    try simp at hz1
    go_wp2_with fail
    refine (truth_any _ _).mono ?_; rintro e w2 ⟨rfl, h2⟩
    have u2 := u1.trans h2
    clear hc1 hz1
    have hc2 := u2.cells
    have hz2 := u2.size
    try simp at hz2
    go_wp2_with fail
    first | exact bodyPost_ret (v := .tuple #[.agg #[.int .u8 2, .int .i64 (if true then 1 else 0), .string ⟨#[]⟩], .int .i64 0]) (by simp [results, Try.results8, go_sem, hc2]) rfl ⟨rfl, by (repeat (first | exact Up.refl _ | assumption | refine Up.drew ?_ | refine Up.drewN ?_ _ | refine Up.alloc ?_ _ | refine Up.setCell ?_ (by simp <;> omega) _ | refine Up.trans ?_ (by assumption)))⟩ | exact bodyPost_ret (v := .tuple #[.agg #[.int .u8 2, .int .i64 (if false then 1 else 0), .string ⟨#[]⟩], .int .i64 0]) (by simp [results, Try.results8, go_sem, hc2]) rfl ⟨rfl, by (repeat (first | exact Up.refl _ | assumption | refine Up.drew ?_ | refine Up.drewN ?_ _ | refine Up.alloc ?_ _ | refine Up.setCell ?_ (by simp <;> omega) _ | refine Up.trans ?_ (by assumption)))⟩

set_option maxRecDepth 100000 in
set_option maxHeartbeats 1600000 in
theorem two_ok_2_12 (an bn : Int) (at_ bt : ByteArray) (w : World) :
    Calls Try.prog 8 #[.int .u8 12, .agg #[.int .u8 2, .int .i64 an, .string at_], .agg #[.int .u8 2, .int .i64 bn, .string bt]] w fun e w' => e = .returned (.tuple #[.agg #[.int .u8 2, .int .i64 (if !Va.equal ⟨2, an, at_⟩ ⟨2, bn, bt⟩ then 1 else 0), .string ⟨#[]⟩], .int .i64 0]) ∧ Up w w' := by
  generalize he : Va.equal ⟨2, an, at_⟩ ⟨2, bn, bt⟩ = r
  have hm := Lib.hid (fun w => he ▸ equal_any 2 an 2 bn at_ bt w)
  clear he
  cases r
  all_goals
    go_enter Try.func8, Try.ntmps8
    go_wp2_with fail
    refine (hm.out _).mono ?_; rintro e w1 ⟨rfl, h1⟩
    have u1 := h1
    have hc1 := u1.cells
    have hz1 := u1.size
    try simp at hz1
    go_wp2_with fail
    refine (truth_any _ _).mono ?_; rintro e w2 ⟨rfl, h2⟩
    have u2 := u1.trans h2
    clear hc1 hz1
    have hc2 := u2.cells
    have hz2 := u2.size
    try simp at hz2
    go_wp2_with fail
    first | exact bodyPost_ret (v := .tuple #[.agg #[.int .u8 2, .int .i64 (if true then 1 else 0), .string ⟨#[]⟩], .int .i64 0]) (by simp [results, Try.results8, go_sem, hc2]) rfl ⟨rfl, by (repeat (first | exact Up.refl _ | assumption | refine Up.drew ?_ | refine Up.drewN ?_ _ | refine Up.alloc ?_ _ | refine Up.setCell ?_ (by simp <;> omega) _ | refine Up.trans ?_ (by assumption)))⟩ | exact bodyPost_ret (v := .tuple #[.agg #[.int .u8 2, .int .i64 (if false then 1 else 0), .string ⟨#[]⟩], .int .i64 0]) (by simp [results, Try.results8, go_sem, hc2]) rfl ⟨rfl, by (repeat (first | exact Up.refl _ | assumption | refine Up.drew ?_ | refine Up.drewN ?_ _ | refine Up.alloc ?_ _ | refine Up.setCell ?_ (by simp <;> omega) _ | refine Up.trans ?_ (by assumption)))⟩

set_option maxRecDepth 100000 in
set_option maxHeartbeats 3200000 in
theorem two_ok_2_13 (an bn : Int) (at_ bt : ByteArray) (w : World) :
    Calls Try.prog 8 #[.int .u8 13, .agg #[.int .u8 2, .int .i64 an, .string at_], .agg #[.int .u8 2, .int .i64 bn, .string bt]] w fun e w' => e = .returned (.tuple #[.agg #[.int .u8 2, .int .i64 (if ((an != 0) && (bn != 0)) then 1 else 0), .string ⟨#[]⟩], .int .i64 0]) ∧ Up w w' := by
  generalize e1 : (an != 0) = p
  generalize e2 : (bn != 0) = q
  cases p <;> cases q
  · go_enter Try.func8, Try.ntmps8
    go_wp2_with fail
    refine (yes_any _ _ _ _).mono ?_; rintro e w1 ⟨rfl, h1⟩
    have u1 := h1
    have hc1 := u1.cells
    have hz1 := u1.size
    try simp at hz1
    go_wp2_with fail
    refine (truth_any _ _).mono ?_; rintro e w2 ⟨rfl, h2⟩
    have u2 := u1.trans h2
    clear hc1 hz1
    have hc2 := u2.cells
    have hz2 := u2.size
    try simp at hz2
    go_wp2_with fail
    exact bodyPost_ret (v := .tuple #[.agg #[.int .u8 2, .int .i64 (if false then 1 else 0), .string ⟨#[]⟩], .int .i64 0]) (by simp [results, Try.results8, go_sem, hc2]) rfl ⟨rfl, by (repeat (first | exact Up.refl _ | assumption | refine Up.drew ?_ | refine Up.drewN ?_ _ | refine Up.alloc ?_ _ | refine Up.setCell ?_ (by simp <;> omega) _ | refine Up.trans ?_ (by assumption)))⟩
  · go_enter Try.func8, Try.ntmps8
    go_wp2_with fail
    refine (yes_any _ _ _ _).mono ?_; rintro e w1 ⟨rfl, h1⟩
    have u1 := h1
    have hc1 := u1.cells
    have hz1 := u1.size
    try simp at hz1
    go_wp2_with fail
    refine (truth_any _ _).mono ?_; rintro e w2 ⟨rfl, h2⟩
    have u2 := u1.trans h2
    clear hc1 hz1
    have hc2 := u2.cells
    have hz2 := u2.size
    try simp at hz2
    go_wp2_with fail
    exact bodyPost_ret (v := .tuple #[.agg #[.int .u8 2, .int .i64 (if false then 1 else 0), .string ⟨#[]⟩], .int .i64 0]) (by simp [results, Try.results8, go_sem, hc2]) rfl ⟨rfl, by (repeat (first | exact Up.refl _ | assumption | refine Up.drew ?_ | refine Up.drewN ?_ _ | refine Up.alloc ?_ _ | refine Up.setCell ?_ (by simp <;> omega) _ | refine Up.trans ?_ (by assumption)))⟩
  · go_enter Try.func8, Try.ntmps8
    go_wp2_with fail
    refine (yes_any _ _ _ _).mono ?_; rintro e w1 ⟨rfl, h1⟩
    have u1 := h1
    have hc1 := u1.cells
    have hz1 := u1.size
    try simp at hz1
    go_wp2_with fail
    refine (yes_any _ _ _ _).mono ?_; rintro e w2 ⟨rfl, h2⟩
    have u2 := u1.trans h2
    clear hc1 hz1
    have hc2 := u2.cells
    have hz2 := u2.size
    try simp at hz2
    go_wp2_with fail
    refine (truth_any _ _).mono ?_; rintro e w3 ⟨rfl, h3⟩
    have u3 := u2.trans h3
    clear hc2 hz2
    have hc3 := u3.cells
    have hz3 := u3.size
    try simp at hz3
    go_wp2_with fail
    exact bodyPost_ret (v := .tuple #[.agg #[.int .u8 2, .int .i64 (if false then 1 else 0), .string ⟨#[]⟩], .int .i64 0]) (by simp [results, Try.results8, go_sem, hc3]) rfl ⟨rfl, by (repeat (first | exact Up.refl _ | assumption | refine Up.drew ?_ | refine Up.drewN ?_ _ | refine Up.alloc ?_ _ | refine Up.setCell ?_ (by simp <;> omega) _ | refine Up.trans ?_ (by assumption)))⟩
  · go_enter Try.func8, Try.ntmps8
    go_wp2_with fail
    refine (yes_any _ _ _ _).mono ?_; rintro e w1 ⟨rfl, h1⟩
    have u1 := h1
    have hc1 := u1.cells
    have hz1 := u1.size
    try simp at hz1
    go_wp2_with fail
    refine (yes_any _ _ _ _).mono ?_; rintro e w2 ⟨rfl, h2⟩
    have u2 := u1.trans h2
    clear hc1 hz1
    have hc2 := u2.cells
    have hz2 := u2.size
    try simp at hz2
    go_wp2_with fail
    refine (truth_any _ _).mono ?_; rintro e w3 ⟨rfl, h3⟩
    have u3 := u2.trans h3
    clear hc2 hz2
    have hc3 := u3.cells
    have hz3 := u3.size
    try simp at hz3
    go_wp2_with fail
    exact bodyPost_ret (v := .tuple #[.agg #[.int .u8 2, .int .i64 (if true then 1 else 0), .string ⟨#[]⟩], .int .i64 0]) (by simp [results, Try.results8, go_sem, hc3]) rfl ⟨rfl, by (repeat (first | exact Up.refl _ | assumption | refine Up.drew ?_ | refine Up.drewN ?_ _ | refine Up.alloc ?_ _ | refine Up.setCell ?_ (by simp <;> omega) _ | refine Up.trans ?_ (by assumption)))⟩

set_option maxRecDepth 100000 in
set_option maxHeartbeats 3200000 in
theorem two_ok_2_14 (an bn : Int) (at_ bt : ByteArray) (w : World) :
    Calls Try.prog 8 #[.int .u8 14, .agg #[.int .u8 2, .int .i64 an, .string at_], .agg #[.int .u8 2, .int .i64 bn, .string bt]] w fun e w' => e = .returned (.tuple #[.agg #[.int .u8 2, .int .i64 (if ((an != 0) || (bn != 0)) then 1 else 0), .string ⟨#[]⟩], .int .i64 0]) ∧ Up w w' := by
  generalize e1 : (an != 0) = p
  generalize e2 : (bn != 0) = q
  cases p <;> cases q
  · go_enter Try.func8, Try.ntmps8
    go_wp2_with fail
    refine (yes_any _ _ _ _).mono ?_; rintro e w1 ⟨rfl, h1⟩
    have u1 := h1
    have hc1 := u1.cells
    have hz1 := u1.size
    try simp at hz1
    go_wp2_with fail
    refine (yes_any _ _ _ _).mono ?_; rintro e w2 ⟨rfl, h2⟩
    have u2 := u1.trans h2
    clear hc1 hz1
    have hc2 := u2.cells
    have hz2 := u2.size
    try simp at hz2
    go_wp2_with fail
    refine (truth_any _ _).mono ?_; rintro e w3 ⟨rfl, h3⟩
    have u3 := u2.trans h3
    clear hc2 hz2
    have hc3 := u3.cells
    have hz3 := u3.size
    try simp at hz3
    go_wp2_with fail
    exact bodyPost_ret (v := .tuple #[.agg #[.int .u8 2, .int .i64 (if false then 1 else 0), .string ⟨#[]⟩], .int .i64 0]) (by simp [results, Try.results8, go_sem, hc3]) rfl ⟨rfl, by (repeat (first | exact Up.refl _ | assumption | refine Up.drew ?_ | refine Up.drewN ?_ _ | refine Up.alloc ?_ _ | refine Up.setCell ?_ (by simp <;> omega) _ | refine Up.trans ?_ (by assumption)))⟩
  · go_enter Try.func8, Try.ntmps8
    go_wp2_with fail
    refine (yes_any _ _ _ _).mono ?_; rintro e w1 ⟨rfl, h1⟩
    have u1 := h1
    have hc1 := u1.cells
    have hz1 := u1.size
    try simp at hz1
    go_wp2_with fail
    refine (yes_any _ _ _ _).mono ?_; rintro e w2 ⟨rfl, h2⟩
    have u2 := u1.trans h2
    clear hc1 hz1
    have hc2 := u2.cells
    have hz2 := u2.size
    try simp at hz2
    go_wp2_with fail
    refine (truth_any _ _).mono ?_; rintro e w3 ⟨rfl, h3⟩
    have u3 := u2.trans h3
    clear hc2 hz2
    have hc3 := u3.cells
    have hz3 := u3.size
    try simp at hz3
    go_wp2_with fail
    exact bodyPost_ret (v := .tuple #[.agg #[.int .u8 2, .int .i64 (if true then 1 else 0), .string ⟨#[]⟩], .int .i64 0]) (by simp [results, Try.results8, go_sem, hc3]) rfl ⟨rfl, by (repeat (first | exact Up.refl _ | assumption | refine Up.drew ?_ | refine Up.drewN ?_ _ | refine Up.alloc ?_ _ | refine Up.setCell ?_ (by simp <;> omega) _ | refine Up.trans ?_ (by assumption)))⟩
  · go_enter Try.func8, Try.ntmps8
    go_wp2_with fail
    refine (yes_any _ _ _ _).mono ?_; rintro e w1 ⟨rfl, h1⟩
    have u1 := h1
    have hc1 := u1.cells
    have hz1 := u1.size
    try simp at hz1
    go_wp2_with fail
    refine (truth_any _ _).mono ?_; rintro e w2 ⟨rfl, h2⟩
    have u2 := u1.trans h2
    clear hc1 hz1
    have hc2 := u2.cells
    have hz2 := u2.size
    try simp at hz2
    go_wp2_with fail
    exact bodyPost_ret (v := .tuple #[.agg #[.int .u8 2, .int .i64 (if true then 1 else 0), .string ⟨#[]⟩], .int .i64 0]) (by simp [results, Try.results8, go_sem, hc2]) rfl ⟨rfl, by (repeat (first | exact Up.refl _ | assumption | refine Up.drew ?_ | refine Up.drewN ?_ _ | refine Up.alloc ?_ _ | refine Up.setCell ?_ (by simp <;> omega) _ | refine Up.trans ?_ (by assumption)))⟩
  · go_enter Try.func8, Try.ntmps8
    go_wp2_with fail
    refine (yes_any _ _ _ _).mono ?_; rintro e w1 ⟨rfl, h1⟩
    have u1 := h1
    have hc1 := u1.cells
    have hz1 := u1.size
    try simp at hz1
    go_wp2_with fail
    refine (truth_any _ _).mono ?_; rintro e w2 ⟨rfl, h2⟩
    have u2 := u1.trans h2
    clear hc1 hz1
    have hc2 := u2.cells
    have hz2 := u2.size
    try simp at hz2
    go_wp2_with fail
    exact bodyPost_ret (v := .tuple #[.agg #[.int .u8 2, .int .i64 (if true then 1 else 0), .string ⟨#[]⟩], .int .i64 0]) (by simp [results, Try.results8, go_sem, hc2]) rfl ⟨rfl, by (repeat (first | exact Up.refl _ | assumption | refine Up.drew ?_ | refine Up.drewN ?_ _ | refine Up.alloc ?_ _ | refine Up.setCell ?_ (by simp <;> omega) _ | refine Up.trans ?_ (by assumption)))⟩

end Go.Proofs.Ytpekccomahikbaa
