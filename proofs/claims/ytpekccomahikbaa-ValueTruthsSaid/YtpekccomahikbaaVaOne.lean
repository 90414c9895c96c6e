/- The walk of value.One (written by wip/gen_one.py). -/
import Derived.Test.YtpekccomahikbaaVaNumbers2
namespace Go.Proofs.Ytpekccomahikbaa
open Go.RowKit Go.Own

set_option maxRecDepth 100000 in
set_option maxHeartbeats 1600000 in
theorem one_form (op k n : Int) (t : ByteArray) (w : World) (h3 : (op == 3) = false) (h4 : (op == 4) = false) (h16 : (op == 16) = false) :
    Calls Try.prog 15 #[.int .u8 op, .agg #[.int .u8 k, .int .i64 n, .string t]] w fun e w' => e = .returned (.tuple #[.agg #[.int .u8 0, .int .i64 0, .string ⟨#[]⟩], .int .i64 4]) ∧ Up w w' := by
  go_enter Try.func15, Try.ntmps15
  go_wp2_with fail
  all_goals (exact bodyPost_ret (v := .tuple #[.agg #[.int .u8 0, .int .i64 0, .string ⟨#[]⟩], .int .i64 4]) (by simp [results, Try.results15, go_sem]) rfl ⟨rfl, by (repeat (first | exact Up.refl _ | assumption | refine Up.drew ?_ | refine Up.drewN ?_ _ | refine Up.alloc ?_ _ | refine Up.setCell ?_ (by simp <;> omega) _ | refine Up.trans ?_ (by assumption)))⟩)

set_option maxRecDepth 100000 in
set_option maxHeartbeats 1600000 in
theorem one_type_3 (k n : Int) (t : ByteArray) (w : World) (h : (k == 1) = false) :
    Calls Try.prog 15 #[.int .u8 3, .agg #[.int .u8 k, .int .i64 n, .string t]] w fun e w' => e = .returned (.tuple #[.agg #[.int .u8 0, .int .i64 0, .string ⟨#[]⟩], .int .i64 23]) ∧ Up w w' := by
  have h : (k != 1) = true := by simpa [bne] using h
  go_enter Try.func15, Try.ntmps15
  go_wp2_with fail
  all_goals (exact bodyPost_ret (v := .tuple #[.agg #[.int .u8 0, .int .i64 0, .string ⟨#[]⟩], .int .i64 23]) (by simp [results, Try.results15, go_sem]) rfl ⟨rfl, by (repeat (first | exact Up.refl _ | assumption | refine Up.drew ?_ | refine Up.drewN ?_ _ | refine Up.alloc ?_ _ | refine Up.setCell ?_ (by simp <;> omega) _ | refine Up.trans ?_ (by assumption)))⟩)

set_option maxRecDepth 100000 in
set_option maxHeartbeats 1600000 in
theorem one_type_4 (k n : Int) (t : ByteArray) (w : World) (h : (k == 2) = false) :
    Calls Try.prog 15 #[.int .u8 4, .agg #[.int .u8 k, .int .i64 n, .string t]] w fun e w' => e = .returned (.tuple #[.agg #[.int .u8 0, .int .i64 0, .string ⟨#[]⟩], .int .i64 23]) ∧ Up w w' := by
  have h : (k != 2) = true := by simpa [bne] using h
  go_enter Try.func15, Try.ntmps15
  go_wp2_with fail
  all_goals (exact bodyPost_ret (v := .tuple #[.agg #[.int .u8 0, .int .i64 0, .string ⟨#[]⟩], .int .i64 23]) (by simp [results, Try.results15, go_sem]) rfl ⟨rfl, by (repeat (first | exact Up.refl _ | assumption | refine Up.drew ?_ | refine Up.drewN ?_ _ | refine Up.alloc ?_ _ | refine Up.setCell ?_ (by simp <;> omega) _ | refine Up.trans ?_ (by assumption)))⟩)

set_option maxRecDepth 100000 in
set_option maxHeartbeats 1600000 in
theorem one_type_16 (k n : Int) (t : ByteArray) (w : World) (h : (k == 3) = false) :
    Calls Try.prog 15 #[.int .u8 16, .agg #[.int .u8 k, .int .i64 n, .string t]] w fun e w' => e = .returned (.tuple #[.agg #[.int .u8 0, .int .i64 0, .string ⟨#[]⟩], .int .i64 23]) ∧ Up w w' := by
  have h : (k != 3) = true := by simpa [bne] using h
  go_enter Try.func15, Try.ntmps15
  go_wp2_with fail
  all_goals (exact bodyPost_ret (v := .tuple #[.agg #[.int .u8 0, .int .i64 0, .string ⟨#[]⟩], .int .i64 23]) (by simp [results, Try.results15, go_sem]) rfl ⟨rfl, by (repeat (first | exact Up.refl _ | assumption | refine Up.drew ?_ | refine Up.drewN ?_ _ | refine Up.alloc ?_ _ | refine Up.setCell ?_ (by simp <;> omega) _ | refine Up.trans ?_ (by assumption)))⟩)

set_option maxRecDepth 100000 in
set_option maxHeartbeats 1600000 in
theorem one_ok_3 (n : Int) (t : ByteArray) (w : World) (hn : Va.Fit n) :
    Calls Try.prog 15 #[.int .u8 3, .agg #[.int .u8 1, .int .i64 n, .string t]] w fun e w' => e = .returned (.tuple #[.agg #[.int .u8 (Va.told (0 - n)).1.k, .int .i64 (Va.told (0 - n)).1.n, .string (Va.told (0 - n)).1.t], .int .i64 (Va.told (0 - n)).2]) ∧ Up w w' := by
  have hm := Lib.hid (fun w => numbers_any 15 0 n w (by unfold Va.Fit; omega) hn (by decide))
  rw [show Va.numbers 15 0 n = Va.told (0 - n) from rfl] at hm
  clear hn
  generalize Va.told (0 - n) = r at hm ⊢
  obtain ⟨⟨rk, rn, rt⟩, re⟩ := r
  go_enter Try.func15, Try.ntmps15
  go_wp2_with fail
  refine (hm.out _).mono ?_; rintro e w1 ⟨rfl, h1⟩
  have u1 := h1
  have hc1 := u1.cells
  have hz1 := u1.size
  try simp at hz1
  go_wp2_with fail
  exact bodyPost_ret (v := .tuple #[.agg #[.int .u8 rk, .int .i64 rn, .string rt], .int .i64 re]) (by simp [results, Try.results15, go_sem, hc1]) rfl ⟨rfl, by (repeat (first | exact Up.refl _ | assumption | refine Up.drew ?_ | refine Up.drewN ?_ _ | refine Up.alloc ?_ _ | refine Up.setCell ?_ (by simp <;> omega) _ | refine Up.trans ?_ (by assumption)))⟩

set_option maxRecDepth 100000 in
set_option maxHeartbeats 1600000 in
theorem one_ok_4 (n : Int) (t : ByteArray) (w : World) :
    Calls Try.prog 15 #[.int .u8 4, .agg #[.int .u8 2, .int .i64 n, .string t]] w fun e w' => e = .returned (.tuple #[.agg #[.int .u8 2, .int .i64 (if !(n != 0) then 1 else 0), .string ⟨#[]⟩], .int .i64 0]) ∧ Up w w' := by
  generalize e1 : (n != 0) = c
  cases c
  · go_enter Try.func15, Try.ntmps15
    go_wp2_with fail
    refine (yes_any _ _ _ _).mono ?_; rintro e w1 ⟨rfl, h1⟩
    have u1 := h1
    have hc1 := u1.cells
    have hz1 := u1.size
    try simp at hz1
    go_wp2_with fail
    refine (truth_any _ _).mono ?_; rintro e w2 ⟨rfl, h2⟩
    have u2 := u1.trans h2
    clear hc1 hz1
    have hc2 := u2.cells
    have hz2 := u2.size
    try simp at hz2
    go_wp2_with fail
    exact bodyPost_ret (v := .tuple #[.agg #[.int .u8 2, .int .i64 1, .string ⟨#[]⟩], .int .i64 0]) (by simp [results, Try.results15, go_sem, hc2]) rfl ⟨rfl, by (repeat (first | exact Up.refl _ | assumption | refine Up.drew ?_ | refine Up.drewN ?_ _ | refine Up.alloc ?_ _ | refine Up.setCell ?_ (by simp <;> omega) _ | refine Up.trans ?_ (by assumption)))⟩
  · go_enter Try.func15, Try.ntmps15
    go_wp2_with fail
    refine (yes_any _ _ _ _).mono ?_; rintro e w1 ⟨rfl, h1⟩
    have u1 := h1
    have hc1 := u1.cells
    have hz1 := u1.size
    try simp at hz1
    go_wp2_with fail
    refine (truth_any _ _).mono ?_; rintro e w2 ⟨rfl, h2⟩
    have u2 := u1.trans h2
    clear hc1 hz1
    have hc2 := u2.cells
    have hz2 := u2.size
    try simp at hz2
    go_wp2_with fail
    exact bodyPost_ret (v := .tuple #[.agg #[.int .u8 2, .int .i64 0, .string ⟨#[]⟩], .int .i64 0]) (by simp [results, Try.results15, go_sem, hc2]) rfl ⟨rfl, by (repeat (first | exact Up.refl _ | assumption | refine Up.drew ?_ | refine Up.drewN ?_ _ | refine Up.alloc ?_ _ | refine Up.setCell ?_ (by simp <;> omega) _ | refine Up.trans ?_ (by assumption)))⟩


set_option maxRecDepth 100000 in
set_option maxHeartbeats 1600000 in
theorem one_ok_16 (n : Int) (t : ByteArray) (w : World) :
    Calls Try.prog 15 #[.int .u8 16, .agg #[.int .u8 3, .int .i64 n, .string t]] w fun e w' => e = .returned (.tuple #[.agg #[.int .u8 1, .int .i64 t.size, .string ⟨#[]⟩], .int .i64 0]) ∧ Up w w' := by
  go_enter Try.func15, Try.ntmps15
  go_wp2_with fail
  refine (num_any _ _).mono ?_; rintro e w1 ⟨rfl, h1⟩
  have u1 := h1
  have hc1 := u1.cells
  have hz1 := u1.size
  try simp at hz1
  go_wp2_with fail
  exact bodyPost_ret (v := .tuple #[.agg #[.int .u8 1, .int .i64 t.size, .string ⟨#[]⟩], .int .i64 0]) (by simp [results, Try.results15, go_sem, hc1]) rfl ⟨rfl, by (repeat (first | exact Up.refl _ | assumption | refine Up.drew ?_ | refine Up.drewN ?_ _ | refine Up.alloc ?_ _ | refine Up.setCell ?_ (by simp <;> omega) _ | refine Up.trans ?_ (by assumption)))⟩

theorem one_any (op k n : Int) (t : ByteArray) (w : World) (hn : Va.Fit n) :
    Calls Try.prog 15 #[.int .u8 op, .agg #[.int .u8 k, .int .i64 n, .string t]] w fun e w' => e = .returned (.tuple #[.agg #[.int .u8 (Va.one op ⟨k, n, t⟩).1.k, .int .i64 (Va.one op ⟨k, n, t⟩).1.n, .string (Va.one op ⟨k, n, t⟩).1.t], .int .i64 (Va.one op ⟨k, n, t⟩).2]) ∧ Up w w' := by
  by_cases h3 : op = 3
  · subst h3
    by_cases hk : k = 1
    · subst hk; exact one_ok_3 n t w hn
    · rw [show Va.one 3 ⟨k, n, t⟩ = (Va.none, 23) by simp [Va.one, hk]]
      exact one_type_3 k n t w (by simpa using hk)
  by_cases h4 : op = 4
  · subst h4
    by_cases hk : k = 2
    · subst hk
      rw [show Va.one 4 ⟨2, n, t⟩ = (Va.truth (!(n != 0)), 0) by simp [Va.one, Va.yes]]
      exact one_ok_4 n t w
    · rw [show Va.one 4 ⟨k, n, t⟩ = (Va.none, 23) by simp [Va.one, hk]]
      exact one_type_4 k n t w (by simpa using hk)
  by_cases h16 : op = 16
  · subst h16
    by_cases hk : k = 3
    · subst hk; exact one_ok_16 n t w
    · rw [show Va.one 16 ⟨k, n, t⟩ = (Va.none, 23) by simp [Va.one, hk]]
      exact one_type_16 k n t w (by simpa using hk)
  rw [show Va.one op ⟨k, n, t⟩ = (Va.none, 4) by simp [Va.one, h3, h4, h16]]
  exact one_form op k n t w (by simpa using h3) (by simpa using h4) (by simpa using h16)
end Go.Proofs.Ytpekccomahikbaa
