/- The walk of the document's Two: an operator and a Kind at a time (written by wip/gen_rtwo.py). -/
import Derived.Test.YtpekccomahikbaaVaRef
namespace Go.Proofs.Ytpekccomahikbaa
open Go.RowKit Go.Own

set_option maxRecDepth 100000 in
set_option maxHeartbeats 1600000 in
theorem rtwo_ok_1_9 (an bn : Int) (at_ bt : ByteArray) (w : World) :
    Calls Try.prog 9 #[.int .u8 9, .agg #[.int .u8 1, .int .i64 an, .string at_], .agg #[.int .u8 1, .int .i64 bn, .string bt]] w fun e w' => e = .returned (.tuple #[.agg #[.int .u8 2, .int .i64 (if decide (Va.cmp ⟨1, an, at_⟩ ⟨1, bn, bt⟩ < 0) then 1 else 0), .string ⟨#[]⟩], .int .i64 0]) ∧ Up w w' := by
  have hm := Lib.hid (fun w => rless_any 1 an 1 bn at_ bt w)
  generalize decide (Va.cmp ⟨1, an, at_⟩ ⟨1, bn, bt⟩ < 0) = c at hm ⊢
  cases c
  all_goals
    go_enter Try.func9, Try.ntmps9
    go_wp2_with fail
    refine (hm.out _).mono ?_; rintro e w1 ⟨rfl, h1⟩
    have u1 := h1
    have hc1 := u1.cells
    have hz1 := u1.size
    try simp at hz1
    go_wp2_with fail
    refine (rtruth_any _ _).mono ?_; rintro e w2 ⟨rfl, h2⟩
    have u2 := u1.trans h2
    clear hc1 hz1
    have hc2 := u2.cells
    have hz2 := u2.size
    try simp at hz2
    go_wp2_with fail
    first | exact bodyPost_ret (v := .tuple #[.agg #[.int .u8 2, .int .i64 (if true then 1 else 0), .string ⟨#[]⟩], .int .i64 0]) (by simp [results, Try.results9, go_sem, hc2]) rfl ⟨rfl, by (repeat (first | exact Up.refl _ | assumption | refine Up.drew ?_ | refine Up.drewN ?_ _ | refine Up.alloc ?_ _ | refine Up.setCell ?_ (by simp <;> omega) _ | refine Up.trans ?_ (by assumption)))⟩ | exact bodyPost_ret (v := .tuple #[.agg #[.int .u8 2, .int .i64 (if false then 1 else 0), .string ⟨#[]⟩], .int .i64 0]) (by simp [results, Try.results9, go_sem, hc2]) rfl ⟨rfl, by (repeat (first | exact Up.refl _ | assumption | refine Up.drew ?_ | refine Up.drewN ?_ _ | refine Up.alloc ?_ _ | refine Up.setCell ?_ (by simp <;> omega) _ | refine Up.trans ?_ (by assumption)))⟩

set_option maxRecDepth 100000 in
set_option maxHeartbeats 1600000 in
theorem rtwo_ok_1_10 (an bn : Int) (at_ bt : ByteArray) (w : World) :
    Calls Try.prog 9 #[.int .u8 10, .agg #[.int .u8 1, .int .i64 an, .string at_], .agg #[.int .u8 1, .int .i64 bn, .string bt]] w fun e w' => e = .returned (.tuple #[.agg #[.int .u8 2, .int .i64 (if decide (Va.cmp ⟨1, an, at_⟩ ⟨1, bn, bt⟩ ≤ 0) then 1 else 0), .string ⟨#[]⟩], .int .i64 0]) ∧ Up w w' := by
  rw [Va.le_not_gt ⟨1, an, at_⟩ ⟨1, bn, bt⟩ rfl]
  have hm := Lib.hid (fun w => rless_any 1 bn 1 an bt at_ w)
  generalize decide (Va.cmp ⟨1, bn, bt⟩ ⟨1, an, at_⟩ < 0) = c at hm ⊢
  cases c
  all_goals
    go_enter Try.func9, Try.ntmps9
    go_wp2_with fail
    refine (hm.out _).mono ?_; rintro e w1 ⟨rfl, h1⟩
    have u1 := h1
    have hc1 := u1.cells
    have hz1 := u1.size
    try simp at hz1
    go_wp2_with fail
    refine (rtruth_any _ _).mono ?_; rintro e w2 ⟨rfl, h2⟩
    have u2 := u1.trans h2
    clear hc1 hz1
    have hc2 := u2.cells
    have hz2 := u2.size
    try simp at hz2
    go_wp2_with fail
    first | exact bodyPost_ret (v := .tuple #[.agg #[.int .u8 2, .int .i64 (if true then 1 else 0), .string ⟨#[]⟩], .int .i64 0]) (by simp [results, Try.results9, go_sem, hc2]) rfl ⟨rfl, by (repeat (first | exact Up.refl _ | assumption | refine Up.drew ?_ | refine Up.drewN ?_ _ | refine Up.alloc ?_ _ | refine Up.setCell ?_ (by simp <;> omega) _ | refine Up.trans ?_ (by assumption)))⟩ | exact bodyPost_ret (v := .tuple #[.agg #[.int .u8 2, .int .i64 (if false then 1 else 0), .string ⟨#[]⟩], .int .i64 0]) (by simp [results, Try.results9, go_sem, hc2]) rfl ⟨rfl, by (repeat (first | exact Up.refl _ | assumption | refine Up.drew ?_ | refine Up.drewN ?_ _ | refine Up.alloc ?_ _ | refine Up.setCell ?_ (by simp <;> omega) _ | refine Up.trans ?_ (by assumption)))⟩

set_option maxRecDepth 100000 in
set_option maxHeartbeats 1600000 in
theorem rtwo_ok_1_11 (an bn : Int) (at_ bt : ByteArray) (w : World) :
    Calls Try.prog 9 #[.int .u8 11, .agg #[.int .u8 1, .int .i64 an, .string at_], .agg #[.int .u8 1, .int .i64 bn, .string bt]] w fun e w' => e = .returned (.tuple #[.agg #[.int .u8 2, .int .i64 (if Va.equal ⟨1, an, at_⟩ ⟨1, bn, bt⟩ then 1 else 0), .string ⟨#[]⟩], .int .i64 0]) ∧ Up w w' := by
  rw [Va.equal_not ⟨1, an, at_⟩ ⟨1, bn, bt⟩ rfl (show (1 : Int) ≠ 2 by decide)]
  have hm := Lib.hid (fun w => rsame_other 1 an bn at_ bt w (by decide))
  generalize (!decide (Va.cmp ⟨1, an, at_⟩ ⟨1, bn, bt⟩ < 0) && !decide (Va.cmp ⟨1, bn, bt⟩ ⟨1, an, at_⟩ < 0)) = c at hm ⊢
  cases c
  all_goals
    go_enter Try.func9, Try.ntmps9
    go_wp2_with fail
    refine (hm.out _).mono ?_; rintro e w1 ⟨rfl, h1⟩
    have u1 := h1
    have hc1 := u1.cells
    have hz1 := u1.size
    try simp at hz1
    go_wp2_with fail
    refine (rtruth_any _ _).mono ?_; rintro e w2 ⟨rfl, h2⟩
    have u2 := u1.trans h2
    clear hc1 hz1
    have hc2 := u2.cells
    have hz2 := u2.size
    try simp at hz2
    go_wp2_with fail
    first | exact bodyPost_ret (v := .tuple #[.agg #[.int .u8 2, .int .i64 (if true then 1 else 0), .string ⟨#[]⟩], .int .i64 0]) (by simp [results, Try.results9, go_sem, hc2]) rfl ⟨rfl, by (repeat (first | exact Up.refl _ | assumption | refine Up.drew ?_ | refine Up.drewN ?_ _ | refine Up.alloc ?_ _ | refine Up.setCell ?_ (by simp <;> omega) _ | refine Up.trans ?_ (by assumption)))⟩ | exact bodyPost_ret (v := .tuple #[.agg #[.int .u8 2, .int .i64 (if false then 1 else 0), .string ⟨#[]⟩], .int .i64 0]) (by simp [results, Try.results9, go_sem, hc2]) rfl ⟨rfl, by (repeat (first | exact Up.refl _ | assumption | refine Up.drew ?_ | refine Up.drewN ?_ _ | refine Up.alloc ?_ _ | refine Up.setCell ?_ (by simp <;> omega) _ | refine Up.trans ?_ (by assumption)))⟩

set_option maxRecDepth 100000 in
set_option maxHeartbeats 1600000 in
theorem rtwo_ok_1_12 (an bn : Int) (at_ bt : ByteArray) (w : World) :
    Calls Try.prog 9 #[.int .u8 12, .agg #[.int .u8 1, .int .i64 an, .string at_], .agg #[.int .u8 1, .int .i64 bn, .string bt]] w fun e w' => e = .returned (.tuple #[.agg #[.int .u8 2, .int .i64 (if !Va.equal ⟨1, an, at_⟩ ⟨1, bn, bt⟩ then 1 else 0), .string ⟨#[]⟩], .int .i64 0]) ∧ Up w w' := by
  rw [Va.equal_not ⟨1, an, at_⟩ ⟨1, bn, bt⟩ rfl (show (1 : Int) ≠ 2 by decide)]
  have hm := Lib.hid (fun w => rsame_other 1 an bn at_ bt w (by decide))
  generalize (!decide (Va.cmp ⟨1, an, at_⟩ ⟨1, bn, bt⟩ < 0) && !decide (Va.cmp ⟨1, bn, bt⟩ ⟨1, an, at_⟩ < 0)) = c at hm ⊢
  cases c
  all_goals
    go_enter Try.func9, Try.ntmps9
    go_wp2_with fail
    refine (hm.out _).mono ?_; rintro e w1 ⟨rfl, h1⟩
    have u1 := h1
    have hc1 := u1.cells
    have hz1 := u1.size
    try simp at hz1
    go_wp2_with fail
    refine (rtruth_any _ _).mono ?_; rintro e w2 ⟨rfl, h2⟩
    have u2 := u1.trans h2
    clear hc1 hz1
    have hc2 := u2.cells
    have hz2 := u2.size
    try simp at hz2
    go_wp2_with fail
    first | exact bodyPost_ret (v := .tuple #[.agg #[.int .u8 2, .int .i64 (if true then 1 else 0), .string ⟨#[]⟩], .int .i64 0]) (by simp [results, Try.results9, go_sem, hc2]) rfl ⟨rfl, by (repeat (first | exact Up.refl _ | assumption | refine Up.drew ?_ | refine Up.drewN ?_ _ | refine Up.alloc ?_ _ | refine Up.setCell ?_ (by simp <;> omega) _ | refine Up.trans ?_ (by assumption)))⟩ | exact bodyPost_ret (v := .tuple #[.agg #[.int .u8 2, .int .i64 (if false then 1 else 0), .string ⟨#[]⟩], .int .i64 0]) (by simp [results, Try.results9, go_sem, hc2]) rfl ⟨rfl, by (repeat (first | exact Up.refl _ | assumption | refine Up.drew ?_ | refine Up.drewN ?_ _ | refine Up.alloc ?_ _ | refine Up.setCell ?_ (by simp <;> omega) _ | refine Up.trans ?_ (by assumption)))⟩

set_option maxRecDepth 100000 in
set_option maxHeartbeats 1600000 in
theorem rtwo_ok_1_5 (an bn : Int) (at_ bt : ByteArray) (w : World) (ha : Va.Fit an) (hb : Va.Fit bn) :
    Calls Try.prog 9 #[.int .u8 5, .agg #[.int .u8 1, .int .i64 an, .string at_], .agg #[.int .u8 1, .int .i64 bn, .string bt]] w fun e w' => e = .returned (.tuple #[.agg #[.int .u8 (Va.numbers 5 an bn).1.k, .int .i64 (Va.numbers 5 an bn).1.n, .string (Va.numbers 5 an bn).1.t], .int .i64 (Va.numbers 5 an bn).2]) ∧ Up w w' := by
  have hm := Lib.hid (fun w => rmul_any an bn w ha hb)
  clear ha hb
  generalize hr : Va.inR (an * bn) = r at hm
  cases r
  · rw [Va.no_5 an bn hr]
    clear hr
    go_enter Try.func9, Try.ntmps9
    go_wp2_with fail
    refine (hm.out _).mono ?_; rintro e w1 ⟨rfl, rfl⟩
    go_wp2_with fail
    refine (rtold_no _ _).mono ?_; rintro e w1 ⟨rfl, h1⟩
    have hc1 := h1.cells
    have hz1 := h1.size
    try simp at hz1
    go_wp2_with fail
    exact bodyPost_ret (v := .tuple #[.agg #[.int .u8 0, .int .i64 0, .string ⟨#[]⟩], .int .i64 20]) (by simp [results, Try.results9, go_sem, hc1]) rfl ⟨rfl, by (repeat (first | exact Up.refl _ | assumption | refine Up.drew ?_ | refine Up.drewN ?_ _ | refine Up.alloc ?_ _ | refine Up.setCell ?_ (by simp <;> omega) _ | refine Up.trans ?_ (by assumption)))⟩
  · rw [Va.yes_5 an bn hr]
    clear hr
    go_enter Try.func9, Try.ntmps9
    go_wp2_with fail
    refine (hm.out _).mono ?_; rintro e w1 ⟨rfl, rfl⟩
    go_wp2_with fail
    refine (rtold_yes _ _).mono ?_; rintro e w1 ⟨rfl, h1⟩
    have hc1 := h1.cells
    have hz1 := h1.size
    try simp at hz1
    go_wp2_with fail
    exact bodyPost_ret (v := .tuple #[.agg #[.int .u8 1, .int .i64 (an * bn), .string ⟨#[]⟩], .int .i64 0]) (by simp [results, Try.results9, go_sem, hc1]) rfl ⟨rfl, by (repeat (first | exact Up.refl _ | assumption | refine Up.drew ?_ | refine Up.drewN ?_ _ | refine Up.alloc ?_ _ | refine Up.setCell ?_ (by simp <;> omega) _ | refine Up.trans ?_ (by assumption)))⟩

set_option maxRecDepth 100000 in
set_option maxHeartbeats 1600000 in
theorem rtwo_ok_1_8 (an bn : Int) (at_ bt : ByteArray) (w : World) (ha : Va.Fit an) (hb : Va.Fit bn) :
    Calls Try.prog 9 #[.int .u8 8, .agg #[.int .u8 1, .int .i64 an, .string at_], .agg #[.int .u8 1, .int .i64 bn, .string bt]] w fun e w' => e = .returned (.tuple #[.agg #[.int .u8 (Va.numbers 8 an bn).1.k, .int .i64 (Va.numbers 8 an bn).1.n, .string (Va.numbers 8 an bn).1.t], .int .i64 (Va.numbers 8 an bn).2]) ∧ Up w w' := by
  have hm := Lib.hid (fun w => radd_any an bn w ha hb)
  clear ha hb
  generalize hr : Va.inR (an + bn) = r at hm
  cases r
  · rw [Va.no_8 an bn hr]
    clear hr
    go_enter Try.func9, Try.ntmps9
    go_wp2_with fail
    refine (hm.out _).mono ?_; rintro e w1 ⟨rfl, rfl⟩
    go_wp2_with fail
    refine (rtold_no _ _).mono ?_; rintro e w1 ⟨rfl, h1⟩
    have hc1 := h1.cells
    have hz1 := h1.size
    try simp at hz1
    go_wp2_with fail
    exact bodyPost_ret (v := .tuple #[.agg #[.int .u8 0, .int .i64 0, .string ⟨#[]⟩], .int .i64 20]) (by simp [results, Try.results9, go_sem, hc1]) rfl ⟨rfl, by (repeat (first | exact Up.refl _ | assumption | refine Up.drew ?_ | refine Up.drewN ?_ _ | refine Up.alloc ?_ _ | refine Up.setCell ?_ (by simp <;> omega) _ | refine Up.trans ?_ (by assumption)))⟩
  · rw [Va.yes_8 an bn hr]
    clear hr
    go_enter Try.func9, Try.ntmps9
    go_wp2_with fail
    refine (hm.out _).mono ?_; rintro e w1 ⟨rfl, rfl⟩
    go_wp2_with fail
    refine (rtold_yes _ _).mono ?_; rintro e w1 ⟨rfl, h1⟩
    have hc1 := h1.cells
    have hz1 := h1.size
    try simp at hz1
    go_wp2_with fail
    exact bodyPost_ret (v := .tuple #[.agg #[.int .u8 1, .int .i64 (an + bn), .string ⟨#[]⟩], .int .i64 0]) (by simp [results, Try.results9, go_sem, hc1]) rfl ⟨rfl, by (repeat (first | exact Up.refl _ | assumption | refine Up.drew ?_ | refine Up.drewN ?_ _ | refine Up.alloc ?_ _ | refine Up.setCell ?_ (by simp <;> omega) _ | refine Up.trans ?_ (by assumption)))⟩

set_option maxRecDepth 100000 in
set_option maxHeartbeats 1600000 in
theorem rtwo_ok_1_15 (an bn : Int) (at_ bt : ByteArray) (w : World) (ha : Va.Fit an) (hb : Va.Fit bn) :
    Calls Try.prog 9 #[.int .u8 15, .agg #[.int .u8 1, .int .i64 an, .string at_], .agg #[.int .u8 1, .int .i64 bn, .string bt]] w fun e w' => e = .returned (.tuple #[.agg #[.int .u8 (Va.numbers 15 an bn).1.k, .int .i64 (Va.numbers 15 an bn).1.n, .string (Va.numbers 15 an bn).1.t], .int .i64 (Va.numbers 15 an bn).2]) ∧ Up w w' := by
  have hm := Lib.hid (fun w => rsub_any an bn w ha hb)
  clear ha hb
  generalize hr : Va.inR (an - bn) = r at hm
  cases r
  · rw [Va.no_15 an bn hr]
    clear hr
    go_enter Try.func9, Try.ntmps9
    go_wp2_with fail
    refine (hm.out _).mono ?_; rintro e w1 ⟨rfl, rfl⟩
    go_wp2_with fail
    refine (rtold_no _ _).mono ?_; rintro e w1 ⟨rfl, h1⟩
    have hc1 := h1.cells
    have hz1 := h1.size
    try simp at hz1
    go_wp2_with fail
    exact bodyPost_ret (v := .tuple #[.agg #[.int .u8 0, .int .i64 0, .string ⟨#[]⟩], .int .i64 20]) (by simp [results, Try.results9, go_sem, hc1]) rfl ⟨rfl, by (repeat (first | exact Up.refl _ | assumption | refine Up.drew ?_ | refine Up.drewN ?_ _ | refine Up.alloc ?_ _ | refine Up.setCell ?_ (by simp <;> omega) _ | refine Up.trans ?_ (by assumption)))⟩
  · rw [Va.yes_15 an bn hr]
    clear hr
    go_enter Try.func9, Try.ntmps9
    go_wp2_with fail
    refine (hm.out _).mono ?_; rintro e w1 ⟨rfl, rfl⟩
    go_wp2_with fail
    refine (rtold_yes _ _).mono ?_; rintro e w1 ⟨rfl, h1⟩
    have hc1 := h1.cells
    have hz1 := h1.size
    try simp at hz1
    go_wp2_with fail
    exact bodyPost_ret (v := .tuple #[.agg #[.int .u8 1, .int .i64 (an - bn), .string ⟨#[]⟩], .int .i64 0]) (by simp [results, Try.results9, go_sem, hc1]) rfl ⟨rfl, by (repeat (first | exact Up.refl _ | assumption | refine Up.drew ?_ | refine Up.drewN ?_ _ | refine Up.alloc ?_ _ | refine Up.setCell ?_ (by simp <;> omega) _ | refine Up.trans ?_ (by assumption)))⟩

set_option maxRecDepth 100000 in
set_option maxHeartbeats 3200000 in
theorem rtwo_ok_1_6 (an bn : Int) (at_ bt : ByteArray) (w : World) (ha : Va.Fit an) (hb : Va.Fit bn) :
    Calls Try.prog 9 #[.int .u8 6, .agg #[.int .u8 1, .int .i64 an, .string at_], .agg #[.int .u8 1, .int .i64 bn, .string bt]] w fun e w' => e = .returned (.tuple #[.agg #[.int .u8 (Va.numbers 6 an bn).1.k, .int .i64 (Va.numbers 6 an bn).1.n, .string (Va.numbers 6 an bn).1.t], .int .i64 (Va.numbers 6 an bn).2]) ∧ Up w w' := by
  by_cases hz : bn = 0
  · subst hz
    rw [show Va.numbers 6 an 0 = (Va.none, 21) by simp [Va.numbers]]
    go_enter Try.func9, Try.ntmps9
    go_wp2_with fail
    exact bodyPost_ret (v := .tuple #[.agg #[.int .u8 0, .int .i64 0, .string ⟨#[]⟩], .int .i64 21]) (by simp [results, Try.results9, go_sem]) rfl ⟨rfl, by (repeat (first | exact Up.refl _ | assumption | refine Up.drew ?_ | refine Up.drewN ?_ _ | refine Up.alloc ?_ _ | refine Up.setCell ?_ (by simp <;> omega) _ | refine Up.trans ?_ (by assumption)))⟩
  have hwh := Va.whole_ok an bn ha hz
  generalize e2 : (an != -9223372036854775808) = p2 at hwh
  generalize e3 : (bn != -1) = p3 at hwh
  have f2 : (an == -9223372036854775808) = !p2 := by rw [← e2]; simp [bne]
  have f3 : (bn == -1) = !p3 := by rw [← e3]; simp [bne]
  have ez : (bn == 0) = false := by simpa using hz
  cases p2 <;> cases p3
  · rw [Va.no_6 an bn hz hwh.symm]
    clear hwh ha hb e2 e3
    go_enter Try.func9, Try.ntmps9
    go_wp2_with fail
    exact bodyPost_ret (v := .tuple #[.agg #[.int .u8 0, .int .i64 0, .string ⟨#[]⟩], .int .i64 20]) (by simp [results, Try.results9, go_sem]) rfl ⟨rfl, by (repeat (first | exact Up.refl _ | assumption | refine Up.drew ?_ | refine Up.drewN ?_ _ | refine Up.alloc ?_ _ | refine Up.setCell ?_ (by simp <;> omega) _ | refine Up.trans ?_ (by assumption)))⟩
  · rw [Va.yes_6 an bn hz hwh.symm]
    have hw := (Va.Fit.iff.2 hwh.symm).wrap
    clear hwh ha hb e2 e3
    go_enter Try.func9, Try.ntmps9
    go_wp2_with fail
    refine (rnum_any _ _).mono ?_; rintro e w1 ⟨rfl, h1⟩
    have u1 := h1
    have hc1 := u1.cells
    have hz1 := u1.size
    try simp at hz1
    go_wp2_with fail
    exact bodyPost_ret (v := .tuple #[.agg #[.int .u8 1, .int .i64 (an.tdiv bn), .string ⟨#[]⟩], .int .i64 0]) (by simp [results, Try.results9, go_sem, hc1]) rfl ⟨rfl, by (repeat (first | exact Up.refl _ | assumption | refine Up.drew ?_ | refine Up.drewN ?_ _ | refine Up.alloc ?_ _ | refine Up.setCell ?_ (by simp <;> omega) _ | refine Up.trans ?_ (by assumption)))⟩
  · rw [Va.yes_6 an bn hz hwh.symm]
    have hw := (Va.Fit.iff.2 hwh.symm).wrap
    clear hwh ha hb e2 e3
    go_enter Try.func9, Try.ntmps9
    go_wp2_with fail
    refine (rnum_any _ _).mono ?_; rintro e w1 ⟨rfl, h1⟩
    have u1 := h1
    have hc1 := u1.cells
    have hz1 := u1.size
    try simp at hz1
    go_wp2_with fail
    exact bodyPost_ret (v := .tuple #[.agg #[.int .u8 1, .int .i64 (an.tdiv bn), .string ⟨#[]⟩], .int .i64 0]) (by simp [results, Try.results9, go_sem, hc1]) rfl ⟨rfl, by (repeat (first | exact Up.refl _ | assumption | refine Up.drew ?_ | refine Up.drewN ?_ _ | refine Up.alloc ?_ _ | refine Up.setCell ?_ (by simp <;> omega) _ | refine Up.trans ?_ (by assumption)))⟩
  · rw [Va.yes_6 an bn hz hwh.symm]
    have hw := (Va.Fit.iff.2 hwh.symm).wrap
    clear hwh ha hb e2 e3
    go_enter Try.func9, Try.ntmps9
    go_wp2_with fail
    refine (rnum_any _ _).mono ?_; rintro e w1 ⟨rfl, h1⟩
    have u1 := h1
    have hc1 := u1.cells
    have hz1 := u1.size
    try simp at hz1
    go_wp2_with fail
    exact bodyPost_ret (v := .tuple #[.agg #[.int .u8 1, .int .i64 (an.tdiv bn), .string ⟨#[]⟩], .int .i64 0]) (by simp [results, Try.results9, go_sem, hc1]) rfl ⟨rfl, by (repeat (first | exact Up.refl _ | assumption | refine Up.drew ?_ | refine Up.drewN ?_ _ | refine Up.alloc ?_ _ | refine Up.setCell ?_ (by simp <;> omega) _ | refine Up.trans ?_ (by assumption)))⟩

set_option maxRecDepth 100000 in
set_option maxHeartbeats 3200000 in
theorem rtwo_ok_1_7 (an bn : Int) (at_ bt : ByteArray) (w : World) (ha : Va.Fit an) (hb : Va.Fit bn) :
    Calls Try.prog 9 #[.int .u8 7, .agg #[.int .u8 1, .int .i64 an, .string at_], .agg #[.int .u8 1, .int .i64 bn, .string bt]] w fun e w' => e = .returned (.tuple #[.agg #[.int .u8 (Va.numbers 7 an bn).1.k, .int .i64 (Va.numbers 7 an bn).1.n, .string (Va.numbers 7 an bn).1.t], .int .i64 (Va.numbers 7 an bn).2]) ∧ Up w w' := by
  by_cases hz : bn = 0
  · subst hz
    rw [show Va.numbers 7 an 0 = (Va.none, 21) by simp [Va.numbers]]
    go_enter Try.func9, Try.ntmps9
    go_wp2_with fail
    exact bodyPost_ret (v := .tuple #[.agg #[.int .u8 0, .int .i64 0, .string ⟨#[]⟩], .int .i64 21]) (by simp [results, Try.results9, go_sem]) rfl ⟨rfl, by (repeat (first | exact Up.refl _ | assumption | refine Up.drew ?_ | refine Up.drewN ?_ _ | refine Up.alloc ?_ _ | refine Up.setCell ?_ (by simp <;> omega) _ | refine Up.trans ?_ (by assumption)))⟩
  have hwh := Va.whole_ok an bn ha hz
  generalize e2 : (an != -9223372036854775808) = p2 at hwh
  generalize e3 : (bn != -1) = p3 at hwh
  have f2 : (an == -9223372036854775808) = !p2 := by rw [← e2]; simp [bne]
  have f3 : (bn == -1) = !p3 := by rw [← e3]; simp [bne]
  have ez : (bn == 0) = false := by simpa using hz
  cases p2 <;> cases p3
  · rw [Va.no_7 an bn hz hwh.symm]
    clear hwh ha hb e2 e3
    go_enter Try.func9, Try.ntmps9
    go_wp2_with fail
    exact bodyPost_ret (v := .tuple #[.agg #[.int .u8 0, .int .i64 0, .string ⟨#[]⟩], .int .i64 20]) (by simp [results, Try.results9, go_sem]) rfl ⟨rfl, by (repeat (first | exact Up.refl _ | assumption | refine Up.drew ?_ | refine Up.drewN ?_ _ | refine Up.alloc ?_ _ | refine Up.setCell ?_ (by simp <;> omega) _ | refine Up.trans ?_ (by assumption)))⟩
  · rw [Va.yes_7 an bn hz hwh.symm]
    have hw := (Va.Fit.iff.2 hwh.symm).wrap
    clear hwh ha hb e2 e3
    go_enter Try.func9, Try.ntmps9
    go_wp2_with fail
    refine (rnum_any _ _).mono ?_; rintro e w1 ⟨rfl, h1⟩
    have u1 := h1
    have hc1 := u1.cells
    have hz1 := u1.size
    try simp at hz1
    go_wp2_with fail
    exact bodyPost_ret (v := .tuple #[.agg #[.int .u8 1, .int .i64 (an.tmod bn), .string ⟨#[]⟩], .int .i64 0]) (by simp [results, Try.results9, go_sem, hc1]) rfl ⟨rfl, by (repeat (first | exact Up.refl _ | assumption | refine Up.drew ?_ | refine Up.drewN ?_ _ | refine Up.alloc ?_ _ | refine Up.setCell ?_ (by simp <;> omega) _ | refine Up.trans ?_ (by assumption)))⟩
  · rw [Va.yes_7 an bn hz hwh.symm]
    have hw := (Va.Fit.iff.2 hwh.symm).wrap
    clear hwh ha hb e2 e3
    go_enter Try.func9, Try.ntmps9
    go_wp2_with fail
    refine (rnum_any _ _).mono ?_; rintro e w1 ⟨rfl, h1⟩
    have u1 := h1
    have hc1 := u1.cells
    have hz1 := u1.size
    try simp at hz1
    go_wp2_with fail
    exact bodyPost_ret (v := .tuple #[.agg #[.int .u8 1, .int .i64 (an.tmod bn), .string ⟨#[]⟩], .int .i64 0]) (by simp [results, Try.results9, go_sem, hc1]) rfl ⟨rfl, by (repeat (first | exact Up.refl _ | assumption | refine Up.drew ?_ | refine Up.drewN ?_ _ | refine Up.alloc ?_ _ | refine Up.setCell ?_ (by simp <;> omega) _ | refine Up.trans ?_ (by assumption)))⟩
  · rw [Va.yes_7 an bn hz hwh.symm]
    have hw := (Va.Fit.iff.2 hwh.symm).wrap
    clear hwh ha hb e2 e3
    go_enter Try.func9, Try.ntmps9
    go_wp2_with fail
    refine (rnum_any _ _).mono ?_; rintro e w1 ⟨rfl, h1⟩
    have u1 := h1
    have hc1 := u1.cells
    have hz1 := u1.size
    try simp at hz1
    go_wp2_with fail
    exact bodyPost_ret (v := .tuple #[.agg #[.int .u8 1, .int .i64 (an.tmod bn), .string ⟨#[]⟩], .int .i64 0]) (by simp [results, Try.results9, go_sem, hc1]) rfl ⟨rfl, by (repeat (first | exact Up.refl _ | assumption | refine Up.drew ?_ | refine Up.drewN ?_ _ | refine Up.alloc ?_ _ | refine Up.setCell ?_ (by simp <;> omega) _ | refine Up.trans ?_ (by assumption)))⟩

end Go.Proofs.Ytpekccomahikbaa
