/- The walks of the document's own answer, layer 9: Num, Truth, Yes, less, same, told, add, sub, mul. -/
import Derived.Test.YtpekccomahikbaaVaWalks
import Derived.Test.YtpekccomahikbaaVaNum
import Derived.Test.YtpekccomahikbaaVaRefPlain
import Derived.Deep.RegionWith
import Derived.Deep.DeepCutAuto
namespace Go.Proofs.Ytpekccomahikbaa
open Go.RowKit Go.Own

theorem rnum_any (n : Int) (w : World) :
    Calls Try.prog 30 #[.int .i64 n] w fun e w' => e = .returned (.agg #[.int .u8 1, .int .i64 n, .string ⟨#[]⟩]) ∧ Up w w' := by
  go_enter Try.func30, Try.ntmps30
  go_wp2
  exact bodyPost_ret (v := .agg #[.int .u8 1, .int .i64 n, .string ⟨#[]⟩]) (by simp [results, Try.results30, go_sem]) rfl ⟨rfl, by (repeat (first | exact Up.refl _ | assumption | refine Up.drew ?_ | refine Up.drewN ?_ _ | refine Up.alloc ?_ _ | refine Up.setCell ?_ (by simp <;> omega) _ | refine Up.trans ?_ (by assumption)))⟩

theorem rtruth_any (b : Bool) (w : World) :
    Calls Try.prog 22 #[.bool b] w fun e w' => e = .returned (.agg #[.int .u8 2, .int .i64 (if b then 1 else 0), .string ⟨#[]⟩]) ∧ Up w w' := by
  cases b
  · go_enter Try.func22, Try.ntmps22
    go_wp2
    exact bodyPost_ret (v := .agg #[.int .u8 2, .int .i64 0, .string ⟨#[]⟩]) (by simp [results, Try.results22, go_sem]) rfl ⟨rfl, by (repeat (first | exact Up.refl _ | assumption | refine Up.drew ?_ | refine Up.drewN ?_ _ | refine Up.alloc ?_ _ | refine Up.setCell ?_ (by simp <;> omega) _ | refine Up.trans ?_ (by assumption)))⟩
  · go_enter Try.func22, Try.ntmps22
    go_wp2
    exact bodyPost_ret (v := .agg #[.int .u8 2, .int .i64 1, .string ⟨#[]⟩]) (by simp [results, Try.results22, go_sem]) rfl ⟨rfl, by (repeat (first | exact Up.refl _ | assumption | refine Up.drew ?_ | refine Up.drewN ?_ _ | refine Up.alloc ?_ _ | refine Up.setCell ?_ (by simp <;> omega) _ | refine Up.trans ?_ (by assumption)))⟩

theorem ryes_any (k n : Int) (t : ByteArray) (w : World) :
    Calls Try.prog 25 #[.agg #[.int .u8 k, .int .i64 n, .string t]] w fun e w' => e = .returned (.bool ((k == 2) && (n != 0))) ∧ Up w w' := by
  by_cases h : (k == 2) = true
  · go_enter Try.func25, Try.ntmps25
    go_wp2
    go_ret
    exact ⟨by simp [h], by (repeat (first | exact Up.refl _ | assumption | refine Up.drew ?_ | refine Up.drewN ?_ _ | refine Up.alloc ?_ _ | refine Up.setCell ?_ (by simp <;> omega) _ | refine Up.trans ?_ (by assumption)))⟩
  · have h : (k == 2) = false := by simpa using h
    go_enter Try.func25, Try.ntmps25
    go_wp2
    go_ret
    exact ⟨by simp [h], by (repeat (first | exact Up.refl _ | assumption | refine Up.drew ?_ | refine Up.drewN ?_ _ | refine Up.alloc ?_ _ | refine Up.setCell ?_ (by simp <;> omega) _ | refine Up.trans ?_ (by assumption)))⟩

theorem rless_any (ak an bk bn : Int) (at_ bt : ByteArray) (w : World) :
    Calls Try.prog 23 #[.agg #[.int .u8 ak, .int .i64 an, .string at_], .agg #[.int .u8 bk, .int .i64 bn, .string bt]] w fun e w' => e = .returned (.bool (decide (Va.cmp ⟨ak, an, at_⟩ ⟨bk, bn, bt⟩ < 0))) ∧ Up w w' := by
  by_cases h : ak = 3
  · have e : decide (Va.cmp ⟨ak, an, at_⟩ ⟨bk, bn, bt⟩ < 0) = Op.bytesLess at_.toList bt.toList := by rw [Va.bytesLess_eq]; simp [Va.cmp, h]
    rw [e]
    subst h
    clear e
    go_enter Try.func23, Try.ntmps23
    go_wp2
    go_ret
    exact ⟨rfl, by (repeat (first | exact Up.refl _ | assumption | refine Up.drew ?_ | refine Up.drewN ?_ _ | refine Up.alloc ?_ _ | refine Up.setCell ?_ (by simp <;> omega) _ | refine Up.trans ?_ (by assumption)))⟩
  · have e : decide (Va.cmp ⟨ak, an, at_⟩ ⟨bk, bn, bt⟩ < 0) = decide (an < bn) := by rw [Va.cmp_int_lt _ _ h]
    rw [e]
    have h : (ak == 3) = false := by simp [h]
    clear e
    go_enter Try.func23, Try.ntmps23
    go_wp2
    go_ret
    exact ⟨rfl, by (repeat (first | exact Up.refl _ | assumption | refine Up.drew ?_ | refine Up.drewN ?_ _ | refine Up.alloc ?_ _ | refine Up.setCell ?_ (by simp <;> omega) _ | refine Up.trans ?_ (by assumption)))⟩

theorem rtold_yes (n : Int) (w : World) :
    Calls Try.prog 26 #[.int .i64 n, .bool true] w fun e w' => e = .returned (.tuple #[.agg #[.int .u8 1, .int .i64 n, .string ⟨#[]⟩], .int .i64 0]) ∧ Up w w' := by
  go_enter Try.func26, Try.ntmps26
  go_wp2_with fail
  refine (rnum_any _ _).mono ?_; rintro e w1 ⟨rfl, h1⟩
  have hc1 := h1.cells
  have hz1 := h1.size
  simp at hz1
  go_wp2_with fail
  exact bodyPost_ret (v := .tuple #[.agg #[.int .u8 1, .int .i64 n, .string ⟨#[]⟩], .int .i64 0]) (by simp [results, Try.results26, go_sem, hc1]) rfl ⟨rfl, by (repeat (first | exact Up.refl _ | assumption | refine Up.drew ?_ | refine Up.drewN ?_ _ | refine Up.alloc ?_ _ | refine Up.setCell ?_ (by simp <;> omega) _ | refine Up.trans ?_ (by assumption)))⟩

theorem rtold_no (n : Int) (w : World) :
    Calls Try.prog 26 #[.int .i64 n, .bool false] w fun e w' => e = .returned (.tuple #[.agg #[.int .u8 0, .int .i64 0, .string ⟨#[]⟩], .int .i64 20]) ∧ Up w w' := by
  go_enter Try.func26, Try.ntmps26
  go_wp2_with fail
  exact bodyPost_ret (v := .tuple #[.agg #[.int .u8 0, .int .i64 0, .string ⟨#[]⟩], .int .i64 20]) (by simp [results, Try.results26, go_sem]) rfl ⟨rfl, by (repeat (first | exact Up.refl _ | assumption | refine Up.drew ?_ | refine Up.drewN ?_ _ | refine Up.alloc ?_ _ | refine Up.setCell ?_ (by simp <;> omega) _ | refine Up.trans ?_ (by assumption)))⟩

theorem radd_any (a b : Int) (w : World) (ha : Va.Fit a) (hb : Va.Fit b) :
    Calls Try.prog 29 #[.int .i64 a, .int .i64 b] w fun e w' => e = .returned (.tuple #[.int .i64 (if Va.inR (a + b) then a + b else 0), .bool (Va.inR (a + b))]) ∧ w = w' := by
  have ha1 := ha.1; have ha2 := ha.2; have hb1 := hb.1; have hb2 := hb.2
  cases h : Va.inR (a + b)
  · have h := Va.not_fit h
    unfold Va.Fit at h
    go_enter Try.func29, Try.ntmps29
    go_wp2_with fail
    all_goals (go_ret2; exact ⟨rfl, rfl⟩)
  · have h := Va.Fit.iff.2 h
    unfold Va.Fit at h
    go_enter Try.func29, Try.ntmps29
    go_wp2_with fail
    all_goals (go_ret2; exact ⟨rfl, rfl⟩)
theorem rsub_any (a b : Int) (w : World) (ha : Va.Fit a) (hb : Va.Fit b) :
    Calls Try.prog 28 #[.int .i64 a, .int .i64 b] w fun e w' => e = .returned (.tuple #[.int .i64 (if Va.inR (a - b) then a - b else 0), .bool (Va.inR (a - b))]) ∧ w = w' := by
  have ha1 := ha.1; have ha2 := ha.2; have hb1 := hb.1; have hb2 := hb.2
  cases h : Va.inR (a - b)
  · have h := Va.not_fit h
    unfold Va.Fit at h
    go_enter Try.func28, Try.ntmps28
    go_wp2_with fail
    all_goals (go_ret2; exact ⟨rfl, rfl⟩)
  · have h := Va.Fit.iff.2 h
    unfold Va.Fit at h
    go_enter Try.func28, Try.ntmps28
    go_wp2_with fail
    all_goals (go_ret2; exact ⟨rfl, rfl⟩)

theorem rmul_zero (a b : Int) (w : World) (h : a = 0 ∨ b = 0) :
    Calls Try.prog 27 #[.int .i64 a, .int .i64 b] w fun e w' => e = .returned (.tuple #[.int .i64 0, .bool true]) ∧ w = w' := by
  by_cases h0 : a = 0
  · subst h0
    go_enter Try.func27, Try.ntmps27
    go_wp2
    go_ret2
    exact ⟨rfl, rfl⟩
  · obtain rfl : b = 0 := by omega
    have h1 : (a == 0) = false := by simpa using h0
    clear h h0
    go_enter Try.func27, Try.ntmps27
    go_wp2
    go_ret2
    exact ⟨rfl, rfl⟩

theorem rmul_pp (a b : Int) (w : World) (pa : 0 < a) (pb : 0 < b) :
    Calls Try.prog 27 #[.int .i64 a, .int .i64 b] w fun e w' => e = .returned (.tuple #[.int .i64 (if Va.inR (a * b) then a * b else 0), .bool (Va.inR (a * b))]) ∧ w = w' := by
  have za : (a == 0) = false := by rw [beq_eq_false_iff_ne]; omega
  have zb : (b == 0) = false := by rw [beq_eq_false_iff_ne]; omega
  have k := Va.mul_pp a b pa pb
  by_cases h : 9223372036854775807 / b < a
  · rw [show Va.inR (a * b) = false by rw [Bool.eq_false_iff, ne_eq, k]; exact fun c => c h]
    clear k
    go_enter Try.func27, Try.ntmps27
    go_wp2_with fail
    all_goals (go_ret2; exact ⟨rfl, rfl⟩)
  · have hw := Lib.hid (Va.Fit.iff.2 (k.2 h)).wrap
    rw [show Va.inR (a * b) = true from k.2 h]
    clear k
    go_enter Try.func27, Try.ntmps27
    go_wp2_with fail
    all_goals (go_ret2; exact ⟨congrArg (fun x => Ending.returned (.tuple #[.int .i64 x, .bool true])) hw.out, rfl⟩)

theorem rmul_least (a b : Int) (w : World) (pa : a < 0) (pb : b < 0) (h : a = -9223372036854775808 ∨ b = -9223372036854775808) :
    Calls Try.prog 27 #[.int .i64 a, .int .i64 b] w fun e w' => e = .returned (.tuple #[.int .i64 0, .bool false]) ∧ w = w' := by
  have za : (a == 0) = false := by rw [beq_eq_false_iff_ne]; omega
  have zb : (b == 0) = false := by rw [beq_eq_false_iff_ne]; omega
  generalize e1 : (a == -9223372036854775808) = p
  generalize e2 : (b == -9223372036854775808) = q
  have hpq : (p || q) = true := by rw [← e1, ← e2]; simpa using h
  clear h
  cases p <;> cases q
  all_goals first | (exfalso; revert hpq; decide) | skip
  all_goals
    clear hpq
    go_enter Try.func27, Try.ntmps27
    go_wp2_with fail
    all_goals (go_ret2; exact ⟨rfl, rfl⟩)

theorem rmul_nn (a b : Int) (w : World) (ha : Va.Fit a) (hb : Va.Fit b) (pa : a < 0) (pb : b < 0) (na : a ≠ -9223372036854775808) (nb : b ≠ -9223372036854775808) :
    Calls Try.prog 27 #[.int .i64 a, .int .i64 b] w fun e w' => e = .returned (.tuple #[.int .i64 (if Va.inR (a * b) then a * b else 0), .bool (Va.inR (a * b))]) ∧ w = w' := by
  have za : (a == 0) = false := by rw [beq_eq_false_iff_ne]; omega
  have zb : (b == 0) = false := by rw [beq_eq_false_iff_ne]; omega
  have ha1 : -9223372036854775807 ≤ a := by have := ha.1; omega
  have hb1 : -9223372036854775807 ≤ b := by have := hb.1; omega
  have ea : (a == -9223372036854775808) = false := by simpa using na
  have eb : (b == -9223372036854775808) = false := by simpa using nb
  clear ha hb na nb
  have k := Va.mul_nn' a b pa pb
  by_cases h : wrap64 (-Int.tdiv 9223372036854775807 b) < -a
  · rw [show Va.inR (a * b) = false by rw [Bool.eq_false_iff, ne_eq, k]; exact fun c => c h]
    clear k
    go_enter Try.func27, Try.ntmps27
    go_wp2_with fail
    all_goals (go_ret2; exact ⟨rfl, rfl⟩)
  · have hw := Lib.hid (Va.Fit.iff.2 (k.2 h)).wrap
    rw [show Va.inR (a * b) = true from k.2 h]
    clear k
    go_enter Try.func27, Try.ntmps27
    go_wp2_with fail
    all_goals (go_ret2; exact ⟨congrArg (fun x => Ending.returned (.tuple #[.int .i64 x, .bool true])) hw.out, rfl⟩)

theorem rmul_pn (a b : Int) (w : World) (pa : 0 < a) (pb : b < 0) :
    Calls Try.prog 27 #[.int .i64 a, .int .i64 b] w fun e w' => e = .returned (.tuple #[.int .i64 (if Va.inR (a * b) then a * b else 0), .bool (Va.inR (a * b))]) ∧ w = w' := by
  have za : (a == 0) = false := by rw [beq_eq_false_iff_ne]; omega
  have zb : (b == 0) = false := by rw [beq_eq_false_iff_ne]; omega
  have k := Va.mul_pn' a b pa pb
  by_cases h : b < wrap64 (-Int.tdiv 9223372036854775808 a)
  · rw [show Va.inR (a * b) = false by rw [Bool.eq_false_iff, ne_eq, k]; exact fun c => c h]
    clear k
    go_enter Try.func27, Try.ntmps27
    go_wp2_with fail
    all_goals (go_ret2; exact ⟨rfl, rfl⟩)
  · have hw := Lib.hid (Va.Fit.iff.2 (k.2 h)).wrap
    rw [show Va.inR (a * b) = true from k.2 h]
    clear k
    go_enter Try.func27, Try.ntmps27
    go_wp2_with fail
    all_goals (go_ret2; exact ⟨congrArg (fun x => Ending.returned (.tuple #[.int .i64 x, .bool true])) hw.out, rfl⟩)

theorem rmul_np (a b : Int) (w : World) (pa : a < 0) (pb : 0 < b) :
    Calls Try.prog 27 #[.int .i64 a, .int .i64 b] w fun e w' => e = .returned (.tuple #[.int .i64 (if Va.inR (a * b) then a * b else 0), .bool (Va.inR (a * b))]) ∧ w = w' := by
  have za : (a == 0) = false := by rw [beq_eq_false_iff_ne]; omega
  have zb : (b == 0) = false := by rw [beq_eq_false_iff_ne]; omega
  have k := Va.mul_np' a b pa pb
  by_cases h : a < wrap64 (-Int.tdiv 9223372036854775808 b)
  · rw [show Va.inR (a * b) = false by rw [Bool.eq_false_iff, ne_eq, k]; exact fun c => c h]
    clear k
    go_enter Try.func27, Try.ntmps27
    go_wp2_with fail
    all_goals (go_ret2; exact ⟨rfl, rfl⟩)
  · have hw := Lib.hid (Va.Fit.iff.2 (k.2 h)).wrap
    rw [show Va.inR (a * b) = true from k.2 h]
    clear k
    go_enter Try.func27, Try.ntmps27
    go_wp2_with fail
    all_goals (go_ret2; exact ⟨congrArg (fun x => Ending.returned (.tuple #[.int .i64 x, .bool true])) hw.out, rfl⟩)

theorem rmul_any (a b : Int) (w : World) (ha : Va.Fit a) (hb : Va.Fit b) :
    Calls Try.prog 27 #[.int .i64 a, .int .i64 b] w fun e w' => e = .returned (.tuple #[.int .i64 (if Va.inR (a * b) then a * b else 0), .bool (Va.inR (a * b))]) ∧ w = w' := by
  by_cases h0 : a = 0 ∨ b = 0
  · have hz : a * b = 0 := by rcases h0 with rfl | rfl <;> simp
    rw [hz]
    exact rmul_zero a b w h0
  · by_cases pa : 0 < a
    · by_cases pb : 0 < b
      · exact rmul_pp a b w pa pb
      · exact rmul_pn a b w pa (by omega)
    · by_cases pb : 0 < b
      · exact rmul_np a b w (by omega) pb
      · by_cases hl : a = -9223372036854775808 ∨ b = -9223372036854775808
        · rw [Va.least_nn a b (by omega) (by omega) hl]
          exact rmul_least a b w (by omega) (by omega) hl
        · exact rmul_nn a b w ha hb (by omega) (by omega) (by omega) (by omega)

theorem rsame_truth (an bn : Int) (at_ bt : ByteArray) (w : World) :
    Calls Try.prog 24 #[.agg #[.int .u8 2, .int .i64 an, .string at_], .agg #[.int .u8 2, .int .i64 bn, .string bt]] w fun e w' => e = .returned (.bool ((an != 0) == (bn != 0))) ∧ Up w w' := by
  go_enter Try.func24, Try.ntmps24
  go_wp2_with fail
  go_region_with (go_at_call 25; refine (ryes_any _ _ _ _).mono ?_; rintro e w1 ⟨rfl, h1⟩; have hc1 := h1.cells)
  all_goals
    go_wp2_with fail
    go_ret
    exact ⟨rfl, by (repeat (first | exact Up.refl _ | assumption | refine Up.drew ?_ | refine Up.drewN ?_ _ | refine Up.alloc ?_ _ | refine Up.setCell ?_ (by simp <;> omega) _ | refine Up.trans ?_ (by assumption)))⟩

theorem rsame_other (k an bn : Int) (at_ bt : ByteArray) (w : World) (hk : k ≠ 2) :
    Calls Try.prog 24 #[.agg #[.int .u8 k, .int .i64 an, .string at_], .agg #[.int .u8 k, .int .i64 bn, .string bt]] w fun e w' => e = .returned (.bool (!decide (Va.cmp ⟨k, an, at_⟩ ⟨k, bn, bt⟩ < 0) && !decide (Va.cmp ⟨k, bn, bt⟩ ⟨k, an, at_⟩ < 0))) ∧ Up w w' := by
  have hk : (k == 2) = false := by simpa using hk
  have h1 := Lib.hid (fun w => rless_any k an k bn at_ bt w)
  have h2 := Lib.hid (fun w => rless_any k bn k an bt at_ w)
  generalize decide (Va.cmp ⟨k, an, at_⟩ ⟨k, bn, bt⟩ < 0) = p at h1 ⊢
  generalize decide (Va.cmp ⟨k, bn, bt⟩ ⟨k, an, at_⟩ < 0) = q at h2 ⊢
  cases p
  · go_enter Try.func24, Try.ntmps24
    go_wp2_with fail
    refine (h1.out _).mono ?_; rintro e w1 ⟨rfl, u1⟩
    have hc1 := u1.cells
    go_wp2_with fail
    refine (h2.out _).mono ?_; rintro e w2 ⟨rfl, u2⟩
    go_wp2_with fail
    go_ret
    exact ⟨rfl, by (repeat (first | exact Up.refl _ | assumption | refine Up.drew ?_ | refine Up.drewN ?_ _ | refine Up.alloc ?_ _ | refine Up.setCell ?_ (by simp <;> omega) _ | refine Up.trans ?_ (by assumption)))⟩
  · go_enter Try.func24, Try.ntmps24
    go_wp2_with fail
    refine (h1.out _).mono ?_; rintro e w1 ⟨rfl, u1⟩
    go_wp2_with fail
    go_ret
    exact ⟨rfl, by (repeat (first | exact Up.refl _ | assumption | refine Up.drew ?_ | refine Up.drewN ?_ _ | refine Up.alloc ?_ _ | refine Up.setCell ?_ (by simp <;> omega) _ | refine Up.trans ?_ (by assumption)))⟩
end Go.Proofs.Ytpekccomahikbaa
