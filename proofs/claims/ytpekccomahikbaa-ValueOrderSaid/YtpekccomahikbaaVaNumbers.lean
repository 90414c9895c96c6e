/- The walks of value.mul and value.numbers. -/
import Derived.Test.YtpekccomahikbaaVaWalks
import Derived.Deep.DeepCutAuto
import Derived.Laws.EntriesVeiled
import Derived.Laws.Tables
import Derived.Test.YtpekccomahikbaaVaNum
namespace Go.Proofs.Ytpekccomahikbaa
open Go.RowKit Go.Own

theorem beq_ff {a b : Int} (h : a ≠ b) : (a == b) = false := by simpa using h
theorem beq_tt {a b : Int} (h : a = b) : (a == b) = true := by simpa using h

theorem mul_zero (a b : Int) (w : World) (h : a = 0 ∨ b = 0) :
    Calls Try.prog 36 #[.int .i64 a, .int .i64 b] w fun e w' => e = .returned (.tuple #[.int .i64 0, .bool true]) ∧ w = w' := by
  by_cases h0 : a = 0
  · subst h0
    go_enter Try.func36, Try.ntmps36
    go_wp2
    go_ret2
    exact ⟨rfl, rfl⟩
  · obtain rfl : b = 0 := by omega
    have h1 := beq_ff h0
    clear h h0
    go_enter Try.func36, Try.ntmps36
    go_wp2
    go_ret2
    exact ⟨rfl, rfl⟩

theorem mul_edge (a b : Int) (w : World) (h : (a = -1 ∧ b = -9223372036854775808) ∨ (b = -1 ∧ a = -9223372036854775808)) :
    Calls Try.prog 36 #[.int .i64 a, .int .i64 b] w fun e w' => e = .returned (.tuple #[.int .i64 0, .bool false]) ∧ w = w' := by
  rcases h with ⟨rfl, rfl⟩ | ⟨rfl, rfl⟩
  all_goals
    go_enter Try.func36, Try.ntmps36
    go_wp2
    go_ret2
    exact ⟨rfl, rfl⟩

theorem mul_plain (a b : Int) (w : World) (ha : Va.Fit a) (hb : Va.Fit b) (ha0 : a ≠ 0) (hb0 : b ≠ 0)
    (hx : ((a == -1) && (b == -9223372036854775808)) = false) (hy : ((b == -1) && (a == -9223372036854775808)) = false) :
    Calls Try.prog 36 #[.int .i64 a, .int .i64 b] w fun e w' => e = .returned (.tuple #[.int .i64 (wrap64 (a * b)), .bool (Va.inR (a * b))]) ∧ ∃ n, w' = w.drewN n := by
  have h1 := beq_ff ha0
  have h2 := beq_ff hb0
  have hm := Va.mul_ok a b ha hb hb0 (by simpa using hy)
  rw [← hm]
  clear ha hb ha0 hm
  generalize e1 : (a == -1) = p1 at hx
  generalize e2 : (b == -9223372036854775808) = p2 at hx
  generalize e3 : (b == -1) = p3 at hy
  generalize e4 : (a == -9223372036854775808) = p4 at hy
  cases p1 <;> cases p2 <;> cases p3 <;> cases p4
  all_goals first | (exfalso; revert hx; decide) | (exfalso; revert hy; decide) | skip
  all_goals
    clear hx hy
    go_enter Try.func36, Try.ntmps36
    go_wp2_with fail
    go_quiet (fail)
    go_wp2
    go_ret2
    exact ⟨rfl, _, rfl⟩

theorem mul_any (a b : Int) (w : World) (ha : Va.Fit a) (hb : Va.Fit b) :
    Calls Try.prog 36 #[.int .i64 a, .int .i64 b] w fun e w' => ∃ c n, e = .returned (.tuple #[.int .i64 c, .bool (Va.inR (a * b))]) ∧ (Va.inR (a * b) = true → c = a * b) ∧ w' = w.drewN n := by
  by_cases h0 : a = 0 ∨ b = 0
  · have hz : a * b = 0 := by rcases h0 with rfl | rfl <;> simp
    rw [hz]
    exact (mul_zero a b w h0).mono fun e w' ⟨he, hw⟩ => ⟨0, 0, he, fun _ => rfl, hw.symm⟩
  · by_cases h1 : (a = -1 ∧ b = -9223372036854775808) ∨ (b = -1 ∧ a = -9223372036854775808)
    · have hz : Va.inR (a * b) = false := by rcases h1 with ⟨rfl, rfl⟩ | ⟨rfl, rfl⟩ <;> decide
      rw [hz]
      exact (mul_edge a b w h1).mono fun e w' ⟨he, hw⟩ => ⟨0, 0, he, (by simp), hw.symm⟩
    · have hx : ((a == -1) && (b == -9223372036854775808)) = false := by
        rw [Bool.eq_false_iff]; intro h; simp at h; exact h1 (.inl h)
      have hy : ((b == -1) && (a == -9223372036854775808)) = false := by
        rw [Bool.eq_false_iff]; intro h; simp at h; exact h1 (.inr h)
      exact (mul_plain a b w ha hb (by omega) (by omega) hx hy).mono fun e w' ⟨he, n, hw⟩ => ⟨_, n, he, fun h => (Va.Fit.iff.2 h).wrap, hw⟩

theorem clo_mul (a b : Int) (p q : Nat) (w : World) (ha : Va.Fit a) (hb : Va.Fit b) (hp : w.cell? ⟨p, 0, none⟩ = some (.int .i64 a)) (hq : w.cell? ⟨q, 0, none⟩ = some (.int .i64 b)) :
    Calls Try.prog 35 #[.pointer (some ⟨p, 0, none⟩), .pointer (some ⟨q, 0, none⟩)] w fun e w' => ∃ c n, e = .returned (.tuple #[.int .i64 c, .bool (Va.inR (a * b))]) ∧ (Va.inR (a * b) = true → c = a * b) ∧ w' = w.drewN n := by
  have H := Lib.hid (fun w => mul_any a b w ha hb)
  clear ha hb
  go_enter Try.func35, Try.ntmps35
  go_wp2_with fail
  refine (H.out _).mono ?_; rintro e w1 ⟨c, n, rfl, hc, rfl⟩
  have Hc := Lib.hid hc
  clear hc
  go_wp2
  go_ret2
  exact ⟨c, n, rfl, Hc.out, rfl⟩

theorem clo_2 (a b : Int) (c : Bool) (p q r : Nat) (w : World) (hb0 : b ≠ 0) (hp : w.cell? ⟨p, 0, none⟩ = some (.int .i64 a)) (hq : w.cell? ⟨q, 0, none⟩ = some (.int .i64 b)) (hr : w.cell? ⟨r, 0, none⟩ = some (.bool c)) :
    Calls Try.prog 37 #[.pointer (some ⟨p, 0, none⟩), .pointer (some ⟨q, 0, none⟩), .pointer (some ⟨r, 0, none⟩)] w fun e w' => e = .returned (.tuple #[.int .i64 (wrap64 (a.tdiv b)), .bool c]) ∧ ∃ n, w' = w.drewN n := by
  go_enter Try.func37, Try.ntmps37
  go_wp2_with fail
  go_quiet (fail)
  go_wp2
  go_ret2
  exact ⟨rfl, _, rfl⟩

theorem clo_3 (a b : Int) (c : Bool) (p q r : Nat) (w : World) (hb0 : b ≠ 0) (hp : w.cell? ⟨p, 0, none⟩ = some (.int .i64 a)) (hq : w.cell? ⟨q, 0, none⟩ = some (.int .i64 b)) (hr : w.cell? ⟨r, 0, none⟩ = some (.bool c)) :
    Calls Try.prog 38 #[.pointer (some ⟨p, 0, none⟩), .pointer (some ⟨q, 0, none⟩), .pointer (some ⟨r, 0, none⟩)] w fun e w' => e = .returned (.tuple #[.int .i64 (a.tmod b), .bool c]) ∧ ∃ n, w' = w.drewN n := by
  go_enter Try.func38, Try.ntmps38
  go_wp2_with fail
  go_quiet (fail)
  go_wp2
  go_ret2
  exact ⟨rfl, _, rfl⟩

theorem clo_4 (a b : Int) (p q : Nat) (w : World) (hp : w.cell? ⟨p, 0, none⟩ = some (.int .i64 a)) (hq : w.cell? ⟨q, 0, none⟩ = some (.int .i64 b)) :
    Calls Try.prog 39 #[.pointer (some ⟨p, 0, none⟩), .pointer (some ⟨q, 0, none⟩)] w fun e w' => e = .returned (.tuple #[.int .i64 (wrap64 (a + b)), .bool (decide (wrap64 (a + b) < a) == decide (b < 0))]) ∧ ∃ n, w' = w.drewN n := by
  go_enter Try.func39, Try.ntmps39
  go_wp2_with fail
  go_quiet (fail)
  go_wp2
  go_ret2
  exact ⟨rfl, _, rfl⟩

theorem clo_5 (a b : Int) (p q : Nat) (w : World) (hp : w.cell? ⟨p, 0, none⟩ = some (.int .i64 a)) (hq : w.cell? ⟨q, 0, none⟩ = some (.int .i64 b)) :
    Calls Try.prog 40 #[.pointer (some ⟨p, 0, none⟩), .pointer (some ⟨q, 0, none⟩)] w fun e w' => e = .returned (.tuple #[.int .i64 (wrap64 (a - b)), .bool (decide (a < wrap64 (a - b)) == decide (b < 0))]) ∧ ∃ n, w' = w.drewN n := by
  go_enter Try.func40, Try.ntmps40
  go_wp2_with fail
  go_quiet (fail)
  go_wp2
  go_ret2
  exact ⟨rfl, _, rfl⟩

end Go.Proofs.Ytpekccomahikbaa
