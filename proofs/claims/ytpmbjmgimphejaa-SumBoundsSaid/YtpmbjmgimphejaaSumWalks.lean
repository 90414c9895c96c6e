/- The walks of package sum: over, Sum, Add, Both. -/
import Derived.Test.YtpmbjmgimphejaaRows
import Derived.WalkKit
import Derived.WalkSpells
import Derived.Test.YtpmbjmgimphejaaKit
import Derived.Outline
import Derived.Test.YtpmbjmgimphejaaSumPlain
namespace Go.Proofs.Ytpmbjmgimphejaa
open Go.RowKit Go.Own

theorem or_join (p : Nat × Nat) (hx : p.1 < 65536) (hy : p.2 < 65536) : bits .or .u32 ((p.2 : Int) * 65536) p.1 = (Sm.val p : Nat) := by
  obtain ⟨x, y⟩ := p
  simp only at hx hy
  have e : (y : Int) * (65536 : Int) = ((y <<< 16 : Nat) : Int) := by rw [Nat.shiftLeft_eq]; omega
  simp only [e]
  rw [u32_or_nat _ _ (by rw [Nat.shiftLeft_eq]; omega) (by omega), ← Nat.shiftLeft_add_eq_or_of_lt (by omega), Nat.shiftLeft_eq]
  rfl

set_option maxHeartbeats 400000 in
theorem over_any (a b : Nat) (s : ByteArray) (B : Nat) (w : World) (hs : s.size ≤ maxLen) (ha : a < 65536) (hb : b < 65536)
    (hc : w.cell? ⟨B, 0, none⟩ = some (.string s)) :
    Calls Try.prog 16 #[.int .u32 a, .int .u32 b, .slice (some ⟨B, 0, none⟩) 1 1] w fun e w' => e = .returned (.int .u32 (Sm.val (Sm.run (a, b) s.data.toList))) ∧ w = w' := by
  unfold maxLen at hs
  go_enter Try.func16, Try.ntmps16
  go_wp2
  go_loop [0, 1, 12] (fun x y i => (x = .int .u32 a ∧ y = .int .u32 b ∧ i = .int .i64 0) ∨ (x = .int .u32 (Sm.run (a, b) s.data.toList).1 ∧ y = .int .u32 (Sm.run (a, b) s.data.toList).2 ∧ i = .int .i64 1)) (fun _ _ i => 1 - (intOf i).toNat)
  case atStart => exact .inl ⟨rfl, rfl, rfl⟩
  case round =>
    rcases hrel with ⟨rfl, rfl, rfl⟩ | ⟨rfl, rfl, rfl⟩
    · go_wp2
      go_loop [0, 1, 18] (fun x y i => ∃ k : Nat, k ≤ s.size ∧ x = .int .u32 (Sm.run (a, b) (s.data.toList.take k)).1 ∧ y = .int .u32 (Sm.run (a, b) (s.data.toList.take k)).2 ∧ i = .int .i64 k) (fun _ _ i => s.size - (intOf i).toNat)
      case atStart => exact ⟨0, Nat.zero_le _, rfl, rfl, rfl⟩
      case round =>
        obtain ⟨k, hk, rfl, rfl, rfl⟩ := hrel
        obtain ⟨h1, h2⟩ := Sm.run_lt (a, b) (s.data.toList.take k) ⟨ha, hb⟩
        by_cases hlt : k < s.size
        · have HS := Lib.hid (Sm.run_take (a, b) s k hlt)
          generalize Sm.run (a, b) (s.data.toList.take k) = p at *
          obtain ⟨x, y⟩ := p
          simp only at h1 h2
          have hx : s[k].toNat < 256 := s[k].toNat_lt
          go_wp2
          go_round
          case rel => exact ⟨k + 1, by omega, by rw [HS.out]; simp [Sm.st], by rw [HS.out]; simp [Sm.st], by go_num⟩
          case measure => simp [intOf]; omega
        · obtain rfl : k = s.size := by omega
          rw [Sm.take_all]
          go_wp2
          go_round
          case rel => exact .inr ⟨rfl, rfl, rfl⟩
          case measure => simp [intOf]
    · obtain ⟨h1, h2⟩ := Sm.run_lt (a, b) s.data.toList ⟨ha, hb⟩
      go_wp2
      go_ret
      exact ⟨ret_int (or_join _ h1 h2), rfl⟩

theorem over_int (x y : Int) (s : ByteArray) (B : Nat) (w : World) (hs : s.size ≤ maxLen) (ha : 0 ≤ x ∧ x < 65536) (hb : 0 ≤ y ∧ y < 65536)
    (hc : w.cell? ⟨B, 0, none⟩ = some (.string s)) :
    Calls Try.prog 16 #[.int .u32 x, .int .u32 y, .slice (some ⟨B, 0, none⟩) 1 1] w fun e w' => e = .returned (.int .u32 (Sm.val (Sm.run (x.toNat, y.toNat) s.data.toList))) ∧ w = w' := by
  have h := over_any x.toNat y.toNat s B w hs (by omega) (by omega) hc
  rwa [Int.toNat_of_nonneg ha.1, Int.toNat_of_nonneg hb.1] at h

/-- Sum -/
theorem sum_any (s : ByteArray) (w : World) (hs : s.size ≤ maxLen) :
    Calls Try.prog 9 #[.string s] w fun e w' => e = .returned (.int .u32 (Sm.val (Sm.run (1, 0) s.data.toList))) ∧ Up w w' := by
  go_enter Try.func9, Try.ntmps9
  go_wp2_with fail
  refine (over_int 1 0 s _ _ hs (by decide) (by decide) (by simp)).mono ?_; rintro e w1 ⟨rfl, rfl⟩
  go_wp2
  go_ret
  exact ⟨rfl, (Up.refl _).alloc _⟩

theorem and_low (x : Int) (hx : 0 ≤ x ∧ x < 4294967296) : bits .and .u32 x 65535 = x % 65536 := by
  obtain ⟨n, rfl⟩ := Int.eq_ofNat_of_zero_le hx.1
  have e := u32_and_nat n 65535 (by omega) (by decide)
  rw [show (65535 : Nat) = 2 ^ 16 - 1 from rfl, Nat.and_two_pow_sub_one_eq_mod] at e
  exact e.trans (by omega)

/-- Add -/
theorem add_any (x : Int) (s : ByteArray) (w : World) (hs : s.size ≤ maxLen) (hx : 0 ≤ x ∧ x < 4294967296) :
    Calls Try.prog 12 #[.int .u32 x, .string s] w fun e w' => e = .returned (.int .u32 (Sm.val (Sm.run ((x % 65536).toNat, (x / 65536).toNat) s.data.toList))) ∧ Up w w' := by
  have hl := and_low x hx
  go_enter Try.func12, Try.ntmps12
  go_wp2_with fail
  clear hl
  refine (over_int (x % 65536) (x / 65536) s _ _ hs (by omega) (by omega) (by simp)).mono ?_; rintro e w1 ⟨rfl, rfl⟩
  go_wp2
  go_ret
  exact ⟨rfl, (Up.refl _).alloc _⟩

/-- Both -/
theorem both_any (x : Int) (w : World) (hx : 0 ≤ x ∧ x < 4294967296) :
    Calls Try.prog 10 #[.int .u32 x] w fun e w' => e = .returned (.tuple #[.int .i64 (x % 65536), .int .i64 (x / 65536)]) ∧ w = w' := by
  have hl := and_low x hx
  go_enter Try.func10, Try.ntmps10
  go_wp2
  go_ret2
  exact ⟨rfl, rfl⟩
end Go.Proofs.Ytpmbjmgimphejaa
