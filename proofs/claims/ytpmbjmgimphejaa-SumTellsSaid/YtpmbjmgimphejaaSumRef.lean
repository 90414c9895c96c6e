/- The walks of the document's own answer, layer 1: Both, Add, Sum. -/
import Derived.Test.YtpmbjmgimphejaaSumWalks
namespace Go.Proofs.Ytpmbjmgimphejaa
open Go.RowKit Go.Own

theorem refBoth_any (x : Int) (w : World) (hx : 0 ≤ x ∧ x < 4294967296) :
    Calls Try.prog 13 #[.int .u32 x] w fun e w' => e = .returned (.tuple #[.int .i64 (x % 65536), .int .i64 (x / 65536)]) ∧ w = w' := by
  go_enter Try.func13, Try.ntmps13
  go_wp2
  go_ret2
  exact ⟨rfl, rfl⟩

set_option maxHeartbeats 400000 in
theorem refAdd_nat (n : Nat) (s : ByteArray) (w : World) (hs : s.size ≤ maxLen) (hx : n < 4294967296) :
    Calls Try.prog 15 #[.int .u32 n, .string s] w fun e w' => e = .returned (.int .u32 (Sm.val (Sm.run (n % 65536, n / 65536) s.data.toList))) ∧ w = w' := by
  unfold maxLen at hs
  go_enter Try.func15, Try.ntmps15
  go_wp2_with (go_at_call 13; refine (refBoth_any _ _ (by omega)).mono ?_; rintro e w1 ⟨rfl, rfl⟩)
  go_loop [5, 6, 7] (fun x y i => ∃ k : Nat, k ≤ s.size ∧ x = .int .i64 (Sm.run (n % 65536, n / 65536) (s.data.toList.take k)).1 ∧ y = .int .i64 (Sm.run (n % 65536, n / 65536) (s.data.toList.take k)).2 ∧ i = .int .i64 k) (fun _ _ i => s.size - (intOf i).toNat)
  case atStart => exact ⟨0, Nat.zero_le _, by simp [Sm.run_nil], by simp [Sm.run_nil], rfl⟩
  case round =>
    obtain ⟨k, hk, rfl, rfl, rfl⟩ := hrel
    obtain ⟨h1, h2⟩ := Sm.run_lt (n % 65536, n / 65536) (s.data.toList.take k) ⟨by simp only; omega, by simp only; omega⟩
    by_cases hlt : k < s.size
    · have HS := Lib.hid (Sm.run_take (n % 65536, n / 65536) s k hlt)
      generalize Sm.run (n % 65536, n / 65536) (s.data.toList.take k) = p at *
      obtain ⟨x, y⟩ := p
      simp only at h1 h2
      have hx : s[k].toNat < 256 := s[k].toNat_lt
      go_wp2
      go_round
      case rel => exact ⟨k + 1, by omega, by rw [HS.out]; simp [Sm.st], by rw [HS.out]; simp [Sm.st], by go_num⟩
      case measure => simp [intOf]; omega
    · obtain rfl : k = s.size := by omega
      have HE := Lib.hid (Sm.take_all s)
      generalize s.data.toList.take s.size = l at *
      go_wp2
      go_ret
      exact ⟨ret_int (by rw [HE.out]; simp only [Sm.val]; rw [HE.out] at h1 h2; omega), rfl⟩

theorem refAdd_any (x : Int) (s : ByteArray) (w : World) (hs : s.size ≤ maxLen) (hx : 0 ≤ x ∧ x < 4294967296) :
    Calls Try.prog 15 #[.int .u32 x, .string s] w fun e w' => e = .returned (.int .u32 (Sm.val (Sm.run ((x % 65536).toNat, (x / 65536).toNat) s.data.toList))) ∧ w = w' := by
  obtain ⟨n, rfl⟩ := Int.eq_ofNat_of_zero_le hx.1
  have h := refAdd_nat n s w hs (by omega)
  rwa [show ((n : Int) % 65536).toNat = n % 65536 from by omega, show ((n : Int) / 65536).toNat = n / 65536 from by omega]

theorem refSum_any (s : ByteArray) (w : World) (hs : s.size ≤ maxLen) :
    Calls Try.prog 14 #[.string s] w fun e w' => e = .returned (.int .u32 (Sm.val (Sm.run (1, 0) s.data.toList))) ∧ w = w' := by
  go_enter Try.func14, Try.ntmps14
  go_wp2_with fail
  refine (refAdd_any 1 s _ hs (by decide)).mono ?_; rintro e w1 ⟨rfl, rfl⟩
  go_wp2
  go_ret
  exact ⟨rfl, rfl⟩
end Go.Proofs.Ytpmbjmgimphejaa
