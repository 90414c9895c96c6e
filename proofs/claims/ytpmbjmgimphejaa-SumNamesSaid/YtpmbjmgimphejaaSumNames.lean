/- The walks of SumNames and SumPieces. -/
import Derived.Test.YtpmbjmgimphejaaSumLaws
namespace Go.Proofs.Ytpmbjmgimphejaa
open Go.RowKit Go.Own

theorem sumNames_walk (w : World) :
    Calls Try.prog 5 #[] w fun e w' => e = .returned (.bool true) ∧ Up w w' := by
  go_enter Try.func5, Try.ntmps5
  go_wp2_with fail
  refine (works_any _).mono ?_; rintro e w1 ⟨rfl, h1⟩
  go_wp2_with fail
  refine (add_lit 65520 [1] 0 _ (by decide) (by decide) (by decide)).mono ?_; rintro e w2 ⟨rfl, h2⟩
  go_wp2_with fail
  refine (both_yes _ _ _ _ (by decide) (by decide)).mono ?_; rintro e w3 ⟨rfl, rfl⟩
  go_wp2_with fail
  refine (add_lit 4293984240 [2] 1 _ (by decide) (by decide) (by decide)).mono ?_; rintro e w3 ⟨rfl, h3⟩
  go_wp2_with fail
  refine (both_yes _ _ _ _ (by decide) (by decide)).mono ?_; rintro e w4 ⟨rfl, rfl⟩
  go_wp2_with fail
  refine (sum_lit [97] 6422626 _ (by decide) (by decide)).mono ?_; rintro e w4 ⟨rfl, h4⟩
  go_wp2_with fail
  refine (add_lit 6422626 [98] 19267780 _ (by decide) (by decide) (by decide)).mono ?_; rintro e w5 ⟨rfl, h5⟩
  go_wp2_with fail
  refine (sum_lit [97, 98] 19267780 _ (by decide) (by decide)).mono ?_; rintro e w6 ⟨rfl, h6⟩
  go_wp2_with fail
  refine (both_yes _ _ _ _ (by decide) (by decide)).mono ?_; rintro e w7 ⟨rfl, rfl⟩
  go_wp2_with fail
  refine (add_lit 7 [] 7 _ (by decide) (by decide) (by decide)).mono ?_; rintro e w7 ⟨rfl, h7⟩
  go_wp2_with fail
  go_ret
  exact ⟨rfl, h1.trans <| h2.trans <| h3.trans <| h4.trans <| h5.trans <| h6.trans h7⟩

theorem val_lt (p : Nat × Nat) (h : p.1 < 65536 ∧ p.2 < 65536) : Sm.val p < 4294967296 := by unfold Sm.val; omega
theorem val_1 (p : Nat × Nat) (h : p.1 < 65536 ∧ p.2 < 65536) : (((Sm.val p : Nat) : Int) % 65536).toNat = p.1 := by unfold Sm.val; omega
theorem val_2 (p : Nat × Nat) (h : p.1 < 65536 ∧ p.2 < 65536) : (((Sm.val p : Nat) : Int) / 65536).toNat = p.2 := by unfold Sm.val; omega

theorem sumPieces_walk (a b : ByteArray) (w : World) (ha : a.size ≤ 140737488351232) (hb : b.size ≤ 140737488351232) :
    Calls Try.prog 7 #[.string a, .string b] w fun e w' => e = .returned (.bool true) ∧ Up w w' := by
  have ha1 := reach_maxLen ha
  have hb1 := reach_maxLen hb
  by_cases hl : (40000 : Int) < a.size + b.size
  · go_enter Try.func7, Try.ntmps7
    go_wp2_with fail
    refine (works_any _).mono ?_; rintro e w1 ⟨rfl, h1⟩
    go_wp2_with fail
    refine (works_any _).mono ?_; rintro e w2 ⟨rfl, h2⟩
    go_wp2_with fail
    go_ret
    exact ⟨rfl, h1.trans h2⟩
  · have hp := Sm.run_lt (1, 0) a.data.toList ⟨by decide, by decide⟩
    have h1' := val_1 _ hp
    have h2' := val_2 _ hp
    have hv := val_lt _ hp
    obtain ⟨m, hm⟩ : ∃ m : Nat, m = Sm.val (Sm.run (1, 0) (a ++ b).data.toList) := ⟨_, rfl⟩
    have hab : Sm.run (((Sm.val (Sm.run (1, 0) a.data.toList) : Int) % 65536).toNat, ((Sm.val (Sm.run (1, 0) a.data.toList) : Int) / 65536).toNat) b.data.toList = Sm.run (1, 0) (a ++ b).data.toList := by
      rw [h1', h2', ByteArray.data_append, Array.toList_append, Sm.run_append]
    have hae : Sm.run (((Sm.val (Sm.run (1, 0) a.data.toList) : Int) % 65536).toNat, ((Sm.val (Sm.run (1, 0) a.data.toList) : Int) / 65536).toNat) ([] : List UInt8) = Sm.run (1, 0) a.data.toList := by
      rw [h1', h2', Sm.run_nil]
    obtain ⟨n, hn⟩ : ∃ n : Nat, n = Sm.val (Sm.run (1, 0) a.data.toList) := ⟨_, rfl⟩
    rw [← hn] at hv hab hae
    have hS : ∀ w, Calls Try.prog 9 #[.string a] w fun e w' => e = .returned (.int .u32 n) ∧ Up w w' := fun w => by have := sum_any a w ha1; rwa [← hn] at this
    have hA : ∀ w, Calls Try.prog 12 #[.int .u32 n, .string b] w fun e w' => e = .returned (.int .u32 m) ∧ Up w w' := fun w => by have := add_any n b w hb1 (by omega); rwa [hab, ← hm] at this
    have hE : ∀ w, Calls Try.prog 12 #[.int .u32 n, .string ⟨#[]⟩] w fun e w' => e = .returned (.int .u32 n) ∧ Up w w' := fun w => by have := add_any n ⟨#[]⟩ w (by decide) (by omega); rwa [show (ByteArray.mk #[]).data.toList = [] from rfl, hae, ← hn] at this
    have hM : ∀ w, Calls Try.prog 9 #[.string (a ++ b)] w fun e w' => e = .returned (.int .u32 m) ∧ Up w w' := fun w => by have := sum_any (a ++ b) w (by rw [ByteArray.size_append]; unfold maxLen; omega); rwa [← hm] at this
    have hS := Lib.hid hS
    have hA := Lib.hid hA
    have hE := Lib.hid hE
    have hM := Lib.hid hM
    clear hn hm hab hae h1' h2' hp
    go_enter Try.func7, Try.ntmps7
    go_wp2_with fail
    refine (works_any _).mono ?_; rintro e w1 ⟨rfl, h1⟩
    go_wp2_with fail
    refine (hS.out _).mono ?_; rintro e w2 ⟨rfl, h2⟩
    go_wp2_with fail
    refine (hA.out _).mono ?_; rintro e w3 ⟨rfl, h3⟩
    go_wp2_with fail
    refine (hM.out _).mono ?_; rintro e w4 ⟨rfl, h4⟩
    go_wp2_with fail
    refine (hS.out _).mono ?_; rintro e w5 ⟨rfl, h5⟩
    go_wp2_with fail
    refine (hE.out _).mono ?_; rintro e w6 ⟨rfl, h6⟩
    go_wp2_with fail
    refine (hS.out _).mono ?_; rintro e w7 ⟨rfl, h7⟩
    go_wp2_with fail
    go_ret
    exact ⟨rfl, h1.trans <| h2.trans <| h3.trans <| h4.trans <| h5.trans <| h6.trans h7⟩
end Go.Proofs.Ytpmbjmgimphejaa
