/- The walks of the statements' own functions of layer 1. -/
import Derived.Test.YtpmbjmgimphejaaSumWalks
import Derived.Deep.RegionWith
import Derived.Deep.QuietTactic
import Derived.BigQuiet
namespace Go.Proofs.Ytpmbjmgimphejaa
open Go.RowKit Go.Own

theorem both2_any (x a b : Int) (w : World) (hx : 0 ≤ x ∧ x < 4294967296) :
    Calls Try.prog 11 #[.int .u32 x, .int .i64 a, .int .i64 b] w fun e w' => e = .returned (.bool ((x % 65536 == a) && (x / 65536 == b))) ∧ w = w' := by
  by_cases h : x % 65536 = a
  · subst h
    go_enter Try.func11, Try.ntmps11
    go_wp2_with (go_at_call 10; refine (both_any _ _ hx).mono ?_; rintro e w1 ⟨rfl, rfl⟩)
    go_ret
    exact ⟨by simp, rfl⟩
  · go_enter Try.func11, Try.ntmps11
    go_wp2_with (go_at_call 10; refine (both_any _ _ hx).mono ?_; rintro e w1 ⟨rfl, rfl⟩)
    go_ret
    exact ⟨by simp [h], rfl⟩

theorem both_yes (x a b : Int) (w : World) (hx : 0 ≤ x ∧ x < 4294967296) (h : x % 65536 = a ∧ x / 65536 = b) :
    Calls Try.prog 11 #[.int .u32 x, .int .i64 a, .int .i64 b] w fun e w' => e = .returned (.bool true) ∧ w = w' :=
  (both2_any x a b w hx).mono fun _ _ ⟨he, hw⟩ => ⟨by rw [he]; simp [h], hw⟩

theorem sum_lit (l : List UInt8) (n : Int) (w : World) (h : (Sm.val (Sm.run (1, 0) l) : Int) = n) (hl : l.length ≤ maxLen) :
    Calls Try.prog 9 #[.string ⟨l.toArray⟩] w fun e w' => e = .returned (.int .u32 n) ∧ Up w w' :=
  (sum_any ⟨l.toArray⟩ w (by rw [size_mk]; exact hl)).mono fun _ _ ⟨he, hw⟩ => ⟨by rw [he, ← h], hw⟩

theorem add_lit (x : Int) (l : List UInt8) (n : Int) (w : World) (hx : 0 ≤ x ∧ x < 4294967296) (h : (Sm.val (Sm.run ((x % 65536).toNat, (x / 65536).toNat) l) : Int) = n) (hl : l.length ≤ maxLen) :
    Calls Try.prog 12 #[.int .u32 x, .string ⟨l.toArray⟩] w fun e w' => e = .returned (.int .u32 n) ∧ Up w w' :=
  (add_any x ⟨l.toArray⟩ w (by rw [size_mk]; exact hl) hx).mono fun _ _ ⟨he, hw⟩ => ⟨by rw [he, ← h], hw⟩

theorem works_any (w : World) :
    Calls Try.prog 8 #[] w fun e w' => e = .returned (.bool true) ∧ Up w w' := by
  go_enter Try.func8, Try.ntmps8
  go_wp2_with fail
  refine (sum_lit [] 1 _ (by decide) (by decide)).mono ?_; rintro e w1 ⟨rfl, hb1⟩
  go_wp2_with fail
  refine (sum_lit [1] 131074 _ (by decide) (by decide)).mono ?_; rintro e w2 ⟨rfl, hb2⟩
  go_wp2_with fail
  refine (sum_lit [97, 98] 19267780 _ (by decide) (by decide)).mono ?_; rintro e w3 ⟨rfl, hb3⟩
  go_wp2_with fail
  refine (both_yes _ _ _ _ (by decide) (by decide)).mono ?_; rintro e w4 ⟨rfl, rfl⟩
  go_wp2_with fail
  refine (sum_lit [0] 65537 _ (by decide) (by decide)).mono ?_; rintro e w5 ⟨rfl, hb5⟩
  go_wp2_with fail
  go_ret
  exact ⟨rfl, hb1.trans (hb2.trans (hb3.trans hb5))⟩
end Go.Proofs.Ytpmbjmgimphejaa
