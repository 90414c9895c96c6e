/- The walk of SumTells. -/
import Derived.Test.YtpmbjmgimphejaaSumLaws
import Derived.Test.YtpmbjmgimphejaaSumRef
namespace Go.Proofs.Ytpmbjmgimphejaa
open Go.RowKit Go.Own

theorem sumTells_walk (s : ByteArray) (x : Int) (w : World) (hs' : s.size ≤ 140737488351232) (hx : (Lit.int .u32 x).wf = true) :
    Calls Try.prog 6 #[.string s, .int .u32 x] w fun e w' => e = .returned (.bool true) ∧ Up w w' := by
  have hx := u32_of_wf hx
  have hs := reach_maxLen hs'
  by_cases hl : (20000 : Int) < s.size
  · go_enter Try.func6, Try.ntmps6
    go_wp2
    go_ret
    exact ⟨rfl, Up.refl _⟩
  · go_enter Try.func6, Try.ntmps6
    go_wp2_with fail
    refine (both_any _ _ hx).mono ?_; rintro e w1 ⟨rfl, rfl⟩
    go_wp2_with fail
    refine (refBoth_any _ _ hx).mono ?_; rintro e w1 ⟨rfl, rfl⟩
    go_wp2_with fail
    refine (sum_any _ _ hs).mono ?_; rintro e w1 ⟨rfl, hu1⟩
    go_wp2_with fail
    refine (refSum_any _ _ hs).mono ?_; rintro e w2 ⟨rfl, rfl⟩
    go_wp2_with fail
    refine (add_any _ _ _ hs hx).mono ?_; rintro e w2 ⟨rfl, hu2⟩
    go_wp2_with fail
    refine (refAdd_any _ _ _ hs hx).mono ?_; rintro e w3 ⟨rfl, rfl⟩
    go_wp2
    go_ret
    exact ⟨rfl, hu1.trans hu2⟩
end Go.Proofs.Ytpmbjmgimphejaa
