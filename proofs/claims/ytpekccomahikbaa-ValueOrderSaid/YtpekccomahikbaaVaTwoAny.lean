/- The contract of callboard/value.Two, joined out of its single walks (written by wip/gen_two_any.py). -/
import Derived.Test.YtpekccomahikbaaVaTwo
import Derived.Test.YtpekccomahikbaaVaTwoK1
import Derived.Test.YtpekccomahikbaaVaTwoK2
import Derived.Test.YtpekccomahikbaaVaTwoK3
namespace Go.Proofs.Ytpekccomahikbaa
open Go.RowKit Go.Own

theorem two_any (op ak an bk bn : Int) (at_ bt : ByteArray) (w : World) (ha : Va.Fit an) (hb : Va.Fit bn) (hs : at_.size ≤ maxLen) (ht : bt.size ≤ maxLen) :
    Calls Try.prog 8 #[.int .u8 op, .agg #[.int .u8 ak, .int .i64 an, .string at_], .agg #[.int .u8 bk, .int .i64 bn, .string bt]] w fun e w' => e = .returned (.tuple #[.agg #[.int .u8 (Va.two op ⟨ak, an, at_⟩ ⟨bk, bn, bt⟩).1.k, .int .i64 (Va.two op ⟨ak, an, at_⟩ ⟨bk, bn, bt⟩).1.n, .string (Va.two op ⟨ak, an, at_⟩ ⟨bk, bn, bt⟩).1.t], .int .i64 (Va.two op ⟨ak, an, at_⟩ ⟨bk, bn, bt⟩).2]) ∧ Up w w' := by
  by_cases h0 : op < 5 ∨ 15 < op
  · rw [show Va.two op ⟨ak, an, at_⟩ ⟨bk, bn, bt⟩ = (Va.none, 4) by simp [Va.two, h0]]
    exact two_form op ak an bk bn at_ bt w h0
  have hop : op = 5 ∨ op = 6 ∨ op = 7 ∨ op = 8 ∨ op = 9 ∨ op = 10 ∨ op = 11 ∨ op = 12 ∨ op = 13 ∨ op = 14 ∨ op = 15 := by omega
  have h1 : 5 ≤ op := by omega
  have h2 : op ≤ 15 := by omega
  have hty : ∀ a b : Va.V, Va.fits op a.k b.k = false → Va.two op a b = (Va.none, 23) := fun a b h => by simp [Va.two, h0, h]
  by_cases k1 : ak = 1
  · subst k1
    by_cases j : bk = 1
    · subst j
      clear h0 h1 h2 hty
      rcases hop with rfl | rfl | rfl | rfl | rfl | rfl | rfl | rfl | rfl | rfl | rfl
      · exact two_ok_1_5 an bn at_ bt w ha hb
      · exact two_ok_1_6 an bn at_ bt w ha hb
      · exact two_ok_1_7 an bn at_ bt w ha hb
      · exact two_ok_1_8 an bn at_ bt w ha hb
      · exact two_ok_1_9 an bn at_ bt w
      · exact two_ok_1_10 an bn at_ bt w
      · exact two_ok_1_11 an bn at_ bt w
      · exact two_ok_1_12 an bn at_ bt w
      · exact two_type_1_13 an bn at_ bt w
      · exact two_type_1_14 an bn at_ bt w
      · exact two_ok_1_15 an bn at_ bt w ha hb
    · rw [hty _ _ (by simp [Va.fits]; omega)]
      exact two_type_1 op an bk bn at_ bt w h1 h2 (by simpa using j)
  by_cases k2 : ak = 2
  · subst k2
    by_cases j : bk = 2
    · subst j
      clear h0 h1 h2 hty
      rcases hop with rfl | rfl | rfl | rfl | rfl | rfl | rfl | rfl | rfl | rfl | rfl
      · exact two_type_2_5 an bn at_ bt w
      · exact two_type_2_6 an bn at_ bt w
      · exact two_type_2_7 an bn at_ bt w
      · exact two_type_2_8 an bn at_ bt w
      · exact two_type_2_9 an bn at_ bt w
      · exact two_type_2_10 an bn at_ bt w
      · exact two_ok_2_11 an bn at_ bt w
      · exact two_ok_2_12 an bn at_ bt w
      · exact two_ok_2_13 an bn at_ bt w
      · exact two_ok_2_14 an bn at_ bt w
      · exact two_type_2_15 an bn at_ bt w
    · rw [hty _ _ (by simp [Va.fits]; omega)]
      exact two_type_2 op an bk bn at_ bt w h1 h2 (by simpa using j)
  by_cases k3 : ak = 3
  · subst k3
    by_cases j : bk = 3
    · subst j
      clear h0 h1 h2 hty
      rcases hop with rfl | rfl | rfl | rfl | rfl | rfl | rfl | rfl | rfl | rfl | rfl
      · exact two_type_3_5 an bn at_ bt w
      · exact two_type_3_6 an bn at_ bt w
      · exact two_type_3_7 an bn at_ bt w
      · exact two_ok_3_8 an bn at_ bt w hs ht
      · exact two_ok_3_9 an bn at_ bt w
      · exact two_ok_3_10 an bn at_ bt w
      · exact two_ok_3_11 an bn at_ bt w
      · exact two_ok_3_12 an bn at_ bt w
      · exact two_type_3_13 an bn at_ bt w
      · exact two_type_3_14 an bn at_ bt w
      · exact two_type_3_15 an bn at_ bt w
    · rw [hty _ _ (by simp [Va.fits]; omega)]
      exact two_type_3 op an bk bn at_ bt w h1 h2 (by simpa using j)
  rw [hty _ _ (by simp [Va.fits]; omega)]
  exact two_type_0 op ak an bk bn at_ bt w h1 h2 (by simpa using k1) (by simpa using k2) (by simpa using k3)
end Go.Proofs.Ytpekccomahikbaa
