/- VarsCall, plainly. -/
import Derived.Test.YtamnfdmmjjekhaaVrEnvP
set_option linter.unusedSimpArgs false
namespace Vr
open Go
theorem putL_keep (its : List It) (sc : Int) : ∀ (l : List Va) (cs r : List Ce), putL its sc l cs = (0, r) → ∀ (i : Nat) (c : Ce), cs[i]? = some c → ((way its sc).any fun x => x == c.sc) = false → r[i]? = some c
  | [], cs, r, h, i, c, hc, _ => by
    have : r = cs := by have := h; simp only [putL, Prod.mk.injEq, true_and] at this; exact this.symm
    rw [this]; exact hc
  | s :: l, cs, r, h, i, c, hc, hn => by
    rw [putL] at h
    rcases place_cases its cs sc s.nm with ⟨e1, _⟩ | ⟨id, hid, k, d, e1, e2, e3, _⟩
    · rw [e1, if_pos (by omega)] at h; simp at h
    · rw [e1, if_neg (by omega)] at h
      simp only [Int.toNat_natCast, e3, Option.getD_some] at h
      split at h
      · refine putL_keep its sc l _ r h i c ?_ hn
        by_cases e : k = i
        · subst e
          rw [e3] at hc
          obtain rfl := Option.some.inj hc
          have hp := List.find?_some e2
          simp only [isCe, Bool.and_eq_true, beq_iff_eq] at hp
          have := List.any_eq_false.1 hn id hid
          simp [hp.1] at this
        · rw [List.getElem?_set_ne e]; exact hc
      · simp at h
end Vr
