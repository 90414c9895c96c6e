/- What is seen, and what is put, plainly. -/
import Derived.Test.YtamnfdmmjjekhaaVrEnv
import Derived.Test.YtamnfdmmjjekhaaVrMay
set_option linter.unusedSimpArgs false
namespace Vr
open Go
def seen (its : List It) (cs : List Ce) (sc : Int) (nm : Bs) : Option Ce := if place its cs sc nm < 0 then none else cs[(place its cs sc nm).toNat]?
/-- may a value be put where a Kind is? -/
def isV (v : Val) (k : Int) : Bool := decide (v.k = k) && _root_.Va.may ⟨v.k, v.n, ⟨v.t.toArray⟩⟩
def putL (its : List It) (sc : Int) : List Va → List Ce → Int × List Ce
  | [], cs => (0, cs)
  | s :: l, cs => if place its cs sc s.nm < 0 then (22, []) else
    let c := (cs[(place its cs sc s.nm).toNat]?).getD Ce.zero
    if isV s.v c.v.k then putL its sc l (cs.set (place its cs sc s.nm).toNat { c with v := s.v }) else (23, [])
theorem placeW_cases (cs : List Ce) (nm : Bs) : ∀ w : List Int, placeW cs nm w = -1 ∨ ∃ id ∈ w, ∃ (k : Nat) (c : Ce), placeW cs nm w = (k : Int) ∧ cs.find? (isCe id nm) = some c ∧ cs[k]? = some c
  | [] => .inl rfl
  | id :: t => by
    unfold placeW
    rcases idx_find (isCe id nm) cs with ⟨e1, e2⟩ | ⟨k, c, e1, e2, e3⟩
    · rw [e1, if_neg (by omega)]
      rcases placeW_cases cs nm t with h | ⟨i, hi, k, c, h⟩
      · exact .inl h
      · exact .inr ⟨i, List.mem_cons_of_mem _ hi, k, c, h⟩
    · rw [e1, if_pos (by omega)]
      exact .inr ⟨id, List.mem_cons_self .., k, c, rfl, e2, e3⟩
theorem place_cases (its : List It) (cs : List Ce) (sc : Int) (nm : Bs) : (place its cs sc nm = -1 ∧ seen its cs sc nm = none) ∨ ∃ id ∈ way its sc, ∃ (k : Nat) (c : Ce), place its cs sc nm = (k : Int) ∧ cs.find? (isCe id nm) = some c ∧ cs[k]? = some c ∧ seen its cs sc nm = some c := by
  unfold seen
  rcases placeW_cases cs nm (way its sc) with h | ⟨id, hid, k, c, e1, e2, e3⟩
  · exact .inl ⟨h, by rw [show place its cs sc nm = -1 from h, if_pos (by omega)]⟩
  · exact .inr ⟨id, hid, k, c, e1, e2, e3, by rw [show place its cs sc nm = (k : Int) from e1, if_neg (by omega), Int.toNat_natCast]; exact e3⟩
theorem putL_len (its : List It) (sc : Int) : ∀ (l : List Va) (cs : List Ce), (putL its sc l cs).1 = 0 → (putL its sc l cs).2.length = cs.length
  | [], cs, _ => rfl
  | s :: l, cs, h => by
    unfold putL at h ⊢
    split at h
    · simp at h
    · rename_i h1
      rw [if_neg h1]
      dsimp only at h ⊢
      split at h
      · rename_i h2
        rw [if_pos h2, putL_len its sc l _ h, List.length_set]
      · simp at h
theorem split_at {α : Type} {l : List α} {i : Nat} {x : α} (h : l[i]? = some x) : ∃ A B, l = A ++ x :: B ∧ A.length = i := by
  obtain ⟨hi, he⟩ := List.getElem?_eq_some_iff.1 h
  refine ⟨l.take i, l.drop (i + 1), ?_, by rw [List.length_take]; omega⟩
  rw [← he, ← List.drop_eq_getElem_cons hi, List.take_append_drop]
theorem setL_val {r : List Ce} {i : Nat} {c : Ce} (hc : r[i]? = some c) (v : Val) :
    SF.setL (r.flatMap Ce.enc) (i * 5 + 2) [.int .u8 v.k, .int .i64 v.n, .string ⟨v.t.toArray⟩] = (r.set i { c with v := v }).flatMap Ce.enc := by
  obtain ⟨A, B, rfl, rfl⟩ := split_at hc
  have hA := encs_len A
  unfold SF.setL
  rw [List.set_append_right _ _ (Nat.le_refl _), Nat.sub_self, List.set_cons_zero, List.flatMap_append, List.flatMap_append, List.flatMap_cons, List.flatMap_cons]
  rw [List.take_append, hA, List.take_of_length_le (by omega), List.drop_append, hA, List.drop_eq_nil_of_le (by rw [hA]; simp only [List.length_cons, List.length_nil]; omega)]
  simp [Ce.enc, show A.length * 5 + 2 - A.length * 5 = 2 by omega, show A.length * 5 + 2 + 3 - A.length * 5 = 5 by omega]
end Vr
