/- VarsPut, plainly. -/
import Derived.Test.YtamnfdmmjjekhaaVrCallP
set_option linter.unusedSimpArgs false
namespace Vr
open Go
theorem placeW_idx (cs : List Ce) (nm : Bs) : ∀ w : List Int, placeW cs nm w = -1 ∨ ∃ id ∈ w, ∃ (k : Nat) (c : Ce), placeW cs nm w = (k : Int) ∧ idx (isCe id nm) cs = (k : Int) ∧ cs.find? (isCe id nm) = some c ∧ cs[k]? = some c
  | [] => .inl rfl
  | id :: t => by
    rcases idx_find (isCe id nm) cs with ⟨e1, e2⟩ | ⟨k, c, e1, e2, e3⟩
    · have h1 : placeW cs nm (id :: t) = placeW cs nm t := by rw [placeW, e1, if_neg (by omega)]
      rw [h1]
      rcases placeW_idx cs nm t with h | ⟨i, hi, k, c, h⟩
      · exact .inl h
      · exact .inr ⟨i, List.mem_cons_of_mem _ hi, k, c, h⟩
    · have h1 : placeW cs nm (id :: t) = (k : Int) := by rw [placeW, e1, if_pos (by omega)]
      exact .inr ⟨id, List.mem_cons_self .., k, c, h1, e1, e2, e3⟩
/-- one set: what becomes of the cells -/
theorem put_one (its : List It) (cs : List Ce) (sc : Int) (nm : Bs) (v : Val) :
    (putL its sc [⟨nm, v⟩] cs = (22, []) ∧ seen its cs sc nm = none) ∨
    (∃ c, seen its cs sc nm = some c ∧ putL its sc [⟨nm, v⟩] cs = (23, [])) ∨
    ∃ (k : Nat) (c : Ce), seen its cs sc nm = some c ∧ cs[k]? = some c ∧ idx (isCe c.sc nm) cs = (k : Int) ∧ c.nm = nm ∧ v.k = c.v.k ∧ putL its sc [⟨nm, v⟩] cs = (0, cs.set k { c with v := v }) := by
  have hs : seen its cs sc nm = if place its cs sc nm < 0 then none else cs[(place its cs sc nm).toNat]? := rfl
  rcases placeW_idx cs nm (way its sc) with e1 | ⟨id, hid, k, c, e1, ei, e2, e3⟩
  · have e1 : place its cs sc nm = -1 := e1
    left
    refine ⟨?_, ?_⟩
    · rw [putL, e1, if_pos (by omega)]
    · rw [hs, e1, if_pos (by omega)]
  · have e1 : place its cs sc nm = (k : Int) := e1
    have e4 : seen its cs sc nm = some c := by rw [hs, e1, if_neg (by omega), Int.toNat_natCast, e3]
    right
    cases hv : isV v c.v.k with
    | false =>
      left
      refine ⟨c, e4, ?_⟩
      rw [putL, e1, if_neg (by omega)]
      simp only [Int.toNat_natCast, e3, Option.getD_some, hv, Bool.false_eq_true, if_false]
    | true =>
      right
      have hk : v.k = c.v.k := by
        simp only [isV, Bool.and_eq_true, decide_eq_true_eq] at hv
        exact hv.1
      have hp := List.find?_some e2
      simp only [isCe, Bool.and_eq_true, beq_iff_eq] at hp
      refine ⟨k, c, e4, e3, by rw [hp.1]; exact ei, hp.2, hk, ?_⟩
      rw [putL, e1, if_neg (by omega)]
      simp only [Int.toNat_natCast, e3, Option.getD_some, hv, if_true]
      rfl
theorem find_set {cs : List Ce} {k : Nat} {c : Ce} {nm : Bs} (hk : cs[k]? = some c) (hi : idx (isCe c.sc nm) cs = (k : Int)) (hn : c.nm = nm) (v : Val) (id : Int) :
    (cs.set k { c with v := v }).find? (isCe id nm) = if id = c.sc then some { c with v := v } else cs.find? (isCe id nm) := by
  have hidx : cs.findIdx? (isCe c.sc nm) = some k := by
    have := hi
    unfold idx at this
    cases h : cs.findIdx? (isCe c.sc nm) with
    | none => rw [h] at this; simp at this
    | some i => rw [h] at this; simp only [Int.natCast_inj] at this; rw [this]
  rw [List.findIdx?_eq_some_iff_getElem] at hidx
  obtain ⟨hkl, _, hbef⟩ := hidx
  obtain ⟨A, B, rfl, rfl⟩ := split_at hk
  have hA : ∀ x ∈ A, isCe c.sc nm x = false := fun x hx => by
    obtain ⟨j, hj, rfl⟩ := List.mem_iff_getElem.1 hx
    have := hbef j hj
    rw [List.getElem_append_left hj] at this
    simpa using this
  rw [List.set_append_right _ _ (Nat.le_refl _), Nat.sub_self, List.set_cons_zero, List.find?_append, List.find?_append, List.find?_cons, List.find?_cons]
  by_cases e : id = c.sc
  · subst e
    have h1 : A.find? (isCe c.sc nm) = none := List.find?_eq_none.2 fun x hx => by rw [hA x hx]; simp
    have h2 : isCe c.sc nm { c with v := v } = true := by simp [isCe, hn]
    rw [h1, h2, if_pos rfl]; rfl
  · have h2 : isCe id nm { c with v := v } = false := by simp [isCe]; exact fun h => absurd h.symm e
    have h3 : isCe id nm c = false := by simp [isCe]; exact fun h => absurd h.symm e
    rw [h2, h3, if_neg e]
theorem seenW_set {cs : List Ce} {k : Nat} {c : Ce} {nm : Bs} (hk : cs[k]? = some c) (hi : idx (isCe c.sc nm) cs = (k : Int)) (hn : c.nm = nm) (v : Val) : ∀ w : List Int,
    seenW (cs.set k { c with v := v }) nm w = (seenW cs nm w).map fun x => if x.sc = c.sc then { c with v := v } else x
  | [] => rfl
  | id :: t => by
    have hf : cs.find? (isCe c.sc nm) = some c := by
      rcases idx_find (isCe c.sc nm) cs with ⟨e, _⟩ | ⟨j, x, e, e2, e3⟩
      · omega
      · have : j = k := by omega
        subst this
        rw [e3] at hk
        rw [e2, hk]
    rw [seenW, seenW, find_set hk hi hn v id]
    by_cases e : id = c.sc
    · subst e
      rw [if_pos rfl, hf]
      simp
    · rw [if_neg e]
      cases hx : cs.find? (isCe id nm) with
      | none => exact seenW_set hk hi hn v t
      | some x =>
        have hp := List.find?_some hx
        simp only [isCe, Bool.and_eq_true, beq_iff_eq] at hp
        simp [hp.1, e]
theorem seen_set {its : List It} {cs : List Ce} {k : Nat} {c : Ce} {nm : Bs} (hk : cs[k]? = some c) (hi : idx (isCe c.sc nm) cs = (k : Int)) (hn : c.nm = nm) (v : Val) (sc : Int) :
    seen its (cs.set k { c with v := v }) sc nm = (seen its cs sc nm).map fun x => if x.sc = c.sc then { c with v := v } else x := by
  rw [seen_eq, seen_eq]; exact seenW_set hk hi hn v _
end Vr
