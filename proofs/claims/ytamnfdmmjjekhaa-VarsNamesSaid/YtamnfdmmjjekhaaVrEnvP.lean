/- VarsEnv and VarsCall, plainly. -/
import Derived.Test.YtamnfdmmjjekhaaVrWorks
set_option linter.unusedSimpArgs false
namespace Vr
open Go
theorem find_le {α : Type} {p : α → Bool} {l : List α} {k : Nat} {c : α} (h : idx p l = (k : Int)) (hc : l.find? p = some c) : l[k]? = some c := by
  rcases idx_find p l with ⟨e, _⟩ | ⟨i, x, e, e2, e3⟩
  · omega
  · have : i = k := by omega
    subst this
    rw [e2] at hc
    obtain rfl := Option.some.inj hc
    exact e3
/-- the cell that is seen, by the way -/
def seenW (cs : List Ce) (nm : Bs) : List Int → Option Ce
  | [] => none
  | id :: t => match cs.find? (isCe id nm) with
    | some c => some c
    | none => seenW cs nm t
theorem seenW_place (cs : List Ce) (nm : Bs) : ∀ w : List Int, (if placeW cs nm w < 0 then none else cs[(placeW cs nm w).toNat]?) = seenW cs nm w
  | [] => rfl
  | id :: t => by
    rcases idx_find (isCe id nm) cs with ⟨e1, e2⟩ | ⟨k, c, e1, e2, e3⟩
    · have h1 : placeW cs nm (id :: t) = placeW cs nm t := by rw [placeW, e1, if_neg (by omega)]
      have h2 : seenW cs nm (id :: t) = seenW cs nm t := by rw [seenW, e2]
      rw [h1, h2]; exact seenW_place cs nm t
    · have h1 : placeW cs nm (id :: t) = (k : Int) := by rw [placeW, e1, if_pos (by omega)]
      have h2 : seenW cs nm (id :: t) = some c := by rw [seenW, e2]
      rw [h1, h2, if_neg (by omega), Int.toNat_natCast]; exact e3
theorem seen_eq (its : List It) (cs : List Ce) (sc : Int) (nm : Bs) : seen its cs sc nm = seenW cs nm (way its sc) := seenW_place cs nm (way its sc)
theorem env_find (cs : List Ce) (nm : Bs) : ∀ w : List Int, (envL cs w).find? (fun v => v.nm == nm) = (seenW cs nm w).map Ce.va
  | [] => rfl
  | id :: t => by
    have e : envL cs (id :: t) = (cs.filter fun x => x.sc == id).map Ce.va ++ envL cs t := rfl
    have h : ((cs.filter fun x => x.sc == id).map Ce.va).find? (fun v => v.nm == nm) = (cs.find? (isCe id nm)).map Ce.va := by
      rw [List.find?_map, List.find?_filter]
      congr 2
      funext x
      simp only [isCe, Function.comp_apply, Ce.va]
      rw [Bool.eq_iff_iff]
      simp
    rw [e, List.find?_append, h, env_find cs nm t]
    have h2 : seenW cs nm (id :: t) = match cs.find? (isCe id nm) with | some c => some c | none => seenW cs nm t := by rw [seenW]
    rw [h2]
    cases cs.find? (isCe id nm) <;> simp
theorem envL_sum (cs : List Ce) : ∀ w : List Int, (envL cs w).length = (w.map fun id => (cs.filter fun x => x.sc == id).length).sum
  | [] => rfl
  | id :: t => by
    have e : envL cs (id :: t) = (cs.filter fun x => x.sc == id).map Ce.va ++ envL cs t := rfl
    rw [e, List.length_append, List.length_map, envL_sum cs t]; rfl
end Vr
