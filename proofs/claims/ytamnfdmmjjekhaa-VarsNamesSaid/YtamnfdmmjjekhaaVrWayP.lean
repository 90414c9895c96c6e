/- The scopes that a scope sees, plainly. -/
import Derived.Test.YtamnfdmmjjekhaaVrP3
set_option linter.unusedSimpArgs false
namespace Vr
open Go
def nextId (its : List It) (x : It) : Int := if ((its.find? (isId x.up)).getD It.zero).is = 2 then ((its.find? (isId x.up)).getD It.zero).up else x.up
def wayF (its : List It) : Nat → List Int → Int → List Int
  | 0, _, _ => []
  | f + 1, pre, id => match its.find? (isId id) with
    | none => []
    | some x => if x.is = 1 ∧ id ∉ pre then id :: (if x.node = -1 then [] else wayF its f (pre ++ [id]) (nextId its x)) else []
def way (its : List It) (id : Int) : List Int := wayF its (its.length + 1) [] id
theorem nodup_len {α : Type} [DecidableEq α] : ∀ {l m : List α}, l.Nodup → (∀ x ∈ l, x ∈ m) → l.length ≤ m.length
  | [], _, _, _ => Nat.zero_le _
  | x :: l, m, hd, hs => by
    rw [List.nodup_cons] at hd
    have hx := hs x (List.mem_cons_self ..)
    have := nodup_len (m := m.erase x) hd.2 fun y hy => (List.mem_erase_of_ne (fun e => hd.1 (by rw [← e]; exact hy))).2 (hs y (List.mem_cons_of_mem _ hy))
    rw [List.length_erase_of_mem hx] at this
    have := List.length_pos_of_mem hx
    simp only [List.length_cons]; omega
/-- the state of the walk upwards: these were met, and that is next -/
structure OnWay (its : List It) (sc : Int) (pre : List Int) (id : Int) : Prop where
  way : Vr.way its sc = pre ++ wayF its (its.length + 1 - pre.length) pre id
  nd : pre.Nodup
  ids : ∀ x ∈ pre, x ∈ its.map (·.id)
theorem OnWay.start (its : List It) (sc : Int) : OnWay its sc [] sc := ⟨rfl, List.nodup_nil, fun x h => by cases h⟩
theorem OnWay.len {its : List It} {sc id : Int} {pre : List Int} (h : OnWay its sc pre id) : pre.length ≤ its.length := by
  have := nodup_len h.nd h.ids
  simpa using this
theorem find_id {its : List It} {id : Int} {x : It} (h : its.find? (isId id) = some x) : x.id = id ∧ id ∈ its.map (·.id) := by
  have h1 : isId id x = true := List.find?_some h
  have h2 : x.id = id := by simpa [isId] using h1
  exact ⟨h2, by rw [← h2]; exact List.mem_map.2 ⟨x, List.mem_of_find?_eq_some h, rfl⟩⟩
/-- it ends here -/
theorem OnWay.stop {its : List It} {sc id : Int} {pre : List Int} (h : OnWay its sc pre id) (hs : ∀ x, its.find? (isId id) = some x → ¬ (x.is = 1 ∧ id ∉ pre)) : Vr.way its sc = pre := by
  rw [h.way]
  cases hf : its.length + 1 - pre.length with
  | zero => simp [wayF]
  | succ f =>
    simp only [wayF]
    cases hx : its.find? (isId id) with
    | none => simp
    | some x => simp only [if_neg (hs x hx), List.append_nil]
theorem OnWay.step {its : List It} {sc id : Int} {pre : List Int} (h : OnWay its sc pre id) {x : It} (hx : its.find? (isId id) = some x) (hk : x.is = 1 ∧ id ∉ pre) :
    pre.length < its.length ∧ (∃ t, Vr.way its sc = (pre ++ [id]) ++ t) ∧ (x.node = -1 → Vr.way its sc = pre ++ [id]) ∧ (x.node ≠ -1 → OnWay its sc (pre ++ [id]) (nextId its x)) := by
  have hl := h.len
  obtain ⟨h1, h2⟩ := find_id hx
  have hnd : (pre ++ [id]).Nodup := by
    rw [List.nodup_append]
    exact ⟨h.nd, by simp, fun a ha b hb e => by obtain rfl := List.mem_singleton.1 hb; exact hk.2 (e ▸ ha)⟩
  have hid : ∀ y ∈ pre ++ [id], y ∈ its.map (·.id) := fun y hy => by
    rcases List.mem_append.1 hy with hy | hy
    · exact h.ids y hy
    · obtain rfl := List.mem_singleton.1 hy; exact h2
  have hlt := nodup_len hnd hid
  simp only [List.length_append, List.length_cons, List.length_nil, List.length_map] at hlt
  have hw := h.way
  obtain ⟨f, hf⟩ : ∃ f, its.length + 1 - pre.length = f + 1 := ⟨its.length - pre.length, by omega⟩
  rw [hf] at hw
  simp only [wayF, hx, if_pos hk] at hw
  refine ⟨by omega, ⟨if x.node = -1 then [] else wayF its f (pre ++ [id]) (nextId its x), ?_⟩, fun hn => ?_, fun hn => ⟨?_, hnd, hid⟩⟩
  · rw [hw]; simp only [List.append_assoc, List.cons_append, List.nil_append]
  · rw [hw, if_pos hn]
  · rw [hw, if_neg hn]
    simp only [List.append_assoc, List.cons_append, List.nil_append, List.length_append, List.length_cons, List.length_nil]
    rw [show its.length + 1 - (pre.length + (0 + 1)) = f from by omega]
/-- its head is the scope itself; what follows -/
theorem way_head {its : List It} {sc : Int} (h : way its sc ≠ []) : ∃ x t, its.find? (isId sc) = some x ∧ x.is = 1 ∧ way its sc = sc :: t ∧ (x.node = -1 → t = []) := by
  have hs := OnWay.start its sc
  cases hx : its.find? (isId sc) with
  | none =>
    exact absurd (hs.stop fun x hx' => by rw [hx] at hx'; cases hx') h
  | some x =>
    by_cases hk : x.is = 1
    · obtain ⟨_, ⟨t, ht⟩, h3, _⟩ := hs.step hx ⟨hk, by simp⟩
      refine ⟨x, t, rfl, hk, ht, fun hn => ?_⟩
      have := h3 hn
      rw [ht] at this
      simpa using this
    · exact absurd (hs.stop fun y hy => by rw [hx] at hy; obtain rfl := Option.some.inj hy; exact fun h => hk h.1) h
end Vr
