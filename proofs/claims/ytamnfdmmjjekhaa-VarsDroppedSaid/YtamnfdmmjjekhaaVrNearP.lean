/- VarsNearest, plainly. -/
import Derived.Test.YtamnfdmmjjekhaaVrCallP
import Derived.Test.YtamnfdmmjjekhaaVrOpen
set_option linter.unusedSimpArgs false
namespace Vr
open Go
theorem find_filter {α : Type} (p : α → Bool) (l : List α) : l.find? p = (l.filter p).head? := (List.head?_filter ..).symm
theorem eqv_ce (id : Int) (nm : Bs) (v : Val) : St.eqv lt ⟨id, nm, v⟩ = isCe id nm := by
  funext x
  rw [Bool.eq_iff_iff]
  rw [eqv_eq]
  simp only [isCe, Bool.and_eq_true, beq_iff_eq, decide_eq_true_eq]
  exact ⟨fun h => ⟨h.1.symm, h.2.symm⟩, fun h => ⟨h.1.symm, h.2.symm⟩⟩
/-- what is sorted has the same first of each name -/
theorem of_find {l r : List Ce} (h : St.Of lt l r) (id : Int) (nm : Bs) : r.find? (isCe id nm) = l.find? (isCe id nm) := by
  rw [find_filter, find_filter, ← eqv_ce id nm ⟨0, 0, []⟩, h.flt]
theorem ownR_find {sc id : Int} (hne : id ≠ sc) (nm : Bs) : ∀ (l own : List Ce), (ownR sc own l).find? (isCe id nm) = (own.find? (isCe id nm)).or (l.find? (isCe id nm))
  | [], own => by simp [ownR]
  | c :: l, own => by
    rw [ownR, ownR_find hne nm l]
    split
    · rw [List.find?_append, List.find?_cons, List.find?_cons]
      cases own.find? (isCe id nm) <;> cases isCe id nm c <;> simp
    · rename_i h
      have hs : c.sc = sc := Decidable.byContradiction fun e => h (.inl e)
      have : isCe id nm c = false := by
        simp only [isCe, Bool.and_eq_false_iff, beq_eq_false_iff_ne]
        exact .inl fun e => hne (by rw [← e, hs])
      rw [List.find?_cons, this]
theorem ownR_some {sc id : Int} {nm : Bs} {c : Ce} : ∀ (l own : List Ce), own.find? (isCe id nm) = some c → (ownR sc own l).find? (isCe id nm) = some c
  | [], own, h => h
  | x :: l, own, h => by
    rw [ownR]
    split
    · exact ownR_some l _ (by rw [List.find?_append, h]; rfl)
    · exact ownR_some l _ h
theorem any_find {α : Type} {p : α → Bool} {l : List α} : l.any p = (l.find? p).isSome := by
  induction l with
  | nil => rfl
  | cons x l ih =>
    rw [List.any_cons, List.find?_cons, ih]
    cases p x <;> simp
theorem ownS_find (sc : Int) (nm : Bs) : ∀ (vs : List Va) (own : List Ce), (ownS sc own vs).find? (isCe sc nm) = (own.find? (isCe sc nm)).or ((vs.find? fun v => v.nm == nm).map (Va.ce sc))
  | [], own => by simp [ownS]
  | v :: vs, own => by
    rw [ownS, ownS_find sc nm vs, List.find?_cons]
    by_cases h : v.nm = nm
    · subst h
      rw [any_find]
      cases ho : own.find? (isCe sc v.nm) with
      | some c => simp [ho]
      | none => simp [ho, List.find?_append, isCe, Va.ce]
    · have h' : (v.nm == nm) = false := by simpa using h
      rw [h']
      split
      · rfl
      · rw [List.find?_append]
        have : isCe sc nm (v.ce sc) = false := by simp [isCe, Va.ce, h]
        simp [List.find?_cons, this]
theorem ownS_none {sc id : Int} (hne : id ≠ sc) (nm : Bs) : ∀ (vs : List Va) (own : List Ce), (ownS sc own vs).find? (isCe id nm) = own.find? (isCe id nm)
  | [], own => rfl
  | v :: vs, own => by
    rw [ownS, ownS_none hne nm vs]
    split
    · rfl
    · have : isCe id nm (v.ce sc) = false := by simp [isCe, Va.ce, hne.symm]
      rw [List.find?_append]
      simp [List.find?_cons, this]
/-- what was opened in a scope: the first variable of the name -/
theorem opened_own {sc : Int} {vs : List Va} {l r : List Ce} (h : St.Of lt (opened sc vs l) r) {nm : Bs} {v : Va} (hv : vs.find? (fun v => v.nm == nm) = some v) : r.find? (isCe sc nm) = some (v.ce sc) := by
  rw [of_find h]
  unfold opened
  refine ownR_some l _ ?_
  rw [ownS_find, hv]; rfl
theorem opened_other {sc id : Int} (hne : id ≠ sc) {vs : List Va} {l r : List Ce} (h : St.Of lt (opened sc vs l) r) (nm : Bs) : r.find? (isCe id nm) = l.find? (isCe id nm) := by
  rw [of_find h]
  unfold opened
  rw [ownR_find hne, ownS_none hne]; rfl
theorem seenW_congr {cs r : List Ce} {nm : Bs} : ∀ {w : List Int}, (∀ id ∈ w, r.find? (isCe id nm) = cs.find? (isCe id nm)) → seenW r nm w = seenW cs nm w
  | [], _ => rfl
  | id :: t, h => by
    rw [seenW, seenW, h id (List.mem_cons_self ..), seenW_congr fun x hx => h x (List.mem_cons_of_mem _ hx)]
theorem near_own {its : List It} {cs r : List Ce} {sc : Int} {vs : List Va} (h : St.Of lt (opened sc vs cs) r) (hw : way its sc ≠ []) {nm : Bs} {v : Va} (hv : vs.find? (fun v => v.nm == nm) = some v) : seen its r sc nm = some (v.ce sc) := by
  obtain ⟨x, t, _, _, e, _⟩ := way_head hw
  rw [seen_eq, e, seenW, opened_own h hv]
theorem near_other {its : List It} {cs r : List Ce} {sc ot : Int} {vs : List Va} (h : St.Of lt (opened sc vs cs) r) (hn : ((way its ot).any fun x => x == sc) = false) (nm : Bs) : seen its r ot nm = seen its cs ot nm := by
  rw [seen_eq, seen_eq]
  refine seenW_congr fun id hid => opened_other (fun e => ?_) h nm
  have := List.any_eq_false.1 hn id hid
  simp [e] at this
theorem find_first {vs : List Va} {f : Nat} {v : Va} {nm : Bs} (hf : vs[f]? = some v) (hv : v.nm = nm) (hb : ∀ (k : Nat) u, k < f → vs[k]? = some u → u.nm ≠ nm) : vs.find? (fun v => v.nm == nm) = some v := by
  obtain ⟨hl, he⟩ := List.getElem?_eq_some_iff.1 hf
  rw [List.find?_eq_some_iff_getElem]
  refine ⟨by simpa using hv, f, hl, he, fun j hj => ?_⟩
  have := hb j vs[j] hj (List.getElem?_eq_getElem (by omega))
  simpa using this
theorem opened_len (sc : Int) (vs : List Va) (l : List Ce) : (opened sc vs l).length ≤ vs.length + l.length := by
  unfold opened
  have h1 := ownR_len sc l (ownS sc [] vs)
  have h2 := ownS_len sc vs []
  simp only [List.length_nil] at h2
  omega
end Vr
