/- VarsDropped, plainly. -/
import Derived.Test.YtamnfdmmjjekhaaVrNearP
set_option linter.unusedSimpArgs false
namespace Vr
open Go
theorem isIn_one (sc : Int) (x : Ce) : isIn [sc] x = (x.sc == sc) := by
  simp only [isIn, List.any_cons, List.any_nil, Bool.or_false]
  rw [Bool.eq_iff_iff]; simp; exact ⟨fun h => h.symm, fun h => h.symm⟩
theorem ownS_sc (sc : Int) : ∀ (vs : List Va) (own : List Ce), (∀ c ∈ own, c.sc = sc) → ∀ c ∈ ownS sc own vs, c.sc = sc
  | [], own, h => h
  | v :: vs, own, h => by
    rw [ownS]
    refine ownS_sc sc vs _ fun c hc => ?_
    split at hc
    · exact h c hc
    · rcases List.mem_append.1 hc with hc | hc
      · exact h c hc
      · obtain rfl := List.mem_singleton.1 hc; rfl
theorem ownR_filter (sc : Int) : ∀ (l own : List Ce), (ownR sc own l).filter (fun x => !isIn [sc] x) = own.filter (fun x => !isIn [sc] x) ++ l.filter (fun x => !isIn [sc] x)
  | [], own => by simp [ownR]
  | c :: l, own => by
    rw [ownR, ownR_filter sc l, List.filter_cons]
    by_cases h : c.sc = sc
    · have h1 : (!isIn [sc] c) = false := by rw [isIn_one]; simp [h]
      rw [h1]
      split
      · rw [List.filter_append, List.filter_cons, h1]; simp
      · simp
    · have h1 : (!isIn [sc] c) = true := by rw [isIn_one]; simp [h]
      rw [h1, if_pos (.inl h), List.filter_append, List.filter_cons, h1]
      simp
theorem opened_drop (sc : Int) (vs : List Va) (l : List Ce) : (opened sc vs l).filter (fun x => !isIn [sc] x) = l.filter (fun x => !isIn [sc] x) := by
  unfold opened
  rw [ownR_filter]
  have : (ownS sc [] vs).filter (fun x => !isIn [sc] x) = [] := by
    rw [List.filter_eq_nil_iff]
    intro c hc
    have := ownS_sc sc vs [] (fun c h => by cases h) c hc
    rw [isIn_one]; simp [this]
  rw [this, List.nil_append]
theorem dropped_eq {sc : Int} {vs : List Va} {cs r : List Ce} (hs : St.Srt lt (cs.filter fun x => !isIn [sc] x)) (h : St.Of lt (opened sc vs (cs.filter fun x => !isIn [sc] x)) r) : (r.filter fun x => !isIn [sc] x) = cs.filter fun x => !isIn [sc] x := by
  have h1 := h.filter (fun x => !isIn [sc] x)
  rw [opened_drop, List.filter_filter] at h1
  simp only [Bool.and_self] at h1
  exact h1.self wo hs
theorem drop_none (sc : Int) (cs : List Ce) : ((cs.filter fun x => !isIn [sc] x).filter fun x => x.sc == sc) = [] := by
  rw [List.filter_filter, List.filter_eq_nil_iff]
  intro c _
  rw [isIn_one]; simp
theorem drop_sum (sc : Int) (cs : List Ce) : (cs.filter fun x => !isIn [sc] x).length + (cs.filter fun x => x.sc == sc).length = cs.length := by
  induction cs with
  | nil => rfl
  | cons c cs ih =>
    rw [List.filter_cons, List.filter_cons, isIn_one]
    cases h : c.sc == sc <;> simp <;> omega
theorem srt_step {D : List Ce} {i : Nat} {a b : Ce} (ha : D[i]? = some a) (hb : D[i + 1]? = some b) (hl : lt b a = false) (h : St.Srt lt (D.take (i + 1))) : St.Srt lt (D.take (i + 1 + 1)) := by
  obtain ⟨h1, rfl⟩ := List.getElem?_eq_some_iff.1 hb
  obtain ⟨h0, rfl⟩ := List.getElem?_eq_some_iff.1 ha
  rw [List.take_succ_eq_append_getElem h1]
  unfold St.Srt at h ⊢
  rw [List.pairwise_append]
  refine ⟨h, List.pairwise_singleton _ _, fun x hx y hy => ?_⟩
  obtain rfl := List.mem_singleton.1 hy
  rw [List.take_succ_eq_append_getElem h0] at h hx
  rcases List.mem_append.1 hx with hx | hx
  · exact wo.nt _ _ _ hl ((List.pairwise_append.1 h).2.2 x hx _ (List.mem_singleton.2 rfl))
  · obtain rfl := List.mem_singleton.1 hx; exact hl
end Vr
