/- The names of variables in a tree, in plain Lean: sorted, each once. No program in sight. -/
import Derived.Test.YtckgdgkkmhochaaGreatDoorPxShowP
import Derived.Lib.SlicesCompact
namespace Px
open Go
open Lx hiding none run first may
set_option linter.unusedVariables false
set_option linter.unusedSimpArgs false
def sortB (l : List Bs) : List Bs := l.mergeSort fun x y => decide (x ≤ y)
/-- strictly rising -/
def Rises (l : List Bs) : Prop := l.Pairwise (· < ·)
/-- each of equal neighbours once -/
def once : List Bs → List Bs
  | [] => []
  | [a] => [a]
  | a :: b :: l => if a = b then once (b :: l) else a :: once (b :: l)
theorem mem_once : ∀ (l : List Bs) (x : Bs), x ∈ once l ↔ x ∈ l
  | [], x => Iff.rfl
  | [a], x => Iff.rfl
  | a :: b :: l, x => by
    simp only [once]
    have ih := mem_once (b :: l) x
    split
    · rename_i h; subst h; rw [ih]; simp
    · simp only [List.mem_cons] at ih ⊢; rw [ih]
theorem once_rises : ∀ (l : List Bs), l.Pairwise (· ≤ ·) → Rises (once l)
  | [], _ => List.Pairwise.nil
  | [a], _ => List.pairwise_singleton _ _
  | a :: b :: l, h => by
    have h2 := (List.pairwise_cons.1 h)
    have ih := once_rises (b :: l) h2.2
    simp only [once]
    split
    · exact ih
    · rename_i hne
      refine List.pairwise_cons.2 ⟨fun x hx => ?_, ih⟩
      rw [mem_once] at hx
      have hb : a ≤ b := h2.1 b (List.mem_cons_self ..)
      have hbx : b ≤ x := by
        rcases List.mem_cons.1 hx with rfl | hx
        · exact List.le_refl _
        · exact (List.pairwise_cons.1 h2.2).1 x hx
      have hax : a ≤ x := h2.1 x hx
      by_cases e : a = x
      · subst e; exact absurd (List.le_antisymm hb hbx) hne
      · exact Std.lt_of_le_of_ne hax e
/-- what stays of a list behind its first element -/
def rest (x : List Bs) : List Bs := ((List.range (x.length - 1)).filter fun j => decide (x[j + 1]! ≠ x[j]!)).map fun j => x[j + 1]!
theorem rest_cons (a b : Bs) (l : List Bs) : rest (a :: b :: l) = (if a = b then [] else [b]) ++ rest (b :: l) := by
  unfold rest
  have e1 : (a :: b :: l).length - 1 = (b :: l).length - 1 + 1 := by simp
  rw [e1, List.range_succ_eq_map, List.filter_cons]
  have e2 : (fun j => decide ((a :: b :: l)[j + 1]! ≠ (a :: b :: l)[j]!)) ∘ Nat.succ = fun j => decide ((b :: l)[j + 1]! ≠ (b :: l)[j]!) := by
    funext j; simp
  have e3 : (fun j => (a :: b :: l)[j + 1]!) ∘ Nat.succ = fun j => (b :: l)[j + 1]! := by funext j; simp
  rw [List.filter_map, e2]
  by_cases h : a = b
  · subst h; simp [List.map_map, Function.comp_def]
  · have h' : ¬ b = a := fun e => h e.symm
    simp [h, h', List.map_map, Function.comp_def]
theorem compact_rest (a : Bs) (l : List Bs) : Lib.compact (a :: l) = a :: rest (a :: l) := by
  unfold Lib.compact Lib.compactUpTo rest
  have e1 : (a :: l).length - 1 = l.length := by simp
  rw [e1, List.length_cons, List.range_succ_eq_map, List.filter_cons]
  have h0 : Lib.keeps (a :: l).toArray 0 = true := by simp [Lib.keeps]
  rw [h0, if_pos rfl, List.map_cons, List.filter_map, List.map_map]
  have e2 : (Lib.keeps (a :: l).toArray) ∘ Nat.succ = fun j => decide ((a :: l)[j + 1]! ≠ (a :: l)[j]!) := by
    funext j; simp [Lib.keeps]
  have e3 : (fun x => (a :: l).toArray[x]!) ∘ Nat.succ = fun j => (a :: l)[j + 1]! := by funext j; simp
  rw [e2, e3]; simp
theorem once_rest : ∀ (l : List Bs) (a : Bs), once (a :: l) = a :: rest (a :: l)
  | [], a => by simp [once, rest]
  | b :: l, a => by
    have ih := once_rest l b
    rw [once, rest_cons]
    split
    · rename_i h; subst h; rw [ih]; rfl
    · rw [ih]; rfl
theorem compact_once (l : List Bs) : Lib.compact l = once l := by
  cases l with
  | nil => rfl
  | cons a l => rw [compact_rest, once_rest]
theorem sort_pair (l : List Bs) : (sortB l).Pairwise (· ≤ ·) := by
  have := List.pairwise_mergeSort (le := fun x y : Bs => decide (x ≤ y)) (fun a b c h1 h2 => by
    simp only [decide_eq_true_eq] at *; exact List.le_trans h1 h2) (fun a b => by
    simp only [Bool.or_eq_true, decide_eq_true_eq]; exact List.le_total a b) l
  exact this.imp fun h => by simpa using h
theorem mem_sort (l : List Bs) (x : Bs) : x ∈ sortB l ↔ x ∈ l := (List.mergeSort_perm l _).mem_iff
theorem len_sort (l : List Bs) : (sortB l).length = l.length := (List.mergeSort_perm l _).length_eq
theorem len_once : ∀ l : List Bs, (once l).length ≤ l.length
  | [] => Nat.le_refl _
  | [_] => Nat.le_refl _
  | a :: b :: l => by
    have := len_once (b :: l)
    simp only [once]
    split <;> simp only [List.length_cons] at this ⊢ <;> omega
/-- rising lists of the same members are the same -/
theorem rises_eq : ∀ {l m : List Bs}, Rises l → Rises m → (∀ x, x ∈ l ↔ x ∈ m) → l = m
  | [], [], _, _, _ => rfl
  | [], b :: m, _, _, h => by have := (h b).2 (List.mem_cons_self ..); cases this
  | a :: l, [], _, _, h => by have := (h a).1 (List.mem_cons_self ..); cases this
  | a :: l, b :: m, hl, hm, h => by
    have h1 := List.pairwise_cons.1 hl
    have h2 := List.pairwise_cons.1 hm
    have e : a = b := by
      have ha := (h a).1 (List.mem_cons_self ..)
      have hb := (h b).2 (List.mem_cons_self ..)
      rcases List.mem_cons.1 ha with e | ha
      · exact e
      · rcases List.mem_cons.1 hb with e | hb
        · exact e.symm
        · exact absurd (List.lt_trans (h2.1 a ha) (h1.1 b hb)) (List.lt_irrefl _)
    subst e
    rw [rises_eq h1.2 h2.2 fun x => ?_]
    constructor
    · intro hx
      rcases List.mem_cons.1 ((h x).1 (List.mem_cons_of_mem _ hx)) with rfl | hx'
      · exact absurd (h1.1 _ hx) (List.lt_irrefl _)
      · exact hx'
    · intro hx
      rcases List.mem_cons.1 ((h x).2 (List.mem_cons_of_mem _ hx)) with rfl | hx'
      · exact absurd (h2.1 _ hx) (List.lt_irrefl _)
      · exact hx'
mutual
def names : Ex → List Bs
  | .mk o _ _ _ nm l => once (sortB ((if o = 2 then [nm] else []) ++ namess l))
def namess : List Ex → List Bs
  | [] => []
  | e :: l => names e ++ namess l
end
theorem names_rises : ∀ e : Ex, Rises (names e)
  | .mk o _ _ _ nm l => by simp only [names]; exact once_rises _ (sort_pair _)
theorem mem_names (e : Ex) (x : Bs) : x ∈ names e ↔ (opOf e = 2 ∧ x = nmOf e) ∨ x ∈ namess e.args := by
  cases e with
  | mk o k n t nm l =>
    simp only [names, mem_once, mem_sort, List.mem_append, opOf, nmOf, Ex.args]
    by_cases h : o = 2
    · simp [h]
    · simp [h]
theorem mem_namess (l : List Ex) (x : Bs) : x ∈ namess l ↔ ∃ e ∈ l, x ∈ names e := by
  induction l with
  | nil => simp [namess]
  | cons a l ih => simp only [namess, List.mem_append, ih, List.mem_cons, exists_eq_or_imp]
theorem names_arg {e a : Ex} (h : a ∈ e.args) : ∀ x ∈ names a, x ∈ names e := fun x hx => (mem_names e x).2 (.inr ((mem_namess _ x).2 ⟨a, h, hx⟩))
theorem names_len (e : Ex) : (names e).length ≤ (if opOf e = 2 then 1 else 0) + (namess e.args).length := by
  cases e with
  | mk o k n t nm l =>
    simp only [names, opOf, Ex.args]
    have h1 := len_once (sortB ((if o = 2 then [nm] else []) ++ namess l))
    rw [len_sort, List.length_append] at h1
    by_cases h : o = 2
    · simp only [h, if_true, List.length_singleton] at h1 ⊢; exact h1
    · simp only [h, if_false, List.length_nil] at h1 ⊢; exact h1
end Px
