/- What the statements of layer 12 say, in plain Lean. No program in sight. -/
import Derived.Test.YtijinopghlpdbaaGreatDoorTyPlain
namespace Tx
open Go
open Px
set_option linter.unusedVariables false
set_option linter.unusedSimpArgs false
mutual
/-- its lengths and numbers are in bounds -/
def wide : Ex → Bool
  | .mk _ _ n t nm l => (decide (l.length ≤ 140737488355328) && (decide (t.length ≤ 140737488351232) && (decide (nm.length ≤ 140737488351232) && (decide (-9223372036854775808 ≤ n) && decide (n ≤ 9223372036854775807))))) && wides l
def wides : List Ex → Bool
  | [] => true
  | e :: l => wide e && wides l
end
theorem wide_mem {l : List Ex} {e : Ex} (h : wides l = true) (he : e ∈ l) : wide e = true := by
  induction l with
  | nil => cases he
  | cons x l ih =>
    simp only [wides, Bool.and_eq_true] at h
    rcases List.mem_cons.1 he with rfl | he
    · exact h.1
    · exact ih h.2 he
/-- how many parts, or too many -/
def muchs (f : Ex → Nat × Bool) : Nat → List Ex → Nat × Bool
  | n, [] => (n, false)
  | n, e :: l => if (f e).2 = true ∨ 300 < n + (f e).1 then (0, true) else muchs f (n + (f e).1) l
def much : Nat → Ex → Nat × Bool
  | 0, _ => (0, true)
  | d + 1, .mk _ _ _ t nm l => if 8 < l.length ∨ 500 < t.length + nm.length then (0, true) else muchs (much d) 1 l
theorem muchs_le (f : Ex → Nat × Bool) : ∀ (l : List Ex) (n : Nat), n ≤ 300 → (muchs f n l).1 ≤ 300
  | [], n, h => h
  | e :: l, n, h => by
    simp only [muchs]
    split
    · exact Nat.zero_le _
    · rename_i hc; exact muchs_le f l _ (by omega)
theorem much_le : ∀ (d : Nat) (x : Ex), (much d x).1 ≤ 300
  | 0, _ => Nat.zero_le _
  | d + 1, .mk _ _ _ t nm l => by
    simp only [much]
    split
    · exact Nat.zero_le _
    · exact muchs_le _ l 1 (by omega)
theorem muchs_all {f : Ex → Nat × Bool} : ∀ {l : List Ex} {n : Nat}, (muchs f n l).2 = false → ∀ e ∈ l, (f e).2 = false
  | [], _, _, e, he => by cases he
  | x :: l, n, h, e, he => by
    simp only [muchs] at h
    split at h
    · cases h
    · rename_i hc
      rcases List.mem_cons.1 he with rfl | he
      · cases hf : (f e).2
        · rfl
        · exact absurd (.inl hf) hc
      · exact muchs_all h e he
mutual
theorem thin_of : ∀ (d : Nat) (x : Ex), (much d x).2 = false → wide x = true → thin x = true ∧ deep x ≤ d
  | 0, _, h, _ => by simp [much] at h
  | d + 1, .mk op k n t nm l, h, hw => by
    simp only [much] at h
    split at h
    · cases h
    · rename_i hc
      simp only [wide, Bool.and_eq_true, decide_eq_true_eq] at hw
      have := thins_of d l (muchs_all h) hw.2
      obtain ⟨t1, t2⟩ := this
      simp only [thin, deep, Bool.and_eq_true, decide_eq_true_eq]
      exact ⟨⟨⟨by omega, hw.1.2.1, hw.1.2.2.1, hw.1.2.2.2⟩, t1⟩, by omega⟩
theorem thins_of : ∀ (d : Nat) (l : List Ex), (∀ e ∈ l, (much d e).2 = false) → wides l = true → thins l = true ∧ deeps l ≤ d
  | d, [], _, _ => by simp [thins, deeps]
  | d, e :: l, h, hw => by
    simp only [wides, Bool.and_eq_true] at hw
    have h1 := thin_of d e (h e (List.mem_cons_self ..)) hw.1
    have h2 := thins_of d l (fun x hx => h x (List.mem_cons_of_mem _ hx)) hw.2
    simp only [thins, deeps, Bool.and_eq_true]
    exact ⟨⟨h1.1, h2.1⟩, by omega⟩
end
def large (x : Ex) (vars : List Var) : Bool := (much 41 x).2 || decide (100 < vars.length)
mutual
/-- whether it names that variable -/
def names (nm : Lx.Bs) : Ex → Bool
  | .mk op _ _ _ n l => (op == 2 && n == nm) || namesL nm l
def namesL (nm : Lx.Bs) : List Ex → Bool
  | [] => false
  | e :: l => names nm e || namesL nm l
end
/-- the type of a text -/
def ofR (s : Lx.Bs) : Int × Int := if (parse s).2 = 0 then type [⟨[97], 1, 5, []⟩] (parse s).1 else (0, (parse s).2)
def check (s : Lx.Bs) (vars : List Var) (kind : Int) : Int := if (parse s).2 = 0 then (if (type vars (parse s).1).2 = 0 ∧ (type vars (parse s).1).1 ≠ kind then 23 else (type vars (parse s).1).2) else (parse s).2
set_option maxRecDepth 100000 in
theorem of1 : ofR [97, 32, 43, 32, 49] = (1, 0) := by decide +kernel
set_option maxRecDepth 100000 in
theorem of2 : (ofR [97, 32, 43, 32, 39, 120, 39]).2 = 23 := by decide +kernel
set_option maxRecDepth 100000 in
theorem of3 : (ofR [98]).2 = 22 := by decide +kernel
set_option maxRecDepth 100000 in
theorem of4 : ofR [40, 49, 32, 60, 32, 50, 41, 32, 61, 61, 32, 121, 101, 115] = (2, 0) := by decide +kernel
set_option maxRecDepth 100000 in
theorem check1 : check [97, 32, 60, 32, 51] [⟨[97], 1, 0, []⟩] 1 = 23 := by decide +kernel

/-! ### a variable more -/
theorem known_ok {k : Int} (h : (known k).2 = 0) : 1 ≤ k ∧ k ≤ 3 ∧ known k = (k, 0) := by
  unfold known at *
  split at h
  · cases h
  · rename_i hc; exact ⟨by omega, by omega, by rw [if_neg hc]⟩
theorem named_more {vars : List Var} {nm : Lx.Bs} (m : Var) (h : (named vars nm).2 = 0) : named (vars ++ [m]) nm = named vars nm := by
  unfold named at *
  rw [List.find?_append]
  cases hf : vars.find? fun v => v.name == nm with
  | none => rw [hf] at h; cases h
  | some v => rfl
mutual
theorem typed_more {vars : List Var} (m : Var) : ∀ e : Ex, (typed vars e).2 = 0 → typed (vars ++ [m]) e = typed vars e
  | .mk op k n t nm l, h => by
    simp only [typed] at h ⊢
    split at h
    · rename_i c; rw [if_pos c, if_pos c]
    · rename_i c
      rw [if_neg c, if_neg c]
      split at h
      · rename_i c2; rw [if_pos c2, if_pos c2]; exact named_more m h
      · rename_i c2
        rw [if_neg c2, if_neg c2]
        cases hl : typeds vars l with
        | error f =>
          rw [hl] at h
          exact absurd h (typeds_ne hl)
        | ok r => rw [typeds_more m l hl]
theorem typeds_more {vars : List Var} (m : Var) : ∀ (l : List Ex) {r : List Int}, typeds vars l = .ok r → typeds (vars ++ [m]) l = .ok r
  | [], r, h => h
  | e :: l, r, h => by
    simp only [typeds] at h ⊢
    split at h
    · rename_i c
      rw [typed_more m e c, if_pos c]
      cases hl : typeds vars l with
      | error f => rw [hl] at h; cases h
      | ok r' => rw [hl] at h; rw [typeds_more m l hl]; exact h
    · cases h
theorem typeds_ne {vars : List Var} : ∀ {l : List Ex} {f : Int}, typeds vars l = .error f → ¬ f = 0
  | [], f, h => by cases h
  | e :: l, f, h => by
    simp only [typeds] at h
    split at h
    · split at h
      · rename_i g hg; injection h with h; subst h; exact typeds_ne hg
      · cases h
    · rename_i c; injection h with h; subst h; exact c
end
theorem named_not {vars : List Var} {nm : Lx.Bs} {m : Var} (h : (nm == m.name) = false) : named (vars ++ [m]) nm = named vars nm ∧ named (m :: vars) nm = named vars nm := by
  have h' : (m.name == nm) = false := by
    rw [beq_eq_false_iff_ne] at h ⊢
    exact fun e => h e.symm
  unfold named
  constructor
  · rw [List.find?_append, List.find?_cons, h']
    cases vars.find? fun v => v.name == nm <;> rfl
  · rw [List.find?_cons, h']
mutual
theorem typed_not {vars : List Var} {m : Var} : ∀ e : Ex, names m.name e = false → typed (vars ++ [m]) e = typed vars e ∧ typed (m :: vars) e = typed vars e
  | .mk op k n t nm l, h => by
    simp only [names, Bool.or_eq_false_iff] at h
    have hl := typeds_not (vars := vars) (m := m) l h.2
    simp only [typed]
    by_cases c : op = 1
    · simp only [if_pos c]; trivial
    · by_cases c2 : op = 2
      · have hn : (nm == m.name) = false := by
          have := h.1
          rw [c2] at this
          simpa using this
        simp only [if_neg c, if_pos c2]
        exact named_not hn
      · simp only [if_neg c, if_neg c2]
        rw [hl.1, hl.2]; exact ⟨rfl, rfl⟩
theorem typeds_not {vars : List Var} {m : Var} : ∀ l : List Ex, namesL m.name l = false → typeds (vars ++ [m]) l = typeds vars l ∧ typeds (m :: vars) l = typeds vars l
  | [], _ => ⟨rfl, rfl⟩
  | e :: l, h => by
    simp only [namesL, Bool.or_eq_false_iff] at h
    have he := typed_not (vars := vars) e h.1
    have hl := typeds_not (vars := vars) l h.2
    simp only [typeds]
    rw [he.1, he.2, hl.1, hl.2]
    exact ⟨rfl, rfl⟩
end
theorem type_more {vars : List Var} (m : Var) {e : Ex} (h : (type vars e).2 = 0) : type (vars ++ [m]) e = type vars e := by
  unfold type at *
  split
  · rename_i c; rw [if_pos c] at h; exact typed_more m e h
  · rfl
theorem type_not {vars : List Var} {m : Var} {e : Ex} (h : names m.name e = false) : type (vars ++ [m]) e = type vars e ∧ type (m :: vars) e = type vars e := by
  unfold type
  split
  · exact typed_not e h
  · exact ⟨rfl, rfl⟩

/-! ### parts -/
theorem sorted_pos {o : Int} {sides : List Int} (h : (sorted o sides).2 = 0) : (sorted o sides).1 ≠ 0 := by
  unfold sorted at *
  cases hf : (sortsOf o).find? fun s => sides.all (· == s.1) with
  | none => rw [hf] at h; cases h
  | some s =>
    have hm := List.mem_of_find?_eq_some hf
    unfold sortsOf at hm
    rw [List.getD_eq_getElem?_getD] at hm
    cases hl : sortTab[o.toNat]? with
    | none => rw [hl] at hm; cases hm
    | some l =>
      rw [hl] at hm
      have : ∀ l ∈ sortTab, ∀ s ∈ l, s.2 ≠ 0 := by decide
      exact this l (List.mem_of_getElem? hl) s hm
theorem typed_pos {vars : List Var} : ∀ {e : Ex}, (typed vars e).2 = 0 → (typed vars e).1 ≠ 0
  | .mk op k n t nm l, h => by
    simp only [typed] at h ⊢
    split at h
    · rename_i c
      rw [if_pos c]
      have := known_ok h
      rw [this.2.2]
      show k ≠ 0
      omega
    · rename_i c
      rw [if_neg c]
      split at h
      · rename_i c2
        rw [if_pos c2]
        unfold named at *
        cases hf : vars.find? fun v => v.name == nm with
        | none => rw [hf] at h; cases h
        | some v =>
          rw [hf] at h
          have := known_ok h
          dsimp only
          rw [this.2.2]
          show v.k ≠ 0
          omega
      · rename_i c2
        rw [if_neg c2]
        cases hl : typeds vars l with
        | error f => rw [hl] at h; exact absurd h (typeds_ne hl)
        | ok r => rw [hl] at h; exact sorted_pos h
theorem typed_zero {vars : List Var} : ∀ {e : Ex}, ¬ (typed vars e).2 = 0 → (typed vars e).1 = 0
  | .mk op k n t nm l, h => by
    have hk : ∀ k : Int, ¬ (known k).2 = 0 → (known k).1 = 0 := fun k h => by
      unfold known at *
      split
      · rfl
      · rename_i c; rw [if_neg c] at h; exact absurd rfl h
    simp only [typed] at h ⊢
    split at h
    · rename_i c; rw [if_pos c]; exact hk k h
    · rename_i c
      rw [if_neg c]
      split at h
      · rename_i c2
        rw [if_pos c2]
        unfold named at *
        cases hf : vars.find? fun v => v.name == nm with
        | none => rfl
        | some v => rw [hf] at h; exact hk _ h
      · rename_i c2
        rw [if_neg c2]
        cases hl : typeds vars l with
        | error f => rfl
        | ok r =>
          rw [hl] at h
          dsimp only at h ⊢
          unfold sorted at *
          cases hf : (sortsOf op).find? fun s => r.all (· == s.1) with
          | none => rfl
          | some s => rw [hf] at h; exact absurd rfl h
theorem type_zero {vars : List Var} {e : Ex} (h : ¬ (type vars e).2 = 0) : (type vars e).1 = 0 := by
  unfold type at *
  split
  · rename_i c; rw [if_pos c] at h; exact typed_zero h
  · rfl
theorem typeds_mem {vars : List Var} : ∀ {l : List Ex} {r : List Int}, typeds vars l = .ok r → ∀ e ∈ l, (typed vars e).2 = 0
  | [], _, _, e, he => by cases he
  | x :: l, r, h, e, he => by
    simp only [typeds] at h
    split at h
    · rename_i c
      split at h
      · cases h
      · rename_i r' hr
        rcases List.mem_cons.1 he with rfl | he
        · exact c
        · exact typeds_mem hr e he
    · cases h
theorem whole_mono : ∀ (n : Nat) (e : Ex), whole n e = true → whole (n + 1) e = true
  | 0, _, h => by cases h
  | n + 1, .mk op k m t nm l, h => by
    rw [whole] at h ⊢
    simp only [Bool.and_eq_true] at h ⊢
    exact ⟨h.1, h.2.1, h.2.2.1, List.all_eq_true.2 fun x hx => whole_mono n x (whole_all h.2.2.2 hx)⟩
theorem argN_lit : argN 1 = 0 ∧ argN 2 = 0 := by decide
theorem parts {vars : List Var} {op k n : Int} {t nm : Lx.Bs} {l : List Ex} (h : (type vars (.mk op k n t nm l)).2 = 0) : ∀ e ∈ l, (type vars e).2 = 0 ∧ (type vars e).1 ≠ 0 ∧ whole 16 e = true := by
  intro e he
  unfold type at h
  split at h
  · rename_i c
    rw [whole] at c
    simp only [Bool.and_eq_true, beq_iff_eq] at c
    have hw := whole_mono 15 e (whole_all c.2.2.2 he)
    have hne : ¬ op = 1 ∧ ¬ op = 2 := by
      have hl := c.2.1
      have hp : 0 < l.length := List.length_pos_of_mem he
      constructor
      · intro e1; rw [e1, argN_lit.1] at hl; omega
      · intro e1; rw [e1, argN_lit.2] at hl; omega
    simp only [typed, if_neg hne.1, if_neg hne.2] at h
    have ht : (typed vars e).2 = 0 := by
      cases hl : typeds vars l with
      | error f => rw [hl] at h; exact absurd h (typeds_ne hl)
      | ok r => exact typeds_mem hl e he
    have h1 : type vars e = typed vars e := by unfold type; rw [if_pos hw]
    rw [h1]
    exact ⟨ht, typed_pos ht, hw⟩
  · cases h

/-! ### turned about -/
theorem turned (vars : List Var) (op : Int) (a b : Ex) (h : ¬ op = 1 ∧ ¬ op = 2) : (type vars (op2 op a b)).1 = (type vars (op2 op b a)).1 ∧ ((type vars (op2 op a b)).2 = 0 ↔ (type vars (op2 op b a)).2 = 0) := by
  have hw : whole 16 (op2 op a b) = whole 16 (op2 op b a) := by
    simp only [op2, whole, List.length_cons, List.length_nil, List.all_cons, List.all_nil, Bool.and_true]
    rw [Bool.and_comm (whole 15 a)]
  have key : (typed vars (op2 op a b)).2 = 0 → typed vars (op2 op b a) = typed vars (op2 op a b) := by
    intro h0
    simp only [op2, typed, if_neg h.1, if_neg h.2, typeds] at h0 ⊢
    by_cases ha : (typed vars a).2 = 0
    · rw [if_pos ha] at h0 ⊢
      by_cases hb : (typed vars b).2 = 0
      · simp only [if_pos ha, if_pos hb]
        unfold sorted
        have : ∀ s : Int × Int, [(typed vars b).1, (typed vars a).1].all (· == s.1) = [(typed vars a).1, (typed vars b).1].all (· == s.1) := fun s => by
          simp only [List.all_cons, List.all_nil, Bool.and_true]; exact Bool.and_comm _ _
        simp only [this]
      · rw [if_neg hb] at h0; exact absurd h0 hb
    · rw [if_neg ha] at h0; exact absurd h0 ha
  have key' : (typed vars (op2 op b a)).2 = 0 → typed vars (op2 op a b) = typed vars (op2 op b a) := by
    intro h0
    simp only [op2, typed, if_neg h.1, if_neg h.2, typeds] at h0 ⊢
    by_cases ha : (typed vars b).2 = 0
    · rw [if_pos ha] at h0 ⊢
      by_cases hb : (typed vars a).2 = 0
      · simp only [if_pos ha, if_pos hb]
        unfold sorted
        have : ∀ s : Int × Int, [(typed vars a).1, (typed vars b).1].all (· == s.1) = [(typed vars b).1, (typed vars a).1].all (· == s.1) := fun s => by
          simp only [List.all_cons, List.all_nil, Bool.and_true]; exact Bool.and_comm _ _
        simp only [this]
      · rw [if_neg hb] at h0; exact absurd h0 hb
    · rw [if_neg ha] at h0; exact absurd h0 ha
  unfold type
  rw [hw]
  split
  · by_cases h0 : (typed vars (op2 op a b)).2 = 0
    · have e := key h0; rw [e]; exact ⟨rfl, Iff.rfl⟩
    · by_cases h1 : (typed vars (op2 op b a)).2 = 0
      · have e := key' h1; rw [e]; exact ⟨rfl, Iff.rfl⟩
      · rw [typed_zero h0, typed_zero h1]; exact ⟨rfl, ⟨fun h => absurd h h0, fun h => absurd h h1⟩⟩
  · exact ⟨rfl, Iff.rfl⟩
end Tx
