/- Plain laws of parts: what stands there is read again. No program in sight. -/
import Derived.Test.YtckgdgkkmhochaaGreatDoorLxPlain
namespace Lx
open Go
set_option linter.unusedVariables false
set_option linter.unusedSimpArgs false
/-- behind a part: nothing, or a space -/
def Off (l : Bs) : Prop := l = [] ∨ ∃ r, l = 32 :: r
theorem run_off {p : UInt8 → Bool} (hp : p 32 = false) {l r : Bs} (h : run p l = l.length) (hr : Off r) : run p (l ++ r) = l.length := by
  induction l with
  | nil =>
    obtain rfl | ⟨x, rfl⟩ := hr
    · rfl
    · simp [run, List.takeWhile_cons, hp]
  | cons c s ih =>
    by_cases hc : p c = true
    · rw [run_cons_t hc, List.length_cons] at h
      rw [List.cons_append, run_cons_t hc, ih (by omega), List.length_cons]
    · rw [run_cons_f (by simpa using hc)] at h; simp at h
theorem run_all {p : UInt8 → Bool} {l : Bs} (h : run p l = l.length) : ∀ c ∈ l, p c = true := by
  induction l with
  | nil => intro c hc; cases hc
  | cons c s ih =>
    by_cases hc : p c = true
    · rw [run_cons_t hc, List.length_cons] at h
      intro x hx
      rcases List.mem_cons.1 hx with rfl | hx
      · exact hc
      · exact ih (by omega) x hx
    · rw [run_cons_f (by simpa using hc)] at h; simp at h
theorem cutQ_app {q : Bs} (h : ∀ c ∈ q, c ≠ 39) (r : Bs) : cutQ (q ++ 39 :: r) = some q := by
  have h1 : (q ++ 39 :: r).takeWhile (· != 39) = q := by
    induction q with
    | nil => rfl
    | cons c s ih =>
      have h2 : (c != 39) = true := by simpa using h c (List.mem_cons_self ..)
      rw [List.cons_append, List.takeWhile_cons, if_pos h2, ih fun x hx => h x (List.mem_cons_of_mem _ hx)]
  unfold cutQ
  rw [h1]; simp
theorem not_parsed_nil : parsed (Lib.parseIntB 64 []) = false := by kernel_rfl
theorem letter_not_digit {c : UInt8} (h : letter c = true) : digit c = false := by
  unfold letter at h; unfold digit; simp only [Bool.and_eq_true, decide_eq_true_eq, Bool.and_eq_false_iff, decide_eq_false_iff_not] at h ⊢; omega
theorem behind_digit {c : UInt8} (h : digit c = true) : behind c = true := by simp [behind, h]
theorem first_cons (c : UInt8) (r : Bs) : first (c :: r) = if digit c then (⟨1, (c :: r).take (run digit (c :: r))⟩, run digit (c :: r))
    else if letter c then (⟨2, (c :: r).take (run behind (c :: r))⟩, run behind (c :: r))
    else if c = 39 then (match cutQ r with
      | some q => (⟨3, q⟩, q.length + 2)
      | Option.none => none)
    else match signs.find? fun x => x.isPrefixOf (c :: r) with
      | some x => (⟨4, x⟩, x.length)
      | Option.none => none := rfl
/-- a part that may be is read where it stands -/
theorem first_text {t : Tok} (h : may t.k t.t = true) {r : Bs} (hr : Off r) : first (text t ++ r) = (t, (text t).length) := by
  obtain ⟨k, t⟩ := t
  unfold may at h; unfold text
  simp only at h ⊢
  by_cases h1 : k = 1
  · subst h1
    simp only [if_true, show ¬ ((1 : Int) = 3) by decide, if_false] at h ⊢
    unfold numOk at h
    simp only [Bool.and_eq_true, beq_iff_eq] at h
    obtain ⟨hp, hd, -⟩ := h
    cases t with
    | nil => rw [not_parsed_nil] at hp; cases hp
    | cons c s =>
      have hc := run_all hd c (List.mem_cons_self ..)
      have e := run_off (p := digit) (by decide) hd hr
      rw [List.cons_append] at e ⊢
      rw [first_cons, if_pos hc, e]
      rw [← List.cons_append, List.take_left']
      rfl
  · rw [if_neg h1] at h
    by_cases h2 : k = 2
    · subst h2
      simp only [if_true, show ¬ ((2 : Int) = 3) by decide, if_false] at h ⊢
      unfold wordOk at h
      cases t with
      | nil => cases h
      | cons c s =>
        simp only [Bool.and_eq_true, beq_iff_eq] at h
        obtain ⟨hc, hd, -⟩ := h
        have e := run_off (p := behind) (by decide) hd hr
        rw [List.cons_append] at e ⊢
        rw [first_cons, if_neg (by rw [letter_not_digit hc]; decide), if_pos hc, e]
        rw [← List.cons_append, List.take_left']
        rfl
    · rw [if_neg h2] at h
      by_cases h3 : k = 3
      · subst h3
        simp only [if_true] at h ⊢
        unfold quoteOk at h
        simp only [Bool.and_eq_true, beq_iff_eq, decide_eq_true_eq] at h
        have hq : ∀ c ∈ t, c ≠ 39 := by
          intro c hc e
          have := run_all h.1 c hc
          subst e; revert this; decide
        have e : cutQ (t ++ [39] ++ r) = some t := by
          rw [List.append_assoc]; exact cutQ_app hq r
        rw [List.cons_append]
        rw [first_cons, if_neg (by decide), if_neg (by decide), if_pos rfl, e]
        simp
      · rw [if_neg h3] at h
        rw [if_neg h3]
        by_cases h4 : k = 4
        · subst h4
          simp only [if_true] at h
          rw [List.contains_iff_mem] at h
          simp only [signs, List.mem_cons, List.not_mem_nil, or_false] at h
          obtain rfl | ⟨x, rfl⟩ := hr
          · rcases h with rfl | rfl | rfl | rfl | rfl | rfl | rfl | rfl | rfl | rfl | rfl | rfl | rfl | rfl <;> kernel_rfl
          · rcases h with rfl | rfl | rfl | rfl | rfl | rfl | rfl | rfl | rfl | rfl | rfl | rfl | rfl | rfl <;> kernel_rfl
        · rw [if_neg h4] at h; cases h
/-- a part that may be is not empty, and begins with no space -/
theorem text_head {t : Tok} (h : may t.k t.t = true) : ∃ c r, text t = c :: r ∧ c ≠ 32 := by
  obtain ⟨k, t⟩ := t
  unfold may at h; unfold text
  simp only at h ⊢
  by_cases h1 : k = 1
  · subst h1
    simp only [if_true, show ¬ ((1 : Int) = 3) by decide, if_false] at h ⊢
    unfold numOk at h
    simp only [Bool.and_eq_true, beq_iff_eq] at h
    obtain ⟨hp, hd, -⟩ := h
    cases t with
    | nil => rw [not_parsed_nil] at hp; cases hp
    | cons c s =>
      have hc := run_all hd c (List.mem_cons_self ..)
      exact ⟨c, s, rfl, fun e => by subst e; revert hc; decide⟩
  · rw [if_neg h1] at h
    by_cases h2 : k = 2
    · subst h2
      simp only [if_true, show ¬ ((2 : Int) = 3) by decide, if_false] at h ⊢
      unfold wordOk at h
      cases t with
      | nil => cases h
      | cons c s =>
        simp only [Bool.and_eq_true, beq_iff_eq] at h
        obtain ⟨hc, hd, -⟩ := h
        exact ⟨c, s, rfl, fun e => by subst e; revert hc; decide⟩
    · rw [if_neg h2] at h
      by_cases h3 : k = 3
      · subst h3
        exact ⟨39, t ++ [39], by simp, by decide⟩
      · rw [if_neg h3] at h
        rw [if_neg h3]
        by_cases h4 : k = 4
        · subst h4
          simp only [if_true] at h
          rw [List.contains_iff_mem] at h
          simp only [signs, List.mem_cons, List.not_mem_nil, or_false] at h
          rcases h with rfl | rfl | rfl | rfl | rfl | rfl | rfl | rfl | rfl | rfl | rfl | rfl | rfl | rfl <;> exact ⟨_, _, rfl, by decide⟩
        · rw [if_neg h4] at h; cases h
theorem trim_text {t : Tok} (h : may t.k t.t = true) (r : Bs) : trim (text t ++ r) = text t ++ r := by
  obtain ⟨c, s, e, hc⟩ := text_head h
  rw [e, List.cons_append]; unfold trim
  rw [List.dropWhile_cons, if_neg (by simpa using hc)]
theorem trim_sp (r : Bs) : trim (32 :: r) = trim r := by simp [trim, List.dropWhile_cons]
theorem trim_sps (n : Nat) (r : Bs) : trim (List.replicate n 32 ++ r) = trim r := by
  induction n with
  | zero => rfl
  | succ n ih => rw [List.replicate_succ, List.cons_append, trim_sp, ih]
theorem lexT_cons (n : Nat) (c : UInt8) (r : Bs) : lexT (n + 1) (c :: r) = if (first (c :: r)).2 = 0 || !(may (first (c :: r)).1.k (first (c :: r)).1.t) then Option.none else (lexT n (trim ((c :: r).drop (first (c :: r)).2))).map ((first (c :: r)).1 :: ·) := rfl
/-- one part on -/
theorem lexT_text {t : Tok} (h : may t.k t.t = true) (n : Nat) {r : Bs} (hr : Off r) : lexT (n + 1) (text t ++ r) = (lexT n (trim r)).map (t :: ·) := by
  obtain ⟨c, s, e, hc⟩ := text_head h
  have f := first_text h hr
  rw [e] at f ⊢
  rw [List.cons_append] at f ⊢
  rw [lexT_cons, f]
  simp only [h, Bool.not_true, Bool.or_false, decide_eq_true_eq, List.length_cons]
  rw [if_neg (by simp)]
  have hd : (c :: (s ++ r)).drop (s.length + 1) = r := by simp
  rw [hd]
/-- parts with one space between, and with so many before each -/
theorem join_cons (t : Tok) (u : Tok) (ts : List Tok) : shown (t :: u :: ts) = text t ++ 32 :: shown (u :: ts) := by
  unfold shown; simp [Lib.join]
theorem lexT_shown : ∀ (ts : List Tok), (ts.all fun t => may t.k t.t) = true → ∀ n, (shown ts).length < n → lexT n (shown ts) = some ts ∧ trim (shown ts) = shown ts
  | [], _, n, hn => by cases n with
    | zero => omega
    | succ n => exact ⟨rfl, rfl⟩
  | [t], h, n, hn => by
    simp only [List.all_cons, List.all_nil, Bool.and_true] at h
    have e : shown [t] = text t ++ [] := by simp [shown, Lib.join]
    cases n with
    | zero => omega
    | succ n =>
      obtain ⟨c, s, e', hc⟩ := text_head h
      have hl : 1 ≤ n := by rw [e, List.append_nil, e', List.length_cons] at hn; omega
      rw [e]
      refine ⟨?_, trim_text h []⟩
      rw [lexT_text h n (.inl rfl)]
      cases n with
      | zero => omega
      | succ n => rfl
  | t :: u :: ts, h, n, hn => by
    have h' : ((u :: ts).all fun t => may t.k t.t) = true := by
      rw [List.all_cons] at h; exact (Bool.and_eq_true _ _ ▸ h).2
    have ht : may t.k t.t = true := by rw [List.all_cons] at h; exact (Bool.and_eq_true _ _ ▸ h).1
    rw [join_cons] at hn ⊢
    obtain ⟨c, s, e', hc⟩ := text_head ht
    rw [List.length_append, List.length_cons] at hn
    cases n with
    | zero => omega
    | succ n =>
      have ih := lexT_shown (u :: ts) h' n (by rw [e', List.length_cons] at hn; omega)
      refine ⟨?_, trim_text ht _⟩
      rw [lexT_text ht n (.inr ⟨_, rfl⟩), trim_sp, ih.2, ih.1]; rfl
/-- P10.2 -/
theorem lex_shown {ts : List Tok} (h : (ts.all fun t => may t.k t.t) = true) (hl : (shown ts).length ≤ 100) : lex (shown ts) = (ts, 0) := by
  have := lexT_shown ts h ((shown ts).length + 1) (by omega)
  unfold lex
  rw [if_neg (by omega), this.2, this.1]
/-- what is read stands there -/
theorem first_stands {l : Bs} (h0 : (first l).2 ≠ 0) : l = text (first l).1 ++ l.drop (first l).2 := by
  cases l with
  | nil => exact absurd rfl h0
  | cons c r =>
    rw [first_cons] at h0 ⊢
    by_cases h1 : digit c = true
    · rw [if_pos h1]; simp [text, List.take_append_drop]
    · rw [if_neg h1] at h0 ⊢
      by_cases h2 : letter c = true
      · rw [if_pos h2]; simp [text, List.take_append_drop]
      · rw [if_neg h2] at h0 ⊢
        by_cases h3 : c = 39
        · subst h3
          rw [if_pos rfl] at h0 ⊢
          cases e : cutQ r with
          | none => rw [e] at h0; exact absurd rfl h0
          | some q =>
            simp only [text, if_true]
            have hq : r = q ++ 39 :: r.drop (q.length + 1) := by
              unfold cutQ at e
              split at e
              · rename_i hl
                obtain rfl := Option.some.inj e
                have h5 := List.takeWhile_append_dropWhile (p := (· != 39)) (l := r)
                cases hd : r.dropWhile (· != 39) with
                | nil => rw [hd, List.append_nil] at h5; rw [h5] at hl; omega
                | cons d z =>
                  have h6 : ¬ ((d != 39) = true) := by
                    have := List.head_dropWhile_not (p := (· != 39)) (l := r) (by rw [hd]; simp)
                    simp only [hd, List.head_cons] at this; simp [this]
                  have h7 : d = 39 := by simpa using h6
                  subst h7
                  rw [hd] at h5
                  have h8 : r.drop ((r.takeWhile (· != 39)).length + 1) = z := by
                    rw (config := {occs := .pos [2]}) [← h5]
                    rw [← List.drop_drop, List.drop_left]; rfl
                  rw [h8]; exact h5.symm
              · cases e
            rw [show q.length + 2 = (q.length + 1) + 1 from rfl, List.drop_succ_cons]
            conv => lhs; rw [hq]
            simp
        · rw [if_neg h3] at h0 ⊢
          cases e : signs.find? fun x => x.isPrefixOf (c :: r) with
          | none => rw [e] at h0; exact absurd rfl h0
          | some x =>
            simp only [text, show ¬ ((4 : Int) = 3) by decide, if_false]
            have := List.find?_some e
            rw [List.isPrefixOf_iff_prefix] at this
            obtain ⟨z, hz⟩ := this
            rw [← hz]; simp
end Lx
