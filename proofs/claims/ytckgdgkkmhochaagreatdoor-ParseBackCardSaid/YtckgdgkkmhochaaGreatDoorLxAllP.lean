/- Plain laws of parts: the bytes that stand in no part; spaces between. No program in sight. -/
import Derived.Test.YtckgdgkkmhochaaGreatDoorLxBackP
namespace Lx
open Go
set_option linter.unusedVariables false
set_option linter.unusedSimpArgs false
/-- the bytes so far, without spaces outside of quotes; is a quote open? -/
def bstep (b : Bs × Bool) (c : UInt8) : Bs × Bool := if c = 39 then (b.1 ++ [c], !b.2) else if c ≠ 32 ∨ b.2 = true then (b.1 ++ [c], b.2) else b
def bareF (l : Bs) : Bs × Bool := l.foldl bstep ([], false)
theorem fold_plain {t : Bs} (h : ∀ c ∈ t, c ≠ 39 ∧ c ≠ 32) (b : Bs) : t.foldl bstep (b, false) = (b ++ t, false) := by
  induction t generalizing b with
  | nil => simp
  | cons c s ih =>
    have hc := h c (List.mem_cons_self ..)
    rw [List.foldl_cons]
    have e : bstep (b, false) c = (b ++ [c], false) := by simp [bstep, hc.1, hc.2]
    rw [e, ih fun x hx => h x (List.mem_cons_of_mem _ hx)]
    simp
theorem fold_in {t : Bs} (h : ∀ c ∈ t, c ≠ 39) (b : Bs) : t.foldl bstep (b, true) = (b ++ t, true) := by
  induction t generalizing b with
  | nil => simp
  | cons c s ih =>
    have hc := h c (List.mem_cons_self ..)
    rw [List.foldl_cons]
    have e : bstep (b, true) c = (b ++ [c], true) := by simp [bstep, hc]
    rw [e, ih fun x hx => h x (List.mem_cons_of_mem _ hx)]
    simp
theorem fold_trim (l b : Bs) : (trim l).foldl bstep (b, false) = l.foldl bstep (b, false) := by
  induction l with
  | nil => rfl
  | cons c s ih =>
    by_cases h : c = 32
    · subst h
      rw [trim_sp, ih, List.foldl_cons]
      rfl
    · unfold trim
      rw [List.dropWhile_cons, if_neg (by simpa using h)]
theorem clean {t : Tok} (h : may t.k t.t = true) (h3 : t.k ≠ 3) : ∀ c ∈ t.t, c ≠ 39 ∧ c ≠ 32 := by
  obtain ⟨k, t⟩ := t
  unfold may at h
  simp only at h h3 ⊢
  intro c hc
  by_cases h1 : k = 1
  · subst h1
    simp only [if_true] at h
    unfold numOk at h
    simp only [Bool.and_eq_true, beq_iff_eq] at h
    have := run_all h.2.1 c hc
    exact ⟨fun e => by subst e; revert this; decide, fun e => by subst e; revert this; decide⟩
  · rw [if_neg h1] at h
    by_cases h2 : k = 2
    · subst h2
      simp only [if_true] at h
      unfold wordOk at h
      cases t with
      | nil => cases hc
      | cons d s =>
        simp only [Bool.and_eq_true, beq_iff_eq] at h
        have := run_all h.2.1 c hc
        exact ⟨fun e => by subst e; revert this; decide, fun e => by subst e; revert this; decide⟩
    · rw [if_neg h2, if_neg h3] at h
      by_cases h4 : k = 4
      · subst h4
        simp only [if_true] at h
        rw [List.contains_iff_mem] at h
        have hall : signs.all (fun s => s.all fun c => (c != 39) && (c != 32)) = true := by decide
        have := List.all_eq_true.1 (List.all_eq_true.1 hall t h) c hc
        simpa using this
      · rw [if_neg h4] at h; cases h
theorem clean3 {t : Tok} (h : may t.k t.t = true) (h3 : t.k = 3) : ∀ c ∈ t.t, c ≠ 39 := by
  obtain ⟨k, t⟩ := t
  unfold may at h
  simp only at h h3 ⊢
  subst h3
  intro c hc
  simp only [show ¬ ((3 : Int) = 1) by decide, show ¬ ((3 : Int) = 2) by decide, if_false, if_true] at h
  unfold quoteOk at h
  simp only [Bool.and_eq_true, beq_iff_eq] at h
  intro e
  have := run_all h.1 c hc
  subst e; revert this; decide
theorem fold_text {t : Tok} (h : may t.k t.t = true) (b : Bs) : (text t).foldl bstep (b, false) = (b ++ text t, false) := by
  unfold text
  by_cases h3 : t.k = 3
  · rw [if_pos h3, List.foldl_cons, List.foldl_append]
    have e : bstep (b, false) 39 = (b ++ [39], true) := by simp [bstep]
    rw [e, fold_in (clean3 h h3)]
    simp [bstep]
  · rw [if_neg h3]
    exact fold_plain (clean h h3) b
/-- one part of what is read -/
theorem lexT_one {n : Nat} {l : Bs} {ts : List Tok} (h : lexT n l = some ts) : (l = [] ∧ ts = []) ∨ ∃ m t us, n = m + 1 ∧ ts = t :: us ∧ may t.k t.t = true ∧ l = text t ++ l.drop (text t).length ∧ (first l) = (t, (first l).2) ∧ l.drop (first l).2 = l.drop (text t).length ∧ lexT m (trim (l.drop (first l).2)) = some us := by
  cases n with
  | zero => cases h
  | succ m =>
    cases l with
    | nil => exact .inl ⟨rfl, (Option.some.inj h).symm⟩
    | cons c r =>
      right
      rw [lexT_cons] at h
      split at h
      · cases h
      · rename_i hc
        simp only [Bool.or_eq_true, decide_eq_true_eq, Bool.not_eq_true', not_or, Bool.not_eq_false] at hc
        obtain ⟨us, hu, rfl⟩ := Option.map_eq_some_iff.1 h
        have hs := first_stands hc.1
        have hlen : (c :: r).drop (text (first (c :: r)).1).length = (c :: r).drop (first (c :: r)).2 := by
          have := congrArg (List.drop (text (first (c :: r)).1).length) hs
          rw [List.drop_left] at this
          exact this
        refine ⟨m, _, us, rfl, rfl, hc.2, ?_, rfl, hlen.symm, hu⟩
        rw [hlen]; exact hs
theorem lexT_bare : ∀ (n : Nat) (l : Bs) (ts : List Tok), lexT n l = some ts → ∀ b, l.foldl bstep (b, false) = (b ++ (ts.map text).flatten, false) ∧ (ts.map text).flatten.length ≤ l.length ∧ (ts.all fun t => may t.k t.t) = true
  | n, l, ts, h, b => by
    rcases lexT_one h with ⟨rfl, rfl⟩ | ⟨m, t, us, rfl, rfl, hm, hl, hf, hd, hu⟩
    · simp
    · rw [hd] at hu
      have ih := lexT_bare m _ us hu (b ++ text t)
      have e : l.foldl bstep (b, false) = (l.drop (text t).length).foldl bstep (b ++ text t, false) := by
        conv => lhs; rw [hl]
        rw [List.foldl_append, fold_text hm]
      have hlen : l.length = (text t).length + (l.drop (text t).length).length := by
        conv => lhs; rw [hl]
        rw [List.length_append]
      refine ⟨?_, ?_, ?_⟩
      · rw [e, ← fold_trim, ih.1]; simp
      · have := trim_le (l.drop (text t).length)
        simp only [List.map_cons, List.flatten_cons, List.length_append]
        have := ih.2.1
        omega
      · rw [List.all_cons, hm, ih.2.2]; rfl
/-- what Lex tells, when it tells -/
theorem lex_ok {l : Bs} {ts : List Tok} {e : Int} (h : lex l = (ts, e)) : (e ≠ 0 ∧ ts = []) ∨ (e = 0 ∧ l.length ≤ 100 ∧ bareF l = ((ts.map text).flatten, false) ∧ (ts.map text).flatten.length ≤ l.length ∧ (ts.all fun t => may t.k t.t) = true) := by
  unfold lex at h
  split at h
  · injection h with h1 h2; subst h1 h2; exact .inl ⟨by decide, rfl⟩
  · split at h
    · rename_i hl ts' hx
      injection h with h1 h2; subst h1 h2
      have := lexT_bare _ _ _ hx []
      rw [fold_trim] at this
      have ht := trim_le l
      exact .inr ⟨rfl, by omega, (by simpa [bareF] using this.1), by have := this.2.1; omega, this.2.2⟩
    · injection h with h1 h2; subst h1 h2; exact .inl ⟨by decide, rfl⟩
theorem text_pos {t : Tok} (h : may t.k t.t = true) : 0 < (text t).length := by
  obtain ⟨c, r, e, _⟩ := text_head h; rw [e]; simp
theorem count_le : ∀ {ts : List Tok}, (ts.all fun t => may t.k t.t) = true → ts.length ≤ (ts.map text).flatten.length
  | [], _ => by simp
  | t :: ts, h => by
    rw [List.all_cons, Bool.and_eq_true] at h
    have := count_le h.2
    have := text_pos h.1
    simp only [List.map_cons, List.flatten_cons, List.length_append, List.length_cons]
    omega
theorem tt_le (t : Tok) : t.t.length ≤ (text t).length := by
  unfold text; split
  · simp; omega
  · omega
theorem mem_le {ts : List Tok} {t : Tok} (h : t ∈ ts) : (text t).length ≤ (ts.map text).flatten.length := by
  induction ts with
  | nil => cases h
  | cons u us ih =>
    simp only [List.map_cons, List.flatten_cons, List.length_append]
    rcases List.mem_cons.1 h with rfl | h
    · omega
    · have := ih h; omega
/-! ### spaces between -/
def blanks (ks : Nat → Nat) : Nat → List Tok → Bs
  | _, [] => []
  | j, t :: ts => List.replicate (ks j) 32 ++ (text t ++ 32 :: blanks ks (j + 1) ts)
theorem blanks_app (ks : Nat → Nat) : ∀ (a b : List Tok) (j : Nat), blanks ks j (a ++ b) = blanks ks j a ++ blanks ks (j + a.length) b
  | [], b, j => by simp [blanks]
  | t :: a, b, j => by
    simp only [List.cons_append, blanks, blanks_app ks a b (j + 1), List.length_cons, List.append_assoc, show j + 1 + a.length = j + (a.length + 1) by omega]
theorem blanks_len (ks : Nat → Nat) (hk : ∀ i, ks i ≤ 3) : ∀ (ts : List Tok) (j : Nat), (blanks ks j ts).length ≤ (ts.map text).flatten.length + 4 * ts.length
  | [], j => by simp [blanks]
  | t :: ts, j => by
    have := blanks_len ks hk ts (j + 1)
    have := hk j
    simp only [blanks, List.map_cons, List.flatten_cons, List.length_append, List.length_cons, List.length_replicate]
    omega
theorem lexT_blanks (ks : Nat → Nat) : ∀ (ts : List Tok), (ts.all fun t => may t.k t.t) = true → ∀ (n j : Nat), (blanks ks j ts).length < n → lexT n (trim (blanks ks j ts)) = some ts
  | [], _, n, j, hn => by cases n with
    | zero => omega
    | succ n => rfl
  | t :: ts, h, n, j, hn => by
    rw [List.all_cons, Bool.and_eq_true] at h
    unfold blanks at hn ⊢
    rw [trim_sps, trim_text h.1]
    simp only [List.length_append, List.length_cons, List.length_replicate] at hn
    cases n with
    | zero => omega
    | succ n =>
      rw [lexT_text h.1 n (.inr ⟨_, rfl⟩), trim_sp, lexT_blanks ks ts h.2 n (j + 1) (by omega)]
      rfl
/-- P10.3 -/
theorem lex_blanks (ks : Nat → Nat) {ts : List Tok} (h : (ts.all fun t => may t.k t.t) = true) (hl : (blanks ks 0 ts).length ≤ 100) : lex (blanks ks 0 ts) = (ts, 0) := by
  have := lexT_blanks ks ts h ((blanks ks 0 ts).length + 1) 0 (by omega)
  unfold lex
  rw [if_neg (by omega), this]
end Lx
