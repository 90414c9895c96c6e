/- Plain laws of parts: two texts with a space between. No program in sight. -/
import Derived.Test.YtckgdgkkmhochaaGreatDoorLxAllP
namespace Lx
open Go
set_option linter.unusedVariables false
set_option linter.unusedSimpArgs false
theorem run_app {p : UInt8 → Bool} (hp : p 32 = false) (l t : Bs) : run p (l ++ 32 :: t) = run p l := by
  induction l with
  | nil => simp [run, List.takeWhile_cons, hp]
  | cons c s ih =>
    by_cases h : p c = true
    · rw [List.cons_append, run_cons_t h, run_cons_t h, ih]
    · rw [List.cons_append, run_cons_f (by simpa using h), run_cons_f (by simpa using h)]
theorem take_run_app {p : UInt8 → Bool} (l t : Bs) : (l ++ t).take (run p l) = l.take (run p l) := by
  rw [List.take_append_of_le_length (run_le p l)]
theorem cutQ_some_app {l q : Bs} (h : cutQ l = some q) (t : Bs) : cutQ (l ++ t) = some q := by
  have key : ∀ l : Bs, (l.takeWhile (· != 39)).length < l.length → (l ++ t).takeWhile (· != 39) = l.takeWhile (· != 39) := by
    intro l
    induction l with
    | nil => intro h; simp at h
    | cons c s ih =>
      intro h
      by_cases hc : (c != 39) = true
      · simp only [List.cons_append, List.takeWhile_cons, hc, if_true, List.length_cons] at h ⊢
        rw [ih (by omega)]
      · simp [List.takeWhile_cons, hc]
  unfold cutQ at h ⊢
  split at h
  · rename_i hl
    rw [key l hl, if_pos (by rw [List.length_append]; omega)]
    exact h
  · cases h
theorem prefix_app : ∀ (x l t : Bs), (∀ c ∈ x, c ≠ 32) → x.isPrefixOf (l ++ 32 :: t) = x.isPrefixOf l
  | [], l, t, _ => by simp
  | c :: x, [], t, h => by
    have := h c (List.mem_cons_self ..)
    simp [List.isPrefixOf, this]
  | c :: x, d :: l, t, h => by
    simp only [List.cons_append, List.isPrefixOf]
    rw [prefix_app x l t fun y hy => h y (List.mem_cons_of_mem _ hy)]
theorem signs_clean : ∀ x ∈ signs, ∀ c ∈ x, c ≠ 32 := by
  have : signs.all (fun x => x.all fun c => c != 32) = true := by decide
  intro x hx c hc
  have := List.all_eq_true.1 (List.all_eq_true.1 this x hx) c hc
  simpa using this
theorem find_congr {α : Type} {p q : α → Bool} : ∀ {l : List α}, (∀ x ∈ l, p x = q x) → l.find? p = l.find? q
  | [], _ => rfl
  | a :: l, h => by
    simp only [List.find?]
    rw [h a (List.mem_cons_self ..), find_congr fun x hx => h x (List.mem_cons_of_mem _ hx)]
theorem first_app {l : Bs} (h0 : (first l).2 ≠ 0) (t : Bs) : first (l ++ 32 :: t) = first l := by
  cases l with
  | nil => exact absurd rfl h0
  | cons c r =>
    have e1 := run_app (p := digit) (by decide) (c :: r) t
    have e2 := run_app (p := behind) (by decide) (c :: r) t
    have e3 := take_run_app (p := digit) (c :: r) (32 :: t)
    have e4 := take_run_app (p := behind) (c :: r) (32 :: t)
    rw [List.cons_append] at e1 e2 e3 e4 ⊢
    rw [first_cons] at h0 ⊢
    rw [first_cons, e1, e2, e3, e4]
    by_cases h1 : digit c = true
    · rw [if_pos h1, if_pos h1]
    · rw [if_neg h1] at h0 ⊢
      rw [if_neg h1]
      by_cases h2 : letter c = true
      · rw [if_pos h2, if_pos h2]
      · rw [if_neg h2] at h0 ⊢
        rw [if_neg h2]
        by_cases h3 : c = 39
        · rw [if_pos h3] at h0 ⊢
          rw [if_pos h3]
          cases e : cutQ r with
          | none => rw [e] at h0; exact absurd rfl h0
          | some q => rw [cutQ_some_app e]
        · rw [if_neg h3, if_neg h3]
          have e : (signs.find? fun x => x.isPrefixOf (c :: (r ++ 32 :: t))) = signs.find? fun x => x.isPrefixOf (c :: r) := find_congr fun x hx => prefix_app x (c :: r) t (signs_clean x hx)
          rw [e]
theorem first_le (l : Bs) : (first l).2 ≤ l.length := by
  cases l with
  | nil => simp [first, none]
  | cons c r =>
    rw [first_cons]
    split
    · exact run_le _ _
    · split
      · exact run_le _ _
      · split
        · cases h : cutQ r with
          | none => simp [none]
          | some q => have := cutQ_len h; simp; omega
        · cases h : signs.find? fun x => x.isPrefixOf (c :: r) with
          | none => simp [none]
          | some x =>
            have := List.find?_some h
            exact (List.isPrefixOf_iff_prefix.1 this).length_le
theorem trim_trim (a t : Bs) : trim (a ++ 32 :: t) = trim (trim a ++ 32 :: t) := by
  induction a with
  | nil => rfl
  | cons c s ih =>
    by_cases h : c = 32
    · subst h; rw [List.cons_append, trim_sp, trim_sp, ih]
    · have e : trim (c :: s) = c :: s := by unfold trim; rw [List.dropWhile_cons, if_neg (by simpa using h)]
      rw [e]
theorem lexT_fuel : ∀ (n m : Nat) (l : Bs), l.length < n → l.length < m → lexT n l = lexT m l
  | 0, _, _, h, _ => by omega
  | _ + 1, 0, _, _, h => by omega
  | n + 1, m + 1, [], _, _ => rfl
  | n + 1, m + 1, c :: r, h, k => by
    rw [lexT_cons, lexT_cons]
    by_cases h0 : (first (c :: r)).2 = 0
    · simp [h0]
    · have h1 := trim_le ((c :: r).drop (first (c :: r)).2)
      rw [List.length_drop, List.length_cons] at h1
      simp only [List.length_cons] at h k
      rw [lexT_fuel n m _ (by omega) (by omega)]
theorem trim_idem {l : Bs} {c : UInt8} (h : c ≠ 32) : trim (c :: l) = c :: l := by unfold trim; rw [List.dropWhile_cons, if_neg (by simpa using h)]
theorem first_sp (l : Bs) : (first (32 :: l)).2 = 0 := by
  have : ∀ x ∈ signs, x.isPrefixOf (32 :: l) = false := by
    intro x hx
    have := prefix_app x [] l (signs_clean x hx)
    rw [List.nil_append] at this
    rw [this]
    have hne : signs.all (fun x => !x.isPrefixOf []) = true := by decide
    simpa using List.all_eq_true.1 hne x hx
  rw [first_cons, if_neg (by decide), if_neg (by decide), if_neg (by decide), List.find?_eq_none.2 fun x hx => by rw [this x hx]; decide]
  rfl
theorem lexT_app : ∀ (n : Nat) (l : Bs) (ts : List Tok), lexT n l = some ts → ∀ (t : Bs) (m k : Nat), l.length + t.length + 1 < m → t.length < k → lexT m (trim (l ++ 32 :: t)) = (lexT k (trim t)).map (ts ++ ·)
  | n, l, ts, h, t, m, k, hm, hk => by
    rcases lexT_one h with ⟨rfl, rfl⟩ | ⟨n', t0, us, rfl, rfl, hmay, hl, hf, hd, hu⟩
    · rw [List.nil_append, trim_sp]
      have := trim_le t
      rw [lexT_fuel m k _ (by omega) (by omega)]
      cases lexT k (trim t) <;> rfl
    · cases l with
      | nil =>
        obtain ⟨c, r, e, _⟩ := text_head hmay
        rw [e] at hl; simp at hl
      | cons c r =>
        have h0 : (first (c :: r)).2 ≠ 0 := fun e => by
          simp only [lexT] at h
          rw [if_pos (by simp [e])] at h
          cases h
        have hc : c ≠ 32 := fun e => by subst e; exact h0 (first_sp r)
        have hfa := first_app h0 t
        rw [List.cons_append] at hfa ⊢
        rw [trim_idem hc]
        cases m with
        | zero => omega
        | succ m =>
          have hb := first_stands h0
          have hle := first_le (c :: r)
          have hdr : (c :: (r ++ 32 :: t)).drop (first (c :: r)).2 = (c :: r).drop (first (c :: r)).2 ++ 32 :: t := by
            rw [← List.cons_append, List.drop_append_of_le_length hle]
          rw [lexT_cons, hfa, hdr, hf, if_neg (by rw [hf] at h0; simp only at h0; simp [h0, hmay])]
          rw [← hf, trim_trim]
          have h2 := trim_le ((c :: r).drop (first (c :: r)).2)
          rw [List.length_drop] at h2
          simp only [List.length_cons] at hm h2
          rw [lexT_app n' _ us hu t m k (by omega) hk, Option.map_map]
          have ef : (first (c :: r)).1 = t0 := by rw [hf]
          rw [ef]
          congr 1
/-- P10.4 -/
theorem lex_long {u : Bs} (h : 100 < u.length) : (lex u).2 = 40 := by unfold lex; rw [if_pos h]
theorem lex_pieces {s t : Bs} {a : List Tok} (h : lex s = (a, 0)) (hl : (s ++ 32 :: t).length ≤ 100) : lex (s ++ 32 :: t) = if (lex t).2 = 0 then (a ++ (lex t).1, 0) else ([], (lex t).2) := by
  have hs : lexT (s.length + 1) (trim s) = some a := by
    unfold lex at h
    split at h
    · injection h with h1 h2; cases h2
    · split at h
      · rename_i ts hx; injection h with h1 h2; rw [hx, h1]
      · injection h with h1 h2; cases h2
  have h1 := trim_le s
  have h2 := trim_trim s t
  rw [List.length_append, List.length_cons] at hl
  have h3 := lexT_app _ _ _ hs t ((s ++ 32 :: t).length + 1) (t.length + 1) (by rw [List.length_append, List.length_cons]; omega) (by omega)
  have ht : lex t = match lexT (t.length + 1) (trim t) with
    | some ts => (ts, 0)
    | Option.none => ([], 4) := by unfold lex; rw [if_neg (by omega)]; rfl
  unfold lex at ht ⊢
  rw [if_neg (by rw [List.length_append, List.length_cons]; omega), h2, h3, ht]
  cases lexT (t.length + 1) (trim t) <;> simp
end Lx
