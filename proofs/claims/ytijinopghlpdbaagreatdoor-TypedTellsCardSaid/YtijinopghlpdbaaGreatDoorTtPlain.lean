/- Plain laws of numbers as texts: which digits are a number of 64 bits. No program in sight. -/
import Derived.Test.YtijinopghlpdbaaGreatDoorLxPlain
import Derived.Lib.ParseIntBCases
import GoSem.Op.String
namespace Lx
open Go
set_option linter.unusedVariables false
set_option linter.unusedSimpArgs false
def dig (c : UInt8) : Nat := c.toNat - 48
/-- what digits spell, behind what those before spell -/
def val (acc : Nat) (l : Bs) : Nat := l.foldl (fun n c => n * 10 + dig c) acc
theorem val_nil (acc : Nat) : val acc [] = acc := rfl
theorem val_cons (acc : Nat) (c : UInt8) (r : Bs) : val acc (c :: r) = val (acc * 10 + dig c) r := by unfold val; rw [List.foldl_cons]
theorem digit_iff {c : UInt8} : digit c = true ↔ 48 ≤ c.toNat ∧ c.toNat ≤ 57 := by
  unfold digit; simp only [Bool.and_eq_true, decide_eq_true_eq]; omega
theorem val_ge : ∀ (l : Bs) (acc : Nat), acc * 10 ^ l.length ≤ val acc l
  | [], acc => by simp [val_nil]
  | c :: r, acc => by
    have := val_ge r (acc * 10 + dig c)
    rw [Nat.add_mul, Nat.mul_assoc] at this
    rw [List.length_cons, Nat.pow_succ, val_cons, Nat.mul_comm (10 ^ r.length)]
    omega
theorem val_lt : ∀ (l : Bs) (acc : Nat), (∀ c ∈ l, digit c = true) → val acc l < (acc + 1) * 10 ^ l.length
  | [], acc, _ => by simp [val_nil]
  | c :: r, acc, h => by
    have := val_lt r (acc * 10 + dig c) fun x hx => h x (List.mem_cons_of_mem _ hx)
    have hc := digit_iff.1 (h c (List.mem_cons_self ..))
    have h1 : acc * 10 + dig c + 1 ≤ (acc + 1) * 10 := by unfold dig; omega
    have h2 := Nat.mul_le_mul_right (10 ^ r.length) h1
    rw [List.length_cons, Nat.pow_succ, val_cons, Nat.mul_comm (10 ^ r.length), ← Nat.mul_assoc]
    omega
theorem uint_val : ∀ (l : Bs) (acc : Nat), (∀ c ∈ l, digit c = true) → Lib.parseUintM (2 ^ 64 - 1) acc l = .ok (val acc l) ∨ (Lib.parseUintM (2 ^ 64 - 1) acc l = .range ∧ 2 ^ 63 ≤ val acc l)
  | [], acc, _ => .inl rfl
  | c :: r, acc, h => by
    have hc := digit_iff.1 (h c (List.mem_cons_self ..))
    have ge := val_ge r (acc * 10 + dig c)
    have p : 0 < 10 ^ r.length := Nat.pow_pos (by decide)
    have ge2 : acc * 10 + dig c ≤ val (acc * 10 + dig c) r := Nat.le_trans (Nat.le_mul_of_pos_right _ p) ge
    simp only [Lib.parseUintM, hc, and_self, if_true, val_cons]
    unfold dig at *
    split
    · right
      refine ⟨rfl, ?_⟩
      omega
    · split
      · right
        refine ⟨rfl, ?_⟩
        omega
      · exact uint_val r _ fun x hx => h x (List.mem_cons_of_mem _ hx)
theorem parsed_val {l : Bs} (h0 : l ≠ []) (h : ∀ c ∈ l, digit c = true) : parsed (Lib.parseIntB 64 l) = decide (val 0 l < 2 ^ 63) := by
  cases l with
  | nil => exact absurd rfl h0
  | cons c r =>
    have hc := digit_iff.1 (h c (List.mem_cons_self ..))
    have h43 : ¬ c.toNat = 43 := by omega
    have h45 : ¬ c.toNat = 45 := by omega
    simp only [Lib.parseIntB, h43, h45, or_self, if_false, Lib.parseUintB, reduceCtorEq, not_false_eq_true, true_and, false_and]
    rcases uint_val (c :: r) 0 h with e | ⟨e, hv⟩
    · rw [e]
      simp only
      split
      · rename_i hh
        rw [decide_eq_false (by omega)]; rfl
      · rename_i hh
        rw [decide_eq_true (by omega)]; rfl
    · rw [e, decide_eq_false (by omega)]; rfl
theorem val_less {a b : Bs} {m n : Nat} (h : a.length = b.length) (ha : ∀ c ∈ a, digit c = true) (hmn : m < n) : val m a < val n b := by
  have h1 := val_lt a m ha
  have h2 := val_ge b n
  rw [← h] at h2
  have h3 := Nat.mul_le_mul_right (10 ^ a.length) (show m + 1 ≤ n from hmn)
  omega
/-- of texts of one length, the lesser one is the lesser number -/
theorem less_val : ∀ (a b : Bs) (m : Nat), a.length = b.length → (∀ c ∈ a, digit c = true) → (∀ c ∈ b, digit c = true) → (Op.bytesLess a b || (a == b)) = decide (val m a ≤ val m b)
  | [], [], m, _, _, _ => by simp [val_nil, Op.bytesLess]
  | [], _ :: _, _, h, _, _ => by simp at h
  | _ :: _, [], _, h, _, _ => by simp at h
  | c :: a, d :: b, m, h, ha, hb => by
    have hc := digit_iff.1 (ha c (List.mem_cons_self ..))
    have hd := digit_iff.1 (hb d (List.mem_cons_self ..))
    have hl : a.length = b.length := by simpa using h
    have ha' : ∀ x ∈ a, digit x = true := fun x hx => ha x (List.mem_cons_of_mem _ hx)
    have hb' : ∀ x ∈ b, digit x = true := fun x hx => hb x (List.mem_cons_of_mem _ hx)
    rw [val_cons, val_cons]
    by_cases e : c = d
    · subst e
      rw [← less_val a b (m * 10 + dig c) hl ha' hb']
      simp [Op.bytesLess]
    · have hne : c.toNat ≠ d.toNat := fun h => e (UInt8.toNat_inj.1 h)
      rcases Nat.lt_or_ge c.toNat d.toNat with hlt | hge
      · have := val_less (m := m * 10 + dig c) (n := m * 10 + dig d) hl ha' (by unfold dig; omega)
        rw [decide_eq_true (Nat.le_of_lt this)]
        have h5 : c < d := UInt8.lt_iff_toNat_lt.2 hlt
        simp [Op.bytesLess, h5]
      · have := val_less (m := m * 10 + dig d) (n := m * 10 + dig c) hl.symm hb' (by unfold dig; omega)
        rw [decide_eq_false (Nat.not_le.2 this)]
        have h5 : ¬ c < d := fun h => by have := UInt8.lt_iff_toNat_lt.1 h; omega
        simp [Op.bytesLess, h5, e]
def top : Bs := [57, 50, 50, 51, 51, 55, 50, 48, 51, 54, 56, 53, 52, 55, 55, 53, 56, 48, 55]
theorem top_val : val 0 top = 2 ^ 63 - 1 := by decide +kernel
theorem run_iff {p : UInt8 → Bool} {l : Bs} : run p l = l.length ↔ ∀ c ∈ l, p c = true := by
  refine ⟨fun h => ?_, fun h => ?_⟩
  · induction l with
    | nil => intro c hc; cases hc
    | cons c s ih =>
      by_cases hc : p c = true
      · rw [run_cons_t hc, List.length_cons] at h
        intro x hx
        rcases List.mem_cons.1 hx with rfl | hx
        · exact hc
        · exact ih (by omega) x hx
      · rw [run_cons_f (by simpa using hc)] at h; simp at h
  · induction l with
    | nil => rfl
    | cons c s ih => rw [run_cons_t (h c (List.mem_cons_self ..)), ih fun x hx => h x (List.mem_cons_of_mem _ hx)]; rfl
/-- a number, as the document says it -/
theorem num_doc {l : Bs} (h0 : l ≠ []) (h1 : l.length ≤ 19) (h2 : ¬ (l.head? = some 48 ∧ 1 < l.length)) (h : ∀ c ∈ l, digit c = true) : numOk l = (decide (l.length < 19) || (Op.bytesLess l top || (l == top))) := by
  have hr := run_iff.2 h
  have hz : ((l.length == 1) || !(l.head? == some 48)) = true := by
    cases hh : (l.head? == some 48)
    · simp
    · have hl : l.length = 1 := by
        have : 0 < l.length := List.length_pos_iff.2 h0
        have : ¬ 1 < l.length := fun h3 => h2 ⟨by simpa using hh, h3⟩
        omega
      simp [hl]
  unfold numOk
  rw [hr, hz, parsed_val h0 h]
  simp only [beq_self_eq_true, Bool.and_true]
  by_cases hl : l.length < 19
  · have := val_lt l 0 h
    have hp : 10 ^ l.length ≤ 10 ^ 18 := Nat.pow_le_pow_right (by decide) (by omega)
    rw [decide_eq_true (show val 0 l < 2 ^ 63 by omega), decide_eq_true hl]; rfl
  · have he : l.length = top.length := by show l.length = 19; omega
    have := less_val l top 0 he h (by decide)
    rw [this, top_val, decide_eq_false hl, Bool.false_or]
    congr 1
    rw [eq_iff_iff]; omega
theorem num_no0 : numOk [] = false := by rw [numOk]; decide
theorem num_no1 {l : Bs} (h : 19 < l.length) : numOk l = false := by
  cases hn : numOk l with
  | false => rfl
  | true =>
    exfalso
    unfold numOk at hn
    simp only [Bool.and_eq_true, beq_iff_eq] at hn
    obtain ⟨hp, hr, hz⟩ := hn
    have hd := run_iff.1 hr
    have h0 : l ≠ [] := by rintro rfl; simp at h
    rw [parsed_val h0 hd, decide_eq_true_eq] at hp
    cases l with
    | nil => exact h0 rfl
    | cons c r =>
      have hc := digit_iff.1 (hd c (List.mem_cons_self ..))
      have h48 : c ≠ 48 := by
        rintro rfl
        simp at hz
        rw [hz] at h; simp at h
      have h48' : c.toNat ≠ 48 := fun e => h48 (UInt8.toNat_inj.1 e)
      have := val_ge r (0 * 10 + dig c)
      rw [val_cons] at hp
      have hp2 : 10 ^ 19 ≤ 10 ^ r.length := Nat.pow_le_pow_right (by decide) (by simp at h; omega)
      have h3 : 1 * 10 ^ r.length ≤ (0 * 10 + dig c) * 10 ^ r.length := Nat.mul_le_mul_right _ (by unfold dig; omega)
      omega
theorem num_no2 {l : Bs} (h : l.head? = some 48) (h1 : 1 < l.length) : numOk l = false := by
  unfold numOk
  have h2 : (l.length == 1) = false := by rw [beq_eq_false_iff_ne]; omega
  rw [h, h2]; simp
theorem num_no3 {l : Bs} (h : run digit l ≠ l.length) : numOk l = false := by
  unfold numOk
  have h2 : (run digit l == l.length) = false := by rw [beq_eq_false_iff_ne]; exact h
  rw [h2]; simp
end Lx

/- Plain laws of parts: what stands there is read again. No program in sight. -/
namespace Lx
open Go
set_option linter.unusedVariables false
set_option linter.unusedSimpArgs false
/-- behind a part: nothing, or a space -/
def Off (l : Bs) : Prop := l = [] ∨ ∃ r, l = 32 :: r
theorem run_off {p : UInt8 → Bool} (hp : p 32 = false) {l r : Bs} (h : run p l = l.length) (hr : Off r) : run p (l ++ r) = l.length := by
  induction l with
  | nil =>
    obtain rfl | ⟨x, rfl⟩ := hr
    · rfl
    · simp [run, List.takeWhile_cons, hp]
  | cons c s ih =>
    by_cases hc : p c = true
    · rw [run_cons_t hc, List.length_cons] at h
      rw [List.cons_append, run_cons_t hc, ih (by omega), List.length_cons]
    · rw [run_cons_f (by simpa using hc)] at h; simp at h
theorem run_all {p : UInt8 → Bool} {l : Bs} (h : run p l = l.length) : ∀ c ∈ l, p c = true := by
  induction l with
  | nil => intro c hc; cases hc
  | cons c s ih =>
    by_cases hc : p c = true
    · rw [run_cons_t hc, List.length_cons] at h
      intro x hx
      rcases List.mem_cons.1 hx with rfl | hx
      · exact hc
      · exact ih (by omega) x hx
    · rw [run_cons_f (by simpa using hc)] at h; simp at h
theorem cutQ_app {q : Bs} (h : ∀ c ∈ q, c ≠ 39) (r : Bs) : cutQ (q ++ 39 :: r) = some q := by
  have h1 : (q ++ 39 :: r).takeWhile (· != 39) = q := by
    induction q with
    | nil => rfl
    | cons c s ih =>
      have h2 : (c != 39) = true := by simpa using h c (List.mem_cons_self ..)
      rw [List.cons_append, List.takeWhile_cons, if_pos h2, ih fun x hx => h x (List.mem_cons_of_mem _ hx)]
  unfold cutQ
  rw [h1]; simp
theorem not_parsed_nil : parsed (Lib.parseIntB 64 []) = false := by kernel_rfl
theorem letter_not_digit {c : UInt8} (h : letter c = true) : digit c = false := by
  unfold letter at h; unfold digit; simp only [Bool.and_eq_true, decide_eq_true_eq, Bool.and_eq_false_iff, decide_eq_false_iff_not] at h ⊢; omega
theorem behind_digit {c : UInt8} (h : digit c = true) : behind c = true := by simp [behind, h]
theorem first_cons (c : UInt8) (r : Bs) : first (c :: r) = if digit c then (⟨1, (c :: r).take (run digit (c :: r))⟩, run digit (c :: r))
    else if letter c then (⟨2, (c :: r).take (run behind (c :: r))⟩, run behind (c :: r))
    else if c = 39 then (match cutQ r with
      | some q => (⟨3, q⟩, q.length + 2)
      | Option.none => none)
    else match signs.find? fun x => x.isPrefixOf (c :: r) with
      | some x => (⟨4, x⟩, x.length)
      | Option.none => none := rfl
/-- a part that may be is read where it stands -/
theorem first_text {t : Tok} (h : may t.k t.t = true) {r : Bs} (hr : Off r) : first (text t ++ r) = (t, (text t).length) := by
  obtain ⟨k, t⟩ := t
  unfold may at h; unfold text
  simp only at h ⊢
  by_cases h1 : k = 1
  · subst h1
    simp only [if_true, show ¬ ((1 : Int) = 3) by decide, if_false] at h ⊢
    unfold numOk at h
    simp only [Bool.and_eq_true, beq_iff_eq] at h
    obtain ⟨hp, hd, -⟩ := h
    cases t with
    | nil => rw [not_parsed_nil] at hp; cases hp
    | cons c s =>
      have hc := run_all hd c (List.mem_cons_self ..)
      have e := run_off (p := digit) (by decide) hd hr
      rw [List.cons_append] at e ⊢
      rw [first_cons, if_pos hc, e]
      rw [← List.cons_append, List.take_left']
      rfl
  · rw [if_neg h1] at h
    by_cases h2 : k = 2
    · subst h2
      simp only [if_true, show ¬ ((2 : Int) = 3) by decide, if_false] at h ⊢
      unfold wordOk at h
      cases t with
      | nil => cases h
      | cons c s =>
        simp only [Bool.and_eq_true, beq_iff_eq] at h
        obtain ⟨hc, hd, -⟩ := h
        have e := run_off (p := behind) (by decide) hd hr
        rw [List.cons_append] at e ⊢
        rw [first_cons, if_neg (by rw [letter_not_digit hc]; decide), if_pos hc, e]
        rw [← List.cons_append, List.take_left']
        rfl
    · rw [if_neg h2] at h
      by_cases h3 : k = 3
      · subst h3
        simp only [if_true] at h ⊢
        unfold quoteOk at h
        simp only [Bool.and_eq_true, beq_iff_eq, decide_eq_true_eq] at h
        have hq : ∀ c ∈ t, c ≠ 39 := by
          intro c hc e
          have := run_all h.1 c hc
          subst e; revert this; decide
        have e : cutQ (t ++ [39] ++ r) = some t := by
          rw [List.append_assoc]; exact cutQ_app hq r
        rw [List.cons_append]
        rw [first_cons, if_neg (by decide), if_neg (by decide), if_pos rfl, e]
        simp
      · rw [if_neg h3] at h
        rw [if_neg h3]
        by_cases h4 : k = 4
        · subst h4
          simp only [if_true] at h
          rw [List.contains_iff_mem] at h
          simp only [signs, List.mem_cons, List.not_mem_nil, or_false] at h
          obtain rfl | ⟨x, rfl⟩ := hr
          · rcases h with rfl | rfl | rfl | rfl | rfl | rfl | rfl | rfl | rfl | rfl | rfl | rfl | rfl | rfl <;> kernel_rfl
          · rcases h with rfl | rfl | rfl | rfl | rfl | rfl | rfl | rfl | rfl | rfl | rfl | rfl | rfl | rfl <;> kernel_rfl
        · rw [if_neg h4] at h; cases h
/-- a part that may be is not empty, and begins with no space -/
theorem text_head {t : Tok} (h : may t.k t.t = true) : ∃ c r, text t = c :: r ∧ c ≠ 32 := by
  obtain ⟨k, t⟩ := t
  unfold may at h; unfold text
  simp only at h ⊢
  by_cases h1 : k = 1
  · subst h1
    simp only [if_true, show ¬ ((1 : Int) = 3) by decide, if_false] at h ⊢
    unfold numOk at h
    simp only [Bool.and_eq_true, beq_iff_eq] at h
    obtain ⟨hp, hd, -⟩ := h
    cases t with
    | nil => rw [not_parsed_nil] at hp; cases hp
    | cons c s =>
      have hc := run_all hd c (List.mem_cons_self ..)
      exact ⟨c, s, rfl, fun e => by subst e; revert hc; decide⟩
  · rw [if_neg h1] at h
    by_cases h2 : k = 2
    · subst h2
      simp only [if_true, show ¬ ((2 : Int) = 3) by decide, if_false] at h ⊢
      unfold wordOk at h
      cases t with
      | nil => cases h
      | cons c s =>
        simp only [Bool.and_eq_true, beq_iff_eq] at h
        obtain ⟨hc, hd, -⟩ := h
        exact ⟨c, s, rfl, fun e => by subst e; revert hc; decide⟩
    · rw [if_neg h2] at h
      by_cases h3 : k = 3
      · subst h3
        exact ⟨39, t ++ [39], by simp, by decide⟩
      · rw [if_neg h3] at h
        rw [if_neg h3]
        by_cases h4 : k = 4
        · subst h4
          simp only [if_true] at h
          rw [List.contains_iff_mem] at h
          simp only [signs, List.mem_cons, List.not_mem_nil, or_false] at h
          rcases h with rfl | rfl | rfl | rfl | rfl | rfl | rfl | rfl | rfl | rfl | rfl | rfl | rfl | rfl <;> exact ⟨_, _, rfl, by decide⟩
        · rw [if_neg h4] at h; cases h
theorem trim_text {t : Tok} (h : may t.k t.t = true) (r : Bs) : trim (text t ++ r) = text t ++ r := by
  obtain ⟨c, s, e, hc⟩ := text_head h
  rw [e, List.cons_append]; unfold trim
  rw [List.dropWhile_cons, if_neg (by simpa using hc)]
theorem trim_sp (r : Bs) : trim (32 :: r) = trim r := by simp [trim, List.dropWhile_cons]
theorem trim_sps (n : Nat) (r : Bs) : trim (List.replicate n 32 ++ r) = trim r := by
  induction n with
  | zero => rfl
  | succ n ih => rw [List.replicate_succ, List.cons_append, trim_sp, ih]
theorem lexT_cons (n : Nat) (c : UInt8) (r : Bs) : lexT (n + 1) (c :: r) = if (first (c :: r)).2 = 0 || !(may (first (c :: r)).1.k (first (c :: r)).1.t) then Option.none else (lexT n (trim ((c :: r).drop (first (c :: r)).2))).map ((first (c :: r)).1 :: ·) := rfl
/-- one part on -/
theorem lexT_text {t : Tok} (h : may t.k t.t = true) (n : Nat) {r : Bs} (hr : Off r) : lexT (n + 1) (text t ++ r) = (lexT n (trim r)).map (t :: ·) := by
  obtain ⟨c, s, e, hc⟩ := text_head h
  have f := first_text h hr
  rw [e] at f ⊢
  rw [List.cons_append] at f ⊢
  rw [lexT_cons, f]
  simp only [h, Bool.not_true, Bool.or_false, decide_eq_true_eq, List.length_cons]
  rw [if_neg (by simp)]
  have hd : (c :: (s ++ r)).drop (s.length + 1) = r := by simp
  rw [hd]
/-- parts with one space between, and with so many before each -/
theorem join_cons (t : Tok) (u : Tok) (ts : List Tok) : shown (t :: u :: ts) = text t ++ 32 :: shown (u :: ts) := by
  unfold shown; simp [Lib.join]
theorem lexT_shown : ∀ (ts : List Tok), (ts.all fun t => may t.k t.t) = true → ∀ n, (shown ts).length < n → lexT n (shown ts) = some ts ∧ trim (shown ts) = shown ts
  | [], _, n, hn => by cases n with
    | zero => omega
    | succ n => exact ⟨rfl, rfl⟩
  | [t], h, n, hn => by
    simp only [List.all_cons, List.all_nil, Bool.and_true] at h
    have e : shown [t] = text t ++ [] := by simp [shown, Lib.join]
    cases n with
    | zero => omega
    | succ n =>
      obtain ⟨c, s, e', hc⟩ := text_head h
      have hl : 1 ≤ n := by rw [e, List.append_nil, e', List.length_cons] at hn; omega
      rw [e]
      refine ⟨?_, trim_text h []⟩
      rw [lexT_text h n (.inl rfl)]
      cases n with
      | zero => omega
      | succ n => rfl
  | t :: u :: ts, h, n, hn => by
    have h' : ((u :: ts).all fun t => may t.k t.t) = true := by
      rw [List.all_cons] at h; exact (Bool.and_eq_true _ _ ▸ h).2
    have ht : may t.k t.t = true := by rw [List.all_cons] at h; exact (Bool.and_eq_true _ _ ▸ h).1
    rw [join_cons] at hn ⊢
    obtain ⟨c, s, e', hc⟩ := text_head ht
    rw [List.length_append, List.length_cons] at hn
    cases n with
    | zero => omega
    | succ n =>
      have ih := lexT_shown (u :: ts) h' n (by rw [e', List.length_cons] at hn; omega)
      refine ⟨?_, trim_text ht _⟩
      rw [lexT_text ht n (.inr ⟨_, rfl⟩), trim_sp, ih.2, ih.1]; rfl
/-- P10.2 -/
theorem lex_shown {ts : List Tok} (h : (ts.all fun t => may t.k t.t) = true) (hl : (shown ts).length ≤ 100) : lex (shown ts) = (ts, 0) := by
  have := lexT_shown ts h ((shown ts).length + 1) (by omega)
  unfold lex
  rw [if_neg (by omega), this.2, this.1]
/-- what is read stands there -/
theorem first_stands {l : Bs} (h0 : (first l).2 ≠ 0) : l = text (first l).1 ++ l.drop (first l).2 := by
  cases l with
  | nil => exact absurd rfl h0
  | cons c r =>
    rw [first_cons] at h0 ⊢
    by_cases h1 : digit c = true
    · rw [if_pos h1]; simp [text, List.take_append_drop]
    · rw [if_neg h1] at h0 ⊢
      by_cases h2 : letter c = true
      · rw [if_pos h2]; simp [text, List.take_append_drop]
      · rw [if_neg h2] at h0 ⊢
        by_cases h3 : c = 39
        · subst h3
          rw [if_pos rfl] at h0 ⊢
          cases e : cutQ r with
          | none => rw [e] at h0; exact absurd rfl h0
          | some q =>
            simp only [text, if_true]
            have hq : r = q ++ 39 :: r.drop (q.length + 1) := by
              unfold cutQ at e
              split at e
              · rename_i hl
                obtain rfl := Option.some.inj e
                have h5 := List.takeWhile_append_dropWhile (p := (· != 39)) (l := r)
                cases hd : r.dropWhile (· != 39) with
                | nil => rw [hd, List.append_nil] at h5; rw [h5] at hl; omega
                | cons d z =>
                  have h6 : ¬ ((d != 39) = true) := by
                    have := List.head_dropWhile_not (p := (· != 39)) (l := r) (by rw [hd]; simp)
                    simp only [hd, List.head_cons] at this; simp [this]
                  have h7 : d = 39 := by simpa using h6
                  subst h7
                  rw [hd] at h5
                  have h8 : r.drop ((r.takeWhile (· != 39)).length + 1) = z := by
                    rw (config := {occs := .pos [2]}) [← h5]
                    rw [← List.drop_drop, List.drop_left]; rfl
                  rw [h8]; exact h5.symm
              · cases e
            rw [show q.length + 2 = (q.length + 1) + 1 from rfl, List.drop_succ_cons]
            conv => lhs; rw [hq]
            simp
        · rw [if_neg h3] at h0 ⊢
          cases e : signs.find? fun x => x.isPrefixOf (c :: r) with
          | none => rw [e] at h0; exact absurd rfl h0
          | some x =>
            simp only [text, show ¬ ((4 : Int) = 3) by decide, if_false]
            have := List.find?_some e
            rw [List.isPrefixOf_iff_prefix] at this
            obtain ⟨z, hz⟩ := this
            rw [← hz]; simp
end Lx

/- Plain laws of parts: the bytes that stand in no part; spaces between. No program in sight. -/
namespace Lx
open Go
set_option linter.unusedVariables false
set_option linter.unusedSimpArgs false
/-- the bytes so far, without spaces outside of quotes; is a quote open? -/
def bstep (b : Bs × Bool) (c : UInt8) : Bs × Bool := if c = 39 then (b.1 ++ [c], !b.2) else if c ≠ 32 ∨ b.2 = true then (b.1 ++ [c], b.2) else b
def bareF (l : Bs) : Bs × Bool := l.foldl bstep ([], false)
theorem fold_plain {t : Bs} (h : ∀ c ∈ t, c ≠ 39 ∧ c ≠ 32) (b : Bs) : t.foldl bstep (b, false) = (b ++ t, false) := by
  induction t generalizing b with
  | nil => simp
  | cons c s ih =>
    have hc := h c (List.mem_cons_self ..)
    rw [List.foldl_cons]
    have e : bstep (b, false) c = (b ++ [c], false) := by simp [bstep, hc.1, hc.2]
    rw [e, ih fun x hx => h x (List.mem_cons_of_mem _ hx)]
    simp
theorem fold_in {t : Bs} (h : ∀ c ∈ t, c ≠ 39) (b : Bs) : t.foldl bstep (b, true) = (b ++ t, true) := by
  induction t generalizing b with
  | nil => simp
  | cons c s ih =>
    have hc := h c (List.mem_cons_self ..)
    rw [List.foldl_cons]
    have e : bstep (b, true) c = (b ++ [c], true) := by simp [bstep, hc]
    rw [e, ih fun x hx => h x (List.mem_cons_of_mem _ hx)]
    simp
theorem fold_trim (l b : Bs) : (trim l).foldl bstep (b, false) = l.foldl bstep (b, false) := by
  induction l with
  | nil => rfl
  | cons c s ih =>
    by_cases h : c = 32
    · subst h
      rw [trim_sp, ih, List.foldl_cons]
      rfl
    · unfold trim
      rw [List.dropWhile_cons, if_neg (by simpa using h)]
theorem clean {t : Tok} (h : may t.k t.t = true) (h3 : t.k ≠ 3) : ∀ c ∈ t.t, c ≠ 39 ∧ c ≠ 32 := by
  obtain ⟨k, t⟩ := t
  unfold may at h
  simp only at h h3 ⊢
  intro c hc
  by_cases h1 : k = 1
  · subst h1
    simp only [if_true] at h
    unfold numOk at h
    simp only [Bool.and_eq_true, beq_iff_eq] at h
    have := run_all h.2.1 c hc
    exact ⟨fun e => by subst e; revert this; decide, fun e => by subst e; revert this; decide⟩
  · rw [if_neg h1] at h
    by_cases h2 : k = 2
    · subst h2
      simp only [if_true] at h
      unfold wordOk at h
      cases t with
      | nil => cases hc
      | cons d s =>
        simp only [Bool.and_eq_true, beq_iff_eq] at h
        have := run_all h.2.1 c hc
        exact ⟨fun e => by subst e; revert this; decide, fun e => by subst e; revert this; decide⟩
    · rw [if_neg h2, if_neg h3] at h
      by_cases h4 : k = 4
      · subst h4
        simp only [if_true] at h
        rw [List.contains_iff_mem] at h
        have hall : signs.all (fun s => s.all fun c => (c != 39) && (c != 32)) = true := by decide
        have := List.all_eq_true.1 (List.all_eq_true.1 hall t h) c hc
        simpa using this
      · rw [if_neg h4] at h; cases h
theorem clean3 {t : Tok} (h : may t.k t.t = true) (h3 : t.k = 3) : ∀ c ∈ t.t, c ≠ 39 := by
  obtain ⟨k, t⟩ := t
  unfold may at h
  simp only at h h3 ⊢
  subst h3
  intro c hc
  simp only [show ¬ ((3 : Int) = 1) by decide, show ¬ ((3 : Int) = 2) by decide, if_false, if_true] at h
  unfold quoteOk at h
  simp only [Bool.and_eq_true, beq_iff_eq] at h
  intro e
  have := run_all h.1 c hc
  subst e; revert this; decide
theorem fold_text {t : Tok} (h : may t.k t.t = true) (b : Bs) : (text t).foldl bstep (b, false) = (b ++ text t, false) := by
  unfold text
  by_cases h3 : t.k = 3
  · rw [if_pos h3, List.foldl_cons, List.foldl_append]
    have e : bstep (b, false) 39 = (b ++ [39], true) := by simp [bstep]
    rw [e, fold_in (clean3 h h3)]
    simp [bstep]
  · rw [if_neg h3]
    exact fold_plain (clean h h3) b
/-- one part of what is read -/
theorem lexT_one {n : Nat} {l : Bs} {ts : List Tok} (h : lexT n l = some ts) : (l = [] ∧ ts = []) ∨ ∃ m t us, n = m + 1 ∧ ts = t :: us ∧ may t.k t.t = true ∧ l = text t ++ l.drop (text t).length ∧ (first l) = (t, (first l).2) ∧ l.drop (first l).2 = l.drop (text t).length ∧ lexT m (trim (l.drop (first l).2)) = some us := by
  cases n with
  | zero => cases h
  | succ m =>
    cases l with
    | nil => exact .inl ⟨rfl, (Option.some.inj h).symm⟩
    | cons c r =>
      right
      rw [lexT_cons] at h
      split at h
      · cases h
      · rename_i hc
        simp only [Bool.or_eq_true, decide_eq_true_eq, Bool.not_eq_true', not_or, Bool.not_eq_false] at hc
        obtain ⟨us, hu, rfl⟩ := Option.map_eq_some_iff.1 h
        have hs := first_stands hc.1
        have hlen : (c :: r).drop (text (first (c :: r)).1).length = (c :: r).drop (first (c :: r)).2 := by
          have := congrArg (List.drop (text (first (c :: r)).1).length) hs
          rw [List.drop_left] at this
          exact this
        refine ⟨m, _, us, rfl, rfl, hc.2, ?_, rfl, hlen.symm, hu⟩
        rw [hlen]; exact hs
theorem lexT_bare : ∀ (n : Nat) (l : Bs) (ts : List Tok), lexT n l = some ts → ∀ b, l.foldl bstep (b, false) = (b ++ (ts.map text).flatten, false) ∧ (ts.map text).flatten.length ≤ l.length ∧ (ts.all fun t => may t.k t.t) = true
  | n, l, ts, h, b => by
    rcases lexT_one h with ⟨rfl, rfl⟩ | ⟨m, t, us, rfl, rfl, hm, hl, hf, hd, hu⟩
    · simp
    · rw [hd] at hu
      have ih := lexT_bare m _ us hu (b ++ text t)
      have e : l.foldl bstep (b, false) = (l.drop (text t).length).foldl bstep (b ++ text t, false) := by
        conv => lhs; rw [hl]
        rw [List.foldl_append, fold_text hm]
      have hlen : l.length = (text t).length + (l.drop (text t).length).length := by
        conv => lhs; rw [hl]
        rw [List.length_append]
      refine ⟨?_, ?_, ?_⟩
      · rw [e, ← fold_trim, ih.1]; simp
      · have := trim_le (l.drop (text t).length)
        simp only [List.map_cons, List.flatten_cons, List.length_append]
        have := ih.2.1
        omega
      · rw [List.all_cons, hm, ih.2.2]; rfl
/-- what Lex tells, when it tells -/
theorem lex_ok {l : Bs} {ts : List Tok} {e : Int} (h : lex l = (ts, e)) : (e ≠ 0 ∧ ts = []) ∨ (e = 0 ∧ l.length ≤ 100 ∧ bareF l = ((ts.map text).flatten, false) ∧ (ts.map text).flatten.length ≤ l.length ∧ (ts.all fun t => may t.k t.t) = true) := by
  unfold lex at h
  split at h
  · injection h with h1 h2; subst h1 h2; exact .inl ⟨by decide, rfl⟩
  · split at h
    · rename_i hl ts' hx
      injection h with h1 h2; subst h1 h2
      have := lexT_bare _ _ _ hx []
      rw [fold_trim] at this
      have ht := trim_le l
      exact .inr ⟨rfl, by omega, (by simpa [bareF] using this.1), by have := this.2.1; omega, this.2.2⟩
    · injection h with h1 h2; subst h1 h2; exact .inl ⟨by decide, rfl⟩
theorem text_pos {t : Tok} (h : may t.k t.t = true) : 0 < (text t).length := by
  obtain ⟨c, r, e, _⟩ := text_head h; rw [e]; simp
theorem count_le : ∀ {ts : List Tok}, (ts.all fun t => may t.k t.t) = true → ts.length ≤ (ts.map text).flatten.length
  | [], _ => by simp
  | t :: ts, h => by
    rw [List.all_cons, Bool.and_eq_true] at h
    have := count_le h.2
    have := text_pos h.1
    simp only [List.map_cons, List.flatten_cons, List.length_append, List.length_cons]
    omega
theorem tt_le (t : Tok) : t.t.length ≤ (text t).length := by
  unfold text; split
  · simp; omega
  · omega
theorem mem_le {ts : List Tok} {t : Tok} (h : t ∈ ts) : (text t).length ≤ (ts.map text).flatten.length := by
  induction ts with
  | nil => cases h
  | cons u us ih =>
    simp only [List.map_cons, List.flatten_cons, List.length_append]
    rcases List.mem_cons.1 h with rfl | h
    · omega
    · have := ih h; omega
/-! ### spaces between -/
def blanks (ks : Nat → Nat) : Nat → List Tok → Bs
  | _, [] => []
  | j, t :: ts => List.replicate (ks j) 32 ++ (text t ++ 32 :: blanks ks (j + 1) ts)
theorem blanks_app (ks : Nat → Nat) : ∀ (a b : List Tok) (j : Nat), blanks ks j (a ++ b) = blanks ks j a ++ blanks ks (j + a.length) b
  | [], b, j => by simp [blanks]
  | t :: a, b, j => by
    simp only [List.cons_append, blanks, blanks_app ks a b (j + 1), List.length_cons, List.append_assoc, show j + 1 + a.length = j + (a.length + 1) by omega]
theorem blanks_len (ks : Nat → Nat) (hk : ∀ i, ks i ≤ 3) : ∀ (ts : List Tok) (j : Nat), (blanks ks j ts).length ≤ (ts.map text).flatten.length + 4 * ts.length
  | [], j => by simp [blanks]
  | t :: ts, j => by
    have := blanks_len ks hk ts (j + 1)
    have := hk j
    simp only [blanks, List.map_cons, List.flatten_cons, List.length_append, List.length_cons, List.length_replicate]
    omega
theorem lexT_blanks (ks : Nat → Nat) : ∀ (ts : List Tok), (ts.all fun t => may t.k t.t) = true → ∀ (n j : Nat), (blanks ks j ts).length < n → lexT n (trim (blanks ks j ts)) = some ts
  | [], _, n, j, hn => by cases n with
    | zero => omega
    | succ n => rfl
  | t :: ts, h, n, j, hn => by
    rw [List.all_cons, Bool.and_eq_true] at h
    unfold blanks at hn ⊢
    rw [trim_sps, trim_text h.1]
    simp only [List.length_append, List.length_cons, List.length_replicate] at hn
    cases n with
    | zero => omega
    | succ n =>
      rw [lexT_text h.1 n (.inr ⟨_, rfl⟩), trim_sp, lexT_blanks ks ts h.2 n (j + 1) (by omega)]
      rfl
/-- P10.3 -/
theorem lex_blanks (ks : Nat → Nat) {ts : List Tok} (h : (ts.all fun t => may t.k t.t) = true) (hl : (blanks ks 0 ts).length ≤ 100) : lex (blanks ks 0 ts) = (ts, 0) := by
  have := lexT_blanks ks ts h ((blanks ks 0 ts).length + 1) 0 (by omega)
  unfold lex
  rw [if_neg (by omega), this]
end Lx

/- Plain laws of parts: two texts with a space between. No program in sight. -/
namespace Lx
open Go
set_option linter.unusedVariables false
set_option linter.unusedSimpArgs false
theorem run_app {p : UInt8 → Bool} (hp : p 32 = false) (l t : Bs) : run p (l ++ 32 :: t) = run p l := by
  induction l with
  | nil => simp [run, List.takeWhile_cons, hp]
  | cons c s ih =>
    by_cases h : p c = true
    · rw [List.cons_append, run_cons_t h, run_cons_t h, ih]
    · rw [List.cons_append, run_cons_f (by simpa using h), run_cons_f (by simpa using h)]
theorem take_run_app {p : UInt8 → Bool} (l t : Bs) : (l ++ t).take (run p l) = l.take (run p l) := by
  rw [List.take_append_of_le_length (run_le p l)]
theorem cutQ_some_app {l q : Bs} (h : cutQ l = some q) (t : Bs) : cutQ (l ++ t) = some q := by
  have key : ∀ l : Bs, (l.takeWhile (· != 39)).length < l.length → (l ++ t).takeWhile (· != 39) = l.takeWhile (· != 39) := by
    intro l
    induction l with
    | nil => intro h; simp at h
    | cons c s ih =>
      intro h
      by_cases hc : (c != 39) = true
      · simp only [List.cons_append, List.takeWhile_cons, hc, if_true, List.length_cons] at h ⊢
        rw [ih (by omega)]
      · simp [List.takeWhile_cons, hc]
  unfold cutQ at h ⊢
  split at h
  · rename_i hl
    rw [key l hl, if_pos (by rw [List.length_append]; omega)]
    exact h
  · cases h
theorem prefix_app : ∀ (x l t : Bs), (∀ c ∈ x, c ≠ 32) → x.isPrefixOf (l ++ 32 :: t) = x.isPrefixOf l
  | [], l, t, _ => by simp
  | c :: x, [], t, h => by
    have := h c (List.mem_cons_self ..)
    simp [List.isPrefixOf, this]
  | c :: x, d :: l, t, h => by
    simp only [List.cons_append, List.isPrefixOf]
    rw [prefix_app x l t fun y hy => h y (List.mem_cons_of_mem _ hy)]
theorem signs_clean : ∀ x ∈ signs, ∀ c ∈ x, c ≠ 32 := by
  have : signs.all (fun x => x.all fun c => c != 32) = true := by decide
  intro x hx c hc
  have := List.all_eq_true.1 (List.all_eq_true.1 this x hx) c hc
  simpa using this
theorem find_congr {α : Type} {p q : α → Bool} : ∀ {l : List α}, (∀ x ∈ l, p x = q x) → l.find? p = l.find? q
  | [], _ => rfl
  | a :: l, h => by
    simp only [List.find?]
    rw [h a (List.mem_cons_self ..), find_congr fun x hx => h x (List.mem_cons_of_mem _ hx)]
theorem first_app {l : Bs} (h0 : (first l).2 ≠ 0) (t : Bs) : first (l ++ 32 :: t) = first l := by
  cases l with
  | nil => exact absurd rfl h0
  | cons c r =>
    have e1 := run_app (p := digit) (by decide) (c :: r) t
    have e2 := run_app (p := behind) (by decide) (c :: r) t
    have e3 := take_run_app (p := digit) (c :: r) (32 :: t)
    have e4 := take_run_app (p := behind) (c :: r) (32 :: t)
    rw [List.cons_append] at e1 e2 e3 e4 ⊢
    rw [first_cons] at h0 ⊢
    rw [first_cons, e1, e2, e3, e4]
    by_cases h1 : digit c = true
    · rw [if_pos h1, if_pos h1]
    · rw [if_neg h1] at h0 ⊢
      rw [if_neg h1]
      by_cases h2 : letter c = true
      · rw [if_pos h2, if_pos h2]
      · rw [if_neg h2] at h0 ⊢
        rw [if_neg h2]
        by_cases h3 : c = 39
        · rw [if_pos h3] at h0 ⊢
          rw [if_pos h3]
          cases e : cutQ r with
          | none => rw [e] at h0; exact absurd rfl h0
          | some q => rw [cutQ_some_app e]
        · rw [if_neg h3, if_neg h3]
          have e : (signs.find? fun x => x.isPrefixOf (c :: (r ++ 32 :: t))) = signs.find? fun x => x.isPrefixOf (c :: r) := find_congr fun x hx => prefix_app x (c :: r) t (signs_clean x hx)
          rw [e]
theorem first_le (l : Bs) : (first l).2 ≤ l.length := by
  cases l with
  | nil => simp [first, none]
  | cons c r =>
    rw [first_cons]
    split
    · exact run_le _ _
    · split
      · exact run_le _ _
      · split
        · cases h : cutQ r with
          | none => simp [none]
          | some q => have := cutQ_len h; simp; omega
        · cases h : signs.find? fun x => x.isPrefixOf (c :: r) with
          | none => simp [none]
          | some x =>
            have := List.find?_some h
            exact (List.isPrefixOf_iff_prefix.1 this).length_le
theorem trim_trim (a t : Bs) : trim (a ++ 32 :: t) = trim (trim a ++ 32 :: t) := by
  induction a with
  | nil => rfl
  | cons c s ih =>
    by_cases h : c = 32
    · subst h; rw [List.cons_append, trim_sp, trim_sp, ih]
    · have e : trim (c :: s) = c :: s := by unfold trim; rw [List.dropWhile_cons, if_neg (by simpa using h)]
      rw [e]
theorem lexT_fuel : ∀ (n m : Nat) (l : Bs), l.length < n → l.length < m → lexT n l = lexT m l
  | 0, _, _, h, _ => by omega
  | _ + 1, 0, _, _, h => by omega
  | n + 1, m + 1, [], _, _ => rfl
  | n + 1, m + 1, c :: r, h, k => by
    rw [lexT_cons, lexT_cons]
    by_cases h0 : (first (c :: r)).2 = 0
    · simp [h0]
    · have h1 := trim_le ((c :: r).drop (first (c :: r)).2)
      rw [List.length_drop, List.length_cons] at h1
      simp only [List.length_cons] at h k
      rw [lexT_fuel n m _ (by omega) (by omega)]
theorem trim_idem {l : Bs} {c : UInt8} (h : c ≠ 32) : trim (c :: l) = c :: l := by unfold trim; rw [List.dropWhile_cons, if_neg (by simpa using h)]
theorem first_sp (l : Bs) : (first (32 :: l)).2 = 0 := by
  have : ∀ x ∈ signs, x.isPrefixOf (32 :: l) = false := by
    intro x hx
    have := prefix_app x [] l (signs_clean x hx)
    rw [List.nil_append] at this
    rw [this]
    have hne : signs.all (fun x => !x.isPrefixOf []) = true := by decide
    simpa using List.all_eq_true.1 hne x hx
  rw [first_cons, if_neg (by decide), if_neg (by decide), if_neg (by decide), List.find?_eq_none.2 fun x hx => by rw [this x hx]; decide]
  rfl
theorem lexT_app : ∀ (n : Nat) (l : Bs) (ts : List Tok), lexT n l = some ts → ∀ (t : Bs) (m k : Nat), l.length + t.length + 1 < m → t.length < k → lexT m (trim (l ++ 32 :: t)) = (lexT k (trim t)).map (ts ++ ·)
  | n, l, ts, h, t, m, k, hm, hk => by
    rcases lexT_one h with ⟨rfl, rfl⟩ | ⟨n', t0, us, rfl, rfl, hmay, hl, hf, hd, hu⟩
    · rw [List.nil_append, trim_sp]
      have := trim_le t
      rw [lexT_fuel m k _ (by omega) (by omega)]
      cases lexT k (trim t) <;> rfl
    · cases l with
      | nil =>
        obtain ⟨c, r, e, _⟩ := text_head hmay
        rw [e] at hl; simp at hl
      | cons c r =>
        have h0 : (first (c :: r)).2 ≠ 0 := fun e => by
          simp only [lexT] at h
          rw [if_pos (by simp [e])] at h
          cases h
        have hc : c ≠ 32 := fun e => by subst e; exact h0 (first_sp r)
        have hfa := first_app h0 t
        rw [List.cons_append] at hfa ⊢
        rw [trim_idem hc]
        cases m with
        | zero => omega
        | succ m =>
          have hb := first_stands h0
          have hle := first_le (c :: r)
          have hdr : (c :: (r ++ 32 :: t)).drop (first (c :: r)).2 = (c :: r).drop (first (c :: r)).2 ++ 32 :: t := by
            rw [← List.cons_append, List.drop_append_of_le_length hle]
          rw [lexT_cons, hfa, hdr, hf, if_neg (by rw [hf] at h0; simp only at h0; simp [h0, hmay])]
          rw [← hf, trim_trim]
          have h2 := trim_le ((c :: r).drop (first (c :: r)).2)
          rw [List.length_drop] at h2
          simp only [List.length_cons] at hm h2
          rw [lexT_app n' _ us hu t m k (by omega) hk, Option.map_map]
          have ef : (first (c :: r)).1 = t0 := by rw [hf]
          rw [ef]
          congr 1
/-- P10.4 -/
theorem lex_long {u : Bs} (h : 100 < u.length) : (lex u).2 = 40 := by unfold lex; rw [if_pos h]
theorem lex_pieces {s t : Bs} {a : List Tok} (h : lex s = (a, 0)) (hl : (s ++ 32 :: t).length ≤ 100) : lex (s ++ 32 :: t) = if (lex t).2 = 0 then (a ++ (lex t).1, 0) else ([], (lex t).2) := by
  have hs : lexT (s.length + 1) (trim s) = some a := by
    unfold lex at h
    split at h
    · injection h with h1 h2; cases h2
    · split at h
      · rename_i ts hx; injection h with h1 h2; rw [hx, h1]
      · injection h with h1 h2; cases h2
  have h1 := trim_le s
  have h2 := trim_trim s t
  rw [List.length_append, List.length_cons] at hl
  have h3 := lexT_app _ _ _ hs t ((s ++ 32 :: t).length + 1) (t.length + 1) (by rw [List.length_append, List.length_cons]; omega) (by omega)
  have ht : lex t = match lexT (t.length + 1) (trim t) with
    | some ts => (ts, 0)
    | Option.none => ([], 4) := by unfold lex; rw [if_neg (by omega)]; rfl
  unfold lex at ht ⊢
  rw [if_neg (by rw [List.length_append, List.length_cons]; omega), h2, h3, ht]
  cases lexT (t.length + 1) (trim t) <;> simp
end Lx

/- Plain laws of parts: the first sign, what the document tells. No program in sight. -/
namespace Lx
open Go
set_option linter.unusedVariables false
set_option linter.unusedSimpArgs false
theorem sign_mem {x : Bs} : signs.contains x = true ↔ x = [60, 61] ∨ x = [61, 61] ∨ x = [33, 61] ∨ x = [124] ∨ x = [38] ∨ x = [60] ∨ x = [43] ∨ x = [45] ∨ x = [42] ∨ x = [47] ∨ x = [37] ∨ x = [33] ∨ x = [40] ∨ x = [41] := by
  rw [List.contains_iff_mem]; simp [signs]
theorem first_find {c : UInt8} {r : Bs} (h1 : digit c = false) (h2 : letter c = false) (h3 : c ≠ 39) : first (c :: r) = match signs.find? fun x => x.isPrefixOf (c :: r) with
    | some x => (⟨4, x⟩, x.length)
    | Option.none => none := by rw [first_cons, if_neg (by rw [h1]; decide), if_neg (by rw [h2]; decide), if_neg h3]; try rfl
theorem first_sign2 {c d : UInt8} {r : Bs} (h1 : digit c = false) (h2 : letter c = false) (h3 : c ≠ 39) (h : signs.contains [c, d] = true) : first (c :: d :: r) = (⟨4, [c, d]⟩, 2) := by
  rw [first_find h1 h2 h3]
  rw [sign_mem] at h
  simp only [List.cons.injEq, and_true, reduceCtorEq, and_false, or_false] at h
  rcases h with ⟨rfl, rfl⟩ | ⟨rfl, rfl⟩ | ⟨rfl, rfl⟩ <;> simp [signs, List.find?, List.isPrefixOf]
theorem first_sign1 {c : UInt8} {r : Bs} (h1 : digit c = false) (h2 : letter c = false) (h3 : c ≠ 39) (hno : ∀ d s, r = d :: s → signs.contains [c, d] = false) (h : signs.contains [c] = true) : first (c :: r) = (⟨4, [c]⟩, 1) := by
  rw [first_find h1 h2 h3]
  rw [sign_mem] at h
  simp only [List.cons.injEq, and_true, reduceCtorEq, and_false, false_or] at h
  cases r with
  | nil => rcases h with rfl | rfl | rfl | rfl | rfl | rfl | rfl | rfl | rfl | rfl | rfl <;> simp [signs, List.find?, List.isPrefixOf]
  | cons d s =>
    have hd := hno d s rfl
    have hd : ¬ (c = 60 ∧ d = 61) ∧ ¬ (c = 33 ∧ d = 61) := by
      refine ⟨fun ⟨e1, e2⟩ => ?_, fun ⟨e1, e2⟩ => ?_⟩ <;> subst e1 e2 <;> revert hd <;> decide
    have hd' : c = 60 ∨ c = 33 → (61 == d) = false := fun h => by
      rw [beq_eq_false_iff_ne]
      rintro rfl
      rcases h with h | h
      · exact hd.1 ⟨h, rfl⟩
      · exact hd.2 ⟨h, rfl⟩
    rcases h with rfl | rfl | rfl | rfl | rfl | rfl | rfl | rfl | rfl | rfl | rfl <;> first
      | (have h5 := hd' (.inl rfl); simp [signs, List.find?, List.isPrefixOf, h5]; done)
      | (have h5 := hd' (.inr rfl); simp [signs, List.find?, List.isPrefixOf, h5]; done)
      | (simp [signs, List.find?, List.isPrefixOf]; done)
theorem first_sign0 {c : UInt8} {r : Bs} (h1 : digit c = false) (h2 : letter c = false) (h3 : c ≠ 39) (hno : ∀ d s, r = d :: s → signs.contains [c, d] = false) (h : signs.contains [c] = false) : (first (c :: r)).2 = 0 := by
  rw [first_find h1 h2 h3]
  have : (signs.find? fun x => x.isPrefixOf (c :: r)) = Option.none := by
    rw [List.find?_eq_none]
    intro x hx hp
    rw [List.isPrefixOf_iff_prefix] at hp
    obtain ⟨z, hz⟩ := hp
    have hx' := List.contains_iff_mem.2 hx
    have hx2 := sign_mem.1 hx'
    match x, hz, hx', hx2 with
    | [], _, _, k => simp at k
    | [a], e, k, _ =>
      simp only [List.cons_append, List.nil_append, List.cons.injEq] at e
      obtain ⟨rfl, _⟩ := e
      rw [h] at k; cases k
    | [a, b], e, k, _ =>
      simp only [List.cons_append, List.nil_append, List.cons.injEq] at e
      obtain ⟨rfl, e⟩ := e
      have := hno b z e.symm
      rw [k] at this; cases this
    | a :: b :: e :: y, _, _, k => simp at k
  rw [this]; rfl
theorem shown_snoc : ∀ (ts : List Tok) (t : Tok), shown (ts ++ [t]) = if ts = [] then text t else shown ts ++ 32 :: text t
  | [], t => by simp [shown, Lib.join]
  | [u], t => by simp [shown, Lib.join]
  | u :: v :: ts, t => by
    have := shown_snoc (v :: ts) t
    rw [if_neg (by simp)] at this ⊢
    rw [List.cons_append, List.cons_append] at *
    rw [join_cons, this, join_cons]
    simp
theorem trim_drop {s : Bs} {i : Nat} (h : i < s.length) (h32 : s[i]? = some 32) : trim (s.drop i) = trim (s.drop (i + 1)) := by
  have e : s.drop i = 32 :: s.drop (i + 1) := by
    have := List.drop_eq_getElem_cons h
    rw [List.getElem?_eq_getElem h] at h32
    rw [this, Option.some.inj h32]
  rw [e, trim_sp]
end Lx
