/- Plain laws of parts, trees and names, in one text. No program in sight. -/
import Derived.Test.YtckgdgkkmhochaaGreatDoorLxPlain
import Derived.Lib.ParseIntBCases
import GoSem.Op.String
import Derived.Test.YtckgdgkkmhochaaGreatDoorPxFacts
import Derived.Test.YtckgdgkkmhochaaGreatDoorPxPlain
import Derived.Test.YtckgdgkkmhochaaGreatDoorVdPlain
import Derived.Test.YtckgdgkkmhochaaGreatDoorPxShowP
import Derived.Lib.SlicesCompact
section
namespace Lx
open Go
set_option linter.unusedVariables false
set_option linter.unusedSimpArgs false
def dig (c : UInt8) : Nat := c.toNat - 48
/-- what digits spell, behind what those before spell -/
def val (acc : Nat) (l : Bs) : Nat := l.foldl (fun n c => n * 10 + dig c) acc
theorem val_nil (acc : Nat) : val acc [] = acc := rfl
theorem val_cons (acc : Nat) (c : UInt8) (r : Bs) : val acc (c :: r) = val (acc * 10 + dig c) r := by unfold val; rw [List.foldl_cons]
theorem digit_iff {c : UInt8} : digit c = true ↔ 48 ≤ c.toNat ∧ c.toNat ≤ 57 := by
  unfold digit; simp only [Bool.and_eq_true, decide_eq_true_eq]; omega
theorem val_ge : ∀ (l : Bs) (acc : Nat), acc * 10 ^ l.length ≤ val acc l
  | [], acc => by simp [val_nil]
  | c :: r, acc => by
    have := val_ge r (acc * 10 + dig c)
    rw [Nat.add_mul, Nat.mul_assoc] at this
    rw [List.length_cons, Nat.pow_succ, val_cons, Nat.mul_comm (10 ^ r.length)]
    omega
theorem val_lt : ∀ (l : Bs) (acc : Nat), (∀ c ∈ l, digit c = true) → val acc l < (acc + 1) * 10 ^ l.length
  | [], acc, _ => by simp [val_nil]
  | c :: r, acc, h => by
    have := val_lt r (acc * 10 + dig c) fun x hx => h x (List.mem_cons_of_mem _ hx)
    have hc := digit_iff.1 (h c (List.mem_cons_self ..))
    have h1 : acc * 10 + dig c + 1 ≤ (acc + 1) * 10 := by unfold dig; omega
    have h2 := Nat.mul_le_mul_right (10 ^ r.length) h1
    rw [List.length_cons, Nat.pow_succ, val_cons, Nat.mul_comm (10 ^ r.length), ← Nat.mul_assoc]
    omega
theorem uint_val : ∀ (l : Bs) (acc : Nat), (∀ c ∈ l, digit c = true) → Lib.parseUintM (2 ^ 64 - 1) acc l = .ok (val acc l) ∨ (Lib.parseUintM (2 ^ 64 - 1) acc l = .range ∧ 2 ^ 63 ≤ val acc l)
  | [], acc, _ => .inl rfl
  | c :: r, acc, h => by
    have hc := digit_iff.1 (h c (List.mem_cons_self ..))
    have ge := val_ge r (acc * 10 + dig c)
    have p : 0 < 10 ^ r.length := Nat.pow_pos (by decide)
    have ge2 : acc * 10 + dig c ≤ val (acc * 10 + dig c) r := Nat.le_trans (Nat.le_mul_of_pos_right _ p) ge
    simp only [Lib.parseUintM, hc, and_self, if_true, val_cons]
    unfold dig at *
    split
    · right
      refine ⟨rfl, ?_⟩
      omega
    · split
      · right
        refine ⟨rfl, ?_⟩
        omega
      · exact uint_val r _ fun x hx => h x (List.mem_cons_of_mem _ hx)
theorem parsed_val {l : Bs} (h0 : l ≠ []) (h : ∀ c ∈ l, digit c = true) : parsed (Lib.parseIntB 64 l) = decide (val 0 l < 2 ^ 63) := by
  cases l with
  | nil => exact absurd rfl h0
  | cons c r =>
    have hc := digit_iff.1 (h c (List.mem_cons_self ..))
    have h43 : ¬ c.toNat = 43 := by omega
    have h45 : ¬ c.toNat = 45 := by omega
    simp only [Lib.parseIntB, h43, h45, or_self, if_false, Lib.parseUintB, reduceCtorEq, not_false_eq_true, true_and, false_and]
    rcases uint_val (c :: r) 0 h with e | ⟨e, hv⟩
    · rw [e]
      simp only
      split
      · rename_i hh
        rw [decide_eq_false (by omega)]; rfl
      · rename_i hh
        rw [decide_eq_true (by omega)]; rfl
    · rw [e, decide_eq_false (by omega)]; rfl
theorem val_less {a b : Bs} {m n : Nat} (h : a.length = b.length) (ha : ∀ c ∈ a, digit c = true) (hmn : m < n) : val m a < val n b := by
  have h1 := val_lt a m ha
  have h2 := val_ge b n
  rw [← h] at h2
  have h3 := Nat.mul_le_mul_right (10 ^ a.length) (show m + 1 ≤ n from hmn)
  omega
/-- of texts of one length, the lesser one is the lesser number -/
theorem less_val : ∀ (a b : Bs) (m : Nat), a.length = b.length → (∀ c ∈ a, digit c = true) → (∀ c ∈ b, digit c = true) → (Op.bytesLess a b || (a == b)) = decide (val m a ≤ val m b)
  | [], [], m, _, _, _ => by simp [val_nil, Op.bytesLess]
  | [], _ :: _, _, h, _, _ => by simp at h
  | _ :: _, [], _, h, _, _ => by simp at h
  | c :: a, d :: b, m, h, ha, hb => by
    have hc := digit_iff.1 (ha c (List.mem_cons_self ..))
    have hd := digit_iff.1 (hb d (List.mem_cons_self ..))
    have hl : a.length = b.length := by simpa using h
    have ha' : ∀ x ∈ a, digit x = true := fun x hx => ha x (List.mem_cons_of_mem _ hx)
    have hb' : ∀ x ∈ b, digit x = true := fun x hx => hb x (List.mem_cons_of_mem _ hx)
    rw [val_cons, val_cons]
    by_cases e : c = d
    · subst e
      rw [← less_val a b (m * 10 + dig c) hl ha' hb']
      simp [Op.bytesLess]
    · have hne : c.toNat ≠ d.toNat := fun h => e (UInt8.toNat_inj.1 h)
      rcases Nat.lt_or_ge c.toNat d.toNat with hlt | hge
      · have := val_less (m := m * 10 + dig c) (n := m * 10 + dig d) hl ha' (by unfold dig; omega)
        rw [decide_eq_true (Nat.le_of_lt this)]
        have h5 : c < d := UInt8.lt_iff_toNat_lt.2 hlt
        simp [Op.bytesLess, h5]
      · have := val_less (m := m * 10 + dig d) (n := m * 10 + dig c) hl.symm hb' (by unfold dig; omega)
        rw [decide_eq_false (Nat.not_le.2 this)]
        have h5 : ¬ c < d := fun h => by have := UInt8.lt_iff_toNat_lt.1 h; omega
        simp [Op.bytesLess, h5, e]
def top : Bs := [57, 50, 50, 51, 51, 55, 50, 48, 51, 54, 56, 53, 52, 55, 55, 53, 56, 48, 55]
theorem top_val : val 0 top = 2 ^ 63 - 1 := by decide +kernel
theorem run_iff {p : UInt8 → Bool} {l : Bs} : run p l = l.length ↔ ∀ c ∈ l, p c = true := by
  refine ⟨fun h => ?_, fun h => ?_⟩
  · induction l with
    | nil => intro c hc; cases hc
    | cons c s ih =>
      by_cases hc : p c = true
      · rw [run_cons_t hc, List.length_cons] at h
        intro x hx
        rcases List.mem_cons.1 hx with rfl | hx
        · exact hc
        · exact ih (by omega) x hx
      · rw [run_cons_f (by simpa using hc)] at h; simp at h
  · induction l with
    | nil => rfl
    | cons c s ih => rw [run_cons_t (h c (List.mem_cons_self ..)), ih fun x hx => h x (List.mem_cons_of_mem _ hx)]; rfl
/-- a number, as the document says it -/
theorem num_doc {l : Bs} (h0 : l ≠ []) (h1 : l.length ≤ 19) (h2 : ¬ (l.head? = some 48 ∧ 1 < l.length)) (h : ∀ c ∈ l, digit c = true) : numOk l = (decide (l.length < 19) || (Op.bytesLess l top || (l == top))) := by
  have hr := run_iff.2 h
  have hz : ((l.length == 1) || !(l.head? == some 48)) = true := by
    cases hh : (l.head? == some 48)
    · simp
    · have hl : l.length = 1 := by
        have : 0 < l.length := List.length_pos_iff.2 h0
        have : ¬ 1 < l.length := fun h3 => h2 ⟨by simpa using hh, h3⟩
        omega
      simp [hl]
  unfold numOk
  rw [hr, hz, parsed_val h0 h]
  simp only [beq_self_eq_true, Bool.and_true]
  by_cases hl : l.length < 19
  · have := val_lt l 0 h
    have hp : 10 ^ l.length ≤ 10 ^ 18 := Nat.pow_le_pow_right (by decide) (by omega)
    rw [decide_eq_true (show val 0 l < 2 ^ 63 by omega), decide_eq_true hl]; rfl
  · have he : l.length = top.length := by show l.length = 19; omega
    have := less_val l top 0 he h (by decide)
    rw [this, top_val, decide_eq_false hl, Bool.false_or]
    congr 1
    rw [eq_iff_iff]; omega
theorem num_no0 : numOk [] = false := by rw [numOk]; decide
theorem num_no1 {l : Bs} (h : 19 < l.length) : numOk l = false := by
  cases hn : numOk l with
  | false => rfl
  | true =>
    exfalso
    unfold numOk at hn
    simp only [Bool.and_eq_true, beq_iff_eq] at hn
    obtain ⟨hp, hr, hz⟩ := hn
    have hd := run_iff.1 hr
    have h0 : l ≠ [] := by rintro rfl; simp at h
    rw [parsed_val h0 hd, decide_eq_true_eq] at hp
    cases l with
    | nil => exact h0 rfl
    | cons c r =>
      have hc := digit_iff.1 (hd c (List.mem_cons_self ..))
      have h48 : c ≠ 48 := by
        rintro rfl
        simp at hz
        rw [hz] at h; simp at h
      have h48' : c.toNat ≠ 48 := fun e => h48 (UInt8.toNat_inj.1 e)
      have := val_ge r (0 * 10 + dig c)
      rw [val_cons] at hp
      have hp2 : 10 ^ 19 ≤ 10 ^ r.length := Nat.pow_le_pow_right (by decide) (by simp at h; omega)
      have h3 : 1 * 10 ^ r.length ≤ (0 * 10 + dig c) * 10 ^ r.length := Nat.mul_le_mul_right _ (by unfold dig; omega)
      omega
theorem num_no2 {l : Bs} (h : l.head? = some 48) (h1 : 1 < l.length) : numOk l = false := by
  unfold numOk
  have h2 : (l.length == 1) = false := by rw [beq_eq_false_iff_ne]; omega
  rw [h, h2]; simp
theorem num_no3 {l : Bs} (h : run digit l ≠ l.length) : numOk l = false := by
  unfold numOk
  have h2 : (run digit l == l.length) = false := by rw [beq_eq_false_iff_ne]; exact h
  rw [h2]; simp
end Lx

end
section
namespace Lx
open Go
set_option linter.unusedVariables false
set_option linter.unusedSimpArgs false
/-- behind a part: nothing, or a space -/
def Off (l : Bs) : Prop := l = [] ∨ ∃ r, l = 32 :: r
theorem run_off {p : UInt8 → Bool} (hp : p 32 = false) {l r : Bs} (h : run p l = l.length) (hr : Off r) : run p (l ++ r) = l.length := by
  induction l with
  | nil =>
    obtain rfl | ⟨x, rfl⟩ := hr
    · rfl
    · simp [run, List.takeWhile_cons, hp]
  | cons c s ih =>
    by_cases hc : p c = true
    · rw [run_cons_t hc, List.length_cons] at h
      rw [List.cons_append, run_cons_t hc, ih (by omega), List.length_cons]
    · rw [run_cons_f (by simpa using hc)] at h; simp at h
theorem run_all {p : UInt8 → Bool} {l : Bs} (h : run p l = l.length) : ∀ c ∈ l, p c = true := by
  induction l with
  | nil => intro c hc; cases hc
  | cons c s ih =>
    by_cases hc : p c = true
    · rw [run_cons_t hc, List.length_cons] at h
      intro x hx
      rcases List.mem_cons.1 hx with rfl | hx
      · exact hc
      · exact ih (by omega) x hx
    · rw [run_cons_f (by simpa using hc)] at h; simp at h
theorem cutQ_app {q : Bs} (h : ∀ c ∈ q, c ≠ 39) (r : Bs) : cutQ (q ++ 39 :: r) = some q := by
  have h1 : (q ++ 39 :: r).takeWhile (· != 39) = q := by
    induction q with
    | nil => rfl
    | cons c s ih =>
      have h2 : (c != 39) = true := by simpa using h c (List.mem_cons_self ..)
      rw [List.cons_append, List.takeWhile_cons, if_pos h2, ih fun x hx => h x (List.mem_cons_of_mem _ hx)]
  unfold cutQ
  rw [h1]; simp
theorem not_parsed_nil : parsed (Lib.parseIntB 64 []) = false := by kernel_rfl
theorem letter_not_digit {c : UInt8} (h : letter c = true) : digit c = false := by
  unfold letter at h; unfold digit; simp only [Bool.and_eq_true, decide_eq_true_eq, Bool.and_eq_false_iff, decide_eq_false_iff_not] at h ⊢; omega
theorem behind_digit {c : UInt8} (h : digit c = true) : behind c = true := by simp [behind, h]
theorem first_cons (c : UInt8) (r : Bs) : first (c :: r) = if digit c then (⟨1, (c :: r).take (run digit (c :: r))⟩, run digit (c :: r))
    else if letter c then (⟨2, (c :: r).take (run behind (c :: r))⟩, run behind (c :: r))
    else if c = 39 then (match cutQ r with
      | some q => (⟨3, q⟩, q.length + 2)
      | Option.none => none)
    else match signs.find? fun x => x.isPrefixOf (c :: r) with
      | some x => (⟨4, x⟩, x.length)
      | Option.none => none := rfl
/-- a part that may be is read where it stands -/
theorem first_text {t : Tok} (h : may t.k t.t = true) {r : Bs} (hr : Off r) : first (text t ++ r) = (t, (text t).length) := by
  obtain ⟨k, t⟩ := t
  unfold may at h; unfold text
  simp only at h ⊢
  by_cases h1 : k = 1
  · subst h1
    simp only [if_true, show ¬ ((1 : Int) = 3) by decide, if_false] at h ⊢
    unfold numOk at h
    simp only [Bool.and_eq_true, beq_iff_eq] at h
    obtain ⟨hp, hd, -⟩ := h
    cases t with
    | nil => rw [not_parsed_nil] at hp; cases hp
    | cons c s =>
      have hc := run_all hd c (List.mem_cons_self ..)
      have e := run_off (p := digit) (by decide) hd hr
      rw [List.cons_append] at e ⊢
      rw [first_cons, if_pos hc, e]
      rw [← List.cons_append, List.take_left']
      rfl
  · rw [if_neg h1] at h
    by_cases h2 : k = 2
    · subst h2
      simp only [if_true, show ¬ ((2 : Int) = 3) by decide, if_false] at h ⊢
      unfold wordOk at h
      cases t with
      | nil => cases h
      | cons c s =>
        simp only [Bool.and_eq_true, beq_iff_eq] at h
        obtain ⟨hc, hd, -⟩ := h
        have e := run_off (p := behind) (by decide) hd hr
        rw [List.cons_append] at e ⊢
        rw [first_cons, if_neg (by rw [letter_not_digit hc]; decide), if_pos hc, e]
        rw [← List.cons_append, List.take_left']
        rfl
    · rw [if_neg h2] at h
      by_cases h3 : k = 3
      · subst h3
        simp only [if_true] at h ⊢
        unfold quoteOk at h
        simp only [Bool.and_eq_true, beq_iff_eq, decide_eq_true_eq] at h
        have hq : ∀ c ∈ t, c ≠ 39 := by
          intro c hc e
          have := run_all h.1 c hc
          subst e; revert this; decide
        have e : cutQ (t ++ [39] ++ r) = some t := by
          rw [List.append_assoc]; exact cutQ_app hq r
        rw [List.cons_append]
        rw [first_cons, if_neg (by decide), if_neg (by decide), if_pos rfl, e]
        simp
      · rw [if_neg h3] at h
        rw [if_neg h3]
        by_cases h4 : k = 4
        · subst h4
          simp only [if_true] at h
          rw [List.contains_iff_mem] at h
          simp only [signs, List.mem_cons, List.not_mem_nil, or_false] at h
          obtain rfl | ⟨x, rfl⟩ := hr
          · rcases h with rfl | rfl | rfl | rfl | rfl | rfl | rfl | rfl | rfl | rfl | rfl | rfl | rfl | rfl <;> kernel_rfl
          · rcases h with rfl | rfl | rfl | rfl | rfl | rfl | rfl | rfl | rfl | rfl | rfl | rfl | rfl | rfl <;> kernel_rfl
        · rw [if_neg h4] at h; cases h
/-- a part that may be is not empty, and begins with no space -/
theorem text_head {t : Tok} (h : may t.k t.t = true) : ∃ c r, text t = c :: r ∧ c ≠ 32 := by
  obtain ⟨k, t⟩ := t
  unfold may at h; unfold text
  simp only at h ⊢
  by_cases h1 : k = 1
  · subst h1
    simp only [if_true, show ¬ ((1 : Int) = 3) by decide, if_false] at h ⊢
    unfold numOk at h
    simp only [Bool.and_eq_true, beq_iff_eq] at h
    obtain ⟨hp, hd, -⟩ := h
    cases t with
    | nil => rw [not_parsed_nil] at hp; cases hp
    | cons c s =>
      have hc := run_all hd c (List.mem_cons_self ..)
      exact ⟨c, s, rfl, fun e => by subst e; revert hc; decide⟩
  · rw [if_neg h1] at h
    by_cases h2 : k = 2
    · subst h2
      simp only [if_true, show ¬ ((2 : Int) = 3) by decide, if_false] at h ⊢
      unfold wordOk at h
      cases t with
      | nil => cases h
      | cons c s =>
        simp only [Bool.and_eq_true, beq_iff_eq] at h
        obtain ⟨hc, hd, -⟩ := h
        exact ⟨c, s, rfl, fun e => by subst e; revert hc; decide⟩
    · rw [if_neg h2] at h
      by_cases h3 : k = 3
      · subst h3
        exact ⟨39, t ++ [39], by simp, by decide⟩
      · rw [if_neg h3] at h
        rw [if_neg h3]
        by_cases h4 : k = 4
        · subst h4
          simp only [if_true] at h
          rw [List.contains_iff_mem] at h
          simp only [signs, List.mem_cons, List.not_mem_nil, or_false] at h
          rcases h with rfl | rfl | rfl | rfl | rfl | rfl | rfl | rfl | rfl | rfl | rfl | rfl | rfl | rfl <;> exact ⟨_, _, rfl, by decide⟩
        · rw [if_neg h4] at h; cases h
theorem trim_text {t : Tok} (h : may t.k t.t = true) (r : Bs) : trim (text t ++ r) = text t ++ r := by
  obtain ⟨c, s, e, hc⟩ := text_head h
  rw [e, List.cons_append]; unfold trim
  rw [List.dropWhile_cons, if_neg (by simpa using hc)]
theorem trim_sp (r : Bs) : trim (32 :: r) = trim r := by simp [trim, List.dropWhile_cons]
theorem trim_sps (n : Nat) (r : Bs) : trim (List.replicate n 32 ++ r) = trim r := by
  induction n with
  | zero => rfl
  | succ n ih => rw [List.replicate_succ, List.cons_append, trim_sp, ih]
theorem lexT_cons (n : Nat) (c : UInt8) (r : Bs) : lexT (n + 1) (c :: r) = if (first (c :: r)).2 = 0 || !(may (first (c :: r)).1.k (first (c :: r)).1.t) then Option.none else (lexT n (trim ((c :: r).drop (first (c :: r)).2))).map ((first (c :: r)).1 :: ·) := rfl
/-- one part on -/
theorem lexT_text {t : Tok} (h : may t.k t.t = true) (n : Nat) {r : Bs} (hr : Off r) : lexT (n + 1) (text t ++ r) = (lexT n (trim r)).map (t :: ·) := by
  obtain ⟨c, s, e, hc⟩ := text_head h
  have f := first_text h hr
  rw [e] at f ⊢
  rw [List.cons_append] at f ⊢
  rw [lexT_cons, f]
  simp only [h, Bool.not_true, Bool.or_false, decide_eq_true_eq, List.length_cons]
  rw [if_neg (by simp)]
  have hd : (c :: (s ++ r)).drop (s.length + 1) = r := by simp
  rw [hd]
/-- parts with one space between, and with so many before each -/
theorem join_cons (t : Tok) (u : Tok) (ts : List Tok) : shown (t :: u :: ts) = text t ++ 32 :: shown (u :: ts) := by
  unfold shown; simp [Lib.join]
theorem lexT_shown : ∀ (ts : List Tok), (ts.all fun t => may t.k t.t) = true → ∀ n, (shown ts).length < n → lexT n (shown ts) = some ts ∧ trim (shown ts) = shown ts
  | [], _, n, hn => by cases n with
    | zero => omega
    | succ n => exact ⟨rfl, rfl⟩
  | [t], h, n, hn => by
    simp only [List.all_cons, List.all_nil, Bool.and_true] at h
    have e : shown [t] = text t ++ [] := by simp [shown, Lib.join]
    cases n with
    | zero => omega
    | succ n =>
      obtain ⟨c, s, e', hc⟩ := text_head h
      have hl : 1 ≤ n := by rw [e, List.append_nil, e', List.length_cons] at hn; omega
      rw [e]
      refine ⟨?_, trim_text h []⟩
      rw [lexT_text h n (.inl rfl)]
      cases n with
      | zero => omega
      | succ n => rfl
  | t :: u :: ts, h, n, hn => by
    have h' : ((u :: ts).all fun t => may t.k t.t) = true := by
      rw [List.all_cons] at h; exact (Bool.and_eq_true _ _ ▸ h).2
    have ht : may t.k t.t = true := by rw [List.all_cons] at h; exact (Bool.and_eq_true _ _ ▸ h).1
    rw [join_cons] at hn ⊢
    obtain ⟨c, s, e', hc⟩ := text_head ht
    rw [List.length_append, List.length_cons] at hn
    cases n with
    | zero => omega
    | succ n =>
      have ih := lexT_shown (u :: ts) h' n (by rw [e', List.length_cons] at hn; omega)
      refine ⟨?_, trim_text ht _⟩
      rw [lexT_text ht n (.inr ⟨_, rfl⟩), trim_sp, ih.2, ih.1]; rfl
/-- P10.2 -/
theorem lex_shown {ts : List Tok} (h : (ts.all fun t => may t.k t.t) = true) (hl : (shown ts).length ≤ 100) : lex (shown ts) = (ts, 0) := by
  have := lexT_shown ts h ((shown ts).length + 1) (by omega)
  unfold lex
  rw [if_neg (by omega), this.2, this.1]
/-- what is read stands there -/
theorem first_stands {l : Bs} (h0 : (first l).2 ≠ 0) : l = text (first l).1 ++ l.drop (first l).2 := by
  cases l with
  | nil => exact absurd rfl h0
  | cons c r =>
    rw [first_cons] at h0 ⊢
    by_cases h1 : digit c = true
    · rw [if_pos h1]; simp [text, List.take_append_drop]
    · rw [if_neg h1] at h0 ⊢
      by_cases h2 : letter c = true
      · rw [if_pos h2]; simp [text, List.take_append_drop]
      · rw [if_neg h2] at h0 ⊢
        by_cases h3 : c = 39
        · subst h3
          rw [if_pos rfl] at h0 ⊢
          cases e : cutQ r with
          | none => rw [e] at h0; exact absurd rfl h0
          | some q =>
            simp only [text, if_true]
            have hq : r = q ++ 39 :: r.drop (q.length + 1) := by
              unfold cutQ at e
              split at e
              · rename_i hl
                obtain rfl := Option.some.inj e
                have h5 := List.takeWhile_append_dropWhile (p := (· != 39)) (l := r)
                cases hd : r.dropWhile (· != 39) with
                | nil => rw [hd, List.append_nil] at h5; rw [h5] at hl; omega
                | cons d z =>
                  have h6 : ¬ ((d != 39) = true) := by
                    have := List.head_dropWhile_not (p := (· != 39)) (l := r) (by rw [hd]; simp)
                    simp only [hd, List.head_cons] at this; simp [this]
                  have h7 : d = 39 := by simpa using h6
                  subst h7
                  rw [hd] at h5
                  have h8 : r.drop ((r.takeWhile (· != 39)).length + 1) = z := by
                    rw (config := {occs := .pos [2]}) [← h5]
                    rw [← List.drop_drop, List.drop_left]; rfl
                  rw [h8]; exact h5.symm
              · cases e
            rw [show q.length + 2 = (q.length + 1) + 1 from rfl, List.drop_succ_cons]
            conv => lhs; rw [hq]
            simp
        · rw [if_neg h3] at h0 ⊢
          cases e : signs.find? fun x => x.isPrefixOf (c :: r) with
          | none => rw [e] at h0; exact absurd rfl h0
          | some x =>
            simp only [text, show ¬ ((4 : Int) = 3) by decide, if_false]
            have := List.find?_some e
            rw [List.isPrefixOf_iff_prefix] at this
            obtain ⟨z, hz⟩ := this
            rw [← hz]; simp
end Lx

end
section
namespace Lx
open Go
set_option linter.unusedVariables false
set_option linter.unusedSimpArgs false
/-- the bytes so far, without spaces outside of quotes; is a quote open? -/
def bstep (b : Bs × Bool) (c : UInt8) : Bs × Bool := if c = 39 then (b.1 ++ [c], !b.2) else if c ≠ 32 ∨ b.2 = true then (b.1 ++ [c], b.2) else b
def bareF (l : Bs) : Bs × Bool := l.foldl bstep ([], false)
theorem fold_plain {t : Bs} (h : ∀ c ∈ t, c ≠ 39 ∧ c ≠ 32) (b : Bs) : t.foldl bstep (b, false) = (b ++ t, false) := by
  induction t generalizing b with
  | nil => simp
  | cons c s ih =>
    have hc := h c (List.mem_cons_self ..)
    rw [List.foldl_cons]
    have e : bstep (b, false) c = (b ++ [c], false) := by simp [bstep, hc.1, hc.2]
    rw [e, ih fun x hx => h x (List.mem_cons_of_mem _ hx)]
    simp
theorem fold_in {t : Bs} (h : ∀ c ∈ t, c ≠ 39) (b : Bs) : t.foldl bstep (b, true) = (b ++ t, true) := by
  induction t generalizing b with
  | nil => simp
  | cons c s ih =>
    have hc := h c (List.mem_cons_self ..)
    rw [List.foldl_cons]
    have e : bstep (b, true) c = (b ++ [c], true) := by simp [bstep, hc]
    rw [e, ih fun x hx => h x (List.mem_cons_of_mem _ hx)]
    simp
theorem fold_trim (l b : Bs) : (trim l).foldl bstep (b, false) = l.foldl bstep (b, false) := by
  induction l with
  | nil => rfl
  | cons c s ih =>
    by_cases h : c = 32
    · subst h
      rw [trim_sp, ih, List.foldl_cons]
      rfl
    · unfold trim
      rw [List.dropWhile_cons, if_neg (by simpa using h)]
theorem clean {t : Tok} (h : may t.k t.t = true) (h3 : t.k ≠ 3) : ∀ c ∈ t.t, c ≠ 39 ∧ c ≠ 32 := by
  obtain ⟨k, t⟩ := t
  unfold may at h
  simp only at h h3 ⊢
  intro c hc
  by_cases h1 : k = 1
  · subst h1
    simp only [if_true] at h
    unfold numOk at h
    simp only [Bool.and_eq_true, beq_iff_eq] at h
    have := run_all h.2.1 c hc
    exact ⟨fun e => by subst e; revert this; decide, fun e => by subst e; revert this; decide⟩
  · rw [if_neg h1] at h
    by_cases h2 : k = 2
    · subst h2
      simp only [if_true] at h
      unfold wordOk at h
      cases t with
      | nil => cases hc
      | cons d s =>
        simp only [Bool.and_eq_true, beq_iff_eq] at h
        have := run_all h.2.1 c hc
        exact ⟨fun e => by subst e; revert this; decide, fun e => by subst e; revert this; decide⟩
    · rw [if_neg h2, if_neg h3] at h
      by_cases h4 : k = 4
      · subst h4
        simp only [if_true] at h
        rw [List.contains_iff_mem] at h
        have hall : signs.all (fun s => s.all fun c => (c != 39) && (c != 32)) = true := by decide
        have := List.all_eq_true.1 (List.all_eq_true.1 hall t h) c hc
        simpa using this
      · rw [if_neg h4] at h; cases h
theorem clean3 {t : Tok} (h : may t.k t.t = true) (h3 : t.k = 3) : ∀ c ∈ t.t, c ≠ 39 := by
  obtain ⟨k, t⟩ := t
  unfold may at h
  simp only at h h3 ⊢
  subst h3
  intro c hc
  simp only [show ¬ ((3 : Int) = 1) by decide, show ¬ ((3 : Int) = 2) by decide, if_false, if_true] at h
  unfold quoteOk at h
  simp only [Bool.and_eq_true, beq_iff_eq] at h
  intro e
  have := run_all h.1 c hc
  subst e; revert this; decide
theorem fold_text {t : Tok} (h : may t.k t.t = true) (b : Bs) : (text t).foldl bstep (b, false) = (b ++ text t, false) := by
  unfold text
  by_cases h3 : t.k = 3
  · rw [if_pos h3, List.foldl_cons, List.foldl_append]
    have e : bstep (b, false) 39 = (b ++ [39], true) := by simp [bstep]
    rw [e, fold_in (clean3 h h3)]
    simp [bstep]
  · rw [if_neg h3]
    exact fold_plain (clean h h3) b
/-- one part of what is read -/
theorem lexT_one {n : Nat} {l : Bs} {ts : List Tok} (h : lexT n l = some ts) : (l = [] ∧ ts = []) ∨ ∃ m t us, n = m + 1 ∧ ts = t :: us ∧ may t.k t.t = true ∧ l = text t ++ l.drop (text t).length ∧ (first l) = (t, (first l).2) ∧ l.drop (first l).2 = l.drop (text t).length ∧ lexT m (trim (l.drop (first l).2)) = some us := by
  cases n with
  | zero => cases h
  | succ m =>
    cases l with
    | nil => exact .inl ⟨rfl, (Option.some.inj h).symm⟩
    | cons c r =>
      right
      rw [lexT_cons] at h
      split at h
      · cases h
      · rename_i hc
        simp only [Bool.or_eq_true, decide_eq_true_eq, Bool.not_eq_true', not_or, Bool.not_eq_false] at hc
        obtain ⟨us, hu, rfl⟩ := Option.map_eq_some_iff.1 h
        have hs := first_stands hc.1
        have hlen : (c :: r).drop (text (first (c :: r)).1).length = (c :: r).drop (first (c :: r)).2 := by
          have := congrArg (List.drop (text (first (c :: r)).1).length) hs
          rw [List.drop_left] at this
          exact this
        refine ⟨m, _, us, rfl, rfl, hc.2, ?_, rfl, hlen.symm, hu⟩
        rw [hlen]; exact hs
theorem lexT_bare : ∀ (n : Nat) (l : Bs) (ts : List Tok), lexT n l = some ts → ∀ b, l.foldl bstep (b, false) = (b ++ (ts.map text).flatten, false) ∧ (ts.map text).flatten.length ≤ l.length ∧ (ts.all fun t => may t.k t.t) = true
  | n, l, ts, h, b => by
    rcases lexT_one h with ⟨rfl, rfl⟩ | ⟨m, t, us, rfl, rfl, hm, hl, hf, hd, hu⟩
    · simp
    · rw [hd] at hu
      have ih := lexT_bare m _ us hu (b ++ text t)
      have e : l.foldl bstep (b, false) = (l.drop (text t).length).foldl bstep (b ++ text t, false) := by
        conv => lhs; rw [hl]
        rw [List.foldl_append, fold_text hm]
      have hlen : l.length = (text t).length + (l.drop (text t).length).length := by
        conv => lhs; rw [hl]
        rw [List.length_append]
      refine ⟨?_, ?_, ?_⟩
      · rw [e, ← fold_trim, ih.1]; simp
      · have := trim_le (l.drop (text t).length)
        simp only [List.map_cons, List.flatten_cons, List.length_append]
        have := ih.2.1
        omega
      · rw [List.all_cons, hm, ih.2.2]; rfl
/-- what Lex tells, when it tells -/
theorem lex_ok {l : Bs} {ts : List Tok} {e : Int} (h : lex l = (ts, e)) : (e ≠ 0 ∧ ts = []) ∨ (e = 0 ∧ l.length ≤ 100 ∧ bareF l = ((ts.map text).flatten, false) ∧ (ts.map text).flatten.length ≤ l.length ∧ (ts.all fun t => may t.k t.t) = true) := by
  unfold lex at h
  split at h
  · injection h with h1 h2; subst h1 h2; exact .inl ⟨by decide, rfl⟩
  · split at h
    · rename_i hl ts' hx
      injection h with h1 h2; subst h1 h2
      have := lexT_bare _ _ _ hx []
      rw [fold_trim] at this
      have ht := trim_le l
      exact .inr ⟨rfl, by omega, (by simpa [bareF] using this.1), by have := this.2.1; omega, this.2.2⟩
    · injection h with h1 h2; subst h1 h2; exact .inl ⟨by decide, rfl⟩
theorem text_pos {t : Tok} (h : may t.k t.t = true) : 0 < (text t).length := by
  obtain ⟨c, r, e, _⟩ := text_head h; rw [e]; simp
theorem count_le : ∀ {ts : List Tok}, (ts.all fun t => may t.k t.t) = true → ts.length ≤ (ts.map text).flatten.length
  | [], _ => by simp
  | t :: ts, h => by
    rw [List.all_cons, Bool.and_eq_true] at h
    have := count_le h.2
    have := text_pos h.1
    simp only [List.map_cons, List.flatten_cons, List.length_append, List.length_cons]
    omega
theorem tt_le (t : Tok) : t.t.length ≤ (text t).length := by
  unfold text; split
  · simp; omega
  · omega
theorem mem_le {ts : List Tok} {t : Tok} (h : t ∈ ts) : (text t).length ≤ (ts.map text).flatten.length := by
  induction ts with
  | nil => cases h
  | cons u us ih =>
    simp only [List.map_cons, List.flatten_cons, List.length_append]
    rcases List.mem_cons.1 h with rfl | h
    · omega
    · have := ih h; omega
/-! ### spaces between -/
def blanks (ks : Nat → Nat) : Nat → List Tok → Bs
  | _, [] => []
  | j, t :: ts => List.replicate (ks j) 32 ++ (text t ++ 32 :: blanks ks (j + 1) ts)
theorem blanks_app (ks : Nat → Nat) : ∀ (a b : List Tok) (j : Nat), blanks ks j (a ++ b) = blanks ks j a ++ blanks ks (j + a.length) b
  | [], b, j => by simp [blanks]
  | t :: a, b, j => by
    simp only [List.cons_append, blanks, blanks_app ks a b (j + 1), List.length_cons, List.append_assoc, show j + 1 + a.length = j + (a.length + 1) by omega]
theorem blanks_len (ks : Nat → Nat) (hk : ∀ i, ks i ≤ 3) : ∀ (ts : List Tok) (j : Nat), (blanks ks j ts).length ≤ (ts.map text).flatten.length + 4 * ts.length
  | [], j => by simp [blanks]
  | t :: ts, j => by
    have := blanks_len ks hk ts (j + 1)
    have := hk j
    simp only [blanks, List.map_cons, List.flatten_cons, List.length_append, List.length_cons, List.length_replicate]
    omega
theorem lexT_blanks (ks : Nat → Nat) : ∀ (ts : List Tok), (ts.all fun t => may t.k t.t) = true → ∀ (n j : Nat), (blanks ks j ts).length < n → lexT n (trim (blanks ks j ts)) = some ts
  | [], _, n, j, hn => by cases n with
    | zero => omega
    | succ n => rfl
  | t :: ts, h, n, j, hn => by
    rw [List.all_cons, Bool.and_eq_true] at h
    unfold blanks at hn ⊢
    rw [trim_sps, trim_text h.1]
    simp only [List.length_append, List.length_cons, List.length_replicate] at hn
    cases n with
    | zero => omega
    | succ n =>
      rw [lexT_text h.1 n (.inr ⟨_, rfl⟩), trim_sp, lexT_blanks ks ts h.2 n (j + 1) (by omega)]
      rfl
/-- P10.3 -/
theorem lex_blanks (ks : Nat → Nat) {ts : List Tok} (h : (ts.all fun t => may t.k t.t) = true) (hl : (blanks ks 0 ts).length ≤ 100) : lex (blanks ks 0 ts) = (ts, 0) := by
  have := lexT_blanks ks ts h ((blanks ks 0 ts).length + 1) 0 (by omega)
  unfold lex
  rw [if_neg (by omega), this]
end Lx

end
section
namespace Lx
open Go
set_option linter.unusedVariables false
set_option linter.unusedSimpArgs false
theorem run_app {p : UInt8 → Bool} (hp : p 32 = false) (l t : Bs) : run p (l ++ 32 :: t) = run p l := by
  induction l with
  | nil => simp [run, List.takeWhile_cons, hp]
  | cons c s ih =>
    by_cases h : p c = true
    · rw [List.cons_append, run_cons_t h, run_cons_t h, ih]
    · rw [List.cons_append, run_cons_f (by simpa using h), run_cons_f (by simpa using h)]
theorem take_run_app {p : UInt8 → Bool} (l t : Bs) : (l ++ t).take (run p l) = l.take (run p l) := by
  rw [List.take_append_of_le_length (run_le p l)]
theorem cutQ_some_app {l q : Bs} (h : cutQ l = some q) (t : Bs) : cutQ (l ++ t) = some q := by
  have key : ∀ l : Bs, (l.takeWhile (· != 39)).length < l.length → (l ++ t).takeWhile (· != 39) = l.takeWhile (· != 39) := by
    intro l
    induction l with
    | nil => intro h; simp at h
    | cons c s ih =>
      intro h
      by_cases hc : (c != 39) = true
      · simp only [List.cons_append, List.takeWhile_cons, hc, if_true, List.length_cons] at h ⊢
        rw [ih (by omega)]
      · simp [List.takeWhile_cons, hc]
  unfold cutQ at h ⊢
  split at h
  · rename_i hl
    rw [key l hl, if_pos (by rw [List.length_append]; omega)]
    exact h
  · cases h
theorem prefix_app : ∀ (x l t : Bs), (∀ c ∈ x, c ≠ 32) → x.isPrefixOf (l ++ 32 :: t) = x.isPrefixOf l
  | [], l, t, _ => by simp
  | c :: x, [], t, h => by
    have := h c (List.mem_cons_self ..)
    simp [List.isPrefixOf, this]
  | c :: x, d :: l, t, h => by
    simp only [List.cons_append, List.isPrefixOf]
    rw [prefix_app x l t fun y hy => h y (List.mem_cons_of_mem _ hy)]
theorem signs_clean : ∀ x ∈ signs, ∀ c ∈ x, c ≠ 32 := by
  have : signs.all (fun x => x.all fun c => c != 32) = true := by decide
  intro x hx c hc
  have := List.all_eq_true.1 (List.all_eq_true.1 this x hx) c hc
  simpa using this
theorem find_congr {α : Type} {p q : α → Bool} : ∀ {l : List α}, (∀ x ∈ l, p x = q x) → l.find? p = l.find? q
  | [], _ => rfl
  | a :: l, h => by
    simp only [List.find?]
    rw [h a (List.mem_cons_self ..), find_congr fun x hx => h x (List.mem_cons_of_mem _ hx)]
theorem first_app {l : Bs} (h0 : (first l).2 ≠ 0) (t : Bs) : first (l ++ 32 :: t) = first l := by
  cases l with
  | nil => exact absurd rfl h0
  | cons c r =>
    have e1 := run_app (p := digit) (by decide) (c :: r) t
    have e2 := run_app (p := behind) (by decide) (c :: r) t
    have e3 := take_run_app (p := digit) (c :: r) (32 :: t)
    have e4 := take_run_app (p := behind) (c :: r) (32 :: t)
    rw [List.cons_append] at e1 e2 e3 e4 ⊢
    rw [first_cons] at h0 ⊢
    rw [first_cons, e1, e2, e3, e4]
    by_cases h1 : digit c = true
    · rw [if_pos h1, if_pos h1]
    · rw [if_neg h1] at h0 ⊢
      rw [if_neg h1]
      by_cases h2 : letter c = true
      · rw [if_pos h2, if_pos h2]
      · rw [if_neg h2] at h0 ⊢
        rw [if_neg h2]
        by_cases h3 : c = 39
        · rw [if_pos h3] at h0 ⊢
          rw [if_pos h3]
          cases e : cutQ r with
          | none => rw [e] at h0; exact absurd rfl h0
          | some q => rw [cutQ_some_app e]
        · rw [if_neg h3, if_neg h3]
          have e : (signs.find? fun x => x.isPrefixOf (c :: (r ++ 32 :: t))) = signs.find? fun x => x.isPrefixOf (c :: r) := find_congr fun x hx => prefix_app x (c :: r) t (signs_clean x hx)
          rw [e]
theorem first_le (l : Bs) : (first l).2 ≤ l.length := by
  cases l with
  | nil => simp [first, none]
  | cons c r =>
    rw [first_cons]
    split
    · exact run_le _ _
    · split
      · exact run_le _ _
      · split
        · cases h : cutQ r with
          | none => simp [none]
          | some q => have := cutQ_len h; simp; omega
        · cases h : signs.find? fun x => x.isPrefixOf (c :: r) with
          | none => simp [none]
          | some x =>
            have := List.find?_some h
            exact (List.isPrefixOf_iff_prefix.1 this).length_le
theorem trim_trim (a t : Bs) : trim (a ++ 32 :: t) = trim (trim a ++ 32 :: t) := by
  induction a with
  | nil => rfl
  | cons c s ih =>
    by_cases h : c = 32
    · subst h; rw [List.cons_append, trim_sp, trim_sp, ih]
    · have e : trim (c :: s) = c :: s := by unfold trim; rw [List.dropWhile_cons, if_neg (by simpa using h)]
      rw [e]
theorem lexT_fuel : ∀ (n m : Nat) (l : Bs), l.length < n → l.length < m → lexT n l = lexT m l
  | 0, _, _, h, _ => by omega
  | _ + 1, 0, _, _, h => by omega
  | n + 1, m + 1, [], _, _ => rfl
  | n + 1, m + 1, c :: r, h, k => by
    rw [lexT_cons, lexT_cons]
    by_cases h0 : (first (c :: r)).2 = 0
    · simp [h0]
    · have h1 := trim_le ((c :: r).drop (first (c :: r)).2)
      rw [List.length_drop, List.length_cons] at h1
      simp only [List.length_cons] at h k
      rw [lexT_fuel n m _ (by omega) (by omega)]
theorem trim_idem {l : Bs} {c : UInt8} (h : c ≠ 32) : trim (c :: l) = c :: l := by unfold trim; rw [List.dropWhile_cons, if_neg (by simpa using h)]
theorem first_sp (l : Bs) : (first (32 :: l)).2 = 0 := by
  have : ∀ x ∈ signs, x.isPrefixOf (32 :: l) = false := by
    intro x hx
    have := prefix_app x [] l (signs_clean x hx)
    rw [List.nil_append] at this
    rw [this]
    have hne : signs.all (fun x => !x.isPrefixOf []) = true := by decide
    simpa using List.all_eq_true.1 hne x hx
  rw [first_cons, if_neg (by decide), if_neg (by decide), if_neg (by decide), List.find?_eq_none.2 fun x hx => by rw [this x hx]; decide]
  rfl
theorem lexT_app : ∀ (n : Nat) (l : Bs) (ts : List Tok), lexT n l = some ts → ∀ (t : Bs) (m k : Nat), l.length + t.length + 1 < m → t.length < k → lexT m (trim (l ++ 32 :: t)) = (lexT k (trim t)).map (ts ++ ·)
  | n, l, ts, h, t, m, k, hm, hk => by
    rcases lexT_one h with ⟨rfl, rfl⟩ | ⟨n', t0, us, rfl, rfl, hmay, hl, hf, hd, hu⟩
    · rw [List.nil_append, trim_sp]
      have := trim_le t
      rw [lexT_fuel m k _ (by omega) (by omega)]
      cases lexT k (trim t) <;> rfl
    · cases l with
      | nil =>
        obtain ⟨c, r, e, _⟩ := text_head hmay
        rw [e] at hl; simp at hl
      | cons c r =>
        have h0 : (first (c :: r)).2 ≠ 0 := fun e => by
          simp only [lexT] at h
          rw [if_pos (by simp [e])] at h
          cases h
        have hc : c ≠ 32 := fun e => by subst e; exact h0 (first_sp r)
        have hfa := first_app h0 t
        rw [List.cons_append] at hfa ⊢
        rw [trim_idem hc]
        cases m with
        | zero => omega
        | succ m =>
          have hb := first_stands h0
          have hle := first_le (c :: r)
          have hdr : (c :: (r ++ 32 :: t)).drop (first (c :: r)).2 = (c :: r).drop (first (c :: r)).2 ++ 32 :: t := by
            rw [← List.cons_append, List.drop_append_of_le_length hle]
          rw [lexT_cons, hfa, hdr, hf, if_neg (by rw [hf] at h0; simp only at h0; simp [h0, hmay])]
          rw [← hf, trim_trim]
          have h2 := trim_le ((c :: r).drop (first (c :: r)).2)
          rw [List.length_drop] at h2
          simp only [List.length_cons] at hm h2
          rw [lexT_app n' _ us hu t m k (by omega) hk, Option.map_map]
          have ef : (first (c :: r)).1 = t0 := by rw [hf]
          rw [ef]
          congr 1
/-- P10.4 -/
theorem lex_long {u : Bs} (h : 100 < u.length) : (lex u).2 = 40 := by unfold lex; rw [if_pos h]
theorem lex_pieces {s t : Bs} {a : List Tok} (h : lex s = (a, 0)) (hl : (s ++ 32 :: t).length ≤ 100) : lex (s ++ 32 :: t) = if (lex t).2 = 0 then (a ++ (lex t).1, 0) else ([], (lex t).2) := by
  have hs : lexT (s.length + 1) (trim s) = some a := by
    unfold lex at h
    split at h
    · injection h with h1 h2; cases h2
    · split at h
      · rename_i ts hx; injection h with h1 h2; rw [hx, h1]
      · injection h with h1 h2; cases h2
  have h1 := trim_le s
  have h2 := trim_trim s t
  rw [List.length_append, List.length_cons] at hl
  have h3 := lexT_app _ _ _ hs t ((s ++ 32 :: t).length + 1) (t.length + 1) (by rw [List.length_append, List.length_cons]; omega) (by omega)
  have ht : lex t = match lexT (t.length + 1) (trim t) with
    | some ts => (ts, 0)
    | Option.none => ([], 4) := by unfold lex; rw [if_neg (by omega)]; rfl
  unfold lex at ht ⊢
  rw [if_neg (by rw [List.length_append, List.length_cons]; omega), h2, h3, ht]
  cases lexT (t.length + 1) (trim t) <;> simp
end Lx

end
section
namespace Lx
open Go
set_option linter.unusedVariables false
set_option linter.unusedSimpArgs false
theorem run_ap4 {p : UInt8 → Bool} (hp : p 41 = false) (l t : Bs) : run p (l ++ 41 :: t) = run p l := by
  induction l with
  | nil => simp [run, List.takeWhile_cons, hp]
  | cons c s ih =>
    by_cases h : p c = true
    · rw [List.cons_append, run_cons_t h, run_cons_t h, ih]
    · rw [List.cons_append, run_cons_f (by simpa using h), run_cons_f (by simpa using h)]
theorem prefix_ap4 : ∀ (x l t : Bs), (∀ c ∈ x, c ≠ 41) → x.isPrefixOf (l ++ 41 :: t) = x.isPrefixOf l
  | [], l, t, _ => by simp
  | c :: x, [], t, h => by
    have := h c (List.mem_cons_self ..)
    simp [List.isPrefixOf, this]
  | c :: x, d :: l, t, h => by
    simp only [List.cons_append, List.isPrefixOf]
    rw [prefix_ap4 x l t fun y hy => h y (List.mem_cons_of_mem _ hy)]
theorem signs_ap4 : ∀ x ∈ signs, (∀ c ∈ x, c ≠ 41) ∨ x = [41] := by
  have : signs.all (fun x => (x.all fun c => c != 41) || x == [41]) = true := by decide
  intro x hx
  have := List.all_eq_true.1 this x hx
  simp only [Bool.or_eq_true, beq_iff_eq] at this
  rcases this with h | h
  · left
    intro c hc
    have := List.all_eq_true.1 h c hc
    simpa using this
  · exact .inr h
theorem first_ap4 {l : Bs} (h0 : (first l).2 ≠ 0) (t : Bs) : first (l ++ 41 :: t) = first l := by
  cases l with
  | nil => exact absurd rfl h0
  | cons c r =>
    have e1 := run_ap4 (p := digit) (by decide) (c :: r) t
    have e2 := run_ap4 (p := behind) (by decide) (c :: r) t
    have e3 := take_run_app (p := digit) (c :: r) (41 :: t)
    have e4 := take_run_app (p := behind) (c :: r) (41 :: t)
    rw [List.cons_append] at e1 e2 e3 e4 ⊢
    rw [first_cons] at h0 ⊢
    rw [first_cons, e1, e2, e3, e4]
    by_cases h1 : digit c = true
    · rw [if_pos h1, if_pos h1]
    · rw [if_neg h1] at h0 ⊢
      rw [if_neg h1]
      by_cases h2 : letter c = true
      · rw [if_pos h2, if_pos h2]
      · rw [if_neg h2] at h0 ⊢
        rw [if_neg h2]
        by_cases h3 : c = 39
        · rw [if_pos h3] at h0 ⊢
          rw [if_pos h3]
          cases e : cutQ r with
          | none => rw [e] at h0; exact absurd rfl h0
          | some q => rw [cutQ_some_app e]
        · rw [if_neg h3, if_neg h3]
          have e : (signs.find? fun x => x.isPrefixOf (c :: (r ++ 41 :: t))) = signs.find? fun x => x.isPrefixOf (c :: r) := find_congr fun x hx => by
            rcases signs_ap4 x hx with h | rfl
            · exact prefix_ap4 x (c :: r) t h
            · simp [List.isPrefixOf]
          rw [e]
theorem trim_ap4 (a t : Bs) : trim (a ++ 41 :: t) = trim a ++ 41 :: t := by
  induction a with
  | nil => rfl
  | cons c s ih =>
    by_cases h : c = 32
    · subst h; rw [List.cons_append, trim_sp, trim_sp, ih]
    · rw [List.cons_append, trim_idem h, trim_idem h]; rfl
theorem lexT_ap4 : ∀ (n : Nat) (l : Bs) (ts : List Tok), lexT n l = some ts → ∀ (t : Bs) (m k : Nat), l.length + t.length + 2 < m → t.length + 1 < k → lexT m (trim (l ++ 41 :: t)) = (lexT k (41 :: t)).map (ts ++ ·)
  | n, l, ts, h, t, m, k, hm, hk => by
    rcases lexT_one h with ⟨rfl, rfl⟩ | ⟨n', t0, us, rfl, rfl, hmay, hl, hf, hd, hu⟩
    · rw [List.nil_append, trim_idem (by decide)]
      rw [lexT_fuel m k _ (by simp only [List.length_cons]; omega) (by simp only [List.length_cons]; omega)]
      cases lexT k (41 :: t) <;> rfl
    · cases l with
      | nil =>
        obtain ⟨c, r, e, _⟩ := text_head hmay
        rw [e] at hl; simp at hl
      | cons c r =>
        have h0 : (first (c :: r)).2 ≠ 0 := fun e => by
          simp only [lexT] at h
          rw [if_pos (by simp [e])] at h
          cases h
        have hc : c ≠ 32 := fun e => by subst e; exact h0 (first_sp r)
        have hfa := first_ap4 h0 t
        rw [List.cons_append] at hfa ⊢
        rw [trim_idem hc]
        cases m with
        | zero => omega
        | succ m =>
          have hb := first_stands h0
          have hle := first_le (c :: r)
          have hdr : (c :: (r ++ 41 :: t)).drop (first (c :: r)).2 = (c :: r).drop (first (c :: r)).2 ++ 41 :: t := by
            rw [← List.cons_append, List.drop_append_of_le_length hle]
          rw [lexT_cons, hfa, hdr, hf, if_neg (by rw [hf] at h0; simp only at h0; simp [h0, hmay])]
          rw [← hf, trim_ap4]
          have h2 := trim_le ((c :: r).drop (first (c :: r)).2)
          rw [List.length_drop] at h2
          simp only [List.length_cons] at hm h2
          have ef : (first (c :: r)).1 = t0 := by rw [hf]
          have ih := lexT_ap4 n' _ us hu t m k (by omega) hk
          rw [trim_ap4] at ih
          have tt : trim (trim ((c :: r).drop (first (c :: r)).2)) = trim ((c :: r).drop (first (c :: r)).2) := by
            generalize (c :: r).drop (first (c :: r)).2 = z
            induction z with
            | nil => rfl
            | cons d z ih =>
              by_cases h : d = 32
              · subst h; rw [trim_sp]; exact ih
              · rw [trim_idem h, trim_idem h]
          rw [tt] at ih
          rw [ih, Option.map_map, ef]
          congr 1
def lp : Tok := ⟨4, [40]⟩
def rp : Tok := ⟨4, [41]⟩
theorem lex_some {s : Bs} {a : List Tok} (h : lex s = (a, 0)) : lexT (s.length + 1) (trim s) = some a := by
  unfold lex at h
  split at h
  · injection h with h1 h2; cases h2
  · split at h
    · rename_i ts h1; injection h with h2 h3; rw [h1, h2]
    · injection h with h2 h3; cases h3
theorem lex_of {s : Bs} {a : List Tok} {n : Nat} (hl : s.length ≤ 100) (hn : s.length < n) (h : lexT n (trim s) = some a) : lex s = (a, 0) := by
  have := trim_le s
  rw [lexT_fuel n (s.length + 1) _ (by omega) (by omega)] at h
  unfold lex
  rw [if_neg (by omega), h]
theorem lexT_open (n : Nat) (l : Bs) : lexT (n + 1) (40 :: l) = (lexT n (trim l)).map (lp :: ·) := by
  rw [lexT_cons]
  have e : first (40 :: l) = (lp, 1) := by
    rw [first_cons, if_neg (by decide), if_neg (by decide), if_neg (by decide)]
    have : (signs.find? fun x => x.isPrefixOf (40 :: l)) = some [40] := by simp [signs, List.find?, List.isPrefixOf]
    rw [this]; rfl
  rw [e]
  rfl
theorem lexT_close (n : Nat) (l : Bs) : lexT (n + 1) (41 :: l) = (lexT n (trim l)).map (rp :: ·) := by
  rw [lexT_cons]
  have e : first (41 :: l) = (rp, 1) := by
    rw [first_cons, if_neg (by decide), if_neg (by decide), if_neg (by decide)]
    have : (signs.find? fun x => x.isPrefixOf (41 :: l)) = some [41] := by simp [signs, List.find?, List.isPrefixOf]
    rw [this]; rfl
  rw [e]
  rfl
theorem trim_trim' (z : Bs) : trim (trim z) = trim z := by
  induction z with
  | nil => rfl
  | cons d z ih =>
    by_cases h : d = 32
    · subst h; rw [trim_sp]; exact ih
    · rw [trim_idem h, trim_idem h]
/-- in brackets -/
theorem lex_brack {s : Bs} {a : List Tok} (h : lex s = (a, 0)) (hl : (40 :: (s ++ [41])).length ≤ 100) : lex (40 :: (s ++ [41])) = (lp :: (a ++ [rp]), 0) := by
  have hs := lex_some h
  have ht := trim_le s
  refine lex_of (n := s.length + 10) hl (by simp) ?_
  rw [trim_idem (by decide), lexT_open, trim_ap4]
  have := lexT_ap4 _ _ _ hs [] (s.length + 9) 5 (by simp; omega) (by simp)
  rw [trim_ap4, trim_trim'] at this
  rw [this, lexT_close]
  rfl
/-- spaces ahead -/
theorem lex_ahead {s : Bs} {a : List Tok} (k : Nat) (h : lex s = (a, 0)) (hl : (List.replicate k 32 ++ s).length ≤ 100) : lex (List.replicate k 32 ++ s) = (a, 0) := by
  have hs := lex_some h
  refine lex_of (n := (List.replicate k 32 ++ s).length + 1) hl (by omega) ?_
  rw [trim_sps]
  have := trim_le s
  rw [lexT_fuel _ (s.length + 1) _ (by simp; omega) (by omega), hs]
/-- spaces behind -/
theorem lex_behind {s : Bs} {a : List Tok} (k : Nat) (h : lex s = (a, 0)) (hl : (s ++ List.replicate k 32).length ≤ 100) : lex (s ++ List.replicate k 32) = (a, 0) := by
  cases k with
  | zero => simpa using h
  | succ k =>
    have e : lex (List.replicate k 32) = ([], 0) := by
      refine lex_of (n := (List.replicate k (32 : UInt8)).length + 1) (by simp at hl ⊢; omega) (by omega) ?_
      have := trim_sps k []
      rw [List.append_nil] at this
      rw [this]; rfl
    rw [List.replicate_succ] at hl ⊢
    rw [lex_pieces h hl, e]
    simp
end Lx
namespace Px
open Go
open Lx hiding none run first
/-! ### more steps do no harm -/
theorem fuel_all : ∀ n : Nat, (∀ ts p, one n ts = some p → one (n + 1) ts = some p) ∧ (∀ m ts p, two n m ts = some p → two (n + 1) m ts = some p) ∧ (∀ m l x ts p, loop n m l x ts = some p → loop (n + 1) m l x ts = some p)
  | 0 => ⟨fun _ _ h => by simp [one] at h, fun _ _ _ h => by simp [two] at h, fun _ _ _ _ _ h => by simp [loop] at h⟩
  | n + 1 => by
    obtain ⟨h1, h2, h3⟩ := fuel_all n
    refine ⟨fun ts p h => ?_, fun m ts p h => ?_, fun m l x ts p h => ?_⟩
    · cases ts with
      | nil => simp [one] at h
      | cons t s =>
        unfold one at h ⊢
        split at h
        · rename_i k4
          rw [if_pos k4]
          split at h
          · rename_i k; rw [if_pos k]
            obtain ⟨q, hq, rfl⟩ := map_some h
            rw [h1 _ _ hq]; rfl
          · rename_i k; rw [if_neg k]
            split at h
            · rename_i k; rw [if_pos k]
              obtain ⟨q, hq, rfl⟩ := map_some h
              rw [h1 _ _ hq]; rfl
            · rename_i k; rw [if_neg k]
              split at h
              · rename_i k; rw [if_pos k]
                obtain ⟨q, hq, he⟩ := bind_some h
                rw [h2 _ _ _ hq, Option.bind_some]; exact he
              · cases h
        · rename_i k4
          rw [if_neg k4]
          split at h
          · rename_i k; rw [if_pos k]; exact h
          · rename_i k; rw [if_neg k]
            split at h
            · rename_i k; rw [if_pos k]; exact h
            · rename_i k; rw [if_neg k]
              split at h
              · rename_i k; rw [if_pos k]; exact h
              · rename_i k; rw [if_neg k]
                split at h
                · rename_i k; rw [if_pos k]; exact h
                · rename_i k; rw [if_neg k]
                  split at h
                  · rename_i k; rw [if_pos k]
                    obtain ⟨r1, hr, he⟩ := bind_some h
                    rw [hr, Option.bind_some]
                    obtain ⟨q, hq, he⟩ := bind_some he
                    rw [h2 _ _ _ hq, Option.bind_some]; exact he
                  · rename_i k; rw [if_neg k]; exact h
    · unfold two at h ⊢
      obtain ⟨q, hq, he⟩ := bind_some h
      rw [h1 _ _ hq, Option.bind_some]
      exact h3 _ _ _ _ _ he
    · cases ts with
      | nil => exact h
      | cons t s =>
        unfold loop at h ⊢
        split at h
        · rename_i k4
          rw [if_pos k4]
          cases hb : by_ t.t 0 with
          | none => rw [hb] at h; exact h
          | some b =>
            rw [hb] at h
            simp only at h ⊢
            split at h
            · rename_i k; rw [if_pos k]; exact h
            · rename_i k; rw [if_neg k]
              obtain ⟨q, hq, he⟩ := bind_some h
              rw [h2 _ _ _ hq, Option.bind_some]
              exact h3 _ _ _ _ _ he
        · rename_i k4
          rw [if_neg k4]; exact h
theorem two_fuel {n m : Nat} {k : Int} {ts : List Tok} {p : Ex × List Tok} (h : two n k ts = some p) (hl : n ≤ m) : two m k ts = some p := by
  induction m with
  | zero => obtain rfl : n = 0 := by omega
            exact h
  | succ m ih =>
    by_cases e : n = m + 1
    · rw [← e]; exact h
    · exact (fuel_all m).2.1 _ _ _ (ih (by omega))
/-! ### a bracket behind -/
theorem sign_app {s : Bs} {ts r : List Tok} (h : sign s ts = some r) (u : List Tok) : sign s (ts ++ u) = some (r ++ u) := by
  cases ts with
  | nil => cases h
  | cons t l =>
    simp only [sign, List.cons_append] at h ⊢
    split at h
    · rename_i k; rw [if_pos k, Option.some.inj h]
    · cases h
theorem app_all (u : List Tok) : ∀ n : Nat, (∀ ts e r, one n ts = some (e, r) → one n (ts ++ rp :: u) = some (e, r ++ rp :: u)) ∧ (∀ m ts e r, two n m ts = some (e, r) → two n m (ts ++ rp :: u) = some (e, r ++ rp :: u)) ∧ (∀ m l x ts e r, loop n m l x ts = some (e, r) → loop n m l x (ts ++ rp :: u) = some (e, r ++ rp :: u))
  | 0 => ⟨fun _ _ _ h => by simp [one] at h, fun _ _ _ _ h => by simp [two] at h, fun _ _ _ _ _ _ h => by simp [loop] at h⟩
  | n + 1 => by
    obtain ⟨h1, h2, h3⟩ := app_all u n
    refine ⟨fun ts e r h => ?_, fun m ts e r h => ?_, fun m l x ts e r h => ?_⟩
    · cases ts with
      | nil => simp [one] at h
      | cons t s =>
        rw [List.cons_append]
        unfold one at h ⊢
        split at h
        · rename_i k4
          rw [if_pos k4]
          split at h
          · rename_i k; rw [if_pos k]
            obtain ⟨⟨q, z⟩, hq, he⟩ := map_some h
            obtain ⟨rfl, rfl⟩ := Prod.mk.inj he
            rw [h1 _ _ _ hq]; rfl
          · rename_i k; rw [if_neg k]
            split at h
            · rename_i k; rw [if_pos k]
              obtain ⟨⟨q, z⟩, hq, he⟩ := map_some h
              obtain ⟨rfl, rfl⟩ := Prod.mk.inj he
              rw [h1 _ _ _ hq]; rfl
            · rename_i k; rw [if_neg k]
              split at h
              · rename_i k; rw [if_pos k]
                obtain ⟨⟨q, z⟩, hq, he⟩ := bind_some h
                obtain ⟨y, hy, he⟩ := map_some he
                obtain ⟨rfl, rfl⟩ := Prod.mk.inj he
                rw [h2 _ _ _ _ hq, Option.bind_some]
                simp only
                rw [sign_app hy]; rfl
              · cases h
        · rename_i k4
          rw [if_neg k4]
          split at h
          · rename_i k; rw [if_pos k]; obtain ⟨rfl, rfl⟩ := Prod.mk.inj (Option.some.inj h); rfl
          · rename_i k; rw [if_neg k]
            split at h
            · rename_i k; rw [if_pos k]; obtain ⟨rfl, rfl⟩ := Prod.mk.inj (Option.some.inj h); rfl
            · rename_i k; rw [if_neg k]
              split at h
              · rename_i k; rw [if_pos k]; obtain ⟨rfl, rfl⟩ := Prod.mk.inj (Option.some.inj h); rfl
              · rename_i k; rw [if_neg k]
                split at h
                · rename_i k; rw [if_pos k]; obtain ⟨rfl, rfl⟩ := Prod.mk.inj (Option.some.inj h); rfl
                · rename_i k; rw [if_neg k]
                  split at h
                  · rename_i k; rw [if_pos k]
                    obtain ⟨r1, hr, he⟩ := bind_some h
                    obtain ⟨⟨q, z⟩, hq, he⟩ := bind_some he
                    obtain ⟨y, hy, he⟩ := map_some he
                    obtain ⟨rfl, rfl⟩ := Prod.mk.inj he
                    rw [sign_app hr, Option.bind_some, h2 _ _ _ _ hq, Option.bind_some]
                    simp only
                    rw [sign_app hy]; rfl
                  · rename_i k; rw [if_neg k]; obtain ⟨rfl, rfl⟩ := Prod.mk.inj (Option.some.inj h); rfl
    · unfold two at h ⊢
      obtain ⟨⟨q, z⟩, hq, he⟩ := bind_some h
      rw [h1 _ _ _ hq, Option.bind_some]
      exact h3 _ _ _ _ _ _ he
    · cases ts with
      | nil =>
        simp only [loop] at h
        obtain ⟨rfl, rfl⟩ := Prod.mk.inj (Option.some.inj h)
        have hb : by_ rp.t 0 = none := by decide
        simp only [List.nil_append, loop, hb, ite_self]
      | cons t s =>
        rw [List.cons_append]
        unfold loop at h ⊢
        split at h
        · rename_i k4
          rw [if_pos k4]
          cases hb : by_ t.t 0 with
          | none => rw [hb] at h; obtain ⟨rfl, rfl⟩ := Prod.mk.inj (Option.some.inj h); rfl
          | some b =>
            rw [hb] at h
            simp only at h ⊢
            split at h
            · rename_i k; rw [if_pos k]; obtain ⟨rfl, rfl⟩ := Prod.mk.inj (Option.some.inj h); rfl
            · rename_i k; rw [if_neg k]
              obtain ⟨⟨q, z⟩, hq, he⟩ := bind_some h
              rw [h2 _ _ _ _ hq, Option.bind_some]
              exact h3 _ _ _ _ _ _ he
        · rename_i k4
          rw [if_neg k4]; obtain ⟨rfl, rfl⟩ := Prod.mk.inj (Option.some.inj h); rfl
theorem whole_some {ts : List Tok} {e : Ex} (h : whole ts = some e) : two (3 * ts.length + 2) 1 ts = some (e, []) := by
  unfold whole at h
  split at h
  · rename_i x h1; rw [h1, Option.some.inj h]
  · cases h
theorem whole_brack {ts : List Tok} {e : Ex} (h : whole ts = some e) : whole (lp :: (ts ++ [rp])) = some e := by
  have h1 := (app_all [] (3 * ts.length + 2)).2.1 _ _ _ _ (whole_some h)
  rw [List.nil_append] at h1
  have h2 := two_fuel h1 (m := 3 * (lp :: (ts ++ [rp])).length) (by simp; omega)
  have e1 : ∀ k, one (k + 1) (lp :: (ts ++ [rp])) = (two k 1 (ts ++ [rp])).bind fun p => (sign [41] p.2).map fun q => (p.1, q) := fun k => by
    unfold one; rw [if_pos (by decide), if_neg (by decide), if_neg (by decide), if_pos (by decide)]
  have e2 : two (3 * (lp :: (ts ++ [rp])).length + 2) 1 (lp :: (ts ++ [rp])) = some (e, []) := by
    show (one (3 * (lp :: (ts ++ [rp])).length + 1) (lp :: (ts ++ [rp]))).bind _ = _
    rw [e1, h2]
    rfl
  unfold whole
  rw [e2]
theorem parse_ok {s : Bs} (h : (parse s).2 = 0) : ∃ a e, lex s = (a, 0) ∧ whole a = some e ∧ ¬ 16 < deep e ∧ parse s = (e, 0) := by
  unfold parse at h ⊢
  by_cases h0 : (lex s).2 = 0
  · rw [if_pos h0] at h ⊢
    cases hw : whole (lex s).1 with
    | none => rw [hw] at h; cases h
    | some e =>
      rw [hw] at h
      simp only at h ⊢
      by_cases hd : 16 < deep e
      · rw [if_pos hd] at h; cases h
      · exact ⟨(lex s).1, e, Prod.ext rfl h0, hw, hd, by rw [if_neg hd]⟩
  · rw [if_neg h0] at h; exact absurd h h0
theorem parse_of {s : Bs} {a : List Tok} {e : Ex} (h : lex s = (a, 0)) (hw : whole a = some e) (hd : ¬ 16 < deep e) : parse s = (e, 0) := by
  unfold parse
  rw [h]
  simp only [if_true, hw, if_neg hd]
theorem parse_brack {s : Bs} (h : (parse s).2 = 0) (hl : (40 :: (s ++ [41])).length ≤ 100) : parse (40 :: (s ++ [41])) = parse s := by
  obtain ⟨a, e, h1, h2, h3, h4⟩ := parse_ok h
  rw [h4]
  exact parse_of (lex_brack h1 hl) (whole_brack h2) h3
theorem parse_sp {s : Bs} (k j : Nat) (h : (parse s).2 = 0) (hl : (List.replicate k 32 ++ (s ++ List.replicate j 32)).length ≤ 100) : parse (List.replicate k 32 ++ (s ++ List.replicate j 32)) = parse s := by
  obtain ⟨a, e, h1, h2, h3, h4⟩ := parse_ok h
  rw [h4]
  exact parse_of (lex_ahead k (lex_behind j h1 (by simp at hl ⊢; omega)) hl) h2 h3
end Px

end
section
namespace Px
open Go
open Lx hiding none run first
set_option linter.unusedVariables false
set_option linter.unusedSimpArgs false
theorem bind_congr' {α β : Type} {o o' : Option α} {f g : α → Option β} (h : o = o') (k : ∀ a, o' = some a → f a = g a) : o.bind f = o'.bind g := by
  subst h
  cases o with
  | none => rfl
  | some a => exact k a rfl
theorem stab : ∀ n : Nat, (∀ ts, 3 * ts.length + 1 ≤ n → one (n + 1) ts = one n ts) ∧ (∀ m ts, 3 * ts.length + 2 ≤ n → two (n + 1) m ts = two n m ts) ∧ (∀ m l x ts, 3 * ts.length + 1 ≤ n → loop (n + 1) m l x ts = loop n m l x ts)
  | 0 => ⟨fun _ h => by omega, fun _ _ h => by omega, fun _ _ _ _ h => by omega⟩
  | n + 1 => by
    obtain ⟨h1, h2, h3⟩ := stab n
    refine ⟨fun ts hl => ?_, fun m ts hl => ?_, fun m l x ts hl => ?_⟩
    · cases ts with
      | nil => simp only [one]
      | cons t r =>
        simp only [List.length_cons] at hl
        have e1 := h1 r (by omega)
        have e2 := h2 1 r (by omega)
        rw [one, one, e1, e2]
        have e3 : ((sign [40] r).bind fun r1 => (two (n + 1) 1 r1).bind fun p => (sign [41] p.2).map fun q => (op1 16 p.1, q)) = (sign [40] r).bind fun r1 => (two n 1 r1).bind fun p => (sign [41] p.2).map fun q => (op1 16 p.1, q) :=
          bind_congr' rfl fun r1 hr => by rw [h2 1 r1 (by have := (sign_len hr).1; omega)]
        rw [e3]
    · rw [two, two, h1 ts (by omega)]
      refine bind_congr' rfl fun p hp => ?_
      obtain ⟨e, r⟩ := p
      have := (one_less hp).1
      exact h3 _ _ _ _ (by show 3 * r.length + 1 ≤ n; omega)
    · cases ts with
      | nil => simp only [loop]
      | cons t r =>
        simp only [List.length_cons] at hl
        rw [loop, loop]
        by_cases hk : t.k = 4
        · rw [if_pos hk, if_pos hk]
          cases hb : by_ t.t 0 with
          | none => rfl
          | some b =>
            dsimp only
            by_cases hc : b.2.2 < m ∨ l < b.2.2
            · rw [if_pos hc, if_pos hc]
            · rw [if_neg hc, if_neg hc, h2 _ r (by omega)]
              refine bind_congr' rfl fun p hp => ?_
              obtain ⟨e, r'⟩ := p
              have := (two_less hp).1
              exact h3 _ _ _ _ (by show 3 * r'.length + 1 ≤ n; omega)
        · rw [if_neg hk, if_neg hk]
theorem one_at {n : Nat} {ts : List Tok} (h : 3 * ts.length + 1 ≤ n) : one n ts = one (3 * ts.length + 1) ts := by
  induction n with
  | zero => omega
  | succ n ih =>
    by_cases e : n + 1 = 3 * ts.length + 1
    · rw [e]
    · rw [(stab n).1 ts (by omega), ih (by omega)]
theorem two_at {n : Nat} {m : Int} {ts : List Tok} (h : 3 * ts.length + 2 ≤ n) : two n m ts = two (3 * ts.length + 2) m ts := by
  induction n with
  | zero => omega
  | succ n ih =>
    by_cases e : n + 1 = 3 * ts.length + 2
    · rw [e]
    · rw [(stab n).2.1 m ts (by omega), ih (by omega)]
theorem loop_at {n : Nat} {m l : Int} {x : Ex} {ts : List Tok} (h : 3 * ts.length + 1 ≤ n) : loop n m l x ts = loop (3 * ts.length + 1) m l x ts := by
  induction n with
  | zero => omega
  | succ n ih =>
    by_cases e : n + 1 = 3 * ts.length + 1
    · rw [e]
    · rw [(stab n).2.2 m l x ts (by omega), ih (by omega)]
/-- with as much fuel as is asked for -/
def One (ts : List Tok) : Option (Ex × List Tok) := one (3 * ts.length + 1) ts
def Two (m : Int) (ts : List Tok) : Option (Ex × List Tok) := two (3 * ts.length + 2) m ts
def Loop (m l : Int) (x : Ex) (ts : List Tok) : Option (Ex × List Tok) := loop (3 * ts.length + 1) m l x ts
/-- an operator of two, and how much it binds -/
def lv (t : Tok) : Option (Int × Int) := if t.k = 4 then (by_ t.t 0).map (·.2) else none
theorem One_nil : One [] = none := rfl
theorem One_cons (t : Tok) (r : List Tok) : One (t :: r) =
    if t.k = 4 then
      (if t.t = [45] then (One r).map fun p => (op1 3 p.1, p.2)
      else if t.t = [33] then (One r).map fun p => (op1 4 p.1, p.2)
      else if t.t = [40] then (Two 1 r).bind fun p => (sign [41] p.2).map fun q => (p.1, q)
      else none)
    else if t.k = 1 then some (leaf 1 (numOf t.t) [], r)
    else if t.k = 3 then some (leaf 3 0 t.t, r)
    else if t.t = [121, 101, 115] then some (leaf 2 1 [], r)
    else if t.t = [110, 111] then some (leaf 2 0 [], r)
    else if t.t = [108, 101, 110] then (sign [40] r).bind fun r1 => (Two 1 r1).bind fun p => (sign [41] p.2).map fun q => (op1 16 p.1, q)
    else some (name t.t, r) := by
  unfold One Two
  rw [show 3 * (t :: r).length + 1 = (3 * r.length + 3) + 1 from by simp only [List.length_cons]; omega, one, one_at (n := 3 * r.length + 3) (ts := r) (by omega), two_at (n := 3 * r.length + 3) (ts := r) (by omega)]
  have e3 : ((sign [40] r).bind fun r1 => (two (3 * r.length + 3) 1 r1).bind fun p => (sign [41] p.2).map fun q => (op1 16 p.1, q)) = (sign [40] r).bind fun r1 => (two (3 * r1.length + 2) 1 r1).bind fun p => (sign [41] p.2).map fun q => (op1 16 p.1, q) :=
    bind_congr' rfl fun r1 hr => by rw [two_at (n := 3 * r.length + 3) (ts := r1) (by have := (sign_len hr).1; omega)]
  rw [e3]
theorem Two_eq (m : Int) (ts : List Tok) : Two m ts = (One ts).bind fun p => Loop m 7 p.1 p.2 := by
  unfold One Two Loop
  rw [two]
  refine bind_congr' rfl fun p hp => ?_
  obtain ⟨e, r⟩ := p
  have := (one_less hp).1
  exact loop_at (by show 3 * r.length + 1 ≤ _; omega)
theorem Loop_nil (m l : Int) (x : Ex) : Loop m l x [] = some (x, []) := rfl
theorem Loop_cons (m l : Int) (x : Ex) (t : Tok) (r : List Tok) : Loop m l x (t :: r) = match lv t with
    | none => some (x, t :: r)
    | some b => if b.2 < m ∨ l < b.2 then some (x, t :: r) else (Two (b.2 + 1) r).bind fun p => Loop m (if b.2 = 3 then 2 else b.2) (op2 b.1 x p.1) p.2 := by
  unfold Loop Two lv
  rw [show 3 * (t :: r).length + 1 = (3 * r.length + 3) + 1 from by simp only [List.length_cons]; omega, loop]
  by_cases hk : t.k = 4
  · rw [if_pos hk, if_pos hk]
    cases hb : by_ t.t 0 with
    | none => rfl
    | some b =>
      dsimp only [Option.map_some]
      by_cases hc : b.2.2 < m ∨ l < b.2.2
      · rw [if_pos hc, if_pos hc]
      · rw [if_neg hc, if_neg hc, two_at (n := 3 * r.length + 3) (ts := r) (by omega)]
        refine bind_congr' rfl fun p hp => ?_
        obtain ⟨e, r'⟩ := p
        have := (two_less hp).1
        exact loop_at (by show 3 * r'.length + 1 ≤ _; omega)
  · rw [if_neg hk, if_neg hk]
theorem One_less {ts r : List Tok} {e : Ex} (h : One ts = some (e, r)) : Less ts r := one_less h
theorem Two_less {m : Int} {ts r : List Tok} {e : Ex} (h : Two m ts = some (e, r)) : Less ts r := two_less h
theorem Loop_less {m l : Int} {x : Ex} {ts r : List Tok} {e : Ex} (h : Loop m l x ts = some (e, r)) : Less ts r ∨ r = ts := (less_all _).2.2 _ _ _ _ _ _ h
theorem lv_much {t : Tok} {b : Int × Int} (h : lv t = some b) : t.k = 4 ∧ 1 ≤ b.2 ∧ b.2 ≤ 5 := by
  unfold lv at h
  split at h
  · rename_i hk
    obtain ⟨c, hc, rfl⟩ := Option.map_eq_some_iff.1 h
    have hm := List.mem_of_find?_eq_some hc
    have ht : ∀ b ∈ binds, 1 ≤ b.2.2 ∧ b.2.2 ≤ 5 := by decide
    exact ⟨hk, ht c hm⟩
  · cases h
/-- no operator that binds so much comes next -/
def Stops (m : Int) : List Tok → Prop
  | [] => True
  | t :: _ => ∀ b, lv t = some b → b.2 < m
/-- one that compares comes next -/
def BadH : List Tok → Prop
  | [] => False
  | t :: _ => ∃ b, lv t = some b ∧ b.2 = 3
/-- what is read level by level, against what is read by how much it binds: the same, or it is refused, where the other stops ahead of a second one that compares -/
def Rel (m : Int) (o o' : Option (Ex × List Tok)) : Prop := match o with
  | some p => o' = some p ∧ Stops m p.2
  | none => o' = none ∨ (m ≤ 3 ∧ ∃ x r, o' = some (x, r) ∧ BadH r)
theorem Stops.up {m n : Int} (h : m ≤ n) : ∀ {r : List Tok}, Stops m r → Stops n r
  | [], _ => trivial
  | t :: r, k => fun b hb => by have := k b hb; omega
/-- a loop's last limit -/
theorem loop_split (m : Int) (hm : 1 ≤ m) (hm5 : m ≤ 5) : ∀ (n : Nat) (l : Int) (x : Ex) (ts : List Tok), ts.length ≤ n → (m ≤ l) →
    (Loop (m + 1) l x ts = none → Loop m l x ts = none) ∧ ∀ y r, Loop (m + 1) l x ts = some (y, r) → ∃ l', m ≤ l' ∧ Loop m l x ts = Loop m l' y r ∧ (∀ t s, r = t :: s → ∀ b, lv t = some b → b.2 < m + 1 ∨ l' < b.2) := by
  intro n
  induction n with
  | zero =>
    intro l x ts hl hml
    obtain rfl : ts = [] := List.length_eq_zero_iff.1 (by omega)
    refine ⟨fun h => by simp [Loop_nil] at h, fun y r h => ?_⟩
    rw [Loop_nil] at h
    obtain ⟨rfl, rfl⟩ := Prod.mk.inj (Option.some.inj h)
    exact ⟨l, hml, rfl, fun t s h => by cases h⟩
  | succ n ih =>
    intro l x ts hl hml
    cases ts with
    | nil =>
      refine ⟨fun h => by simp [Loop_nil] at h, fun y r h => ?_⟩
      rw [Loop_nil] at h
      obtain ⟨rfl, rfl⟩ := Prod.mk.inj (Option.some.inj h)
      exact ⟨l, hml, rfl, fun t s h => by cases h⟩
    | cons t r =>
      simp only [List.length_cons] at hl
      rw [Loop_cons (m + 1)]
      cases hb : lv t with
      | none =>
        refine ⟨fun h => (by cases h), fun y r' h => ?_⟩
        obtain ⟨rfl, rfl⟩ := Prod.mk.inj (Option.some.inj h)
        refine ⟨l, hml, rfl, fun t' s' h b hb' => ?_⟩
        obtain ⟨rfl, rfl⟩ := List.cons.inj h
        rw [hb] at hb'; cases hb'
      | some b =>
        dsimp only
        by_cases hc : b.2 < m + 1 ∨ l < b.2
        · rw [if_pos hc]
          refine ⟨fun h => (by cases h), fun y r' h => ?_⟩
          obtain ⟨rfl, rfl⟩ := Prod.mk.inj (Option.some.inj h)
          refine ⟨l, hml, rfl, fun t' s' h b' hb' => ?_⟩
          obtain ⟨rfl, rfl⟩ := List.cons.inj h
          rw [hb] at hb'
          obtain rfl := Option.some.inj hb'
          exact hc
        · rw [if_neg hc]
          have e : Loop m l x (t :: r) = (Two (b.2 + 1) r).bind fun p => Loop m (if b.2 = 3 then 2 else b.2) (op2 b.1 x p.1) p.2 := by
            rw [Loop_cons m, hb]; dsimp only; rw [if_neg (by omega)]
          rw [e]
          cases hp : Two (b.2 + 1) r with
          | none => exact ⟨fun _ => rfl, fun y r' h => by cases h⟩
          | some p =>
            have hl2 : p.2.length < r.length := (Two_less (e := p.1) (r := p.2) hp).1
            simp only [Option.bind_some]
            exact ih _ _ _ (by omega) (by split <;> omega)
/-- from a level to the next lower one -/
theorem rel_down {m : Int} (hm : 1 ≤ m) (hm5 : m ≤ 5) {ts : List Tok} {o : Option (Ex × List Tok)} (h : Rel (m + 1) o (Two (m + 1) ts)) : match o with
    | some p => Stops (m + 1) p.2 ∧ ∃ l, m ≤ l ∧ Two m ts = Loop m l p.1 p.2
    | none => Rel m none (Two m ts) := by
  have key : (Two (m + 1) ts = none → Two m ts = none) ∧ ∀ y r, Two (m + 1) ts = some (y, r) → ∃ l', m ≤ l' ∧ Two m ts = Loop m l' y r ∧ (∀ t s, r = t :: s → ∀ b, lv t = some b → b.2 < m + 1 ∨ l' < b.2) := by
    rw [Two_eq m, Two_eq (m + 1)]
    cases One ts with
    | none => exact ⟨fun _ => rfl, fun y r h => by cases h⟩
    | some p => exact loop_split m hm hm5 _ 7 p.1 p.2 (Nat.le_refl _) (by omega)
  cases o with
  | some p =>
    obtain ⟨h1, h2⟩ := h
    obtain ⟨l, hl, e, _⟩ := key.2 p.1 p.2 h1
    exact ⟨h2, l, hl, e⟩
  | none =>
    rcases h with h | ⟨h3, x, r, h, hbad⟩
    · exact .inl (key.1 h)
    · obtain ⟨l, hl, e, hst⟩ := key.2 x r h
      refine .inr ⟨by omega, x, r, ?_, hbad⟩
      cases r with
      | nil => cases hbad
      | cons t s =>
        obtain ⟨b, hb, hb3⟩ := hbad
        rw [e, Loop_cons, hb]
        have := hst t s rfl b hb
        dsimp only
        rw [if_pos (by omega)]
/-- one stops -/
theorem loop_stop {m l : Int} {x : Ex} {r : List Tok} (hs : Stops m r) : Loop m l x r = some (x, r) := by
  cases r with
  | nil => rfl
  | cons t s =>
    rw [Loop_cons]
    cases hb : lv t with
    | none => rfl
    | some b => dsimp only; rw [if_pos (.inl (hs b hb))]
theorem loop_go {m l : Int} {x : Ex} {t : Tok} {r : List Tok} {b : Int × Int} (hb : lv t = some b) (h1 : b.2 = m) (h2 : m ≤ l) : Loop m l x (t :: r) = (Two (m + 1) r).bind fun p => Loop m (if m = 3 then 2 else m) (op2 b.1 x p.1) p.2 := by
  rw [Loop_cons, hb]
  dsimp only
  rw [if_neg (by omega), h1]
/-- a second one that compares -/
theorem loop_bad {l : Int} {x : Ex} {t : Tok} {r : List Tok} {b : Int × Int} (hb : lv t = some b) (h1 : b.2 = 3) (h2 : l = 2) : Rel 3 none (Loop 3 l x (t :: r)) := by
  refine .inr ⟨by omega, x, t :: r, ?_, b, hb, h1⟩
  rw [Loop_cons, hb]
  dsimp only
  rw [if_pos (by omega)]
/-- the right side is refused -/
theorem loop_none {m l : Int} {x : Ex} {t : Tok} {r : List Tok} {b : Int × Int} (hm : 1 ≤ m) (hb : lv t = some b) (h1 : b.2 = m) (h2 : m ≤ l) (h : Rel (m + 1) none (Two (m + 1) r)) : Rel m none (Loop m l x (t :: r)) := by
  rw [loop_go hb h1 h2]
  rcases h with h | ⟨h3, y, s, h, hbad⟩
  · rw [h]; exact .inl rfl
  · rw [h]
    refine .inr ⟨by omega, op2 b.1 x y, s, ?_, hbad⟩
    cases s with
    | nil => cases hbad
    | cons t' s' =>
      obtain ⟨c, hc, hc3⟩ := hbad
      simp only [Option.bind_some]
      rw [Loop_cons, hc]
      dsimp only
      rw [if_pos (by right; rw [if_neg (by omega)]; omega)]
/-- one that compares is no closing bracket -/
theorem bad_sign {r : List Tok} (h : BadH r) : sign [41] r = none := by
  cases r with
  | nil => cases h
  | cons t s =>
    obtain ⟨b, hb, h3⟩ := h
    unfold lv at hb
    split at hb
    · rename_i hk
      simp only [sign]
      rw [if_neg]
      rintro ⟨_, e⟩
      rw [e] at hb
      have : by_ [41] 0 = none := by decide
      rw [this] at hb
      cases hb
    · cases hb
/-- in brackets -/
theorem rel_close {α : Type} {o : Option (Ex × List Tok)} {ts : List Tok} (h : Rel 1 o (Two 1 ts)) (f : Ex → List Tok → α) : ((Two 1 ts).bind fun p => (sign [41] p.2).map fun q => f p.1 q) = o.bind fun p => (sign [41] p.2).map fun q => f p.1 q := by
  cases o with
  | some p => rw [h.1]
  | none =>
    rcases h with h | ⟨_, x, r, h, hb⟩
    · rw [h]
    · rw [h]; simp [bad_sign hb]
/-- all of it -/
def ofO : Option (Ex × List Tok) → Option Ex
  | some (e, []) => some e
  | _ => none
theorem whole_eq (ts : List Tok) : whole ts = ofO (Two 1 ts) := by
  unfold whole Two ofO
  rfl
theorem ofO_rel {m : Int} {o o' : Option (Ex × List Tok)} (h : Rel m o o') : ofO o' = ofO o := by
  cases o with
  | some p => rw [h.1]
  | none =>
    rcases h with h | ⟨_, x, r, h, hb⟩
    · rw [h]
    · rw [h]
      cases r with
      | nil => cases hb
      | cons t s => rfl
theorem rel_whole {o : Option (Ex × List Tok)} {ts : List Tok} (h : Rel 1 o (Two 1 ts)) : whole ts = ofO o := by
  rw [whole_eq, ofO_rel h]
/-- a prefix or an atom, at the level behind the last -/
theorem rel_six (ts : List Tok) (hl : ∀ p, One ts = some p → True) : Two 6 ts = One ts := by
  rw [Two_eq]
  cases One ts with
  | none => rfl
  | some p =>
    refine loop_stop ?_
    cases hp : p.2 with
    | nil => trivial
    | cons t s => exact fun b hb => by have := lv_much hb; omega
end Px

end
section
namespace Va
open Go
set_option linter.unusedVariables false

/-! ### texts of numbers -/
def undec : List UInt8 → Nat → Nat
  | [], a => a
  | c :: l, a => undec l (a * 10 + (c.toNat - 48))
theorem undec_app : ∀ (l m : List UInt8) (a : Nat), undec (l ++ m) a = undec m (undec l a)
  | [], _, _ => rfl
  | c :: l, m, a => undec_app l m _
theorem undec_dec : ∀ u : Nat, undec (Lib.decDigits u) 0 = u := by
  intro u
  induction u using Nat.strongRecOn with
  | _ u ih =>
    rw [Lib.decDigits]
    by_cases h : u < 10
    · rw [dif_pos h]
      simp only [undec, UInt8.toNat_ofNat']
      omega
    · rw [dif_neg h, undec_app, ih (u / 10) (by omega)]
      simp only [undec, UInt8.toNat_ofNat']
      omega
theorem dec_head : ∀ u : Nat, ∃ c l, Lib.decDigits u = c :: l ∧ 48 ≤ c.toNat ∧ c.toNat ≤ 57 := by
  intro u
  induction u using Nat.strongRecOn with
  | _ u ih =>
    rw [Lib.decDigits]
    by_cases h : u < 10
    · rw [dif_pos h]
      exact ⟨_, _, rfl, by simp only [UInt8.toNat_ofNat']; omega, by simp only [UInt8.toNat_ofNat']; omega⟩
    · obtain ⟨c, l, e, h1, h2⟩ := ih (u / 10) (by omega)
      rw [dif_neg h, e]
      exact ⟨c, _, rfl, h1, h2⟩
theorem itoa_inj {a b : Int} (h : Lib.itoa a = Lib.itoa b) : a = b := by
  unfold Lib.itoa at h
  by_cases ha : a < 0 <;> by_cases hb : b < 0
  · rw [if_pos ha, if_pos hb, List.cons.injEq] at h
    have := congrArg (fun l => undec l 0) h.2
    simp only [undec_dec] at this
    omega
  · rw [if_pos ha, if_neg hb] at h
    obtain ⟨c, l, e, h1, h2⟩ := dec_head b.toNat
    rw [e, List.cons.injEq] at h
    rw [← h.1] at h1
    exact absurd h1 (by decide)
  · rw [if_neg ha, if_pos hb] at h
    obtain ⟨c, l, e, h1, h2⟩ := dec_head a.toNat
    rw [e, List.cons.injEq] at h
    rw [h.1] at h1
    exact absurd h1 (by decide)
  · rw [if_neg ha, if_neg hb] at h
    have := congrArg (fun l => undec l 0) h
    simp only [undec_dec] at this
    omega
theorem itoa_head (a : Int) : ∃ c l, Lib.itoa a = c :: l ∧ (c.toNat = 45 ∨ (48 ≤ c.toNat ∧ c.toNat ≤ 57)) := by
  unfold Lib.itoa
  by_cases ha : a < 0
  · rw [if_pos ha]; exact ⟨_, _, rfl, .inl rfl⟩
  · rw [if_neg ha]
    obtain ⟨c, l, e, h1, h2⟩ := dec_head a.toNat
    exact ⟨c, l, e, .inr ⟨h1, h2⟩⟩

/-! ### what may be -/
theorem may_none : may none = true := by decide
theorem may_num (n : Int) : may (num n) = true := by simp [may, num]
theorem may_truth (b : Bool) : may (truth b) = true := by cases b <;> decide
theorem may_told (x : Int) : may (told x).1 = true := by unfold told; split <;> first | exact may_num _ | exact may_none
theorem may_numbers (op a b : Int) : may (numbers op a b).1 = true := by
  unfold numbers
  repeat' split
  all_goals first | exact may_told _ | exact may_none | exact may_num _
theorem app_size (s t : ByteArray) : (s ++ t).size = s.size + t.size := ByteArray.size_append
theorem may_sum {s t : ByteArray} (hs : plain s = true) (ht : plain t = true) : may (sum s t).1 = true := by
  unfold sum
  split
  · exact may_none
  · rename_i h
    simp only [may, text, plain] at *
    simp only [Bool.and_eq_true, decide_eq_true_eq] at hs ht
    simp only [ByteArray.data_append, Array.toList_append, List.all_append, hs.1, ht.1]
    simp only [app_size]
    simp
    omega
theorem may_plain {v : V} (h : may v = true) (k : v.k = 3) : plain v.t = true := by
  simp only [may, k] at h; simpa using (Bool.and_eq_true _ _ ▸ h).2
theorem may_two (op : Int) {a b : V} (ha : may a = true) (hb : may b = true) : may (two op a b).1 = true := by
  unfold two
  repeat' split
  all_goals first
    | exact may_none
    | exact may_truth _
    | exact may_numbers _ _ _
    | skip
  rename_i hf _ _ _ _ _ _ hk
  refine may_sum (may_plain ha hk) (may_plain hb ?_)
  have : fits op a.k b.k = true := by simpa using hf
  simp only [fits, Bool.and_eq_true, beq_iff_eq] at this
  rw [← this.1]; exact hk
theorem may_one (op : Int) (v : V) : may (one op v).1 = true := by
  unfold one
  repeat' split
  all_goals first | exact may_none | exact may_truth _ | exact may_told _ | exact may_num _
theorem told_kind {x : Int} : (told x).2 = 0 ∧ (told x).1.k = 1 ∨ (told x).2 ≠ 0 ∧ (told x).1 = none := by
  unfold told; split <;> simp [num]
theorem numbers_kind (op a b : Int) : (numbers op a b).2 = 0 ∧ (numbers op a b).1.k = 1 ∨ (numbers op a b).2 ≠ 0 ∧ (numbers op a b).1 = none := by
  unfold numbers
  repeat' split
  all_goals first | exact told_kind | (right; exact ⟨by decide, rfl⟩) | (left; exact ⟨rfl, rfl⟩)
theorem two_kind (op : Int) (a b : V) : (two op a b).2 = 0 ∧ (two op a b).1.k ≠ 0 ∨ (two op a b).2 ≠ 0 ∧ (two op a b).1 = none := by
  unfold two
  repeat' split
  all_goals first
    | (right; exact ⟨by decide, rfl⟩)
    | (left; refine ⟨rfl, ?_⟩; show (2 : Int) ≠ 0; decide)
    | skip
  · unfold sum
    split
    · right; exact ⟨by decide, rfl⟩
    · left; refine ⟨rfl, ?_⟩; show (3 : Int) ≠ 0; decide
  · rcases numbers_kind op a.n b.n with h | h
    · left; exact ⟨h.1, by rw [h.2]; decide⟩
    · right; exact h
theorem one_kind (op : Int) (v : V) : (one op v).2 = 0 ∨ (one op v).2 ≠ 0 ∧ (one op v).1 = none := by
  unfold one
  repeat' split
  all_goals first | (right; exact ⟨by decide, rfl⟩) | (left; rfl) | skip
  rcases told_kind (x := 0 - v.n) with h | h
  · exact .inl h.1
  · exact .inr h

/-! ### unlike values have unlike texts -/
def shownL (v : V) : List UInt8 := (shown v).data.toList
theorem shownL_0 {v : V} (h : v.k = 0) : shownL v = [110, 111, 110, 101] := by simp [shownL, shown, h]
theorem shownL_1 {v : V} (h : v.k = 1) : shownL v = Lib.itoa v.n := by simp [shownL, shown, h]
theorem shownL_20 {v : V} (h : v.k = 2) (k : v.n = 0) : shownL v = [110, 111] := by simp [shownL, shown, h, k]
theorem shownL_21 {v : V} (h : v.k = 2) (k : v.n = 1) : shownL v = [121, 101, 115] := by simp [shownL, shown, h, k]
theorem shownL_3 {v : V} (h : v.k = 3) : shownL v = 39 :: (v.t.data.toList ++ [39]) := by simp [shownL, shown, h]
/-- the ways in which a value may be -/
theorem may_ways {v : V} (h : may v = true) : (v.k = 0 ∧ v.n = 0 ∧ v.t.data.toList = []) ∨ (v.k = 1 ∧ v.t.data.toList = []) ∨ (v.k = 2 ∧ v.n = 0 ∧ v.t.data.toList = []) ∨ (v.k = 2 ∧ v.n = 1 ∧ v.t.data.toList = []) ∨ (v.k = 3 ∧ v.n = 0) := by
  unfold may at h
  split at h
  · left; rename_i k; simp at h; exact ⟨k, h.1, by simpa using h.2⟩
  split at h
  · right; left; rename_i k; simp at h; exact ⟨k, by simpa using h⟩
  split at h
  · rename_i k; simp at h
    rcases h.1 with e | e
    · right; right; left; exact ⟨k, e, by simpa using h.2⟩
    · right; right; right; left; exact ⟨k, e, by simpa using h.2⟩
  split at h
  · right; right; right; right; rename_i k; simp at h; exact ⟨k, h.1⟩
  · cases h
theorem v_ext {a b : V} (h1 : a.k = b.k) (h2 : a.n = b.n) (h3 : a.t.data.toList = b.t.data.toList) : a = b := by
  obtain ⟨_, _, ⟨⟨l⟩⟩⟩ := a; obtain ⟨_, _, ⟨⟨m⟩⟩⟩ := b
  simp at h1 h2 h3; subst h1 h2 h3; rfl
theorem shown_inj {a b : V} (ha : may a = true) (hb : may b = true) (h : shownL a = shownL b) : a = b := by
  have hi := itoa_head a.n
  have hj := itoa_head b.n
  have no : ∀ (n : Int) (d : UInt8) (l : List UInt8), d.toNat ≠ 45 → ¬ (48 ≤ d.toNat ∧ d.toNat ≤ 57) → Lib.itoa n ≠ d :: l := fun n d l h1 h2 e => by
    obtain ⟨c, m, e2, h3⟩ := itoa_head n
    rw [e2, List.cons.injEq] at e
    rw [e.1] at h3
    rcases h3 with h3 | h3
    · exact h1 h3
    · exact h2 h3
  rcases may_ways ha with ⟨k, n, t⟩ | ⟨k, t⟩ | ⟨k, n, t⟩ | ⟨k, n, t⟩ | ⟨k, n⟩ <;> rcases may_ways hb with ⟨k', n', t'⟩ | ⟨k', t'⟩ | ⟨k', n', t'⟩ | ⟨k', n', t'⟩ | ⟨k', n'⟩
  all_goals first | rw [shownL_0 k] at h | rw [shownL_1 k] at h | rw [shownL_20 k n] at h | rw [shownL_21 k n] at h | rw [shownL_3 k] at h
  all_goals first | rw [shownL_0 k'] at h | rw [shownL_1 k'] at h | rw [shownL_20 k' n'] at h | rw [shownL_21 k' n'] at h | rw [shownL_3 k'] at h
  all_goals first
    | exact v_ext (k.trans k'.symm) (n.trans n'.symm) (t.trans t'.symm)
    | exact v_ext (k.trans k'.symm) (itoa_inj h) (t.trans t'.symm)
    | (exact absurd h (by decide))
    | (exact absurd h (no _ _ _ (by decide) (by decide)))
    | (exact absurd h.symm (no _ _ _ (by decide) (by decide)))
    | (simp at h; done)
    | skip
  refine v_ext (k.trans k'.symm) (n.trans n'.symm) ?_
  simpa using h
def eqV (a b : V) : Bool := (a.k == b.k) && ((a.n == b.n) && (a.t.data.toList == b.t.data.toList))
theorem shown_iff {a b : V} (ha : may a = true) (hb : may b = true) : ((shown a).data.toList == (shown b).data.toList) = eqV a b := by
  rw [Bool.eq_iff_iff]
  simp only [beq_iff_eq, eqV, Bool.and_eq_true]
  constructor
  · intro h
    have := shown_inj ha hb h
    subst this; exact ⟨rfl, rfl, rfl⟩
  · rintro ⟨h1, h2, h3⟩
    rw [v_ext h1 h2 h3]
end Va

end
section
namespace Lx
open Go
set_option linter.unusedVariables false
set_option linter.unusedSimpArgs false
/-! ### numbers -/
theorem val_app (l m : Bs) (a : Nat) : val a (l ++ m) = val (val a l) m := by unfold val; rw [List.foldl_append]
theorem val_dec : ∀ u : Nat, val 0 (Lib.decDigits u) = u := by
  intro u
  induction u using Nat.strongRecOn with
  | _ u ih =>
    rw [Lib.decDigits]
    by_cases h : u < 10
    · rw [dif_pos h]
      simp only [val_cons, val_nil, dig, UInt8.toNat_ofNat']
      omega
    · rw [dif_neg h, val_app, ih (u / 10) (by omega)]
      simp only [val_cons, val_nil, dig, UInt8.toNat_ofNat']
      omega
theorem dec_digits : ∀ u : Nat, ∀ c ∈ Lib.decDigits u, digit c = true := by
  intro u
  induction u using Nat.strongRecOn with
  | _ u ih =>
    rw [Lib.decDigits]
    by_cases h : u < 10
    · rw [dif_pos h]
      intro c hc
      obtain rfl := List.mem_singleton.1 hc
      rw [digit_iff]; simp only [UInt8.toNat_ofNat']; omega
    · rw [dif_neg h]
      intro c hc
      rcases List.mem_append.1 hc with hc | hc
      · exact ih (u / 10) (by omega) c hc
      · obtain rfl := List.mem_singleton.1 hc
        rw [digit_iff]; simp only [UInt8.toNat_ofNat']; omega
theorem dec_zero : ∀ u : Nat, (Lib.decDigits u).head? = some 48 → (Lib.decDigits u).length = 1 := by
  intro u
  induction u using Nat.strongRecOn with
  | _ u ih =>
    intro h0
    by_cases h : u < 10
    · rw [Lib.decDigits, dif_pos h]; rfl
    · rw [Lib.decDigits, dif_neg h] at h0
      obtain ⟨c, l, e, _, _⟩ := Va.dec_head (u / 10)
      rw [e] at h0
      have h1 := ih (u / 10) (by omega) (by rw [e]; simpa using h0)
      -- one digit that is 0: the number is 0
      rw [e] at h1
      have h2 := val_dec (u / 10)
      have hc : c = 48 := by simpa using h0
      have hl : l = [] := by simpa using h1
      rw [e, hc, hl] at h2
      simp only [val_cons, val_nil, dig] at h2
      exfalso
      have : (48 : UInt8).toNat = 48 := rfl
      omega
theorem parse_val {l : Bs} (h0 : l ≠ []) (h : ∀ c ∈ l, digit c = true) (hv : val 0 l < 2 ^ 63) : Lib.parseIntB 64 l = .ok (val 0 l : Int) := by
  cases l with
  | nil => exact absurd rfl h0
  | cons c r =>
    have hc := digit_iff.1 (h c (List.mem_cons_self ..))
    have h43 : ¬ c.toNat = 43 := by omega
    have h45 : ¬ c.toNat = 45 := by omega
    simp only [Lib.parseIntB, h43, h45, or_self, if_false, Lib.parseUintB, reduceCtorEq, not_false_eq_true, true_and, false_and]
    rcases uint_val (c :: r) 0 h with e | ⟨e, hv'⟩
    · rw [e]
      simp only
      rw [if_neg (by omega)]
    · omega
theorem num_tok {u : Nat} (h : u < 2 ^ 63) : numOk (Lib.decDigits u) = true ∧ Px.numOf (Lib.decDigits u) = (u : Int) := by
  obtain ⟨c, l, e, _, _⟩ := Va.dec_head u
  have h0 : Lib.decDigits u ≠ [] := by rw [e]; simp
  have hd := dec_digits u
  have hv := val_dec u
  have hp := parse_val h0 hd (by rw [hv]; exact h)
  refine ⟨?_, by unfold Px.numOf; rw [hp, hv]⟩
  unfold numOk
  rw [hp, run_iff.2 hd]
  have hz : ((Lib.decDigits u).length == 1 || !((Lib.decDigits u).head? == some 48)) = true := by
    cases hh : ((Lib.decDigits u).head? == some 48)
    · simp
    · rw [dec_zero u (by simpa using hh)]; simp
  rw [hz]; simp [parsed]
theorem num_nonneg {l : Bs} (h : numOk l = true) : 0 ≤ Px.numOf l := by
  unfold numOk at h
  simp only [Bool.and_eq_true, beq_iff_eq] at h
  obtain ⟨hp, hr, -⟩ := h
  have hd := run_iff.1 hr
  have h0 : l ≠ [] := by rintro rfl; rw [not_parsed_nil] at hp; cases hp
  rw [parsed_val h0 hd, decide_eq_true_eq] at hp
  unfold Px.numOf
  rw [parse_val h0 hd hp]
  simp
/-! ### parts put together -/
/-- a text that does not begin with a space, nor with =; and its parts -/
def Lexd (s : Bs) (ts : List Tok) : Prop := (∃ c r, s = c :: r ∧ c ≠ 32 ∧ c ≠ 61) ∧ lexT (s.length + 1) s = some ts
theorem Lexd.trim {s : Bs} {ts : List Tok} (h : Lexd s ts) : Lx.trim s = s := by
  obtain ⟨⟨c, r, rfl, hc, _⟩, _⟩ := h
  exact trim_idem hc
theorem Lexd.open {s : Bs} {ts : List Tok} (h : Lexd s ts) : Lexd (40 :: s) (lp :: ts) := by
  refine ⟨⟨40, s, rfl, by decide, by decide⟩, ?_⟩
  rw [lexT_open, h.trim, List.length_cons, h.2]; rfl
theorem Lexd.close {s : Bs} {ts : List Tok} (h : Lexd s ts) : Lexd (s ++ [41]) (ts ++ [rp]) := by
  have e := lexT_ap4 _ _ _ h.2 [] ((s ++ [41]).length + 2) 3 (by simp) (by simp)
  rw [trim_ap4, h.trim] at e
  obtain ⟨⟨c, r, rfl, hc, hd⟩, h2⟩ := h
  refine ⟨⟨c, r ++ [41], rfl, hc, hd⟩, ?_⟩
  rw [lexT_fuel _ (((c :: r) ++ [41]).length + 2) _ (by omega) (by omega), e, lexT_close]
  rfl
theorem Lexd.brack {s : Bs} {ts : List Tok} (h : Lexd s ts) : Lexd (40 :: (s ++ [41])) (lp :: (ts ++ [rp])) := h.close.open
theorem Lexd.minus {s : Bs} {ts : List Tok} (h : Lexd s ts) : Lexd (45 :: s) (⟨4, [45]⟩ :: ts) := by
  refine ⟨⟨45, s, rfl, by decide, by decide⟩, ?_⟩
  rw [lexT_cons]
  have e : first (45 :: s) = (⟨4, [45]⟩, 1) := by
    rw [first_cons, if_neg (by decide), if_neg (by decide), if_neg (by decide)]
    have : (signs.find? fun x => x.isPrefixOf (45 :: s)) = some [45] := by simp [signs, List.find?, List.isPrefixOf]
    rw [this]; rfl
  rw [e]
  show (lexT _ (Lx.trim s)).map _ = _
  rw [h.trim, List.length_cons, h.2]; rfl
theorem Lexd.bang {s : Bs} {ts : List Tok} (h : Lexd s ts) : Lexd (33 :: s) (⟨4, [33]⟩ :: ts) := by
  refine ⟨⟨33, s, rfl, by decide, by decide⟩, ?_⟩
  rw [lexT_cons]
  have e : first (33 :: s) = (⟨4, [33]⟩, 1) := by
    obtain ⟨⟨c, r, rfl, hc, hd⟩, h2⟩ := h
    rw [first_cons, if_neg (by decide), if_neg (by decide), if_neg (by decide)]
    have h61 : ((61 : UInt8) == c) = false := beq_eq_false_iff_ne.2 fun e => hd e.symm
    have : (signs.find? fun x => x.isPrefixOf (33 :: c :: r)) = some [33] := by simp [signs, List.find?, List.isPrefixOf, h61]
    rw [this]; rfl
  rw [e]
  show (lexT _ (Lx.trim s)).map _ = _
  rw [h.trim, List.length_cons, h.2]; rfl
theorem Lexd.len {s : Bs} {ts : List Tok} (h : Lexd s ts) : Lexd ([108, 101, 110, 40] ++ s ++ [41]) (⟨2, [108, 101, 110]⟩ :: lp :: (ts ++ [rp])) := by
  have h := h.brack
  refine ⟨⟨108, _, rfl, by decide, by decide⟩, ?_⟩
  have e0 : [108, 101, 110, 40] ++ s ++ [41] = 108 :: ([101, 110] ++ (40 :: (s ++ [41]))) := by simp
  rw [e0, lexT_cons]
  have e : first (108 :: ([101, 110] ++ (40 :: (s ++ [41])))) = (⟨2, [108, 101, 110]⟩, 3) := by
    rw [first_cons, if_neg (by decide), if_pos (by decide)]
    have : run behind (108 :: ([101, 110] ++ 40 :: (s ++ [41]))) = 3 := by
      rw [run_cons_t (by decide), List.cons_append, run_cons_t (by decide), List.cons_append, run_cons_t (by decide), List.nil_append, run_cons_f (by decide)]
    rw [this]; rfl
  rw [e]
  have e3 : may 2 [108, 101, 110] = true := by decide
  simp only [e3, Bool.not_true, Bool.or_false]
  rw [if_neg (by decide)]
  have e4 : (108 :: ([101, 110] ++ (40 :: (s ++ [41])))).drop 3 = 40 :: (s ++ [41]) := rfl
  rw [e4, h.trim, lexT_fuel _ ((40 :: (s ++ [41])).length + 1) _ (by simp) (by omega), h.2]; rfl
theorem Lexd.app {s t : Bs} {a b : List Tok} (h : Lexd s a) (k : Lx.trim t = t) (h2 : lexT (t.length + 1) t = some b) : Lexd (s ++ 32 :: t) (a ++ b) := by
  have e := lexT_app _ _ _ h.2 t ((s ++ 32 :: t).length + 1) (t.length + 1) (by simp) (by omega)
  rw [trim_trim, h.trim, k, h2] at e
  obtain ⟨⟨c, r, rfl, hc, hd⟩, _⟩ := h
  refine ⟨⟨c, r ++ 32 :: t, rfl, hc, hd⟩, ?_⟩
  rw [List.cons_append, trim_idem hc] at e
  exact e
theorem Lexd.one {t : Tok} (h : may t.k t.t = true) (h61 : ∀ r, text t ≠ 61 :: r) : Lexd (text t) [t] := by
  obtain ⟨c, s, e, hc⟩ := text_head h
  refine ⟨⟨c, s, e, hc, fun h => h61 s (by rw [e, h])⟩, ?_⟩
  have := lexT_text h (text t).length (r := []) (.inl rfl)
  rw [List.append_nil] at this
  rw [this, e]; rfl
theorem sign_lex : ∀ b ∈ Px.binds, lexT (b.1.length + 1) b.1 = some [⟨4, b.1⟩] ∧ Lx.trim b.1 = b.1 := by
  intro b hb
  simp only [Px.binds, List.mem_cons, List.not_mem_nil, or_false] at hb
  rcases hb with rfl | rfl | rfl | rfl | rfl | rfl | rfl | rfl | rfl | rfl | rfl <;> exact ⟨by kernel_rfl, by decide⟩
theorem Lexd.two {s t : Bs} {a c : List Tok} (h : Lexd s a) (k : Lexd t c) {b : Bs × Int × Int} (hb : b ∈ Px.binds) : Lexd (s ++ [32] ++ b.1 ++ [32] ++ t) (a ++ ⟨4, b.1⟩ :: c) := by
  obtain ⟨e1, e2⟩ := sign_lex b hb
  have hl := lexT_app _ _ _ e1 t ((b.1 ++ 32 :: t).length + 1) (t.length + 1) (by simp) (by omega)
  rw [trim_trim, e2, k.trim, k.2] at hl
  have et : Lx.trim (b.1 ++ 32 :: t) = b.1 ++ 32 :: t := by
    simp only [Px.binds, List.mem_cons, List.not_mem_nil, or_false] at hb
    rcases hb with rfl | rfl | rfl | rfl | rfl | rfl | rfl | rfl | rfl | rfl | rfl <;> exact trim_idem (by decide)
  rw [et] at hl
  have := h.app et hl
  simpa using this
end Lx
namespace Px
open Go
open Lx hiding none run first may
set_option linter.unusedVariables false
set_option linter.unusedSimpArgs false
/-- how much may still come behind a tree that was read -/
def lim0 (e : Ex) : Int := if 6 ≤ much e then 7 else if much e = 3 then 2 else much e
theorem by_mem {s : Bs} {o : Int} {b : Bs × Int × Int} (h : by_ s o = some b) : b ∈ binds := List.mem_of_find?_eq_some h
theorem by_none {o : Int} {b : Bs × Int × Int} (h : by_ [110, 111, 110, 101] o = some b) : b.2.1 = o := by
  have h1 := List.find?_some h
  have h2 := by_mem h
  have : ∀ b ∈ binds, (b.1 == [110, 111, 110, 101]) = false := by decide
  rw [this b h2, Bool.false_or] at h1
  simpa using h1
theorem binds_much : ∀ b ∈ binds, 1 ≤ b.2.2 ∧ b.2.2 ≤ 5 := by decide
theorem binds_lv : ∀ b ∈ binds, lv ⟨4, b.1⟩ = some b.2 := by
  intro b hb
  simp only [binds, List.mem_cons, List.not_mem_nil, or_false] at hb
  rcases hb with rfl | rfl | rfl | rfl | rfl | rfl | rfl | rfl | rfl | rfl | rfl <;> rfl
theorem much_pos (e : Ex) : 1 ≤ much e := by
  unfold much
  split
  · rename_i b h; exact (binds_much b (by_mem h)).1
  · split <;> decide
theorem lv_rp : lv rp = none := by decide
theorem stops_rp (m : Int) (u : List Tok) : Stops m (rp :: u) := fun b hb => by rw [lv_rp] at hb; cases hb
theorem sign_rp (u : List Tok) : sign [41] (rp :: u) = some u := by simp [sign, rp]
/-- a tree's parts are read as that tree, whatever stands behind -/
def Reads (e : Ex) (ts : List Tok) : Prop := (6 ≤ much e → ∀ u, One (ts ++ u) = some (e, u)) ∧ ∀ m u r, 1 ≤ m → m ≤ much e → Stops (much e + 1) u → Loop m (lim0 e) e u = r → Two m (ts ++ u) = r
theorem reads_one {e : Ex} {ts : List Tok} (h6 : 6 ≤ much e) (h : ∀ u, One (ts ++ u) = some (e, u)) : Reads e ts := by
  refine ⟨fun _ => h, fun m u r _ hm hs hr => ?_⟩
  rw [Two_eq, h u]
  unfold lim0 at hr
  rw [if_pos h6] at hr
  exact hr
/-- in brackets, if it binds less than is needed -/
theorem reads_in {e : Ex} {ts : List Tok} {s : Bs} (hl : Lexd s ts) (h : Reads e ts) (need : Int) : ∃ us, Lexd (within s (much e) need) us ∧ (6 ≤ need → ∀ u, One (us ++ u) = some (e, u)) ∧
    ∃ l, (need ≠ 3 → need ≤ l ∨ 6 ≤ need) ∧ ∀ m u r, 1 ≤ m → m ≤ need → Stops (need + 1) u → Loop m l e u = r → Two m (us ++ u) = r := by
  unfold within
  by_cases c : need ≤ much e
  · rw [if_pos c]
    refine ⟨ts, hl, fun h6 => h.1 (by omega), lim0 e, fun h3 => ?_, fun m u r h1 hm hs hr => h.2 m u r h1 (by omega) (hs.up (by omega)) hr⟩
    unfold lim0
    split
    · omega
    · split <;> omega
  · rw [if_neg c]
    have ho : ∀ u, One (lp :: (ts ++ [rp]) ++ u) = some (e, u) := fun u => by
      rw [List.cons_append, One_cons, if_pos (by decide), if_neg (by decide), if_neg (by decide), if_pos (by decide)]
      have := h.2 1 (rp :: u) (some (e, rp :: u)) (Int.le_refl _) (much_pos e) (stops_rp _ _) (loop_stop (stops_rp _ _))
      rw [List.append_assoc]
      show (Two 1 (ts ++ (rp :: u))).bind _ = _
      rw [this]
      simp only [Option.bind_some, sign_rp, Option.map_some]
    refine ⟨lp :: (ts ++ [rp]), hl.brack, fun _ => ho, 7, fun _ => ?_, fun m u r h1 hm hs hr => ?_⟩
    · omega
    · rw [Two_eq, ho u]; exact hr
theorem word_name {s : Bs} (h : word s = true) : ¬ s = [121, 101, 115] ∧ ¬ s = [110, 111] ∧ ¬ s = [108, 101, 110] ∧ Lx.may 2 s = true := by
  unfold word at h
  simp only [Bool.and_eq_true, Bool.not_eq_true', beq_eq_false_iff_ne, ne_eq] at h
  exact ⟨h.1.1, h.1.2, h.2.1, h.2.2⟩
theorem text_no61 {t : Tok} (h : Lx.may t.k t.t = true) (h4 : t.k ≠ 4) : ∀ r, Lx.text t ≠ 61 :: r := by
  intro r hr
  obtain ⟨k, t⟩ := t
  simp only at h h4
  unfold Lx.text at hr
  unfold Lx.may at h
  simp only at hr
  by_cases h1 : k = 1
  · subst h1
    simp only [if_true, show ¬ ((1 : Int) = 3) by decide, if_false] at h hr
    subst hr
    unfold numOk at h
    simp only [Bool.and_eq_true, beq_iff_eq] at h
    have := run_all h.2.1 61 (List.mem_cons_self ..)
    revert this; decide
  · rw [if_neg h1] at h
    by_cases h2 : k = 2
    · subst h2
      simp only [if_true, show ¬ ((2 : Int) = 3) by decide, if_false] at h hr
      subst hr
      unfold wordOk at h
      simp only [Bool.and_eq_true] at h
      revert h; intro h
      have := h.1
      revert this; decide
    · rw [if_neg h2] at h
      by_cases h3 : k = 3
      · subst h3
        simp only [if_true] at hr
        injection hr with h5; revert h5; decide
      · rw [if_neg h3, if_neg h4] at h; cases h
/-- what may be asked of a leaf -/
theorem lit_ways {k n : Int} {t : Bs} (h : Va.may ⟨k, n, ⟨t.toArray⟩⟩ = true) (h0 : ¬ k = 0) : (k = 1 ∧ t = []) ∨ (k = 2 ∧ n = 0 ∧ t = []) ∨ (k = 2 ∧ n = 1 ∧ t = []) ∨ (k = 3 ∧ n = 0 ∧ quoteOk t = true) := by
  unfold Va.may at h
  simp only [h0, if_false] at h
  split at h
  · rename_i k1; exact .inl ⟨k1, by simpa using h⟩
  · split at h
    · rename_i k2
      simp only [Bool.and_eq_true, Bool.or_eq_true, beq_iff_eq] at h
      rcases h.1 with h1 | h1
      · exact .inr (.inl ⟨k2, h1, h.2⟩)
      · exact .inr (.inr (.inl ⟨k2, h1, h.2⟩))
    · split at h
      · rename_i k3
        simp only [Bool.and_eq_true, beq_iff_eq] at h
        refine .inr (.inr (.inr ⟨k3, h.1, ?_⟩))
        have h2 := h.2
        unfold Va.plain at h2
        simp only [Bool.and_eq_true, decide_eq_true_eq, List.all_eq_true] at h2
        unfold quoteOk
        have hsz : (⟨t.toArray⟩ : ByteArray).size = t.length := by simp [ByteArray.size]
        rw [hsz] at h2
        simp only [Bool.and_eq_true, beq_iff_eq, decide_eq_true_eq]
        refine ⟨run_iff.2 fun c hc => ?_, by omega⟩
        have := h2.1 c hc
        unfold Va.okc at this
        unfold Lx.quoted
        simp only [Bool.not_eq_true', Bool.or_eq_false_iff, decide_eq_false_iff_not, Bool.and_eq_true, decide_eq_true_eq, beq_eq_false_iff_ne] at this ⊢
        omega
      · cases h
theorem back : ∀ (n : Nat) (e : Ex), may n e = true → thin e = true → ∃ ts, Lexd (show_ n e) ts ∧ Reads e ts
  | 0, e, h, _ => by simp [may] at h
  | n + 1, .mk o k nn t nm l, h, hth => by
    simp only [may, Bool.and_eq_true, List.all_eq_true] at h
    obtain ⟨hh, hargs⟩ := h
    simp only [Ex.args] at hargs
    simp only [thin, Bool.and_eq_true, decide_eq_true_eq] at hth
    have harg : ∀ i, i < l.length → may n (arg (.mk o k nn t nm l) i) = true ∧ thin (arg (.mk o k nn t nm l) i) = true := fun i hi => by
      have : arg (.mk o k nn t nm l) i = l[i] := by simp [arg, Ex.args, List.getD, List.getElem?_eq_getElem hi]
      rw [this]
      exact ⟨hargs _ (List.getElem_mem hi), thin_mem hth.2 (List.getElem_mem hi)⟩
    simp only [head, Bool.and_eq_true, Bool.or_eq_true, decide_eq_true_eq, beq_iff_eq, Bool.not_eq_true', beq_eq_false_iff_ne] at hh
    obtain ⟨⟨o1, o16, hlen⟩, hv, hw, hnm, hlit⟩ := hh
    by_cases c1 : o = 1
    · -- a literal
      subst c1
      have hnm : nm = [] := by rcases hnm with h | h; · exact absurd h (by decide)
                               · exact h
      have hl0 : l = [] := List.length_eq_zero_iff.1 (by rw [hlen]; rfl)
      subst hnm; subst hl0
      have hlit := hlit.resolve_left (by decide)
      obtain ⟨hm, h0, hneg⟩ := hlit
      have hmu : much (.mk 1 k nn t [] []) = 7 := rfl
      have h6 : 6 ≤ much (.mk 1 k nn t [] []) := by rw [hmu]; decide
      show ∃ ts, Lexd (Va.shown ⟨k, nn, ⟨t.toArray⟩⟩).data.toList ts ∧ _
      rcases lit_ways hm h0 with ⟨rfl, rfl⟩ | ⟨rfl, rfl, rfl⟩ | ⟨rfl, rfl, rfl⟩ | ⟨rfl, rfl, hq⟩
      · have hn : 0 ≤ nn := by
          have : ¬ nn < 0 := by simpa using hneg
          omega
        have hu : nn.toNat < 2 ^ 63 := by have := hth.1; omega
        obtain ⟨e1, e2⟩ := num_tok hu
        have es : (Va.shown ⟨1, nn, ⟨([] : Bs).toArray⟩⟩).data.toList = Lib.decDigits nn.toNat := by
          have : Lib.itoa nn = Lib.decDigits nn.toNat := by unfold Lib.itoa; rw [if_neg (by omega)]
          simp [Va.shown, this]
        rw [es]
        refine ⟨[⟨1, Lib.decDigits nn.toNat⟩], Lexd.one (t := ⟨1, Lib.decDigits nn.toNat⟩) e1 (text_no61 e1 (show ¬ (1 : Int) = 4 by decide)), reads_one h6 fun u => ?_⟩
        rw [List.cons_append, List.nil_append, One_cons, if_neg (show ¬ (1 : Int) = 4 by decide), if_pos rfl, e2]
        have : ((nn.toNat : Nat) : Int) = nn := by omega
        rw [this]; rfl
      · refine ⟨[⟨2, [110, 111]⟩], Lexd.one (t := ⟨2, [110, 111]⟩) (by decide) (text_no61 (by decide) (by decide)), reads_one h6 fun u => ?_⟩
        rw [List.cons_append, List.nil_append, One_cons, if_neg (by decide), if_neg (by decide), if_neg (by decide), if_neg (by decide), if_pos rfl]; rfl
      · refine ⟨[⟨2, [121, 101, 115]⟩], Lexd.one (t := ⟨2, [121, 101, 115]⟩) (by decide) (text_no61 (by decide) (by decide)), reads_one h6 fun u => ?_⟩
        rw [List.cons_append, List.nil_append, One_cons, if_neg (by decide), if_neg (by decide), if_neg (by decide), if_pos rfl]; rfl
      · have es : (Va.shown ⟨3, 0, ⟨t.toArray⟩⟩).data.toList = Lx.text ⟨3, t⟩ := by simp [Va.shown, Lx.text]
        rw [es]
        have hmt : Lx.may 3 t = true := by simpa [Lx.may] using hq
        refine ⟨[⟨3, t⟩], Lexd.one (t := ⟨3, t⟩) hmt (text_no61 hmt (show ¬ (3 : Int) = 4 by decide)), reads_one h6 fun u => ?_⟩
        rw [List.cons_append, List.nil_append, One_cons, if_neg (show ¬ (3 : Int) = 4 by decide), if_neg (show ¬ (3 : Int) = 1 by decide), if_pos rfl]; rfl
    · have hv := hv.resolve_left c1
      obtain ⟨rfl, rfl, rfl⟩ := hv
      by_cases c2 : o = 2
      · -- a name
        subst c2
        have hw : word nm = true := by rw [← hw]; rfl
        obtain ⟨w1, w2, w3, w4⟩ := word_name hw
        have hl0 : l = [] := List.length_eq_zero_iff.1 (by rw [hlen]; rfl)
        subst hl0
        show ∃ ts, Lexd nm ts ∧ _
        refine ⟨[⟨2, nm⟩], Lexd.one (t := ⟨2, nm⟩) w4 (text_no61 w4 (show ¬ (2 : Int) = 4 by decide)), reads_one (show (6 : Int) ≤ 7 by decide) fun u => ?_⟩
        rw [List.cons_append, List.nil_append, One_cons, if_neg (show ¬ (2 : Int) = 4 by decide), if_neg (show ¬ (2 : Int) = 1 by decide), if_neg (show ¬ (2 : Int) = 3 by decide), if_neg w1, if_neg w2, if_neg w3]; rfl
      · have hnm : nm = [] := hnm.resolve_left c2
        subst hnm
        by_cases c3 : o = 3
        · subst c3
          have hl1 : l.length = 1 := hlen
          obtain ⟨a, rfl⟩ : ∃ a, l = [a] := List.length_eq_one_iff.1 hl1
          obtain ⟨ha, hta⟩ := harg 0 (by simp)
          obtain ⟨ts, hl, hr⟩ := back n a ha hta
          obtain ⟨us, ul, u1, -⟩ := reads_in hl hr 6
          refine ⟨⟨4, [45]⟩ :: us, ul.minus, reads_one (show (6 : Int) ≤ 6 by decide) fun u => ?_⟩
          rw [List.cons_append, One_cons, if_pos rfl, if_pos rfl, u1 (by decide) u]; rfl
        · by_cases c4 : o = 4
          · subst c4
            have hl1 : l.length = 1 := hlen
            obtain ⟨a, rfl⟩ : ∃ a, l = [a] := List.length_eq_one_iff.1 hl1
            obtain ⟨ha, hta⟩ := harg 0 (by simp)
            obtain ⟨ts, hl, hr⟩ := back n a ha hta
            obtain ⟨us, ul, u1, -⟩ := reads_in hl hr 6
            refine ⟨⟨4, [33]⟩ :: us, ul.bang, reads_one (show (6 : Int) ≤ 6 by decide) fun u => ?_⟩
            rw [List.cons_append, One_cons, if_pos rfl, if_neg (by decide), if_pos rfl, u1 (by decide) u]; rfl
          · by_cases c5 : o = 16
            · subst c5
              have hl1 : l.length = 1 := hlen
              obtain ⟨a, rfl⟩ : ∃ a, l = [a] := List.length_eq_one_iff.1 hl1
              obtain ⟨ha, hta⟩ := harg 0 (by simp)
              obtain ⟨ts, hl, hr⟩ := back n a ha hta
              refine ⟨⟨2, [108, 101, 110]⟩ :: lp :: (ts ++ [rp]), hl.len, reads_one (show (6 : Int) ≤ 7 by decide) fun u => ?_⟩
              rw [List.cons_append, One_cons, if_neg (by decide), if_neg (by decide), if_neg (by decide), if_neg (by decide), if_neg (by decide), if_pos rfl]
              have := hr.2 1 (rp :: u) (some (a, rp :: u)) (Int.le_refl _) (much_pos a) (stops_rp _ _) (loop_stop (stops_rp _ _))
              have e1 : sign [40] (lp :: (ts ++ [rp]) ++ u) = some (ts ++ (rp :: u)) := by simp [sign, lp]
              rw [e1, Option.bind_some, this]
              simp only [Option.bind_some, sign_rp, Option.map_some]; rfl
            · -- an operator of two
              have hl2 : l.length = 2 := by rw [hlen]; unfold argsOf; simp [c1, c2, c3, c4, c5]
              obtain ⟨a, b, rfl⟩ : ∃ a b, l = [a, b] := by
                match l, hl2 with
                | [a, b], _ => exact ⟨a, b, rfl⟩
              obtain ⟨ha, hta⟩ := harg 0 (by simp)
              obtain ⟨hb, htb⟩ := harg 1 (by simp)
              have hby : ∃ q, by_ [110, 111, 110, 101] o = some q := by
                have : o = 5 ∨ o = 6 ∨ o = 7 ∨ o = 8 ∨ o = 9 ∨ o = 10 ∨ o = 11 ∨ o = 12 ∨ o = 13 ∨ o = 14 ∨ o = 15 := by omega
                rcases this with rfl | rfl | rfl | rfl | rfl | rfl | rfl | rfl | rfl | rfl | rfl <;> exact ⟨_, rfl⟩
              obtain ⟨q, hq⟩ := hby
              have hqm := by_mem hq
              obtain ⟨m1, m5⟩ := binds_much q hqm
              have hqo := by_none hq
              have hlv := binds_lv q hqm
              have hmu : much (.mk o 0 0 [] [] [a, b]) = q.2.2 := by unfold much opOf; simp only [hq]
              obtain ⟨ts, hl, hr⟩ := back n a ha hta
              obtain ⟨ts', hl', hr'⟩ := back n b hb htb
              obtain ⟨us, ul, -, la, hla, ura⟩ := reads_in hl hr (if q.2.2 = 3 then 4 else q.2.2)
              obtain ⟨vs, vl, -, lb, hlb, urb⟩ := reads_in hl' hr' (q.2.2 + 1)
              have es : show_ (n + 1) (.mk o 0 0 [] [] [a, b]) = within (show_ n a) (much a) (if q.2.2 = 3 then 4 else q.2.2) ++ [32] ++ q.1 ++ [32] ++ within (show_ n b) (much b) (q.2.2 + 1) := by
                simp only [show_, opOf, c1, c2, c3, c4, c5, if_false, hq]; rfl
              rw [es]
              refine ⟨us ++ ⟨4, q.1⟩ :: vs, ul.two vl hqm, fun h6 => ?_, fun m u r hm1 hm hs hr => ?_⟩
              · rw [hmu] at h6; omega
              · rw [hmu] at hm hs
                have hlim : lim0 (.mk o 0 0 [] [] [a, b]) = if q.2.2 = 3 then 2 else q.2.2 := by unfold lim0; rw [hmu, if_neg (by omega)]
                rw [hlim] at hr
                rw [List.append_assoc]
                refine ura m _ _ hm1 (by split <;> omega) (fun p hp => ?_) ?_
                · rw [hlv] at hp; obtain rfl := Option.some.inj hp; split <;> omega
                · rw [List.cons_append, Loop_cons, hlv]
                  simp only
                  rw [if_neg (by
                    have : q.2.2 ≤ la := by
                      by_cases h3 : q.2.2 = 3
                      · rw [if_pos h3] at hla
                        rcases hla (by decide) with h | h
                        · omega
                        · exact absurd h (by decide)
                      · rw [if_neg h3] at hla
                        rcases hla h3 with h | h
                        · omega
                        · omega
                    omega)]
                  have := urb (q.2.2 + 1) u (some (b, u)) (by omega) (Int.le_refl _) (hs.up (by omega)) (loop_stop hs)
                  rw [this, Option.bind_some]
                  simp only
                  rw [hqo]; exact hr
/-- Parse of Show -/
theorem parse_show {e : Ex} (hm : may 16 e = true) (hth : thin e = true) (hl : (show_ 16 e).length ≤ 100) : parse (show_ 16 e) = (e, 0) := by
  obtain ⟨ts, h1, h2⟩ := back 16 e hm hth
  have hd := may_deep 16 e hm
  have hlex : lex (show_ 16 e) = (ts, 0) := lex_of hl (Nat.lt_succ_self _) (by rw [h1.trim]; exact h1.2)
  have hw : whole ts = some e := by
    have := h2.2 1 [] (some (e, [])) (Int.le_refl _) (much_pos e) trivial (Loop_nil _ _ _)
    rw [List.append_nil] at this
    unfold Two at this
    unfold whole
    rw [this]
  exact parse_of hlex hw (by omega)
/-! ### what is parsed may be -/
theorem may_less : ∀ (n : Nat) (e : Ex) (m : Nat), may n e = true → deep e ≤ m → may m e = true
  | 0, e, m, h, _ => by simp [may] at h
  | n + 1, .mk o k nn t nm l, 0, h, hd => by simp [deep] at hd
  | n + 1, .mk o k nn t nm l, m + 1, h, hd => by
    simp only [may, Bool.and_eq_true, List.all_eq_true] at h ⊢
    refine ⟨h.1, fun x hx => may_less n x m (h.2 x hx) ?_⟩
    have := deep_mem hx
    simp only [Ex.args] at this
    simp only [deep] at hd
    omega
def Fit (e : Ex) : Prop := ∃ n, may n e = true
def Good (ts : List Tok) : Prop := ∀ t ∈ ts, Lx.may t.k t.t = true
theorem Good.tail {t : Tok} {ts : List Tok} (h : Good (t :: ts)) : Good ts := fun u hu => h u (List.mem_cons_of_mem _ hu)
theorem Good.less {ts r : List Tok} (h : Good ts) (k : Less ts r) : Good r := by
  obtain ⟨_, k, rfl⟩ := k
  exact fun t ht => h t (List.mem_of_mem_drop ht)
theorem fit_op1 {o : Int} (ho : o = 3 ∨ o = 4 ∨ o = 16) {e : Ex} (h : Fit e) : Fit (op1 o e) := by
  obtain ⟨n, h⟩ := h
  refine ⟨n + 1, ?_⟩
  have : head (op1 o e) = true := by rcases ho with rfl | rfl | rfl <;> rfl
  show (head (op1 o e) && [e].all (may n)) = true
  rw [this]; simp [h]
theorem fit_op2 {b : Bs × Int × Int} (hb : b ∈ binds) {x y : Ex} (h : Fit x) (k : Fit y) : Fit (op2 b.2.1 x y) := by
  obtain ⟨n, h⟩ := h
  obtain ⟨m, k⟩ := k
  refine ⟨max (deep x) (deep y) + 1, ?_⟩
  have : head (op2 b.2.1 x y) = true := by
    simp only [binds, List.mem_cons, List.not_mem_nil, or_false] at hb
    rcases hb with rfl | rfl | rfl | rfl | rfl | rfl | rfl | rfl | rfl | rfl | rfl <;> rfl
  have h1 := may_less n x (max (deep x) (deep y)) h (by omega)
  have h2 := may_less m y (max (deep x) (deep y)) k (by omega)
  show (head (op2 b.2.1 x y) && [x, y].all (may _)) = true
  rw [this]; simp [h1, h2]
theorem fit_leaf {k n : Int} {t : Bs} (h : Va.may ⟨k, n, ⟨t.toArray⟩⟩ = true) (h0 : (k == 0) = false) (hn : (k == 1 && decide (n < 0)) = false) : Fit (leaf k n t) := by
  refine ⟨1, ?_⟩
  have : word [] = false := by decide
  simp only [may, leaf, head, Ex.args, h, h0, hn, this]
  rfl
theorem fit_name {t : Bs} (h : Lx.may 2 t = true) (h1 : ¬ t = [121, 101, 115]) (h2 : ¬ t = [110, 111]) (h3 : ¬ t = [108, 101, 110]) : Fit (name t) := by
  refine ⟨1, ?_⟩
  have e1 : (t == [121, 101, 115]) = false := by simpa using h1
  have e2 : (t == [110, 111]) = false := by simpa using h2
  have e3 : (t == [108, 101, 110]) = false := by simpa using h3
  have hw : word t = true := by simp only [word, e1, e2, e3, h]; rfl
  simp only [may, name, head, Ex.args, hw]
  rfl
theorem fit_all : ∀ n : Nat, (∀ ts e r, Good ts → one n ts = some (e, r) → Fit e) ∧ (∀ m ts e r, Good ts → two n m ts = some (e, r) → Fit e) ∧ (∀ m l x ts e r, Good ts → Fit x → loop n m l x ts = some (e, r) → Fit e)
  | 0 => ⟨fun _ _ _ _ h => by simp [one] at h, fun _ _ _ _ _ h => by simp [two] at h, fun _ _ _ _ _ _ _ _ h => by simp [loop] at h⟩
  | n + 1 => by
    obtain ⟨h1, h2, h3⟩ := fit_all n
    refine ⟨fun ts e r hs h => ?_, fun m ts e r hs h => ?_, fun m l x ts e r hs hx h => ?_⟩
    · cases ts with
      | nil => simp [one] at h
      | cons t s =>
        have ht := hs t (List.mem_cons_self ..)
        simp only [one] at h
        split at h
        · split at h
          · obtain ⟨p, hp, he⟩ := map_some h
            obtain ⟨rfl, rfl⟩ := Prod.mk.inj he
            exact fit_op1 (.inl rfl) (h1 _ _ _ hs.tail hp)
          · split at h
            · obtain ⟨p, hp, he⟩ := map_some h
              obtain ⟨rfl, rfl⟩ := Prod.mk.inj he
              exact fit_op1 (.inr (.inl rfl)) (h1 _ _ _ hs.tail hp)
            · split at h
              · obtain ⟨p, hp, he⟩ := bind_some h
                obtain ⟨q, hq, he⟩ := map_some he
                obtain ⟨rfl, rfl⟩ := Prod.mk.inj he
                exact h2 _ _ _ _ hs.tail hp
              · cases h
        · rename_i k4
          split at h
          · rename_i k1
            obtain ⟨rfl, rfl⟩ := Prod.mk.inj (Option.some.inj h)
            have hn : numOk t.t = true := by rw [k1] at ht; exact ht
            refine fit_leaf (by simp [Va.may]) (by decide) ?_
            have := num_nonneg hn
            simp; omega
          · rename_i k1
            split at h
            · rename_i k3
              obtain ⟨rfl, rfl⟩ := Prod.mk.inj (Option.some.inj h)
              have hq : quoteOk t.t = true := by rw [k3] at ht; exact ht
              refine fit_leaf ?_ (by decide) (by decide)
              unfold quoteOk at hq
              simp only [Bool.and_eq_true, beq_iff_eq, decide_eq_true_eq] at hq
              have hall := run_iff.1 hq.1
              have hsz : (⟨t.t.toArray⟩ : ByteArray).size = t.t.length := by simp [ByteArray.size]
              have hp : Va.plain ⟨t.t.toArray⟩ = true := by
                unfold Va.plain
                rw [hsz]
                simp only [Bool.and_eq_true, decide_eq_true_eq, List.all_eq_true]
                refine ⟨fun c hc => ?_, by omega⟩
                have := hall c hc
                unfold Lx.quoted at this
                unfold Va.okc
                simp only [Bool.not_eq_true', Bool.or_eq_false_iff, decide_eq_false_iff_not, Bool.and_eq_true, decide_eq_true_eq, beq_eq_false_iff_ne] at this ⊢
                omega
              simp [Va.may, hp]
            · rename_i k3
              have hk : t.k = 2 := by
                unfold Lx.may at ht
                rw [if_neg k1] at ht
                by_cases k2 : t.k = 2
                · exact k2
                · rw [if_neg k2, if_neg k3, if_neg k4] at ht; cases ht
              rw [hk] at ht
              split at h
              · obtain ⟨rfl, rfl⟩ := Prod.mk.inj (Option.some.inj h); exact fit_leaf (by decide) (by decide) (by decide)
              · rename_i c1
                split at h
                · obtain ⟨rfl, rfl⟩ := Prod.mk.inj (Option.some.inj h); exact fit_leaf (by decide) (by decide) (by decide)
                · rename_i c2
                  split at h
                  · obtain ⟨r1, hr, he⟩ := bind_some h
                    obtain ⟨p, hp, he⟩ := bind_some he
                    obtain ⟨q, hq, he⟩ := map_some he
                    obtain ⟨rfl, rfl⟩ := Prod.mk.inj he
                    exact fit_op1 (.inr (.inr rfl)) (h2 _ _ _ _ (hs.tail.less (sign_len hr)) hp)
                  · rename_i c3
                    obtain ⟨rfl, rfl⟩ := Prod.mk.inj (Option.some.inj h); exact fit_name ht c1 c2 c3
    · simp only [two] at h
      obtain ⟨p, hp, he⟩ := bind_some h
      exact h3 _ _ _ _ _ _ (hs.less (one_less hp)) (h1 _ _ _ hs hp) he
    · cases ts with
      | nil => simp only [loop] at h; obtain ⟨rfl, rfl⟩ := Prod.mk.inj (Option.some.inj h); exact hx
      | cons t s =>
        simp only [loop] at h
        split at h
        · split at h
          · obtain ⟨rfl, rfl⟩ := Prod.mk.inj (Option.some.inj h); exact hx
          · rename_i b hb
            split at h
            · obtain ⟨rfl, rfl⟩ := Prod.mk.inj (Option.some.inj h); exact hx
            · obtain ⟨p, hp, he⟩ := bind_some h
              exact h3 _ _ _ _ _ _ (hs.tail.less (two_less hp)) (fit_op2 (by_mem hb) hx (h2 _ _ _ _ hs.tail hp)) he
        · obtain ⟨rfl, rfl⟩ := Prod.mk.inj (Option.some.inj h); exact hx
theorem good_lex {s : Bs} {a : List Tok} (h : lex s = (a, 0)) : Good a := by
  rcases lex_ok h with ⟨h, _⟩ | ⟨_, _, _, _, h⟩
  · exact absurd rfl h
  · exact fun t ht => List.all_eq_true.1 h t ht
theorem parse_may {s : Bs} (h : (parse s).2 = 0) : may 16 (parse s).1 = true := by
  obtain ⟨a, e, h1, h2, h3, h4⟩ := parse_ok h
  rw [h4]
  obtain ⟨n, hn⟩ := (fit_all _).2.1 _ _ _ _ (good_lex h1) (whole_some h2)
  exact may_less n e 16 hn (by omega)
theorem parse_err {s : Bs} (h : (parse s).2 ≠ 0) : (parse s).1 = none_ ∧ ((parse s).2 = 4 ∨ (parse s).2 = 40) := by
  unfold parse at h ⊢
  split
  · rename_i h0
    rw [if_pos h0] at h
    cases hw : whole (lex s).1 with
    | none => simp
    | some e =>
      rw [hw] at h
      simp only at h ⊢
      split
      · simp
      · rename_i hd; rw [if_neg hd] at h; simp at h
  · refine ⟨rfl, ?_⟩
    show (lex s).2 = 4 ∨ (lex s).2 = 40
    rename_i h0
    revert h0
    unfold Lx.lex
    split
    · exact fun _ => .inr rfl
    · split
      · exact fun h0 => absurd rfl h0
      · exact fun _ => .inl rfl
end Px

end
section
namespace Tx
open Go
open Px
set_option linter.unusedVariables false
set_option linter.unusedSimpArgs false
mutual
/-- its lengths and numbers are in bounds -/
def wide : Ex → Bool
  | .mk _ _ n t nm l => (decide (l.length ≤ 140737488355328) && (decide (t.length ≤ 140737488351232) && (decide (nm.length ≤ 140737488351232) && (decide (-9223372036854775808 ≤ n) && decide (n ≤ 9223372036854775807))))) && wides l
def wides : List Ex → Bool
  | [] => true
  | e :: l => wide e && wides l
end
theorem wide_mem {l : List Ex} {e : Ex} (h : wides l = true) (he : e ∈ l) : wide e = true := by
  induction l with
  | nil => cases he
  | cons x l ih =>
    simp only [wides, Bool.and_eq_true] at h
    rcases List.mem_cons.1 he with rfl | he
    · exact h.1
    · exact ih h.2 he
mutual
/-- how many parts, counted to n -/
def sz : Ex → Nat → Nat
  | .mk _ _ _ _ _ l, n => szs l 1 n
def szs : List Ex → Nat → Nat → Nat
  | [], w, _ => w
  | e :: l, w, n => if w < n then szs l (w + sz e (n - w)) n else w
end
mutual
theorem sz_ge : ∀ (e : Ex) (n : Nat), 1 ≤ sz e n
  | .mk _ _ _ _ _ l, n => by simp only [sz]; exact szs_ge l 1 n
theorem szs_ge : ∀ (l : List Ex) (w n : Nat), w ≤ szs l w n
  | [], w, n => by simp [szs]
  | e :: l, w, n => by
    simp only [szs]
    split
    · have := szs_ge l (w + sz e (n - w)) n; omega
    · exact Nat.le_refl _
end
mutual
theorem sz_le : ∀ (e : Ex) (n : Nat), 1 ≤ n → sz e n ≤ n
  | .mk _ _ _ _ _ l, n, h => by simp only [sz]; exact szs_le l 1 n h
theorem szs_le : ∀ (l : List Ex) (w n : Nat), w ≤ n → szs l w n ≤ n
  | [], w, n, h => by simpa [szs] using h
  | e :: l, w, n, h => by
    simp only [szs]
    split
    · have := sz_le e (n - w) (by omega)
      exact szs_le l _ n (by omega)
    · exact h
end
mutual
theorem sz_thin : ∀ (e : Ex) (n : Nat), n ≤ 300 → sz e n < n → wide e = true → thin e = true ∧ deep e ≤ n
  | .mk op k m t nm l, n, hn, h, hw => by
    simp only [sz] at h
    simp only [wide, Bool.and_eq_true, decide_eq_true_eq] at hw
    have h2 := szs_thin l 1 n hn h hw.2
    simp only [thin, deep, Bool.and_eq_true, decide_eq_true_eq]
    exact ⟨⟨⟨by omega, hw.1.2.1, hw.1.2.2.1, hw.1.2.2.2⟩, h2.1⟩, by omega⟩
theorem szs_thin : ∀ (l : List Ex) (w n : Nat), n ≤ 300 → szs l w n < n → wides l = true → thins l = true ∧ w + l.length ≤ n ∧ w + deeps l ≤ n
  | [], w, n, hn, h, _ => by simp only [szs] at h; simp [thins, deeps]; omega
  | e :: l, w, n, hn, h, hw => by
    simp only [wides, Bool.and_eq_true] at hw
    simp only [szs] at h
    split at h
    · rename_i hc
      have h1 := szs_ge l (w + sz e (n - w)) n
      have h2 := sz_ge e (n - w)
      have h3 := szs_thin l _ n hn h hw.2
      have h4 := sz_thin e (n - w) (by omega) (by omega) hw.1
      simp only [thins, deeps, List.length_cons, Bool.and_eq_true]
      exact ⟨⟨h4.1, h3.1⟩, by omega, by omega⟩
    · omega
end
def large (e : Ex) : Bool := decide (300 ≤ sz e 300)
theorem large_thin {e : Ex} (h : large e = false) (hw : wide e = true) : thin e = true ∧ deep e ≤ 300 := by
  unfold large at h
  exact sz_thin e 300 (Nat.le_refl _) (by simpa using h) hw
end Tx

end
section
namespace Px
open Go
open Lx hiding none run first may
set_option linter.unusedVariables false
set_option linter.unusedSimpArgs false
def sortB (l : List Bs) : List Bs := l.mergeSort fun x y => decide (x ≤ y)
/-- strictly rising -/
def Rises (l : List Bs) : Prop := l.Pairwise (· < ·)
/-- each of equal neighbours once -/
def once : List Bs → List Bs
  | [] => []
  | [a] => [a]
  | a :: b :: l => if a = b then once (b :: l) else a :: once (b :: l)
theorem mem_once : ∀ (l : List Bs) (x : Bs), x ∈ once l ↔ x ∈ l
  | [], x => Iff.rfl
  | [a], x => Iff.rfl
  | a :: b :: l, x => by
    simp only [once]
    have ih := mem_once (b :: l) x
    split
    · rename_i h; subst h; rw [ih]; simp
    · simp only [List.mem_cons] at ih ⊢; rw [ih]
theorem once_rises : ∀ (l : List Bs), l.Pairwise (· ≤ ·) → Rises (once l)
  | [], _ => List.Pairwise.nil
  | [a], _ => List.pairwise_singleton _ _
  | a :: b :: l, h => by
    have h2 := (List.pairwise_cons.1 h)
    have ih := once_rises (b :: l) h2.2
    simp only [once]
    split
    · exact ih
    · rename_i hne
      refine List.pairwise_cons.2 ⟨fun x hx => ?_, ih⟩
      rw [mem_once] at hx
      have hb : a ≤ b := h2.1 b (List.mem_cons_self ..)
      have hbx : b ≤ x := by
        rcases List.mem_cons.1 hx with rfl | hx
        · exact List.le_refl _
        · exact (List.pairwise_cons.1 h2.2).1 x hx
      have hax : a ≤ x := h2.1 x hx
      by_cases e : a = x
      · subst e; exact absurd (List.le_antisymm hb hbx) hne
      · exact Std.lt_of_le_of_ne hax e
/-- what stays of a list behind its first element -/
def rest (x : List Bs) : List Bs := ((List.range (x.length - 1)).filter fun j => decide (x[j + 1]! ≠ x[j]!)).map fun j => x[j + 1]!
theorem rest_cons (a b : Bs) (l : List Bs) : rest (a :: b :: l) = (if a = b then [] else [b]) ++ rest (b :: l) := by
  unfold rest
  have e1 : (a :: b :: l).length - 1 = (b :: l).length - 1 + 1 := by simp
  rw [e1, List.range_succ_eq_map, List.filter_cons]
  have e2 : (fun j => decide ((a :: b :: l)[j + 1]! ≠ (a :: b :: l)[j]!)) ∘ Nat.succ = fun j => decide ((b :: l)[j + 1]! ≠ (b :: l)[j]!) := by
    funext j; simp
  have e3 : (fun j => (a :: b :: l)[j + 1]!) ∘ Nat.succ = fun j => (b :: l)[j + 1]! := by funext j; simp
  rw [List.filter_map, e2]
  by_cases h : a = b
  · subst h; simp [List.map_map, Function.comp_def]
  · have h' : ¬ b = a := fun e => h e.symm
    simp [h, h', List.map_map, Function.comp_def]
theorem compact_rest (a : Bs) (l : List Bs) : Lib.compact (a :: l) = a :: rest (a :: l) := by
  unfold Lib.compact Lib.compactUpTo rest
  have e1 : (a :: l).length - 1 = l.length := by simp
  rw [e1, List.length_cons, List.range_succ_eq_map, List.filter_cons]
  have h0 : Lib.keeps (a :: l).toArray 0 = true := by simp [Lib.keeps]
  rw [h0, if_pos rfl, List.map_cons, List.filter_map, List.map_map]
  have e2 : (Lib.keeps (a :: l).toArray) ∘ Nat.succ = fun j => decide ((a :: l)[j + 1]! ≠ (a :: l)[j]!) := by
    funext j; simp [Lib.keeps]
  have e3 : (fun x => (a :: l).toArray[x]!) ∘ Nat.succ = fun j => (a :: l)[j + 1]! := by funext j; simp
  rw [e2, e3]; simp
theorem once_rest : ∀ (l : List Bs) (a : Bs), once (a :: l) = a :: rest (a :: l)
  | [], a => by simp [once, rest]
  | b :: l, a => by
    have ih := once_rest l b
    rw [once, rest_cons]
    split
    · rename_i h; subst h; rw [ih]; rfl
    · rw [ih]; rfl
theorem compact_once (l : List Bs) : Lib.compact l = once l := by
  cases l with
  | nil => rfl
  | cons a l => rw [compact_rest, once_rest]
theorem sort_pair (l : List Bs) : (sortB l).Pairwise (· ≤ ·) := by
  have := List.pairwise_mergeSort (le := fun x y : Bs => decide (x ≤ y)) (fun a b c h1 h2 => by
    simp only [decide_eq_true_eq] at *; exact List.le_trans h1 h2) (fun a b => by
    simp only [Bool.or_eq_true, decide_eq_true_eq]; exact List.le_total a b) l
  exact this.imp fun h => by simpa using h
theorem mem_sort (l : List Bs) (x : Bs) : x ∈ sortB l ↔ x ∈ l := (List.mergeSort_perm l _).mem_iff
theorem len_sort (l : List Bs) : (sortB l).length = l.length := (List.mergeSort_perm l _).length_eq
theorem len_once : ∀ l : List Bs, (once l).length ≤ l.length
  | [] => Nat.le_refl _
  | [_] => Nat.le_refl _
  | a :: b :: l => by
    have := len_once (b :: l)
    simp only [once]
    split <;> simp only [List.length_cons] at this ⊢ <;> omega
/-- rising lists of the same members are the same -/
theorem rises_eq : ∀ {l m : List Bs}, Rises l → Rises m → (∀ x, x ∈ l ↔ x ∈ m) → l = m
  | [], [], _, _, _ => rfl
  | [], b :: m, _, _, h => by have := (h b).2 (List.mem_cons_self ..); cases this
  | a :: l, [], _, _, h => by have := (h a).1 (List.mem_cons_self ..); cases this
  | a :: l, b :: m, hl, hm, h => by
    have h1 := List.pairwise_cons.1 hl
    have h2 := List.pairwise_cons.1 hm
    have e : a = b := by
      have ha := (h a).1 (List.mem_cons_self ..)
      have hb := (h b).2 (List.mem_cons_self ..)
      rcases List.mem_cons.1 ha with e | ha
      · exact e
      · rcases List.mem_cons.1 hb with e | hb
        · exact e.symm
        · exact absurd (List.lt_trans (h2.1 a ha) (h1.1 b hb)) (List.lt_irrefl _)
    subst e
    rw [rises_eq h1.2 h2.2 fun x => ?_]
    constructor
    · intro hx
      rcases List.mem_cons.1 ((h x).1 (List.mem_cons_of_mem _ hx)) with rfl | hx'
      · exact absurd (h1.1 _ hx) (List.lt_irrefl _)
      · exact hx'
    · intro hx
      rcases List.mem_cons.1 ((h x).2 (List.mem_cons_of_mem _ hx)) with rfl | hx'
      · exact absurd (h2.1 _ hx) (List.lt_irrefl _)
      · exact hx'
mutual
def names : Ex → List Bs
  | .mk o _ _ _ nm l => once (sortB ((if o = 2 then [nm] else []) ++ namess l))
def namess : List Ex → List Bs
  | [] => []
  | e :: l => names e ++ namess l
end
theorem names_rises : ∀ e : Ex, Rises (names e)
  | .mk o _ _ _ nm l => by simp only [names]; exact once_rises _ (sort_pair _)
theorem mem_names (e : Ex) (x : Bs) : x ∈ names e ↔ (opOf e = 2 ∧ x = nmOf e) ∨ x ∈ namess e.args := by
  cases e with
  | mk o k n t nm l =>
    simp only [names, mem_once, mem_sort, List.mem_append, opOf, nmOf, Ex.args]
    by_cases h : o = 2
    · simp [h]
    · simp [h]
theorem mem_namess (l : List Ex) (x : Bs) : x ∈ namess l ↔ ∃ e ∈ l, x ∈ names e := by
  induction l with
  | nil => simp [namess]
  | cons a l ih => simp only [namess, List.mem_append, ih, List.mem_cons, exists_eq_or_imp]
theorem names_arg {e a : Ex} (h : a ∈ e.args) : ∀ x ∈ names a, x ∈ names e := fun x hx => (mem_names e x).2 (.inr ((mem_namess _ x).2 ⟨a, h, hx⟩))
theorem names_len (e : Ex) : (names e).length ≤ (if opOf e = 2 then 1 else 0) + (namess e.args).length := by
  cases e with
  | mk o k n t nm l =>
    simp only [names, opOf, Ex.args]
    have h1 := len_once (sortB ((if o = 2 then [nm] else []) ++ namess l))
    rw [len_sort, List.length_append] at h1
    by_cases h : o = 2
    · simp only [h, if_true, List.length_singleton] at h1 ⊢; exact h1
    · simp only [h, if_false, List.length_nil] at h1 ⊢; exact h1
end Px

end
