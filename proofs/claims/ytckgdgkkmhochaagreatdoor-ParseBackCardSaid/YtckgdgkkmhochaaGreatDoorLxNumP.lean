/- Plain laws of numbers as texts: which digits are a number of 64 bits. No program in sight. -/
import Derived.Test.YtckgdgkkmhochaaGreatDoorLxPlain
import Derived.Lib.ParseIntBCases
import GoSem.Op.String
namespace Lx
open Go
set_option linter.unusedVariables false
set_option linter.unusedSimpArgs false
def dig (c : UInt8) : Nat := c.toNat - 48
/-- what digits spell, behind what those before spell -/
def val (acc : Nat) (l : Bs) : Nat := l.foldl (fun n c => n * 10 + dig c) acc
theorem val_nil (acc : Nat) : val acc [] = acc := rfl
theorem val_cons (acc : Nat) (c : UInt8) (r : Bs) : val acc (c :: r) = val (acc * 10 + dig c) r := by unfold val; rw [List.foldl_cons]
theorem digit_iff {c : UInt8} : digit c = true ↔ 48 ≤ c.toNat ∧ c.toNat ≤ 57 := by
  unfold digit; simp only [Bool.and_eq_true, decide_eq_true_eq]; omega
theorem val_ge : ∀ (l : Bs) (acc : Nat), acc * 10 ^ l.length ≤ val acc l
  | [], acc => by simp [val_nil]
  | c :: r, acc => by
    have := val_ge r (acc * 10 + dig c)
    rw [Nat.add_mul, Nat.mul_assoc] at this
    rw [List.length_cons, Nat.pow_succ, val_cons, Nat.mul_comm (10 ^ r.length)]
    omega
theorem val_lt : ∀ (l : Bs) (acc : Nat), (∀ c ∈ l, digit c = true) → val acc l < (acc + 1) * 10 ^ l.length
  | [], acc, _ => by simp [val_nil]
  | c :: r, acc, h => by
    have := val_lt r (acc * 10 + dig c) fun x hx => h x (List.mem_cons_of_mem _ hx)
    have hc := digit_iff.1 (h c (List.mem_cons_self ..))
    have h1 : acc * 10 + dig c + 1 ≤ (acc + 1) * 10 := by unfold dig; omega
    have h2 := Nat.mul_le_mul_right (10 ^ r.length) h1
    rw [List.length_cons, Nat.pow_succ, val_cons, Nat.mul_comm (10 ^ r.length), ← Nat.mul_assoc]
    omega
theorem uint_val : ∀ (l : Bs) (acc : Nat), (∀ c ∈ l, digit c = true) → Lib.parseUintM (2 ^ 64 - 1) acc l = .ok (val acc l) ∨ (Lib.parseUintM (2 ^ 64 - 1) acc l = .range ∧ 2 ^ 63 ≤ val acc l)
  | [], acc, _ => .inl rfl
  | c :: r, acc, h => by
    have hc := digit_iff.1 (h c (List.mem_cons_self ..))
    have ge := val_ge r (acc * 10 + dig c)
    have p : 0 < 10 ^ r.length := Nat.pow_pos (by decide)
    have ge2 : acc * 10 + dig c ≤ val (acc * 10 + dig c) r := Nat.le_trans (Nat.le_mul_of_pos_right _ p) ge
    simp only [Lib.parseUintM, hc, and_self, if_true, val_cons]
    unfold dig at *
    split
    · right
      refine ⟨rfl, ?_⟩
      omega
    · split
      · right
        refine ⟨rfl, ?_⟩
        omega
      · exact uint_val r _ fun x hx => h x (List.mem_cons_of_mem _ hx)
theorem parsed_val {l : Bs} (h0 : l ≠ []) (h : ∀ c ∈ l, digit c = true) : parsed (Lib.parseIntB 64 l) = decide (val 0 l < 2 ^ 63) := by
  cases l with
  | nil => exact absurd rfl h0
  | cons c r =>
    have hc := digit_iff.1 (h c (List.mem_cons_self ..))
    have h43 : ¬ c.toNat = 43 := by omega
    have h45 : ¬ c.toNat = 45 := by omega
    simp only [Lib.parseIntB, h43, h45, or_self, if_false, Lib.parseUintB, reduceCtorEq, not_false_eq_true, true_and, false_and]
    rcases uint_val (c :: r) 0 h with e | ⟨e, hv⟩
    · rw [e]
      simp only
      split
      · rename_i hh
        rw [decide_eq_false (by omega)]; rfl
      · rename_i hh
        rw [decide_eq_true (by omega)]; rfl
    · rw [e, decide_eq_false (by omega)]; rfl
theorem val_less {a b : Bs} {m n : Nat} (h : a.length = b.length) (ha : ∀ c ∈ a, digit c = true) (hmn : m < n) : val m a < val n b := by
  have h1 := val_lt a m ha
  have h2 := val_ge b n
  rw [← h] at h2
  have h3 := Nat.mul_le_mul_right (10 ^ a.length) (show m + 1 ≤ n from hmn)
  omega
/-- of texts of one length, the lesser one is the lesser number -/
theorem less_val : ∀ (a b : Bs) (m : Nat), a.length = b.length → (∀ c ∈ a, digit c = true) → (∀ c ∈ b, digit c = true) → (Op.bytesLess a b || (a == b)) = decide (val m a ≤ val m b)
  | [], [], m, _, _, _ => by simp [val_nil, Op.bytesLess]
  | [], _ :: _, _, h, _, _ => by simp at h
  | _ :: _, [], _, h, _, _ => by simp at h
  | c :: a, d :: b, m, h, ha, hb => by
    have hc := digit_iff.1 (ha c (List.mem_cons_self ..))
    have hd := digit_iff.1 (hb d (List.mem_cons_self ..))
    have hl : a.length = b.length := by simpa using h
    have ha' : ∀ x ∈ a, digit x = true := fun x hx => ha x (List.mem_cons_of_mem _ hx)
    have hb' : ∀ x ∈ b, digit x = true := fun x hx => hb x (List.mem_cons_of_mem _ hx)
    rw [val_cons, val_cons]
    by_cases e : c = d
    · subst e
      rw [← less_val a b (m * 10 + dig c) hl ha' hb']
      simp [Op.bytesLess]
    · have hne : c.toNat ≠ d.toNat := fun h => e (UInt8.toNat_inj.1 h)
      rcases Nat.lt_or_ge c.toNat d.toNat with hlt | hge
      · have := val_less (m := m * 10 + dig c) (n := m * 10 + dig d) hl ha' (by unfold dig; omega)
        rw [decide_eq_true (Nat.le_of_lt this)]
        have h5 : c < d := UInt8.lt_iff_toNat_lt.2 hlt
        simp [Op.bytesLess, h5]
      · have := val_less (m := m * 10 + dig d) (n := m * 10 + dig c) hl.symm hb' (by unfold dig; omega)
        rw [decide_eq_false (Nat.not_le.2 this)]
        have h5 : ¬ c < d := fun h => by have := UInt8.lt_iff_toNat_lt.1 h; omega
        simp [Op.bytesLess, h5, e]
def top : Bs := [57, 50, 50, 51, 51, 55, 50, 48, 51, 54, 56, 53, 52, 55, 55, 53, 56, 48, 55]
theorem top_val : val 0 top = 2 ^ 63 - 1 := by decide +kernel
theorem run_iff {p : UInt8 → Bool} {l : Bs} : run p l = l.length ↔ ∀ c ∈ l, p c = true := by
  refine ⟨fun h => ?_, fun h => ?_⟩
  · induction l with
    | nil => intro c hc; cases hc
    | cons c s ih =>
      by_cases hc : p c = true
      · rw [run_cons_t hc, List.length_cons] at h
        intro x hx
        rcases List.mem_cons.1 hx with rfl | hx
        · exact hc
        · exact ih (by omega) x hx
      · rw [run_cons_f (by simpa using hc)] at h; simp at h
  · induction l with
    | nil => rfl
    | cons c s ih => rw [run_cons_t (h c (List.mem_cons_self ..)), ih fun x hx => h x (List.mem_cons_of_mem _ hx)]; rfl
/-- a number, as the document says it -/
theorem num_doc {l : Bs} (h0 : l ≠ []) (h1 : l.length ≤ 19) (h2 : ¬ (l.head? = some 48 ∧ 1 < l.length)) (h : ∀ c ∈ l, digit c = true) : numOk l = (decide (l.length < 19) || (Op.bytesLess l top || (l == top))) := by
  have hr := run_iff.2 h
  have hz : ((l.length == 1) || !(l.head? == some 48)) = true := by
    cases hh : (l.head? == some 48)
    · simp
    · have hl : l.length = 1 := by
        have : 0 < l.length := List.length_pos_iff.2 h0
        have : ¬ 1 < l.length := fun h3 => h2 ⟨by simpa using hh, h3⟩
        omega
      simp [hl]
  unfold numOk
  rw [hr, hz, parsed_val h0 h]
  simp only [beq_self_eq_true, Bool.and_true]
  by_cases hl : l.length < 19
  · have := val_lt l 0 h
    have hp : 10 ^ l.length ≤ 10 ^ 18 := Nat.pow_le_pow_right (by decide) (by omega)
    rw [decide_eq_true (show val 0 l < 2 ^ 63 by omega), decide_eq_true hl]; rfl
  · have he : l.length = top.length := by show l.length = 19; omega
    have := less_val l top 0 he h (by decide)
    rw [this, top_val, decide_eq_false hl, Bool.false_or]
    congr 1
    rw [eq_iff_iff]; omega
theorem num_no0 : numOk [] = false := by rw [numOk]; decide
theorem num_no1 {l : Bs} (h : 19 < l.length) : numOk l = false := by
  cases hn : numOk l with
  | false => rfl
  | true =>
    exfalso
    unfold numOk at hn
    simp only [Bool.and_eq_true, beq_iff_eq] at hn
    obtain ⟨hp, hr, hz⟩ := hn
    have hd := run_iff.1 hr
    have h0 : l ≠ [] := by rintro rfl; simp at h
    rw [parsed_val h0 hd, decide_eq_true_eq] at hp
    cases l with
    | nil => exact h0 rfl
    | cons c r =>
      have hc := digit_iff.1 (hd c (List.mem_cons_self ..))
      have h48 : c ≠ 48 := by
        rintro rfl
        simp at hz
        rw [hz] at h; simp at h
      have h48' : c.toNat ≠ 48 := fun e => h48 (UInt8.toNat_inj.1 e)
      have := val_ge r (0 * 10 + dig c)
      rw [val_cons] at hp
      have hp2 : 10 ^ 19 ≤ 10 ^ r.length := Nat.pow_le_pow_right (by decide) (by simp at h; omega)
      have h3 : 1 * 10 ^ r.length ≤ (0 * 10 + dig c) * 10 ^ r.length := Nat.mul_le_mul_right _ (by unfold dig; omega)
      omega
theorem num_no2 {l : Bs} (h : l.head? = some 48) (h1 : 1 < l.length) : numOk l = false := by
  unfold numOk
  have h2 : (l.length == 1) = false := by rw [beq_eq_false_iff_ne]; omega
  rw [h, h2]; simp
theorem num_no3 {l : Bs} (h : run digit l ≠ l.length) : numOk l = false := by
  unfold numOk
  have h2 : (run digit l == l.length) = false := by rw [beq_eq_false_iff_ne]; exact h
  rw [h2]; simp
end Lx
