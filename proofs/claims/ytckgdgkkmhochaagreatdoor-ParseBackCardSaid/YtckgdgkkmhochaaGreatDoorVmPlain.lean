/- Values in plain Lean, third part: of values that may be, what operators come to may be; unlike ones have unlike texts. -/
import Derived.Test.YtckgdgkkmhochaaGreatDoorVdPlain
namespace Va
open Go
set_option linter.unusedVariables false

/-! ### texts of numbers -/
def undec : List UInt8 → Nat → Nat
  | [], a => a
  | c :: l, a => undec l (a * 10 + (c.toNat - 48))
theorem undec_app : ∀ (l m : List UInt8) (a : Nat), undec (l ++ m) a = undec m (undec l a)
  | [], _, _ => rfl
  | c :: l, m, a => undec_app l m _
theorem undec_dec : ∀ u : Nat, undec (Lib.decDigits u) 0 = u := by
  intro u
  induction u using Nat.strongRecOn with
  | _ u ih =>
    rw [Lib.decDigits]
    by_cases h : u < 10
    · rw [dif_pos h]
      simp only [undec, UInt8.toNat_ofNat']
      omega
    · rw [dif_neg h, undec_app, ih (u / 10) (by omega)]
      simp only [undec, UInt8.toNat_ofNat']
      omega
theorem dec_head : ∀ u : Nat, ∃ c l, Lib.decDigits u = c :: l ∧ 48 ≤ c.toNat ∧ c.toNat ≤ 57 := by
  intro u
  induction u using Nat.strongRecOn with
  | _ u ih =>
    rw [Lib.decDigits]
    by_cases h : u < 10
    · rw [dif_pos h]
      exact ⟨_, _, rfl, by simp only [UInt8.toNat_ofNat']; omega, by simp only [UInt8.toNat_ofNat']; omega⟩
    · obtain ⟨c, l, e, h1, h2⟩ := ih (u / 10) (by omega)
      rw [dif_neg h, e]
      exact ⟨c, _, rfl, h1, h2⟩
theorem itoa_inj {a b : Int} (h : Lib.itoa a = Lib.itoa b) : a = b := by
  unfold Lib.itoa at h
  by_cases ha : a < 0 <;> by_cases hb : b < 0
  · rw [if_pos ha, if_pos hb, List.cons.injEq] at h
    have := congrArg (fun l => undec l 0) h.2
    simp only [undec_dec] at this
    omega
  · rw [if_pos ha, if_neg hb] at h
    obtain ⟨c, l, e, h1, h2⟩ := dec_head b.toNat
    rw [e, List.cons.injEq] at h
    rw [← h.1] at h1
    exact absurd h1 (by decide)
  · rw [if_neg ha, if_pos hb] at h
    obtain ⟨c, l, e, h1, h2⟩ := dec_head a.toNat
    rw [e, List.cons.injEq] at h
    rw [h.1] at h1
    exact absurd h1 (by decide)
  · rw [if_neg ha, if_neg hb] at h
    have := congrArg (fun l => undec l 0) h
    simp only [undec_dec] at this
    omega
theorem itoa_head (a : Int) : ∃ c l, Lib.itoa a = c :: l ∧ (c.toNat = 45 ∨ (48 ≤ c.toNat ∧ c.toNat ≤ 57)) := by
  unfold Lib.itoa
  by_cases ha : a < 0
  · rw [if_pos ha]; exact ⟨_, _, rfl, .inl rfl⟩
  · rw [if_neg ha]
    obtain ⟨c, l, e, h1, h2⟩ := dec_head a.toNat
    exact ⟨c, l, e, .inr ⟨h1, h2⟩⟩

/-! ### what may be -/
theorem may_none : may none = true := by decide
theorem may_num (n : Int) : may (num n) = true := by simp [may, num]
theorem may_truth (b : Bool) : may (truth b) = true := by cases b <;> decide
theorem may_told (x : Int) : may (told x).1 = true := by unfold told; split <;> first | exact may_num _ | exact may_none
theorem may_numbers (op a b : Int) : may (numbers op a b).1 = true := by
  unfold numbers
  repeat' split
  all_goals first | exact may_told _ | exact may_none | exact may_num _
theorem app_size (s t : ByteArray) : (s ++ t).size = s.size + t.size := ByteArray.size_append
theorem may_sum {s t : ByteArray} (hs : plain s = true) (ht : plain t = true) : may (sum s t).1 = true := by
  unfold sum
  split
  · exact may_none
  · rename_i h
    simp only [may, text, plain] at *
    simp only [Bool.and_eq_true, decide_eq_true_eq] at hs ht
    simp only [ByteArray.data_append, Array.toList_append, List.all_append, hs.1, ht.1]
    simp only [app_size]
    simp
    omega
theorem may_plain {v : V} (h : may v = true) (k : v.k = 3) : plain v.t = true := by
  simp only [may, k] at h; simpa using (Bool.and_eq_true _ _ ▸ h).2
theorem may_two (op : Int) {a b : V} (ha : may a = true) (hb : may b = true) : may (two op a b).1 = true := by
  unfold two
  repeat' split
  all_goals first
    | exact may_none
    | exact may_truth _
    | exact may_numbers _ _ _
    | skip
  rename_i hf _ _ _ _ _ _ hk
  refine may_sum (may_plain ha hk) (may_plain hb ?_)
  have : fits op a.k b.k = true := by simpa using hf
  simp only [fits, Bool.and_eq_true, beq_iff_eq] at this
  rw [← this.1]; exact hk
theorem may_one (op : Int) (v : V) : may (one op v).1 = true := by
  unfold one
  repeat' split
  all_goals first | exact may_none | exact may_truth _ | exact may_told _ | exact may_num _
theorem told_kind {x : Int} : (told x).2 = 0 ∧ (told x).1.k = 1 ∨ (told x).2 ≠ 0 ∧ (told x).1 = none := by
  unfold told; split <;> simp [num]
theorem numbers_kind (op a b : Int) : (numbers op a b).2 = 0 ∧ (numbers op a b).1.k = 1 ∨ (numbers op a b).2 ≠ 0 ∧ (numbers op a b).1 = none := by
  unfold numbers
  repeat' split
  all_goals first | exact told_kind | (right; exact ⟨by decide, rfl⟩) | (left; exact ⟨rfl, rfl⟩)
theorem two_kind (op : Int) (a b : V) : (two op a b).2 = 0 ∧ (two op a b).1.k ≠ 0 ∨ (two op a b).2 ≠ 0 ∧ (two op a b).1 = none := by
  unfold two
  repeat' split
  all_goals first
    | (right; exact ⟨by decide, rfl⟩)
    | (left; refine ⟨rfl, ?_⟩; show (2 : Int) ≠ 0; decide)
    | skip
  · unfold sum
    split
    · right; exact ⟨by decide, rfl⟩
    · left; refine ⟨rfl, ?_⟩; show (3 : Int) ≠ 0; decide
  · rcases numbers_kind op a.n b.n with h | h
    · left; exact ⟨h.1, by rw [h.2]; decide⟩
    · right; exact h
theorem one_kind (op : Int) (v : V) : (one op v).2 = 0 ∨ (one op v).2 ≠ 0 ∧ (one op v).1 = none := by
  unfold one
  repeat' split
  all_goals first | (right; exact ⟨by decide, rfl⟩) | (left; rfl) | skip
  rcases told_kind (x := 0 - v.n) with h | h
  · exact .inl h.1
  · exact .inr h

/-! ### unlike values have unlike texts -/
def shownL (v : V) : List UInt8 := (shown v).data.toList
theorem shownL_0 {v : V} (h : v.k = 0) : shownL v = [110, 111, 110, 101] := by simp [shownL, shown, h]
theorem shownL_1 {v : V} (h : v.k = 1) : shownL v = Lib.itoa v.n := by simp [shownL, shown, h]
theorem shownL_20 {v : V} (h : v.k = 2) (k : v.n = 0) : shownL v = [110, 111] := by simp [shownL, shown, h, k]
theorem shownL_21 {v : V} (h : v.k = 2) (k : v.n = 1) : shownL v = [121, 101, 115] := by simp [shownL, shown, h, k]
theorem shownL_3 {v : V} (h : v.k = 3) : shownL v = 39 :: (v.t.data.toList ++ [39]) := by simp [shownL, shown, h]
/-- the ways in which a value may be -/
theorem may_ways {v : V} (h : may v = true) : (v.k = 0 ∧ v.n = 0 ∧ v.t.data.toList = []) ∨ (v.k = 1 ∧ v.t.data.toList = []) ∨ (v.k = 2 ∧ v.n = 0 ∧ v.t.data.toList = []) ∨ (v.k = 2 ∧ v.n = 1 ∧ v.t.data.toList = []) ∨ (v.k = 3 ∧ v.n = 0) := by
  unfold may at h
  split at h
  · left; rename_i k; simp at h; exact ⟨k, h.1, by simpa using h.2⟩
  split at h
  · right; left; rename_i k; simp at h; exact ⟨k, by simpa using h⟩
  split at h
  · rename_i k; simp at h
    rcases h.1 with e | e
    · right; right; left; exact ⟨k, e, by simpa using h.2⟩
    · right; right; right; left; exact ⟨k, e, by simpa using h.2⟩
  split at h
  · right; right; right; right; rename_i k; simp at h; exact ⟨k, h.1⟩
  · cases h
theorem v_ext {a b : V} (h1 : a.k = b.k) (h2 : a.n = b.n) (h3 : a.t.data.toList = b.t.data.toList) : a = b := by
  obtain ⟨_, _, ⟨⟨l⟩⟩⟩ := a; obtain ⟨_, _, ⟨⟨m⟩⟩⟩ := b
  simp at h1 h2 h3; subst h1 h2 h3; rfl
theorem shown_inj {a b : V} (ha : may a = true) (hb : may b = true) (h : shownL a = shownL b) : a = b := by
  have hi := itoa_head a.n
  have hj := itoa_head b.n
  have no : ∀ (n : Int) (d : UInt8) (l : List UInt8), d.toNat ≠ 45 → ¬ (48 ≤ d.toNat ∧ d.toNat ≤ 57) → Lib.itoa n ≠ d :: l := fun n d l h1 h2 e => by
    obtain ⟨c, m, e2, h3⟩ := itoa_head n
    rw [e2, List.cons.injEq] at e
    rw [e.1] at h3
    rcases h3 with h3 | h3
    · exact h1 h3
    · exact h2 h3
  rcases may_ways ha with ⟨k, n, t⟩ | ⟨k, t⟩ | ⟨k, n, t⟩ | ⟨k, n, t⟩ | ⟨k, n⟩ <;> rcases may_ways hb with ⟨k', n', t'⟩ | ⟨k', t'⟩ | ⟨k', n', t'⟩ | ⟨k', n', t'⟩ | ⟨k', n'⟩
  all_goals first | rw [shownL_0 k] at h | rw [shownL_1 k] at h | rw [shownL_20 k n] at h | rw [shownL_21 k n] at h | rw [shownL_3 k] at h
  all_goals first | rw [shownL_0 k'] at h | rw [shownL_1 k'] at h | rw [shownL_20 k' n'] at h | rw [shownL_21 k' n'] at h | rw [shownL_3 k'] at h
  all_goals first
    | exact v_ext (k.trans k'.symm) (n.trans n'.symm) (t.trans t'.symm)
    | exact v_ext (k.trans k'.symm) (itoa_inj h) (t.trans t'.symm)
    | (exact absurd h (by decide))
    | (exact absurd h (no _ _ _ (by decide) (by decide)))
    | (exact absurd h.symm (no _ _ _ (by decide) (by decide)))
    | (simp at h; done)
    | skip
  refine v_ext (k.trans k'.symm) (n.trans n'.symm) ?_
  simpa using h
def eqV (a b : V) : Bool := (a.k == b.k) && ((a.n == b.n) && (a.t.data.toList == b.t.data.toList))
theorem shown_iff {a b : V} (ha : may a = true) (hb : may b = true) : ((shown a).data.toList == (shown b).data.toList) = eqV a b := by
  rw [Bool.eq_iff_iff]
  simp only [beq_iff_eq, eqV, Bool.and_eq_true]
  constructor
  · intro h
    have := shown_inj ha hb h
    subst this; exact ⟨rfl, rfl, rfl⟩
  · rintro ⟨h1, h2, h3⟩
    rw [v_ext h1 h2 h3]
end Va
