/- What the document tells of parts: a sign, whether a part may be. -/
import Derived.Test.YtckgdgkkmhochaaDoorLxLex
import Derived.Test.YtckgdgkkmhochaaDoorLxRefP
import Derived.Test.YtckgdgkkmhochaaDoorVcRlex
namespace Go.Proofs.YtckgdgkkmhochaaDoor
open Go Go.RowKit Go.SF
set_option linter.unusedSimpArgs false
set_option linter.unusedVariables false

set_option maxRecDepth 100000 in
theorem rsign_q (t : ByteArray) (W : Wd) : CallsQ Tryd.prog 20 #[.string t] W (.bool (Lx.signs.contains t.data.toList)) := by
  refine vc_rsign t W.all _ ?_
  refine den_br (fun c0 => den_ret fun _ _ _ => ⟨_, rfl, ?_⟩) fun c0 => ?_
  · simp only [Sy.dens, Sy.den, E.i, E.b, E.t, gd, Env.push, List.cons_append, List.nil_append, List.append_nil, Int.toNat_natCast, beq_iff_eq] at c0; rw [c0]; rfl
  refine den_br (fun c1 => den_ret fun _ _ _ => ⟨_, rfl, ?_⟩) fun c1 => ?_
  · simp only [Sy.dens, Sy.den, E.i, E.b, E.t, gd, Env.push, List.cons_append, List.nil_append, List.append_nil, Int.toNat_natCast, beq_iff_eq] at c1; rw [c1]; rfl
  refine den_br (fun c2 => den_ret fun _ _ _ => ⟨_, rfl, ?_⟩) fun c2 => ?_
  · simp only [Sy.dens, Sy.den, E.i, E.b, E.t, gd, Env.push, List.cons_append, List.nil_append, List.append_nil, Int.toNat_natCast, beq_iff_eq] at c2; rw [c2]; rfl
  refine den_br (fun c3 => den_ret fun _ _ _ => ⟨_, rfl, ?_⟩) fun c3 => ?_
  · simp only [Sy.dens, Sy.den, E.i, E.b, E.t, gd, Env.push, List.cons_append, List.nil_append, List.append_nil, Int.toNat_natCast, beq_iff_eq] at c3; rw [c3]; rfl
  refine den_br (fun c4 => den_ret fun _ _ _ => ⟨_, rfl, ?_⟩) fun c4 => ?_
  · simp only [Sy.dens, Sy.den, E.i, E.b, E.t, gd, Env.push, List.cons_append, List.nil_append, List.append_nil, Int.toNat_natCast, beq_iff_eq] at c4; rw [c4]; rfl
  refine den_br (fun c5 => den_ret fun _ _ _ => ⟨_, rfl, ?_⟩) fun c5 => ?_
  · simp only [Sy.dens, Sy.den, E.i, E.b, E.t, gd, Env.push, List.cons_append, List.nil_append, List.append_nil, Int.toNat_natCast, beq_iff_eq] at c5; rw [c5]; rfl
  refine den_br (fun c6 => den_ret fun _ _ _ => ⟨_, rfl, ?_⟩) fun c6 => ?_
  · simp only [Sy.dens, Sy.den, E.i, E.b, E.t, gd, Env.push, List.cons_append, List.nil_append, List.append_nil, Int.toNat_natCast, beq_iff_eq] at c6; rw [c6]; rfl
  refine den_br (fun c7 => den_ret fun _ _ _ => ⟨_, rfl, ?_⟩) fun c7 => ?_
  · simp only [Sy.dens, Sy.den, E.i, E.b, E.t, gd, Env.push, List.cons_append, List.nil_append, List.append_nil, Int.toNat_natCast, beq_iff_eq] at c7; rw [c7]; rfl
  refine den_br (fun c8 => den_ret fun _ _ _ => ⟨_, rfl, ?_⟩) fun c8 => ?_
  · simp only [Sy.dens, Sy.den, E.i, E.b, E.t, gd, Env.push, List.cons_append, List.nil_append, List.append_nil, Int.toNat_natCast, beq_iff_eq] at c8; rw [c8]; rfl
  refine den_br (fun c9 => den_ret fun _ _ _ => ⟨_, rfl, ?_⟩) fun c9 => ?_
  · simp only [Sy.dens, Sy.den, E.i, E.b, E.t, gd, Env.push, List.cons_append, List.nil_append, List.append_nil, Int.toNat_natCast, beq_iff_eq] at c9; rw [c9]; rfl
  refine den_br (fun c10 => den_ret fun _ _ _ => ⟨_, rfl, ?_⟩) fun c10 => ?_
  · simp only [Sy.dens, Sy.den, E.i, E.b, E.t, gd, Env.push, List.cons_append, List.nil_append, List.append_nil, Int.toNat_natCast, beq_iff_eq] at c10; rw [c10]; rfl
  refine den_br (fun c11 => den_ret fun _ _ _ => ⟨_, rfl, ?_⟩) fun c11 => ?_
  · simp only [Sy.dens, Sy.den, E.i, E.b, E.t, gd, Env.push, List.cons_append, List.nil_append, List.append_nil, Int.toNat_natCast, beq_iff_eq] at c11; rw [c11]; rfl
  refine den_br (fun c12 => den_ret fun _ _ _ => ⟨_, rfl, ?_⟩) fun c12 => ?_
  · simp only [Sy.dens, Sy.den, E.i, E.b, E.t, gd, Env.push, List.cons_append, List.nil_append, List.append_nil, Int.toNat_natCast, beq_iff_eq] at c12; rw [c12]; rfl
  refine den_br (fun c13 => den_ret fun _ _ _ => ⟨_, rfl, ?_⟩) fun c13 => ?_
  · simp only [Sy.dens, Sy.den, E.i, E.b, E.t, gd, Env.push, List.cons_append, List.nil_append, List.append_nil, Int.toNat_natCast, beq_iff_eq] at c13; rw [c13]; rfl
  simp only [Sy.dens, Sy.den, E.i, E.b, E.t, gd, Env.push, List.cons_append, List.nil_append, List.append_nil, Int.toNat_natCast, beq_eq_false_iff_ne] at c0 c1 c2 c3 c4 c5 c6 c7 c8 c9 c10 c11 c12 c13
  have hno : Lx.signs.contains t.data.toList = false := by
    cases h : Lx.signs.contains t.data.toList with
    | false => rfl
    | true => rcases Lx.sign_mem.1 h with h | h | h | h | h | h | h | h | h | h | h | h | h | h <;> contradiction
  exact den_ret fun _ _ _ => ⟨_, rfl, by rw [hno]; rfl⟩

theorem emp_iff (t : ByteArray) : (t.data.toList == ([] : List UInt8)) = decide (t.size = 0) := by
  rw [← size_len]
  cases t.data.toList <;> simp
theorem run_head {p : UInt8 → Bool} {t : ByteArray} {i : Nat} (hi : i < t.size) (ha : i + Lx.run p (t.data.toList.drop i) = Lx.run p t.data.toList) :
    (p (gd t.data.toList i 0) = true → i + 1 + Lx.run p (t.data.toList.drop (i + 1)) = Lx.run p t.data.toList) ∧ (p (gd t.data.toList i 0) = false → Lx.run p t.data.toList ≠ t.data.toList.length) := by
  have hs := size_len t
  rw [gd_drop t.data.toList i (by omega)] at ha
  refine ⟨fun h => ?_, fun h => ?_⟩
  · rw [Lx.run_cons_t h] at ha; omega
  · rw [Lx.run_cons_f h] at ha; omega
theorem run_end {p : UInt8 → Bool} {t : ByteArray} {i : Nat} (hi : i ≤ t.size) (h2 : (t.size : Int) ≤ (i : Int)) (ha : i + Lx.run p (t.data.toList.drop i) = Lx.run p t.data.toList) : Lx.run p t.data.toList = t.data.toList.length := by
  have hs := size_len t
  rw [List.drop_eq_nil_of_le (by omega), Lx.run_nil] at ha
  omega
set_option maxRecDepth 100000 in
theorem rmay_q (k : Int) (t : ByteArray) (ht : t.size ≤ 9223372036854775807) (W : Wd) : CallsQ Tryd.prog 21 #[.agg #[.int .u8 k, .string t]] W (.bool (Lx.may k t.data.toList)) := by
  refine vc_rmay k t W.all _ ?_
  have hs := size_len t
  refine den_new fun m W1 _ x1 => den_br (fun c1 => ?_) fun c1 => ?_
  · simp only [Sy.dens, Sy.den, E.i, E.b, E.t, gd, Env.push, List.cons_append, List.nil_append, List.append_nil, Int.toNat_natCast, beq_iff_eq] at c1
    have em : Lx.may k t.data.toList = Lx.numOk t.data.toList := by unfold Lx.may; rw [if_pos c1]
    rw [em]
    have e0 := emp_iff t
    refine den_chk ?_ (den_chk ?_ (den_br (fun c2 => ?_) fun c2 => ?_))
    · simp [E.b, E.i, leB]
    · simp only [Sy.dens, Sy.den, E.i, E.b, E.t, gd, Env.push, List.cons_append, List.nil_append, List.append_nil, Int.toNat_natCast, e0]
      by_cases hz : t.size = 0
      · simp [hz]
      · rw [ltB_t (show (0 : Int) < (t.size : Int) by omega), Bool.or_true]
    · refine den_ret fun _ _ _ => ⟨_, rfl, ?_⟩
      simp only [Sy.dens, Sy.den, E.i, E.b, E.t, gd, Env.push, List.cons_append, List.nil_append, List.append_nil, Int.toNat_natCast, e0, Bool.or_eq_true, Bool.and_eq_true, decide_eq_true_eq, ltB_true, beq_iff_eq] at c2
      rcases c2 with (c2 | c2) | ⟨c2, c3⟩
      · have : t.data.toList = [] := List.eq_nil_of_length_eq_zero (by omega)
        rw [this, Lx.num_no0]; rfl
      · rw [Lx.num_no1 (by omega)]; rfl
      · have hh : t.data.toList.head? = some 48 := by
          cases hl : t.data.toList with
          | nil => rw [hl] at hs; simp at hs; omega
          | cons c r =>
            rw [Int.toNat_zero, gd_head hl] at c2
            have : c = 48 := UInt8.toNat_inj.1 (by show c.toNat = 48; omega)
            rw [this]; rfl
        rw [Lx.num_no2 hh (by omega)]; rfl
    · simp only [Sy.dens, Sy.den, E.i, E.b, E.t, gd, Env.push, List.cons_append, List.nil_append, List.append_nil, Int.toNat_natCast, e0, Bool.or_eq_false_iff, Bool.and_eq_false_iff, decide_eq_false_iff_not, ltB_false, beq_eq_false_iff_ne] at c2
      obtain ⟨⟨c2, c3⟩, c4⟩ := c2
      refine den_loop (fun j vs ls _ => ∃ i : Nat, vs = [.int .i64 (i : Int)] ∧ ls = [] ∧ i ≤ t.size ∧ j = t.size - i ∧ i + Lx.run Lx.digit (t.data.toList.drop i) = Lx.run Lx.digit t.data.toList) t.size ⟨0, rfl, rfl, Nat.zero_le _, rfl, by simp⟩ ?_
      rintro n vs ls W' x ⟨i, rfl, rfl, hi, rfl, ha⟩
      refine ⟨(i : Int), rfl, rfl, fun _ => ?_⟩
      simp only [Env.push, List.cons_append, List.nil_append, List.append_nil]
      refine den_br (fun c5 => den_chk ?_ (den_grow fun _ _ => den_br (fun c6 => ?_) fun c6 => ?_)) fun c5 => ?_
      · simp only [Sy.dens, Sy.den, E.i, E.b, E.t, gd, Env.push, List.cons_append, List.nil_append, List.append_nil, Int.toNat_natCast]; exact leB_t (by omega)
      · simp only [Sy.dens, Sy.den, E.i, E.b, E.t, gd, Env.push, List.cons_append, List.nil_append, List.append_nil, Int.toNat_natCast, ltB_true] at c5
        have c6 : (!Lx.digit (gd t.data.toList i 0)) = true := c6
        refine den_ret fun _ _ _ => ⟨_, rfl, ?_⟩
        rw [Lx.num_no3 ((run_head (by omega) ha).2 (by simpa using c6))]; rfl
      · simp only [Sy.dens, Sy.den, E.i, E.b, E.t, gd, Env.push, List.cons_append, List.nil_append, List.append_nil, Int.toNat_natCast, ltB_true] at c5
        have c6 : (!Lx.digit (gd t.data.toList i 0)) = false := c6
        refine den_again ⟨t.size - (i + 1), by omega, i + 1, ?_, rfl, by omega, rfl, (run_head (by omega) ha).1 (by simpa using c6)⟩
        simp only [Sy.dens, Sy.den, E.i, E.b, E.t, gd, Env.push, List.cons_append, List.nil_append, List.append_nil, Int.toNat_natCast]
        rw [w64i (by omega) (by omega)]; rfl
      · simp only [Sy.dens, Sy.den, E.i, E.b, E.t, gd, Env.push, List.cons_append, List.nil_append, List.append_nil, Int.toNat_natCast, ltB_false] at c5
        have hd := Lx.run_iff.1 (run_end hi c5 ha)
        refine den_ret fun _ _ _ => ⟨_, rfl, ?_⟩
        have h0 : t.data.toList ≠ [] := fun e => by rw [e] at hs; simp at hs; omega
        have h2 : ¬ (t.data.toList.head? = some 48 ∧ 1 < t.data.toList.length) := by
          rintro ⟨h5, h6⟩
          rcases c4 with c4 | c4
          · cases hl : t.data.toList with
            | nil => exact h0 hl
            | cons c r =>
              rw [hl] at h5
              obtain rfl : c = 48 := by simpa using h5
              rw [Int.toNat_zero, gd_head hl] at c4
              exact c4 rfl
          · omega
        have := Lx.num_doc h0 (by omega) h2 hd
        simp only [Sy.dens, Sy.den, E.i, E.b, E.t, gd, Env.push, List.cons_append, List.nil_append, List.append_nil, Int.toNat_natCast]
        rw [this, hs]
        have hlt : ltB (t.size : Int) 19 = decide (t.size < 19) := by unfold ltB; congr 1; rw [eq_iff_iff]; omega
        rw [hlt]; rfl
  · simp only [Sy.dens, Sy.den, E.i, E.b, E.t, gd, Env.push, List.cons_append, List.nil_append, List.append_nil, Int.toNat_natCast, beq_eq_false_iff_ne] at c1
    refine den_br (fun c2 => ?_) fun c2 => ?_
    · simp only [Sy.dens, Sy.den, E.i, E.b, E.t, gd, Env.push, List.cons_append, List.nil_append, List.append_nil, Int.toNat_natCast, beq_iff_eq] at c2
      have em : Lx.may k t.data.toList = Lx.wordOk t.data.toList := by unfold Lx.may; rw [if_neg c1, if_pos c2]
      rw [em]
      have e0 := emp_iff t
      refine den_chk ?_ (den_chk ?_ (den_br (fun c3 => den_grow fun _ _ => den_br (fun c4 => ?_) fun c4 => ?_) fun c3 => ?_))
      · simp [E.b, E.i, leB]
      · simp only [Sy.dens, Sy.den, E.i, E.b, E.t, gd, Env.push, List.cons_append, List.nil_append, List.append_nil, Int.toNat_natCast, e0]
        by_cases hz : t.size = 0
        · simp [hz]
        · rw [ltB_t (show (0 : Int) < (t.size : Int) by omega), Bool.or_true]
      · simp only [Sy.dens, Sy.den, E.i, E.b, E.t, gd, Env.push, List.cons_append, List.nil_append, List.append_nil, Int.toNat_natCast, e0, Bool.not_eq_true', Bool.or_eq_false_iff, decide_eq_false_iff_not, ltB_false] at c3
        have c4 : (!Lx.letter (gd t.data.toList 0 0)) = true := c4
        refine den_ret fun _ _ _ => ⟨_, rfl, ?_⟩
        cases hl : t.data.toList with
        | nil => rfl
        | cons c r =>
          rw [gd_head hl] at c4
          have : Lx.letter c = false := by simpa using c4
          simp [Lx.wordOk, this, Sy.den, E.b]
      · simp only [Sy.dens, Sy.den, E.i, E.b, E.t, gd, Env.push, List.cons_append, List.nil_append, List.append_nil, Int.toNat_natCast, e0, Bool.not_eq_true', Bool.or_eq_false_iff, decide_eq_false_iff_not, ltB_false] at c3
        have c4 : (!Lx.letter (gd t.data.toList 0 0)) = false := c4
        have key : Lx.wordOk t.data.toList = (Lx.run Lx.behind t.data.toList == t.data.toList.length) := by
          cases hl : t.data.toList with
          | nil => rw [hl] at hs; simp at hs; omega
          | cons c r =>
            rw [gd_head hl] at c4
            have h5 : Lx.letter c = true := by simpa using c4
            have h6 : (c :: r).length ≤ 12 := by rw [← hl]; omega
            show (Lx.letter c && ((Lx.run Lx.behind (c :: r) == (c :: r).length) && decide ((c :: r).length ≤ 12))) = _
            rw [h5, decide_eq_true h6, Bool.and_true, Bool.true_and]
        rw [key]
        refine den_loop (fun j vs ls _ => ∃ i : Nat, vs = [.int .i64 (i : Int)] ∧ ls = [] ∧ i ≤ t.size ∧ j = t.size - i ∧ i + Lx.run Lx.behind (t.data.toList.drop i) = Lx.run Lx.behind t.data.toList) t.size ⟨0, rfl, rfl, Nat.zero_le _, rfl, by simp⟩ ?_
        rintro n vs ls W' x ⟨i, rfl, rfl, hi, rfl, ha⟩
        refine ⟨(i : Int), rfl, rfl, fun _ => ?_⟩
        simp only [Env.push, List.cons_append, List.nil_append, List.append_nil]
        have go : i < t.size → Lx.behind (gd t.data.toList i 0) = true → ∃ n', n' < t.size - i ∧ ∃ i' : Nat, [Value.int .i64 (IntKind.i64.wrap ((i : Int) + 1))] = [.int .i64 (i' : Int)] ∧ ([] : List (List Value)) = [] ∧ i' ≤ t.size ∧ n' = t.size - i' ∧ i' + Lx.run Lx.behind (t.data.toList.drop i') = Lx.run Lx.behind t.data.toList := fun h5 h6 => by
          refine ⟨t.size - (i + 1), by omega, i + 1, ?_, rfl, by omega, rfl, (run_head h5 ha).1 h6⟩
          rw [w64i (by omega) (by omega)]; rfl
        refine den_br (fun c5 => den_chk ?_ (den_grow fun _ _ => den_br (fun c6 => den_grow fun _ _ => den_br (fun c7 => ?_) fun c7 => ?_) fun c6 => ?_)) fun c5 => ?_
        · simp only [Sy.dens, Sy.den, E.i, E.b, E.t, gd, Env.push, List.cons_append, List.nil_append, List.append_nil, Int.toNat_natCast]; exact leB_t (by omega)
        · simp only [Sy.dens, Sy.den, E.i, E.b, E.t, gd, Env.push, List.cons_append, List.nil_append, List.append_nil, Int.toNat_natCast, ltB_true] at c5
          have c6 : (!Lx.letter (gd t.data.toList i 0)) = true := c6
          have c7 : ((!Lx.digit (gd t.data.toList i 0)) && !(((gd t.data.toList i 0).toNat : Int) == 95)) = true := c7
          refine den_ret fun _ _ _ => ⟨_, rfl, ?_⟩
          have h8 : Lx.behind (gd t.data.toList i 0) = false := by
            unfold Lx.behind
            simp only [Bool.and_eq_true, Bool.not_eq_true'] at c6 c7
            rw [c6, c7.1, c7.2]; rfl
          have := (run_head (by omega) ha).2 h8
          have : (Lx.run Lx.behind t.data.toList == t.data.toList.length) = false := by rw [beq_eq_false_iff_ne]; exact this
          rw [this]; rfl
        · simp only [Sy.dens, Sy.den, E.i, E.b, E.t, gd, Env.push, List.cons_append, List.nil_append, List.append_nil, Int.toNat_natCast, ltB_true] at c5
          have c7 : ((!Lx.digit (gd t.data.toList i 0)) && !(((gd t.data.toList i 0).toNat : Int) == 95)) = false := c7
          refine den_again (go (by omega) ?_)
          unfold Lx.behind
          rw [Bool.and_eq_false_iff, Bool.not_eq_false', Bool.not_eq_false'] at c7
          rcases c7 with c7 | c7
          · rw [c7]; simp
          · rw [c7]; simp
        · simp only [Sy.dens, Sy.den, E.i, E.b, E.t, gd, Env.push, List.cons_append, List.nil_append, List.append_nil, Int.toNat_natCast, ltB_true] at c5
          have c6 : (!Lx.letter (gd t.data.toList i 0)) = false := c6
          refine den_again (go (by omega) ?_)
          unfold Lx.behind
          rw [show Lx.letter (gd t.data.toList i 0) = true by simpa using c6]; simp
        · simp only [Sy.dens, Sy.den, E.i, E.b, E.t, gd, Env.push, List.cons_append, List.nil_append, List.append_nil, Int.toNat_natCast, ltB_false] at c5
          refine den_ret fun _ _ _ => ⟨_, rfl, ?_⟩
          rw [run_end hi c5 ha]; simp [Sy.den, E.b]
      · simp only [Sy.dens, Sy.den, E.i, E.b, E.t, gd, Env.push, List.cons_append, List.nil_append, List.append_nil, Int.toNat_natCast, e0, Bool.not_eq_false', Bool.or_eq_true, decide_eq_true_eq, ltB_true] at c3
        refine den_ret fun _ _ _ => ⟨_, rfl, ?_⟩
        cases hl : t.data.toList with
        | nil => rfl
        | cons c r =>
          have h6 : ¬ (c :: r).length ≤ 12 := by
            rw [← hl]
            rcases c3 with c3 | c3
            · rw [hl] at hs; simp at hs; omega
            · omega
          have : Lx.wordOk (c :: r) = false := by
            show (Lx.letter c && ((Lx.run Lx.behind (c :: r) == (c :: r).length) && decide ((c :: r).length ≤ 12))) = _
            rw [decide_eq_false h6, Bool.and_false, Bool.and_false]
          rw [this]; rfl
    · simp only [Sy.dens, Sy.den, E.i, E.b, E.t, gd, Env.push, List.cons_append, List.nil_append, List.append_nil, Int.toNat_natCast, beq_eq_false_iff_ne] at c2
      refine den_br (fun c3 => ?_) fun c3 => ?_
      · simp only [Sy.dens, Sy.den, E.i, E.b, E.t, gd, Env.push, List.cons_append, List.nil_append, List.append_nil, Int.toNat_natCast, beq_iff_eq] at c3
        have em : Lx.may k t.data.toList = Lx.quoteOk t.data.toList := by unfold Lx.may; rw [if_neg c1, if_neg c2, if_pos c3]
        rw [em]
        refine den_br (fun c4 => ?_) fun c4 => ?_
        · simp only [Sy.dens, Sy.den, E.i, E.b, E.t, gd, Env.push, List.cons_append, List.nil_append, List.append_nil, Int.toNat_natCast, ltB_true] at c4
          refine den_ret fun _ _ _ => ⟨_, rfl, ?_⟩
          unfold Lx.quoteOk
          rw [decide_eq_false (by omega), Bool.and_false]; rfl
        · simp only [Sy.dens, Sy.den, E.i, E.b, E.t, gd, Env.push, List.cons_append, List.nil_append, List.append_nil, Int.toNat_natCast, ltB_false] at c4
          have key : Lx.quoteOk t.data.toList = (Lx.run Lx.quoted t.data.toList == t.data.toList.length) := by
            unfold Lx.quoteOk
            rw [decide_eq_true (by omega), Bool.and_true]
          rw [key]
          refine den_loop (fun j vs ls _ => ∃ i : Nat, vs = [.int .i64 (i : Int)] ∧ ls = [] ∧ i ≤ t.size ∧ j = t.size - i ∧ i + Lx.run Lx.quoted (t.data.toList.drop i) = Lx.run Lx.quoted t.data.toList) t.size ⟨0, rfl, rfl, Nat.zero_le _, rfl, by simp⟩ ?_
          rintro n vs ls W' x ⟨i, rfl, rfl, hi, rfl, ha⟩
          refine ⟨(i : Int), rfl, rfl, fun _ => ?_⟩
          simp only [Env.push, List.cons_append, List.nil_append, List.append_nil]
          have hq : Lx.quoted (gd t.data.toList i 0) = !((ltB ((gd t.data.toList i 0).toNat : Int) 32 || ltB 126 ((gd t.data.toList i 0).toNat : Int)) || (((gd t.data.toList i 0).toNat : Int) == 39)) := by
            unfold Lx.quoted ltB
            generalize ((gd t.data.toList i 0).toNat : Int) = z
            rw [Bool.eq_iff_iff]
            simp only [Bool.and_eq_true, decide_eq_true_eq, Bool.not_eq_true', Bool.or_eq_false_iff, decide_eq_false_iff_not, Int.not_lt]
          refine den_br (fun c5 => den_chk ?_ (den_br (fun c6 => ?_) fun c6 => ?_)) fun c5 => ?_
          · simp only [Sy.dens, Sy.den, E.i, E.b, E.t, gd, Env.push, List.cons_append, List.nil_append, List.append_nil, Int.toNat_natCast]; exact leB_t (by omega)
          · simp only [Sy.dens, Sy.den, E.i, E.b, E.t, gd, Env.push, List.cons_append, List.nil_append, List.append_nil, Int.toNat_natCast, ltB_true] at c5
            have c6 : ((ltB ((gd t.data.toList i 0).toNat : Int) 32 || ltB 126 ((gd t.data.toList i 0).toNat : Int)) || (((gd t.data.toList i 0).toNat : Int) == 39)) = true := c6
            rw [c6] at hq
            refine den_ret fun _ _ _ => ⟨_, rfl, ?_⟩
            have := (run_head (by omega) ha).2 hq
            have : (Lx.run Lx.quoted t.data.toList == t.data.toList.length) = false := by rw [beq_eq_false_iff_ne]; exact this
            rw [this]; rfl
          · simp only [Sy.dens, Sy.den, E.i, E.b, E.t, gd, Env.push, List.cons_append, List.nil_append, List.append_nil, Int.toNat_natCast, ltB_true] at c5
            have c6 : ((ltB ((gd t.data.toList i 0).toNat : Int) 32 || ltB 126 ((gd t.data.toList i 0).toNat : Int)) || (((gd t.data.toList i 0).toNat : Int) == 39)) = false := c6
            rw [c6] at hq
            refine den_again ⟨t.size - (i + 1), by omega, i + 1, ?_, rfl, by omega, rfl, (run_head (by omega) ha).1 hq⟩
            simp only [Sy.dens, Sy.den, E.i, E.b, E.t, gd, Env.push, List.cons_append, List.nil_append, List.append_nil, Int.toNat_natCast]
            rw [w64i (by omega) (by omega)]; rfl
          · simp only [Sy.dens, Sy.den, E.i, E.b, E.t, gd, Env.push, List.cons_append, List.nil_append, List.append_nil, Int.toNat_natCast, ltB_false] at c5
            refine den_ret fun _ _ _ => ⟨_, rfl, ?_⟩
            rw [run_end hi c5 ha]; simp [Sy.den, E.b]
      · simp only [Sy.dens, Sy.den, E.i, E.b, E.t, gd, Env.push, List.cons_append, List.nil_append, List.append_nil, Int.toNat_natCast, beq_eq_false_iff_ne] at c3
        refine den_br (fun c4 => ?_) fun c4 => ?_
        · simp only [Sy.dens, Sy.den, E.i, E.b, E.t, gd, Env.push, List.cons_append, List.nil_append, List.append_nil, Int.toNat_natCast, beq_iff_eq] at c4
          have em : Lx.may k t.data.toList = Lx.signs.contains t.data.toList := by unfold Lx.may; rw [if_neg c1, if_neg c2, if_neg c3, if_pos c4]
          rw [em]
          refine den_call_q (fun _ _ => rsign_q t W1) ⟨_, rfl, fun W2 x2 => den_ret fun _ _ _ => ⟨_, rfl, rfl⟩⟩
        · simp only [Sy.dens, Sy.den, E.i, E.b, E.t, gd, Env.push, List.cons_append, List.nil_append, List.append_nil, Int.toNat_natCast, beq_eq_false_iff_ne] at c4
          have em : Lx.may k t.data.toList = false := by unfold Lx.may; rw [if_neg c1, if_neg c2, if_neg c3, if_neg c4]
          rw [em]
          exact den_ret fun _ _ _ => ⟨_, rfl, rfl⟩
end Go.Proofs.YtckgdgkkmhochaaDoor
