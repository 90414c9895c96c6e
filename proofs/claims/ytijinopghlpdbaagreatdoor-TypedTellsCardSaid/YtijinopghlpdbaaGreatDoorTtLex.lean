/- What the document tells of parts: a sign, whether a part may be. -/
import Derived.Test.YtijinopghlpdbaaGreatDoorLxLex
import Derived.Test.YtijinopghlpdbaaGreatDoorTtPlain
import Derived.Test.YtijinopghlpdbaaGreatDoorTtVc
namespace Go.Proofs.YtijinopghlpdbaaGreatDoor
open Go Go.RowKit Go.SF
set_option linter.unusedSimpArgs false
set_option linter.unusedVariables false

set_option maxRecDepth 100000 in
theorem rsign_q (t : ByteArray) (W : Wd) : CallsQ Tryz.prog 58 #[.string t] W (.bool (Lx.signs.contains t.data.toList)) := by
  refine vc_rsign t W.all _ ?_
  refine den_br (fun c0 => den_ret fun _ _ _ => ⟨_, rfl, ?_⟩) fun c0 => ?_
  · simp only [Sy.dens, Sy.den, E.i, E.b, E.t, gd, Env.push, List.cons_append, List.nil_append, List.append_nil, Int.toNat_natCast, beq_iff_eq] at c0; rw [c0]; rfl
  refine den_br (fun c1 => den_ret fun _ _ _ => ⟨_, rfl, ?_⟩) fun c1 => ?_
  · simp only [Sy.dens, Sy.den, E.i, E.b, E.t, gd, Env.push, List.cons_append, List.nil_append, List.append_nil, Int.toNat_natCast, beq_iff_eq] at c1; rw [c1]; rfl
  refine den_br (fun c2 => den_ret fun _ _ _ => ⟨_, rfl, ?_⟩) fun c2 => ?_
  · simp only [Sy.dens, Sy.den, E.i, E.b, E.t, gd, Env.push, List.cons_append, List.nil_append, List.append_nil, Int.toNat_natCast, beq_iff_eq] at c2; rw [c2]; rfl
  refine den_br (fun c3 => den_ret fun _ _ _ => ⟨_, rfl, ?_⟩) fun c3 => ?_
  · simp only [Sy.dens, Sy.den, E.i, E.b, E.t, gd, Env.push, List.cons_append, List.nil_append, List.append_nil, Int.toNat_natCast, beq_iff_eq] at c3; rw [c3]; rfl
  refine den_br (fun c4 => den_ret fun _ _ _ => ⟨_, rfl, ?_⟩) fun c4 => ?_
  · simp only [Sy.dens, Sy.den, E.i, E.b, E.t, gd, Env.push, List.cons_append, List.nil_append, List.append_nil, Int.toNat_natCast, beq_iff_eq] at c4; rw [c4]; rfl
  refine den_br (fun c5 => den_ret fun _ _ _ => ⟨_, rfl, ?_⟩) fun c5 => ?_
  · simp only [Sy.dens, Sy.den, E.i, E.b, E.t, gd, Env.push, List.cons_append, List.nil_append, List.append_nil, Int.toNat_natCast, beq_iff_eq] at c5; rw [c5]; rfl
  refine den_br (fun c6 => den_ret fun _ _ _ => ⟨_, rfl, ?_⟩) fun c6 => ?_
  · simp only [Sy.dens, Sy.den, E.i, E.b, E.t, gd, Env.push, List.cons_append, List.nil_append, List.append_nil, Int.toNat_natCast, beq_iff_eq] at c6; rw [c6]; rfl
  refine den_br (fun c7 => den_ret fun _ _ _ => ⟨_, rfl, ?_⟩) fun c7 => ?_
  · simp only [Sy.dens, Sy.den, E.i, E.b, E.t, gd, Env.push, List.cons_append, List.nil_append, List.append_nil, Int.toNat_natCast, beq_iff_eq] at c7; rw [c7]; rfl
  refine den_br (fun c8 => den_ret fun _ _ _ => ⟨_, rfl, ?_⟩) fun c8 => ?_
  · simp only [Sy.dens, Sy.den, E.i, E.b, E.t, gd, Env.push, List.cons_append, List.nil_append, List.append_nil, Int.toNat_natCast, beq_iff_eq] at c8; rw [c8]; rfl
  refine den_br (fun c9 => den_ret fun _ _ _ => ⟨_, rfl, ?_⟩) fun c9 => ?_
  · simp only [Sy.dens, Sy.den, E.i, E.b, E.t, gd, Env.push, List.cons_append, List.nil_append, List.append_nil, Int.toNat_natCast, beq_iff_eq] at c9; rw [c9]; rfl
  refine den_br (fun c10 => den_ret fun _ _ _ => ⟨_, rfl, ?_⟩) fun c10 => ?_
  · simp only [Sy.dens, Sy.den, E.i, E.b, E.t, gd, Env.push, List.cons_append, List.nil_append, List.append_nil, Int.toNat_natCast, beq_iff_eq] at c10; rw [c10]; rfl
  refine den_br (fun c11 => den_ret fun _ _ _ => ⟨_, rfl, ?_⟩) fun c11 => ?_
  · simp only [Sy.dens, Sy.den, E.i, E.b, E.t, gd, Env.push, List.cons_append, List.nil_append, List.append_nil, Int.toNat_natCast, beq_iff_eq] at c11; rw [c11]; rfl
  refine den_br (fun c12 => den_ret fun _ _ _ => ⟨_, rfl, ?_⟩) fun c12 => ?_
  · simp only [Sy.dens, Sy.den, E.i, E.b, E.t, gd, Env.push, List.cons_append, List.nil_append, List.append_nil, Int.toNat_natCast, beq_iff_eq] at c12; rw [c12]; rfl
  refine den_br (fun c13 => den_ret fun _ _ _ => ⟨_, rfl, ?_⟩) fun c13 => ?_
  · simp only [Sy.dens, Sy.den, E.i, E.b, E.t, gd, Env.push, List.cons_append, List.nil_append, List.append_nil, Int.toNat_natCast, beq_iff_eq] at c13; rw [c13]; rfl
  simp only [Sy.dens, Sy.den, E.i, E.b, E.t, gd, Env.push, List.cons_append, List.nil_append, List.append_nil, Int.toNat_natCast, beq_eq_false_iff_ne] at c0 c1 c2 c3 c4 c5 c6 c7 c8 c9 c10 c11 c12 c13
  have hno : Lx.signs.contains t.data.toList = false := by
    cases h : Lx.signs.contains t.data.toList with
    | false => rfl
    | true => rcases Lx.sign_mem.1 h with h | h | h | h | h | h | h | h | h | h | h | h | h | h <;> contradiction
  exact den_ret fun _ _ _ => ⟨_, rfl, by rw [hno]; rfl⟩

theorem emp_iff (t : ByteArray) : (t.data.toList == ([] : List UInt8)) = decide (t.size = 0) := by
  rw [← size_len]
  cases t.data.toList <;> simp
theorem run_head {p : UInt8 → Bool} {t : ByteArray} {i : Nat} (hi : i < t.size) (ha : i + Lx.run p (t.data.toList.drop i) = Lx.run p t.data.toList) :
    (p (gd t.data.toList i 0) = true → i + 1 + Lx.run p (t.data.toList.drop (i + 1)) = Lx.run p t.data.toList) ∧ (p (gd t.data.toList i 0) = false → Lx.run p t.data.toList ≠ t.data.toList.length) := by
  have hs := size_len t
  rw [gd_drop t.data.toList i (by omega)] at ha
  refine ⟨fun h => ?_, fun h => ?_⟩
  · rw [Lx.run_cons_t h] at ha; omega
  · rw [Lx.run_cons_f h] at ha; omega
theorem run_end {p : UInt8 → Bool} {t : ByteArray} {i : Nat} (hi : i ≤ t.size) (h2 : (t.size : Int) ≤ (i : Int)) (ha : i + Lx.run p (t.data.toList.drop i) = Lx.run p t.data.toList) : Lx.run p t.data.toList = t.data.toList.length := by
  have hs := size_len t
  rw [List.drop_eq_nil_of_le (by omega), Lx.run_nil] at ha
  omega
set_option maxRecDepth 100000 in
theorem rmay_q (k : Int) (t : ByteArray) (ht : t.size ≤ 9223372036854775807) (W : Wd) : CallsQ Tryz.prog 59 #[.agg #[.int .u8 k, .string t]] W (.bool (Lx.may k t.data.toList)) := by
  refine vc_rmay k t W.all _ ?_
  have hs := size_len t
  refine den_new fun m W1 _ x1 => den_br (fun c1 => ?_) fun c1 => ?_
  · simp only [Sy.dens, Sy.den, E.i, E.b, E.t, gd, Env.push, List.cons_append, List.nil_append, List.append_nil, Int.toNat_natCast, beq_iff_eq] at c1
    have em : Lx.may k t.data.toList = Lx.numOk t.data.toList := by unfold Lx.may; rw [if_pos c1]
    rw [em]
    have e0 := emp_iff t
    refine den_chk ?_ (den_chk ?_ (den_br (fun c2 => ?_) fun c2 => ?_))
    · simp [E.b, E.i, leB]
    · simp only [Sy.dens, Sy.den, E.i, E.b, E.t, gd, Env.push, List.cons_append, List.nil_append, List.append_nil, Int.toNat_natCast, e0]
      by_cases hz : t.size = 0
      · simp [hz]
      · rw [ltB_t (show (0 : Int) < (t.size : Int) by omega), Bool.or_true]
    · refine den_ret fun _ _ _ => ⟨_, rfl, ?_⟩
      simp only [Sy.dens, Sy.den, E.i, E.b, E.t, gd, Env.push, List.cons_append, List.nil_append, List.append_nil, Int.toNat_natCast, e0, Bool.or_eq_true, Bool.and_eq_true, decide_eq_true_eq, ltB_true, beq_iff_eq] at c2
      rcases c2 with (c2 | c2) | ⟨c2, c3⟩
      · have : t.data.toList = [] := List.eq_nil_of_length_eq_zero (by omega)
        rw [this, Lx.num_no0]; rfl
      · rw [Lx.num_no1 (by omega)]; rfl
      · have hh : t.data.toList.head? = some 48 := by
          cases hl : t.data.toList with
          | nil => rw [hl] at hs; simp at hs; omega
          | cons c r =>
            rw [Int.toNat_zero, gd_head hl] at c2
            have : c = 48 := UInt8.toNat_inj.1 (by show c.toNat = 48; omega)
            rw [this]; rfl
        rw [Lx.num_no2 hh (by omega)]; rfl
    · simp only [Sy.dens, Sy.den, E.i, E.b, E.t, gd, Env.push, List.cons_append, List.nil_append, List.append_nil, Int.toNat_natCast, e0, Bool.or_eq_false_iff, Bool.and_eq_false_iff, decide_eq_false_iff_not, ltB_false, beq_eq_false_iff_ne] at c2
      obtain ⟨⟨c2, c3⟩, c4⟩ := c2
      refine den_loop (fun j vs ls _ => ∃ i : Nat, vs = [.int .i64 (i : Int)] ∧ ls = [] ∧ i ≤ t.size ∧ j = t.size - i ∧ i + Lx.run Lx.digit (t.data.toList.drop i) = Lx.run Lx.digit t.data.toList) t.size ⟨0, rfl, rfl, Nat.zero_le _, rfl, by simp⟩ ?_
      rintro n vs ls W' x ⟨i, rfl, rfl, hi, rfl, ha⟩
      refine ⟨(i : Int), rfl, rfl, fun _ => ?_⟩
      simp only [Env.push, List.cons_append, List.nil_append, List.append_nil]
      refine den_br (fun c5 => den_chk ?_ (den_grow fun _ _ => den_br (fun c6 => ?_) fun c6 => ?_)) fun c5 => ?_
      · simp only [Sy.dens, Sy.den, E.i, E.b, E.t, gd, Env.push, List.cons_append, List.nil_append, List.append_nil, Int.toNat_natCast]; exact leB_t (by omega)
      · simp only [Sy.dens, Sy.den, E.i, E.b, E.t, gd, Env.push, List.cons_append, List.nil_append, List.append_nil, Int.toNat_natCast, ltB_true] at c5
        have c6 : (!Lx.digit (gd t.data.toList i 0)) = true := c6
        refine den_ret fun _ _ _ => ⟨_, rfl, ?_⟩
        rw [Lx.num_no3 ((run_head (by omega) ha).2 (by simpa using c6))]; rfl
      · simp only [Sy.dens, Sy.den, E.i, E.b, E.t, gd, Env.push, List.cons_append, List.nil_append, List.append_nil, Int.toNat_natCast, ltB_true] at c5
        have c6 : (!Lx.digit (gd t.data.toList i 0)) = false := c6
        refine den_again ⟨t.size - (i + 1), by omega, i + 1, ?_, rfl, by omega, rfl, (run_head (by omega) ha).1 (by simpa using c6)⟩
        simp only [Sy.dens, Sy.den, E.i, E.b, E.t, gd, Env.push, List.cons_append, List.nil_append, List.append_nil, Int.toNat_natCast]
        rw [w64i (by omega) (by omega)]; rfl
      · simp only [Sy.dens, Sy.den, E.i, E.b, E.t, gd, Env.push, List.cons_append, List.nil_append, List.append_nil, Int.toNat_natCast, ltB_false] at c5
        have hd := Lx.run_iff.1 (run_end hi c5 ha)
        refine den_ret fun _ _ _ => ⟨_, rfl, ?_⟩
        have h0 : t.data.toList ≠ [] := fun e => by rw [e] at hs; simp at hs; omega
        have h2 : ¬ (t.data.toList.head? = some 48 ∧ 1 < t.data.toList.length) := by
          rintro ⟨h5, h6⟩
          rcases c4 with c4 | c4
          · cases hl : t.data.toList with
            | nil => exact h0 hl
            | cons c r =>
              rw [hl] at h5
              obtain rfl : c = 48 := by simpa using h5
              rw [Int.toNat_zero, gd_head hl] at c4
              exact c4 rfl
          · omega
        have := Lx.num_doc h0 (by omega) h2 hd
        simp only [Sy.dens, Sy.den, E.i, E.b, E.t, gd, Env.push, List.cons_append, List.nil_append, List.append_nil, Int.toNat_natCast]
        rw [this, hs]
        have hlt : ltB (t.size : Int) 19 = decide (t.size < 19) := by unfold ltB; congr 1; rw [eq_iff_iff]; omega
        rw [hlt]; rfl
  · simp only [Sy.dens, Sy.den, E.i, E.b, E.t, gd, Env.push, List.cons_append, List.nil_append, List.append_nil, Int.toNat_natCast, beq_eq_false_iff_ne] at c1
    refine den_br (fun c2 => ?_) fun c2 => ?_
    · simp only [Sy.dens, Sy.den, E.i, E.b, E.t, gd, Env.push, List.cons_append, List.nil_append, List.append_nil, Int.toNat_natCast, beq_iff_eq] at c2
      have em : Lx.may k t.data.toList = Lx.wordOk t.data.toList := by unfold Lx.may; rw [if_neg c1, if_pos c2]
      rw [em]
      have e0 := emp_iff t
      refine den_chk ?_ (den_chk ?_ (den_br (fun c3 => den_grow fun _ _ => den_br (fun c4 => ?_) fun c4 => ?_) fun c3 => ?_))
      · simp [E.b, E.i, leB]
      · simp only [Sy.dens, Sy.den, E.i, E.b, E.t, gd, Env.push, List.cons_append, List.nil_append, List.append_nil, Int.toNat_natCast, e0]
        by_cases hz : t.size = 0
        · simp [hz]
        · rw [ltB_t (show (0 : Int) < (t.size : Int) by omega), Bool.or_true]
      · simp only [Sy.dens, Sy.den, E.i, E.b, E.t, gd, Env.push, List.cons_append, List.nil_append, List.append_nil, Int.toNat_natCast, e0, Bool.not_eq_true', Bool.or_eq_false_iff, decide_eq_false_iff_not, ltB_false] at c3
        have c4 : (!Lx.letter (gd t.data.toList 0 0)) = true := c4
        refine den_ret fun _ _ _ => ⟨_, rfl, ?_⟩
        cases hl : t.data.toList with
        | nil => rfl
        | cons c r =>
          rw [gd_head hl] at c4
          have : Lx.letter c = false := by simpa using c4
          simp [Lx.wordOk, this, Sy.den, E.b]
      · simp only [Sy.dens, Sy.den, E.i, E.b, E.t, gd, Env.push, List.cons_append, List.nil_append, List.append_nil, Int.toNat_natCast, e0, Bool.not_eq_true', Bool.or_eq_false_iff, decide_eq_false_iff_not, ltB_false] at c3
        have c4 : (!Lx.letter (gd t.data.toList 0 0)) = false := c4
        have key : Lx.wordOk t.data.toList = (Lx.run Lx.behind t.data.toList == t.data.toList.length) := by
          cases hl : t.data.toList with
          | nil => rw [hl] at hs; simp at hs; omega
          | cons c r =>
            rw [gd_head hl] at c4
            have h5 : Lx.letter c = true := by simpa using c4
            have h6 : (c :: r).length ≤ 12 := by rw [← hl]; omega
            show (Lx.letter c && ((Lx.run Lx.behind (c :: r) == (c :: r).length) && decide ((c :: r).length ≤ 12))) = _
            rw [h5, decide_eq_true h6, Bool.and_true, Bool.true_and]
        rw [key]
        refine den_loop (fun j vs ls _ => ∃ i : Nat, vs = [.int .i64 (i : Int)] ∧ ls = [] ∧ i ≤ t.size ∧ j = t.size - i ∧ i + Lx.run Lx.behind (t.data.toList.drop i) = Lx.run Lx.behind t.data.toList) t.size ⟨0, rfl, rfl, Nat.zero_le _, rfl, by simp⟩ ?_
        rintro n vs ls W' x ⟨i, rfl, rfl, hi, rfl, ha⟩
        refine ⟨(i : Int), rfl, rfl, fun _ => ?_⟩
        simp only [Env.push, List.cons_append, List.nil_append, List.append_nil]
        have go : i < t.size → Lx.behind (gd t.data.toList i 0) = true → ∃ n', n' < t.size - i ∧ ∃ i' : Nat, [Value.int .i64 (IntKind.i64.wrap ((i : Int) + 1))] = [.int .i64 (i' : Int)] ∧ ([] : List (List Value)) = [] ∧ i' ≤ t.size ∧ n' = t.size - i' ∧ i' + Lx.run Lx.behind (t.data.toList.drop i') = Lx.run Lx.behind t.data.toList := fun h5 h6 => by
          refine ⟨t.size - (i + 1), by omega, i + 1, ?_, rfl, by omega, rfl, (run_head h5 ha).1 h6⟩
          rw [w64i (by omega) (by omega)]; rfl
        refine den_br (fun c5 => den_chk ?_ (den_grow fun _ _ => den_br (fun c6 => den_grow fun _ _ => den_br (fun c7 => ?_) fun c7 => ?_) fun c6 => ?_)) fun c5 => ?_
        · simp only [Sy.dens, Sy.den, E.i, E.b, E.t, gd, Env.push, List.cons_append, List.nil_append, List.append_nil, Int.toNat_natCast]; exact leB_t (by omega)
        · simp only [Sy.dens, Sy.den, E.i, E.b, E.t, gd, Env.push, List.cons_append, List.nil_append, List.append_nil, Int.toNat_natCast, ltB_true] at c5
          have c6 : (!Lx.letter (gd t.data.toList i 0)) = true := c6
          have c7 : ((!Lx.digit (gd t.data.toList i 0)) && !(((gd t.data.toList i 0).toNat : Int) == 95)) = true := c7
          refine den_ret fun _ _ _ => ⟨_, rfl, ?_⟩
          have h8 : Lx.behind (gd t.data.toList i 0) = false := by
            unfold Lx.behind
            simp only [Bool.and_eq_true, Bool.not_eq_true'] at c6 c7
            rw [c6, c7.1, c7.2]; rfl
          have := (run_head (by omega) ha).2 h8
          have : (Lx.run Lx.behind t.data.toList == t.data.toList.length) = false := by rw [beq_eq_false_iff_ne]; exact this
          rw [this]; rfl
        · simp only [Sy.dens, Sy.den, E.i, E.b, E.t, gd, Env.push, List.cons_append, List.nil_append, List.append_nil, Int.toNat_natCast, ltB_true] at c5
          have c7 : ((!Lx.digit (gd t.data.toList i 0)) && !(((gd t.data.toList i 0).toNat : Int) == 95)) = false := c7
          refine den_again (go (by omega) ?_)
          unfold Lx.behind
          rw [Bool.and_eq_false_iff, Bool.not_eq_false', Bool.not_eq_false'] at c7
          rcases c7 with c7 | c7
          · rw [c7]; simp
          · rw [c7]; simp
        · simp only [Sy.dens, Sy.den, E.i, E.b, E.t, gd, Env.push, List.cons_append, List.nil_append, List.append_nil, Int.toNat_natCast, ltB_true] at c5
          have c6 : (!Lx.letter (gd t.data.toList i 0)) = false := c6
          refine den_again (go (by omega) ?_)
          unfold Lx.behind
          rw [show Lx.letter (gd t.data.toList i 0) = true by simpa using c6]; simp
        · simp only [Sy.dens, Sy.den, E.i, E.b, E.t, gd, Env.push, List.cons_append, List.nil_append, List.append_nil, Int.toNat_natCast, ltB_false] at c5
          refine den_ret fun _ _ _ => ⟨_, rfl, ?_⟩
          rw [run_end hi c5 ha]; simp [Sy.den, E.b]
      · simp only [Sy.dens, Sy.den, E.i, E.b, E.t, gd, Env.push, List.cons_append, List.nil_append, List.append_nil, Int.toNat_natCast, e0, Bool.not_eq_false', Bool.or_eq_true, decide_eq_true_eq, ltB_true] at c3
        refine den_ret fun _ _ _ => ⟨_, rfl, ?_⟩
        cases hl : t.data.toList with
        | nil => rfl
        | cons c r =>
          have h6 : ¬ (c :: r).length ≤ 12 := by
            rw [← hl]
            rcases c3 with c3 | c3
            · rw [hl] at hs; simp at hs; omega
            · omega
          have : Lx.wordOk (c :: r) = false := by
            show (Lx.letter c && ((Lx.run Lx.behind (c :: r) == (c :: r).length) && decide ((c :: r).length ≤ 12))) = _
            rw [decide_eq_false h6, Bool.and_false, Bool.and_false]
          rw [this]; rfl
    · simp only [Sy.dens, Sy.den, E.i, E.b, E.t, gd, Env.push, List.cons_append, List.nil_append, List.append_nil, Int.toNat_natCast, beq_eq_false_iff_ne] at c2
      refine den_br (fun c3 => ?_) fun c3 => ?_
      · simp only [Sy.dens, Sy.den, E.i, E.b, E.t, gd, Env.push, List.cons_append, List.nil_append, List.append_nil, Int.toNat_natCast, beq_iff_eq] at c3
        have em : Lx.may k t.data.toList = Lx.quoteOk t.data.toList := by unfold Lx.may; rw [if_neg c1, if_neg c2, if_pos c3]
        rw [em]
        refine den_br (fun c4 => ?_) fun c4 => ?_
        · simp only [Sy.dens, Sy.den, E.i, E.b, E.t, gd, Env.push, List.cons_append, List.nil_append, List.append_nil, Int.toNat_natCast, ltB_true] at c4
          refine den_ret fun _ _ _ => ⟨_, rfl, ?_⟩
          unfold Lx.quoteOk
          rw [decide_eq_false (by omega), Bool.and_false]; rfl
        · simp only [Sy.dens, Sy.den, E.i, E.b, E.t, gd, Env.push, List.cons_append, List.nil_append, List.append_nil, Int.toNat_natCast, ltB_false] at c4
          have key : Lx.quoteOk t.data.toList = (Lx.run Lx.quoted t.data.toList == t.data.toList.length) := by
            unfold Lx.quoteOk
            rw [decide_eq_true (by omega), Bool.and_true]
          rw [key]
          refine den_loop (fun j vs ls _ => ∃ i : Nat, vs = [.int .i64 (i : Int)] ∧ ls = [] ∧ i ≤ t.size ∧ j = t.size - i ∧ i + Lx.run Lx.quoted (t.data.toList.drop i) = Lx.run Lx.quoted t.data.toList) t.size ⟨0, rfl, rfl, Nat.zero_le _, rfl, by simp⟩ ?_
          rintro n vs ls W' x ⟨i, rfl, rfl, hi, rfl, ha⟩
          refine ⟨(i : Int), rfl, rfl, fun _ => ?_⟩
          simp only [Env.push, List.cons_append, List.nil_append, List.append_nil]
          have hq : Lx.quoted (gd t.data.toList i 0) = !((ltB ((gd t.data.toList i 0).toNat : Int) 32 || ltB 126 ((gd t.data.toList i 0).toNat : Int)) || (((gd t.data.toList i 0).toNat : Int) == 39)) := by
            unfold Lx.quoted ltB
            generalize ((gd t.data.toList i 0).toNat : Int) = z
            rw [Bool.eq_iff_iff]
            simp only [Bool.and_eq_true, decide_eq_true_eq, Bool.not_eq_true', Bool.or_eq_false_iff, decide_eq_false_iff_not, Int.not_lt]
          refine den_br (fun c5 => den_chk ?_ (den_br (fun c6 => ?_) fun c6 => ?_)) fun c5 => ?_
          · simp only [Sy.dens, Sy.den, E.i, E.b, E.t, gd, Env.push, List.cons_append, List.nil_append, List.append_nil, Int.toNat_natCast]; exact leB_t (by omega)
          · simp only [Sy.dens, Sy.den, E.i, E.b, E.t, gd, Env.push, List.cons_append, List.nil_append, List.append_nil, Int.toNat_natCast, ltB_true] at c5
            have c6 : ((ltB ((gd t.data.toList i 0).toNat : Int) 32 || ltB 126 ((gd t.data.toList i 0).toNat : Int)) || (((gd t.data.toList i 0).toNat : Int) == 39)) = true := c6
            rw [c6] at hq
            refine den_ret fun _ _ _ => ⟨_, rfl, ?_⟩
            have := (run_head (by omega) ha).2 hq
            have : (Lx.run Lx.quoted t.data.toList == t.data.toList.length) = false := by rw [beq_eq_false_iff_ne]; exact this
            rw [this]; rfl
          · simp only [Sy.dens, Sy.den, E.i, E.b, E.t, gd, Env.push, List.cons_append, List.nil_append, List.append_nil, Int.toNat_natCast, ltB_true] at c5
            have c6 : ((ltB ((gd t.data.toList i 0).toNat : Int) 32 || ltB 126 ((gd t.data.toList i 0).toNat : Int)) || (((gd t.data.toList i 0).toNat : Int) == 39)) = false := c6
            rw [c6] at hq
            refine den_again ⟨t.size - (i + 1), by omega, i + 1, ?_, rfl, by omega, rfl, (run_head (by omega) ha).1 hq⟩
            simp only [Sy.dens, Sy.den, E.i, E.b, E.t, gd, Env.push, List.cons_append, List.nil_append, List.append_nil, Int.toNat_natCast]
            rw [w64i (by omega) (by omega)]; rfl
          · simp only [Sy.dens, Sy.den, E.i, E.b, E.t, gd, Env.push, List.cons_append, List.nil_append, List.append_nil, Int.toNat_natCast, ltB_false] at c5
            refine den_ret fun _ _ _ => ⟨_, rfl, ?_⟩
            rw [run_end hi c5 ha]; simp [Sy.den, E.b]
      · simp only [Sy.dens, Sy.den, E.i, E.b, E.t, gd, Env.push, List.cons_append, List.nil_append, List.append_nil, Int.toNat_natCast, beq_eq_false_iff_ne] at c3
        refine den_br (fun c4 => ?_) fun c4 => ?_
        · simp only [Sy.dens, Sy.den, E.i, E.b, E.t, gd, Env.push, List.cons_append, List.nil_append, List.append_nil, Int.toNat_natCast, beq_iff_eq] at c4
          have em : Lx.may k t.data.toList = Lx.signs.contains t.data.toList := by unfold Lx.may; rw [if_neg c1, if_neg c2, if_neg c3, if_pos c4]
          rw [em]
          refine den_call_q (fun _ _ => rsign_q t W1) ⟨_, rfl, fun W2 x2 => den_ret fun _ _ _ => ⟨_, rfl, rfl⟩⟩
        · simp only [Sy.dens, Sy.den, E.i, E.b, E.t, gd, Env.push, List.cons_append, List.nil_append, List.append_nil, Int.toNat_natCast, beq_eq_false_iff_ne] at c4
          have em : Lx.may k t.data.toList = false := by unfold Lx.may; rw [if_neg c1, if_neg c2, if_neg c3, if_neg c4]
          rw [em]
          exact den_ret fun _ _ _ => ⟨_, rfl, rfl⟩
end Go.Proofs.YtijinopghlpdbaaGreatDoor

/- The document's Lex: it tells what the program's does. -/
namespace Go.Proofs.YtijinopghlpdbaaGreatDoor
open Go Go.RowKit Go.SF
set_option linter.unusedSimpArgs false
set_option linter.unusedVariables false

theorem ext_cut (t : ByteArray) (i e : Nat) (he : e ≤ t.size) : t.extract i e = ⟨((t.data.toList.drop i).take (e - i)).toArray⟩ := ba_ext (by simp [ByteArray.data_extract, List.extract_eq_take_drop])
theorem run_at {p : UInt8 → Bool} {t : ByteArray} {i e : Nat} (he : e < t.size) (ha : e + Lx.run p (t.data.toList.drop e) = i + Lx.run p (t.data.toList.drop i)) :
    (p (gd t.data.toList e 0) = true → e + 1 + Lx.run p (t.data.toList.drop (e + 1)) = i + Lx.run p (t.data.toList.drop i)) ∧ (p (gd t.data.toList e 0) = false → e = i + Lx.run p (t.data.toList.drop i)) := by
  have hs := size_len t
  rw [gd_drop t.data.toList e (by omega)] at ha
  refine ⟨fun h => ?_, fun h => ?_⟩
  · rw [Lx.run_cons_t h] at ha; omega
  · rw [Lx.run_cons_f h] at ha; omega
/-- behind a part's bytes -/
def endT (kd : Int) (b : Nat) (cut nx : E) : Tree :=
  .wr (.call 59 [.agg [.int .u8 (.il kd), .str cut]] [] [⟨.slc 0 (.nv 0) (.nv 1), .nv 0, 99, 2, [.l 0]⟩] [] (.bool (.bv b)) ⟨0, 0, 1, 0, 0, 0, 0, 0⟩ (.br (.un .not (.bv b)) t_rlex_2
    (.new (.chk (.bin .le (.bin .add (.nv 0) (.il 1)) (.il 5864062014805)) (.app (.bin .add (.nv 0) (.il 1)) (.frz [⟨1, 99, [.int .u8 (.il kd), .str cut]⟩, ⟨0, 99, [.int .u8 (.il kd), .str cut]⟩] (.again 0 [.int .i64 nx, .slc 1 (.bin .add (.nv 0) (.il 1)) (.nv 2)]
      [⟨.slc 1 (.bin .add (.nv 0) (.il 1)) (.nv 2), .bin .add (.nv 0) (.il 1), 99, 2, [.l 0, .s (.int .u8 (.il kd)), .s (.str cut)]⟩])))))))
theorem end_den {n0 : Nat} {R : Ending → World → Prop} {O : List Value → List (List Value) → Wd → Prop} {L' : Lv} (tk : Lx.Tok) {b : Nat} {cut nx : E} {i' : Nat} {ts : List Lx.Tok} {ca : Nat} {a : Option Addr} {t : ByteArray} {Is : List Int} {Bs : List Bool} {Ms : List Nat} {W : Wd} (hb : b = Bs.length)
    (hcut : ∀ N B A M L, cut.t { I := Is, N := N, B := B, T := [t], A := A, M := M, L := L } = ⟨tk.t.toArray⟩) (hnx : ∀ N B A M L, nx.i { I := Is, N := N, B := B, T := [t], A := A, M := M, L := L } = (i' : Int)) (hlen : tk.t.length ≤ 1000000) (hts : ts.length ≤ 1000000)
    (bad : Lx.may tk.k tk.t = false → ∀ W' : Wd, R (.returned (.tuple #[.slice none 0 0, .int .i64 4])) W'.w)
    (good : Lx.may tk.k tk.t = true → ∀ a' c' W', O [.int .i64 (i' : Int), .slice a' (ts ++ [tk]).length c'] [toksC (ts ++ [tk])] W') :
    (endT tk.k b cut nx).den Tryz.prog n0 R (O :: L') { I := Is, N := [ts.length, ca], B := Bs, T := [t], A := [a], M := Ms, L := [toksC ts] } W := by
  refine den_wr fun W5 x5 => ?_
  have hm := rmay_q tk.k ⟨tk.t.toArray⟩ (by rw [← size_len]; simp only; omega) W5
  refine den_call_q (v := .bool (Lx.may tk.k tk.t)) (fun _ _ => ?_) ⟨Lx.may tk.k tk.t, ?_, fun W6 x6 => ?_⟩
  · simp only [Sy.dens, Sy.den, E.i, hcut]
    exact hm
  · subst hb
    simp only [Sy.den, E.b, Env.push]
    rw [gd_last]
  have hbv : gd (Bs ++ [Lx.may tk.k tk.t]) b false = Lx.may tk.k tk.t := by subst hb; exact gd_last _ _ _
  refine den_br (fun c9 => ?_) fun c9 => ?_
  · simp only [Sy.dens, Sy.den, E.i, E.b, E.t, gd, Env.push, List.cons_append, List.nil_append, List.append_nil, Int.toNat_natCast, hbv] at c9
    exact den_ret fun _ _ _ => bad (by simpa using c9) W6
  · simp only [Sy.dens, Sy.den, E.i, E.b, E.t, gd, Env.push, List.cons_append, List.nil_append, List.append_nil, Int.toNat_natCast, hbv] at c9
    refine den_new fun m7 W7 _ x7 => den_chk ?_ (den_app fun a8 c8 W8 ha8 x8 => ?_)
    · simp only [Sy.dens, Sy.den, E.i, E.b, E.t, gd, Env.push, List.cons_append, List.nil_append, List.append_nil, Int.toNat_natCast]; exact leB_t (by omega)
    refine den_frz fun W9 _ x9 _ _ => den_again ?_
    have := good (by simpa using c9) a8 c8 W9
    show O _ _ _
    have e1 : Sy.dens ((({ I := Is, N := [ts.length, ca], B := Bs, T := [t], A := [a], M := Ms, L := [toksC ts] } : Env).push { B := [Lx.may tk.k tk.t] }).push { M := [m7] } |>.push { A := [a8], N := [c8] }) [.int .i64 nx, .slc 1 (.bin .add (.nv 0) (.il 1)) (.nv 2)] = [.int .i64 (i' : Int), .slice a8 (ts ++ [tk]).length c8] := by
      simp only [Sy.dens, Sy.den, E.i, E.b, E.t, gd, Env.push, List.cons_append, List.nil_append, List.append_nil, Int.toNat_natCast, hnx, List.length_append, List.length_cons, List.length_nil]; rfl
    have e2 : rowConts ((({ I := Is, N := [ts.length, ca], B := Bs, T := [t], A := [a], M := Ms, L := [toksC ts] } : Env).push { B := [Lx.may tk.k tk.t] }).push { M := [m7] } |>.push { A := [a8], N := [c8] }) [⟨.slc 1 (.bin .add (.nv 0) (.il 1)) (.nv 2), .bin .add (.nv 0) (.il 1), 99, 2, [.l 0, .s (.int .u8 (.il tk.k)), .s (.str cut)]⟩] = [toksC (ts ++ [tk])] := by
      simp only [rowConts, conts, List.map_cons, List.map_nil, List.flatMap_cons, List.flatMap_nil, Seg.den, Sy.dens, Sy.den, E.i, E.b, E.t, gd, Env.push, List.cons_append, List.nil_append, List.append_nil, Int.toNat_natCast, toksC_app, hcut]; rfl
    rw [e1, e2]
    exact this

set_option maxRecDepth 100000 in
set_option maxHeartbeats 1000000 in
theorem rlex_i (t : ByteArray) (W : Wd) : CallsI Tryz.prog 43 #[.string t] W.all fun v w' => ∃ a c, v = .tuple #[.slice a (Lx.lex t.data.toList).1.length c, .int .i64 (Lx.lex t.data.toList).2] ∧ ToksN W.w.heap.size w' a c (Lx.lex t.data.toList).1 := by
  refine vc_rlex t W.all _ ?_
  have hs := size_len t
  refine den_br (fun c => ?_) fun c => ?_
  · simp only [Sy.dens, Sy.den, E.i, E.b, E.t, gd, Env.push, List.cons_append, List.nil_append, List.append_nil, Int.toNat_natCast, ltB_true] at c
    have e : Lx.lex t.data.toList = ([], 40) := by unfold Lx.lex; rw [if_pos (by omega)]
    rw [e]
    exact den_ret fun _ _ _ => ⟨_, rfl, none, 0, rfl, SlAt.nil _ _ _⟩
  simp only [Sy.dens, Sy.den, E.i, E.b, E.t, gd, Env.push, List.cons_append, List.nil_append, List.append_nil, Int.toNat_natCast, ltB_false] at c
  have e : Lx.lex t.data.toList = match Lx.lexT (t.data.toList.length + 1) (Lx.trim t.data.toList) with
    | some ts => (ts, 0)
    | none => ([], 4) := by unfold Lx.lex; rw [if_neg (by omega)]; rfl
  have lexnone : Lx.lexT (t.data.toList.length + 1) (Lx.trim t.data.toList) = none → Lx.lex t.data.toList = ([], 4) := fun h => by rw [e, h]
  generalize hF : t.data.toList.length + 1 = F at *
  refine den_loop (fun k vs ls _ => ∃ (i : Nat) (ts : List Lx.Tok) (a : Option Addr) (c : Nat), vs = [.int .i64 (i : Int), .slice a ts.length c] ∧ ls = [toksC ts] ∧ i ≤ t.size ∧ ts.length ≤ i ∧ k = t.size - i ∧
    Lx.lexT F (Lx.trim t.data.toList) = (Lx.lexT F (Lx.trim (t.data.toList.drop i))).map (ts ++ ·)) t.size ⟨0, [], none, 0, rfl, rfl, by omega, by simp, by simp, by simp⟩ ?_
  rintro k vs ls W2 x2 ⟨i, ts, a, ca, rfl, rfl, hi, hti, rfl, hT⟩
  refine ⟨(i : Int), ts.length, ca, a, toksC ts, rfl, (by simp [rowConts, conts, Seg.den, gd, Env.push]), fun hrow => ?_⟩
  simp only [Env.push, List.cons_append, List.nil_append, List.append_nil]
  refine den_br (fun c1 => ?_) fun c1 => ?_
  rotate_left
  · simp only [Sy.dens, Sy.den, E.i, E.b, E.t, gd, Env.push, List.cons_append, List.nil_append, List.append_nil, Int.toNat_natCast, ltB_false] at c1
    obtain rfl : i = t.size := by omega
    have hd : t.data.toList.drop t.size = [] := List.drop_eq_nil_of_le (by omega)
    have hl : Lx.lex t.data.toList = (ts, 0) := by
      rw [e, hT, hd, ← hF]
      simp [Lx.trim, Lx.lexT]
    rw [hl]
    refine den_ret fun _ _ hr => ⟨_, rfl, a, ca, rfl, ?_⟩
    have := (hr _ (List.mem_singleton.2 rfl)).1
    simp only [conts, List.flatMap_cons, List.flatMap_nil, Seg.den, Sy.dens, Sy.den, E.i, E.b, E.t, gd, Env.push, List.cons_append, List.nil_append, List.append_nil, Int.toNat_natCast] at this
    exact owns_sl this
  simp only [Sy.dens, Sy.den, E.i, E.b, E.t, gd, Env.push, List.cons_append, List.nil_append, List.append_nil, Int.toNat_natCast, ltB_true] at c1
  have hil : i < t.size := by omega
  have hw1 : IntKind.i64.wrap ((i : Int) + 1) = ((i + 1 : Nat) : Int) := by rw [w64i (by omega) (by omega)]; rfl
  have hw2 : IntKind.i64.wrap (((i + 1 : Nat) : Int) + 1) = ((i + 2 : Nat) : Int) := by rw [w64i (by omega) (by omega)]; omega
  have hdr := gd_drop t.data.toList i (by omega)
  generalize hch : gd t.data.toList i 0 = ch at hdr
  generalize hrs : t.data.toList.drop (i + 1) = r at hdr
  have hrl : r.length = t.size - (i + 1) := by rw [← hrs, List.length_drop]; omega
  refine den_chk ?_ ?_
  · simp only [Sy.dens, Sy.den, E.i, E.b, E.t, gd, Env.push, List.cons_append, List.nil_append, List.append_nil, Int.toNat_natCast]; exact leB_t (by omega)
  refine den_br (fun c2 => ?_) fun c2 => ?_
  · simp only [Sy.dens, Sy.den, E.i, E.b, E.t, gd, Env.push, List.cons_append, List.nil_append, List.append_nil, Int.toNat_natCast, hch, beq_iff_eq] at c2
    have h32 : ch = 32 := UInt8.toNat_inj.1 (by show ch.toNat = 32; omega)
    refine den_again ⟨t.size - (i + 1), by omega, i + 1, ts, a, ca, ?_, ?_, by omega, by omega, rfl, ?_⟩
    · simp only [Sy.dens, Sy.den, E.i, E.b, E.t, gd, Env.push, List.cons_append, List.nil_append, List.append_nil, Int.toNat_natCast, hw1]
    · simp only [rowConts, conts, List.map_cons, List.map_nil, List.flatMap_cons, List.flatMap_nil, Seg.den, Sy.dens, Sy.den, E.i, E.b, E.t, gd, Env.push, List.cons_append, List.nil_append, List.append_nil, Int.toNat_natCast, List.append_nil]
    · rw [hT, hdr, h32, Lx.trim_sp, hrs]
  simp only [Sy.dens, Sy.den, E.i, E.b, E.t, gd, Env.push, List.cons_append, List.nil_append, List.append_nil, Int.toNat_natCast, hch, beq_eq_false_iff_ne] at c2
  have h32 : ch ≠ 32 := fun e => c2 (by rw [e]; rfl)
  have good : ∀ (tk : Lx.Tok) (n : Nat), Lx.first (ch :: r) = (tk, n) → n ≠ 0 → Lx.may tk.k tk.t = true → Lx.lexT F (Lx.trim t.data.toList) = (Lx.lexT F (Lx.trim (t.data.toList.drop (i + n)))).map ((ts ++ [tk]) ++ ·) := fun tk n hf hn hm => by
    rw [hT, hdr, Lx.trim_idem h32, ← hF, Lx.lexT_cons, hf, if_neg (by simp [hn, hm])]
    have hd2 : t.data.toList.drop (i + n) = (ch :: r).drop n := by rw [← hdr, List.drop_drop]
    rw [hd2]
    have h1 := Lx.trim_le ((ch :: r).drop n)
    rw [List.length_drop, List.length_cons] at h1
    rw [Lx.lexT_fuel (t.data.toList.length + 1) t.data.toList.length _ (by omega) (by omega), Option.map_map]
    congr 1
    funext x
    simp
  have bad : ∀ (tk : Lx.Tok) (n : Nat), Lx.first (ch :: r) = (tk, n) → Lx.may tk.k tk.t = false → Lx.lex t.data.toList = ([], 4) := fun tk n hf hm => lexnone (by
    rw [hT, hdr, Lx.trim_idem h32, ← hF, Lx.lexT_cons, hf, if_pos (by simp [hm])]; rfl)
  have bad0 : (Lx.first (ch :: r)).2 = 0 → Lx.lex t.data.toList = ([], 4) := fun hf => lexnone (by
    rw [hT, hdr, Lx.trim_idem h32, ← hF, Lx.lexT_cons, if_pos (by simp [hf])]; rfl)
  have fail : Lx.lex t.data.toList = ([], 4) → ∀ W' : Wd, Ret (fun v w' => ∃ a c, v = .tuple #[.slice a (Lx.lex t.data.toList).1.length c, .int .i64 (Lx.lex t.data.toList).2] ∧ ToksN W.w.heap.size w' a c (Lx.lex t.data.toList).1) (.returned (.tuple #[.slice none 0 0, .int .i64 4])) W'.w := fun h W' => by
    rw [h]; exact ⟨_, rfl, none, 0, rfl, SlAt.nil _ _ _⟩
  refine den_new fun m1 W3 _ x3 => den_wr fun W4 x4 => den_grow fun W4a x4a => den_br (fun c3 => ?_) fun c3 => den_grow fun W4b x4b => ?_
  · have c3 : Lx.digit (gd t.data.toList i 0) = true := c3
    rw [hch] at c3
    have hf : Lx.first (ch :: r) = (⟨1, (ch :: r).take (Lx.run Lx.digit (ch :: r))⟩, Lx.run Lx.digit (ch :: r)) := by rw [Lx.first_cons, if_pos c3]
    have hpos : 0 < Lx.run Lx.digit (ch :: r) := by rw [Lx.run_cons_t c3]; omega
    have hle := Lx.run_le Lx.digit (ch :: r)
    rw [List.length_cons, hrl] at hle
    refine den_loop (fun j vs ls _ => ∃ e : Nat, vs = [.int .i64 (e : Int)] ∧ ls = [] ∧ i + 1 ≤ e ∧ e ≤ t.size ∧ j = t.size - e ∧ e + Lx.run Lx.digit (t.data.toList.drop e) = i + Lx.run Lx.digit (t.data.toList.drop i)) (t.size - (i + 1)) ⟨i + 1, ?_, rfl, Nat.le_refl _, by omega, rfl, ?_⟩ ?_
    · simp only [Sy.dens, Sy.den, E.i, E.b, E.t, gd, Env.push, List.cons_append, List.nil_append, List.append_nil, Int.toNat_natCast, hw1]
    · rw [hdr, Lx.run_cons_t c3, hrs]; omega
    rintro n vs ls W' x ⟨e', rfl, rfl, hie, he, rfl, ha⟩
    refine ⟨(e' : Int), rfl, rfl, fun _ => ?_⟩
    simp only [Env.push, List.cons_append, List.nil_append, List.append_nil]
    refine den_chk ?_ (den_chk ?_ ?_)
    · simp only [Sy.dens, Sy.den, E.i, E.b, E.t, gd, Env.push, List.cons_append, List.nil_append, List.append_nil, Int.toNat_natCast]
      by_cases h : e' < t.size
      · rw [leB_t (show (0 : Int) ≤ (e' : Int) by omega), Bool.or_true]
      · rw [ltB_f (show (t.size : Int) ≤ (e' : Int) by omega)]; rfl
    · simp only [Sy.dens, Sy.den, E.i, E.b, E.t, gd, Env.push, List.cons_append, List.nil_append, List.append_nil, Int.toNat_natCast]
      by_cases h : e' < t.size
      · rw [ltB_t (show (e' : Int) < (t.size : Int) by omega), Bool.or_true]
      · rw [ltB_f (show (t.size : Int) ≤ (e' : Int) by omega)]; rfl
    refine den_br (fun c5 => den_grow fun W4c x4c => den_br (fun c6 => ?_) fun c6 => ?_) fun c5 => ?_
    · simp only [Sy.dens, Sy.den, E.i, E.b, E.t, gd, Env.push, List.cons_append, List.nil_append, List.append_nil, Int.toNat_natCast, ltB_true] at c5
      have c6 : Lx.digit (gd t.data.toList e' 0) = true := c6
      refine den_again ⟨t.size - (e' + 1), by omega, e' + 1, ?_, rfl, by omega, by omega, rfl, (run_at (by omega) ha).1 c6⟩
      simp only [Sy.dens, Sy.den, E.i, E.b, E.t, gd, Env.push, List.cons_append, List.nil_append, List.append_nil, Int.toNat_natCast]
      rw [w64i (by omega) (by omega)]; rfl
    · simp only [Sy.dens, Sy.den, E.i, E.b, E.t, gd, Env.push, List.cons_append, List.nil_append, List.append_nil, Int.toNat_natCast, ltB_true] at c5
      have c6 : Lx.digit (gd t.data.toList e' 0) = false := c6
      have hE := (run_at (by omega) ha).2 c6
      rw [hdr] at hE
      refine den_chk ?_ (den_chk ?_ (end_den ⟨1, (ch :: r).take (Lx.run Lx.digit (ch :: r))⟩ (b := 0) (i' := e') rfl ?_ ?_ ?_ (by omega) (fun hm W' => fail (bad _ _ hf hm) W') (fun hm a' c' W'' => ?_)))
      · simp only [Sy.dens, Sy.den, E.i, E.b, E.t, gd, Env.push, List.cons_append, List.nil_append, List.append_nil, Int.toNat_natCast]; exact leB_t (by omega)
      · simp only [Sy.dens, Sy.den, E.i, E.b, E.t, gd, Env.push, List.cons_append, List.nil_append, List.append_nil, Int.toNat_natCast]; exact leB_t (by omega)
      · intro N B A M L
        simp only [Sy.dens, Sy.den, E.i, E.b, E.t, gd, Env.push, List.cons_append, List.nil_append, List.append_nil, Int.toNat_natCast]
        rw [ext_cut t i e' he, hdr]
        congr 4; omega
      · intro N B A M L
        simp only [Sy.dens, Sy.den, E.i, E.b, E.t, gd, Env.push, List.cons_append, List.nil_append, List.append_nil, Int.toNat_natCast]
      · simp only [List.length_take, List.length_cons]; omega
      · refine ⟨t.size - e', by omega, e', _, a', c', rfl, rfl, by omega, by rw [List.length_append, List.length_singleton]; omega, rfl, ?_⟩
        rw [hE]
        exact good _ _ hf (by omega) hm
    · simp only [Sy.dens, Sy.den, E.i, E.b, E.t, gd, Env.push, List.cons_append, List.nil_append, List.append_nil, Int.toNat_natCast, ltB_false] at c5
      have hE := ha
      rw [List.drop_eq_nil_of_le (by omega), Lx.run_nil, Nat.add_zero] at hE
      rw [hdr] at hE
      refine den_chk ?_ (den_chk ?_ (end_den ⟨1, (ch :: r).take (Lx.run Lx.digit (ch :: r))⟩ (b := 0) (i' := e') rfl ?_ ?_ ?_ (by omega) (fun hm W' => fail (bad _ _ hf hm) W') (fun hm a' c' W'' => ?_)))
      · simp only [Sy.dens, Sy.den, E.i, E.b, E.t, gd, Env.push, List.cons_append, List.nil_append, List.append_nil, Int.toNat_natCast]; exact leB_t (by omega)
      · simp only [Sy.dens, Sy.den, E.i, E.b, E.t, gd, Env.push, List.cons_append, List.nil_append, List.append_nil, Int.toNat_natCast]; exact leB_t (by omega)
      · intro N B A M L
        simp only [Sy.dens, Sy.den, E.i, E.b, E.t, gd, Env.push, List.cons_append, List.nil_append, List.append_nil, Int.toNat_natCast]
        rw [ext_cut t i e' he, hdr]
        congr 4; omega
      · intro N B A M L
        simp only [Sy.dens, Sy.den, E.i, E.b, E.t, gd, Env.push, List.cons_append, List.nil_append, List.append_nil, Int.toNat_natCast]
      · simp only [List.length_take, List.length_cons]; omega
      · refine ⟨t.size - e', by omega, e', _, a', c', rfl, rfl, by omega, by rw [List.length_append, List.length_singleton]; omega, rfl, ?_⟩
        rw [hE]
        exact good _ _ hf (by omega) hm
  have c3 : Lx.digit (gd t.data.toList i 0) = false := c3
  rw [hch] at c3
  refine den_br (fun c4 => ?_) fun c4 => ?_
  · have c4 : Lx.letter (gd t.data.toList i 0) = true := c4
    rw [hch] at c4
    have hbh : Lx.behind ch = true := by unfold Lx.behind; rw [c4]; simp
    have hf : Lx.first (ch :: r) = (⟨2, (ch :: r).take (Lx.run Lx.behind (ch :: r))⟩, Lx.run Lx.behind (ch :: r)) := by rw [Lx.first_cons, if_neg (by rw [c3]; decide), if_pos c4]
    have hpos : 0 < Lx.run Lx.behind (ch :: r) := by rw [Lx.run_cons_t hbh]; omega
    have hle := Lx.run_le Lx.behind (ch :: r)
    rw [List.length_cons, hrl] at hle
    refine den_loop (fun j vs ls _ => ∃ e : Nat, vs = [.int .i64 (e : Int)] ∧ ls = [] ∧ i + 1 ≤ e ∧ e ≤ t.size ∧ j = t.size - e ∧ e + Lx.run Lx.behind (t.data.toList.drop e) = i + Lx.run Lx.behind (t.data.toList.drop i)) (t.size - (i + 1)) ⟨i + 1, ?_, rfl, Nat.le_refl _, by omega, rfl, ?_⟩ ?_
    · simp only [Sy.dens, Sy.den, E.i, E.b, E.t, gd, Env.push, List.cons_append, List.nil_append, List.append_nil, Int.toNat_natCast, hw1]
    · rw [hdr, Lx.run_cons_t hbh, hrs]; omega
    rintro n vs ls W' x ⟨e', rfl, rfl, hie, he, rfl, ha⟩
    refine ⟨(e' : Int), rfl, rfl, fun _ => ?_⟩
    simp only [Env.push, List.cons_append, List.nil_append, List.append_nil]
    refine den_chk ?_ (den_chk ?_ ?_)
    · simp only [Sy.dens, Sy.den, E.i, E.b, E.t, gd, Env.push, List.cons_append, List.nil_append, List.append_nil, Int.toNat_natCast]
      by_cases h : e' < t.size
      · rw [leB_t (show (0 : Int) ≤ (e' : Int) by omega), Bool.or_true]
      · rw [ltB_f (show (t.size : Int) ≤ (e' : Int) by omega)]; rfl
    · simp only [Sy.dens, Sy.den, E.i, E.b, E.t, gd, Env.push, List.cons_append, List.nil_append, List.append_nil, Int.toNat_natCast]
      by_cases h : e' < t.size
      · rw [ltB_t (show (e' : Int) < (t.size : Int) by omega), Bool.or_true]
      · rw [ltB_f (show (t.size : Int) ≤ (e' : Int) by omega)]; rfl
    refine den_br (fun c5 => den_grow fun W4c x4c => den_br (fun c6 => den_grow fun W4d x4d => den_br (fun c7 => ?_) fun c7 => ?_) fun c6 => ?_) fun c5 => ?_
    · simp only [Sy.dens, Sy.den, E.i, E.b, E.t, gd, Env.push, List.cons_append, List.nil_append, List.append_nil, Int.toNat_natCast, ltB_true] at c5
      have c7 : (Lx.digit (gd t.data.toList e' 0) || (((gd t.data.toList e' 0).toNat : Int) == 95)) = true := c7
      have c8 : Lx.behind (gd t.data.toList e' 0) = true := by
        unfold Lx.behind
        rcases Bool.or_eq_true _ _ ▸ c7 with h | h <;> rw [h] <;> simp
      refine den_again ⟨t.size - (e' + 1), by omega, e' + 1, ?_, rfl, by omega, by omega, rfl, (run_at (by omega) ha).1 c8⟩
      simp only [Sy.dens, Sy.den, E.i, E.b, E.t, gd, Env.push, List.cons_append, List.nil_append, List.append_nil, Int.toNat_natCast]
      rw [w64i (by omega) (by omega)]; rfl
    · simp only [Sy.dens, Sy.den, E.i, E.b, E.t, gd, Env.push, List.cons_append, List.nil_append, List.append_nil, Int.toNat_natCast, ltB_true] at c5
      have c6 : (!Lx.letter (gd t.data.toList e' 0)) = true := c6
      have c7 : (Lx.digit (gd t.data.toList e' 0) || (((gd t.data.toList e' 0).toNat : Int) == 95)) = false := c7
      have c8 : Lx.behind (gd t.data.toList e' 0) = false := by
        unfold Lx.behind
        rw [Bool.or_eq_false_iff] at c7
        rw [c7.1, c7.2, show Lx.letter (gd t.data.toList e' 0) = false by simpa using c6]; rfl
      have hE := (run_at (by omega) ha).2 c8
      rw [hdr] at hE
      refine den_chk ?_ (den_chk ?_ (end_den ⟨2, (ch :: r).take (Lx.run Lx.behind (ch :: r))⟩ (b := 0) (i' := e') rfl ?_ ?_ ?_ (by omega) (fun hm W' => fail (bad _ _ hf hm) W') (fun hm a' c' W'' => ?_)))
      · simp only [Sy.dens, Sy.den, E.i, E.b, E.t, gd, Env.push, List.cons_append, List.nil_append, List.append_nil, Int.toNat_natCast]; exact leB_t (by omega)
      · simp only [Sy.dens, Sy.den, E.i, E.b, E.t, gd, Env.push, List.cons_append, List.nil_append, List.append_nil, Int.toNat_natCast]; exact leB_t (by omega)
      · intro N B A M L
        simp only [Sy.dens, Sy.den, E.i, E.b, E.t, gd, Env.push, List.cons_append, List.nil_append, List.append_nil, Int.toNat_natCast]
        rw [ext_cut t i e' he, hdr]
        congr 4; omega
      · intro N B A M L
        simp only [Sy.dens, Sy.den, E.i, E.b, E.t, gd, Env.push, List.cons_append, List.nil_append, List.append_nil, Int.toNat_natCast]
      · simp only [List.length_take, List.length_cons]; omega
      · refine ⟨t.size - e', by omega, e', _, a', c', rfl, rfl, by omega, by rw [List.length_append, List.length_singleton]; omega, rfl, ?_⟩
        rw [hE]
        exact good _ _ hf (by omega) hm
    · simp only [Sy.dens, Sy.den, E.i, E.b, E.t, gd, Env.push, List.cons_append, List.nil_append, List.append_nil, Int.toNat_natCast, ltB_true] at c5
      have c6 : (!Lx.letter (gd t.data.toList e' 0)) = false := c6
      have c8 : Lx.behind (gd t.data.toList e' 0) = true := by
        unfold Lx.behind
        rw [show Lx.letter (gd t.data.toList e' 0) = true by simpa using c6]; simp
      refine den_again ⟨t.size - (e' + 1), by omega, e' + 1, ?_, rfl, by omega, by omega, rfl, (run_at (by omega) ha).1 c8⟩
      simp only [Sy.dens, Sy.den, E.i, E.b, E.t, gd, Env.push, List.cons_append, List.nil_append, List.append_nil, Int.toNat_natCast]
      rw [w64i (by omega) (by omega)]; rfl
    · simp only [Sy.dens, Sy.den, E.i, E.b, E.t, gd, Env.push, List.cons_append, List.nil_append, List.append_nil, Int.toNat_natCast, ltB_false] at c5
      have hE := ha
      rw [List.drop_eq_nil_of_le (by omega), Lx.run_nil, Nat.add_zero] at hE
      rw [hdr] at hE
      refine den_chk ?_ (den_chk ?_ (end_den ⟨2, (ch :: r).take (Lx.run Lx.behind (ch :: r))⟩ (b := 0) (i' := e') rfl ?_ ?_ ?_ (by omega) (fun hm W' => fail (bad _ _ hf hm) W') (fun hm a' c' W'' => ?_)))
      · simp only [Sy.dens, Sy.den, E.i, E.b, E.t, gd, Env.push, List.cons_append, List.nil_append, List.append_nil, Int.toNat_natCast]; exact leB_t (by omega)
      · simp only [Sy.dens, Sy.den, E.i, E.b, E.t, gd, Env.push, List.cons_append, List.nil_append, List.append_nil, Int.toNat_natCast]; exact leB_t (by omega)
      · intro N B A M L
        simp only [Sy.dens, Sy.den, E.i, E.b, E.t, gd, Env.push, List.cons_append, List.nil_append, List.append_nil, Int.toNat_natCast]
        rw [ext_cut t i e' he, hdr]
        congr 4; omega
      · intro N B A M L
        simp only [Sy.dens, Sy.den, E.i, E.b, E.t, gd, Env.push, List.cons_append, List.nil_append, List.append_nil, Int.toNat_natCast]
      · simp only [List.length_take, List.length_cons]; omega
      · refine ⟨t.size - e', by omega, e', _, a', c', rfl, rfl, by omega, by rw [List.length_append, List.length_singleton]; omega, rfl, ?_⟩
        rw [hE]
        exact good _ _ hf (by omega) hm
  have c4 : Lx.letter (gd t.data.toList i 0) = false := c4
  rw [hch] at c4
  refine den_br (fun c5 => ?_) fun c5 => ?_
  · simp only [Sy.dens, Sy.den, E.i, E.b, E.t, gd, Env.push, List.cons_append, List.nil_append, List.append_nil, Int.toNat_natCast, hch, beq_iff_eq] at c5
    have h39 : ch = 39 := UInt8.toNat_inj.1 (by show ch.toNat = 39; omega)
    have hf0 : Lx.first (ch :: r) = match Lx.cutQ r with
      | some q => (⟨3, q⟩, q.length + 2)
      | none => Lx.none := by rw [Lx.first_cons, if_neg (by rw [c3]; decide), if_neg (by rw [c4]; decide), if_pos h39]; rfl
    refine den_loop (fun j vs ls _ => ∃ e : Nat, vs = [.int .i64 (e : Int)] ∧ ls = [] ∧ i + 1 ≤ e ∧ e ≤ t.size ∧ j = t.size - e ∧ e + Lx.run (· != 39) (t.data.toList.drop e) = i + 1 + Lx.run (· != 39) (t.data.toList.drop (i + 1))) (t.size - (i + 1)) ⟨i + 1, ?_, rfl, Nat.le_refl _, by omega, rfl, rfl⟩ ?_
    · simp only [Sy.dens, Sy.den, E.i, E.b, E.t, gd, Env.push, List.cons_append, List.nil_append, List.append_nil, Int.toNat_natCast, hw1]
    rintro n vs ls W' x ⟨e', rfl, rfl, hie, he, rfl, ha⟩
    refine ⟨(e' : Int), rfl, rfl, fun _ => ?_⟩
    simp only [Env.push, List.cons_append, List.nil_append, List.append_nil]
    refine den_chk ?_ (den_chk ?_ ?_)
    · simp only [Sy.dens, Sy.den, E.i, E.b, E.t, gd, Env.push, List.cons_append, List.nil_append, List.append_nil, Int.toNat_natCast]
      by_cases h : e' < t.size
      · rw [leB_t (show (0 : Int) ≤ (e' : Int) by omega), Bool.or_true]
      · rw [ltB_f (show (t.size : Int) ≤ (e' : Int) by omega)]; rfl
    · simp only [Sy.dens, Sy.den, E.i, E.b, E.t, gd, Env.push, List.cons_append, List.nil_append, List.append_nil, Int.toNat_natCast]
      by_cases h : e' < t.size
      · rw [ltB_t (show (e' : Int) < (t.size : Int) by omega), Bool.or_true]
      · rw [ltB_f (show (t.size : Int) ≤ (e' : Int) by omega)]; rfl
    refine den_br (fun c6 => ?_) fun c6 => den_br (fun c7 => ?_) fun c7 => ?_
    · simp only [Sy.dens, Sy.den, E.i, E.b, E.t, gd, Env.push, List.cons_append, List.nil_append, List.append_nil, Int.toNat_natCast, Bool.and_eq_true, ltB_true, Bool.not_eq_true', beq_eq_false_iff_ne] at c6
      have c8 : (gd t.data.toList e' 0 != 39) = true := by
        have : gd t.data.toList e' 0 ≠ 39 := fun h => c6.2 (by rw [h]; rfl)
        simpa using this
      refine den_again ⟨t.size - (e' + 1), by omega, e' + 1, ?_, rfl, by omega, by omega, rfl, (run_at (p := (· != 39)) (by omega) ha).1 c8⟩
      simp only [Sy.dens, Sy.den, E.i, E.b, E.t, gd, Env.push, List.cons_append, List.nil_append, List.append_nil, Int.toNat_natCast]
      rw [w64i (by omega) (by omega)]; rfl
    · simp only [Sy.dens, Sy.den, E.i, E.b, E.t, gd, Env.push, List.cons_append, List.nil_append, List.append_nil, Int.toNat_natCast, beq_iff_eq] at c7
      obtain rfl : e' = t.size := by omega
      rw [List.drop_eq_nil_of_le (by omega), Lx.run_nil, hrs] at ha
      have hq : Lx.cutQ r = none := by unfold Lx.cutQ; rw [if_neg (by unfold Lx.run at ha; omega)]
      have := bad0 (by rw [hf0, hq]; rfl)
      exact den_ret fun _ _ _ => fail this _
    · simp only [Sy.dens, Sy.den, E.i, E.b, E.t, gd, Env.push, List.cons_append, List.nil_append, List.append_nil, Int.toNat_natCast, beq_eq_false_iff_ne] at c7
      have hlt : e' < t.size := by omega
      simp only [Sy.dens, Sy.den, E.i, E.b, E.t, gd, Env.push, List.cons_append, List.nil_append, List.append_nil, Int.toNat_natCast, Bool.and_eq_false_iff, ltB_false, Bool.not_eq_false', beq_iff_eq] at c6
      have c8 : (gd t.data.toList e' 0 != 39) = false := by
        rcases c6 with c6 | c6
        · omega
        · have : gd t.data.toList e' 0 = 39 := UInt8.toNat_inj.1 (by show (gd t.data.toList e' 0).toNat = 39; omega)
          simpa using this
      have hE := (run_at (p := (· != 39)) (by omega) ha).2 c8
      rw [hrs] at hE
      have hq : Lx.cutQ r = some (r.take (Lx.run (· != 39) r)) := by
        unfold Lx.cutQ
        rw [if_pos (by unfold Lx.run at hE; omega)]
        unfold Lx.run
        rw [Lx.take_tw]
      rw [hq] at hf0
      have hqle := Lx.run_le (· != 39) r
      have hql : (r.take (Lx.run (· != 39) r)).length = Lx.run (· != 39) r := by rw [List.length_take, Nat.min_eq_left hqle]
      have hw3 : IntKind.i64.wrap ((e' : Int) + 1) = ((e' + 1 : Nat) : Int) := by rw [w64i (by omega) (by omega)]; rfl
      refine den_chk ?_ (den_chk ?_ (den_chk ?_ (end_den ⟨3, r.take (Lx.run (· != 39) r)⟩ (b := 0) (i' := e' + 1) rfl ?_ ?_ ?_ (by omega) (fun hm W' => fail (bad _ _ hf0 hm) W') (fun hm a' c' W'' => ?_))))
      · simp only [Sy.dens, Sy.den, E.i, E.b, E.t, gd, Env.push, List.cons_append, List.nil_append, List.append_nil, Int.toNat_natCast, hw1]; exact leB_t (by omega)
      · simp only [Sy.dens, Sy.den, E.i, E.b, E.t, gd, Env.push, List.cons_append, List.nil_append, List.append_nil, Int.toNat_natCast, hw1]; exact leB_t (by omega)
      · simp only [Sy.dens, Sy.den, E.i, E.b, E.t, gd, Env.push, List.cons_append, List.nil_append, List.append_nil, Int.toNat_natCast]; exact leB_t (by omega)
      · intro N B A M L
        simp only [Sy.dens, Sy.den, E.i, E.b, E.t, gd, Env.push, List.cons_append, List.nil_append, List.append_nil, Int.toNat_natCast, hw1]
        rw [ext_cut t (i + 1) e' he, hrs]
        congr 4; omega
      · intro N B A M L
        simp only [Sy.dens, Sy.den, E.i, E.b, E.t, gd, Env.push, List.cons_append, List.nil_append, List.append_nil, Int.toNat_natCast, hw3]
      · simp only [hql]; omega
      · refine ⟨t.size - (e' + 1), by omega, e' + 1, _, a', c', rfl, rfl, by omega, by rw [List.length_append, List.length_singleton]; omega, rfl, ?_⟩
        rw [good _ _ hf0 (by omega) hm]
        simp only [hql]
        congr 4; omega
  simp only [Sy.dens, Sy.den, E.i, E.b, E.t, gd, Env.push, List.cons_append, List.nil_append, List.append_nil, Int.toNat_natCast, hch, beq_eq_false_iff_ne] at c5
  have h39 : ch ≠ 39 := fun e => c5 (by rw [e]; rfl)
  have hno : ∀ b : Bool, (i + 1 < t.size → Lx.signs.contains [ch, gd t.data.toList (i + 1) 0] = b) → b = false → ∀ d s, r = d :: s → Lx.signs.contains [ch, d] = false := fun b h1 hb d s hd => by
    have : i + 1 < t.size := by rw [hd] at hrl; simp at hrl; omega
    have h2 := gd_drop t.data.toList (i + 1) (by omega)
    rw [hrs, hd] at h2
    injection h2 with h3 h4
    rw [h3, h1 this, hb]
  have one : (∀ d s, r = d :: s → Lx.signs.contains [ch, d] = false) → ∀ {L' : Lv} {Bs : List Bool} {Ms : List Nat} {b : Nat} (W' : Wd), b = Bs.length → (Tree.chk (.bin .le (.iv 0) (.un (.wrap .i64) (.bin .add (.iv 0) (.il 1)))) (.chk (.bin .le (.un (.wrap .i64) (.bin .add (.iv 0) (.il 1))) (.un .len (.tv 0))) (endT 4 b (.cut (.tv 0) (.iv 0) (.un (.wrap .i64) (.bin .add (.iv 0) (.il 1)))) (.un (.wrap .i64) (.bin .add (.iv 0) (.il 1)))))).den Tryz.prog W.all.w.heap.size
      (Ret (fun v w' => ∃ a c, v = .tuple #[.slice a (Lx.lex t.data.toList).1.length c, .int .i64 (Lx.lex t.data.toList).2] ∧ ToksN W.w.heap.size w' a c (Lx.lex t.data.toList).1))
      ((fun vs' ls' W'' => ∃ n', n' < t.size - i ∧ ∃ (i : Nat) (ts : List Lx.Tok) (a : Option Addr) (c : Nat), vs' = [.int .i64 (i : Int), .slice a ts.length c] ∧ ls' = [toksC ts] ∧ i ≤ t.size ∧ ts.length ≤ i ∧ n' = t.size - i ∧
    Lx.lexT F (Lx.trim t.data.toList) = (Lx.lexT F (Lx.trim (t.data.toList.drop i))).map (ts ++ ·)) :: L') { I := [(i : Int)], N := [ts.length, ca], B := Bs, T := [t], A := [a], M := Ms, L := [toksC ts] } W' := fun hn L' Bs Ms b W' hb => by
    refine den_chk ?_ (den_chk ?_ (end_den ⟨4, [ch]⟩ (i' := i + 1) hb ?_ ?_ (by simp) (by omega) (fun hm W' => fail ?_ W') (fun hm a' c' W'' => ?_)))
    · simp only [Sy.dens, Sy.den, E.i, E.b, E.t, gd, Env.push, List.cons_append, List.nil_append, List.append_nil, Int.toNat_natCast, hw1]; exact leB_t (by omega)
    · simp only [Sy.dens, Sy.den, E.i, E.b, E.t, gd, Env.push, List.cons_append, List.nil_append, List.append_nil, Int.toNat_natCast, hw1]; exact leB_t (by omega)
    · intro N B A M L
      simp only [Sy.dens, Sy.den, E.i, E.b, E.t, gd, Env.push, List.cons_append, List.nil_append, List.append_nil, Int.toNat_natCast, hw1]
      rw [ext_cut t i (i + 1) (by omega), hdr, show i + 1 - i = 1 from by omega]; rfl
    · intro N B A M L
      simp only [Sy.dens, Sy.den, E.i, E.b, E.t, gd, Env.push, List.cons_append, List.nil_append, List.append_nil, Int.toNat_natCast, hw1]
    · have hm : Lx.signs.contains [ch] = false := hm
      exact bad0 (Lx.first_sign0 c3 c4 h39 hn hm)
    · refine ⟨t.size - (i + 1), by omega, i + 1, _, a', c', rfl, rfl, by omega, by rw [List.length_append, List.length_singleton]; omega, rfl, ?_⟩
      have hm' : Lx.signs.contains [ch] = true := hm
      exact good _ _ (Lx.first_sign1 c3 c4 h39 hn hm') (by decide) hm
  refine den_chk ?_ (den_chk ?_ (den_br (fun c6 => ?_) fun c6 => ?_))
  · simp only [Sy.dens, Sy.den, E.i, E.b, E.t, gd, Env.push, List.cons_append, List.nil_append, List.append_nil, Int.toNat_natCast, hw1, hw2]
    rw [leB_t (show (i : Int) ≤ ((i + 2 : Nat) : Int) by omega), Bool.or_true]
  · simp only [Sy.dens, Sy.den, E.i, E.b, E.t, gd, Env.push, List.cons_append, List.nil_append, List.append_nil, Int.toNat_natCast, hw1, hw2]
    by_cases h : i + 1 < t.size
    · rw [leB_t (show ((i + 2 : Nat) : Int) ≤ (t.size : Int) by omega), Bool.or_true]
    · rw [ltB_f (show (t.size : Int) ≤ ((i + 1 : Nat) : Int) by omega)]; rfl
  · simp only [Sy.dens, Sy.den, E.i, E.b, E.t, gd, Env.push, List.cons_append, List.nil_append, List.append_nil, Int.toNat_natCast, hw1, ltB_true] at c6
    have hlt : i + 1 < t.size := by omega
    have h2 := gd_drop t.data.toList (i + 1) (by omega)
    rw [hrs] at h2
    generalize hd : gd t.data.toList (i + 1) 0 = d at *
    generalize t.data.toList.drop (i + 1 + 1) = s at h2
    have hcut : t.extract i (i + 2) = ⟨[ch, d].toArray⟩ := by
      rw [ext_cut t i (i + 2) (by omega), hdr, h2, show i + 2 - i = 2 from by omega]; rfl
    have hsg := rsign_q ⟨[ch, d].toArray⟩ W4b
    rw [show (⟨[ch, d].toArray⟩ : ByteArray).data.toList = [ch, d] by simp] at hsg
    refine den_call_q (v := .bool (Lx.signs.contains [ch, d])) (fun _ _ => ?_) ⟨Lx.signs.contains [ch, d], rfl, fun W5 x5 => den_br (fun c7 => ?_) fun c7 => ?_⟩
    · simp only [Sy.dens, Sy.den, E.i, E.b, E.t, gd, Env.push, List.cons_append, List.nil_append, List.append_nil, Int.toNat_natCast, hw1, hw2, hcut]
      exact hsg
    · have c7 : Lx.signs.contains [ch, d] = true := c7
      have hf := Lx.first_sign2 (r := s) c3 c4 h39 c7
      rw [← h2] at hf
      simp only [Env.push, List.cons_append, List.nil_append, List.append_nil]
      refine end_den ⟨4, [ch, d]⟩ (b := 1) (i' := i + 2) rfl ?_ ?_ (by simp) (by omega) (fun hm W' => fail (bad _ _ hf hm) W') (fun hm a' c' W'' => ?_)
      · intro N B A M L
        simp only [Sy.dens, Sy.den, E.i, E.b, E.t, gd, Env.push, List.cons_append, List.nil_append, List.append_nil, Int.toNat_natCast, hw1, hw2, hcut]
      · intro N B A M L
        simp only [Sy.dens, Sy.den, E.i, E.b, E.t, gd, Env.push, List.cons_append, List.nil_append, List.append_nil, Int.toNat_natCast, hw1, hw2]
      · refine ⟨t.size - (i + 2), by omega, i + 2, _, a', c', rfl, rfl, by omega, by rw [List.length_append, List.length_singleton]; omega, rfl, ?_⟩
        exact good _ _ hf (by decide) hm
    · have c7 : Lx.signs.contains [ch, d] = false := c7
      simp only [Env.push, List.cons_append, List.nil_append, List.append_nil]
      exact one (hno false (fun _ => c7) rfl) W5 rfl
  · simp only [Sy.dens, Sy.den, E.i, E.b, E.t, gd, Env.push, List.cons_append, List.nil_append, List.append_nil, Int.toNat_natCast, hw1, ltB_false] at c6
    exact one (hno false (fun h => by omega) rfl) W4b rfl
end Go.Proofs.YtijinopghlpdbaaGreatDoor
