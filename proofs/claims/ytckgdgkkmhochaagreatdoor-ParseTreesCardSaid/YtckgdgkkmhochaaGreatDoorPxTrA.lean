/- The leaves of ParseTrees: the document's values, parts, signs and levels. -/
import Derived.Test.YtckgdgkkmhochaaGreatDoorPxNames
import Derived.Test.YtckgdgkkmhochaaGreatDoorPxLarge
import Derived.Test.YtckgdgkkmhochaaGreatDoorLxLex
import Derived.Test.YtckgdgkkmhochaaGreatDoorVcTrees
namespace Lx
open Go
set_option linter.unusedVariables false
set_option linter.unusedSimpArgs false
theorem sign_mem {x : Bs} : signs.contains x = true ↔ x = [60, 61] ∨ x = [61, 61] ∨ x = [33, 61] ∨ x = [124] ∨ x = [38] ∨ x = [60] ∨ x = [43] ∨ x = [45] ∨ x = [42] ∨ x = [47] ∨ x = [37] ∨ x = [33] ∨ x = [40] ∨ x = [41] := by
  rw [List.contains_iff_mem]; simp [signs]
theorem first_find {c : UInt8} {r : Bs} (h1 : digit c = false) (h2 : letter c = false) (h3 : c ≠ 39) : first (c :: r) = match signs.find? fun x => x.isPrefixOf (c :: r) with
    | some x => (⟨4, x⟩, x.length)
    | Option.none => none := by rw [first_cons, if_neg (by rw [h1]; decide), if_neg (by rw [h2]; decide), if_neg h3]; rfl
theorem first_sign2 {c d : UInt8} {r : Bs} (h1 : digit c = false) (h2 : letter c = false) (h3 : c ≠ 39) (h : signs.contains [c, d] = true) : first (c :: d :: r) = (⟨4, [c, d]⟩, 2) := by
  rw [first_find h1 h2 h3]
  rw [sign_mem] at h
  simp only [List.cons.injEq, and_true, reduceCtorEq, and_false, or_false] at h
  rcases h with ⟨rfl, rfl⟩ | ⟨rfl, rfl⟩ | ⟨rfl, rfl⟩ <;> simp [signs, List.find?, List.isPrefixOf]
theorem first_sign1 {c : UInt8} {r : Bs} (h1 : digit c = false) (h2 : letter c = false) (h3 : c ≠ 39) (hno : ∀ d s, r = d :: s → signs.contains [c, d] = false) (h : signs.contains [c] = true) : first (c :: r) = (⟨4, [c]⟩, 1) := by
  rw [first_find h1 h2 h3]
  rw [sign_mem] at h
  simp only [List.cons.injEq, and_true, reduceCtorEq, and_false, false_or] at h
  cases r with
  | nil => rcases h with rfl | rfl | rfl | rfl | rfl | rfl | rfl | rfl | rfl | rfl | rfl <;> simp [signs, List.find?, List.isPrefixOf]
  | cons d s =>
    have hd := hno d s rfl
    have hd : ¬ (c = 60 ∧ d = 61) ∧ ¬ (c = 33 ∧ d = 61) := by
      refine ⟨fun ⟨e1, e2⟩ => ?_, fun ⟨e1, e2⟩ => ?_⟩ <;> subst e1 e2 <;> revert hd <;> decide
    have hd' : c = 60 ∨ c = 33 → (61 == d) = false := fun h => by
      rw [beq_eq_false_iff_ne]
      rintro rfl
      rcases h with h | h
      · exact hd.1 ⟨h, rfl⟩
      · exact hd.2 ⟨h, rfl⟩
    rcases h with rfl | rfl | rfl | rfl | rfl | rfl | rfl | rfl | rfl | rfl | rfl <;> first
      | (have h5 := hd' (.inl rfl); simp [signs, List.find?, List.isPrefixOf, h5]; done)
      | (have h5 := hd' (.inr rfl); simp [signs, List.find?, List.isPrefixOf, h5]; done)
      | (simp [signs, List.find?, List.isPrefixOf]; done)
theorem first_sign0 {c : UInt8} {r : Bs} (h1 : digit c = false) (h2 : letter c = false) (h3 : c ≠ 39) (hno : ∀ d s, r = d :: s → signs.contains [c, d] = false) (h : signs.contains [c] = false) : (first (c :: r)).2 = 0 := by
  rw [first_find h1 h2 h3]
  have : (signs.find? fun x => x.isPrefixOf (c :: r)) = Option.none := by
    rw [List.find?_eq_none]
    intro x hx hp
    rw [List.isPrefixOf_iff_prefix] at hp
    obtain ⟨z, hz⟩ := hp
    have hx' := List.contains_iff_mem.2 hx
    have hx2 := sign_mem.1 hx'
    match x, hz, hx', hx2 with
    | [], _, _, k => simp at k
    | [a], e, k, _ =>
      simp only [List.cons_append, List.nil_append, List.cons.injEq] at e
      obtain ⟨rfl, _⟩ := e
      rw [h] at k; cases k
    | [a, b], e, k, _ =>
      simp only [List.cons_append, List.nil_append, List.cons.injEq] at e
      obtain ⟨rfl, e⟩ := e
      have := hno b z e.symm
      rw [k] at this; cases this
    | a :: b :: e :: y, _, _, k => simp at k
  rw [this]; rfl
theorem shown_snoc : ∀ (ts : List Tok) (t : Tok), shown (ts ++ [t]) = if ts = [] then text t else shown ts ++ 32 :: text t
  | [], t => by simp [shown, Lib.join]
  | [u], t => by simp [shown, Lib.join]
  | u :: v :: ts, t => by
    have := shown_snoc (v :: ts) t
    rw [if_neg (by simp)] at this ⊢
    rw [List.cons_append, List.cons_append] at *
    rw [join_cons, this, join_cons]
    simp
theorem trim_drop {s : Bs} {i : Nat} (h : i < s.length) (h32 : s[i]? = some 32) : trim (s.drop i) = trim (s.drop (i + 1)) := by
  have e : s.drop i = 32 :: s.drop (i + 1) := by
    have := List.drop_eq_getElem_cons h
    rw [List.getElem?_eq_getElem h] at h32
    rw [this, Option.some.inj h32]
  rw [e, trim_sp]
end Lx

namespace Px
open Go
open Lx hiding none run first may
def sgs : List (List Bs) := [[[124]], [[38]], [[60], [60, 61], [61, 61], [33, 61]], [[43], [45]], [[42], [47], [37]]]
def sgsAt (l : Nat) : List Bs := sgs.getD l []
def opX (s : Bs) : Int := match by_ s 0 with
  | some b => b.2.1
  | none => 0
theorem sg_lv : ∀ l, l < 5 → ∀ s ∈ sgsAt l, s ≠ [] ∧ by_ s 0 = some (s, opX s, (l : Int) + 1) := by decide
theorem lv_sg : ∀ b ∈ binds, b.1 ∈ sgsAt (b.2.2 - 1).toNat ∧ ¬ b.2.1 = 0 := by decide
theorem by_nonex {l : Bs} (h : ∀ b ∈ binds, ¬ l = b.1) : by_ l 0 = Option.none := List.find?_eq_none.2 fun b hb => by
  have h1 := h b hb
  have h2 := (lv_sg b hb).2
  simp only [Bool.or_eq_true, beq_iff_eq, not_or]
  exact ⟨fun e => h1 e.symm, h2⟩
end Px
namespace Go.Proofs.YtckgdgkkmhochaaGreatDoor
open Go Go.RowKit Go.SF
set_option linter.unusedSimpArgs false
set_option linter.unusedVariables false
set_option maxRecDepth 100000 in
theorem rsign_q (t : ByteArray) (W : Wd) : CallsQ Tryz.prog 81 #[.string t] W (.bool (Lx.signs.contains t.data.toList)) := by
  refine vc_rsign t W.all _ ?_
  refine den_br (fun c0 => den_ret fun _ _ _ => ⟨_, rfl, ?_⟩) fun c0 => ?_
  · simp only [Sy.dens, Sy.den, E.i, E.b, E.t, gd, Env.push, List.cons_append, List.nil_append, List.append_nil, Int.toNat_natCast, beq_iff_eq] at c0; rw [c0]; rfl
  refine den_br (fun c1 => den_ret fun _ _ _ => ⟨_, rfl, ?_⟩) fun c1 => ?_
  · simp only [Sy.dens, Sy.den, E.i, E.b, E.t, gd, Env.push, List.cons_append, List.nil_append, List.append_nil, Int.toNat_natCast, beq_iff_eq] at c1; rw [c1]; rfl
  refine den_br (fun c2 => den_ret fun _ _ _ => ⟨_, rfl, ?_⟩) fun c2 => ?_
  · simp only [Sy.dens, Sy.den, E.i, E.b, E.t, gd, Env.push, List.cons_append, List.nil_append, List.append_nil, Int.toNat_natCast, beq_iff_eq] at c2; rw [c2]; rfl
  refine den_br (fun c3 => den_ret fun _ _ _ => ⟨_, rfl, ?_⟩) fun c3 => ?_
  · simp only [Sy.dens, Sy.den, E.i, E.b, E.t, gd, Env.push, List.cons_append, List.nil_append, List.append_nil, Int.toNat_natCast, beq_iff_eq] at c3; rw [c3]; rfl
  refine den_br (fun c4 => den_ret fun _ _ _ => ⟨_, rfl, ?_⟩) fun c4 => ?_
  · simp only [Sy.dens, Sy.den, E.i, E.b, E.t, gd, Env.push, List.cons_append, List.nil_append, List.append_nil, Int.toNat_natCast, beq_iff_eq] at c4; rw [c4]; rfl
  refine den_br (fun c5 => den_ret fun _ _ _ => ⟨_, rfl, ?_⟩) fun c5 => ?_
  · simp only [Sy.dens, Sy.den, E.i, E.b, E.t, gd, Env.push, List.cons_append, List.nil_append, List.append_nil, Int.toNat_natCast, beq_iff_eq] at c5; rw [c5]; rfl
  refine den_br (fun c6 => den_ret fun _ _ _ => ⟨_, rfl, ?_⟩) fun c6 => ?_
  · simp only [Sy.dens, Sy.den, E.i, E.b, E.t, gd, Env.push, List.cons_append, List.nil_append, List.append_nil, Int.toNat_natCast, beq_iff_eq] at c6; rw [c6]; rfl
  refine den_br (fun c7 => den_ret fun _ _ _ => ⟨_, rfl, ?_⟩) fun c7 => ?_
  · simp only [Sy.dens, Sy.den, E.i, E.b, E.t, gd, Env.push, List.cons_append, List.nil_append, List.append_nil, Int.toNat_natCast, beq_iff_eq] at c7; rw [c7]; rfl
  refine den_br (fun c8 => den_ret fun _ _ _ => ⟨_, rfl, ?_⟩) fun c8 => ?_
  · simp only [Sy.dens, Sy.den, E.i, E.b, E.t, gd, Env.push, List.cons_append, List.nil_append, List.append_nil, Int.toNat_natCast, beq_iff_eq] at c8; rw [c8]; rfl
  refine den_br (fun c9 => den_ret fun _ _ _ => ⟨_, rfl, ?_⟩) fun c9 => ?_
  · simp only [Sy.dens, Sy.den, E.i, E.b, E.t, gd, Env.push, List.cons_append, List.nil_append, List.append_nil, Int.toNat_natCast, beq_iff_eq] at c9; rw [c9]; rfl
  refine den_br (fun c10 => den_ret fun _ _ _ => ⟨_, rfl, ?_⟩) fun c10 => ?_
  · simp only [Sy.dens, Sy.den, E.i, E.b, E.t, gd, Env.push, List.cons_append, List.nil_append, List.append_nil, Int.toNat_natCast, beq_iff_eq] at c10; rw [c10]; rfl
  refine den_br (fun c11 => den_ret fun _ _ _ => ⟨_, rfl, ?_⟩) fun c11 => ?_
  · simp only [Sy.dens, Sy.den, E.i, E.b, E.t, gd, Env.push, List.cons_append, List.nil_append, List.append_nil, Int.toNat_natCast, beq_iff_eq] at c11; rw [c11]; rfl
  refine den_br (fun c12 => den_ret fun _ _ _ => ⟨_, rfl, ?_⟩) fun c12 => ?_
  · simp only [Sy.dens, Sy.den, E.i, E.b, E.t, gd, Env.push, List.cons_append, List.nil_append, List.append_nil, Int.toNat_natCast, beq_iff_eq] at c12; rw [c12]; rfl
  refine den_br (fun c13 => den_ret fun _ _ _ => ⟨_, rfl, ?_⟩) fun c13 => ?_
  · simp only [Sy.dens, Sy.den, E.i, E.b, E.t, gd, Env.push, List.cons_append, List.nil_append, List.append_nil, Int.toNat_natCast, beq_iff_eq] at c13; rw [c13]; rfl
  simp only [Sy.dens, Sy.den, E.i, E.b, E.t, gd, Env.push, List.cons_append, List.nil_append, List.append_nil, Int.toNat_natCast, beq_eq_false_iff_ne] at c0 c1 c2 c3 c4 c5 c6 c7 c8 c9 c10 c11 c12 c13
  have hno : Lx.signs.contains t.data.toList = false := by
    cases h : Lx.signs.contains t.data.toList with
    | false => rfl
    | true => rcases Lx.sign_mem.1 h with h | h | h | h | h | h | h | h | h | h | h | h | h | h <;> contradiction
  exact den_ret fun _ _ _ => ⟨_, rfl, by rw [hno]; rfl⟩

theorem emp_iff (t : ByteArray) : (t.data.toList == ([] : List UInt8)) = decide (t.size = 0) := by
  rw [← size_len]
  cases t.data.toList <;> simp
theorem run_head {p : UInt8 → Bool} {t : ByteArray} {i : Nat} (hi : i < t.size) (ha : i + Lx.run p (t.data.toList.drop i) = Lx.run p t.data.toList) :
    (p (gd t.data.toList i 0) = true → i + 1 + Lx.run p (t.data.toList.drop (i + 1)) = Lx.run p t.data.toList) ∧ (p (gd t.data.toList i 0) = false → Lx.run p t.data.toList ≠ t.data.toList.length) := by
  have hs := size_len t
  rw [gd_drop t.data.toList i (by omega)] at ha
  refine ⟨fun h => ?_, fun h => ?_⟩
  · rw [Lx.run_cons_t h] at ha; omega
  · rw [Lx.run_cons_f h] at ha; omega
theorem run_end {p : UInt8 → Bool} {t : ByteArray} {i : Nat} (hi : i ≤ t.size) (h2 : (t.size : Int) ≤ (i : Int)) (ha : i + Lx.run p (t.data.toList.drop i) = Lx.run p t.data.toList) : Lx.run p t.data.toList = t.data.toList.length := by
  have hs := size_len t
  rw [List.drop_eq_nil_of_le (by omega), Lx.run_nil] at ha
  omega
set_option maxRecDepth 100000 in
theorem rmay_q (k : Int) (t : ByteArray) (ht : t.size ≤ 9223372036854775807) (W : Wd) : CallsQ Tryz.prog 56 #[.agg #[.int .u8 k, .string t]] W (.bool (Lx.may k t.data.toList)) := by
  refine vc_rmay k t W.all _ ?_
  have hs := size_len t
  refine den_new fun m W1 _ x1 => den_br (fun c1 => ?_) fun c1 => ?_
  · simp only [Sy.dens, Sy.den, E.i, E.b, E.t, gd, Env.push, List.cons_append, List.nil_append, List.append_nil, Int.toNat_natCast, beq_iff_eq] at c1
    have em : Lx.may k t.data.toList = Lx.numOk t.data.toList := by unfold Lx.may; rw [if_pos c1]
    rw [em]
    have e0 := emp_iff t
    refine den_chk ?_ (den_chk ?_ (den_br (fun c2 => ?_) fun c2 => ?_))
    · simp [E.b, E.i, leB]
    · simp only [Sy.dens, Sy.den, E.i, E.b, E.t, gd, Env.push, List.cons_append, List.nil_append, List.append_nil, Int.toNat_natCast, e0]
      by_cases hz : t.size = 0
      · simp [hz]
      · rw [ltB_t (show (0 : Int) < (t.size : Int) by omega), Bool.or_true]
    · refine den_ret fun _ _ _ => ⟨_, rfl, ?_⟩
      simp only [Sy.dens, Sy.den, E.i, E.b, E.t, gd, Env.push, List.cons_append, List.nil_append, List.append_nil, Int.toNat_natCast, e0, Bool.or_eq_true, Bool.and_eq_true, decide_eq_true_eq, ltB_true, beq_iff_eq] at c2
      rcases c2 with (c2 | c2) | ⟨c2, c3⟩
      · have : t.data.toList = [] := List.eq_nil_of_length_eq_zero (by omega)
        rw [this, Lx.num_no0]; rfl
      · rw [Lx.num_no1 (by omega)]; rfl
      · have hh : t.data.toList.head? = some 48 := by
          cases hl : t.data.toList with
          | nil => rw [hl] at hs; simp at hs; omega
          | cons c r =>
            rw [Int.toNat_zero, gd_head hl] at c2
            have : c = 48 := UInt8.toNat_inj.1 (by show c.toNat = 48; omega)
            rw [this]; rfl
        rw [Lx.num_no2 hh (by omega)]; rfl
    · simp only [Sy.dens, Sy.den, E.i, E.b, E.t, gd, Env.push, List.cons_append, List.nil_append, List.append_nil, Int.toNat_natCast, e0, Bool.or_eq_false_iff, Bool.and_eq_false_iff, decide_eq_false_iff_not, ltB_false, beq_eq_false_iff_ne] at c2
      obtain ⟨⟨c2, c3⟩, c4⟩ := c2
      refine den_loop (fun j vs ls _ => ∃ i : Nat, vs = [.int .i64 (i : Int)] ∧ ls = [] ∧ i ≤ t.size ∧ j = t.size - i ∧ i + Lx.run Lx.digit (t.data.toList.drop i) = Lx.run Lx.digit t.data.toList) t.size ⟨0, rfl, rfl, Nat.zero_le _, rfl, by simp⟩ ?_
      rintro n vs ls W' x ⟨i, rfl, rfl, hi, rfl, ha⟩
      refine ⟨(i : Int), rfl, rfl, fun _ => ?_⟩
      simp only [Env.push, List.cons_append, List.nil_append, List.append_nil]
      refine den_br (fun c5 => den_chk ?_ (den_grow fun _ _ => den_br (fun c6 => ?_) fun c6 => ?_)) fun c5 => ?_
      · simp only [Sy.dens, Sy.den, E.i, E.b, E.t, gd, Env.push, List.cons_append, List.nil_append, List.append_nil, Int.toNat_natCast]; exact leB_t (by omega)
      · simp only [Sy.dens, Sy.den, E.i, E.b, E.t, gd, Env.push, List.cons_append, List.nil_append, List.append_nil, Int.toNat_natCast, ltB_true] at c5
        have c6 : (!Lx.digit (gd t.data.toList i 0)) = true := c6
        refine den_ret fun _ _ _ => ⟨_, rfl, ?_⟩
        rw [Lx.num_no3 ((run_head (by omega) ha).2 (by simpa using c6))]; rfl
      · simp only [Sy.dens, Sy.den, E.i, E.b, E.t, gd, Env.push, List.cons_append, List.nil_append, List.append_nil, Int.toNat_natCast, ltB_true] at c5
        have c6 : (!Lx.digit (gd t.data.toList i 0)) = false := c6
        refine den_again ⟨t.size - (i + 1), by omega, i + 1, ?_, rfl, by omega, rfl, (run_head (by omega) ha).1 (by simpa using c6)⟩
        simp only [Sy.dens, Sy.den, E.i, E.b, E.t, gd, Env.push, List.cons_append, List.nil_append, List.append_nil, Int.toNat_natCast]
        rw [w64i (by omega) (by omega)]; rfl
      · simp only [Sy.dens, Sy.den, E.i, E.b, E.t, gd, Env.push, List.cons_append, List.nil_append, List.append_nil, Int.toNat_natCast, ltB_false] at c5
        have hd := Lx.run_iff.1 (run_end hi c5 ha)
        refine den_ret fun _ _ _ => ⟨_, rfl, ?_⟩
        have h0 : t.data.toList ≠ [] := fun e => by rw [e] at hs; simp at hs; omega
        have h2 : ¬ (t.data.toList.head? = some 48 ∧ 1 < t.data.toList.length) := by
          rintro ⟨h5, h6⟩
          rcases c4 with c4 | c4
          · cases hl : t.data.toList with
            | nil => exact h0 hl
            | cons c r =>
              rw [hl] at h5
              obtain rfl : c = 48 := by simpa using h5
              rw [Int.toNat_zero, gd_head hl] at c4
              exact c4 rfl
          · omega
        have := Lx.num_doc h0 (by omega) h2 hd
        simp only [Sy.dens, Sy.den, E.i, E.b, E.t, gd, Env.push, List.cons_append, List.nil_append, List.append_nil, Int.toNat_natCast]
        rw [this, hs]
        have hlt : ltB (t.size : Int) 19 = decide (t.size < 19) := by unfold ltB; congr 1; rw [eq_iff_iff]; omega
        rw [hlt]; rfl
  · simp only [Sy.dens, Sy.den, E.i, E.b, E.t, gd, Env.push, List.cons_append, List.nil_append, List.append_nil, Int.toNat_natCast, beq_eq_false_iff_ne] at c1
    refine den_br (fun c2 => ?_) fun c2 => ?_
    · simp only [Sy.dens, Sy.den, E.i, E.b, E.t, gd, Env.push, List.cons_append, List.nil_append, List.append_nil, Int.toNat_natCast, beq_iff_eq] at c2
      have em : Lx.may k t.data.toList = Lx.wordOk t.data.toList := by unfold Lx.may; rw [if_neg c1, if_pos c2]
      rw [em]
      have e0 := emp_iff t
      refine den_chk ?_ (den_chk ?_ (den_br (fun c3 => den_grow fun _ _ => den_br (fun c4 => ?_) fun c4 => ?_) fun c3 => ?_))
      · simp [E.b, E.i, leB]
      · simp only [Sy.dens, Sy.den, E.i, E.b, E.t, gd, Env.push, List.cons_append, List.nil_append, List.append_nil, Int.toNat_natCast, e0]
        by_cases hz : t.size = 0
        · simp [hz]
        · rw [ltB_t (show (0 : Int) < (t.size : Int) by omega), Bool.or_true]
      · simp only [Sy.dens, Sy.den, E.i, E.b, E.t, gd, Env.push, List.cons_append, List.nil_append, List.append_nil, Int.toNat_natCast, e0, Bool.not_eq_true', Bool.or_eq_false_iff, decide_eq_false_iff_not, ltB_false] at c3
        have c4 : (!Lx.letter (gd t.data.toList 0 0)) = true := c4
        refine den_ret fun _ _ _ => ⟨_, rfl, ?_⟩
        cases hl : t.data.toList with
        | nil => rfl
        | cons c r =>
          rw [gd_head hl] at c4
          have : Lx.letter c = false := by simpa using c4
          simp [Lx.wordOk, this, Sy.den, E.b]
      · simp only [Sy.dens, Sy.den, E.i, E.b, E.t, gd, Env.push, List.cons_append, List.nil_append, List.append_nil, Int.toNat_natCast, e0, Bool.not_eq_true', Bool.or_eq_false_iff, decide_eq_false_iff_not, ltB_false] at c3
        have c4 : (!Lx.letter (gd t.data.toList 0 0)) = false := c4
        have key : Lx.wordOk t.data.toList = (Lx.run Lx.behind t.data.toList == t.data.toList.length) := by
          cases hl : t.data.toList with
          | nil => rw [hl] at hs; simp at hs; omega
          | cons c r =>
            rw [gd_head hl] at c4
            have h5 : Lx.letter c = true := by simpa using c4
            have h6 : (c :: r).length ≤ 12 := by rw [← hl]; omega
            show (Lx.letter c && ((Lx.run Lx.behind (c :: r) == (c :: r).length) && decide ((c :: r).length ≤ 12))) = _
            rw [h5, decide_eq_true h6, Bool.and_true, Bool.true_and]
        rw [key]
        refine den_loop (fun j vs ls _ => ∃ i : Nat, vs = [.int .i64 (i : Int)] ∧ ls = [] ∧ i ≤ t.size ∧ j = t.size - i ∧ i + Lx.run Lx.behind (t.data.toList.drop i) = Lx.run Lx.behind t.data.toList) t.size ⟨0, rfl, rfl, Nat.zero_le _, rfl, by simp⟩ ?_
        rintro n vs ls W' x ⟨i, rfl, rfl, hi, rfl, ha⟩
        refine ⟨(i : Int), rfl, rfl, fun _ => ?_⟩
        simp only [Env.push, List.cons_append, List.nil_append, List.append_nil]
        have go : i < t.size → Lx.behind (gd t.data.toList i 0) = true → ∃ n', n' < t.size - i ∧ ∃ i' : Nat, [Value.int .i64 (IntKind.i64.wrap ((i : Int) + 1))] = [.int .i64 (i' : Int)] ∧ ([] : List (List Value)) = [] ∧ i' ≤ t.size ∧ n' = t.size - i' ∧ i' + Lx.run Lx.behind (t.data.toList.drop i') = Lx.run Lx.behind t.data.toList := fun h5 h6 => by
          refine ⟨t.size - (i + 1), by omega, i + 1, ?_, rfl, by omega, rfl, (run_head h5 ha).1 h6⟩
          rw [w64i (by omega) (by omega)]; rfl
        refine den_br (fun c5 => den_chk ?_ (den_grow fun _ _ => den_br (fun c6 => den_grow fun _ _ => den_br (fun c7 => ?_) fun c7 => ?_) fun c6 => ?_)) fun c5 => ?_
        · simp only [Sy.dens, Sy.den, E.i, E.b, E.t, gd, Env.push, List.cons_append, List.nil_append, List.append_nil, Int.toNat_natCast]; exact leB_t (by omega)
        · simp only [Sy.dens, Sy.den, E.i, E.b, E.t, gd, Env.push, List.cons_append, List.nil_append, List.append_nil, Int.toNat_natCast, ltB_true] at c5
          have c6 : (!Lx.letter (gd t.data.toList i 0)) = true := c6
          have c7 : ((!Lx.digit (gd t.data.toList i 0)) && !(((gd t.data.toList i 0).toNat : Int) == 95)) = true := c7
          refine den_ret fun _ _ _ => ⟨_, rfl, ?_⟩
          have h8 : Lx.behind (gd t.data.toList i 0) = false := by
            unfold Lx.behind
            simp only [Bool.and_eq_true, Bool.not_eq_true'] at c6 c7
            rw [c6, c7.1, c7.2]; rfl
          have := (run_head (by omega) ha).2 h8
          have : (Lx.run Lx.behind t.data.toList == t.data.toList.length) = false := by rw [beq_eq_false_iff_ne]; exact this
          rw [this]; rfl
        · simp only [Sy.dens, Sy.den, E.i, E.b, E.t, gd, Env.push, List.cons_append, List.nil_append, List.append_nil, Int.toNat_natCast, ltB_true] at c5
          have c7 : ((!Lx.digit (gd t.data.toList i 0)) && !(((gd t.data.toList i 0).toNat : Int) == 95)) = false := c7
          refine den_again (go (by omega) ?_)
          unfold Lx.behind
          rw [Bool.and_eq_false_iff, Bool.not_eq_false', Bool.not_eq_false'] at c7
          rcases c7 with c7 | c7
          · rw [c7]; simp
          · rw [c7]; simp
        · simp only [Sy.dens, Sy.den, E.i, E.b, E.t, gd, Env.push, List.cons_append, List.nil_append, List.append_nil, Int.toNat_natCast, ltB_true] at c5
          have c6 : (!Lx.letter (gd t.data.toList i 0)) = false := c6
          refine den_again (go (by omega) ?_)
          unfold Lx.behind
          rw [show Lx.letter (gd t.data.toList i 0) = true by simpa using c6]; simp
        · simp only [Sy.dens, Sy.den, E.i, E.b, E.t, gd, Env.push, List.cons_append, List.nil_append, List.append_nil, Int.toNat_natCast, ltB_false] at c5
          refine den_ret fun _ _ _ => ⟨_, rfl, ?_⟩
          rw [run_end hi c5 ha]; simp [Sy.den, E.b]
      · simp only [Sy.dens, Sy.den, E.i, E.b, E.t, gd, Env.push, List.cons_append, List.nil_append, List.append_nil, Int.toNat_natCast, e0, Bool.not_eq_false', Bool.or_eq_true, decide_eq_true_eq, ltB_true] at c3
        refine den_ret fun _ _ _ => ⟨_, rfl, ?_⟩
        cases hl : t.data.toList with
        | nil => rfl
        | cons c r =>
          have h6 : ¬ (c :: r).length ≤ 12 := by
            rw [← hl]
            rcases c3 with c3 | c3
            · rw [hl] at hs; simp at hs; omega
            · omega
          have : Lx.wordOk (c :: r) = false := by
            show (Lx.letter c && ((Lx.run Lx.behind (c :: r) == (c :: r).length) && decide ((c :: r).length ≤ 12))) = _
            rw [decide_eq_false h6, Bool.and_false, Bool.and_false]
          rw [this]; rfl
    · simp only [Sy.dens, Sy.den, E.i, E.b, E.t, gd, Env.push, List.cons_append, List.nil_append, List.append_nil, Int.toNat_natCast, beq_eq_false_iff_ne] at c2
      refine den_br (fun c3 => ?_) fun c3 => ?_
      · simp only [Sy.dens, Sy.den, E.i, E.b, E.t, gd, Env.push, List.cons_append, List.nil_append, List.append_nil, Int.toNat_natCast, beq_iff_eq] at c3
        have em : Lx.may k t.data.toList = Lx.quoteOk t.data.toList := by unfold Lx.may; rw [if_neg c1, if_neg c2, if_pos c3]
        rw [em]
        refine den_br (fun c4 => ?_) fun c4 => ?_
        · simp only [Sy.dens, Sy.den, E.i, E.b, E.t, gd, Env.push, List.cons_append, List.nil_append, List.append_nil, Int.toNat_natCast, ltB_true] at c4
          refine den_ret fun _ _ _ => ⟨_, rfl, ?_⟩
          unfold Lx.quoteOk
          rw [decide_eq_false (by omega), Bool.and_false]; rfl
        · simp only [Sy.dens, Sy.den, E.i, E.b, E.t, gd, Env.push, List.cons_append, List.nil_append, List.append_nil, Int.toNat_natCast, ltB_false] at c4
          have key : Lx.quoteOk t.data.toList = (Lx.run Lx.quoted t.data.toList == t.data.toList.length) := by
            unfold Lx.quoteOk
            rw [decide_eq_true (by omega), Bool.and_true]
          rw [key]
          refine den_loop (fun j vs ls _ => ∃ i : Nat, vs = [.int .i64 (i : Int)] ∧ ls = [] ∧ i ≤ t.size ∧ j = t.size - i ∧ i + Lx.run Lx.quoted (t.data.toList.drop i) = Lx.run Lx.quoted t.data.toList) t.size ⟨0, rfl, rfl, Nat.zero_le _, rfl, by simp⟩ ?_
          rintro n vs ls W' x ⟨i, rfl, rfl, hi, rfl, ha⟩
          refine ⟨(i : Int), rfl, rfl, fun _ => ?_⟩
          simp only [Env.push, List.cons_append, List.nil_append, List.append_nil]
          have hq : Lx.quoted (gd t.data.toList i 0) = !((ltB ((gd t.data.toList i 0).toNat : Int) 32 || ltB 126 ((gd t.data.toList i 0).toNat : Int)) || (((gd t.data.toList i 0).toNat : Int) == 39)) := by
            unfold Lx.quoted ltB
            generalize ((gd t.data.toList i 0).toNat : Int) = z
            rw [Bool.eq_iff_iff]
            simp only [Bool.and_eq_true, decide_eq_true_eq, Bool.not_eq_true', Bool.or_eq_false_iff, decide_eq_false_iff_not, Int.not_lt]
          refine den_br (fun c5 => den_chk ?_ (den_br (fun c6 => ?_) fun c6 => ?_)) fun c5 => ?_
          · simp only [Sy.dens, Sy.den, E.i, E.b, E.t, gd, Env.push, List.cons_append, List.nil_append, List.append_nil, Int.toNat_natCast]; exact leB_t (by omega)
          · simp only [Sy.dens, Sy.den, E.i, E.b, E.t, gd, Env.push, List.cons_append, List.nil_append, List.append_nil, Int.toNat_natCast, ltB_true] at c5
            have c6 : ((ltB ((gd t.data.toList i 0).toNat : Int) 32 || ltB 126 ((gd t.data.toList i 0).toNat : Int)) || (((gd t.data.toList i 0).toNat : Int) == 39)) = true := c6
            rw [c6] at hq
            refine den_ret fun _ _ _ => ⟨_, rfl, ?_⟩
            have := (run_head (by omega) ha).2 hq
            have : (Lx.run Lx.quoted t.data.toList == t.data.toList.length) = false := by rw [beq_eq_false_iff_ne]; exact this
            rw [this]; rfl
          · simp only [Sy.dens, Sy.den, E.i, E.b, E.t, gd, Env.push, List.cons_append, List.nil_append, List.append_nil, Int.toNat_natCast, ltB_true] at c5
            have c6 : ((ltB ((gd t.data.toList i 0).toNat : Int) 32 || ltB 126 ((gd t.data.toList i 0).toNat : Int)) || (((gd t.data.toList i 0).toNat : Int) == 39)) = false := c6
            rw [c6] at hq
            refine den_again ⟨t.size - (i + 1), by omega, i + 1, ?_, rfl, by omega, rfl, (run_head (by omega) ha).1 hq⟩
            simp only [Sy.dens, Sy.den, E.i, E.b, E.t, gd, Env.push, List.cons_append, List.nil_append, List.append_nil, Int.toNat_natCast]
            rw [w64i (by omega) (by omega)]; rfl
          · simp only [Sy.dens, Sy.den, E.i, E.b, E.t, gd, Env.push, List.cons_append, List.nil_append, List.append_nil, Int.toNat_natCast, ltB_false] at c5
            refine den_ret fun _ _ _ => ⟨_, rfl, ?_⟩
            rw [run_end hi c5 ha]; simp [Sy.den, E.b]
      · simp only [Sy.dens, Sy.den, E.i, E.b, E.t, gd, Env.push, List.cons_append, List.nil_append, List.append_nil, Int.toNat_natCast, beq_eq_false_iff_ne] at c3
        refine den_br (fun c4 => ?_) fun c4 => ?_
        · simp only [Sy.dens, Sy.den, E.i, E.b, E.t, gd, Env.push, List.cons_append, List.nil_append, List.append_nil, Int.toNat_natCast, beq_iff_eq] at c4
          have em : Lx.may k t.data.toList = Lx.signs.contains t.data.toList := by unfold Lx.may; rw [if_neg c1, if_neg c2, if_neg c3, if_pos c4]
          rw [em]
          refine den_call_q (fun _ _ => rsign_q t W1) ⟨_, rfl, fun W2 x2 => den_ret fun _ _ _ => ⟨_, rfl, rfl⟩⟩
        · simp only [Sy.dens, Sy.den, E.i, E.b, E.t, gd, Env.push, List.cons_append, List.nil_append, List.append_nil, Int.toNat_natCast, beq_eq_false_iff_ne] at c4
          have em : Lx.may k t.data.toList = false := by unfold Lx.may; rw [if_neg c1, if_neg c2, if_neg c3, if_neg c4]
          rw [em]
          exact den_ret fun _ _ _ => ⟨_, rfl, rfl⟩
theorem xmay_q (k n : Int) (t : ByteArray) (ht : t.size ≤ 9223372036854775806) (W : Wd) : CallsQ Tryz.prog 55 #[.agg #[.int .u8 k, .int .i64 n, .string t]] W (.bool (Va.may ⟨k, n, t⟩)) := by
  refine vc_xmay k n t W.all _ ?_
  refine den_new fun m W' _ x => ?_
  have hs := size_len t
  refine den_br (fun c => den_ret fun _ _ _ => ⟨_, rfl, ?_⟩) fun c0 => den_br (fun c => den_ret fun _ _ _ => ⟨_, rfl, ?_⟩) fun c1 => den_br (fun c => den_ret fun _ _ _ => ⟨_, rfl, ?_⟩) fun c2 => den_br (fun c3 => ?_) fun c3 => den_ret fun _ _ _ => ⟨_, rfl, ?_⟩
  · have c : k = 0 := by simpa [Sy.dens, Sy.den, E.i, E.b, E.t, gd, Env.push, List.cons_append, List.nil_append, List.append_nil, Int.toNat_natCast] using c
    subst c; simp [Sy.dens, Sy.den, E.i, E.b, E.t, gd, Env.push, List.cons_append, List.nil_append, List.append_nil, Int.toNat_natCast, Va.may]
  · have c : k = 1 := by simpa [Sy.dens, Sy.den, E.i, E.b, E.t, gd, Env.push, List.cons_append, List.nil_append, List.append_nil, Int.toNat_natCast] using c
    subst c; simp [Sy.dens, Sy.den, E.i, E.b, E.t, gd, Env.push, List.cons_append, List.nil_append, List.append_nil, Int.toNat_natCast, Va.may]
  · have c : k = 2 := by simpa [Sy.dens, Sy.den, E.i, E.b, E.t, gd, Env.push, List.cons_append, List.nil_append, List.append_nil, Int.toNat_natCast] using c
    subst c; simp [Sy.dens, Sy.den, E.i, E.b, E.t, gd, Env.push, List.cons_append, List.nil_append, List.append_nil, Int.toNat_natCast, Va.may]
  · have c3 : k = 3 := by simpa [Sy.dens, Sy.den, E.i, E.b, E.t, gd, Env.push, List.cons_append, List.nil_append, List.append_nil, Int.toNat_natCast] using c3
    subst c3
    refine den_loop (fun j vs ls _ => ∃ i : Nat, vs = [.int .i64 (i : Int)] ∧ ls = [] ∧ i ≤ t.size ∧ j = t.size - i ∧ (t.data.toList.drop i).all Va.okc = t.data.toList.all Va.okc) t.size ⟨0, by simp [Sy.dens, Sy.den, E.i, E.b, E.t, gd, Env.push, List.cons_append, List.nil_append, List.append_nil, Int.toNat_natCast], rfl, Nat.zero_le _, rfl, rfl⟩ ?_
    rintro j vs ls W' x ⟨i, rfl, rfl, hi, rfl, ha⟩
    refine ⟨(i : Int), rfl, rfl, fun _ => den_br (fun c => ?_) fun c => ?_⟩
    · simp only [Sy.dens, Sy.den, E.i, E.b, E.t, gd, Env.push, List.cons_append, List.nil_append, List.append_nil, Int.toNat_natCast, ltB_true] at c
      have hl : i < t.data.toList.length := by omega
      have hd := gd_drop t.data.toList i hl
      refine den_chk ?_ (den_br (fun c2 => den_ret fun _ _ _ => ⟨_, rfl, ?_⟩) fun c2 => den_again ⟨t.size - (i + 1), by omega, i + 1, ?_, rfl, by omega, rfl, ?_⟩)
      · simp only [Sy.dens, Sy.den, E.i, E.b, E.t, gd, Env.push, List.cons_append, List.nil_append, List.append_nil, Int.toNat_natCast]; exact leB_t (by omega)
      · simp only [Sy.dens, Sy.den, E.i, E.b, E.t, gd, Env.push, List.cons_append, List.nil_append, List.append_nil, Int.toNat_natCast] at c2
        rw [hd, List.all_cons] at ha
        have hk : Va.okc (gd t.data.toList i 0) = false := by unfold Va.okc; simp only [ltB] at c2; simp [c2]
        rw [hk, Bool.false_and] at ha
        show Value.bool false = _
        simp [Va.may, Va.plain, ← ha]
      · simp only [Sy.dens, Sy.den, E.i, E.b, E.t, gd, Env.push, List.cons_append, List.nil_append, List.append_nil, Int.toNat_natCast]; rw [w64i (by omega) (by omega)]; rfl
      · simp only [Sy.dens, Sy.den, E.i, E.b, E.t, gd, Env.push, List.cons_append, List.nil_append, List.append_nil, Int.toNat_natCast] at c2
        rw [hd, List.all_cons] at ha
        have hk : Va.okc (gd t.data.toList i 0) = true := by unfold Va.okc; simp only [ltB] at c2; simp at c2 ⊢; omega
        rw [hk, Bool.true_and] at ha
        exact ha
    · refine den_ret fun _ _ _ => ⟨_, rfl, ?_⟩
      simp only [Sy.dens, Sy.den, E.i, E.b, E.t, gd, Env.push, List.cons_append, List.nil_append, List.append_nil, Int.toNat_natCast, ltB_false] at c
      rw [List.drop_eq_nil_of_le (by omega)] at ha
      simp only [Sy.dens, Sy.den, E.i, E.b, E.t, gd, Env.push, List.cons_append, List.nil_append, List.append_nil, Int.toNat_natCast]
      simp [Va.may, Va.plain, ← ha, leB, hs]
  · have e0 : ¬ k = 0 := by simpa [Sy.dens, Sy.den, E.i, E.b, E.t, gd, Env.push, List.cons_append, List.nil_append, List.append_nil, Int.toNat_natCast] using c0
    have e1 : ¬ k = 1 := by simpa [Sy.dens, Sy.den, E.i, E.b, E.t, gd, Env.push, List.cons_append, List.nil_append, List.append_nil, Int.toNat_natCast] using c1
    have e2 : ¬ k = 2 := by simpa [Sy.dens, Sy.den, E.i, E.b, E.t, gd, Env.push, List.cons_append, List.nil_append, List.append_nil, Int.toNat_natCast] using c2
    have e3 : ¬ k = 3 := by simpa [Sy.dens, Sy.den, E.i, E.b, E.t, gd, Env.push, List.cons_append, List.nil_append, List.append_nil, Int.toNat_natCast] using c3
    simp [Va.may, e0, e1, e2, e3, Sy.den, E.b]
def waysC (p : Nat → Option Addr) : List Value := [.slice (p 0) 1 1, .slice (p 1) 1 1, .slice (p 2) 4 4, .slice (p 3) 2 2, .slice (p 4) 3 3]
def strV (s : Lx.Bs) : List Value := [.string ⟨s.toArray⟩]
def pAt (a b c d e : Option Addr) : Nat → Option Addr
  | 0 => a
  | 1 => b
  | 2 => c
  | 3 => d
  | _ => e
theorem xways_i (W : Wd) : CallsI Tryz.prog 68 #[] W.all fun v w' => ∃ (a : Option Addr) (p : Nat → Option Addr), v = .slice a 5 5 ∧ SlAt w' (fun b => W.w.heap.size ≤ b) a 5 5 1 (waysC p) ∧
    ∀ l, l < 5 → SlAt w' (fun b => W.w.heap.size ≤ b) (p l) (Px.sgsAt l).length (Px.sgsAt l).length 1 ((Px.sgsAt l).flatMap strV) := by
  refine vc_xways W.all _ ?_
  refine den_new fun m0 W1 h0 _ => den_new fun m1 W2 h1 _ => den_new fun m2 W3 h2 _ => den_new fun m3 W4 h3 _ => den_new fun m4 W5 h4 _ => den_new fun m5 W6 h5 _ => den_ret fun hb _ _ => ?_
  have b5 : W6.w.heap[m5]? = some (.cells (waysC (pAt (some ⟨m0, 0, none⟩) (some ⟨m1, 0, none⟩) (some ⟨m2, 0, none⟩) (some ⟨m3, 0, none⟩) (some ⟨m4, 0, none⟩))).toArray 31) := hb _ (List.mem_cons_self ..)
  have b4 : W6.w.heap[m4]? = some (.cells ((Px.sgsAt 4).flatMap strV).toArray 9) := hb _ (List.mem_cons_of_mem _ (List.mem_cons_self ..))
  have b3 : W6.w.heap[m3]? = some (.cells ((Px.sgsAt 3).flatMap strV).toArray 9) := hb _ (List.mem_cons_of_mem _ (List.mem_cons_of_mem _ (List.mem_cons_self ..)))
  have b2 : W6.w.heap[m2]? = some (.cells ((Px.sgsAt 2).flatMap strV).toArray 9) := hb _ (List.mem_cons_of_mem _ (List.mem_cons_of_mem _ (List.mem_cons_of_mem _ (List.mem_cons_self ..))))
  have b1 : W6.w.heap[m1]? = some (.cells ((Px.sgsAt 1).flatMap strV).toArray 9) := hb _ (List.mem_cons_of_mem _ (List.mem_cons_of_mem _ (List.mem_cons_of_mem _ (List.mem_cons_of_mem _ (List.mem_cons_self ..)))))
  have b0 : W6.w.heap[m0]? = some (.cells ((Px.sgsAt 0).flatMap strV).toArray 9) := hb _ (List.mem_cons_of_mem _ (List.mem_cons_of_mem _ (List.mem_cons_of_mem _ (List.mem_cons_of_mem _ (List.mem_cons_of_mem _ (List.mem_cons_self ..))))))
  refine ⟨_, rfl, some ⟨m5, 0, none⟩, (pAt (some ⟨m0, 0, none⟩) (some ⟨m1, 0, none⟩) (some ⟨m2, 0, none⟩) (some ⟨m3, 0, none⟩) (some ⟨m4, 0, none⟩)), rfl, blk_slJ b5 h5 rfl, fun l hl => ?_⟩
  match l, hl with
  | 0, _ => exact blk_slJ b0 h0 rfl
  | 1, _ => exact blk_slJ b1 h1 rfl
  | 2, _ => exact blk_slJ b2 h2 rfl
  | 3, _ => exact blk_slJ b3 h3 rfl
  | 4, _ => exact blk_slJ b4 h4 rfl
theorem ways_at (p : Nat → Option Addr) : ∀ l, l < 5 → (waysC p)[l]? = some (.slice (p l) (Px.sgsAt l).length (Px.sgsAt l).length)
  | 0, _ => rfl
  | 1, _ => rfl
  | 2, _ => rfl
  | 3, _ => rfl
  | 4, _ => rfl
  | n + 5, h => by omega
theorem sl_agg60 : aggT Tryz.prog 31 = some false := by kernel_rfl
theorem xop_q (s : ByteArray) (W : Wd) : CallsQ Tryz.prog 69 #[.string s] W (.int .u8 (Px.opX s.data.toList)) := by
  refine vc_xop s W.all _ ?_
  repeat' (first | (with_reducible refine den_br (fun _ => ?_) (fun _ => ?_)) | (with_reducible refine den_new fun _ _ _ _ => ?_) | (with_reducible refine den_wr fun _ _ => ?_) | (with_reducible refine den_grow fun _ _ => ?_) | (with_reducible refine den_ret fun _ _ _ => ?_))
  all_goals refine ⟨_, rfl, ?_⟩
  all_goals simp only [Sy.dens, Sy.den, E.i, E.b, E.t, gd, Env.push, List.cons_append, List.nil_append, List.append_nil, Int.toNat_natCast] at *
  all_goals generalize s.data.toList = l at *
  all_goals simp only [beq_iff_eq, beq_eq_false_iff_ne, ne_eq] at *
  all_goals (try (subst_vars; rfl))
  unfold Px.opX
  rw [Px.by_nonex fun b hb => by
    simp only [Px.binds, List.mem_cons, List.not_mem_nil, or_false] at hb
    rcases hb with rfl | rfl | rfl | rfl | rfl | rfl | rfl | rfl | rfl | rfl | rfl <;> exact fun e => absurd e.symm (by assumption)]
end Go.Proofs.YtckgdgkkmhochaaGreatDoor
