/- The contracts of the document's answers at the door's seat: what may be, operators of one. -/
import Derived.Test.YtpekccomahikbaaDoorVdSe
namespace Go.Proofs.YtpekccomahikbaaDoor
open Go Go.RowKit Go.SE
set_option linter.unusedSimpArgs false
set_option linter.unusedVariables false

theorem neg_told (n : Int) (hn : Va.Fit n) : ((ltB n 0 && ltB (IntKind.i64.wrap (9223372036854775807 + n)) 0) || (ltB 0 n && ltB 0 (IntKind.i64.wrap (-9223372036854775808 + n)))) = !Va.inR (0 - n) := by
  unfold Va.Fit at hn
  rw [w64, w64]
  unfold Va.inR ltB
  by_cases h : n < 0
  · rw [Va.Fit.wrap (x := 9223372036854775807 + n) (by unfold Va.Fit; omega)]
    rw [Bool.eq_iff_iff]; simp only [Bool.or_eq_true, Bool.and_eq_true, decide_eq_true_eq, Bool.not_eq_true', Bool.and_eq_false_iff, decide_eq_false_iff_not]; omega
  · by_cases h2 : 0 < n
    · rw [Va.Fit.wrap (x := -9223372036854775808 + n) (by unfold Va.Fit; omega)]
      rw [Bool.eq_iff_iff]; simp only [Bool.or_eq_true, Bool.and_eq_true, decide_eq_true_eq, Bool.not_eq_true', Bool.and_eq_false_iff, decide_eq_false_iff_not]; omega
    · have : n = 0 := by omega
      subst this; decide
theorem rone_q (op k n : Int) (t : ByteArray) (hn : Va.Fit n) (W : Wd) : CallsQ Tryd.prog 7 #[.int .u8 op, .agg #[.int .u8 k, .int .i64 n, .string t]] W (vT (Va.one op ⟨k, n, t⟩)) :=
  .of_i (by
    refine vc_rone op k n t W _ ?_
    have h := neg_told n hn
    repeat' (first | (with_reducible refine den_br (fun _ => ?_) (fun _ => ?_)) | (with_reducible refine den_new fun _ _ _ => ?_) | (with_reducible refine den_wr fun _ _ => ?_) | (with_reducible refine den_grow fun _ _ => ?_) | (with_reducible refine den_ret fun _ _ _ _ _ => ?_))
    all_goals simp only [Sy.dens, Sy.den, E.i, E.b, E.t, gd, Env.push, List.cons_append, List.nil_append, List.append_nil, Int.toNat_natCast] at *
    all_goals have hf : Va.inR (0 - n) = true → IntKind.i64.wrap (0 - n) = 0 - n := fun e => by rw [w64]; exact (Va.Fit.iff.2 e).wrap
    all_goals generalize IntKind.i64.wrap (0 - n) = z at *
    all_goals simp only [Va.one, Va.told]
    all_goals generalize hp : Va.inR (0 - n) = p at *
    all_goals (cases p <;> simp_all [vT, vV, Va.none, Va.num, Va.truth, Va.yes])
    all_goals (rcases (by assumption : (op = 3 ∨ op = 4) ∨ op = 16) with (e | e) | e <;> subst e <;> simp_all))
theorem rmay_q (k n : Int) (t : ByteArray) (ht : t.size ≤ 9223372036854775807) (W : Wd) : CallsQ Tryd.prog 9 #[.agg #[.int .u8 k, .int .i64 n, .string t]] W (.bool (Va.may ⟨k, n, t⟩)) :=
  .of_i (by
    refine vc_rmay k n t W _ ?_
    refine den_new fun m W' x => ?_
    by_cases h3 : k = 3
    · subst h3
      refine den_br_f rfl (den_br_f rfl (den_br_f rfl (den_br_t rfl ?_)))
      refine den_loop (fun j vs _ => ∃ i : Nat, vs = [.int .i64 (i : Int)] ∧ i ≤ t.size ∧ j = t.size - i ∧ (t.data.toList.drop i).all Va.okc = t.data.toList.all Va.okc) t.size ⟨0, rfl, Nat.zero_le _, rfl, rfl⟩ ?_
      rintro j vs W' x ⟨i, rfl, hi, rfl, ha⟩
      have hs : t.data.toList.length = t.size := by rw [Array.length_toList]; rfl
      refine ⟨(i : Int), rfl, den_br (fun c => ?_) fun c => ?_⟩
      · simp only [Sy.dens, Sy.den, E.i, E.b, E.t, gd, Env.push, List.cons_append, List.nil_append, List.append_nil, Int.toNat_natCast, ltB_true] at c
        have hl : i < t.data.toList.length := by omega
        have hd := gd_drop t.data.toList i hl
        refine den_chk (by simp [E.b, E.i, gd, Env.push, leB]) (den_br (fun c2 => ?_) fun c2 => ?_)
        · refine den_ret fun _ _ _ _ _ => ?_
          simp only [Sy.dens, Sy.den, E.i, E.b, E.t, gd, Env.push, List.cons_append, List.nil_append, List.append_nil, Int.toNat_natCast] at c2
          rw [hd, List.all_cons] at ha
          have hk : Va.okc (gd t.data.toList i 0) = false := by unfold Va.okc; simp only [ltB] at c2; simp [c2]
          rw [hk, Bool.false_and] at ha
          show Value.bool false = _
          simp [Va.may, Va.plain, ← ha]
        · simp only [Sy.dens, Sy.den, E.i, E.b, E.t, gd, Env.push, List.cons_append, List.nil_append, List.append_nil, Int.toNat_natCast] at c2
          rw [hd, List.all_cons] at ha
          have hk : Va.okc (gd t.data.toList i 0) = true := by unfold Va.okc; simp only [ltB] at c2; simp at c2 ⊢; omega
          rw [hk, Bool.true_and] at ha
          refine den_again ⟨t.size - (i + 1), by omega, i + 1, ?_, by omega, rfl, ha⟩
          simp only [Sy.dens, Sy.den, E.i, E.b, E.t, gd, Env.push, List.cons_append, List.nil_append, List.append_nil, Int.toNat_natCast]
          rw [w64, Va.Fit.wrap (by unfold Va.Fit; omega)]; rfl
      · simp only [Sy.dens, Sy.den, E.i, E.b, E.t, gd, Env.push, List.cons_append, List.nil_append, List.append_nil, Int.toNat_natCast, ltB_false] at c
        refine den_ret fun _ _ _ _ _ => ?_
        have : t.data.toList.drop i = [] := List.drop_eq_nil_of_le (by omega)
        rw [this] at ha
        show Value.bool _ = _
        simp [Va.may, Va.plain, ← ha, E.b, E.i, E.t, gd, Env.push, leB]
    · refine den_br (fun c => ?_) fun c => den_br (fun c2 => ?_) fun c2 => den_br (fun c3 => ?_) fun c3 => den_br_f ?_ ?_
      all_goals (try (with_reducible refine den_ret fun _ _ _ _ _ => ?_))
      all_goals simp only [Sy.dens, Sy.den, E.i, E.b, E.t, gd, Env.push, List.cons_append, List.nil_append, List.append_nil, Int.toNat_natCast] at *
      all_goals simp_all [Va.may])
theorem ris_q (k n : Int) (t : ByteArray) (kind : Int) (ht : t.size ≤ 9223372036854775807) (W : Wd) : CallsQ Tryd.prog 11 #[.agg #[.int .u8 k, .int .i64 n, .string t], .int .u8 kind] W (.bool ((k == kind) && Va.may ⟨k, n, t⟩)) :=
  .of_i (by
    refine vc_ris k n kind t W _ ?_
    have h := rmay_q k n t ht
    repeat' (first | (with_reducible refine den_br (fun _ => ?_) (fun _ => ?_)) | (with_reducible refine den_new fun _ _ _ => ?_) | (with_reducible refine den_wr fun _ _ => ?_) | (with_reducible refine den_grow fun _ _ => ?_) | (with_reducible refine den_ret fun _ _ _ _ _ => ?_))
    all_goals try ((with_reducible refine den_call fun _ => ?_); refine CallsI.of_q (h _) fun W' x => ⟨Va.may ⟨k, n, t⟩, rfl, ?_⟩)
    repeat' (first | (with_reducible refine den_br (fun _ => ?_) (fun _ => ?_)) | (with_reducible refine den_new fun _ _ _ => ?_) | (with_reducible refine den_wr fun _ _ => ?_) | (with_reducible refine den_grow fun _ _ => ?_) | (with_reducible refine den_ret fun _ _ _ _ _ => ?_))
    all_goals simp only [Sy.dens, Sy.den, E.i, E.b, E.t, gd, Env.push, List.cons_append, List.nil_append, List.append_nil, Int.toNat_natCast] at *
    all_goals generalize hp : Va.may ⟨k, n, t⟩ = p at *
    all_goals rw [Bool.and_comm])
end Go.Proofs.YtpekccomahikbaaDoor
