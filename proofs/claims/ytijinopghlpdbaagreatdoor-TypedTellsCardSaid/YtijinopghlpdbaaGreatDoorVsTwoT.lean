/- The contracts of package value: operators. -/
import Derived.Test.YtijinopghlpdbaaGreatDoorVcVs2T
import Derived.Test.YtijinopghlpdbaaGreatDoorSfE
import Derived.Test.YtijinopghlpdbaaGreatDoorVaRefPlain
import Derived.WalkSpells
import Derived.Outline
import Derived.Lib.Bytealg
namespace Go.Proofs.YtijinopghlpdbaaGreatDoor
open Go Go.RowKit Go.SF
set_option linter.unusedSimpArgs false
set_option linter.unusedVariables false
namespace Vt

/-- a value, in Go's form -/
def vV (v : Va.V) : Value := .agg #[.int .u8 v.k, .int .i64 v.n, .string v.t]
def vT (p : Va.V × Int) : Value := .tuple #[vV p.1, .int .i64 p.2]
theorem ltB_t {a b : Int} (h : a < b) : ltB a b = true := by simpa [ltB] using h
theorem leB_t {a b : Int} (h : a ≤ b) : leB a b = true := by simpa [leB] using h
theorem ltB_f {a b : Int} (h : b ≤ a) : ltB a b = false := by rw [ltB_false]; exact h
theorem w64 (n : Int) : IntKind.i64.wrap n = wrap64 n := by rw [IntKind.wrap_i64, Va.wrap64_def]
theorem n5 (a b : Int) (ha : Va.Fit a) (hb : Va.Fit b) : Va.numbers 5 a b = if b = 0 then (Va.num 0, 0) else if a = 0 then (Va.num 0, 0) else if (a = -1 ∧ b = -9223372036854775808) ∨ (b = -1 ∧ a = -9223372036854775808) then (Va.none, 20)
    else if IntKind.i64.wrap ((IntKind.i64.wrap (a * b)).tdiv b) = a then (Va.num (IntKind.i64.wrap (a * b)), 0) else (Va.none, 20) := by
  by_cases h0 : b = 0
  · subst h0; rw [if_pos rfl]; simp [Va.numbers, Va.told, Va.inR]
  rw [if_neg h0]
  by_cases h1 : a = 0
  · subst h1; rw [if_pos rfl]; simp [Va.numbers, Va.told, Va.inR]
  rw [if_neg h1]
  by_cases h2 : b = -1 ∧ a = -9223372036854775808
  · rw [if_pos (.inr h2), h2.1, h2.2]; rfl
  by_cases h3 : a = -1 ∧ b = -9223372036854775808
  · rw [if_pos (.inl h3), h3.1, h3.2]; rfl
  rw [if_neg (by simp [h2, h3]), w64, w64]
  have h := Va.mul_ok a b ha hb h0 h2
  cases hr : Va.inR (a * b)
  · rw [hr, beq_eq_false_iff_ne] at h
    rw [if_neg h, Va.no_5 a b hr]
  · rw [hr, beq_iff_eq] at h
    rw [if_pos h, Va.yes_5 a b hr, (Va.Fit.iff.2 hr).wrap]
theorem n6 (a b : Int) (ha : Va.Fit a) : Va.numbers 6 a b = if b = 0 then (Va.none, 21) else if a = -9223372036854775808 ∧ b = -1 then (Va.none, 20) else (Va.num (IntKind.i64.wrap (a.tdiv b)), 0) := by
  by_cases h0 : b = 0
  · simp [Va.numbers, h0]
  rw [if_neg h0]
  have h := Va.whole_ok a b ha h0
  by_cases h2 : a = -9223372036854775808 ∧ b = -1
  · rw [if_pos h2, Va.no_6 a b h0 (by rw [← h]; simp [h2])]
  · have hr : Va.inR (a.tdiv b) = true := Va.Fit.iff.1 (Va.tdiv_fit a b ha h0 h2)
    rw [if_neg h2, Va.yes_6 a b h0 hr, w64, (Va.Fit.iff.2 hr).wrap]
theorem n7 (a b : Int) (ha : Va.Fit a) : Va.numbers 7 a b = if b = 0 then (Va.none, 21) else if a = -9223372036854775808 ∧ b = -1 then (Va.none, 20) else (Va.num (a.tmod b), 0) := by
  by_cases h0 : b = 0
  · simp [Va.numbers, h0]
  rw [if_neg h0]
  have h := Va.whole_ok a b ha h0
  by_cases h2 : a = -9223372036854775808 ∧ b = -1
  · rw [if_pos h2, Va.no_7 a b h0 (by rw [← h]; simp [h2])]
  · have hr : Va.inR (a.tdiv b) = true := Va.Fit.iff.1 (Va.tdiv_fit a b ha h0 h2)
    rw [if_neg h2, Va.yes_7 a b h0 hr]
theorem n8 (a b : Int) (ha : Va.Fit a) (hb : Va.Fit b) : Va.numbers 8 a b = if (ltB (IntKind.i64.wrap (a + b)) a == ltB b 0) = true then (Va.num (IntKind.i64.wrap (a + b)), 0) else (Va.none, 20) := by
  have h := Va.add_ok a b ha hb
  rw [w64]
  show _ = if (decide (wrap64 (a + b) < a) == decide (b < 0)) = true then _ else _
  rw [h]
  cases hr : Va.inR (a + b)
  · rw [if_neg (by simp), Va.no_8 a b hr]
  · rw [if_pos rfl, Va.yes_8 a b hr, (Va.Fit.iff.2 hr).wrap]
theorem n15 (a b : Int) (ha : Va.Fit a) (hb : Va.Fit b) : Va.numbers 15 a b = if (ltB a (IntKind.i64.wrap (a - b)) == ltB b 0) = true then (Va.num (IntKind.i64.wrap (a - b)), 0) else (Va.none, 20) := by
  have h := Va.sub_ok a b ha hb
  rw [w64]
  show _ = if (decide (a < wrap64 (a - b)) == decide (b < 0)) = true then _ else _
  rw [h]
  cases hr : Va.inR (a - b)
  · rw [if_neg (by simp), Va.no_15 a b hr]
  · rw [if_pos rfl, Va.yes_15 a b hr, (Va.Fit.iff.2 hr).wrap]

theorem nums5_q (a b : Int) (ha : Va.Fit a) (hb : Va.Fit b) (W : Wd) : CallsQ Tryz.prog 46 #[.int .u8 5, .int .i64 a, .int .i64 b] W (vT (Va.numbers 5 a b)) := by
  rw [n5 a b ha hb]
  refine vc_nums5 a b W.all _ ?_
  repeat' (first | (with_reducible refine den_br (fun _ => ?_) (fun _ => ?_)) | (with_reducible refine den_new fun _ _ _ _ => ?_) | (with_reducible refine den_wr fun _ _ => ?_) | (with_reducible refine den_grow fun _ _ => ?_) | (with_reducible refine den_ret fun _ _ _ => ?_))
  all_goals (try refine ⟨_, rfl, ?_⟩)
  all_goals simp only [Sy.dens, Sy.den, E.i, E.b, E.t, gd, Env.push, List.cons_append, List.nil_append, List.append_nil, Int.toNat_natCast] at *
  all_goals (try simp only [Bool.not_eq_true', Bool.not_eq_false', Bool.or_eq_true, Bool.and_eq_true, Bool.or_eq_false_iff, Bool.and_eq_false_iff, beq_iff_eq, beq_eq_false_iff_ne, ne_eq] at *)
  all_goals ((repeat' split) <;> first | rfl | contradiction | (exfalso; omega) | (simp_all; done) | trace_state)
theorem nums6_q (a b : Int) (ha : Va.Fit a) (W : Wd) : CallsQ Tryz.prog 46 #[.int .u8 6, .int .i64 a, .int .i64 b] W (vT (Va.numbers 6 a b)) := by
  rw [n6 a b ha]
  refine vc_nums6 a b W.all _ ?_
  repeat' (first | (with_reducible refine den_br (fun _ => ?_) (fun _ => ?_)) | (with_reducible refine den_new fun _ _ _ _ => ?_) | (with_reducible refine den_wr fun _ _ => ?_) | (with_reducible refine den_grow fun _ _ => ?_) | (with_reducible refine den_ret fun _ _ _ => ?_))
  all_goals (try refine ⟨_, rfl, ?_⟩)
  all_goals simp only [Sy.dens, Sy.den, E.i, E.b, E.t, gd, Env.push, List.cons_append, List.nil_append, List.append_nil, Int.toNat_natCast] at *
  all_goals (try simp only [Bool.not_eq_true', Bool.not_eq_false', Bool.or_eq_true, Bool.and_eq_true, Bool.or_eq_false_iff, Bool.and_eq_false_iff, beq_iff_eq, beq_eq_false_iff_ne, ne_eq] at *)
  all_goals ((repeat' split) <;> first | rfl | contradiction | (exfalso; omega) | (simp_all; done) | trace_state)
theorem nums7_q (a b : Int) (ha : Va.Fit a) (W : Wd) : CallsQ Tryz.prog 46 #[.int .u8 7, .int .i64 a, .int .i64 b] W (vT (Va.numbers 7 a b)) := by
  rw [n7 a b ha]
  refine vc_nums7 a b W.all _ ?_
  repeat' (first | (with_reducible refine den_br (fun _ => ?_) (fun _ => ?_)) | (with_reducible refine den_new fun _ _ _ _ => ?_) | (with_reducible refine den_wr fun _ _ => ?_) | (with_reducible refine den_grow fun _ _ => ?_) | (with_reducible refine den_ret fun _ _ _ => ?_))
  all_goals (try refine ⟨_, rfl, ?_⟩)
  all_goals simp only [Sy.dens, Sy.den, E.i, E.b, E.t, gd, Env.push, List.cons_append, List.nil_append, List.append_nil, Int.toNat_natCast] at *
  all_goals (try simp only [Bool.not_eq_true', Bool.not_eq_false', Bool.or_eq_true, Bool.and_eq_true, Bool.or_eq_false_iff, Bool.and_eq_false_iff, beq_iff_eq, beq_eq_false_iff_ne, ne_eq] at *)
  all_goals ((repeat' split) <;> first | rfl | contradiction | (exfalso; omega) | (simp_all; done) | trace_state)
theorem nums8_q (a b : Int) (ha : Va.Fit a) (hb : Va.Fit b) (W : Wd) : CallsQ Tryz.prog 46 #[.int .u8 8, .int .i64 a, .int .i64 b] W (vT (Va.numbers 8 a b)) := by
  rw [n8 a b ha hb]
  refine vc_nums8 a b W.all _ ?_
  repeat' (first | (with_reducible refine den_br (fun _ => ?_) (fun _ => ?_)) | (with_reducible refine den_new fun _ _ _ _ => ?_) | (with_reducible refine den_wr fun _ _ => ?_) | (with_reducible refine den_grow fun _ _ => ?_) | (with_reducible refine den_ret fun _ _ _ => ?_))
  all_goals (try refine ⟨_, rfl, ?_⟩)
  all_goals simp only [Sy.dens, Sy.den, E.i, E.b, E.t, gd, Env.push, List.cons_append, List.nil_append, List.append_nil, Int.toNat_natCast] at *
  all_goals (try simp only [Bool.not_eq_true', Bool.not_eq_false', Bool.or_eq_true, Bool.and_eq_true, Bool.or_eq_false_iff, Bool.and_eq_false_iff, beq_iff_eq, beq_eq_false_iff_ne, ne_eq] at *)
  all_goals ((repeat' split) <;> first | rfl | contradiction | (exfalso; omega) | (simp_all; done) | trace_state)
theorem nums15_q (a b : Int) (ha : Va.Fit a) (hb : Va.Fit b) (W : Wd) : CallsQ Tryz.prog 46 #[.int .u8 15, .int .i64 a, .int .i64 b] W (vT (Va.numbers 15 a b)) := by
  rw [n15 a b ha hb]
  refine vc_nums15 a b W.all _ ?_
  repeat' (first | (with_reducible refine den_br (fun _ => ?_) (fun _ => ?_)) | (with_reducible refine den_new fun _ _ _ _ => ?_) | (with_reducible refine den_wr fun _ _ => ?_) | (with_reducible refine den_grow fun _ _ => ?_) | (with_reducible refine den_ret fun _ _ _ => ?_))
  all_goals (try refine ⟨_, rfl, ?_⟩)
  all_goals simp only [Sy.dens, Sy.den, E.i, E.b, E.t, gd, Env.push, List.cons_append, List.nil_append, List.append_nil, Int.toNat_natCast] at *
  all_goals (try simp only [Bool.not_eq_true', Bool.not_eq_false', Bool.or_eq_true, Bool.and_eq_true, Bool.or_eq_false_iff, Bool.and_eq_false_iff, beq_iff_eq, beq_eq_false_iff_ne, ne_eq] at *)
  all_goals ((repeat' split) <;> first | rfl | contradiction | (exfalso; omega) | (simp_all; done) | trace_state)
set_option maxRecDepth 100000 in
theorem cmpString_any (a b : ByteArray) (w : World) :
    Calls Tryz.prog 89 #[.string a, .string b] w fun e w' => e = .returned (.int .i64 (Lib.compareBytes a.data.toList b.data.toList)) ∧ w = w' := by
  go_enter Tryz.func89, Tryz.ntmps89
  go_wp2
  rw [run_callFunc_extern Tryz.func103 (by kernel_rfl) (by kernel_rfl) (by kernel_rfl) (e := Extern.BytealgCompare.compare) (by kernel_rfl), Lib.run_compareString]
  simp only [Result.andThen]
  rw [Oper.upon_value]
  go_wp2
  go_ret
  exact ⟨rfl, rfl⟩
theorem compare_any (a b : ByteArray) (w : World) :
    Calls Tryz.prog 70 #[.string a, .string b] w fun e w' => e = .returned (.int .i64 (Lib.compareBytes a.data.toList b.data.toList)) ∧ w = w' := by
  go_enter Tryz.func70, Tryz.ntmps70
  go_wp2_with (go_at_call 89; refine (cmpString_any _ _ _).mono ?_; rintro e w1 ⟨rfl, rfl⟩)
  go_ret
  exact ⟨rfl, rfl⟩
theorem compare_q (a b : ByteArray) (W : Wd) : CallsQ Tryz.prog 70 #[.string a, .string b] W (.int .i64 (Lib.compareBytes a.data.toList b.data.toList)) :=
  .of_below ((compare_any a b W.w).mono fun e w' ⟨h1, h2⟩ => ⟨h1, h2 ▸ Below.refl _ _⟩)

theorem order_q (ak an bk bn : Int) (at_ bt : ByteArray) (W : Wd) :
    CallsQ Tryz.prog 47 #[.agg #[.int .u8 ak, .int .i64 an, .string at_], .agg #[.int .u8 bk, .int .i64 bn, .string bt]] W (.int .i64 (Va.cmp ⟨ak, an, at_⟩ ⟨bk, bn, bt⟩)) := by
  refine vc_order ak an bk bn at_ bt W.all _ ?_
  refine den_new fun _ _ _ _ => den_new fun _ W2 _ _ => den_br (fun h => ?_) fun h => ?_
  · simp only [Sy.dens, Sy.den, E.i, E.b, E.t, gd, Env.push, List.cons_append, List.nil_append, List.append_nil, Int.toNat_natCast, beq_iff_eq] at h
    refine den_call_q (fun _ _ => compare_q at_ bt _) ⟨_, rfl, fun _ _ => den_ret fun _ _ _ => ⟨_, rfl, ?_⟩⟩
    simp only [Sy.dens, Sy.den, E.i, E.b, E.t, gd, Env.push, List.cons_append, List.nil_append, List.append_nil, Int.toNat_natCast, Va.cmp, h, if_true]
  · simp only [Sy.dens, Sy.den, E.i, E.b, E.t, gd, Env.push, List.cons_append, List.nil_append, List.append_nil, Int.toNat_natCast, beq_eq_false_iff_ne] at h
    have e : Va.cmp ⟨ak, an, at_⟩ ⟨bk, bn, bt⟩ = Va.cmpi an bn := by simp [Va.cmp, h]
    rw [e]
    refine den_br (fun h1 => ?_) fun h1 => den_br (fun h2 => ?_) fun h2 => ?_
    · simp only [Sy.dens, Sy.den, E.i, E.b, E.t, gd, Env.push, List.cons_append, List.nil_append, List.append_nil, Int.toNat_natCast, ltB_true] at h1
      refine den_ret fun _ _ _ => ⟨_, rfl, ?_⟩
      rw [Va.cmpi_lt h1]; rfl
    · simp only [Sy.dens, Sy.den, E.i, E.b, E.t, gd, Env.push, List.cons_append, List.nil_append, List.append_nil, Int.toNat_natCast, ltB_true, ltB_false] at h1 h2
      refine den_ret fun _ _ _ => ⟨_, rfl, ?_⟩
      rw [Va.cmpi_gt h2]; rfl
    · simp only [Sy.dens, Sy.den, E.i, E.b, E.t, gd, Env.push, List.cons_append, List.nil_append, List.append_nil, Int.toNat_natCast, ltB_false] at h1 h2
      refine den_ret fun _ _ _ => ⟨_, rfl, ?_⟩
      rw [Va.cmpi_eq (by omega) (by omega)]; rfl
theorem beq_eq_true {a b : Int} (h : a = b) : (a == b) = true := by simpa using h
theorem beq_eq_false {a b : Int} (h : ¬ a = b) : (a == b) = false := by simpa using h
theorem eqi {ak an bk bn : Int} {at_ bt : ByteArray} (h : ¬ ak = 2) : Va.equal ⟨ak, an, at_⟩ ⟨bk, bn, bt⟩ = (Va.cmp ⟨ak, an, at_⟩ ⟨bk, bn, bt⟩ == 0) := by simp [Va.equal, h]
theorem eqb {ak an bk bn : Int} {at_ bt : ByteArray} (h : ak = 2) : Va.equal ⟨ak, an, at_⟩ ⟨bk, bn, bt⟩ = ((an != 0) == ((bk == 2) && (bn != 0))) := by simp [Va.equal, h, Va.yes]
theorem w40 {n : Nat} (h : (n : Int) ≤ 40) : IntKind.i64.wrap (40 - (n : Int)) = 40 - n := by rw [w64]; exact Va.Fit.wrap ⟨by omega, by omega⟩
theorem fits_no {op ak bk : Int} (h : ¬ (ak = bk ∧ ((ak = 1 ∧ op ≠ 13 ∧ op ≠ 14) ∨ (ak = 2 ∧ (op = 11 ∨ op = 12 ∨ op = 13 ∨ op = 14)) ∨ (ak = 3 ∧ (op = 8 ∨ op = 9 ∨ op = 10 ∨ op = 11 ∨ op = 12))))) : Va.fits op ak bk = false := by
  rw [Bool.eq_false_iff]
  intro c
  refine h ?_
  simpa [Va.fits, or_assoc, and_assoc] using c
theorem fits_yes {op ak bk : Int} (h : (ak = bk ∧ ((ak = 1 ∧ op ≠ 13 ∧ op ≠ 14) ∨ (ak = 2 ∧ (op = 11 ∨ op = 12 ∨ op = 13 ∨ op = 14)) ∨ (ak = 3 ∧ (op = 8 ∨ op = 9 ∨ op = 10 ∨ op = 11 ∨ op = 12))))) : Va.fits op ak bk = true := by
  simpa [Va.fits, or_assoc, and_assoc] using h
theorem two_ref {op ak an bk bn : Int} {at_ bt : ByteArray} (ho : 5 ≤ op ∧ op ≤ 15) (h : ¬ (ak = bk ∧ ((ak = 1 ∧ op ≠ 13 ∧ op ≠ 14) ∨ (ak = 2 ∧ (op = 11 ∨ op = 12 ∨ op = 13 ∨ op = 14)) ∨ (ak = 3 ∧ (op = 8 ∨ op = 9 ∨ op = 10 ∨ op = 11 ∨ op = 12))))) :
    Value.tuple #[.agg #[.int .u8 0, .int .i64 0, .string ⟨#[]⟩], .int .i64 23] = vT (Va.two op ⟨ak, an, at_⟩ ⟨bk, bn, bt⟩) := by
  unfold Va.two
  rw [if_neg (by omega), if_pos (fits_no h)]
  rfl
/-- what an operator of two comes to, where its kinds fit -/
theorem two_fit {op ak an bk bn : Int} {at_ bt : ByteArray} (ho : 5 ≤ op ∧ op ≤ 15) (h : (ak = bk ∧ ((ak = 1 ∧ op ≠ 13 ∧ op ≠ 14) ∨ (ak = 2 ∧ (op = 11 ∨ op = 12 ∨ op = 13 ∨ op = 14)) ∨ (ak = 3 ∧ (op = 8 ∨ op = 9 ∨ op = 10 ∨ op = 11 ∨ op = 12))))) :
    Va.two op ⟨ak, an, at_⟩ ⟨bk, bn, bt⟩ = (if op = 9 then (Va.truth (decide (Va.cmp ⟨ak, an, at_⟩ ⟨bk, bn, bt⟩ < 0)), 0)
  else if op = 10 then (Va.truth (decide (Va.cmp ⟨ak, an, at_⟩ ⟨bk, bn, bt⟩ ≤ 0)), 0)
  else if op = 11 then (Va.truth (Va.equal ⟨ak, an, at_⟩ ⟨bk, bn, bt⟩), 0)
  else if op = 12 then (Va.truth (!Va.equal ⟨ak, an, at_⟩ ⟨bk, bn, bt⟩), 0)
  else if op = 13 then (Va.truth (Va.yes ⟨ak, an, at_⟩ && Va.yes ⟨bk, bn, bt⟩), 0)
  else if op = 14 then (Va.truth (Va.yes ⟨ak, an, at_⟩ || Va.yes ⟨bk, bn, bt⟩), 0)
  else if ak = 3 then Va.sum at_ bt
  else Va.numbers op an bn) := by
  unfold Va.two
  rw [if_neg (by omega), if_neg (by rw [fits_yes h]; simp)]
/-- two truths in Go's form -/
theorem tru1 : Value.tuple #[.agg #[.int .u8 2, .int .i64 1, .string ⟨#[]⟩], .int .i64 0] = vT (Va.truth true, 0) := rfl
theorem tru0 : Value.tuple #[.agg #[.int .u8 2, .int .i64 0, .string ⟨#[]⟩], .int .i64 0] = vT (Va.truth false, 0) := rfl
theorem equal_q (ak an bk bn : Int) (at_ bt : ByteArray) (W : Wd) :
    CallsQ Tryz.prog 48 #[.agg #[.int .u8 ak, .int .i64 an, .string at_], .agg #[.int .u8 bk, .int .i64 bn, .string bt]] W (.bool (Va.equal ⟨ak, an, at_⟩ ⟨bk, bn, bt⟩)) := by
  refine vc_equal ak an bk bn at_ bt W.all _ ?_
  repeat' (first | (with_reducible refine den_br (fun _ => ?_) (fun _ => ?_)) | (with_reducible refine den_new fun _ _ _ _ => ?_) | (with_reducible refine den_wr fun _ _ => ?_) | (with_reducible refine den_grow fun _ _ => ?_) | (with_reducible refine den_ret fun _ _ _ => ?_))
  all_goals (try ((with_reducible refine den_call_q (v := .int .i64 (Va.cmp ⟨ak, an, at_⟩ ⟨bk, bn, bt⟩)) (fun _ _ => ?_) ?_); (exact order_q ak an bk bn at_ bt _); (refine ⟨Va.cmp ⟨ak, an, at_⟩ ⟨bk, bn, bt⟩, rfl, fun _ _ => ?_⟩)))
  repeat' (first | (with_reducible refine den_br (fun _ => ?_) (fun _ => ?_)) | (with_reducible refine den_new fun _ _ _ _ => ?_) | (with_reducible refine den_wr fun _ _ => ?_) | (with_reducible refine den_grow fun _ _ => ?_) | (with_reducible refine den_ret fun _ _ _ => ?_))
  all_goals (try refine ⟨_, rfl, ?_⟩)
  all_goals simp only [Sy.dens, Sy.den, E.i, E.b, E.t, gd, Env.push, List.cons_append, List.nil_append, List.append_nil, Int.toNat_natCast] at *
  all_goals (try simp only [Bool.not_eq_true', Bool.not_eq_false', Bool.or_eq_true, Bool.and_eq_true, Bool.or_eq_false_iff, Bool.and_eq_false_iff, beq_iff_eq, beq_eq_false_iff_ne, ne_eq, ltB_true, ltB_false, leB_true, leB_false] at *)
  all_goals first
    | (rw [eqi (by assumption)]; rfl)
    | (rw [show Va.equal ⟨ak, an, at_⟩ ⟨bk, bn, bt⟩ = (Va.yes ⟨ak, an, at_⟩ == Va.yes ⟨bk, bn, bt⟩) from by simp [Va.equal, ‹ak = 2›]]; rfl)
    | (simp [Va.equal, Va.yes, *]; done)
    | trace_state
theorem two5_q (ak an bk bn : Int) (at_ bt : ByteArray) (ha : Va.Fit an) (hb : Va.Fit bn) (W : Wd) :
    CallsQ Tryz.prog 30 #[.int .u8 5, .agg #[.int .u8 ak, .int .i64 an, .string at_], .agg #[.int .u8 bk, .int .i64 bn, .string bt]] W (vT (Va.two 5 ⟨ak, an, at_⟩ ⟨bk, bn, bt⟩)) := by
  refine vc_two5 ak an bk bn at_ bt W.all _ ?_
  
  repeat' (first | (with_reducible refine den_br (fun _ => ?_) (fun _ => ?_)) | (with_reducible refine den_new fun _ _ _ _ => ?_) | (with_reducible refine den_wr fun _ _ => ?_) | (with_reducible refine den_grow fun _ _ => ?_) | (with_reducible refine den_ret fun _ _ _ => ?_))
  all_goals (try ((with_reducible refine den_call_q (v := vT (Va.numbers 5 an bn)) (fun _ _ => ?_) ?_); (exact nums5_q an bn ha hb _); (refine ⟨(Va.numbers 5 an bn).1.k, (Va.numbers 5 an bn).1.n, (Va.numbers 5 an bn).2, (Va.numbers 5 an bn).1.t, rfl, fun _ _ => ?_⟩)))
  repeat' (first | (with_reducible refine den_br (fun _ => ?_) (fun _ => ?_)) | (with_reducible refine den_new fun _ _ _ _ => ?_) | (with_reducible refine den_wr fun _ _ => ?_) | (with_reducible refine den_grow fun _ _ => ?_) | (with_reducible refine den_ret fun _ _ _ => ?_))
  all_goals (try refine ⟨_, rfl, ?_⟩)
  all_goals simp only [Sy.dens, Sy.den, E.i, E.b, E.t, gd, Env.push, List.cons_append, List.nil_append, List.append_nil, Int.toNat_natCast] at *
  all_goals (try simp only [Bool.not_eq_true', Bool.not_eq_false', Bool.or_eq_true, Bool.and_eq_true, Bool.or_eq_false_iff, Bool.and_eq_false_iff, beq_iff_eq, beq_eq_false_iff_ne, ne_eq, ltB_true, ltB_false, leB_true, leB_false] at *)
  all_goals first
    | (refine two_ref (by omega) ?_; omega)
    | (rw [two_fit (by omega) (by omega)]; simp only [reduceIte, Int.reduceEq]; rw [if_neg (by omega)]; rfl)
    | trace_state
theorem two6_q (ak an bk bn : Int) (at_ bt : ByteArray) (ha : Va.Fit an) (hb : Va.Fit bn) (W : Wd) :
    CallsQ Tryz.prog 30 #[.int .u8 6, .agg #[.int .u8 ak, .int .i64 an, .string at_], .agg #[.int .u8 bk, .int .i64 bn, .string bt]] W (vT (Va.two 6 ⟨ak, an, at_⟩ ⟨bk, bn, bt⟩)) := by
  refine vc_two6 ak an bk bn at_ bt W.all _ ?_
  
  repeat' (first | (with_reducible refine den_br (fun _ => ?_) (fun _ => ?_)) | (with_reducible refine den_new fun _ _ _ _ => ?_) | (with_reducible refine den_wr fun _ _ => ?_) | (with_reducible refine den_grow fun _ _ => ?_) | (with_reducible refine den_ret fun _ _ _ => ?_))
  all_goals (try ((with_reducible refine den_call_q (v := vT (Va.numbers 6 an bn)) (fun _ _ => ?_) ?_); (exact nums6_q an bn ha _); (refine ⟨(Va.numbers 6 an bn).1.k, (Va.numbers 6 an bn).1.n, (Va.numbers 6 an bn).2, (Va.numbers 6 an bn).1.t, rfl, fun _ _ => ?_⟩)))
  repeat' (first | (with_reducible refine den_br (fun _ => ?_) (fun _ => ?_)) | (with_reducible refine den_new fun _ _ _ _ => ?_) | (with_reducible refine den_wr fun _ _ => ?_) | (with_reducible refine den_grow fun _ _ => ?_) | (with_reducible refine den_ret fun _ _ _ => ?_))
  all_goals (try refine ⟨_, rfl, ?_⟩)
  all_goals simp only [Sy.dens, Sy.den, E.i, E.b, E.t, gd, Env.push, List.cons_append, List.nil_append, List.append_nil, Int.toNat_natCast] at *
  all_goals (try simp only [Bool.not_eq_true', Bool.not_eq_false', Bool.or_eq_true, Bool.and_eq_true, Bool.or_eq_false_iff, Bool.and_eq_false_iff, beq_iff_eq, beq_eq_false_iff_ne, ne_eq, ltB_true, ltB_false, leB_true, leB_false] at *)
  all_goals first
    | (refine two_ref (by omega) ?_; omega)
    | (rw [two_fit (by omega) (by omega)]; simp only [reduceIte, Int.reduceEq]; rw [if_neg (by omega)]; rfl)
    | trace_state
theorem two7_q (ak an bk bn : Int) (at_ bt : ByteArray) (ha : Va.Fit an) (hb : Va.Fit bn) (W : Wd) :
    CallsQ Tryz.prog 30 #[.int .u8 7, .agg #[.int .u8 ak, .int .i64 an, .string at_], .agg #[.int .u8 bk, .int .i64 bn, .string bt]] W (vT (Va.two 7 ⟨ak, an, at_⟩ ⟨bk, bn, bt⟩)) := by
  refine vc_two7 ak an bk bn at_ bt W.all _ ?_
  
  repeat' (first | (with_reducible refine den_br (fun _ => ?_) (fun _ => ?_)) | (with_reducible refine den_new fun _ _ _ _ => ?_) | (with_reducible refine den_wr fun _ _ => ?_) | (with_reducible refine den_grow fun _ _ => ?_) | (with_reducible refine den_ret fun _ _ _ => ?_))
  all_goals (try ((with_reducible refine den_call_q (v := vT (Va.numbers 7 an bn)) (fun _ _ => ?_) ?_); (exact nums7_q an bn ha _); (refine ⟨(Va.numbers 7 an bn).1.k, (Va.numbers 7 an bn).1.n, (Va.numbers 7 an bn).2, (Va.numbers 7 an bn).1.t, rfl, fun _ _ => ?_⟩)))
  repeat' (first | (with_reducible refine den_br (fun _ => ?_) (fun _ => ?_)) | (with_reducible refine den_new fun _ _ _ _ => ?_) | (with_reducible refine den_wr fun _ _ => ?_) | (with_reducible refine den_grow fun _ _ => ?_) | (with_reducible refine den_ret fun _ _ _ => ?_))
  all_goals (try refine ⟨_, rfl, ?_⟩)
  all_goals simp only [Sy.dens, Sy.den, E.i, E.b, E.t, gd, Env.push, List.cons_append, List.nil_append, List.append_nil, Int.toNat_natCast] at *
  all_goals (try simp only [Bool.not_eq_true', Bool.not_eq_false', Bool.or_eq_true, Bool.and_eq_true, Bool.or_eq_false_iff, Bool.and_eq_false_iff, beq_iff_eq, beq_eq_false_iff_ne, ne_eq, ltB_true, ltB_false, leB_true, leB_false] at *)
  all_goals first
    | (refine two_ref (by omega) ?_; omega)
    | (rw [two_fit (by omega) (by omega)]; simp only [reduceIte, Int.reduceEq]; rw [if_neg (by omega)]; rfl)
    | trace_state
theorem two15_q (ak an bk bn : Int) (at_ bt : ByteArray) (ha : Va.Fit an) (hb : Va.Fit bn) (W : Wd) :
    CallsQ Tryz.prog 30 #[.int .u8 15, .agg #[.int .u8 ak, .int .i64 an, .string at_], .agg #[.int .u8 bk, .int .i64 bn, .string bt]] W (vT (Va.two 15 ⟨ak, an, at_⟩ ⟨bk, bn, bt⟩)) := by
  refine vc_two15 ak an bk bn at_ bt W.all _ ?_
  
  repeat' (first | (with_reducible refine den_br (fun _ => ?_) (fun _ => ?_)) | (with_reducible refine den_new fun _ _ _ _ => ?_) | (with_reducible refine den_wr fun _ _ => ?_) | (with_reducible refine den_grow fun _ _ => ?_) | (with_reducible refine den_ret fun _ _ _ => ?_))
  all_goals (try ((with_reducible refine den_call_q (v := vT (Va.numbers 15 an bn)) (fun _ _ => ?_) ?_); (exact nums15_q an bn ha hb _); (refine ⟨(Va.numbers 15 an bn).1.k, (Va.numbers 15 an bn).1.n, (Va.numbers 15 an bn).2, (Va.numbers 15 an bn).1.t, rfl, fun _ _ => ?_⟩)))
  repeat' (first | (with_reducible refine den_br (fun _ => ?_) (fun _ => ?_)) | (with_reducible refine den_new fun _ _ _ _ => ?_) | (with_reducible refine den_wr fun _ _ => ?_) | (with_reducible refine den_grow fun _ _ => ?_) | (with_reducible refine den_ret fun _ _ _ => ?_))
  all_goals (try refine ⟨_, rfl, ?_⟩)
  all_goals simp only [Sy.dens, Sy.den, E.i, E.b, E.t, gd, Env.push, List.cons_append, List.nil_append, List.append_nil, Int.toNat_natCast] at *
  all_goals (try simp only [Bool.not_eq_true', Bool.not_eq_false', Bool.or_eq_true, Bool.and_eq_true, Bool.or_eq_false_iff, Bool.and_eq_false_iff, beq_iff_eq, beq_eq_false_iff_ne, ne_eq, ltB_true, ltB_false, leB_true, leB_false] at *)
  all_goals first
    | (refine two_ref (by omega) ?_; omega)
    | (rw [two_fit (by omega) (by omega)]; simp only [reduceIte, Int.reduceEq]; rw [if_neg (by omega)]; rfl)
    | trace_state
theorem two8_q (ak an bk bn : Int) (at_ bt : ByteArray) (ha : Va.Fit an) (hb : Va.Fit bn) (W : Wd) :
    CallsQ Tryz.prog 30 #[.int .u8 8, .agg #[.int .u8 ak, .int .i64 an, .string at_], .agg #[.int .u8 bk, .int .i64 bn, .string bt]] W (vT (Va.two 8 ⟨ak, an, at_⟩ ⟨bk, bn, bt⟩)) := by
  refine vc_two8 ak an bk bn at_ bt W.all _ ?_
  
  repeat' (first | (with_reducible refine den_br (fun _ => ?_) (fun _ => ?_)) | (with_reducible refine den_new fun _ _ _ _ => ?_) | (with_reducible refine den_wr fun _ _ => ?_) | (with_reducible refine den_grow fun _ _ => ?_) | (with_reducible refine den_ret fun _ _ _ => ?_))
  all_goals (try ((with_reducible refine den_call_q (v := vT (Va.numbers 8 an bn)) (fun _ _ => ?_) ?_); (exact nums8_q an bn ha hb _); (refine ⟨(Va.numbers 8 an bn).1.k, (Va.numbers 8 an bn).1.n, (Va.numbers 8 an bn).2, (Va.numbers 8 an bn).1.t, rfl, fun _ _ => ?_⟩)))
  repeat' (first | (with_reducible refine den_br (fun _ => ?_) (fun _ => ?_)) | (with_reducible refine den_new fun _ _ _ _ => ?_) | (with_reducible refine den_wr fun _ _ => ?_) | (with_reducible refine den_grow fun _ _ => ?_) | (with_reducible refine den_ret fun _ _ _ => ?_))
  all_goals (try ((with_reducible refine den_chk ?_ ?_); (simp only [Sy.dens, Sy.den, E.i, E.b, E.t, gd, Env.push, List.cons_append, List.nil_append, List.append_nil, Int.toNat_natCast, ltB_true, ltB_false, Bool.or_eq_false_iff] at *; have := w40 (n := at_.size) (by omega); exact leB_t (by omega))))
  repeat' (first | (with_reducible refine den_br (fun _ => ?_) (fun _ => ?_)) | (with_reducible refine den_new fun _ _ _ _ => ?_) | (with_reducible refine den_wr fun _ _ => ?_) | (with_reducible refine den_grow fun _ _ => ?_) | (with_reducible refine den_ret fun _ _ _ => ?_))
  all_goals (try refine ⟨_, rfl, ?_⟩)
  all_goals simp only [Sy.dens, Sy.den, E.i, E.b, E.t, gd, Env.push, List.cons_append, List.nil_append, List.append_nil, Int.toNat_natCast] at *
  all_goals (try simp only [Bool.not_eq_true', Bool.not_eq_false', Bool.or_eq_true, Bool.and_eq_true, Bool.or_eq_false_iff, Bool.and_eq_false_iff, beq_iff_eq, beq_eq_false_iff_ne, ne_eq, ltB_true, ltB_false, leB_true, leB_false] at *)
  all_goals first
    | (refine two_ref (by omega) ?_; omega)
    | (rw [two_fit (by omega) (by omega)]; simp only [reduceIte, Int.reduceEq]; rw [if_neg (by omega)]; rfl)
    | (rw [two_fit (by omega) (by omega)]
       simp only [reduceIte, Int.reduceEq]
       rw [if_pos (by omega)]
       by_cases q : (40 : Int) < at_.size
       · first | (rw [Va.big_1 q]; rfl) | (exfalso; omega)
       · have := w40 (n := at_.size) (by omega)
         first | (rw [Va.big_2 (by omega)]; rfl) | (rw [Va.big_3 (by omega)]; rfl))
    | (have := w40 (n := at_.size) (by omega); omega)
    | trace_state
theorem two9_q (ak an bk bn : Int) (at_ bt : ByteArray) (ha : Va.Fit an) (hb : Va.Fit bn) (W : Wd) :
    CallsQ Tryz.prog 30 #[.int .u8 9, .agg #[.int .u8 ak, .int .i64 an, .string at_], .agg #[.int .u8 bk, .int .i64 bn, .string bt]] W (vT (Va.two 9 ⟨ak, an, at_⟩ ⟨bk, bn, bt⟩)) := by
  refine vc_two9 ak an bk bn at_ bt W.all _ ?_
  
  repeat' (first | (with_reducible refine den_br (fun _ => ?_) (fun _ => ?_)) | (with_reducible refine den_new fun _ _ _ _ => ?_) | (with_reducible refine den_wr fun _ _ => ?_) | (with_reducible refine den_grow fun _ _ => ?_) | (with_reducible refine den_ret fun _ _ _ => ?_))
  all_goals (try ((with_reducible refine den_call_q (v := .int .i64 (Va.cmp ⟨ak, an, at_⟩ ⟨bk, bn, bt⟩)) (fun _ _ => ?_) ?_); (exact order_q ak an bk bn at_ bt _); (refine ⟨Va.cmp ⟨ak, an, at_⟩ ⟨bk, bn, bt⟩, rfl, fun _ _ => ?_⟩)))
  repeat' (first | (with_reducible refine den_br (fun _ => ?_) (fun _ => ?_)) | (with_reducible refine den_new fun _ _ _ _ => ?_) | (with_reducible refine den_wr fun _ _ => ?_) | (with_reducible refine den_grow fun _ _ => ?_) | (with_reducible refine den_ret fun _ _ _ => ?_))
  all_goals (try refine ⟨_, rfl, ?_⟩)
  all_goals simp only [Sy.dens, Sy.den, E.i, E.b, E.t, gd, Env.push, List.cons_append, List.nil_append, List.append_nil, Int.toNat_natCast] at *
  all_goals (try simp only [Bool.not_eq_true', Bool.not_eq_false', Bool.or_eq_true, Bool.and_eq_true, Bool.or_eq_false_iff, Bool.and_eq_false_iff, beq_iff_eq, beq_eq_false_iff_ne, ne_eq, ltB_true, ltB_false, leB_true, leB_false] at *)
  all_goals first
    | (refine two_ref (by omega) ?_; omega)
    | (rw [two_fit (by omega) (by omega)]
       simp only [reduceIte, Int.reduceEq]
       generalize Va.cmp _ _ = z at *
       first
         | (have e : decide (z < 0) = true := decide_eq_true (by omega)
            rw [e]; rfl)
         | (have e : decide (z < 0) = false := decide_eq_false (by omega)
            rw [e]; rfl))
    | trace_state
theorem two10_q (ak an bk bn : Int) (at_ bt : ByteArray) (ha : Va.Fit an) (hb : Va.Fit bn) (W : Wd) :
    CallsQ Tryz.prog 30 #[.int .u8 10, .agg #[.int .u8 ak, .int .i64 an, .string at_], .agg #[.int .u8 bk, .int .i64 bn, .string bt]] W (vT (Va.two 10 ⟨ak, an, at_⟩ ⟨bk, bn, bt⟩)) := by
  refine vc_two10 ak an bk bn at_ bt W.all _ ?_
  
  repeat' (first | (with_reducible refine den_br (fun _ => ?_) (fun _ => ?_)) | (with_reducible refine den_new fun _ _ _ _ => ?_) | (with_reducible refine den_wr fun _ _ => ?_) | (with_reducible refine den_grow fun _ _ => ?_) | (with_reducible refine den_ret fun _ _ _ => ?_))
  all_goals (try ((with_reducible refine den_call_q (v := .int .i64 (Va.cmp ⟨ak, an, at_⟩ ⟨bk, bn, bt⟩)) (fun _ _ => ?_) ?_); (exact order_q ak an bk bn at_ bt _); (refine ⟨Va.cmp ⟨ak, an, at_⟩ ⟨bk, bn, bt⟩, rfl, fun _ _ => ?_⟩)))
  repeat' (first | (with_reducible refine den_br (fun _ => ?_) (fun _ => ?_)) | (with_reducible refine den_new fun _ _ _ _ => ?_) | (with_reducible refine den_wr fun _ _ => ?_) | (with_reducible refine den_grow fun _ _ => ?_) | (with_reducible refine den_ret fun _ _ _ => ?_))
  all_goals (try refine ⟨_, rfl, ?_⟩)
  all_goals simp only [Sy.dens, Sy.den, E.i, E.b, E.t, gd, Env.push, List.cons_append, List.nil_append, List.append_nil, Int.toNat_natCast] at *
  all_goals (try simp only [Bool.not_eq_true', Bool.not_eq_false', Bool.or_eq_true, Bool.and_eq_true, Bool.or_eq_false_iff, Bool.and_eq_false_iff, beq_iff_eq, beq_eq_false_iff_ne, ne_eq, ltB_true, ltB_false, leB_true, leB_false] at *)
  all_goals first
    | (refine two_ref (by omega) ?_; omega)
    | (rw [two_fit (by omega) (by omega)]
       simp only [reduceIte, Int.reduceEq]
       generalize Va.cmp _ _ = z at *
       first
         | (have e : decide (z ≤ 0) = true := decide_eq_true (by omega)
            rw [e]; rfl)
         | (have e : decide (z ≤ 0) = false := decide_eq_false (by omega)
            rw [e]; rfl))
    | trace_state
theorem two11_q (ak an bk bn : Int) (at_ bt : ByteArray) (ha : Va.Fit an) (hb : Va.Fit bn) (W : Wd) :
    CallsQ Tryz.prog 30 #[.int .u8 11, .agg #[.int .u8 ak, .int .i64 an, .string at_], .agg #[.int .u8 bk, .int .i64 bn, .string bt]] W (vT (Va.two 11 ⟨ak, an, at_⟩ ⟨bk, bn, bt⟩)) := by
  refine vc_two11 ak an bk bn at_ bt W.all _ ?_
  
  repeat' (first | (with_reducible refine den_br (fun _ => ?_) (fun _ => ?_)) | (with_reducible refine den_new fun _ _ _ _ => ?_) | (with_reducible refine den_wr fun _ _ => ?_) | (with_reducible refine den_grow fun _ _ => ?_) | (with_reducible refine den_ret fun _ _ _ => ?_))
  all_goals (try ((with_reducible refine den_call_q (v := .bool (Va.equal ⟨ak, an, at_⟩ ⟨bk, bn, bt⟩)) (fun _ _ => ?_) ?_); (exact equal_q ak an bk bn at_ bt _); (refine ⟨Va.equal ⟨ak, an, at_⟩ ⟨bk, bn, bt⟩, rfl, fun _ _ => ?_⟩)))
  repeat' (first | (with_reducible refine den_br (fun _ => ?_) (fun _ => ?_)) | (with_reducible refine den_new fun _ _ _ _ => ?_) | (with_reducible refine den_wr fun _ _ => ?_) | (with_reducible refine den_grow fun _ _ => ?_) | (with_reducible refine den_ret fun _ _ _ => ?_))
  all_goals (try refine ⟨_, rfl, ?_⟩)
  all_goals simp only [Sy.dens, Sy.den, E.i, E.b, E.t, gd, Env.push, List.cons_append, List.nil_append, List.append_nil, Int.toNat_natCast] at *
  all_goals (try simp only [Bool.not_eq_true', Bool.not_eq_false', Bool.or_eq_true, Bool.and_eq_true, Bool.or_eq_false_iff, Bool.and_eq_false_iff, beq_iff_eq, beq_eq_false_iff_ne, ne_eq, ltB_true, ltB_false, leB_true, leB_false] at *)
  all_goals first
    | (refine two_ref (by omega) ?_; omega)
    | (rw [two_fit (by omega) (by omega)]
       simp only [reduceIte, Int.reduceEq]
       generalize Va.equal _ _ = z at *
       cases z <;> first | rfl | (simp_all; done))
    | trace_state
theorem two12_q (ak an bk bn : Int) (at_ bt : ByteArray) (ha : Va.Fit an) (hb : Va.Fit bn) (W : Wd) :
    CallsQ Tryz.prog 30 #[.int .u8 12, .agg #[.int .u8 ak, .int .i64 an, .string at_], .agg #[.int .u8 bk, .int .i64 bn, .string bt]] W (vT (Va.two 12 ⟨ak, an, at_⟩ ⟨bk, bn, bt⟩)) := by
  refine vc_two12 ak an bk bn at_ bt W.all _ ?_
  
  repeat' (first | (with_reducible refine den_br (fun _ => ?_) (fun _ => ?_)) | (with_reducible refine den_new fun _ _ _ _ => ?_) | (with_reducible refine den_wr fun _ _ => ?_) | (with_reducible refine den_grow fun _ _ => ?_) | (with_reducible refine den_ret fun _ _ _ => ?_))
  all_goals (try ((with_reducible refine den_call_q (v := .bool (Va.equal ⟨ak, an, at_⟩ ⟨bk, bn, bt⟩)) (fun _ _ => ?_) ?_); (exact equal_q ak an bk bn at_ bt _); (refine ⟨Va.equal ⟨ak, an, at_⟩ ⟨bk, bn, bt⟩, rfl, fun _ _ => ?_⟩)))
  repeat' (first | (with_reducible refine den_br (fun _ => ?_) (fun _ => ?_)) | (with_reducible refine den_new fun _ _ _ _ => ?_) | (with_reducible refine den_wr fun _ _ => ?_) | (with_reducible refine den_grow fun _ _ => ?_) | (with_reducible refine den_ret fun _ _ _ => ?_))
  all_goals (try refine ⟨_, rfl, ?_⟩)
  all_goals simp only [Sy.dens, Sy.den, E.i, E.b, E.t, gd, Env.push, List.cons_append, List.nil_append, List.append_nil, Int.toNat_natCast] at *
  all_goals (try simp only [Bool.not_eq_true', Bool.not_eq_false', Bool.or_eq_true, Bool.and_eq_true, Bool.or_eq_false_iff, Bool.and_eq_false_iff, beq_iff_eq, beq_eq_false_iff_ne, ne_eq, ltB_true, ltB_false, leB_true, leB_false] at *)
  all_goals first
    | (refine two_ref (by omega) ?_; omega)
    | (rw [two_fit (by omega) (by omega)]
       simp only [reduceIte, Int.reduceEq]
       generalize Va.equal _ _ = z at *
       cases z <;> first | rfl | (simp_all; done))
    | trace_state
theorem two13_q (ak an bk bn : Int) (at_ bt : ByteArray) (ha : Va.Fit an) (hb : Va.Fit bn) (W : Wd) :
    CallsQ Tryz.prog 30 #[.int .u8 13, .agg #[.int .u8 ak, .int .i64 an, .string at_], .agg #[.int .u8 bk, .int .i64 bn, .string bt]] W (vT (Va.two 13 ⟨ak, an, at_⟩ ⟨bk, bn, bt⟩)) := by
  refine vc_two13 ak an bk bn at_ bt W.all _ ?_
  
  repeat' (first | (with_reducible refine den_br (fun _ => ?_) (fun _ => ?_)) | (with_reducible refine den_new fun _ _ _ _ => ?_) | (with_reducible refine den_wr fun _ _ => ?_) | (with_reducible refine den_grow fun _ _ => ?_) | (with_reducible refine den_ret fun _ _ _ => ?_))
  all_goals (try refine ⟨_, rfl, ?_⟩)
  all_goals simp only [Sy.dens, Sy.den, E.i, E.b, E.t, gd, Env.push, List.cons_append, List.nil_append, List.append_nil, Int.toNat_natCast] at *
  all_goals (try simp only [Bool.not_eq_true', Bool.not_eq_false', Bool.or_eq_true, Bool.and_eq_true, Bool.or_eq_false_iff, Bool.and_eq_false_iff, beq_iff_eq, beq_eq_false_iff_ne, ne_eq, ltB_true, ltB_false, leB_true, leB_false] at *)
  all_goals first
    | (refine two_ref (by omega) ?_; omega)
    | (rw [two_fit (by omega) (by omega)]
       simp only [reduceIte, Int.reduceEq]
       have e1 : Va.yes ⟨ak, an, at_⟩ = !(an == 0) := by simp [Va.yes, (by omega : ak = 2), bne]
       have e2 : Va.yes ⟨bk, bn, bt⟩ = !(bn == 0) := by simp [Va.yes, (by omega : bk = 2), bne]
       rw [e1, e2]
       cases h1 : (an == 0) <;> cases h2 : (bn == 0) <;> simp only [beq_iff_eq, beq_eq_false_iff_ne, ne_eq] at h1 h2 <;> first | rfl | (exfalso; omega))
    | trace_state
theorem two14_q (ak an bk bn : Int) (at_ bt : ByteArray) (ha : Va.Fit an) (hb : Va.Fit bn) (W : Wd) :
    CallsQ Tryz.prog 30 #[.int .u8 14, .agg #[.int .u8 ak, .int .i64 an, .string at_], .agg #[.int .u8 bk, .int .i64 bn, .string bt]] W (vT (Va.two 14 ⟨ak, an, at_⟩ ⟨bk, bn, bt⟩)) := by
  refine vc_two14 ak an bk bn at_ bt W.all _ ?_
  
  repeat' (first | (with_reducible refine den_br (fun _ => ?_) (fun _ => ?_)) | (with_reducible refine den_new fun _ _ _ _ => ?_) | (with_reducible refine den_wr fun _ _ => ?_) | (with_reducible refine den_grow fun _ _ => ?_) | (with_reducible refine den_ret fun _ _ _ => ?_))
  all_goals (try refine ⟨_, rfl, ?_⟩)
  all_goals simp only [Sy.dens, Sy.den, E.i, E.b, E.t, gd, Env.push, List.cons_append, List.nil_append, List.append_nil, Int.toNat_natCast] at *
  all_goals (try simp only [Bool.not_eq_true', Bool.not_eq_false', Bool.or_eq_true, Bool.and_eq_true, Bool.or_eq_false_iff, Bool.and_eq_false_iff, beq_iff_eq, beq_eq_false_iff_ne, ne_eq, ltB_true, ltB_false, leB_true, leB_false] at *)
  all_goals first
    | (refine two_ref (by omega) ?_; omega)
    | (rw [two_fit (by omega) (by omega)]
       simp only [reduceIte, Int.reduceEq]
       have e1 : Va.yes ⟨ak, an, at_⟩ = !(an == 0) := by simp [Va.yes, (by omega : ak = 2), bne]
       have e2 : Va.yes ⟨bk, bn, bt⟩ = !(bn == 0) := by simp [Va.yes, (by omega : bk = 2), bne]
       rw [e1, e2]
       cases h1 : (an == 0) <;> cases h2 : (bn == 0) <;> simp only [beq_iff_eq, beq_eq_false_iff_ne, ne_eq] at h1 h2 <;> first | rfl | (exfalso; omega))
    | trace_state
set_option maxRecDepth 100000 in
theorem two_far (op ak an bk bn : Int) (at_ bt : ByteArray) (h : op < 5 ∨ 15 < op) (W : Wd) :
    CallsQ Tryz.prog 30 #[.int .u8 op, .agg #[.int .u8 ak, .int .i64 an, .string at_], .agg #[.int .u8 bk, .int .i64 bn, .string bt]] W (vT (Va.two op ⟨ak, an, at_⟩ ⟨bk, bn, bt⟩)) := by
  refine vc_vtwo op ak an bk bn at_ bt W.all _ ?_
  have e : Va.two op ⟨ak, an, at_⟩ ⟨bk, bn, bt⟩ = (Va.none, 4) := by unfold Va.two; rw [if_pos h]
  rw [e]
  refine den_new fun _ _ _ _ => den_new fun _ _ _ _ => den_new fun _ _ _ _ => ?_
  repeat (with_reducible refine den_br_f (by simp only [Sy.dens, Sy.den, E.i, E.b, E.t, gd, Env.push, List.cons_append, List.nil_append, List.append_nil, Int.toNat_natCast]; rw [beq_eq_false_iff_ne]; omega) ?_)
  repeat' (first | (with_reducible refine den_br (fun _ => ?_) (fun _ => ?_)) | (with_reducible refine den_new fun _ _ _ _ => ?_) | (with_reducible refine den_wr fun _ _ => ?_) | (with_reducible refine den_grow fun _ _ => ?_) | (with_reducible refine den_ret fun _ _ _ => ?_))
  all_goals exact ⟨_, rfl, rfl⟩
theorem two_q (op ak an bk bn : Int) (at_ bt : ByteArray) (ha : Va.Fit an) (hb : Va.Fit bn) (W : Wd) :
    CallsQ Tryz.prog 30 #[.int .u8 op, .agg #[.int .u8 ak, .int .i64 an, .string at_], .agg #[.int .u8 bk, .int .i64 bn, .string bt]] W (vT (Va.two op ⟨ak, an, at_⟩ ⟨bk, bn, bt⟩)) := by
  by_cases h : op < 5 ∨ 15 < op
  · exact two_far op ak an bk bn at_ bt h W
  · have : op = 5 ∨ op = 6 ∨ op = 7 ∨ op = 8 ∨ op = 9 ∨ op = 10 ∨ op = 11 ∨ op = 12 ∨ op = 13 ∨ op = 14 ∨ op = 15 := by omega
    rcases this with rfl | rfl | rfl | rfl | rfl | rfl | rfl | rfl | rfl | rfl | rfl
    · exact two5_q ak an bk bn at_ bt ha hb W
    · exact two6_q ak an bk bn at_ bt ha hb W
    · exact two7_q ak an bk bn at_ bt ha hb W
    · exact two8_q ak an bk bn at_ bt ha hb W
    · exact two9_q ak an bk bn at_ bt ha hb W
    · exact two10_q ak an bk bn at_ bt ha hb W
    · exact two11_q ak an bk bn at_ bt ha hb W
    · exact two12_q ak an bk bn at_ bt ha hb W
    · exact two13_q ak an bk bn at_ bt ha hb W
    · exact two14_q ak an bk bn at_ bt ha hb W
    · exact two15_q ak an bk bn at_ bt ha hb W
theorem one_q (op k n : Int) (t : ByteArray) (hn : Va.Fit n) (W : Wd) : CallsQ Tryz.prog 28 #[.int .u8 op, .agg #[.int .u8 k, .int .i64 n, .string t]] W (vT (Va.one op ⟨k, n, t⟩)) := by
  refine vc_vone op k n t W.all _ ?_
  have ht : Va.numbers 15 0 n = Va.told (0 - n) := rfl
  repeat' (first | (with_reducible refine den_br (fun _ => ?_) (fun _ => ?_)) | (with_reducible refine den_new fun _ _ _ _ => ?_) | (with_reducible refine den_wr fun _ _ => ?_) | (with_reducible refine den_grow fun _ _ => ?_) | (with_reducible refine den_ret fun _ _ _ => ?_))
  all_goals (try ((with_reducible refine den_call_q (v := vT (Va.numbers 15 0 n)) (fun _ _ => ?_) ?_); (exact nums15_q 0 n (by unfold Va.Fit; omega) hn _); (refine ⟨(Va.numbers 15 0 n).1.k, (Va.numbers 15 0 n).1.n, (Va.numbers 15 0 n).2, (Va.numbers 15 0 n).1.t, rfl, fun _ _ => ?_⟩)))
  repeat' (first | (with_reducible refine den_br (fun _ => ?_) (fun _ => ?_)) | (with_reducible refine den_new fun _ _ _ _ => ?_) | (with_reducible refine den_wr fun _ _ => ?_) | (with_reducible refine den_grow fun _ _ => ?_) | (with_reducible refine den_ret fun _ _ _ => ?_))
  all_goals (try refine ⟨_, rfl, ?_⟩)
  all_goals simp only [Sy.dens, Sy.den, E.i, E.b, E.t, gd, Env.push, List.cons_append, List.nil_append, List.append_nil, Int.toNat_natCast] at *
  all_goals rw [ht] at *
  all_goals generalize hp : Va.told (0 - n) = p at *
  all_goals simp_all [Va.one, vT, vV, Va.none, Va.num, Va.truth, Va.yes]
end Vt
end Go.Proofs.YtijinopghlpdbaaGreatDoor
