/- The contracts of package value at the door's seat: what may be, operators of one, texts. -/
import Derived.Test.YtpekccomahikbaaDoorVcDoor
import Derived.Test.YtpekccomahikbaaDoorVaSe
import Derived.Test.YtpekccomahikbaaDoorVdPlain
namespace Go.Proofs.YtpekccomahikbaaDoor
open Go Go.RowKit Go.SE
set_option linter.unusedSimpArgs false
set_option linter.unusedVariables false

theorem gd_drop (l : List UInt8) (i : Nat) (h : i < l.length) : l.drop i = gd l i 0 :: l.drop (i + 1) := by
  rw [gd_get' h]; exact List.drop_eq_getElem_cons h

theorem plain_q (t : ByteArray) (ht : t.size ≤ 9223372036854775807) (W : Wd) : CallsQ Tryd.prog 30 #[.string t] W (.bool (Va.plain t)) :=
  .of_i (by
    refine vc_plain t W _ ?_
    refine den_loop (fun n vs _ => ∃ i : Nat, vs = [.int .i64 (i : Int)] ∧ i ≤ t.size ∧ n = t.size - i ∧ (t.data.toList.drop i).all Va.okc = t.data.toList.all Va.okc) t.size ⟨0, rfl, Nat.zero_le _, rfl, rfl⟩ ?_
    rintro n vs W' x ⟨i, rfl, hi, rfl, ha⟩
    have hs : t.data.toList.length = t.size := by rw [Array.length_toList]; rfl
    refine ⟨(i : Int), rfl, den_br (fun c => ?_) fun c => ?_⟩
    · simp only [E.b, E.i, E.t, gd, Env.push, List.cons_append, List.nil_append, List.append_nil, ltB_true] at c
      have hl : i < t.data.toList.length := by omega
      have hd := gd_drop t.data.toList i hl
      refine den_chk (by simp [E.b, E.i, gd, Env.push, leB]) (den_br (fun c2 => ?_) fun c2 => ?_)
      · refine den_ret fun _ _ _ _ _ => ?_
        simp only [E.b, E.i, E.t, gd, Env.push, List.cons_append, List.nil_append, List.append_nil, Int.toNat_natCast] at c2
        rw [hd, List.all_cons] at ha
        have hk : Va.okc (gd t.data.toList i 0) = false := by unfold Va.okc; simp only [ltB] at c2; simp [c2]
        rw [hk, Bool.false_and] at ha
        show Value.bool false = _
        simp [Va.plain, ← ha]
      · simp only [E.b, E.i, E.t, gd, Env.push, List.cons_append, List.nil_append, List.append_nil, Int.toNat_natCast] at c2
        rw [hd, List.all_cons] at ha
        have hk : Va.okc (gd t.data.toList i 0) = true := by unfold Va.okc; simp only [ltB] at c2; simp at c2 ⊢; omega
        rw [hk, Bool.true_and] at ha
        refine den_again ⟨t.size - (i + 1), by omega, i + 1, ?_, by omega, rfl, ha⟩
        simp only [Sy.dens, Sy.den, E.i, gd, Env.push, List.cons_append, List.nil_append]
        rw [w64, Va.Fit.wrap (by unfold Va.Fit; omega)]; rfl
    · simp only [E.b, E.i, E.t, gd, Env.push, List.cons_append, List.nil_append, List.append_nil, ltB_false] at c
      refine den_ret fun _ _ _ _ _ => ?_
      have : t.data.toList.drop i = [] := List.drop_eq_nil_of_le (by omega)
      rw [this] at ha
      show Value.bool _ = _
      simp [Va.plain, ← ha, E.b, E.i, E.t, gd, Env.push, leB])

theorem may_q (k n : Int) (t : ByteArray) (ht : t.size ≤ 9223372036854775807) (W : Wd) : CallsQ Tryd.prog 8 #[.agg #[.int .u8 k, .int .i64 n, .string t]] W (.bool (Va.may ⟨k, n, t⟩)) :=
  .of_i (by
    refine vc_may k n t W _ ?_
    have h := plain_q t ht
    repeat' (first | (with_reducible refine den_br (fun _ => ?_) (fun _ => ?_)) | (with_reducible refine den_new fun _ _ _ => ?_) | (with_reducible refine den_wr fun _ _ => ?_) | (with_reducible refine den_grow fun _ _ => ?_) | (with_reducible refine den_ret fun _ _ _ _ _ => ?_))
    all_goals try ((with_reducible refine den_callq ?_); refine ⟨Va.plain t, fun W' x _ => h W', ?_⟩)
    repeat' (first | (with_reducible refine den_br (fun _ => ?_) (fun _ => ?_)) | (with_reducible refine den_new fun _ _ _ => ?_) | (with_reducible refine den_wr fun _ _ => ?_) | (with_reducible refine den_grow fun _ _ => ?_) | (with_reducible refine den_ret fun _ _ _ _ _ => ?_))
    all_goals simp only [Sy.dens, Sy.den, E.i, E.b, E.t, gd, Env.push, List.cons_append, List.nil_append, List.append_nil, Int.toNat_natCast] at *
    all_goals generalize hp : Va.plain t = p at *
    all_goals first | (simp_all [Va.may]; done) | (simp only [Va.may, hp]; cases h0 : n == 0 <;> simp_all))
theorem vis_q (k n : Int) (t : ByteArray) (kind : Int) (ht : t.size ≤ 9223372036854775807) (W : Wd) : CallsQ Tryd.prog 10 #[.agg #[.int .u8 k, .int .i64 n, .string t], .int .u8 kind] W (.bool ((k == kind) && Va.may ⟨k, n, t⟩)) :=
  .of_i (by
    refine vc_vis k n kind t W _ ?_
    have h := may_q k n t ht
    repeat' (first | (with_reducible refine den_br (fun _ => ?_) (fun _ => ?_)) | (with_reducible refine den_new fun _ _ _ => ?_) | (with_reducible refine den_wr fun _ _ => ?_) | (with_reducible refine den_grow fun _ _ => ?_) | (with_reducible refine den_ret fun _ _ _ _ _ => ?_))
    all_goals try ((with_reducible refine den_call fun _ => ?_); refine CallsI.of_q (h _) fun W' x => ⟨Va.may ⟨k, n, t⟩, rfl, ?_⟩)
    repeat' (first | (with_reducible refine den_br (fun _ => ?_) (fun _ => ?_)) | (with_reducible refine den_new fun _ _ _ => ?_) | (with_reducible refine den_wr fun _ _ => ?_) | (with_reducible refine den_grow fun _ _ => ?_) | (with_reducible refine den_ret fun _ _ _ _ _ => ?_))
    all_goals simp only [Sy.dens, Sy.den, E.i, E.b, E.t, gd, Env.push, List.cons_append, List.nil_append, List.append_nil, Int.toNat_natCast] at *
    all_goals generalize hp : Va.may ⟨k, n, t⟩ = p at *
    all_goals simp_all)
theorem one_q (op k n : Int) (t : ByteArray) (hn : Va.Fit n) (W : Wd) : CallsQ Tryd.prog 6 #[.int .u8 op, .agg #[.int .u8 k, .int .i64 n, .string t]] W (vT (Va.one op ⟨k, n, t⟩)) :=
  .of_i (by
    refine vc_one op k n t W _ ?_
    have h := nums15_q 0 n (by unfold Va.Fit; omega) hn
    repeat' (first | (with_reducible refine den_br (fun _ => ?_) (fun _ => ?_)) | (with_reducible refine den_new fun _ _ _ => ?_) | (with_reducible refine den_wr fun _ _ => ?_) | (with_reducible refine den_grow fun _ _ => ?_) | (with_reducible refine den_ret fun _ _ _ _ _ => ?_))
    all_goals try ((with_reducible refine den_call fun _ => ?_); refine CallsI.of_q (h _) fun W' x => ⟨(Va.numbers 15 0 n).1.k, (Va.numbers 15 0 n).1.n, (Va.numbers 15 0 n).2, (Va.numbers 15 0 n).1.t, rfl, ?_⟩)
    repeat' (first | (with_reducible refine den_br (fun _ => ?_) (fun _ => ?_)) | (with_reducible refine den_new fun _ _ _ => ?_) | (with_reducible refine den_wr fun _ _ => ?_) | (with_reducible refine den_grow fun _ _ => ?_) | (with_reducible refine den_ret fun _ _ _ _ _ => ?_))
    all_goals simp only [Sy.dens, Sy.den, E.i, E.b, E.t, gd, Env.push, List.cons_append, List.nil_append, List.append_nil, Int.toNat_natCast] at *
    all_goals have ht : Va.numbers 15 0 n = Va.told (0 - n) := rfl
    all_goals rw [ht] at *
    all_goals generalize hp : Va.told (0 - n) = p at *
    all_goals simp_all [Va.one, vT, vV, Va.none, Va.num, Va.truth, Va.yes])
end Go.Proofs.YtpekccomahikbaaDoor
