/- The examples of the values, the limits. -/
import Derived.Test.YtpekccomahikbaaDoorVsTwo
import Derived.Test.YtpekccomahikbaaDoorVsMay
import Derived.Test.YtpekccomahikbaaDoorVcVsn
namespace Go.Proofs.YtpekccomahikbaaDoor
open Go Go.RowKit Go.SF
set_option linter.unusedSimpArgs false
set_option linter.unusedVariables false

/-- so many x -/
def xs (n : Nat) : ByteArray := ⟨(List.replicate n 120).toArray⟩
theorem xs_size (n : Nat) : (xs n).size = n := by rw [← Vs.size_len]; simp [xs]
theorem xs_succ (n : Nat) : xs n ++ ⟨[120].toArray⟩ = xs (n + 1) := by
  apply ByteArray.ext
  apply Array.ext'
  simp [xs, ByteArray.data_append, List.replicate_succ']
theorem is_c (op ak an bk bn : Int) (at_ bt : ByteArray) (w : Va.V) (h : Va.two op ⟨ak, an, at_⟩ ⟨bk, bn, bt⟩ = (w, 0)) (ha : Va.Fit an) (hb : Va.Fit bn) (W : Wd) :
    CallsQ Tryd.prog 24 #[.int .u8 op, .agg #[.int .u8 ak, .int .i64 an, .string at_], .agg #[.int .u8 bk, .int .i64 bn, .string bt], .agg #[.int .u8 w.k, .int .i64 w.n, .string w.t]] W (.bool true) := by
  refine vc_is op ak an bk bn w.k w.n at_ bt w.t W.all _ ?_
  refine den_new fun _ _ _ _ => den_new fun _ _ _ _ => den_new fun _ W3 _ _ => ?_
  have h2 := two_q op ak an bk bn at_ bt ha hb W3
  rw [h] at h2
  refine den_call_q (fun _ _ => h2) ⟨w.k, w.n, 0, w.t, rfl, fun _ _ => den_new fun _ _ _ _ => den_wr fun _ _ => den_ret fun _ _ _ => ⟨_, rfl, ?_⟩⟩
  simp only [Sy.dens, Sy.den, E.i, E.b, E.t, gd, Env.push, List.cons_append, List.nil_append, List.append_nil, Int.toNat_natCast, beq_self_eq_true, Bool.and_self]
theorem no_c (op ak an bk bn : Int) (at_ bt : ByteArray) (e : Int) (h : Va.two op ⟨ak, an, at_⟩ ⟨bk, bn, bt⟩ = (Va.none, e)) (ha : Va.Fit an) (hb : Va.Fit bn) (W : Wd) :
    CallsQ Tryd.prog 23 #[.int .u8 op, .agg #[.int .u8 ak, .int .i64 an, .string at_], .agg #[.int .u8 bk, .int .i64 bn, .string bt], .int .i64 e] W (.bool true) := by
  refine vc_no op ak an bk bn e at_ bt W.all _ ?_
  refine den_new fun _ _ _ _ => den_new fun _ W3 _ _ => ?_
  have h2 := two_q op ak an bk bn at_ bt ha hb W3
  rw [h] at h2
  refine den_call_q (fun _ _ => h2) ⟨0, 0, e, ⟨#[]⟩, rfl, fun _ _ => den_new fun _ _ _ _ => den_wr fun _ _ => den_ret fun _ _ _ => ⟨_, rfl, ?_⟩⟩
  simp only [Sy.dens, Sy.den, E.i, E.b, E.t, gd, Env.push, List.cons_append, List.nil_append, List.append_nil, Int.toNat_natCast, beq_self_eq_true, Bool.true_and]
theorem fitd {n : Int} (h : (decide (-9223372036854775808 ≤ n) && decide (n ≤ 9223372036854775807)) = true) : Va.Fit n := by
  unfold Va.Fit; simpa using h
set_option maxRecDepth 100000 in
theorem works_q (W : Wd) : CallsQ Tryd.prog 20 #[] W (.bool true) := by
  refine vc_works W.all _ ?_
  refine den_grow fun _ _ => den_grow fun _ _ => den_call_q (fun _ _ => no_c 8 1 (9223372036854775807) 1 (1) ⟨#[]⟩ ⟨#[]⟩ (20) (by kernel_rfl) (fitd (by decide)) (fitd (by decide)) _) ⟨true, rfl, fun _ _ => ?_⟩
  simp only [Env.push, List.cons_append, List.nil_append, List.append_nil]
  refine den_br_t rfl ?_
  refine den_grow fun _ _ => den_grow fun _ _ => den_grow fun _ _ => den_call_q (fun _ _ => is_c 6 1 (-7) 1 (2) ⟨#[]⟩ ⟨#[]⟩ (⟨1, -3, ⟨#[]⟩⟩) (by kernel_rfl) (fitd (by decide)) (fitd (by decide)) _) ⟨true, rfl, fun _ _ => ?_⟩
  simp only [Env.push, List.cons_append, List.nil_append, List.append_nil]
  refine den_br_t rfl ?_
  refine den_grow fun _ _ => den_grow fun _ _ => den_grow fun _ _ => den_call_q (fun _ _ => is_c 7 1 (-7) 1 (2) ⟨#[]⟩ ⟨#[]⟩ (⟨1, -1, ⟨#[]⟩⟩) (by kernel_rfl) (fitd (by decide)) (fitd (by decide)) _) ⟨true, rfl, fun _ _ => ?_⟩
  simp only [Env.push, List.cons_append, List.nil_append, List.append_nil]
  refine den_br_t rfl ?_
  refine den_grow fun _ _ => den_grow fun _ _ => den_call_q (fun _ _ => no_c 6 1 (-9223372036854775808) 1 (-1) ⟨#[]⟩ ⟨#[]⟩ (20) (by kernel_rfl) (fitd (by decide)) (fitd (by decide)) _) ⟨true, rfl, fun _ _ => ?_⟩
  simp only [Env.push, List.cons_append, List.nil_append, List.append_nil]
  refine den_br_t rfl ?_
  refine den_grow fun _ _ => den_grow fun _ _ => den_call_q (fun _ _ => no_c 6 1 (1) 1 (0) ⟨#[]⟩ ⟨#[]⟩ (21) (by kernel_rfl) (fitd (by decide)) (fitd (by decide)) _) ⟨true, rfl, fun _ _ => ?_⟩
  simp only [Env.push, List.cons_append, List.nil_append, List.append_nil]
  refine den_br_t rfl ?_
  refine den_grow fun _ _ => den_grow fun _ _ => den_grow fun _ _ => den_call_q (fun _ _ => is_c 8 3 (0) 3 (0) ⟨[97].toArray⟩ ⟨[98].toArray⟩ (⟨3, 0, ⟨[97, 98].toArray⟩⟩) (by kernel_rfl) (fitd (by decide)) (fitd (by decide)) _) ⟨true, rfl, fun _ _ => ?_⟩
  simp only [Env.push, List.cons_append, List.nil_append, List.append_nil]
  refine den_br_t rfl ?_
  refine den_grow fun _ _ => den_grow fun _ _ => den_call_q (fun _ _ => no_c 9 1 (1) 3 (0) ⟨#[]⟩ ⟨[97].toArray⟩ (23) (by kernel_rfl) (fitd (by decide)) (fitd (by decide)) _) ⟨true, rfl, fun _ _ => ?_⟩
  simp only [Env.push, List.cons_append, List.nil_append, List.append_nil]
  exact den_ret fun _ _ _ => ⟨_, rfl, rfl⟩
set_option maxRecDepth 100000 in
set_option maxHeartbeats 1000000 in
theorem valueNames_q (W : Wd) (hT : Vs.Tabs W) : CallsQ Tryd.prog 4 #[] W (.bool true) := by
  refine vc_valueNames W.all _ ?_
  have hT := hT.ext W.all_ext
  refine den_call_q (fun _ _ => works_q _) ⟨true, rfl, fun W0 y0 => den_br_f rfl ?_⟩
  simp only [Env.push, List.cons_append, List.nil_append, List.append_nil]
  refine den_grow fun W1 y1 => den_new fun _ W2 _ y2 => den_wr fun W3 y3 => ?_
  refine den_loop (fun k vs ls _ => ∃ i : Nat, vs = [.int .i64 (i : Int), .string (xs i)] ∧ ls = [] ∧ i ≤ 40 ∧ k = 40 - i) 40 ⟨0, rfl, rfl, by omega, rfl⟩ ?_
  rintro k vs ls W4 y4 ⟨i, rfl, rfl, hi, rfl⟩
  refine ⟨(i : Int), xs i, rfl, rfl, fun _ => ?_⟩
  simp only [Env.push, List.cons_append, List.nil_append, List.append_nil]
  have e120 : (⟨[120].toArray⟩ : ByteArray).size = 1 := rfl
  refine den_br (fun c1 => ?_) fun c1 => ?_
  · simp only [Sy.dens, Sy.den, E.i, E.b, E.t, gd, Env.push, List.cons_append, List.nil_append, List.append_nil, Int.toNat_natCast, ltB_true] at c1
    refine den_chk ?_ (den_again ⟨40 - (i + 1), by omega, i + 1, ?_, rfl, by omega, rfl⟩)
    · simp only [Sy.dens, Sy.den, E.i, E.b, E.t, gd, Env.push, List.cons_append, List.nil_append, List.append_nil, Int.toNat_natCast, xs_size]; refine leB_t ?_; omega
    · simp only [Sy.dens, Sy.den, E.i, E.b, E.t, gd, Env.push, List.cons_append, List.nil_append, List.append_nil, Int.toNat_natCast, xs_succ]
      rw [Vs.wrap_i (by omega) (by omega)]; rfl
  simp only [Sy.dens, Sy.den, E.i, E.b, E.t, gd, Env.push, List.cons_append, List.nil_append, List.append_nil, Int.toNat_natCast, ltB_false] at c1
  obtain rfl : i = 40 := by omega
  have hT4 := ((((hT.ext y0).ext y1).ext y2).ext y3).ext y4
  refine den_chk (by simp only [Sy.dens, Sy.den, E.i, E.b, E.t, gd, Env.push, List.cons_append, List.nil_append, List.append_nil, Int.toNat_natCast]; decide +kernel) (den_chk (by simp only [Sy.dens, Sy.den, E.i, E.b, E.t, gd, Env.push, List.cons_append, List.nil_append, List.append_nil, Int.toNat_natCast]; decide +kernel) (den_chk (by simp only [Sy.dens, Sy.den, E.i, E.b, E.t, gd, Env.push, List.cons_append, List.nil_append, List.append_nil, Int.toNat_natCast]; decide +kernel) (den_chk (by simp only [Sy.dens, Sy.den, E.i, E.b, E.t, gd, Env.push, List.cons_append, List.nil_append, List.append_nil, Int.toNat_natCast]; decide +kernel) ?_)))
  refine den_grow fun V1 z1 => den_new fun _ V2 _ z2 => den_grow fun V3 z3 => ?_
  have hT5 := ((hT4.ext z1).ext z2).ext z3
  -- row 1
  refine den_new fun _ A0 _ a0 => den_wr fun B0 b0 => ?_
  have hA0 := (hT5.ext a0).ext b0
  refine den_callq ⟨true, fun W5 x5 _ _ => ?_, ?_⟩
  · have := Vs.may_q 0 (0) ⟨#[]⟩ (by decide +kernel) W5
    rw [show Va.may ⟨0, 0, ⟨#[]⟩⟩ = true by kernel_rfl] at this
    exact this
  simp only [Env.push, List.cons_append, List.nil_append, List.append_nil]
  refine den_br_t rfl ?_
  refine den_callq ⟨⟨[110, 111, 110, 101].toArray⟩, fun W5 x5 _ _ => ?_, ?_⟩
  · have := Vs.show_q 0 (0) ⟨#[]⟩ (fitd (by decide)) (by decide +kernel) W5 (hA0.ext x5)
    rw [show Va.shown ⟨0, 0, ⟨#[]⟩⟩ = ⟨[110, 111, 110, 101].toArray⟩ by kernel_rfl] at this
    exact this
  simp only [Env.push, List.cons_append, List.nil_append, List.append_nil]
  refine den_grow fun C0 c0 => den_br_f (by simp only [Sy.dens, Sy.den, E.i, E.b, E.t, gd, Env.push, List.cons_append, List.nil_append, List.append_nil, Int.toNat_natCast]; decide +kernel) ?_
  have hC0 := hA0.ext c0
  -- row 2
  refine den_new fun _ A1 _ a1 => den_wr fun B1 b1 => ?_
  have hA1 := (hC0.ext a1).ext b1
  refine den_callq ⟨true, fun W5 x5 _ _ => ?_, ?_⟩
  · have := Vs.may_q 1 (-9223372036854775808) ⟨#[]⟩ (by decide +kernel) W5
    rw [show Va.may ⟨1, -9223372036854775808, ⟨#[]⟩⟩ = true by kernel_rfl] at this
    exact this
  simp only [Env.push, List.cons_append, List.nil_append, List.append_nil]
  refine den_br_t rfl ?_
  refine den_callq ⟨⟨[45, 57, 50, 50, 51, 51, 55, 50, 48, 51, 54, 56, 53, 52, 55, 55, 53, 56, 48, 56].toArray⟩, fun W5 x5 _ _ => ?_, ?_⟩
  · have := Vs.show_q 1 (-9223372036854775808) ⟨#[]⟩ (fitd (by decide)) (by decide +kernel) W5 (hA1.ext x5)
    rw [show Va.shown ⟨1, -9223372036854775808, ⟨#[]⟩⟩ = ⟨[45, 57, 50, 50, 51, 51, 55, 50, 48, 51, 54, 56, 53, 52, 55, 55, 53, 56, 48, 56].toArray⟩ by kernel_rfl] at this
    exact this
  simp only [Env.push, List.cons_append, List.nil_append, List.append_nil]
  refine den_grow fun C1 c1 => den_br_f (by simp only [Sy.dens, Sy.den, E.i, E.b, E.t, gd, Env.push, List.cons_append, List.nil_append, List.append_nil, Int.toNat_natCast]; decide +kernel) ?_
  have hC1 := hA1.ext c1
  -- row 3
  refine den_new fun _ A2 _ a2 => den_wr fun B2 b2 => ?_
  have hA2 := (hC1.ext a2).ext b2
  refine den_callq ⟨true, fun W5 x5 _ _ => ?_, ?_⟩
  · have := Vs.may_q 1 (0) ⟨#[]⟩ (by decide +kernel) W5
    rw [show Va.may ⟨1, 0, ⟨#[]⟩⟩ = true by kernel_rfl] at this
    exact this
  simp only [Env.push, List.cons_append, List.nil_append, List.append_nil]
  refine den_br_t rfl ?_
  refine den_callq ⟨⟨[48].toArray⟩, fun W5 x5 _ _ => ?_, ?_⟩
  · have := Vs.show_q 1 (0) ⟨#[]⟩ (fitd (by decide)) (by decide +kernel) W5 (hA2.ext x5)
    rw [show Va.shown ⟨1, 0, ⟨#[]⟩⟩ = ⟨[48].toArray⟩ by kernel_rfl] at this
    exact this
  simp only [Env.push, List.cons_append, List.nil_append, List.append_nil]
  refine den_grow fun C2 c2 => den_br_f (by simp only [Sy.dens, Sy.den, E.i, E.b, E.t, gd, Env.push, List.cons_append, List.nil_append, List.append_nil, Int.toNat_natCast]; decide +kernel) ?_
  have hC2 := hA2.ext c2
  -- row 4
  refine den_new fun _ A3 _ a3 => den_wr fun B3 b3 => ?_
  have hA3 := (hC2.ext a3).ext b3
  refine den_callq ⟨true, fun W5 x5 _ _ => ?_, ?_⟩
  · have := Vs.may_q 2 (1) ⟨#[]⟩ (by decide +kernel) W5
    rw [show Va.may ⟨2, 1, ⟨#[]⟩⟩ = true by kernel_rfl] at this
    exact this
  simp only [Env.push, List.cons_append, List.nil_append, List.append_nil]
  refine den_br_t rfl ?_
  refine den_callq ⟨⟨[121, 101, 115].toArray⟩, fun W5 x5 _ _ => ?_, ?_⟩
  · have := Vs.show_q 2 (1) ⟨#[]⟩ (fitd (by decide)) (by decide +kernel) W5 (hA3.ext x5)
    rw [show Va.shown ⟨2, 1, ⟨#[]⟩⟩ = ⟨[121, 101, 115].toArray⟩ by kernel_rfl] at this
    exact this
  simp only [Env.push, List.cons_append, List.nil_append, List.append_nil]
  refine den_grow fun C3 c3 => den_br_f (by simp only [Sy.dens, Sy.den, E.i, E.b, E.t, gd, Env.push, List.cons_append, List.nil_append, List.append_nil, Int.toNat_natCast]; decide +kernel) ?_
  have hC3 := hA3.ext c3
  -- row 5
  refine den_new fun _ A4 _ a4 => den_wr fun B4 b4 => ?_
  have hA4 := (hC3.ext a4).ext b4
  refine den_callq ⟨true, fun W5 x5 _ _ => ?_, ?_⟩
  · have := Vs.may_q 2 (0) ⟨#[]⟩ (by decide +kernel) W5
    rw [show Va.may ⟨2, 0, ⟨#[]⟩⟩ = true by kernel_rfl] at this
    exact this
  simp only [Env.push, List.cons_append, List.nil_append, List.append_nil]
  refine den_br_t rfl ?_
  refine den_callq ⟨⟨[110, 111].toArray⟩, fun W5 x5 _ _ => ?_, ?_⟩
  · have := Vs.show_q 2 (0) ⟨#[]⟩ (fitd (by decide)) (by decide +kernel) W5 (hA4.ext x5)
    rw [show Va.shown ⟨2, 0, ⟨#[]⟩⟩ = ⟨[110, 111].toArray⟩ by kernel_rfl] at this
    exact this
  simp only [Env.push, List.cons_append, List.nil_append, List.append_nil]
  refine den_grow fun C4 c4 => den_br_f (by simp only [Sy.dens, Sy.den, E.i, E.b, E.t, gd, Env.push, List.cons_append, List.nil_append, List.append_nil, Int.toNat_natCast]; decide +kernel) ?_
  have hC4 := hA4.ext c4
  -- row 6
  refine den_new fun _ A5 _ a5 => den_wr fun B5 b5 => ?_
  have hA5 := (hC4.ext a5).ext b5
  refine den_callq ⟨false, fun W5 x5 _ _ => ?_, ?_⟩
  · have := Vs.may_q 2 (2) ⟨#[]⟩ (by decide +kernel) W5
    rw [show Va.may ⟨2, 2, ⟨#[]⟩⟩ = false by kernel_rfl] at this
    exact this
  simp only [Env.push, List.cons_append, List.nil_append, List.append_nil]
  refine den_br_t rfl ?_
  refine den_callq ⟨⟨[121, 101, 115].toArray⟩, fun W5 x5 _ _ => ?_, ?_⟩
  · have := Vs.show_q 2 (2) ⟨#[]⟩ (fitd (by decide)) (by decide +kernel) W5 (hA5.ext x5)
    rw [show Va.shown ⟨2, 2, ⟨#[]⟩⟩ = ⟨[121, 101, 115].toArray⟩ by kernel_rfl] at this
    exact this
  simp only [Env.push, List.cons_append, List.nil_append, List.append_nil]
  refine den_grow fun C5 c5 => den_br_f (by simp only [Sy.dens, Sy.den, E.i, E.b, E.t, gd, Env.push, List.cons_append, List.nil_append, List.append_nil, Int.toNat_natCast]; decide +kernel) ?_
  have hC5 := hA5.ext c5
  -- row 7
  refine den_new fun _ A6 _ a6 => den_wr fun B6 b6 => ?_
  have hA6 := (hC5.ext a6).ext b6
  refine den_callq ⟨true, fun W5 x5 _ _ => ?_, ?_⟩
  · have := Vs.may_q 3 (0) ⟨#[]⟩ (by decide +kernel) W5
    rw [show Va.may ⟨3, 0, ⟨#[]⟩⟩ = true by kernel_rfl] at this
    exact this
  simp only [Env.push, List.cons_append, List.nil_append, List.append_nil]
  refine den_br_t rfl ?_
  refine den_callq ⟨⟨[39, 39].toArray⟩, fun W5 x5 _ _ => ?_, ?_⟩
  · have := Vs.show_q 3 (0) ⟨#[]⟩ (fitd (by decide)) (by decide +kernel) W5 (hA6.ext x5)
    rw [show Va.shown ⟨3, 0, ⟨#[]⟩⟩ = ⟨[39, 39].toArray⟩ by kernel_rfl] at this
    exact this
  simp only [Env.push, List.cons_append, List.nil_append, List.append_nil]
  refine den_grow fun C6 c6 => den_br_f (by simp only [Sy.dens, Sy.den, E.i, E.b, E.t, gd, Env.push, List.cons_append, List.nil_append, List.append_nil, Int.toNat_natCast]; decide +kernel) ?_
  have hC6 := hA6.ext c6
  -- row 8
  refine den_new fun _ A7 _ a7 => den_wr fun B7 b7 => ?_
  have hA7 := (hC6.ext a7).ext b7
  refine den_callq ⟨true, fun W5 x5 _ _ => ?_, ?_⟩
  · have := Vs.may_q 3 (0) (xs 40) (by decide +kernel) W5
    rw [show Va.may ⟨3, 0, xs 40⟩ = true by kernel_rfl] at this
    exact this
  simp only [Env.push, List.cons_append, List.nil_append, List.append_nil]
  refine den_br_t rfl ?_
  refine den_callq ⟨(⟨[39].toArray⟩ ++ xs 40 ++ ⟨[39].toArray⟩), fun W5 x5 _ _ => ?_, ?_⟩
  · have := Vs.show_q 3 (0) (xs 40) (fitd (by decide)) (by decide +kernel) W5 (hA7.ext x5)
    rw [show Va.shown ⟨3, 0, xs 40⟩ = (⟨[39].toArray⟩ ++ xs 40 ++ ⟨[39].toArray⟩) by kernel_rfl] at this
    exact this
  simp only [Env.push, List.cons_append, List.nil_append, List.append_nil]
  refine den_grow fun C7 c7 => den_br_f (by simp only [Sy.dens, Sy.den, E.i, E.b, E.t, gd, Env.push, List.cons_append, List.nil_append, List.append_nil, Int.toNat_natCast]; decide +kernel) ?_
  have hC7 := hA7.ext c7
  -- row 9
  refine den_new fun _ A8 _ a8 => den_wr fun B8 b8 => ?_
  have hA8 := (hC7.ext a8).ext b8
  refine den_callq ⟨false, fun W5 x5 _ _ => ?_, ?_⟩
  · have := Vs.may_q 3 (0) (xs 40 ++ ⟨[120].toArray⟩) (by decide +kernel) W5
    rw [show Va.may ⟨3, 0, (xs 40 ++ ⟨[120].toArray⟩)⟩ = false by kernel_rfl] at this
    exact this
  simp only [Env.push, List.cons_append, List.nil_append, List.append_nil]
  refine den_br_t rfl ?_
  refine den_callq ⟨(⟨[39].toArray⟩ ++ xs 40 ++ ⟨[120, 39].toArray⟩), fun W5 x5 _ _ => ?_, ?_⟩
  · have := Vs.show_q 3 (0) (xs 40 ++ ⟨[120].toArray⟩) (fitd (by decide)) (by decide +kernel) W5 (hA8.ext x5)
    rw [show Va.shown ⟨3, 0, (xs 40 ++ ⟨[120].toArray⟩)⟩ = (⟨[39].toArray⟩ ++ xs 40 ++ ⟨[120, 39].toArray⟩) by kernel_rfl] at this
    exact this
  simp only [Env.push, List.cons_append, List.nil_append, List.append_nil]
  refine den_grow fun C8 c8 => den_br_f (by simp only [Sy.dens, Sy.den, E.i, E.b, E.t, gd, Env.push, List.cons_append, List.nil_append, List.append_nil, Int.toNat_natCast]; decide +kernel) ?_
  have hC8 := hA8.ext c8
  -- row 10
  refine den_new fun _ A9 _ a9 => den_wr fun B9 b9 => ?_
  have hA9 := (hC8.ext a9).ext b9
  refine den_callq ⟨false, fun W5 x5 _ _ => ?_, ?_⟩
  · have := Vs.may_q 3 (0) ⟨[97, 39].toArray⟩ (by decide +kernel) W5
    rw [show Va.may ⟨3, 0, ⟨[97, 39].toArray⟩⟩ = false by kernel_rfl] at this
    exact this
  simp only [Env.push, List.cons_append, List.nil_append, List.append_nil]
  refine den_br_t rfl ?_
  refine den_callq ⟨⟨[39, 97, 39, 39].toArray⟩, fun W5 x5 _ _ => ?_, ?_⟩
  · have := Vs.show_q 3 (0) ⟨[97, 39].toArray⟩ (fitd (by decide)) (by decide +kernel) W5 (hA9.ext x5)
    rw [show Va.shown ⟨3, 0, ⟨[97, 39].toArray⟩⟩ = ⟨[39, 97, 39, 39].toArray⟩ by kernel_rfl] at this
    exact this
  simp only [Env.push, List.cons_append, List.nil_append, List.append_nil]
  refine den_grow fun C9 c9 => den_br_f (by simp only [Sy.dens, Sy.den, E.i, E.b, E.t, gd, Env.push, List.cons_append, List.nil_append, List.append_nil, Int.toNat_natCast]; decide +kernel) ?_
  have hC9 := hA9.ext c9
  -- row 11
  refine den_new fun _ A10 _ a10 => den_wr fun B10 b10 => ?_
  have hA10 := (hC9.ext a10).ext b10
  refine den_callq ⟨false, fun W5 x5 _ _ => ?_, ?_⟩
  · have := Vs.may_q 3 (0) ⟨[31].toArray⟩ (by decide +kernel) W5
    rw [show Va.may ⟨3, 0, ⟨[31].toArray⟩⟩ = false by kernel_rfl] at this
    exact this
  simp only [Env.push, List.cons_append, List.nil_append, List.append_nil]
  refine den_br_t rfl ?_
  refine den_callq ⟨⟨[39, 31, 39].toArray⟩, fun W5 x5 _ _ => ?_, ?_⟩
  · have := Vs.show_q 3 (0) ⟨[31].toArray⟩ (fitd (by decide)) (by decide +kernel) W5 (hA10.ext x5)
    rw [show Va.shown ⟨3, 0, ⟨[31].toArray⟩⟩ = ⟨[39, 31, 39].toArray⟩ by kernel_rfl] at this
    exact this
  simp only [Env.push, List.cons_append, List.nil_append, List.append_nil]
  refine den_grow fun C10 c10 => den_br_f (by simp only [Sy.dens, Sy.den, E.i, E.b, E.t, gd, Env.push, List.cons_append, List.nil_append, List.append_nil, Int.toNat_natCast]; decide +kernel) ?_
  have hC10 := hA10.ext c10
  -- row 12
  refine den_new fun _ A11 _ a11 => den_wr fun B11 b11 => ?_
  have hA11 := (hC10.ext a11).ext b11
  refine den_callq ⟨true, fun W5 x5 _ _ => ?_, ?_⟩
  · have := Vs.may_q 3 (0) ⟨[126, 32].toArray⟩ (by decide +kernel) W5
    rw [show Va.may ⟨3, 0, ⟨[126, 32].toArray⟩⟩ = true by kernel_rfl] at this
    exact this
  simp only [Env.push, List.cons_append, List.nil_append, List.append_nil]
  refine den_br_t rfl ?_
  refine den_callq ⟨⟨[39, 126, 32, 39].toArray⟩, fun W5 x5 _ _ => ?_, ?_⟩
  · have := Vs.show_q 3 (0) ⟨[126, 32].toArray⟩ (fitd (by decide)) (by decide +kernel) W5 (hA11.ext x5)
    rw [show Va.shown ⟨3, 0, ⟨[126, 32].toArray⟩⟩ = ⟨[39, 126, 32, 39].toArray⟩ by kernel_rfl] at this
    exact this
  simp only [Env.push, List.cons_append, List.nil_append, List.append_nil]
  refine den_grow fun C11 c11 => den_br_f (by simp only [Sy.dens, Sy.den, E.i, E.b, E.t, gd, Env.push, List.cons_append, List.nil_append, List.append_nil, Int.toNat_natCast]; decide +kernel) ?_
  have hC11 := hA11.ext c11
  -- row 13
  refine den_new fun _ A12 _ a12 => den_wr fun B12 b12 => ?_
  have hA12 := (hC11.ext a12).ext b12
  refine den_callq ⟨false, fun W5 x5 _ _ => ?_, ?_⟩
  · have := Vs.may_q 3 (0) ⟨[127].toArray⟩ (by decide +kernel) W5
    rw [show Va.may ⟨3, 0, ⟨[127].toArray⟩⟩ = false by kernel_rfl] at this
    exact this
  simp only [Env.push, List.cons_append, List.nil_append, List.append_nil]
  refine den_br_t rfl ?_
  refine den_callq ⟨⟨[39, 127, 39].toArray⟩, fun W5 x5 _ _ => ?_, ?_⟩
  · have := Vs.show_q 3 (0) ⟨[127].toArray⟩ (fitd (by decide)) (by decide +kernel) W5 (hA12.ext x5)
    rw [show Va.shown ⟨3, 0, ⟨[127].toArray⟩⟩ = ⟨[39, 127, 39].toArray⟩ by kernel_rfl] at this
    exact this
  simp only [Env.push, List.cons_append, List.nil_append, List.append_nil]
  refine den_grow fun C12 c12 => den_br_f (by simp only [Sy.dens, Sy.den, E.i, E.b, E.t, gd, Env.push, List.cons_append, List.nil_append, List.append_nil, Int.toNat_natCast]; decide +kernel) ?_
  have hC12 := hA12.ext c12
  -- row 14
  refine den_new fun _ A13 _ a13 => den_wr fun B13 b13 => ?_
  have hA13 := (hC12.ext a13).ext b13
  refine den_callq ⟨false, fun W5 x5 _ _ => ?_, ?_⟩
  · have := Vs.may_q 4 (0) ⟨#[]⟩ (by decide +kernel) W5
    rw [show Va.may ⟨4, 0, ⟨#[]⟩⟩ = false by kernel_rfl] at this
    exact this
  simp only [Env.push, List.cons_append, List.nil_append, List.append_nil]
  refine den_br_t rfl ?_
  refine den_callq ⟨⟨[110, 111, 110, 101].toArray⟩, fun W5 x5 _ _ => ?_, ?_⟩
  · have := Vs.show_q 4 (0) ⟨#[]⟩ (fitd (by decide)) (by decide +kernel) W5 (hA13.ext x5)
    rw [show Va.shown ⟨4, 0, ⟨#[]⟩⟩ = ⟨[110, 111, 110, 101].toArray⟩ by kernel_rfl] at this
    exact this
  simp only [Env.push, List.cons_append, List.nil_append, List.append_nil]
  refine den_grow fun C13 c13 => den_br_f (by simp only [Sy.dens, Sy.den, E.i, E.b, E.t, gd, Env.push, List.cons_append, List.nil_append, List.append_nil, Int.toNat_natCast]; decide +kernel) ?_
  have hC13 := hA13.ext c13
  -- row 15
  refine den_new fun _ A14 _ a14 => den_wr fun B14 b14 => ?_
  have hA14 := (hC13.ext a14).ext b14
  refine den_callq ⟨false, fun W5 x5 _ _ => ?_, ?_⟩
  · have := Vs.may_q 0 (1) ⟨#[]⟩ (by decide +kernel) W5
    rw [show Va.may ⟨0, 1, ⟨#[]⟩⟩ = false by kernel_rfl] at this
    exact this
  simp only [Env.push, List.cons_append, List.nil_append, List.append_nil]
  refine den_br_t rfl ?_
  refine den_callq ⟨⟨[110, 111, 110, 101].toArray⟩, fun W5 x5 _ _ => ?_, ?_⟩
  · have := Vs.show_q 0 (1) ⟨#[]⟩ (fitd (by decide)) (by decide +kernel) W5 (hA14.ext x5)
    rw [show Va.shown ⟨0, 1, ⟨#[]⟩⟩ = ⟨[110, 111, 110, 101].toArray⟩ by kernel_rfl] at this
    exact this
  simp only [Env.push, List.cons_append, List.nil_append, List.append_nil]
  refine den_grow fun C14 c14 => den_br_f (by simp only [Sy.dens, Sy.den, E.i, E.b, E.t, gd, Env.push, List.cons_append, List.nil_append, List.append_nil, Int.toNat_natCast]; decide +kernel) ?_
  have hC14 := hA14.ext c14
  -- row 16
  refine den_new fun _ A15 _ a15 => den_wr fun B15 b15 => ?_
  have hA15 := (hC14.ext a15).ext b15
  refine den_callq ⟨false, fun W5 x5 _ _ => ?_, ?_⟩
  · have := Vs.may_q 1 (0) ⟨[120].toArray⟩ (by decide +kernel) W5
    rw [show Va.may ⟨1, 0, ⟨[120].toArray⟩⟩ = false by kernel_rfl] at this
    exact this
  simp only [Env.push, List.cons_append, List.nil_append, List.append_nil]
  refine den_br_t rfl ?_
  refine den_callq ⟨⟨[48].toArray⟩, fun W5 x5 _ _ => ?_, ?_⟩
  · have := Vs.show_q 1 (0) ⟨[120].toArray⟩ (fitd (by decide)) (by decide +kernel) W5 (hA15.ext x5)
    rw [show Va.shown ⟨1, 0, ⟨[120].toArray⟩⟩ = ⟨[48].toArray⟩ by kernel_rfl] at this
    exact this
  simp only [Env.push, List.cons_append, List.nil_append, List.append_nil]
  refine den_grow fun C15 c15 => den_br_f (by simp only [Sy.dens, Sy.den, E.i, E.b, E.t, gd, Env.push, List.cons_append, List.nil_append, List.append_nil, Int.toNat_natCast]; decide +kernel) ?_
  have hC15 := hA15.ext c15
  -- row 17
  refine den_new fun _ A16 _ a16 => den_wr fun B16 b16 => ?_
  have hA16 := (hC15.ext a16).ext b16
  refine den_callq ⟨false, fun W5 x5 _ _ => ?_, ?_⟩
  · have := Vs.may_q 3 (1) ⟨#[]⟩ (by decide +kernel) W5
    rw [show Va.may ⟨3, 1, ⟨#[]⟩⟩ = false by kernel_rfl] at this
    exact this
  simp only [Env.push, List.cons_append, List.nil_append, List.append_nil]
  refine den_br_t rfl ?_
  refine den_callq ⟨⟨[39, 39].toArray⟩, fun W5 x5 _ _ => ?_, ?_⟩
  · have := Vs.show_q 3 (1) ⟨#[]⟩ (fitd (by decide)) (by decide +kernel) W5 (hA16.ext x5)
    rw [show Va.shown ⟨3, 1, ⟨#[]⟩⟩ = ⟨[39, 39].toArray⟩ by kernel_rfl] at this
    exact this
  simp only [Env.push, List.cons_append, List.nil_append, List.append_nil]
  refine den_grow fun C16 c16 => den_br_f (by simp only [Sy.dens, Sy.den, E.i, E.b, E.t, gd, Env.push, List.cons_append, List.nil_append, List.append_nil, Int.toNat_natCast]; decide +kernel) ?_
  have hC16 := hA16.ext c16
  refine den_grow fun U1 _ => den_call_q (v := vT (⟨0, 0, ⟨#[]⟩⟩, 20)) (fun _ _ => ?_) ⟨0, 0, 20, ⟨#[]⟩, rfl, fun _ _ => ?_⟩
  · have := one_q 3 1 (-9223372036854775808) ⟨#[]⟩ (fitd (by decide)) U1
    rw [show Va.one 3 ⟨1, -9223372036854775808, ⟨#[]⟩⟩ = (⟨0, 0, ⟨#[]⟩⟩, 20) by kernel_rfl] at this
    exact this
  simp only [Env.push, List.cons_append, List.nil_append, List.append_nil]
  refine den_new fun _ _ _ _ => den_wr fun T1 _ => ?_
  refine den_call_q (v := vT (⟨2, 0, ⟨#[]⟩⟩, 0)) (fun _ _ => ?_) ⟨2, 0, 0, ⟨#[]⟩, rfl, fun _ _ => ?_⟩
  · have := one_q 4 2 (1) ⟨#[]⟩ (fitd (by decide)) T1
    rw [show Va.one 4 ⟨2, 1, ⟨#[]⟩⟩ = (⟨2, 0, ⟨#[]⟩⟩, 0) by kernel_rfl] at this
    exact this
  simp only [Env.push, List.cons_append, List.nil_append, List.append_nil]
  refine den_new fun _ _ _ _ => den_wr fun T2 _ => ?_
  refine den_grow fun U3 _ => den_call_q (v := vT (⟨1, 40, ⟨#[]⟩⟩, 0)) (fun _ _ => ?_) ⟨1, 40, 0, ⟨#[]⟩, rfl, fun _ _ => ?_⟩
  · have := one_q 16 3 (0) (xs 40) (fitd (by decide)) U3
    rw [show Va.one 16 ⟨3, 0, xs 40⟩ = (⟨1, 40, ⟨#[]⟩⟩, 0) by kernel_rfl] at this
    exact this
  simp only [Env.push, List.cons_append, List.nil_append, List.append_nil]
  refine den_new fun _ _ _ _ => den_wr fun T3 _ => ?_
  refine den_grow fun U4 _ => den_call_q (v := vT (⟨0, 0, ⟨#[]⟩⟩, 23)) (fun _ _ => ?_) ⟨0, 0, 23, ⟨#[]⟩, rfl, fun _ _ => ?_⟩
  · have := one_q 16 1 (1) ⟨#[]⟩ (fitd (by decide)) U4
    rw [show Va.one 16 ⟨1, 1, ⟨#[]⟩⟩ = (⟨0, 0, ⟨#[]⟩⟩, 23) by kernel_rfl] at this
    exact this
  simp only [Env.push, List.cons_append, List.nil_append, List.append_nil]
  refine den_new fun _ _ _ _ => den_wr fun T4 _ => ?_
  refine den_grow fun U5 _ => den_call_q (v := vT (⟨0, 0, ⟨#[]⟩⟩, 4)) (fun _ _ => ?_) ⟨0, 0, 4, ⟨#[]⟩, rfl, fun _ _ => ?_⟩
  · have := one_q 5 1 (1) ⟨#[]⟩ (fitd (by decide)) U5
    rw [show Va.one 5 ⟨1, 1, ⟨#[]⟩⟩ = (⟨0, 0, ⟨#[]⟩⟩, 4) by kernel_rfl] at this
    exact this
  simp only [Env.push, List.cons_append, List.nil_append, List.append_nil]
  refine den_new fun _ _ _ _ => den_wr fun T5 _ => ?_
  refine den_br_t rfl (den_br_t rfl (den_br_t rfl ?_))
  refine den_callq ⟨true, fun W5 x5 _ _ => no_c 3 1 (1) 1 (1) ⟨#[]⟩ ⟨#[]⟩ (4) (by kernel_rfl) (fitd (by decide)) (fitd (by decide)) W5, ?_⟩
  simp only [Env.push, List.cons_append, List.nil_append, List.append_nil]
  refine den_br_t rfl ?_
  refine den_callq ⟨true, fun W5 x5 _ _ => no_c 0 1 (1) 1 (1) ⟨#[]⟩ ⟨#[]⟩ (4) (by kernel_rfl) (fitd (by decide)) (fitd (by decide)) W5, ?_⟩
  simp only [Env.push, List.cons_append, List.nil_append, List.append_nil]
  refine den_br_t rfl ?_
  refine den_callq ⟨true, fun W5 x5 _ _ => no_c 8 2 (1) 2 (1) ⟨#[]⟩ ⟨#[]⟩ (23) (by kernel_rfl) (fitd (by decide)) (fitd (by decide)) W5, ?_⟩
  simp only [Env.push, List.cons_append, List.nil_append, List.append_nil]
  refine den_br_t rfl ?_
  refine den_callq ⟨true, fun W5 x5 _ _ => no_c 9 2 (1) 2 (1) ⟨#[]⟩ ⟨#[]⟩ (23) (by kernel_rfl) (fitd (by decide)) (fitd (by decide)) W5, ?_⟩
  simp only [Env.push, List.cons_append, List.nil_append, List.append_nil]
  refine den_br_t rfl ?_
  refine den_callq ⟨true, fun W5 x5 _ _ => no_c 11 0 (0) 0 (0) ⟨#[]⟩ ⟨#[]⟩ (23) (by kernel_rfl) (fitd (by decide)) (fitd (by decide)) W5, ?_⟩
  simp only [Env.push, List.cons_append, List.nil_append, List.append_nil]
  refine den_br_t rfl ?_
  refine den_callq ⟨true, fun W5 x5 _ _ => is_c 11 2 (1) 2 (1) ⟨#[]⟩ ⟨#[]⟩ (⟨2, 1, ⟨#[]⟩⟩) (by kernel_rfl) (fitd (by decide)) (fitd (by decide)) W5, ?_⟩
  simp only [Env.push, List.cons_append, List.nil_append, List.append_nil]
  refine den_br_t rfl ?_
  refine den_callq ⟨true, fun W5 x5 _ _ => is_c 13 2 (1) 2 (1) ⟨#[]⟩ ⟨#[]⟩ (⟨2, 1, ⟨#[]⟩⟩) (by kernel_rfl) (fitd (by decide)) (fitd (by decide)) W5, ?_⟩
  simp only [Env.push, List.cons_append, List.nil_append, List.append_nil]
  refine den_br_t rfl ?_
  refine den_callq ⟨true, fun W5 x5 _ _ => no_c 13 1 (1) 2 (1) ⟨#[]⟩ ⟨#[]⟩ (23) (by kernel_rfl) (fitd (by decide)) (fitd (by decide)) W5, ?_⟩
  simp only [Env.push, List.cons_append, List.nil_append, List.append_nil]
  refine den_br_t rfl ?_
  refine den_callq ⟨true, fun W5 x5 _ _ => no_c 8 3 (0) 3 (0) (xs 40) ⟨[120].toArray⟩ (20) (by kernel_rfl) (fitd (by decide)) (fitd (by decide)) W5, ?_⟩
  simp only [Env.push, List.cons_append, List.nil_append, List.append_nil]
  refine den_br_t rfl ?_
  refine den_callq ⟨true, fun W5 x5 _ _ => is_c 8 3 (0) 3 (0) (xs 40) ⟨#[]⟩ (⟨3, 0, xs 40⟩) (by kernel_rfl) (fitd (by decide)) (fitd (by decide)) W5, ?_⟩
  simp only [Env.push, List.cons_append, List.nil_append, List.append_nil]
  refine den_br_t rfl ?_
  refine den_callq ⟨true, fun W5 x5 _ _ => no_c 7 1 (-9223372036854775808) 1 (-1) ⟨#[]⟩ ⟨#[]⟩ (20) (by kernel_rfl) (fitd (by decide)) (fitd (by decide)) W5, ?_⟩
  simp only [Env.push, List.cons_append, List.nil_append, List.append_nil]
  refine den_br_t rfl ?_
  refine den_callq ⟨true, fun W5 x5 _ _ => no_c 7 1 (5) 1 (0) ⟨#[]⟩ ⟨#[]⟩ (21) (by kernel_rfl) (fitd (by decide)) (fitd (by decide)) W5, ?_⟩
  simp only [Env.push, List.cons_append, List.nil_append, List.append_nil]
  refine den_br_t rfl ?_
  refine den_callq ⟨true, fun W5 x5 _ _ => no_c 5 1 (4294967296) 1 (2147483648) ⟨#[]⟩ ⟨#[]⟩ (20) (by kernel_rfl) (fitd (by decide)) (fitd (by decide)) W5, ?_⟩
  simp only [Env.push, List.cons_append, List.nil_append, List.append_nil]
  refine den_br_t rfl ?_
  refine den_callq ⟨true, fun W5 x5 _ _ => is_c 5 1 (-4294967296) 1 (2147483648) ⟨#[]⟩ ⟨#[]⟩ (⟨1, -9223372036854775808, ⟨#[]⟩⟩) (by kernel_rfl) (fitd (by decide)) (fitd (by decide)) W5, ?_⟩
  simp only [Env.push, List.cons_append, List.nil_append, List.append_nil]
  refine den_br_t rfl ?_
  refine den_callq ⟨true, fun W5 x5 _ _ => no_c 15 1 (-2) 1 (9223372036854775807) ⟨#[]⟩ ⟨#[]⟩ (20) (by kernel_rfl) (fitd (by decide)) (fitd (by decide)) W5, ?_⟩
  simp only [Env.push, List.cons_append, List.nil_append, List.append_nil]
  exact den_grow fun _ _ => den_ret fun _ _ _ => ⟨_, rfl, rfl⟩
end Go.Proofs.YtpekccomahikbaaDoor
