/- What ParseNames' walk calls: makers of trees without arguments, the parser at a list of bytes. -/
import Derived.Test.YtckgdgkkmhochaaGreatDoorPxWorks
import Derived.Test.YtckgdgkkmhochaaGreatDoorPxNames
import Derived.Test.YtckgdgkkmhochaaGreatDoorPxPSame
namespace Go.Proofs.YtckgdgkkmhochaaGreatDoor
open Go Go.RowKit Go.SF
set_option linter.unusedSimpArgs false
set_option linter.unusedVariables false
theorem name_qn (s : Lx.Bs) (W : Wd) : CallsQ Tryz.prog 22 #[.string ⟨s.toArray⟩] W (.agg #[.int .u8 2, .int .u8 0, .int .i64 0, .string ⟨([] : List UInt8).toArray⟩, .string ⟨s.toArray⟩, .slice none 0 0]) := by
  refine vc_lname ⟨s.toArray⟩ W.all _ ?_
  exact den_new fun _ W1 _ x1 => den_wr fun W5 x5 => den_ret fun hb _ _ => ⟨_, rfl, rfl⟩
theorem num_qn (n : Int) (W : Wd) : CallsQ Tryz.prog 26 #[.int .i64 n] W (.agg #[.int .u8 1, .int .u8 1, .int .i64 n, .string ⟨([] : List UInt8).toArray⟩, .string ⟨([] : List UInt8).toArray⟩, .slice none 0 0]) := by
  refine vc_lnum n W.all _ ?_
  exact den_new fun _ W1 _ x1 => den_wr fun W5 x5 => den_ret fun hb _ _ => ⟨_, rfl, rfl⟩
theorem text_qn (s : Lx.Bs) (W : Wd) : CallsQ Tryz.prog 27 #[.string ⟨s.toArray⟩] W (.agg #[.int .u8 1, .int .u8 3, .int .i64 0, .string ⟨s.toArray⟩, .string ⟨([] : List UInt8).toArray⟩, .slice none 0 0]) := by
  refine vc_ltext ⟨s.toArray⟩ W.all _ ?_
  exact den_new fun _ W1 _ x1 => den_wr fun W5 x5 => den_ret fun hb _ _ => ⟨_, rfl, rfl⟩
theorem parse_at (s : Lx.Bs) (W : Wd) (hG : Glob W) : CallsI Tryz.prog 20 #[.string ⟨s.toArray⟩] W.all fun v w' => ∃ op k n t nm al len cl, v = .tuple #[.agg #[.int .u8 op, .int .u8 k, .int .i64 n, .string t, .string nm, .slice al len cl], .int .i64 (Px.parse s).2] ∧ ExAt w' (fun b => W.w.heap.size ≤ b) (Px.parse s).1 [.int .u8 op, .int .u8 k, .int .i64 n, .string t, .string nm, .slice al len cl] := by
  have hp := parse_i' ⟨s.toArray⟩ W hG
  simp only [show (⟨s.toArray⟩ : ByteArray).data.toList = s from by simp] at hp
  exact hp
theorem many_q (n : Nat) (hn : n ≤ 1000000) (s : Lx.Bs) (hs : s.length ≤ 1000) (W : Wd) : CallsQ Tryz.prog 21 #[.int .i64 (n : Nat), .string ⟨s.toArray⟩] W (.string ⟨(List.replicate n s).flatten.toArray⟩) := by
  refine vc_lmany (n : Int) ⟨s.toArray⟩ W.all _ ?_
  refine den_loop (fun k vs ls _ => ∃ i : Nat, vs = [.string ⟨(List.replicate i s).flatten.toArray⟩, .int .i64 (i : Int)] ∧ ls = [] ∧ i ≤ n ∧ k = n - i) n ⟨0, rfl, rfl, Nat.zero_le _, rfl⟩ ?_
  rintro k vs ls W1 x1 ⟨i, rfl, rfl, hi, rfl⟩
  refine ⟨(i : Int), ⟨(List.replicate i s).flatten.toArray⟩, rfl, rfl, fun _ => ?_⟩
  simp only [Env.push, List.cons_append, List.nil_append, List.append_nil]
  have hl : (List.replicate i s).flatten.length ≤ i * 1000 := by
    rw [List.length_flatten, List.map_replicate, List.sum_replicate_nat]
    exact Nat.mul_le_mul_left i hs
  refine den_br (fun c1 => ?_) fun c1 => ?_
  · simp only [Sy.dens, Sy.den, E.i, E.b, E.t, gd, Env.push, List.cons_append, List.nil_append, List.append_nil, Int.toNat_natCast, ltB_true] at c1
    refine den_chk ?_ (den_again ⟨n - (i + 1), by omega, i + 1, ?_, rfl, by omega, rfl⟩)
    · simp only [Sy.dens, Sy.den, E.i, E.b, E.t, gd, Env.push, List.cons_append, List.nil_append, List.append_nil, Int.toNat_natCast]; rw [ba_size, ba_size]; refine leB_t ?_; omega
    · simp only [Sy.dens, Sy.den, E.i, E.b, E.t, gd, Env.push, List.cons_append, List.nil_append, List.append_nil, Int.toNat_natCast]
      rw [w64i (by omega) (by omega), ba_app]
      have : (List.replicate i s).flatten ++ s = (List.replicate (i + 1) s).flatten := by rw [List.replicate_succ']; simp
      rw [this]; rfl
  · simp only [Sy.dens, Sy.den, E.i, E.b, E.t, gd, Env.push, List.cons_append, List.nil_append, List.append_nil, Int.toNat_natCast, ltB_false] at c1
    obtain rfl : i = n := by omega
    exact den_ret fun _ _ _ => ⟨_, rfl, rfl⟩
end Go.Proofs.YtckgdgkkmhochaaGreatDoor
