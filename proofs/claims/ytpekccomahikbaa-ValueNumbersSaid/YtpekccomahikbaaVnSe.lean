/- The law ValueNumbers, off the walk that the kernel computes. -/
import Derived.Test.YtpekccomahikbaaVaSe
import Derived.Test.YtpekccomahikbaaVcNum
import Derived.Test.YtpekccomahikbaaVaNumFacts
namespace Go.Proofs.Ytpekccomahikbaa
open Go Go.RowKit Go.SE
set_option linter.unusedSimpArgs false
set_option linter.unusedVariables false

theorem no_is (op ak an bk bn : Int) (at_ bt : ByteArray) (want : Int)
    (h : ∀ W, CallsQ Try.prog 8 #[.int .u8 op, .agg #[.int .u8 ak, .int .i64 an, .string at_], .agg #[.int .u8 bk, .int .i64 bn, .string bt]] W (vT (Va.none, want))) (W : Wd) :
    CallsQ Try.prog 31 #[.int .u8 op, .agg #[.int .u8 ak, .int .i64 an, .string at_], .agg #[.int .u8 bk, .int .i64 bn, .string bt], .int .i64 want] W (.bool true) :=
  .of_i (by
    refine vc_no op ak an bk bn want at_ bt W _ ?_
    unfold t_no
    simp only [Tree.den, Sy.dens, Sy.den, E.i, E.b, E.t, gd, Env.push, List.cons_append, List.nil_append, List.append_nil, ExE, ExL, ExV]
    intros
    refine .of_q (h _) fun W' x => ⟨_, _, _, _, rfl, ?_⟩
    simp [Va.none])
theorem is_is (op ak an bk bn : Int) (at_ bt : ByteArray) (v : Va.V)
    (h : ∀ W, CallsQ Try.prog 8 #[.int .u8 op, .agg #[.int .u8 ak, .int .i64 an, .string at_], .agg #[.int .u8 bk, .int .i64 bn, .string bt]] W (vT (v, 0))) (W : Wd) :
    CallsQ Try.prog 32 #[.int .u8 op, .agg #[.int .u8 ak, .int .i64 an, .string at_], .agg #[.int .u8 bk, .int .i64 bn, .string bt], .agg #[.int .u8 v.k, .int .i64 v.n, .string v.t]] W (.bool true) :=
  .of_i (by
    refine vc_is op ak an bk bn v.k v.n at_ bt v.t W _ ?_
    unfold t_is
    simp only [Tree.den, Sy.dens, Sy.den, E.i, E.b, E.t, gd, Env.push, List.cons_append, List.nil_append, List.append_nil, ExE, ExL, ExV]
    intros
    refine .of_q (h _) fun W' x => ⟨_, _, _, _, rfl, ?_⟩
    simp)
theorem qeq {f : FuncId} {args : Array Value} {W : Wd} {u v : Value} (h : CallsQ Try.prog f args W u) (e : u = v) : CallsQ Try.prog f args W v := e ▸ h
theorem fitL (n : Int) (h : Va.inR n = true) : Va.Fit n := Va.Fit.iff.2 h
theorem works_q (W : Wd) : CallsQ Try.prog 10 #[] W (.bool true) :=
  .of_i (by
    refine vc_works W _ ?_
    unfold t_works
    simp only [Tree.den, Sy.dens, Sy.den, E.i, E.b, E.t, gd, Env.push, List.cons_append, List.nil_append, List.append_nil, ExE, ExL, ExV]
    intros
    refine .of_q (no_is 8 1 9223372036854775807 1 1 ⟨#[]⟩ ⟨#[]⟩ 20 (fun W => qeq (two8_q 1 9223372036854775807 1 1 ⟨#[]⟩ ⟨#[]⟩ (fitL _ rfl) (fitL _ rfl) W) (by kernel_rfl)) _) fun W' x => ⟨_, rfl, ?_⟩
    refine ⟨fun _ => ?_, fun h => absurd h (by decide)⟩
    intros
    refine .of_q (is_is 6 1 (-7) 1 2 ⟨#[]⟩ ⟨#[]⟩ (Va.num (-3)) (fun W => qeq (two6_q 1 (-7) 1 2 ⟨#[]⟩ ⟨#[]⟩ (fitL _ rfl) (fitL _ rfl) W) (by kernel_rfl)) _) fun W' x => ⟨_, rfl, ?_⟩
    refine ⟨fun _ => ?_, fun h => absurd h (by decide)⟩
    intros
    refine .of_q (is_is 7 1 (-7) 1 2 ⟨#[]⟩ ⟨#[]⟩ (Va.num (-1)) (fun W => qeq (two7_q 1 (-7) 1 2 ⟨#[]⟩ ⟨#[]⟩ (fitL _ rfl) (fitL _ rfl) W) (by kernel_rfl)) _) fun W' x => ⟨_, rfl, ?_⟩
    refine ⟨fun _ => ?_, fun h => absurd h (by decide)⟩
    intros
    refine .of_q (no_is 6 1 (-9223372036854775808) 1 (-1) ⟨#[]⟩ ⟨#[]⟩ 20 (fun W => qeq (two6_q 1 (-9223372036854775808) 1 (-1) ⟨#[]⟩ ⟨#[]⟩ (fitL _ rfl) (fitL _ rfl) W) (by kernel_rfl)) _) fun W' x => ⟨_, rfl, ?_⟩
    refine ⟨fun _ => ?_, fun h => absurd h (by decide)⟩
    intros
    refine .of_q (no_is 6 1 1 1 0 ⟨#[]⟩ ⟨#[]⟩ 21 (fun W => qeq (two6_q 1 1 1 0 ⟨#[]⟩ ⟨#[]⟩ (fitL _ rfl) (fitL _ rfl) W) (by kernel_rfl)) _) fun W' x => ⟨_, rfl, ?_⟩
    refine ⟨fun _ => ?_, fun h => absurd h (by decide)⟩
    intros
    refine .of_q (is_is 8 3 0 3 0 ⟨#[97]⟩ ⟨#[98]⟩ (Va.text ⟨#[97, 98]⟩) (fun W => qeq (two8_q 3 0 3 0 ⟨#[97]⟩ ⟨#[98]⟩ (fitL _ rfl) (fitL _ rfl) W) (by kernel_rfl)) _) fun W' x => ⟨_, rfl, ?_⟩
    refine ⟨fun _ => ?_, fun h => absurd h (by decide)⟩
    intros
    refine .of_q (no_is 9 1 1 3 0 ⟨#[]⟩ ⟨#[97]⟩ 23 (fun W => qeq (two9_q 1 1 3 0 ⟨#[]⟩ ⟨#[97]⟩ (fitL _ rfl) (fitL _ rfl) W) (by kernel_rfl)) _) fun W' x => ⟨_, rfl, ?_⟩
    intros
    rfl)

theorem two_n (k : Int) (h : k = 5 ∨ k = 6 ∨ k = 7 ∨ k = 8 ∨ k = 15) (n m : Int) : vT (Va.two k ⟨1, n, ⟨#[]⟩⟩ ⟨1, m, ⟨#[]⟩⟩) = vT (Va.numbers k n m) := by rw [Va.two_num k n m h]

theorem neg_i64 (x : Int) (h : -9223372036854775807 ≤ x ∧ x ≤ 9223372036854775807) : IntKind.i64.wrap (-x) = -x := by
  rw [w64]; exact Va.Fit.wrap (by unfold Va.Fit; omega)
abbrev Rt : Value → Wd → Prop := fun u _ => u = .bool true
theorem vn1 (n m k8 n8 e8 k15 n15 e15 k5 n5 e5 k6 n6 e6 k7 n7 e7 : Int) (t8 t15 t5 t6 t7 : ByteArray) (k : Nat) (M : List Nat) (W : Wd)
    (h : ((m == -9223372036854775808) = true ∨ ((m == -9223372036854775808) = false ∧ (-9223372036854775807 ≤ m ∧ m ≤ 9223372036854775807) ∧ (-9223372036854775807 ≤ n7 ∧ n7 ≤ 9223372036854775807) ∧ ((n7 < 0 ∧ m < 0 ∧ m < n7) ∨ (n7 < 0 ∧ 0 < m ∧ -m < n7) ∨ (0 ≤ n7 ∧ m < 0 ∧ m < -n7) ∨ (0 ≤ n7 ∧ 0 < m ∧ n7 < m))))) :
    t_valueNumbers_1.den Try.prog k Rt [] { I := [n, m, k8, n8, e8, k15, n15, e15, k5, n5, e5, k6, n6, e6, k7, n7, e7], B := [true], T := [t8, t15, t5, t6, t7], M := M } W := by
  simp only [Tree.den, Sy.dens, Sy.den, E.i, E.b, E.t, gd, Env.push, List.cons_append, List.nil_append, List.append_nil, ExE, ExL, ExV]
  intros
  show Value.bool _ = Value.bool true
  congr 1
  simp only [Bool.or_eq_true, Bool.and_eq_true, beq_iff_eq, ltB_true, leB_true] at h ⊢
  rcases h with h | ⟨_, h1, h2, h⟩
  · exact .inl (.inl h)
  · rw [neg_i64 _ h1, neg_i64 _ h2]; omega
theorem vn6 (n m k8 n8 e8 k15 n15 e15 k5 n5 e5 : Int) (t8 t15 t5 : ByteArray) (hn : Va.Fit n) (hm : Va.Fit m) (k : Nat) (M : List Nat) (W : Wd) :
    t_valueNumbers_6.den Try.prog k Rt [] { I := [n, m, k8, n8, e8, k15, n15, e15, k5, n5, e5], B := [true], T := [t8, t15, t5], M := M } W := by
  have FQ := Va.numFQ n m hn hm
  simp only [← w64] at FQ
  have q6 := fun W => qeq (two6_q 1 n 1 m ⟨#[]⟩ ⟨#[]⟩ hn hm W) (two_n 6 (by decide) n m)
  have q7 := fun W => qeq (two7_q 1 n 1 m ⟨#[]⟩ ⟨#[]⟩ hn hm W) (two_n 7 (by decide) n m)
  generalize Va.numbers 6 n m = r6 at *
  generalize Va.numbers 7 n m = r7 at *
  obtain ⟨⟨k6, n6, t6⟩, e6⟩ := r6
  obtain ⟨⟨k7, n7, t7⟩, e7⟩ := r7
  simp only [] at FQ
  refine den_call fun _ => .of_q (q6 _) fun W' x => ⟨k6, n6, e6, t6, rfl, ?_⟩
  simp only [Env.push, List.cons_append, List.nil_append, List.append_nil]
  refine den_new fun m1 W' x => den_wr fun W' x => den_call fun _ => .of_q (q7 _) fun W' x => ⟨k7, n7, e7, t7, rfl, ?_⟩
  simp only [Env.push, List.cons_append, List.nil_append, List.append_nil]
  refine den_new fun m2 W' x => den_wr fun W' x => den_br_f ?_ (den_br (fun c => ?_) fun c => den_br_f ?_ (vn1 _ _ _ _ _ _ _ _ _ _ _ _ _ _ _ _ _ _ _ _ _ _ _ _ _ ?_))
  · clear q6 q7
    simp only [E.b, E.i, gd, Env.push, List.cons_append, List.nil_append, List.append_nil]
    rcases FQ with ⟨rfl, rfl, f8⟩ | ⟨rfl, rfl, f8, f9⟩ | ⟨rfl, rfl, f8, f9, g1, g2, g3⟩
    · subst f8; simp
    · subst f8 f9; simp
    · simp [f8]; simp at f9; exact fun a b => f9 b a
  · exact fun _ _ _ _ _ => rfl
  · clear q6 q7
    simp only [E.b, E.i, gd, Env.push, List.cons_append, List.nil_append, List.append_nil] at c ⊢
    rcases FQ with ⟨rfl, rfl, f8⟩ | ⟨rfl, rfl, f8, f9⟩ | ⟨rfl, rfl, f8, f9, g1, g2, g3⟩
    · simp at c
    · simp at c
    · simp only [ltB] at *
      rw [show (!(IntKind.i64.wrap (IntKind.i64.wrap (n6 * m) + n7) == n)) = false from g1]
      cases h : n7 == 0
      · have := g2 (by simp [bne, h])
        simp [bne] at this ⊢
        simpa using this
      · simp
  · clear q6 q7
    simp only [E.b, E.i, gd, Env.push, List.cons_append, List.nil_append, List.append_nil] at c ⊢
    rcases FQ with ⟨rfl, rfl, f8⟩ | ⟨rfl, rfl, f8, f9⟩ | ⟨rfl, rfl, f8, f9, g1, g2, g3⟩
    · simp at c
    · simp at c
    · exact g3
theorem vn10 (n m k8 n8 e8 k15 n15 e15 k5 n5 e5 : Int) (t8 t15 t5 : ByteArray) (hn : Va.Fit n) (hm : Va.Fit m) (k : Nat) (M : List Nat) (W : Wd)
    (F3 : (e5 = 0 ∧ k5 = 1 ∧ n5 = IntKind.i64.wrap (n * m) ∧ t5 = ⟨#[]⟩ ∧ ((m != 0) = true → (m != -1) = true → m ≠ 0 ∧ IntKind.i64.wrap ((IntKind.i64.wrap (n * m)).tdiv m) = n ∧ IntKind.i64.wrap ((IntKind.i64.wrap (n * m)).tdiv m) = n ∧ (IntKind.i64.wrap (n * m)).tmod m = 0)) ∨ (e5 = 20 ∧ n ≠ 0 ∧ m ≠ 0 ∧ n ≠ 1 ∧ m ≠ 1 ∧ (n ≤ -2147483648 ∨ 2147483648 ≤ n ∨ m ≤ -2147483648 ∨ 2147483648 ≤ m))) :
    (Tree.br (.bin .ieq (.iv 10) (.il 0)) t_valueNumbers_7 t_valueNumbers_9).den Try.prog k Rt [] { I := [n, m, k8, n8, e8, k15, n15, e15, k5, n5, e5], B := [true], T := [t8, t15, t5], M := M } W := by
  rcases F3 with ⟨rfl, rfl, rfl, rfl, f3⟩ | ⟨rfl, f3, f4, f5, f6, f7⟩
  · refine den_br_t rfl (den_chk ?_ (den_chk ?_ (den_grow fun W' x => den_br_f ?_ (vn6 _ _ _ _ _ _ _ _ _ _ _ _ _ _ hn hm _ _ _))))
    all_goals
      simp only [E.b, E.i, E.t, gd, bne, Bool.not_eq_true'] at f3 ⊢
      cases h : (m == 0)
      · cases h' : (m == -1)
        · obtain ⟨a, b, _, d⟩ := f3 h h'
          simp [b, d]
        · simp
      · simp
  · refine den_br_f rfl (den_grow fun W' x => den_br_f ?_ (den_br_f ?_ (vn6 _ _ _ _ _ _ _ _ _ _ _ _ _ _ hn hm _ _ _)))
    · simp [E.b, E.i, gd, f3, f4, f5, f6]
    · simp only [E.b, E.i, gd, Bool.and_eq_false_iff, ltB_false]
      omega
theorem vn12 (n m k8 n8 e8 k15 n15 e15 k5 n5 e5 : Int) (t8 t15 t5 : ByteArray) (hn : Va.Fit n) (hm : Va.Fit m) (k : Nat) (M : List Nat) (W : Wd)
    (F2 : (e15 = 0 ∧ k15 = 1 ∧ n15 = IntKind.i64.wrap (n - m) ∧ t15 = ⟨#[]⟩ ∧ ((ltB n 0 == ltB m 0) || (ltB (IntKind.i64.wrap (n - m)) 0 == ltB n 0)) = true) ∨ (e15 = 20 ∧ ((ltB n 0 == ltB m 0) || (ltB (IntKind.i64.wrap (n - m)) 0 == ltB n 0)) = false))
    (F3 : (e5 = 0 ∧ k5 = 1 ∧ n5 = IntKind.i64.wrap (n * m) ∧ t5 = ⟨#[]⟩ ∧ ((m != 0) = true → (m != -1) = true → m ≠ 0 ∧ IntKind.i64.wrap ((IntKind.i64.wrap (n * m)).tdiv m) = n ∧ IntKind.i64.wrap ((IntKind.i64.wrap (n * m)).tdiv m) = n ∧ (IntKind.i64.wrap (n * m)).tmod m = 0)) ∨ (e5 = 20 ∧ n ≠ 0 ∧ m ≠ 0 ∧ n ≠ 1 ∧ m ≠ 1 ∧ (n ≤ -2147483648 ∨ 2147483648 ≤ n ∨ m ≤ -2147483648 ∨ 2147483648 ≤ m))) :
    t_valueNumbers_12.den Try.prog k Rt [] { I := [n, m, k8, n8, e8, k15, n15, e15, k5, n5, e5], B := [true], T := [t8, t15, t5], M := M } W := by
  rcases F2 with ⟨rfl, rfl, rfl, rfl, c⟩ | ⟨rfl, c⟩
  · refine den_br_t ?_ (den_grow fun W' x => den_br_f ?_ (vn10 _ _ _ _ _ _ _ _ _ _ _ _ _ _ hn hm _ _ _ F3))
    · simp only [E.b, E.i, gd]; rw [c]; rfl
    · simp [E.b, E.i, E.t, gd]
  · refine den_br_f ?_ (den_grow fun W' x => den_br_f ?_ (vn10 _ _ _ _ _ _ _ _ _ _ _ _ _ _ hn hm _ _ _ F3))
    · simp only [E.b, E.i, gd]; rw [c]; rfl
    · simp only [E.b, E.i, gd]; rw [c]; rfl
theorem valueNumbers_q (n m : Int) (hn : Va.Fit n) (hm : Va.Fit m) (W : Wd) : CallsQ Try.prog 4 #[.int .i64 n, .int .i64 m] W (.bool true) :=
  .of_i (by
    have F1 := Va.numF1 n m hn hm _ rfl
    have F2 := Va.numF2 n m hn hm _ rfl
    have F3 := Va.numF3 n m hn hm _ rfl
    simp only [← w64] at F1 F2 F3
    have q8 := fun W => qeq (two8_q 1 n 1 m ⟨#[]⟩ ⟨#[]⟩ hn hm W) (two_n 8 (by decide) n m)
    have q15 := fun W => qeq (two15_q 1 n 1 m ⟨#[]⟩ ⟨#[]⟩ hn hm W) (two_n 15 (by decide) n m)
    have q5 := fun W => qeq (two5_q 1 n 1 m ⟨#[]⟩ ⟨#[]⟩ hn hm W) (two_n 5 (by decide) n m)
    generalize Va.numbers 8 n m = r8 at *
    generalize Va.numbers 15 n m = r15 at *
    generalize Va.numbers 5 n m = r5 at *
    obtain ⟨⟨k8, n8, t8⟩, e8⟩ := r8
    obtain ⟨⟨k15, n15, t15⟩, e15⟩ := r15
    obtain ⟨⟨k5, n5, t5⟩, e5⟩ := r5
    simp only [] at F1 F2 F3
    change (_ ∧ _ ∧ _ ∧ _ ∧ (!(ltB n 0 == ltB m 0) || (ltB (IntKind.i64.wrap (n + m)) 0 == ltB n 0)) = true) ∨ (_ ∧ (!(ltB n 0 == ltB m 0) || (ltB (IntKind.i64.wrap (n + m)) 0 == ltB n 0)) = false) at F1
    refine vc_valueNumbers n m W _ ?_
    refine den_call fun _ => .of_q (works_q _) fun W' x => ⟨true, rfl, den_br_f rfl ?_⟩
    simp only [Env.push, List.cons_append, List.nil_append, List.append_nil]
    refine den_grow fun W' x => den_grow fun W' x => den_new fun m1 W' x => den_new fun m2 W' x => den_wr fun W' x => den_wr fun W' x => den_call fun _ => .of_q (q8 _) fun W' x => ⟨k8, n8, e8, t8, rfl, ?_⟩
    simp only [Env.push, List.cons_append, List.nil_append, List.append_nil]
    refine den_new fun m3 W' x => den_wr fun W' x => den_call fun _ => .of_q (q15 _) fun W' x => ⟨k15, n15, e15, t15, rfl, ?_⟩
    simp only [Env.push, List.cons_append, List.nil_append, List.append_nil]
    refine den_new fun m4 W' x => den_wr fun W' x => den_call fun _ => .of_q (q5 _) fun W' x => ⟨k5, n5, e5, t5, rfl, ?_⟩
    simp only [Env.push, List.cons_append, List.nil_append, List.append_nil]
    refine den_new fun m5 W' x => den_wr fun W' x => ?_
    simp only [Env.push, List.cons_append, List.nil_append, List.append_nil]
    rcases F1 with ⟨rfl, rfl, rfl, rfl, c⟩ | ⟨rfl, c⟩
    · refine den_br_t ?_ (den_grow fun W' x => den_br_f ?_ (vn12 _ _ _ _ _ _ _ _ _ _ _ _ _ _ hn hm _ _ _ F2 F3))
      · simp only [E.b, E.i, gd]; rw [c]; rfl
      · simp [E.b, E.i, E.t, gd]
    · refine den_br_f ?_ (den_grow fun W' x => den_br_f ?_ (vn12 _ _ _ _ _ _ _ _ _ _ _ _ _ _ hn hm _ _ _ F2 F3))
      · simp only [E.b, E.i, gd]; rw [c]; rfl
      · simp only [E.b, E.i, gd]; rw [c]; rfl)
end Go.Proofs.Ytpekccomahikbaa
