/- The examples of layer 9, off the walk that the kernel computes. -/
import Derived.Test.YtpekccomahikbaaDoorVaSe
import Derived.Test.YtpekccomahikbaaDoorVcWorks
namespace Go.Proofs.YtpekccomahikbaaDoor
open Go Go.RowKit Go.SE
set_option linter.unusedSimpArgs false
set_option linter.unusedVariables false

theorem no_is (op ak an bk bn : Int) (at_ bt : ByteArray) (want : Int)
    (h : ∀ W, CallsQ Tryd.prog 25 #[.int .u8 op, .agg #[.int .u8 ak, .int .i64 an, .string at_], .agg #[.int .u8 bk, .int .i64 bn, .string bt]] W (vT (Va.none, want))) (W : Wd) :
    CallsQ Tryd.prog 23 #[.int .u8 op, .agg #[.int .u8 ak, .int .i64 an, .string at_], .agg #[.int .u8 bk, .int .i64 bn, .string bt], .int .i64 want] W (.bool true) :=
  .of_i (by
    refine vc_no op ak an bk bn want at_ bt W _ ?_
    unfold t_no
    simp only [Tree.den, Sy.dens, Sy.den, E.i, E.b, E.t, gd, Env.push, List.cons_append, List.nil_append, List.append_nil, ExE, ExL, ExV]
    intros
    refine .of_q (h _) fun W' x => ⟨_, _, _, _, rfl, ?_⟩
    simp [Va.none])
theorem is_is (op ak an bk bn : Int) (at_ bt : ByteArray) (v : Va.V)
    (h : ∀ W, CallsQ Tryd.prog 25 #[.int .u8 op, .agg #[.int .u8 ak, .int .i64 an, .string at_], .agg #[.int .u8 bk, .int .i64 bn, .string bt]] W (vT (v, 0))) (W : Wd) :
    CallsQ Tryd.prog 24 #[.int .u8 op, .agg #[.int .u8 ak, .int .i64 an, .string at_], .agg #[.int .u8 bk, .int .i64 bn, .string bt], .agg #[.int .u8 v.k, .int .i64 v.n, .string v.t]] W (.bool true) :=
  .of_i (by
    refine vc_is op ak an bk bn v.k v.n at_ bt v.t W _ ?_
    unfold t_is
    simp only [Tree.den, Sy.dens, Sy.den, E.i, E.b, E.t, gd, Env.push, List.cons_append, List.nil_append, List.append_nil, ExE, ExL, ExV]
    intros
    refine .of_q (h _) fun W' x => ⟨_, _, _, _, rfl, ?_⟩
    simp)
theorem qeq {f : FuncId} {args : Array Value} {W : Wd} {u v : Value} (h : CallsQ Tryd.prog f args W u) (e : u = v) : CallsQ Tryd.prog f args W v := e ▸ h
theorem fitL (n : Int) (h : Va.inR n = true) : Va.Fit n := Va.Fit.iff.2 h
theorem works_q (W : Wd) : CallsQ Tryd.prog 20 #[] W (.bool true) :=
  .of_i (by
    refine vc_works W _ ?_
    unfold t_works
    simp only [Tree.den, Sy.dens, Sy.den, E.i, E.b, E.t, gd, Env.push, List.cons_append, List.nil_append, List.append_nil, ExE, ExL, ExV]
    intros
    refine .of_q (no_is 8 1 9223372036854775807 1 1 ⟨#[]⟩ ⟨#[]⟩ 20 (fun W => qeq (two8_q 1 9223372036854775807 1 1 ⟨#[]⟩ ⟨#[]⟩ (fitL _ rfl) (fitL _ rfl) W) (by kernel_rfl)) _) fun W' x => ⟨_, rfl, ?_⟩
    refine ⟨fun _ => ?_, fun h => absurd h (by decide)⟩
    intros
    refine .of_q (is_is 6 1 (-7) 1 2 ⟨#[]⟩ ⟨#[]⟩ (Va.num (-3)) (fun W => qeq (two6_q 1 (-7) 1 2 ⟨#[]⟩ ⟨#[]⟩ (fitL _ rfl) (fitL _ rfl) W) (by kernel_rfl)) _) fun W' x => ⟨_, rfl, ?_⟩
    refine ⟨fun _ => ?_, fun h => absurd h (by decide)⟩
    intros
    refine .of_q (is_is 7 1 (-7) 1 2 ⟨#[]⟩ ⟨#[]⟩ (Va.num (-1)) (fun W => qeq (two7_q 1 (-7) 1 2 ⟨#[]⟩ ⟨#[]⟩ (fitL _ rfl) (fitL _ rfl) W) (by kernel_rfl)) _) fun W' x => ⟨_, rfl, ?_⟩
    refine ⟨fun _ => ?_, fun h => absurd h (by decide)⟩
    intros
    refine .of_q (no_is 6 1 (-9223372036854775808) 1 (-1) ⟨#[]⟩ ⟨#[]⟩ 20 (fun W => qeq (two6_q 1 (-9223372036854775808) 1 (-1) ⟨#[]⟩ ⟨#[]⟩ (fitL _ rfl) (fitL _ rfl) W) (by kernel_rfl)) _) fun W' x => ⟨_, rfl, ?_⟩
    refine ⟨fun _ => ?_, fun h => absurd h (by decide)⟩
    intros
    refine .of_q (no_is 6 1 1 1 0 ⟨#[]⟩ ⟨#[]⟩ 21 (fun W => qeq (two6_q 1 1 1 0 ⟨#[]⟩ ⟨#[]⟩ (fitL _ rfl) (fitL _ rfl) W) (by kernel_rfl)) _) fun W' x => ⟨_, rfl, ?_⟩
    refine ⟨fun _ => ?_, fun h => absurd h (by decide)⟩
    intros
    refine .of_q (is_is 8 3 0 3 0 ⟨#[97]⟩ ⟨#[98]⟩ (Va.text ⟨#[97, 98]⟩) (fun W => qeq (two8_q 3 0 3 0 ⟨#[97]⟩ ⟨#[98]⟩ (fitL _ rfl) (fitL _ rfl) W) (by kernel_rfl)) _) fun W' x => ⟨_, rfl, ?_⟩
    refine ⟨fun _ => ?_, fun h => absurd h (by decide)⟩
    intros
    refine .of_q (no_is 9 1 1 3 0 ⟨#[]⟩ ⟨#[97]⟩ 23 (fun W => qeq (two9_q 1 1 3 0 ⟨#[]⟩ ⟨#[97]⟩ (fitL _ rfl) (fitL _ rfl) W) (by kernel_rfl)) _) fun W' x => ⟨_, rfl, ?_⟩
    intros
    rfl)

end Go.Proofs.YtpekccomahikbaaDoor
