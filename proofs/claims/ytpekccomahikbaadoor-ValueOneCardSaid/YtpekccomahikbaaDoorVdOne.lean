/- The law ValueOne, off the walk that the kernel computes. -/
import Derived.Test.YtpekccomahikbaaDoorVdDig
namespace Go.Proofs.YtpekccomahikbaaDoor
open Go Go.RowKit Go.SE
set_option linter.unusedSimpArgs false
set_option linter.unusedVariables false
theorem beq_self (x : Int) : (x == x) = true := by simp
theorem valueOne_q (k n : Int) (t : ByteArray) (kind : Int) (hn : Va.Fit n) (ht : t.size ≤ 9223372036854775807) (W : Wd) (hT : Tabs W) : CallsQ Tryd.prog 3 #[.agg #[.int .u8 k, .int .i64 n, .string t], .int .u8 kind] W (.bool true) :=
  .of_i (by
    refine vc_valueOne k n kind t W _ ?_
    have h1 := one_q kind k n t hn
    have h2 := rone_q kind k n t hn
    generalize Va.one kind ⟨k, n, t⟩ = r at *
    obtain ⟨⟨k1, n1, t1⟩, e1⟩ := r
    refine den_new fun m W1 x1 => den_br (fun c => den_ret fun _ _ _ _ _ => rfl) fun c => ?_
    simp only [Sy.dens, Sy.den, E.i, E.b, E.t, gd, Env.push, List.cons_append, List.nil_append, List.append_nil, Int.toNat_natCast, ltB_false] at c
    have hs : t.size ≤ 2000 := by omega
    refine den_call fun _ => .of_q (h1 _) fun W2 x2 => ⟨k1, n1, e1, t1, rfl, ?_⟩
    simp only [Env.push, List.cons_append, List.nil_append, List.append_nil]
    refine den_new fun m W3 x3 => den_wr fun W4 x4 => den_call fun _ => .of_q (h2 _) fun W5 x5 => ⟨k1, n1, e1, t1, rfl, ?_⟩
    simp only [Env.push, List.cons_append, List.nil_append, List.append_nil]
    have x05 : Ext W W5 := (((x1.trans x2).trans x3).trans x4).trans x5
    refine den_new fun m W6 x6 => den_wr fun W7 x7 => den_callq ⟨Va.may ⟨k, n, t⟩, fun W' x _ => may_q k n t ht W', ?_⟩
    refine den_callq ⟨Va.may ⟨k, n, t⟩, fun W' x _ => rmay_q k n t ht W', ?_⟩
    simp only [Env.push, List.cons_append, List.nil_append, List.append_nil]
    refine den_br_t (by simp [E.b, gd]) ?_
    refine den_callq ⟨_, fun W' x _ => vis_q k n t kind ht W', ?_⟩
    refine den_callq ⟨_, fun W' x _ => ris_q k n t kind ht W', ?_⟩
    simp only [Env.push, List.cons_append, List.nil_append, List.append_nil]
    refine den_br_t (by simp [E.b, gd]) (den_br_t (by simp [E.b]) ?_)
    have x07 : Ext W W7 := (x05.trans x6).trans x7
    refine den_callq ⟨Va.shown ⟨k, n, t⟩, fun W' x _ => show_q k n t hn hs W' (hT.ext (x07.trans x)), ?_⟩
    refine den_callq ⟨Va.shown ⟨k, n, t⟩, fun W' x _ => rshow_q k n t hn hs W', ?_⟩
    simp only [Env.push, List.cons_append, List.nil_append, List.append_nil]
    refine den_br_t (by simp [E.b, E.i, E.t, gd]) (den_br_t (by simp [E.b, E.i, E.t, gd]) (den_br (fun _ => ?_) fun _ => ?_))
    all_goals exact den_grow fun _ _ => den_ret fun _ _ _ _ _ => rfl)
end Go.Proofs.YtpekccomahikbaaDoor
