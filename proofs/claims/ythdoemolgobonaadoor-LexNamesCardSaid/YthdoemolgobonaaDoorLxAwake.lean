/- The examples. -/
import Derived.Test.YthdoemolgobonaaDoorLxLaw
namespace Go.Proofs.YthdoemolgobonaaDoor
open Go Go.RowKit Go.SF
set_option linter.unusedSimpArgs false
set_option linter.unusedVariables false

/-! ### the examples -/
theorem lexC (l : List UInt8) (ts : List Lx.Tok) (e : Int) (h : Lx.lex l = (ts, e)) (W : Wd) (hG : Glob W) : CallsI Tryd.prog 10 #[.string ⟨l.toArray⟩] W.all fun v w' => ∃ a c, v = .tuple #[.slice a ts.length c, .int .i64 e] ∧ ToksN W.w.heap.size w' a c ts := by
  have := lex_i ⟨l.toArray⟩ W hG
  rw [show (⟨l.toArray⟩ : ByteArray).data.toList = l by simp, h] at this
  exact this
theorem ex1 : Lx.lex [97, 60, 61, 49, 50, 32, 38, 32, 39, 120, 32, 121, 39] = ([⟨2, [97]⟩, ⟨4, [60, 61]⟩, ⟨1, [49, 50]⟩, ⟨4, [38]⟩, ⟨3, [120, 32, 121]⟩], 0) := by decide +kernel
theorem ex2 : Lx.lex [48, 49] = ([], 4) := by decide +kernel
theorem ex3 : Lx.lex [97, 61, 98] = ([], 4) := by decide +kernel
theorem ex4 : Lx.lex [49, 97] = ([⟨1, [49]⟩, ⟨2, [97]⟩], 0) := by decide +kernel
set_option maxRecDepth 100000 in
theorem awake_q (W : Wd) (hG : Glob W) : CallsQ Tryd.prog 9 #[] W (.bool true) := by
  refine vc_awake W.all _ ?_
  have hG := hG.ext W.all_ext
  refine den_call_i (fun _ _ => lexC _ _ _ ex1 _ hG) fun v w1 _ ⟨a1, c1, hv1, ht1⟩ => ⟨0, 5, c1, a1, hv1, fun W1 e1 x1 n1 => ?_⟩
  have hG1 := hG.ext x1
  have T1 := ht1.stay e1 n1
  simp only [Env.push, List.cons_append, List.nil_append, List.append_nil]
  refine den_call_i (fun _ _ => lexC _ _ _ ex2 _ hG1) fun v w2 _ ⟨a2, c2, hv2, ht2⟩ => ⟨4, 0, c2, a2, hv2, fun W2 e2 x2 n2 => ?_⟩
  have hG2 := hG1.ext x2
  simp only [Env.push, List.cons_append, List.nil_append, List.append_nil]
  refine den_call_i (fun _ _ => lexC _ _ _ ex3 _ hG2) fun v w3 _ ⟨a3, c3, hv3, ht3⟩ => ⟨4, 0, c3, a3, hv3, fun W3 e3 x3 n3 => ?_⟩
  have hG3 := hG2.ext x3
  simp only [Env.push, List.cons_append, List.nil_append, List.append_nil]
  refine den_call_i (fun _ _ => lexC _ _ _ ex4 _ hG3) fun v w4 _ ⟨a4, c4, hv4, ht4⟩ => ⟨0, 2, c4, a4, hv4, fun W4 e4 x4 n4 => ?_⟩
  have T4 := ht4.stay e4 n4
  simp only [Env.push, List.cons_append, List.nil_append, List.append_nil]
  refine den_br_t rfl ?_
  have T1' := ((T1.ext x2).ext x3).ext x4
  have h5 := told_i W4 a1 c1 _ T1'.w (by simp)
  refine den_call_i (fun _ _ => h5) fun v w5 _ ⟨a5, c5, hv5, ht5⟩ => ⟨5, c5, a5, hv5, fun W5 e5 x5 n5 => ?_⟩
  have T5 := ht5.stay e5 n5
  simp only [Env.push, List.cons_append, List.nil_append, List.append_nil]
  refine den_new fun m W6 _ x6 => den_call_q (v := .bool true) (fun hb _ => ?_) ⟨true, rfl, fun W7 x7 => ?_⟩
  · have hbk := hb _ (List.mem_singleton.2 rfl)
    have := same_q W6 a5 (some ⟨m, 0, none⟩) c5 5 _ [⟨2, [97]⟩, ⟨4, [60, 61]⟩, ⟨1, [49, 50]⟩, ⟨4, [38]⟩, ⟨3, [120, 32, 121]⟩] (T5.ext x6).w (blk_sl hbk rfl) (by simp)
    exact this
  simp only [Env.push, List.cons_append, List.nil_append, List.append_nil]
  refine den_br_t rfl ?_
  have T4' := ((T4.ext x5).ext x6).ext x7
  have h8 := told_i W7 a4 c4 _ T4'.w (by simp)
  refine den_call_i (fun _ _ => h8) fun v w8 _ ⟨a8, c8, hv8, ht8⟩ => ⟨2, c8, a8, hv8, fun W8 e8 x8 n8 => ?_⟩
  have T8 := ht8.stay e8 n8
  simp only [Env.push, List.cons_append, List.nil_append, List.append_nil]
  refine den_new fun m2 W9 _ x9 => den_call_q (v := .bool true) (fun hb _ => ?_) ⟨true, rfl, fun W10 x10 => ?_⟩
  · have hbk := hb _ (List.mem_singleton.2 rfl)
    have := same_q W9 a8 (some ⟨m2, 0, none⟩) c8 2 _ [⟨1, [49]⟩, ⟨2, [97]⟩] (T8.ext x9).w (blk_sl hbk rfl) (by simp)
    exact this
  simp only [Env.push, List.cons_append, List.nil_append, List.append_nil]
  exact den_ret fun _ _ _ => ⟨_, rfl, rfl⟩
end Go.Proofs.YthdoemolgobonaaDoor
