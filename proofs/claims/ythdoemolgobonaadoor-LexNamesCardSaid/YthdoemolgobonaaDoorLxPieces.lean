/- Two texts with a space between. -/
import Derived.Test.YthdoemolgobonaaDoorLxAll
import Derived.Test.YthdoemolgobonaaDoorLxPiecesP
import Derived.Test.YthdoemolgobonaaDoorVcPieces
namespace Go.Proofs.YthdoemolgobonaaDoor
open Go Go.RowKit Go.SF
set_option linter.unusedSimpArgs false
set_option linter.unusedVariables false

theorem toksC_one (ts : List Lx.Tok) : ∀ u ∈ toksC ts, u.oneCell' = true := by
  intro u hu
  obtain ⟨t, _, ht⟩ := List.mem_flatMap.1 hu
  simp only [tokC, List.mem_cons, List.not_mem_nil, or_false] at ht
  rcases ht with rfl | rfl <;> rfl
set_option maxRecDepth 100000 in
theorem lexPieces_q (s t : ByteArray) (hs : s.size ≤ 140737488351232) (ht : t.size ≤ 140737488351232) (W : Wd) (hG : Glob W) :
    CallsQ Tryd.prog 4 #[.string s, .string t] W (.bool true) := by
  refine vc_lexPieces s t W.all _ ?_
  have hG := hG.ext W.all_ext
  have h1 := awake_q W.all hG
  have e32 : (⟨[32].toArray⟩ : ByteArray).size = 1 := rfl
  refine den_br (fun c1 => ?_) fun c1 => ?_
  · refine den_call_q (fun _ _ => h1) ⟨true, rfl, fun W1 x1 => den_br_f rfl ?_⟩
    simp only [Env.push, List.cons_append, List.nil_append, List.append_nil]
    have c1 : (!ltB 1000 (IntKind.i64.wrap ((s.size : Int) + (t.size : Int)))) = true := c1
    rw [w64i (by omega) (by omega)] at c1
    simp only [Bool.not_eq_true', ltB_false] at c1
    have hG1 := hG.ext x1
    refine den_call_i (fun _ _ => lex_i s W1 hG1) fun v w2 _ ⟨a2, c2, hv2, ht2⟩ => ⟨(Lx.lex s.data.toList).2, (Lx.lex s.data.toList).1.length, c2, a2, hv2, fun W2 e2 x2 n2 => ?_⟩
    have T2 := ht2.stay e2 n2
    have hG2 := hG1.ext x2
    simp only [Env.push, List.cons_append, List.nil_append, List.append_nil]
    refine den_call_i (fun _ _ => lex_i t W2 hG2) fun v w3 _ ⟨a3, c3, hv3, ht3⟩ => ⟨(Lx.lex t.data.toList).2, (Lx.lex t.data.toList).1.length, c3, a3, hv3, fun W3 e3 x3 n3 => ?_⟩
    have T3 := ht3.stay e3 n3
    have T2 := T2.ext x3
    have hG3 := hG2.ext x3
    simp only [Env.push, List.cons_append, List.nil_append, List.append_nil]
    have hcat : (s ++ ⟨[32].toArray⟩ ++ t).data.toList = s.data.toList ++ 32 :: t.data.toList := by simp [ByteArray.toList_data_append]
    have hu := lex_i (s ++ ⟨[32].toArray⟩ ++ t) W3 hG3
    rw [hcat] at hu
    refine den_chk ?_ (den_chk ?_ (den_call_i (fun _ _ => hu) fun v w4 _ ⟨a4, c4, hv4, ht4⟩ => ⟨(Lx.lex (s.data.toList ++ 32 :: t.data.toList)).2, (Lx.lex (s.data.toList ++ 32 :: t.data.toList)).1.length, c4, a4, hv4, fun W4 e4 x4 n4 => ?_⟩))
    · simp only [Sy.dens, Sy.den, E.i, E.b, E.t, gd, Env.push, List.cons_append, List.nil_append, List.append_nil, Int.toNat_natCast]; exact leB_t (by omega)
    · simp only [Sy.dens, Sy.den, E.i, E.b, E.t, gd, Env.push, List.cons_append, List.nil_append, List.append_nil, Int.toNat_natCast, ByteArray.size_append]; exact leB_t (by omega)
    have T4 := ht4.stay e4 n4
    have T2 := T2.ext x4
    have T3 := T3.ext x4
    simp only [Env.push, List.cons_append, List.nil_append, List.append_nil]
    have hss := size_len s
    have hw1 : IntKind.i64.wrap ((s.size : Int) + (t.size : Int)) = (s.size : Int) + (t.size : Int) := w64i (by omega) (by omega)
    have hst := size_len t
    have hlen : (s.data.toList ++ 32 :: t.data.toList).length = s.size + t.size + 1 := by rw [List.length_append, List.length_cons]; omega
    refine den_br (fun c5 => den_ret fun _ _ _ => ⟨_, rfl, ?_⟩) fun c5 => ?_
    · have c5 : ltB 100 (IntKind.i64.wrap (IntKind.i64.wrap ((s.size : Int) + (t.size : Int)) + 1)) = true := c5
      rw [hw1, w64i (by omega) (by omega), ltB_true] at c5
      have := Lx.lex_long (u := s.data.toList ++ 32 :: t.data.toList) (by omega)
      simp only [Sy.dens, Sy.den, E.i, E.b, E.t, gd, Env.push, List.cons_append, List.nil_append, List.append_nil, Int.toNat_natCast, this]; rfl
    · have c5 : ltB 100 (IntKind.i64.wrap (IntKind.i64.wrap ((s.size : Int) + (t.size : Int)) + 1)) = false := c5
      rw [hw1, w64i (by omega) (by omega), ltB_false] at c5
      generalize hls : Lx.lex s.data.toList = r1 at T2 ⊢
      obtain ⟨a, e⟩ := r1
      generalize hlt : Lx.lex t.data.toList = r2 at T3 ⊢
      obtain ⟨b, f⟩ := r2
      simp only at T2 T3 ⊢
      refine den_br (fun c6 => den_ret fun _ _ _ => ⟨_, rfl, rfl⟩) fun c6 => ?_
      simp only [Sy.dens, Sy.den, E.i, E.b, E.t, gd, Env.push, List.cons_append, List.nil_append, List.append_nil, Int.toNat_natCast, Bool.not_eq_false', beq_iff_eq] at c6
      subst c6
      have hp := Lx.lex_pieces hls (t := t.data.toList) (by omega)
      rw [hlt] at hp
      refine den_br (fun c7 => den_ret fun _ _ _ => ⟨_, rfl, ?_⟩) fun c7 => ?_
      · simp only [Sy.dens, Sy.den, E.i, E.b, E.t, gd, Env.push, List.cons_append, List.nil_append, List.append_nil, Int.toNat_natCast, Bool.not_eq_true', beq_eq_false_iff_ne] at c7
        rw [if_neg c7] at hp
        simp only [Sy.dens, Sy.den, E.i, E.b, E.t, gd, Env.push, List.cons_append, List.nil_append, List.append_nil, Int.toNat_natCast, hp, beq_self_eq_true]
      · simp only [Sy.dens, Sy.den, E.i, E.b, E.t, gd, Env.push, List.cons_append, List.nil_append, List.append_nil, Int.toNat_natCast, Bool.not_eq_false', beq_iff_eq] at c7
        subst c7
        rw [if_pos rfl] at hp
        rw [hp] at T4 ⊢
        simp only at T4 ⊢
        refine den_br_t rfl ?_
        obtain ⟨_, hl1⟩ := Lx.lex_ok hls |>.resolve_left fun h => h.1 rfl
        obtain ⟨_, hl2⟩ := Lx.lex_ok hlt |>.resolve_left fun h => h.1 rfl
        have hn1 := Lx.count_le hl1.2.2.2
        have hn2 := Lx.count_le hl2.2.2.2
        have hab : (a ++ b).length = a.length + b.length := List.length_append
        have z1 := x1.size
        have z2 := x2.size
        have z3 := x3.size
        have z4 := x4.size
        refine den_callr_i (fun _ _ => told_r W4 a4 c4 (a ++ b) T4.w (by omega)) fun v w5 _ ⟨a5, c5', hv5, ho5⟩ => ⟨(a ++ b).length, c5', a5, toksC (a ++ b), hv5, rowsNew_one (by omega) ?_ ?_, fun W5 e5 x5 n5 => ?_⟩
        · simp only [conts, List.flatMap_cons, List.flatMap_nil, Seg.den, Sy.dens, Sy.den, E.i, E.b, E.t, gd, Env.push, List.cons_append, List.nil_append, List.append_nil, Int.toNat_natCast]; exact ho5
        · simp only [conts, List.flatMap_cons, List.flatMap_nil, Seg.den, Sy.dens, Sy.den, E.i, E.b, E.t, gd, Env.push, List.cons_append, List.nil_append, List.append_nil, Int.toNat_natCast]; exact toksC_one _
        simp only [Env.push, List.cons_append, List.nil_append, List.append_nil]
        have z5 := x5.size
        refine den_callr_i (fun _ _ => told_r W5 a2 c2 a (T2.ext x5).w (by omega)) fun v w6 _ ⟨a6, c6', hv6, ho6⟩ => ⟨a.length, c6', a6, toksC a, hv6, rowsNew_one (by omega) ?_ ?_, fun W6 e6 x6 n6 => ?_⟩
        · simp only [conts, List.flatMap_cons, List.flatMap_nil, Seg.den, Sy.dens, Sy.den, E.i, E.b, E.t, gd, Env.push, List.cons_append, List.nil_append, List.append_nil, Int.toNat_natCast]; exact ho6
        · simp only [conts, List.flatMap_cons, List.flatMap_nil, Seg.den, Sy.dens, Sy.den, E.i, E.b, E.t, gd, Env.push, List.cons_append, List.nil_append, List.append_nil, Int.toNat_natCast]; exact toksC_one _
        simp only [Env.push, List.cons_append, List.nil_append, List.append_nil]
        have z6 := x6.size
        refine den_callr_i (fun _ _ => told_r W6 a3 c3 b ((T3.ext x5).ext x6).w (by omega)) fun v w7 _ ⟨a7, c7', hv7, ho7⟩ => ⟨b.length, c7', a7, toksC b, hv7, rowsNew_one (by omega) ?_ ?_, fun W7 e7 x7 n7 => ?_⟩
        · simp only [conts, List.flatMap_cons, List.flatMap_nil, Seg.den, Sy.dens, Sy.den, E.i, E.b, E.t, gd, Env.push, List.cons_append, List.nil_append, List.append_nil, Int.toNat_natCast]; exact ho7
        · simp only [conts, List.flatMap_cons, List.flatMap_nil, Seg.den, Sy.dens, Sy.den, E.i, E.b, E.t, gd, Env.push, List.cons_append, List.nil_append, List.append_nil, Int.toNat_natCast]; exact toksC_one _
        simp only [Env.push, List.cons_append, List.nil_append, List.append_nil]
        refine den_chk ?_ (den_app fun a8 c8 W8 ha8 x8 => den_call_q (v := .bool true) (fun _ hr => ?_) ⟨true, rfl, fun W9 x9 => den_ret fun _ _ _ => ⟨_, rfl, rfl⟩⟩)
        · simp only [Sy.dens, Sy.den, E.i, E.b, E.t, gd, Env.push, List.cons_append, List.nil_append, List.append_nil, Int.toNat_natCast]; exact leB_t (by omega)
        · have r1 := (hr _ (List.mem_cons_self ..)).1
          have r2 := (hr _ (List.mem_cons_of_mem _ (List.mem_cons_of_mem _ (List.mem_cons_self ..)))).1
          simp only [conts, List.flatMap_cons, List.flatMap_nil, Seg.den, Sy.dens, Sy.den, E.i, E.b, E.t, gd, Env.push, List.cons_append, List.nil_append, List.append_nil, Int.toNat_natCast] at r1 r2
          have s1 := (owns_sl r1).w
          have s2 := (owns_sl r2).w
          rw [← toksC_app] at s1
          have e9 : ((a.length : Int) + (b.length : Int)).toNat = (a ++ b).length := by rw [hab]; omega
          rw [e9] at s1
          have := same_q W8 a5 a8 c5' c8 (a ++ b) (a ++ b) s2 s1 (by omega)
          rw [decide_eq_true rfl] at this
          simp only [Sy.dens, Sy.den, E.i, E.b, E.t, gd, Env.push, List.cons_append, List.nil_append, List.append_nil, Int.toNat_natCast, e9]
          exact this
  · exact den_call_q (fun _ _ => h1) ⟨true, rfl, fun W2 x2 => den_ret fun _ _ _ => ⟨_, rfl, rfl⟩⟩
end Go.Proofs.YthdoemolgobonaaDoor
