/- The document's Parse: the walk; ParseReads. -/
import Derived.Test.YtckgdgkkmhochaaDoorPxX3
import Derived.Test.YtckgdgkkmhochaaDoorPxSame
import Derived.Test.YtckgdgkkmhochaaDoorLxRlexT
namespace Go.Proofs.YtckgdgkkmhochaaDoor
open Go Go.RowKit Go.SF
set_option linter.unusedSimpArgs false
set_option linter.unusedVariables false
theorem xdeep_q (n : Nat) : ∀ (x : Px.Ex) (vs : List Value) (W : Wd), Px.deep x ≤ n → n ≤ 1000000 → Px.thin x = true → ExI W x vs → CallsQ Tryd.prog 12 #[.agg vs.toArray] W (.int .i64 (Px.deep x : Nat)) := by
  induction n with
  | zero => intro x vs W h; cases x; simp [Px.deep] at h
  | succ n ih =>
    intro x vs W hd hn hth hx
    obtain ⟨op, k, nn, t, nm, args⟩ := x
    have hx := hx.ext W.all_ext
    simp only [ExI, ExAt] at hx
    obtain ⟨a, c, ls, rfl, hS, hE⟩ := hx
    simp only [Px.deep] at hd
    simp only [Px.thin, Bool.and_eq_true, decide_eq_true_eq] at hth
    refine vc_xdeep op k nn args.length c ⟨t.toArray⟩ ⟨nm.toArray⟩ a W.all _ ?_
    refine den_new fun m W1 _ x1 => den_loop (fun j vs ls _ => ∃ i : Nat, vs = [.int .i64 (Px.deeps (args.take i) : Nat), .int .i64 (i : Nat)] ∧ ls = [] ∧ i ≤ args.length ∧ j = args.length - i) args.length ⟨0, by simp [Px.deeps, Sy.dens, Sy.den, E.i, E.b, E.t, gd, Env.push, List.cons_append, List.nil_append, List.append_nil, Int.toNat_natCast], rfl, Nat.zero_le _, rfl⟩ ?_
    rintro j vs ls' W2 x2 ⟨i, rfl, rfl, hi, rfl⟩
    have x2' := ext_trans x1 x2
    refine ⟨((Px.deeps (args.take i) : Nat) : Int), (i : Int), rfl, rfl, fun _ => ?_⟩
    have hle := Px.deeps_take args i
    refine den_br (fun c1 => ?_) fun c1 => ?_
    · simp only [Sy.dens, Sy.den, E.i, E.b, E.t, gd, Env.push, List.cons_append, List.nil_append, List.append_nil, Int.toNat_natCast, ltB_true] at c1
      have hil : i < args.length := by omega
      have hx : args[i]? = some args[i] := List.getElem?_eq_getElem hil
      obtain ⟨us, hu, hg⟩ := exs_get hE hx
      obtain ⟨op', k', nn', t', nm', al', len', cl', rfl⟩ := hu.shape
      have hs := Px.deep_mem (List.getElem_mem hil)
      refine den_chk ?_ (den_chk ?_ (den_look ⟨op', k', nn', len', cl', t', nm', al', fun W3 x3 => ?_, ?_⟩))
      · simp only [E.b, gd, Env.push]; exact SlI.some_of hS (by omega)
      · simp only [Sy.dens, Sy.den, E.i, E.b, E.t, gd, Env.push, List.cons_append, List.nil_append, List.append_nil, Int.toNat_natCast]; exact leB_t (by omega)
      · have := sl_look_at (W := W.all) hS ex_agg ex_size rfl (by decide) hg (ext_trans x2' x3)
        simp only [Sy.dens, Sy.den, E.i, E.b, E.t, gd, Env.push, List.cons_append, List.nil_append, List.append_nil, Int.toNat_natCast] at this ⊢
        exact this
      · simp only [Env.push, List.cons_append, List.nil_append, List.append_nil]
        have hu2 : ExI W.all args[i] _ := hu
        have hq : ∀ V, Ext W2 V → _ := fun V xV => ih args[i] _ V (by omega) (by omega) (Px.thin_mem hth.2 (List.getElem_mem hil)) (hu2.ext (ext_trans x2' xV))
        refine den_call_q (fun _ _ => hq W2 (Ext.refl _)) ⟨((Px.deep args[i] : Nat) : Int), rfl, fun W5 x5 => ?_⟩
        simp only [Env.push, List.cons_append, List.nil_append, List.append_nil]
        refine den_again ⟨args.length - (i + 1), by omega, i + 1, ?_, rfl, by omega, rfl⟩
        simp only [Sy.dens, Sy.den, E.i, E.b, E.t, gd, Env.push, List.cons_append, List.nil_append, List.append_nil, Int.toNat_natCast]
        have ht : args.take (i + 1) = args.take i ++ [args[i]] := by rw [List.take_add_one, hx]; rfl
        rw [ht, Px.deeps_snoc, w64i (by omega) (by omega)]
        congr 2
        · congr 1; omega
    · simp only [Sy.dens, Sy.den, E.i, E.b, E.t, gd, Env.push, List.cons_append, List.nil_append, List.append_nil, Int.toNat_natCast, ltB_false] at c1
      obtain rfl : i = args.length := by omega
      refine den_ret fun _ _ _ => ⟨_, rfl, ?_⟩
      simp only [Sy.dens, Sy.den, E.i, E.b, E.t, gd, Env.push, List.cons_append, List.nil_append, List.append_nil, Int.toNat_natCast, List.take_length, Px.deep] at hle ⊢
      rw [w64i (by omega) (by omega)]
      rfl
theorem zero_ex' (w : World) (J : Nat → Prop) : ExAt w J Px.none_ [.int .u8 0, .int .u8 0, .int .i64 0, .string ⟨#[]⟩, .string ⟨#[]⟩, .slice none 0 0] := ExAt.leaf w J 0 0 0 [] []
theorem xparse_i (t : ByteArray) (W : Wd) (ht : t.size ≤ 1000000) : CallsI Tryd.prog 5 #[.string t] W.all fun v w' => ∃ op k n tt nm al len cl, v = .tuple #[.agg #[.int .u8 op, .int .u8 k, .int .i64 n, .string tt, .string nm, .slice al len cl], .int .i64 (Px.parse t.data.toList).2] ∧
    ExAt w' (fun b => W.w.heap.size ≤ b) (Px.parse t.data.toList).1 [.int .u8 op, .int .u8 k, .int .i64 n, .string tt, .string nm, .slice al len cl] := by
  refine vc_xParse t W.all _ ?_
  refine den_new fun m W1 _ x1 => den_call_i (fun _ _ => rlex_i t W1) fun v w' _ ⟨a, c, hv, hT⟩ => ⟨(Lx.lex t.data.toList).2, (Lx.lex t.data.toList).1.length, c, a, hv, fun W2 e2 y2 n2 => ?_⟩
  have x2 := ext_trans x1 y2
  have hT2 : Toks W2 a c (Lx.lex t.data.toList).1 := SlAt.stay hT e2 n2
  simp only [Env.push, List.cons_append, List.nil_append, List.append_nil]
  refine den_br (fun c0 => den_wr fun _ _ => den_ret fun _ _ _ => ⟨_, rfl, 0, 0, 0, ⟨#[]⟩, ⟨#[]⟩, none, 0, 0, ?_, ?_⟩) fun c0 => ?_
  · have c0 : ¬ (Lx.lex t.data.toList).2 = 0 := by simpa [Sy.dens, Sy.den, E.i, E.b, E.t, gd, Env.push, List.cons_append, List.nil_append, List.append_nil, Int.toNat_natCast] using c0
    simp only [Px.parse, c0, if_false]; rfl
  · have c0 : ¬ (Lx.lex t.data.toList).2 = 0 := by simpa [Sy.dens, Sy.den, E.i, E.b, E.t, gd, Env.push, List.cons_append, List.nil_append, List.append_nil, Int.toNat_natCast] using c0
    simp only [Px.parse, c0, if_false]
    exact zero_ex' _ _
  · have c00 : (Lx.lex t.data.toList).2 = 0 := by simpa [Sy.dens, Sy.den, E.i, E.b, E.t, gd, Env.push, List.cons_append, List.nil_append, List.append_nil, Int.toNat_natCast] using c0
    have hlen := lex_len t.data.toList
    have htok := lex_ok t.data.toList
    generalize hL : (Lx.lex t.data.toList).1 = ts at *
    refine den_new fun mr W3 hmr x3 => ?_
    refine den_call fun hb _ => ?_
    have hbm : W3.w.heap[mr]? = some (.cells #[.slice a ts.length c, .bool false] 43) := hb _ (List.mem_singleton.2 rfl)
    have hT3 : ts ≠ [] → Toks (W3.but [mr]) a c ts := fun hne => by
      have h := hT2.ext x3
      obtain ⟨h1, h2, h3⟩ := h
      refine ⟨h1, h2, h3.imp id ?_⟩
      rintro ⟨b, o, e, hI, hbl, hc⟩
      refine ⟨b, o, e, ⟨hbl, fun hm => ?_⟩, hbl, hc⟩
      rw [List.mem_singleton] at hm
      subst hm
      cases ts with
      | nil => exact hne rfl
      | cons t r =>
        have h0 := hc 0 (.int .u8 t.k) rfl
        simp only [World.cell?, hbm] at h0
        match o, h0 with
        | 0, h0 => simp at h0
        | 1, h0 => simp at h0
        | o + 2, h0 => simp at h0
    refine CallsE.mono ((xread_ok (8 * ts.length + 7)).2 0 mr a c ts (W3.but [mr]) (by omega) hbm (but_not W3 mr) hT3 htok hlen (by omega)) fun e w' hk ⟨o, hrel, op, k, nn, t', nm, al, len, cl, a', c', q, bd, he, hh, hs, ho⟩ => ?_
    subst he
    refine ⟨op, k, nn, len, cl, q.length, c', bd, t', nm, al, a', rfl, fun b hb => by obtain rfl := List.mem_singleton.1 hb; exact hh, fun W4 e4 y4 n4 => ?_⟩
    have hrel : Px.Rel 1 o (Px.Two 1 ts) := hrel
    have hwhole := Px.rel_whole hrel
    have e0 : Px.parse t.data.toList = match Px.whole ts with
        | none => (Px.none_, 4)
        | some e => if 16 < Px.deep e then (Px.none_, 40) else (e, 0) := by
      unfold Px.parse
      rw [if_pos c00, hL]
      cases Px.whole ts <;> rfl
    have x4 := ext_trans x2 (ext_trans x3 y4)
    simp only [Env.push, List.cons_append, List.nil_append, List.append_nil]
    refine den_new fun m2 W5 _ x5 => den_wr fun W6 x6 => den_br (fun c1 => den_wr fun _ _ => den_ret fun _ _ _ => ⟨_, rfl, 0, 0, 0, ⟨#[]⟩, ⟨#[]⟩, none, 0, 0, ?_, ?_⟩) fun c1 => ?_
    · have c1 : bd = true ∨ 0 < q.length := by
        simp only [Sy.dens, Sy.den, E.i, E.b, E.t, gd, Env.push, List.cons_append, List.nil_append, List.append_nil, Int.toNat_natCast, Bool.or_eq_true, ltB_true] at c1
        exact c1.imp id (by omega)
      have hno : Px.whole ts = none := by
        rw [hwhole]
        rcases ho with ⟨rfl, _⟩ | ⟨x, rfl, hbd, _⟩
        · rfl
        · cases q with
          | nil => rw [hbd] at c1; simp at c1
          | cons t r => rfl
      rw [e0, hno]; rfl
    · have c1 : bd = true ∨ 0 < q.length := by
        simp only [Sy.dens, Sy.den, E.i, E.b, E.t, gd, Env.push, List.cons_append, List.nil_append, List.append_nil, Int.toNat_natCast, Bool.or_eq_true, ltB_true] at c1
        exact c1.imp id (by omega)
      have hno : Px.whole ts = none := by
        rw [hwhole]
        rcases ho with ⟨rfl, _⟩ | ⟨x, rfl, hbd, _⟩
        · rfl
        · cases q with
          | nil => rw [hbd] at c1; simp at c1
          | cons t r => rfl
      rw [e0, hno]
      exact zero_ex' _ _
    have c1 : bd = false ∧ q = [] := by
      simp only [Sy.dens, Sy.den, E.i, E.b, E.t, gd, Env.push, List.cons_append, List.nil_append, List.append_nil, Int.toNat_natCast, Bool.or_eq_false_iff, ltB_false] at c1
      exact ⟨c1.1, List.length_eq_zero_iff.1 (by omega)⟩
    obtain ⟨rfl, rfl⟩ := c1
    rcases ho with ⟨_, h⟩ | ⟨x, rfl, _, hx⟩
    · cases h
    have hyes : Px.whole ts = some x := by rw [hwhole]; rfl
    obtain ⟨hth, hdp⟩ := whole_fine htok hyes
    have hX := ExAt.stay hx e4 n4 (by exact (ext_trans x2 x3).size)
    have hX6 := (hX.ext x5).ext x6
    rw [hyes] at e0
    refine den_call_q (fun _ _ => xdeep_q 1000000 x _ W6 (by omega) (Nat.le_refl _) hth hX6.i) ⟨((Px.deep x : Nat) : Int), rfl, fun W7 x7 => ?_⟩
    simp only [Env.push, List.cons_append, List.nil_append, List.append_nil]
    refine den_br (fun c2 => den_wr fun _ _ => den_ret fun _ _ _ => ⟨_, rfl, 0, 0, 0, ⟨#[]⟩, ⟨#[]⟩, none, 0, 0, ?_, ?_⟩) fun c2 => den_wr fun W8 x8 => den_ret fun _ _ _ => ⟨_, rfl, op, k, nn, t', nm, al, len, cl, ?_, ?_⟩
    · have c2 : 16 < Px.deep x := by simp only [Sy.dens, Sy.den, E.i, E.b, E.t, gd, Env.push, List.cons_append, List.nil_append, List.append_nil, Int.toNat_natCast, ltB_true] at c2; omega
      rw [e0]; dsimp only; rw [if_pos c2]; rfl
    · have c2 : 16 < Px.deep x := by simp only [Sy.dens, Sy.den, E.i, E.b, E.t, gd, Env.push, List.cons_append, List.nil_append, List.append_nil, Int.toNat_natCast, ltB_true] at c2; omega
      rw [e0]; dsimp only; rw [if_pos c2]; exact zero_ex' _ _
    · have c2 : ¬ 16 < Px.deep x := by simp only [Sy.dens, Sy.den, E.i, E.b, E.t, gd, Env.push, List.cons_append, List.nil_append, List.append_nil, Int.toNat_natCast, ltB_false] at c2; omega
      rw [e0]; dsimp only; rw [if_neg c2]; rfl
    · have c2 : ¬ 16 < Px.deep x := by simp only [Sy.dens, Sy.den, E.i, E.b, E.t, gd, Env.push, List.cons_append, List.nil_append, List.append_nil, Int.toNat_natCast, ltB_false] at c2; omega
      rw [e0]; dsimp only; rw [if_neg c2]; exact ((hX6.ext x7).ext x8).new
theorem parse_fine (t : Lx.Bs) : Px.thin (Px.parse t).1 = true ∧ Px.deep (Px.parse t).1 ≤ 200 := by
  unfold Px.parse
  split
  · cases h : Px.whole (Lx.lex t).1 with
    | none => exact ⟨by simp [Px.none_, Px.thin, Px.thins], by simp [Px.none_, Px.deep, Px.deeps]⟩
    | some x =>
      obtain ⟨h1, h2⟩ := whole_fine (lex_ok t) h
      have := lex_len t
      dsimp only
      split
      · exact ⟨by simp [Px.none_, Px.thin, Px.thins], by simp [Px.none_, Px.deep, Px.deeps]⟩
      · exact ⟨h1, by show Px.deep x ≤ 200; omega⟩
  · exact ⟨by simp [Px.none_, Px.thin, Px.thins], by simp [Px.none_, Px.deep, Px.deeps]⟩
theorem reads_q (t : ByteArray) (W : Wd) (hG : Glob W) : CallsQ Tryd.prog 3 #[.string t] W (.bool true) := by
  have hG := hG.ext W.all_ext
  refine vc_lreads t W.all _ ?_
  refine den_br (fun c => den_ret fun _ _ _ => ⟨_, rfl, rfl⟩) fun c => ?_
  have hsz : t.size ≤ 1000 := by simp only [Sy.dens, Sy.den, E.i, E.b, E.t, gd, Env.push, List.cons_append, List.nil_append, List.append_nil, Int.toNat_natCast, ltB_false] at c; omega
  obtain ⟨hth, hdp⟩ := parse_fine t.data.toList
  refine den_call_i (fun _ _ => parse_i' t W.all hG) fun v w' _ ⟨op, k, n, tt, nm, al, len, cl, hv, hX⟩ => ⟨op, k, n, (Px.parse t.data.toList).2, len, cl, tt, nm, al, hv, fun W1 e1 y1 n1 => ?_⟩
  have hX1 : ExI W1 (Px.parse t.data.toList).1 _ := (ExAt.stay hX e1 n1 (Nat.le_refl _)).i
  simp only [Env.push, List.cons_append, List.nil_append, List.append_nil]
  refine den_new fun m2 W2 _ x2 => den_wr fun W3 x3 => ?_
  refine den_call_i (fun _ _ => xparse_i t W3 (by omega)) fun v w' _ ⟨op', k', n', tt', nm', al', len', cl', hv', hX'⟩ => ⟨op', k', n', (Px.parse t.data.toList).2, len', cl', tt', nm', al', hv', fun W4 e4 y4 n4 => ?_⟩
  have hX4 : ExI W4 (Px.parse t.data.toList).1 _ := (ExAt.stay hX' e4 n4 (Nat.le_refl _)).i
  simp only [Env.push, List.cons_append, List.nil_append, List.append_nil]
  refine den_new fun m3 W5 _ x5 => den_wr fun W6 x6 => den_br_t (by simp [Sy.dens, Sy.den, E.i, E.b, E.t, gd, Env.push, List.cons_append, List.nil_append, List.append_nil, Int.toNat_natCast]) ?_
  have z6 := ext_trans x5 x6
  refine den_call_q (v := .bool true) (fun _ _ => ?_) ⟨true, rfl, fun _ _ => den_ret fun _ _ _ => ⟨_, rfl, rfl⟩⟩
  have hq := same_q 200 (Px.parse t.data.toList).1 (Px.parse t.data.toList).1 _ _ W6 hdp hth (hX1.ext (ext_trans x2 (ext_trans x3 (ext_trans y4 z6)))) (hX4.ext z6)
  rw [Px.same_refl] at hq
  exact hq
end Go.Proofs.YtckgdgkkmhochaaDoor
