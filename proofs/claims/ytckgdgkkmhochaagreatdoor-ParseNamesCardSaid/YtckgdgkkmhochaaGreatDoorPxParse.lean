/- The tree of a text; whether two trees are the same. -/
import Derived.Test.YtckgdgkkmhochaaGreatDoorPxWhole
import Derived.Test.YtckgdgkkmhochaaGreatDoorVcParse2
namespace Go.Proofs.YtckgdgkkmhochaaGreatDoor
open Go Go.RowKit Go.SF
set_option linter.unusedSimpArgs false
set_option linter.unusedVariables false

theorem lexT_ok : ∀ (n : Nat) (m : Lx.Bs) (ts : List Lx.Tok), m.length ≤ 100 → Lx.lexT n m = some ts → TsOk ts
  | 0, m, ts, _, h => by simp [Lx.lexT] at h
  | n + 1, [], ts, _, h => by
    simp only [Lx.lexT, Option.some.injEq] at h
    subst h
    intro t ht; cases ht
  | n + 1, c :: r, ts, hl, h => by
    simp only [Lx.lexT] at h
    split at h
    · cases h
    · rename_i hc
      simp only [Bool.or_eq_true, not_or, decide_eq_true_eq, Bool.not_eq_true', Bool.not_eq_false] at hc
      obtain ⟨ts', h1, rfl⟩ := Px.map_some h
      have hd := Lx.trim_le ((c :: r).drop (Lx.first (c :: r)).2)
      rw [List.length_drop] at hd
      have ih := lexT_ok n _ ts' (by omega) h1
      intro t ht
      rcases List.mem_cons.1 ht with rfl | ht
      · refine ⟨hc.2, ?_⟩
        have := @first_text (c :: r)
        omega
      · exact ih t ht
theorem lex_ok (s : Lx.Bs) : TsOk (Lx.lex s).1 := by
  unfold Lx.lex
  split
  · intro t ht; cases ht
  · split
    · rename_i ts h
      exact lexT_ok _ _ ts (by have := Lx.trim_le s; omega) h
    · intro t ht; cases ht
theorem zero_ex (w : World) (J : Nat → Prop) : ExAt w J Px.none_ [.int .u8 0, .int .u8 0, .int .i64 0, .string ⟨#[]⟩, .string ⟨#[]⟩, .slice none 0 0] := ExAt.leaf w J 0 0 0 [] []
theorem lexT_len : ∀ (n : Nat) (m : Lx.Bs) (ts : List Lx.Tok), Lx.lexT n m = some ts → ts.length ≤ m.length
  | 0, m, ts, h => by simp [Lx.lexT] at h
  | n + 1, [], ts, h => by
    simp only [Lx.lexT, Option.some.injEq] at h
    subst h; simp
  | n + 1, c :: r, ts, h => by
    simp only [Lx.lexT] at h
    split at h
    · cases h
    · rename_i hc
      simp only [Bool.or_eq_true, not_or, decide_eq_true_eq, Bool.not_eq_true', Bool.not_eq_false] at hc
      obtain ⟨ts', h1, rfl⟩ := Px.map_some h
      have ih := lexT_len n _ ts' h1
      have hd := Lx.trim_le ((c :: r).drop (Lx.first (c :: r)).2)
      rw [List.length_drop] at hd
      have h0 := hc.1
      simp only [List.length_cons] at *
      omega
theorem lex_len (s : Lx.Bs) : (Lx.lex s).1.length ≤ 100 := by
  unfold Lx.lex
  split
  · simp
  · split
    · rename_i ts h
      have := lexT_len _ _ ts h
      have := Lx.trim_le s
      show ts.length ≤ 100
      omega
    · simp
theorem TsOk.small {ts : List Lx.Tok} (h : TsOk ts) : Px.Small ts := fun t ht => Nat.le_trans (h t ht).2 (by decide)
theorem whole_fine {ts : List Lx.Tok} {x : Px.Ex} (hs : TsOk ts) (h : Px.whole ts = some x) : Px.thin x = true ∧ Px.deep x ≤ ts.length := by
  unfold Px.whole at h
  split at h
  · rename_i e h1
    obtain rfl := Option.some.inj h
    have := Px.two_fine hs.small h1
    exact ⟨this.1, by have := this.2; simp at this; omega⟩
  · cases h
theorem parse_i' (t : ByteArray) (W : Wd) (hG : Glob W) : CallsI Tryz.prog 20 #[.string t] W.all fun v w' => ∃ op k n tt nm al len cl, v = .tuple #[.agg #[.int .u8 op, .int .u8 k, .int .i64 n, .string tt, .string nm, .slice al len cl], .int .i64 (Px.parse t.data.toList).2] ∧
    ExAt w' (fun b => W.w.heap.size ≤ b) (Px.parse t.data.toList).1 [.int .u8 op, .int .u8 k, .int .i64 n, .string tt, .string nm, .slice al len cl] := by
  refine vc_parse t W.all _ ?_
  have hG := hG.ext W.all_ext
  refine den_new fun m W1 _ x1 => den_call_i (fun _ _ => lex_i t W1 (hG.ext x1)) fun v w' _ ⟨a, c, hv, hT⟩ => ⟨(Lx.lex t.data.toList).2, (Lx.lex t.data.toList).1.length, c, a, hv, fun W2 e2 y2 n2 => ?_⟩
  have x2 := ext_trans x1 y2
  have hT2 : Toks W2 a c (Lx.lex t.data.toList).1 := SlAt.stay hT e2 n2
  simp only [Env.push, List.cons_append, List.nil_append, List.append_nil]
  refine den_br (fun c0 => den_wr fun _ _ => den_ret fun _ _ _ => ⟨_, rfl, 0, 0, 0, ⟨#[]⟩, ⟨#[]⟩, none, 0, 0, ?_, ?_⟩) fun c0 => ?_
  · have c0 : ¬ (Lx.lex t.data.toList).2 = 0 := by simpa [Sy.dens, Sy.den, E.i, E.b, E.t, gd, Env.push, List.cons_append, List.nil_append, List.append_nil, Int.toNat_natCast] using c0
    simp only [Px.parse, c0, if_false]; rfl
  · have c0 : ¬ (Lx.lex t.data.toList).2 = 0 := by simpa [Sy.dens, Sy.den, E.i, E.b, E.t, gd, Env.push, List.cons_append, List.nil_append, List.append_nil, Int.toNat_natCast] using c0
    simp only [Px.parse, c0, if_false]
    exact zero_ex _ _
  · have c0 : (Lx.lex t.data.toList).2 = 0 := by simpa [Sy.dens, Sy.den, E.i, E.b, E.t, gd, Env.push, List.cons_append, List.nil_append, List.append_nil, Int.toNat_natCast] using c0
    have hlen := lex_len t.data.toList
    refine den_call_i (fun _ _ => whole_i a c _ W2.all (hT2.ext W2.all_ext) ((hG.ext x2).ext W2.all_ext) (lex_ok _)) fun v w' _ ⟨op, k, n, tt, nm, al, len, cl, hv, hX⟩ => ⟨op, k, n, len, cl, (Px.whole (Lx.lex t.data.toList).1).isSome, tt, nm, al, hv, fun W3 e3 y3 n3 => ?_⟩
    simp only [Env.push, List.cons_append, List.nil_append, List.append_nil]
    refine den_new fun m2 W4 _ x4 => den_wr fun W5 x5 => den_br (fun c1 => den_wr fun _ _ => den_ret fun _ _ _ => ⟨_, rfl, 0, 0, 0, ⟨#[]⟩, ⟨#[]⟩, none, 0, 0, ?_, ?_⟩) fun c1 => ?_
    · have c1 : Px.whole (Lx.lex t.data.toList).1 = none := by simpa [Sy.dens, Sy.den, E.i, E.b, E.t, gd, Env.push, List.cons_append, List.nil_append, List.append_nil, Int.toNat_natCast] using c1
      simp only [Px.parse, c0, if_true, c1]; rfl
    · have c1 : Px.whole (Lx.lex t.data.toList).1 = none := by simpa [Sy.dens, Sy.den, E.i, E.b, E.t, gd, Env.push, List.cons_append, List.nil_append, List.append_nil, Int.toNat_natCast] using c1
      simp only [Px.parse, c0, if_true, c1]
      exact zero_ex _ _
    · have c1 : (Px.whole (Lx.lex t.data.toList).1).isSome = true := by simpa [Sy.dens, Sy.den, E.i, E.b, E.t, gd, Env.push, List.cons_append, List.nil_append, List.append_nil, Int.toNat_natCast] using c1
      obtain ⟨x, hx⟩ := Option.isSome_iff_exists.1 c1
      obtain ⟨hth, hdp⟩ := whole_fine (lex_ok _) hx
      have hX3 : ExS W3 W.all.w.heap.size x _ := ExAt.stay (hX x hx) e3 n3 (by exact x2.size)
      have hX5 := (hX3.ext x4).ext x5
      have e1 : Px.parse t.data.toList = if 16 < Px.deep x then (Px.none_, 40) else (x, 0) := by simp only [Px.parse, c0, if_true, hx]
      refine den_call_q (fun _ _ => depth_q 1000000 x _ W5 (by omega) (Nat.le_refl _) hth hX5.i) ⟨((Px.deep x : Nat) : Int), rfl, fun W6 x6 => ?_⟩
      simp only [Env.push, List.cons_append, List.nil_append, List.append_nil]
      refine den_br (fun c2 => den_wr fun _ _ => den_ret fun _ _ _ => ⟨_, rfl, 0, 0, 0, ⟨#[]⟩, ⟨#[]⟩, none, 0, 0, ?_, ?_⟩) fun c2 => den_wr fun W7 x7 => den_ret fun _ _ _ => ⟨_, rfl, op, k, n, tt, nm, al, len, cl, ?_, ?_⟩
      · have c2 : 16 < Px.deep x := by simp only [Sy.dens, Sy.den, E.i, E.b, E.t, gd, Env.push, List.cons_append, List.nil_append, List.append_nil, Int.toNat_natCast, ltB_true] at c2; omega
        rw [e1, if_pos c2]; rfl
      · have c2 : 16 < Px.deep x := by simp only [Sy.dens, Sy.den, E.i, E.b, E.t, gd, Env.push, List.cons_append, List.nil_append, List.append_nil, Int.toNat_natCast, ltB_true] at c2; omega
        rw [e1, if_pos c2]; exact zero_ex _ _
      · have c2 : ¬ 16 < Px.deep x := by simp only [Sy.dens, Sy.den, E.i, E.b, E.t, gd, Env.push, List.cons_append, List.nil_append, List.append_nil, Int.toNat_natCast, ltB_false] at c2; omega
        rw [e1, if_neg c2]; rfl
      · have c2 : ¬ 16 < Px.deep x := by simp only [Sy.dens, Sy.den, E.i, E.b, E.t, gd, Env.push, List.cons_append, List.nil_append, List.append_nil, Int.toNat_natCast, ltB_false] at c2; omega
        rw [e1, if_neg c2]; exact ((hX5.ext x6).ext x7).new
end Go.Proofs.YtckgdgkkmhochaaGreatDoor
