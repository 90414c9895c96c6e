/- The document's reader: a prefix or an atom. -/
import Derived.Test.YtckgdgkkmhochaaDoorPxX1
namespace Go.Proofs.YtckgdgkkmhochaaDoor
open Go Go.RowKit Go.SF
set_option linter.unusedSimpArgs false
set_option linter.unusedVariables false
/-- what a reading leaves: the tree, or that it is bad -/
def XEnd (n0 m : Nat) (a : Option Addr) (c : Nat) (ts : List Lx.Tok) (o : Option (Px.Ex × List Lx.Tok)) (e : Ending) (w' : World) : Prop :=
  ∃ (op k n : Int) (t nm : ByteArray) (al : Option Addr) (len cl : Nat) (a' : Option Addr) (c' : Nat) (r : List Lx.Tok) (b : Bool),
    e = .returned (.agg #[.int .u8 op, .int .u8 k, .int .i64 n, .string t, .string nm, .slice al len cl]) ∧ w'.heap[m]? = some (.cells #[.slice a' r.length c', .bool b] 43) ∧ TokSub a c ts a' c' r ∧
    ((o = none ∧ b = true) ∨ ∃ x, o = some (x, r) ∧ b = false ∧ ExAt w' (fun b => n0 ≤ b) x [.int .u8 op, .int .u8 k, .int .i64 n, .string t, .string nm, .slice al len cl])
def XPre (n : Nat) : Prop := ∀ (m : Nat) (a : Option Addr) (c : Nat) (ts : List Lx.Tok) (W : Wd), W.w.heap[m]? = some (.cells #[.slice a ts.length c, .bool false] 43) → ¬ W.I m → (ts ≠ [] → Toks W a c ts) → TsOk ts → ts.length ≤ 100 → 8 * ts.length + 1 ≤ n →
  CallsE Tryd.prog 22 #[.pointer (some ⟨m, 0, none⟩)] W (XEnd W.w.heap.size m a c ts (Px.One ts))
def XWay (n : Nat) : Prop := ∀ (l : Nat) (m : Nat) (a : Option Addr) (c : Nat) (ts : List Lx.Tok) (W : Wd), l ≤ 5 → W.w.heap[m]? = some (.cells #[.slice a ts.length c, .bool false] 43) → ¬ W.I m → (ts ≠ [] → Toks W a c ts) → TsOk ts → ts.length ≤ 100 → 8 * ts.length + (7 - l) ≤ n →
  CallsE Tryd.prog 11 #[.pointer (some ⟨m, 0, none⟩), .int .i64 (l : Nat)] W (fun e w' => ∃ o, Px.Rel ((l : Int) + 1) o (Px.Two ((l : Int) + 1) ts) ∧ XEnd W.w.heap.size m a c ts o e w')
theorem tok_may {t : Lx.Tok} (h : Lx.may t.k t.t = true) : t.k = 1 ∨ t.k = 2 ∨ t.k = 3 ∨ t.k = 4 := by
  unfold Lx.may at h
  by_cases h1 : t.k = 1
  · exact .inl h1
  by_cases h2 : t.k = 2
  · exact .inr (.inl h2)
  by_cases h3 : t.k = 3
  · exact .inr (.inr (.inl h3))
  by_cases h4 : t.k = 4
  · exact .inr (.inr (.inr h4))
  rw [if_neg h1, if_neg h2, if_neg h3, if_neg h4] at h
  cases h
theorem tok_agg : aggT Tryd.prog 56 = some true := by kernel_rfl
theorem tok_size : sizeT Tryd.prog 56 = some 2 := by kernel_rfl
theorem xpre_ok (n : Nat) (ih : XPre n) (ih2 : XWay n) : XPre (n + 1) := by
  intro m a c ts W hm hI hT hts hts1 hn
  refine vc_xprefix ts.length c false a m W _ hm hI ?_
  cases ts with
  | nil =>
    refine den_new fun m1 W1 _ x1 => den_br_t rfl (den_wr fun _ _ => den_wr fun W2 x2 => den_ret fun hb _ _ => ?_)
    exact ⟨0, 0, 0, ⟨#[]⟩, ⟨#[]⟩, none, 0, 0, a, c, [], true, rfl, hb _ (List.mem_singleton.2 rfl), TokSub.refl _ _ _, .inl ⟨Px.One_nil, rfl⟩⟩
  | cons t r =>
  have hT := hT (by simp)
  have hlen : 8 * r.length + 9 ≤ n + 1 := by simp only [List.length_cons] at hn; omega
  have hrl : r.length ≤ 100 := by simp only [List.length_cons] at hts1; omega
  have hone := Px.One_cons t r
  refine den_new fun m1 W1 _ x1 => den_br_f (by simp [Sy.dens, Sy.den, E.i, E.b, E.t, gd, Env.push, List.cons_append, List.nil_append, List.append_nil, Int.toNat_natCast]; omega) (den_call fun hb _ => CallsE.mono (nx_e m false a c (t :: r) ⟨#[45]⟩ (W1.but [m]) (hb _ (List.mem_singleton.2 rfl)) (but_not W1 m) (fun _ => hT.ext (ext_but x1 hI))) fun e w' hk ⟨a1, c1, r1, b1, he, hh, hs1, hc1⟩ => ?_)
  subst he
  refine ⟨r1.length, c1, b1, false, a1, rfl, fun b hb => by obtain rfl := List.mem_singleton.1 hb; exact hh, fun W2 e2 y2 n2 => ?_⟩
  have x2 := ext_trans x1 y2
  simp only [Env.push, List.cons_append, List.nil_append, List.append_nil]
  refine den_br (fun cb1 => ?_) fun cb1 => ?_
  · -- '-'
    have hc : Px.sign [45] (t :: r) = some r1 := by
      rcases hc1 with ⟨_, h⟩ | ⟨h, _⟩
      · exact h
      · rw [show b1 = true from cb1] at h; cases h
    obtain ⟨h4, ht, rfl⟩ := sign_cons hc
    have hP : Px.One (t :: r1) = (Px.One r1).map fun p => (Px.op1 3 p.1, p.2) := by rw [hone, if_pos h4, if_pos ht]
    refine den_call fun hb _ => CallsE.mono (ih m a1 c1 r1 (W2.but [m]) (hb _ (List.mem_singleton.2 rfl)) (but_not W2 m) (fun _ => (hs1 W hT).ext (ext_but x2 hI)) hts.tail hrl (by omega)) fun e w' hk ⟨op, k, nn, t', nm, al, len, cl, a', c', q, bd, he, hh, hs, ho⟩ => ?_
    subst he
    refine ⟨op, k, nn, len, cl, q.length, c', bd, t', nm, al, a', rfl, fun b hb => by obtain rfl := List.mem_singleton.1 hb; exact hh, fun W3 e3 y3 n3 => ?_⟩
    have x3 := ext_trans x2 y3
    simp only [Env.push, List.cons_append, List.nil_append, List.append_nil]
    refine den_new fun m2 W4 hm2 x4 => den_wr fun W5 x5 => den_ret fun hb _ _ => ?_
    have h1 := hb _ (List.mem_cons_self ..)
    have h2 := hb _ (List.mem_cons_of_mem _ (List.mem_cons_self ..))
    refine ⟨3, 0, 0, ⟨#[]⟩, ⟨#[]⟩, some ⟨m2, 0, none⟩, 1, 1, a', c', q, bd, rfl, h2, hs1.trans hs, ?_⟩
    rcases ho with ⟨ho, hbd⟩ | ⟨x, ho, hbd, hx⟩
    · exact .inl ⟨by rw [hP, ho]; rfl, hbd⟩
    · have hX := ExAt.stay hx e3 n3 (by exact x2.size)
      exact .inr ⟨Px.op1 3 x, by rw [hP, ho]; rfl, hbd, ExAt.one h1 hm2 ((hX.ext x4).ext x5).new 3⟩
  have hn1 : Px.sign [45] (t :: r) = none ∧ r1 = t :: r ∧ a1 = a ∧ c1 = c := by
    rcases hc1 with ⟨h, _⟩ | ⟨_, h⟩
    · rw [show b1 = false from cb1] at h; cases h
    · exact h
  obtain ⟨hn1, rfl, rfl, rfl⟩ := hn1
  refine den_call fun hb _ => CallsE.mono (nx_e m false a1 c1 (t :: r) ⟨#[33]⟩ (W2.but [m]) (hb _ (List.mem_singleton.2 rfl)) (but_not W2 m) (fun _ => hT.ext (ext_but x2 hI))) fun e w' hk ⟨a2, c2, r2, b2, he, hh, hs2, hc2⟩ => ?_
  subst he
  refine ⟨r2.length, c2, b2, false, a2, rfl, fun b hb => by obtain rfl := List.mem_singleton.1 hb; exact hh, fun W3 e3 y3 n3 => ?_⟩
  have x3 := ext_trans x2 y3
  simp only [Env.push, List.cons_append, List.nil_append, List.append_nil]
  refine den_br (fun cb2 => ?_) fun cb2 => ?_
  · -- '!'
    have hc : Px.sign [33] (t :: r) = some r2 := by
      rcases hc2 with ⟨_, h⟩ | ⟨h, _⟩
      · exact h
      · rw [show b2 = true from cb2] at h; cases h
    obtain ⟨h4, ht, rfl⟩ := sign_cons hc
    have hP : Px.One (t :: r2) = (Px.One r2).map fun p => (Px.op1 4 p.1, p.2) := by rw [hone, if_pos h4, if_neg (by rw [ht]; decide), if_pos ht]
    refine den_call fun hb _ => CallsE.mono (ih m a2 c2 r2 (W3.but [m]) (hb _ (List.mem_singleton.2 rfl)) (but_not W3 m) (fun _ => (hs2 W hT).ext (ext_but x3 hI)) hts.tail hrl (by omega)) fun e w' hk ⟨op, k, nn, t', nm, al, len, cl, a', c', q, bd, he, hh, hs, ho⟩ => ?_
    subst he
    refine ⟨op, k, nn, len, cl, q.length, c', bd, t', nm, al, a', rfl, fun b hb => by obtain rfl := List.mem_singleton.1 hb; exact hh, fun W4 e4 y4 n4 => ?_⟩
    have x4 := ext_trans x3 y4
    simp only [Env.push, List.cons_append, List.nil_append, List.append_nil]
    refine den_new fun m2 W5 hm2 x5 => den_wr fun W6 x6 => den_ret fun hb _ _ => ?_
    have h1 := hb _ (List.mem_cons_self ..)
    have h2 := hb _ (List.mem_cons_of_mem _ (List.mem_cons_self ..))
    refine ⟨4, 0, 0, ⟨#[]⟩, ⟨#[]⟩, some ⟨m2, 0, none⟩, 1, 1, a', c', q, bd, rfl, h2, hs2.trans hs, ?_⟩
    rcases ho with ⟨ho, hbd⟩ | ⟨x, ho, hbd, hx⟩
    · exact .inl ⟨by rw [hP, ho]; rfl, hbd⟩
    · have hX := ExAt.stay hx e4 n4 (by exact x3.size)
      exact .inr ⟨Px.op1 4 x, by rw [hP, ho]; rfl, hbd, ExAt.one h1 hm2 ((hX.ext x5).ext x6).new 4⟩
  have hn2 : Px.sign [33] (t :: r) = none ∧ r2 = t :: r ∧ a2 = a1 ∧ c2 = c1 := by
    rcases hc2 with ⟨h, _⟩ | ⟨_, h⟩
    · rw [show b2 = false from cb2] at h; cases h
    · exact h
  obtain ⟨hn2, rfl, rfl, rfl⟩ := hn2
  have hTs : ∀ V, Ext W3 V → _ := fun V xV => sl_look_at (W := W) hT tok_agg tok_size (i := 0) (vs := [.int .u8 t.k, .string ⟨t.t.toArray⟩]) rfl (by decide) (fun j hj => by
    match j, hj with
    | 0, _ => rfl
    | 1, _ => rfl) (ext_trans x3 xV)
  refine den_chk ?_ (den_chk rfl (den_chk ?_ (den_look ⟨t.k, ⟨t.t.toArray⟩, fun V xV => ?_, ?_⟩)))
  · simp only [E.b, gd, Env.push]; exact SlI.some_of hT (by simp)
  · simp only [Sy.dens, Sy.den, E.i, E.b, E.t, gd, Env.push, List.cons_append, List.nil_append, List.append_nil, Int.toNat_natCast]; exact ltB_t (by simp only [List.length_cons]; omega)
  · have := hTs V xV
    simp only [Sy.dens, Sy.den, E.i, E.b, E.t, gd, Env.push, List.cons_append, List.nil_append, List.append_nil, Int.toNat_natCast] at this ⊢
    exact this
  simp only [Env.push, List.cons_append, List.nil_append, List.append_nil]
  refine den_new fun m4 W4 _ y4 => den_wr fun W5 y5 => ?_
  have x5 := ext_trans x3 (ext_trans y4 y5)
  have hsub := toks_tail a2 c2 t r
  have tbl : (⟨t.t.toArray⟩ : ByteArray).data.toList = t.t := by simp
  refine den_br (fun c3 => ?_) fun c3 => den_br (fun c4 => ?_) fun c4 => ?_
  · -- len
    have c3 : t.k = 2 ∧ t.t = [108, 101, 110] := by simpa [Sy.dens, Sy.den, E.i, E.b, E.t, gd, Env.push, List.cons_append, List.nil_append, List.append_nil, Int.toNat_natCast] using c3
    have hP : Px.One (t :: r) = (Px.sign [40] r).bind fun r1 => (Px.Two 1 r1).bind fun p => (Px.sign [41] p.2).map fun q => (Px.op1 16 p.1, q) := by
      rw [hone, if_neg (by omega), if_neg (by omega), if_neg (by omega), if_neg (by rw [c3.2]; decide), if_neg (by rw [c3.2]; decide), if_pos c3.2]
    refine den_chk ?_ (den_sub (den_wr fun W6 y6 => ?_))
    · simp only [Sy.dens, Sy.den, E.i, E.b, E.t, gd, Env.push, List.cons_append, List.nil_append, List.append_nil, Int.toNat_natCast]; exact leB_t (by simp only [List.length_cons]; omega)
    have x6 := ext_trans x5 y6
    refine den_call fun hb _ => CallsE.mono (nx_e m false (subA a2 1 c2 2) (c2 - 1) r ⟨#[40]⟩ (W6.but [m]) (by have := hb _ (List.mem_singleton.2 rfl); show W6.w.heap[m]? = _; simpa [Sy.dens, Sy.den, E.i, E.b, E.t, gd, Env.push, List.cons_append, List.nil_append, List.append_nil, Int.toNat_natCast, Blk.at] using this) (but_not W6 m) (fun _ => (hsub W hT).ext (ext_but x6 hI))) fun e w' hk ⟨a3, c3', r3, b3, he, hh, hs3, hc3⟩ => ?_
    subst he
    refine ⟨r3.length, c3', b3, false, a3, rfl, fun b hb => by obtain rfl := List.mem_singleton.1 hb; exact hh, fun W7 e7 y7 n7 => ?_⟩
    have x7 := ext_trans x6 y7
    simp only [Env.push, List.cons_append, List.nil_append, List.append_nil]
    refine den_br (fun cb => den_wr fun _ _ => den_wr fun W8 y8 => den_ret fun hb _ _ => ?_) fun cb => ?_
    · have cb : b3 = false := by simpa [Sy.dens, Sy.den, E.i, E.b, E.t, gd, Env.push, List.cons_append, List.nil_append, List.append_nil, Int.toNat_natCast] using cb
      have hno : Px.sign [40] r = none := by
        rcases hc3 with ⟨h, _⟩ | ⟨_, h, _⟩
        · rw [cb] at h; cases h
        · exact h
      exact ⟨0, 0, 0, ⟨#[]⟩, ⟨#[]⟩, none, 0, 0, a3, c3', r3, true, rfl, hb _ (List.mem_singleton.2 rfl), hsub.trans hs3, .inl ⟨by rw [hP, hno]; rfl, rfl⟩⟩
    have cb : b3 = true := by simpa [Sy.dens, Sy.den, E.i, E.b, E.t, gd, Env.push, List.cons_append, List.nil_append, List.append_nil, Int.toNat_natCast] using cb
    have hyes : Px.sign [40] r = some r3 := by
      rcases hc3 with ⟨_, h⟩ | ⟨h, _⟩
      · exact h
      · rw [cb] at h; cases h
    have hl3 := Px.sign_len hyes
    refine den_call fun hb _ => CallsE.mono (ih2 0 m a3 c3' r3 (W7.but [m]) (by omega) (hb _ (List.mem_singleton.2 rfl)) (but_not W7 m) (fun _ => ((hsub.trans hs3) W hT).ext (ext_but x7 hI)) (hts.tail.less hl3.2) (by omega) (by omega)) fun e w' hk ⟨o, hrel, op, k, nn, t', nm, al, len, cl, a', c', q, bd, he, hh, hs, ho⟩ => ?_
    subst he
    refine ⟨op, k, nn, len, cl, q.length, c', bd, t', nm, al, a', rfl, fun b hb => by obtain rfl := List.mem_singleton.1 hb; exact hh, fun W8 e8 y8 n8 => ?_⟩
    have x8 := ext_trans x7 y8
    have hrel : Px.Rel 1 o (Px.Two 1 r3) := hrel
    have hP2 : Px.One (t :: r) = o.bind fun p => (Px.sign [41] p.2).map fun q => (Px.op1 16 p.1, q) := by
      rw [hP, hyes, Option.bind_some]
      exact Px.rel_close hrel fun e q => (Px.op1 16 e, q)
    simp only [Env.push, List.cons_append, List.nil_append, List.append_nil]
    have hTq := (((hsub.trans hs3).trans hs) W hT)
    refine den_new fun m5 W9 hm5 y9 => den_wr fun W10 y10 => ?_
    have x10 := ext_trans x8 (ext_trans y9 y10)
    refine den_call fun hb _ => CallsE.mono (nx_e m bd a' c' q ⟨#[41]⟩ (W10.but [m]) (hb _ (List.mem_singleton.2 rfl)) (but_not W10 m) (fun _ => hTq.ext (ext_but x10 hI))) fun e w' hk ⟨a9, c9, r9, b9, he, hh9, hs9, hc9⟩ => ?_
    subst he
    refine ⟨r9.length, c9, b9, bd, a9, rfl, fun b hb => by obtain rfl := List.mem_singleton.1 hb; exact hh9, fun W11 e11 y11 n11 => ?_⟩
    have x11 := ext_trans x10 y11
    simp only [Env.push, List.cons_append, List.nil_append, List.append_nil]
    refine den_br (fun cb9 => den_wr fun W12 y12 => den_new fun m6 W13 hm6 y13 => den_wr fun W14 y14 => den_ret fun hb _ _ => ?_) fun cb9 => den_new fun m6 W13 hm6 y13 => den_wr fun W14 y14 => den_ret fun hb _ _ => ?_
    · have cb9 : b9 = false := by simpa [Sy.dens, Sy.den, E.i, E.b, E.t, gd, Env.push, List.cons_append, List.nil_append, List.append_nil, Int.toNat_natCast] using cb9
      have hno : Px.sign [41] q = none := by
        rcases hc9 with ⟨h, _⟩ | ⟨_, h, _⟩
        · rw [cb9] at h; cases h
        · exact h
      refine ⟨16, 0, 0, ⟨#[]⟩, ⟨#[]⟩, some ⟨m6, 0, none⟩, 1, 1, a9, c9, r9, true, rfl, hb _ (List.mem_cons_of_mem _ (List.mem_cons_self ..)), ((hsub.trans hs3).trans hs).trans hs9, .inl ⟨?_, rfl⟩⟩
      rw [hP2]
      rcases ho with ⟨ho, _⟩ | ⟨x, ho, _⟩
      · rw [ho]; rfl
      · rw [ho, Option.bind_some, hno]; rfl
    · have cb9 : b9 = true := by simpa [Sy.dens, Sy.den, E.i, E.b, E.t, gd, Env.push, List.cons_append, List.nil_append, List.append_nil, Int.toNat_natCast] using cb9
      have hyes9 : Px.sign [41] q = some r9 := by
        rcases hc9 with ⟨_, h⟩ | ⟨h, _⟩
        · exact h
        · rw [cb9] at h; cases h
      have h1 := hb _ (List.mem_cons_self ..)
      have h2 := hb _ (List.mem_cons_of_mem _ (List.mem_cons_self ..))
      refine ⟨16, 0, 0, ⟨#[]⟩, ⟨#[]⟩, some ⟨m6, 0, none⟩, 1, 1, a9, c9, r9, bd, rfl, h2, ((hsub.trans hs3).trans hs).trans hs9, ?_⟩
      rcases ho with ⟨ho, hbd⟩ | ⟨x, ho, hbd, hx⟩
      · exact .inl ⟨by rw [hP2, ho]; rfl, hbd⟩
      · have hX := ExAt.stay hx e8 n8 (by exact x7.size)
        exact .inr ⟨Px.op1 16 x, by rw [hP2, ho, Option.bind_some, hyes9]; rfl, hbd, ExAt.one h1 hm6 (hX.ext (ext_trans y9 (ext_trans y10 (ext_trans y11 (ext_trans y13 y14))))).new 16⟩
  · -- '('
    have c4 : t.k = 4 := by simpa [Sy.dens, Sy.den, E.i, E.b, E.t, gd, Env.push, List.cons_append, List.nil_append, List.append_nil, Int.toNat_natCast] using c4
    have hn45 := sign_not hn1 c4
    have hn33 := sign_not hn2 c4
    have hP : Px.One (t :: r) = if t.t = [40] then (Px.Two 1 r).bind fun p => (Px.sign [41] p.2).map fun q => (p.1, q) else none := by
      rw [hone, if_pos c4, if_neg hn45, if_neg hn33]
    refine den_call fun hb _ => CallsE.mono (nx_e m false a2 c2 (t :: r) ⟨#[40]⟩ (W5.but [m]) (hb _ (List.mem_singleton.2 rfl)) (but_not W5 m) (fun _ => hT.ext (ext_but x5 hI))) fun e w' hk ⟨a3, c3', r3, b3, he, hh, hs3, hc3⟩ => ?_
    subst he
    refine ⟨r3.length, c3', b3, false, a3, rfl, fun b hb => by obtain rfl := List.mem_singleton.1 hb; exact hh, fun W7 e7 y7 n7 => ?_⟩
    have x7 := ext_trans x5 y7
    simp only [Env.push, List.cons_append, List.nil_append, List.append_nil]
    refine den_br (fun cb => den_wr fun _ _ => den_wr fun W8 y8 => den_ret fun hb _ _ => ?_) fun cb => ?_
    · have cb : b3 = false := by simpa [Sy.dens, Sy.den, E.i, E.b, E.t, gd, Env.push, List.cons_append, List.nil_append, List.append_nil, Int.toNat_natCast] using cb
      have hno : Px.sign [40] (t :: r) = none := by
        rcases hc3 with ⟨h, _⟩ | ⟨_, h, _⟩
        · rw [cb] at h; cases h
        · exact h
      exact ⟨0, 0, 0, ⟨#[]⟩, ⟨#[]⟩, none, 0, 0, a3, c3', r3, true, rfl, hb _ (List.mem_singleton.2 rfl), hs3, .inl ⟨by rw [hP, if_neg (sign_not hno c4)], rfl⟩⟩
    have cb : b3 = true := by simpa [Sy.dens, Sy.den, E.i, E.b, E.t, gd, Env.push, List.cons_append, List.nil_append, List.append_nil, Int.toNat_natCast] using cb
    have hyes : Px.sign [40] (t :: r) = some r3 := by
      rcases hc3 with ⟨_, h⟩ | ⟨h, _⟩
      · exact h
      · rw [cb] at h; cases h
    obtain ⟨_, ht, rfl⟩ := sign_cons hyes
    rw [if_pos ht] at hP
    refine den_call fun hb _ => CallsE.mono (ih2 0 m a3 c3' r3 (W7.but [m]) (by omega) (hb _ (List.mem_singleton.2 rfl)) (but_not W7 m) (fun _ => (hs3 W hT).ext (ext_but x7 hI)) hts.tail hrl (by omega)) fun e w' hk ⟨o, hrel, op, k, nn, t', nm, al, len, cl, a', c', q, bd, he, hh, hs, ho⟩ => ?_
    subst he
    refine ⟨op, k, nn, len, cl, q.length, c', bd, t', nm, al, a', rfl, fun b hb => by obtain rfl := List.mem_singleton.1 hb; exact hh, fun W8 e8 y8 n8 => ?_⟩
    have x8 := ext_trans x7 y8
    have hrel : Px.Rel 1 o (Px.Two 1 r3) := hrel
    have hP2 : Px.One (t :: r3) = o.bind fun p => (Px.sign [41] p.2).map fun q => (p.1, q) := by
      rw [hP]
      exact Px.rel_close hrel fun e q => (e, q)
    simp only [Env.push, List.cons_append, List.nil_append, List.append_nil]
    have hTq := ((hs3.trans hs) W hT)
    refine den_new fun m5 W9 hm5 y9 => den_wr fun W10 y10 => ?_
    have x10 := ext_trans x8 (ext_trans y9 y10)
    refine den_call fun hb _ => CallsE.mono (nx_e m bd a' c' q ⟨#[41]⟩ (W10.but [m]) (hb _ (List.mem_singleton.2 rfl)) (but_not W10 m) (fun _ => hTq.ext (ext_but x10 hI))) fun e w' hk ⟨a9, c9, r9, b9, he, hh9, hs9, hc9⟩ => ?_
    subst he
    refine ⟨r9.length, c9, b9, bd, a9, rfl, fun b hb => by obtain rfl := List.mem_singleton.1 hb; exact hh9, fun W11 e11 y11 n11 => ?_⟩
    simp only [Env.push, List.cons_append, List.nil_append, List.append_nil]
    refine den_br (fun cb9 => den_wr fun W12 y12 => den_wr fun W13 y13 => den_ret fun hb _ _ => ?_) fun cb9 => den_wr fun W13 y13 => den_ret fun hb _ _ => ?_
    · have cb9 : b9 = false := by simpa [Sy.dens, Sy.den, E.i, E.b, E.t, gd, Env.push, List.cons_append, List.nil_append, List.append_nil, Int.toNat_natCast] using cb9
      have hno : Px.sign [41] q = none := by
        rcases hc9 with ⟨h, _⟩ | ⟨_, h, _⟩
        · rw [cb9] at h; cases h
        · exact h
      refine ⟨op, k, nn, t', nm, al, len, cl, a9, c9, r9, true, rfl, hb _ (List.mem_cons_self ..), (hs3.trans hs).trans hs9, .inl ⟨?_, rfl⟩⟩
      rw [hP2]
      rcases ho with ⟨ho, _⟩ | ⟨x, ho, _⟩
      · rw [ho]; rfl
      · rw [ho, Option.bind_some, hno]; rfl
    · have cb9 : b9 = true := by simpa [Sy.dens, Sy.den, E.i, E.b, E.t, gd, Env.push, List.cons_append, List.nil_append, List.append_nil, Int.toNat_natCast] using cb9
      have hyes9 : Px.sign [41] q = some r9 := by
        rcases hc9 with ⟨_, h⟩ | ⟨h, _⟩
        · exact h
        · rw [cb9] at h; cases h
      refine ⟨op, k, nn, t', nm, al, len, cl, a9, c9, r9, bd, rfl, hb _ (List.mem_cons_self ..), (hs3.trans hs).trans hs9, ?_⟩
      rcases ho with ⟨ho, hbd⟩ | ⟨x, ho, hbd, hx⟩
      · exact .inl ⟨by rw [hP2, ho]; rfl, hbd⟩
      · have hX := ExAt.stay hx e8 n8 (by exact x7.size)
        exact .inr ⟨x, by rw [hP2, ho, Option.bind_some, hyes9]; rfl, hbd, (hX.ext (ext_trans y9 (ext_trans y10 (ext_trans y11 y13)))).new⟩
  · -- an atom
    have c3 : ¬ (t.k = 2 ∧ t.t = [108, 101, 110]) := by
      intro h
      simp [Sy.dens, Sy.den, E.i, E.b, E.t, gd, Env.push, List.cons_append, List.nil_append, List.append_nil, Int.toNat_natCast, h.1, h.2] at c3
    have c4 : ¬ t.k = 4 := by simpa [Sy.dens, Sy.den, E.i, E.b, E.t, gd, Env.push, List.cons_append, List.nil_append, List.append_nil, Int.toNat_natCast] using c4
    have hmay := hts t (List.mem_cons_self ..)
    rw [if_neg c4] at hone
    refine den_chk ?_ (den_sub (den_wr fun W6 y6 => ?_))
    · simp only [Sy.dens, Sy.den, E.i, E.b, E.t, gd, Env.push, List.cons_append, List.nil_append, List.append_nil, Int.toNat_natCast]; exact leB_t (by simp only [List.length_cons]; omega)
    have fin : ∀ (op k nn : Int) (t' nm : Lx.Bs) (V : Wd), V.w.heap[m]? = some (.cells #[.slice (subA a2 1 c2 2) r.length (c2 - 1), .bool false] 43) → Px.One (t :: r) = some (.mk op k nn t' nm [], r) → XEnd W.w.heap.size m a2 c2 (t :: r) (Px.One (t :: r)) (.returned (.agg #[.int .u8 op, .int .u8 k, .int .i64 nn, .string ⟨t'.toArray⟩, .string ⟨nm.toArray⟩, .slice none 0 0])) V.w := fun op k nn t' nm V hh he =>
      ⟨op, k, nn, ⟨t'.toArray⟩, ⟨nm.toArray⟩, none, 0, 0, subA a2 1 c2 2, c2 - 1, r, false, rfl, hh, hsub, .inr ⟨_, he, rfl, ExAt.leaf _ _ op k nn t' nm⟩⟩
    have blk : ∀ {V : Wd} {ρ : Env} {b : Blk} , b.at ρ V.w → b.at ρ V.w := fun h => h
    refine den_br (fun c5 => ?_) fun c5 => den_br (fun c6 => den_wr fun W7 y7 => den_ret fun hb _ _ => ?_) fun c6 => den_br (fun c7 => den_br (fun c8 => den_grow fun W7 y7 => den_wr fun W8 y8 => den_ret fun hb _ _ => ?_) fun c8 => den_grow fun W7 y7 => den_wr fun W8 y8 => den_ret fun hb _ _ => ?_) fun c7 => den_wr fun W7 y7 => den_ret fun hb _ _ => ?_
    · have c5 : t.k = 1 := by simpa [Sy.dens, Sy.den, E.i, E.b, E.t, gd, Env.push, List.cons_append, List.nil_append, List.append_nil, Int.toNat_natCast] using c5
      have hnum : Lx.numOk t.t = true := by have := hmay.1; unfold Lx.may at this; rw [if_pos c5] at this; exact this
      have hq := xnumber_q ⟨t.t.toArray⟩ (by rw [tbl]; exact hnum) W6 (by rw [← size_len, tbl]; have := hmay.2; omega)
      rw [tbl] at hq
      refine den_call_q (fun _ _ => hq) ⟨Px.numOf t.t, rfl, fun W7 y7 => den_grow fun W8 y8 => den_wr fun W9 y9 => den_ret fun hb _ _ => ?_⟩
      refine fin 1 1 (Px.numOf t.t) [] [] W9 ?_ (by rw [hone, if_pos c5]; rfl)
      have := hb _ (List.mem_singleton.2 rfl)
      simpa [Sy.dens, Sy.den, E.i, E.b, E.t, gd, Env.push, List.cons_append, List.nil_append, List.append_nil, Int.toNat_natCast, Blk.at] using this
    · have c5 : ¬ t.k = 1 := by simpa [Sy.dens, Sy.den, E.i, E.b, E.t, gd, Env.push, List.cons_append, List.nil_append, List.append_nil, Int.toNat_natCast] using c5
      have c6 : t.k = 3 := by simpa [Sy.dens, Sy.den, E.i, E.b, E.t, gd, Env.push, List.cons_append, List.nil_append, List.append_nil, Int.toNat_natCast] using c6
      refine fin 1 3 0 t.t [] W7 ?_ (by rw [hone, if_neg c5, if_pos c6]; rfl)
      have := hb _ (List.mem_singleton.2 rfl)
      simpa [Sy.dens, Sy.den, E.i, E.b, E.t, gd, Env.push, List.cons_append, List.nil_append, List.append_nil, Int.toNat_natCast, Blk.at] using this
    · have c5 : ¬ t.k = 1 := by simpa [Sy.dens, Sy.den, E.i, E.b, E.t, gd, Env.push, List.cons_append, List.nil_append, List.append_nil, Int.toNat_natCast] using c5
      have c6 : ¬ t.k = 3 := by simpa [Sy.dens, Sy.den, E.i, E.b, E.t, gd, Env.push, List.cons_append, List.nil_append, List.append_nil, Int.toNat_natCast] using c6
      have c8 : t.t = [121, 101, 115] := by simpa [Sy.dens, Sy.den, E.i, E.b, E.t, gd, Env.push, List.cons_append, List.nil_append, List.append_nil, Int.toNat_natCast] using c8
      refine fin 1 2 1 [] [] W8 ?_ (by rw [hone, if_neg c5, if_neg c6, if_pos c8]; rfl)
      have := hb _ (List.mem_singleton.2 rfl)
      simpa [Sy.dens, Sy.den, E.i, E.b, E.t, gd, Env.push, List.cons_append, List.nil_append, List.append_nil, Int.toNat_natCast, Blk.at] using this
    · have c5 : ¬ t.k = 1 := by simpa [Sy.dens, Sy.den, E.i, E.b, E.t, gd, Env.push, List.cons_append, List.nil_append, List.append_nil, Int.toNat_natCast] using c5
      have c6 : ¬ t.k = 3 := by simpa [Sy.dens, Sy.den, E.i, E.b, E.t, gd, Env.push, List.cons_append, List.nil_append, List.append_nil, Int.toNat_natCast] using c6
      have c8 : ¬ t.t = [121, 101, 115] := by simpa [Sy.dens, Sy.den, E.i, E.b, E.t, gd, Env.push, List.cons_append, List.nil_append, List.append_nil, Int.toNat_natCast] using c8
      have c7 : t.t = [110, 111] := by
        have : t.t = [121, 101, 115] ∨ t.t = [110, 111] := by simpa [Sy.dens, Sy.den, E.i, E.b, E.t, gd, Env.push, List.cons_append, List.nil_append, List.append_nil, Int.toNat_natCast] using c7
        exact this.resolve_left c8
      refine fin 1 2 0 [] [] W8 ?_ (by rw [hone, if_neg c5, if_neg c6, if_neg c8, if_pos c7]; rfl)
      have := hb _ (List.mem_singleton.2 rfl)
      simpa [Sy.dens, Sy.den, E.i, E.b, E.t, gd, Env.push, List.cons_append, List.nil_append, List.append_nil, Int.toNat_natCast, Blk.at] using this
    · have c5 : ¬ t.k = 1 := by simpa [Sy.dens, Sy.den, E.i, E.b, E.t, gd, Env.push, List.cons_append, List.nil_append, List.append_nil, Int.toNat_natCast] using c5
      have c6 : ¬ t.k = 3 := by simpa [Sy.dens, Sy.den, E.i, E.b, E.t, gd, Env.push, List.cons_append, List.nil_append, List.append_nil, Int.toNat_natCast] using c6
      have c7 : ¬ t.t = [121, 101, 115] ∧ ¬ t.t = [110, 111] := by simpa [Sy.dens, Sy.den, E.i, E.b, E.t, gd, Env.push, List.cons_append, List.nil_append, List.append_nil, Int.toNat_natCast] using c7
      have hk : t.k = 2 := by rcases tok_may hmay.1 with h | h | h | h <;> omega
      refine fin 2 0 0 [] t.t W7 ?_ (by rw [hone, if_neg c5, if_neg c6, if_neg c7.1, if_neg c7.2, if_neg fun e => c3 ⟨hk, e⟩]; rfl)
      have := hb _ (List.mem_singleton.2 rfl)
      simpa [Sy.dens, Sy.den, E.i, E.b, E.t, gd, Env.push, List.cons_append, List.nil_append, List.append_nil, Int.toNat_natCast, Blk.at] using this
end Go.Proofs.YtckgdgkkmhochaaDoor
