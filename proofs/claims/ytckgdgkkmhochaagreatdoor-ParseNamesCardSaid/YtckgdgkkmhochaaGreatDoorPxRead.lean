/- Reading: a prefix or an atom, what is put together by operators. -/
import Derived.Test.YtckgdgkkmhochaaGreatDoorPxMem
namespace Go.Proofs.YtckgdgkkmhochaaGreatDoor
open Go Go.RowKit Go.SF
set_option linter.unusedSimpArgs false
set_option linter.unusedVariables false

/-- parts that a text has -/
def TsOk (ts : List Lx.Tok) : Prop := ∀ t ∈ ts, Lx.may t.k t.t = true ∧ t.t.length ≤ 100
theorem TsOk.less {ts r : List Lx.Tok} (h : TsOk ts) (k : ∃ k, r = ts.drop k) : TsOk r := by
  obtain ⟨k, rfl⟩ := k
  exact fun t ht => h t (List.mem_of_mem_drop ht)
theorem TsOk.tail {t : Lx.Tok} {r : List Lx.Tok} (h : TsOk (t :: r)) : TsOk r := fun u hu => h u (List.mem_cons_of_mem _ hu)
theorem sign_ok {s : Lx.Bs} {ts r : List Lx.Tok} (h : TsOk ts) (hs : Px.sign s ts = some r) : TsOk r := h.less (Px.sign_len hs).2
/-- what a reading leaves -/
def RdEnd (n0 m : Nat) (a : Option Addr) (c : Nat) (ts : List Lx.Tok) (o : Option (Px.Ex × List Lx.Tok)) (e : Ending) (w' : World) : Prop := match o with
  | none => e = .panicked bad
  | some p => ∃ a' c' vs, e = .returned (.agg vs.toArray) ∧ ExAt w' (fun b => n0 ≤ b) p.1 vs ∧ w'.heap[m]? = some (.cells #[.slice a' p.2.length c'] 91) ∧ TokSub a c ts a' c' p.2
theorem RdEnd.out {n0 m : Nat} {a : Option Addr} {c : Nat} {ts : List Lx.Tok} {o : Option (Px.Ex × List Lx.Tok)} {e : Ending} {w' : World} (h : RdEnd n0 m a c ts o e w') : (o = none ∧ e = .panicked bad) ∨
    ∃ x r a' c' op k n t nm al len cl, o = some (x, r) ∧ e = .returned (.agg #[.int .u8 op, .int .u8 k, .int .i64 n, .string t, .string nm, .slice al len cl]) ∧ ExAt w' (fun b => n0 ≤ b) x [.int .u8 op, .int .u8 k, .int .i64 n, .string t, .string nm, .slice al len cl] ∧ w'.heap[m]? = some (.cells #[.slice a' r.length c'] 91) ∧ TokSub a c ts a' c' r := by
  cases o with
  | none => exact .inl ⟨rfl, h⟩
  | some p =>
    obtain ⟨a', c', vs, he, hx, hh, hs⟩ := h
    obtain ⟨op, k, n, t, nm, al, len, cl, rfl⟩ := hx.shape
    exact .inr ⟨p.1, p.2, a', c', op, k, n, t, nm, al, len, cl, rfl, he, hx, hh, hs⟩
theorem MustEnd.out {m : Nat} {a : Option Addr} {c : Nat} {ts : List Lx.Tok} {s : Lx.Bs} {e : Ending} {w' : World} (h : MustEnd m a c ts s e w') : (Px.sign s ts = none ∧ e = .panicked bad) ∨
    ∃ r a' c', Px.sign s ts = some r ∧ e = .returned (.tuple #[]) ∧ w'.heap[m]? = some (.cells #[.slice a' r.length c'] 91) ∧ TokSub a c ts a' c' r := by
  unfold MustEnd at h
  cases hs : Px.sign s ts with
  | none => rw [hs] at h; exact .inl ⟨rfl, h⟩
  | some r => rw [hs] at h; obtain ⟨a', c', h1, h2, h3⟩ := h; exact .inr ⟨r, a', c', rfl, h1, h2, h3⟩
def OneOk (n : Nat) : Prop := ∀ (m : Nat) (a : Option Addr) (c : Nat) (ts : List Lx.Tok) (W : Wd), W.w.heap[m]? = some (.cells #[.slice a ts.length c] 91) → ¬ W.I m → Toks W a c ts → Glob W → TsOk ts → 3 * ts.length + 1 ≤ n →
  CallsE Tryz.prog 95 #[.pointer (some ⟨m, 0, none⟩)] W (RdEnd W.w.heap.size m a c ts (Px.one n ts))
def TwoOk (n : Nat) : Prop := ∀ (much : Int) (m : Nat) (a : Option Addr) (c : Nat) (ts : List Lx.Tok) (W : Wd), W.w.heap[m]? = some (.cells #[.slice a ts.length c] 91) → ¬ W.I m → Toks W a c ts → Glob W → TsOk ts → 3 * ts.length + 2 ≤ n →
  CallsE Tryz.prog 61 #[.pointer (some ⟨m, 0, none⟩), .int .i64 much] W (RdEnd W.w.heap.size m a c ts (Px.two n much ts))
theorem sign_cons {s : Lx.Bs} {t : Lx.Tok} {r q : List Lx.Tok} (h : Px.sign s (t :: r) = some q) : t.k = 4 ∧ t.t = s ∧ q = r := by
  simp only [Px.sign] at h
  split at h
  · rename_i hk; exact ⟨hk.1, hk.2, (Option.some.inj h).symm⟩
  · cases h
theorem sign_not {s : Lx.Bs} {t : Lx.Tok} {r : List Lx.Tok} (h : Px.sign s (t :: r) = none) (hk : t.k = 4) : ¬ t.t = s := by
  intro e
  simp [Px.sign, hk, e] at h

theorem one_ok (n : Nat) (ih : OneOk n) (ih2 : TwoOk n) : OneOk (n + 1) := by
  intro m a c ts W hm hI hT hG hts hn
  refine vc_one ts.length c a m W _ hm hI ?_
  refine den_new fun m1 W1 _ x1 => den_call fun hb _ => CallsE.mono (sign_e m a c ts ⟨#[45]⟩ (W1.but [m]) (hb _ (List.mem_singleton.2 rfl)) (but_not W1 m) (hT.ext (ext_but x1 hI))) fun e w' hk ⟨a1, c1, r1, b1, he, hh, hs1, hc1⟩ => ?_
  subst he
  refine ⟨r1.length, c1, b1, a1, rfl, fun b hb => by obtain rfl := List.mem_singleton.1 hb; exact hh, fun W2 e2 y2 n2 => ?_⟩
  have x2 := ext_trans x1 y2
  simp only [Env.push, List.cons_append, List.nil_append, List.append_nil]
  refine den_br (fun cb1 => ?_) fun cb1 => ?_
  · -- '-'
    have hc : Px.sign [45] ts = some r1 := by
      rcases hc1 with ⟨_, h⟩ | ⟨h, _⟩
      · exact h
      · rw [show b1 = true from cb1] at h; cases h
    cases ts with
    | nil => cases hc
    | cons t r =>
      obtain ⟨h4, ht, rfl⟩ := sign_cons hc
      have hP : Px.one (n + 1) (t :: r1) = (Px.one n r1).map fun p => (Px.op1 3 p.1, p.2) := by simp [Px.one, h4, ht]
      refine den_call fun hb _ => CallsE.mono (ih m a1 c1 r1 (W2.but [m]) (hb _ (List.mem_singleton.2 rfl)) (but_not W2 m) ((hs1 W hT).ext (ext_but x2 hI)) (hG.ext (ext_but x2 hI)) hts.tail (by simp only [List.length_cons] at hn; omega)) fun e w' hk hE => ?_
      rcases hE.out with ⟨ho, rfl⟩ | ⟨x, r, a', c', op, k, nn, t', nm, al, len, cl, ho, rfl, hx, hh, hs⟩
      · rw [hP, ho]; rfl
      · refine ⟨op, k, nn, len, cl, r.length, c', t', nm, al, a', rfl, fun b hb => by obtain rfl := List.mem_singleton.1 hb; exact hh, fun W3 e3 y3 n3 => ?_⟩
        have x3 := ext_trans x2 y3
        have hX := ExAt.stay hx e3 n3 (by exact x2.size)
        simp only [Env.push, List.cons_append, List.nil_append, List.append_nil]
        refine den_new fun m2 W4 hm2 x4 => den_wr fun W5 x5 => den_ret fun hb _ _ => ?_
        rw [hP, ho]
        have h1 := hb _ (List.mem_cons_self ..)
        have h2 := hb _ (List.mem_cons_of_mem _ (List.mem_cons_self ..))
        exact ⟨a', c', _, rfl, ExAt.one h1 hm2 ((hX.ext x4).ext x5).new 3, h2, hs1.trans hs⟩
  have hn1 : Px.sign [45] ts = none ∧ r1 = ts := by
    rcases hc1 with ⟨h, _⟩ | ⟨_, h⟩
    · rw [show b1 = false from cb1] at h; cases h
    · exact h
  obtain ⟨hn1, rfl⟩ := hn1
  have hT1 := hs1 W hT
  refine den_call fun hb _ => CallsE.mono (sign_e m a1 c1 r1 ⟨#[33]⟩ (W2.but [m]) (hb _ (List.mem_singleton.2 rfl)) (but_not W2 m) (hT1.ext (ext_but x2 hI))) fun e w' hk ⟨a2, c2, r2, b2, he, hh, hs2, hc2⟩ => ?_
  subst he
  refine ⟨r2.length, c2, b2, a2, rfl, fun b hb => by obtain rfl := List.mem_singleton.1 hb; exact hh, fun W3 e3 y3 n3 => ?_⟩
  have x3 := ext_trans x2 y3
  simp only [Env.push, List.cons_append, List.nil_append, List.append_nil]
  refine den_br (fun cb2 => ?_) fun cb2 => ?_
  · -- '!'
    have hc : Px.sign [33] r1 = some r2 := by
      rcases hc2 with ⟨_, h⟩ | ⟨h, _⟩
      · exact h
      · rw [show b2 = true from cb2] at h; cases h
    cases r1 with
    | nil => cases hc
    | cons t r =>
      obtain ⟨h4, ht, rfl⟩ := sign_cons hc
      have hP : Px.one (n + 1) (t :: r2) = (Px.one n r2).map fun p => (Px.op1 4 p.1, p.2) := by simp [Px.one, h4, ht]
      refine den_call fun hb _ => CallsE.mono (ih m a2 c2 r2 (W3.but [m]) (hb _ (List.mem_singleton.2 rfl)) (but_not W3 m) ((hs2 W hT1).ext (ext_but x3 hI)) (hG.ext (ext_but x3 hI)) hts.tail (by simp only [List.length_cons] at hn; omega)) fun e w' hk hE => ?_
      rcases hE.out with ⟨ho, rfl⟩ | ⟨x, r, a', c', op, k, nn, t', nm, al, len, cl, ho, rfl, hx, hh, hs⟩
      · rw [hP, ho]; rfl
      · refine ⟨op, k, nn, len, cl, r.length, c', t', nm, al, a', rfl, fun b hb => by obtain rfl := List.mem_singleton.1 hb; exact hh, fun W4 e4 y4 n4 => ?_⟩
        have x4 := ext_trans x3 y4
        have hX := ExAt.stay hx e4 n4 (by exact x3.size)
        simp only [Env.push, List.cons_append, List.nil_append, List.append_nil]
        refine den_new fun m2 W5 hm2 x5 => den_wr fun W6 x6 => den_ret fun hb _ _ => ?_
        rw [hP, ho]
        have h1 := hb _ (List.mem_cons_self ..)
        have h2 := hb _ (List.mem_cons_of_mem _ (List.mem_cons_self ..))
        exact ⟨a', c', _, rfl, ExAt.one h1 hm2 ((hX.ext x5).ext x6).new 4, h2, (hs1.trans hs2).trans hs⟩
  have hn2 : Px.sign [33] r1 = none ∧ r2 = r1 := by
    rcases hc2 with ⟨h, _⟩ | ⟨_, h⟩
    · rw [show b2 = false from cb2] at h; cases h
    · exact h
  obtain ⟨hn2, rfl⟩ := hn2
  have hT2 := hs2 W hT1
  refine den_call fun hb _ => CallsE.mono (sign_e m a2 c2 r2 ⟨#[40]⟩ (W3.but [m]) (hb _ (List.mem_singleton.2 rfl)) (but_not W3 m) (hT2.ext (ext_but x3 hI))) fun e w' hk ⟨a3, c3, r3, b3, he, hh, hs3, hc3⟩ => ?_
  subst he
  refine ⟨r3.length, c3, b3, a3, rfl, fun b hb => by obtain rfl := List.mem_singleton.1 hb; exact hh, fun W4 e4 y4 n4 => ?_⟩
  have x4 := ext_trans x3 y4
  simp only [Env.push, List.cons_append, List.nil_append, List.append_nil]
  refine den_br (fun cb3 => ?_) fun cb3 => ?_
  · -- '('
    have hc : Px.sign [40] r2 = some r3 := by
      rcases hc3 with ⟨_, h⟩ | ⟨h, _⟩
      · exact h
      · rw [show b3 = true from cb3] at h; cases h
    cases r2 with
    | nil => cases hc
    | cons t r =>
      obtain ⟨h4, ht, rfl⟩ := sign_cons hc
      have hP : Px.one (n + 1) (t :: r3) = (Px.two n 1 r3).bind fun p => (Px.sign [41] p.2).map fun q => (p.1, q) := by simp [Px.one, h4, ht]
      refine den_call fun hb _ => CallsE.mono (ih2 1 m a3 c3 r3 (W4.but [m]) (hb _ (List.mem_singleton.2 rfl)) (but_not W4 m) ((hs3 W hT2).ext (ext_but x4 hI)) (hG.ext (ext_but x4 hI)) hts.tail (by simp only [List.length_cons] at hn; omega)) fun e w' hk hE => ?_
      rcases hE.out with ⟨ho, rfl⟩ | ⟨x, r, a', c', op, k, nn, t', nm, al, len, cl, ho, rfl, hx, hh, hs⟩
      · rw [hP, ho]; rfl
      · refine ⟨op, k, nn, len, cl, r.length, c', t', nm, al, a', rfl, fun b hb => by obtain rfl := List.mem_singleton.1 hb; exact hh, fun W5 e5 y5 n5 => ?_⟩
        have x5 := ext_trans x4 y5
        have hX := ExAt.stay hx e5 n5 (by exact x4.size)
        have hs5 := hs3.trans hs
        simp only [Env.push, List.cons_append, List.nil_append, List.append_nil]
        refine den_new fun m2 W6 hm2 x6 => den_wr fun W7 x7 => den_call fun hb _ => CallsE.mono (must_e m a' c' r ⟨#[41]⟩ (W7.but [m]) (hb _ (List.mem_singleton.2 rfl)) (but_not W7 m) ((hs5 W hT2).ext (ext_but (ext_trans (ext_trans x5 x6) x7) hI))) fun e w' hk hE => ?_
        rcases hE.out with ⟨hq, rfl⟩ | ⟨q, a6, c6, hq, rfl, hh, hs6⟩
        · rw [hP, ho, Option.bind_some]
          have hq : Px.sign [41] r = none := hq
          simp only [hq]; rfl
        · have hq : Px.sign [41] r = some q := hq
          refine ⟨q.length, c6, a6, rfl, fun b hb => by obtain rfl := List.mem_singleton.1 hb; exact hh, fun W8 e8 x8 n8 => den_wr fun W9 x9 => den_ret fun hb _ _ => ?_⟩
          rw [hP, ho, Option.bind_some]
          simp only [hq]
          exact ⟨a6, c6, _, rfl, ((((hX.ext x6).ext x7).ext x8).ext x9).new, hb _ (List.mem_singleton.2 rfl), ((hs1.trans hs2).trans hs5).trans hs6⟩
  have hn3 : Px.sign [40] r2 = none ∧ r3 = r2 := by
    rcases hc3 with ⟨h, _⟩ | ⟨_, h⟩
    · rw [show b3 = false from cb3] at h; cases h
    · exact h
  obtain ⟨hn3, rfl⟩ := hn3
  have hT3 := hs3 W hT2
  have hs123 := (hs1.trans hs2).trans hs3
  cases r3 with
  | nil =>
    refine den_chk rfl (den_chk rfl (den_chk rfl (den_br (fun c0 => ?_) fun _ => den_pan rfl)))
    cases c0
  | cons t r =>
    have hx : (t :: r)[0]? = some t := rfl
    have hS := SlI.some_of hT3 (by simp)
    have hT4 := hT3.ext x4
    refine den_chk ?_ (den_chk ?_ (den_chk ?_ (den_br (fun _ => den_look ⟨t.k, fun W' x => ?_, ?_⟩) fun c0 => ?_)))
    · simp only [Sy.dens, Sy.den, E.i, E.b, E.t, gd, Env.push, List.cons_append, List.nil_append, List.append_nil, Int.toNat_natCast]; rw [hS]; simp
    · simp [Sy.dens, Sy.den, E.i, E.b, E.t, gd, Env.push, List.cons_append, List.nil_append, List.append_nil, Int.toNat_natCast, leB]
    · simp only [Sy.dens, Sy.den, E.i, E.b, E.t, gd, Env.push, List.cons_append, List.nil_append, List.append_nil, Int.toNat_natCast]; rw [ltB_t (by simp only [List.length_cons]; omega)]; simp
    · exact sl_look_f (P := Tryz.prog) tokC_len hT4 u8_aggP (k := 0) hx (by decide) (u := .int .u8 t.k) rfl x
    · simp only [Env.push, List.cons_append, List.nil_append, List.append_nil]
      refine den_br (fun c1 => den_pan ?_) fun c1 => den_look ⟨t.k, ⟨t.t.toArray⟩, fun W' x => ?_, ?_⟩
      · have hk : t.k = 4 := by simpa [Sy.dens, Sy.den, E.i, E.b, E.t, gd, Env.push, List.cons_append, List.nil_append, List.append_nil, Int.toNat_natCast] using c1
        have : Px.one (n + 1) (t :: r) = none := by
          simp only [Px.one]
          rw [if_pos hk, if_neg (sign_not hn1 hk), if_neg (sign_not hn2 hk), if_neg (sign_not hn3 hk)]
        rw [this]; rfl
      · exact sl_look (P := Tryz.prog) tokC_len (by decide) hT4 tok_aggP tok_sizeP hx x
      · simp only [Env.push, List.cons_append, List.nil_append, List.append_nil]
        have hk4 : ¬ t.k = 4 := by simpa [Sy.dens, Sy.den, E.i, E.b, E.t, gd, Env.push, List.cons_append, List.nil_append, List.append_nil, Int.toNat_natCast] using c1
        have hT5 : TokSub a c (t :: r) (subA a3 1 c3 2) (c3 - 1) r := hs123.trans (toks_tail a3 c3 t r)
        have htt : (⟨t.t.toArray⟩ : ByteArray).data.toList = t.t := by simp
        have heq : ∀ l : List UInt8, ((⟨t.t.toArray⟩ : ByteArray).data.toList == (⟨l.toArray⟩ : ByteArray).data.toList) = decide (t.t = l) := fun l => by rw [Bool.eq_iff_iff]; simp
        refine den_new fun m2 W5 hm2 x5 => den_wr fun W6 x6 => den_chk ?_ (den_sub (den_wr fun W7 x7 => den_br (fun k1 => ?_) fun k1 => den_br (fun k3 => ?_) fun k3 => ?_))
        · simp only [Sy.dens, Sy.den, E.i, E.b, E.t, gd, Env.push, List.cons_append, List.nil_append, List.append_nil, Int.toNat_natCast]; exact leB_t (by simp only [List.length_cons]; omega)
        · -- a number
          have k1 : t.k = 1 := by simpa [Sy.dens, Sy.den, E.i, E.b, E.t, gd, Env.push, List.cons_append, List.nil_append, List.append_nil, Int.toNat_natCast] using k1
          have hP : Px.one (n + 1) (t :: r) = some (Px.leaf 1 (Px.numOf t.t) [], r) := by simp [Px.one, k1]
          rw [hP]
          have hok := hts t (List.mem_cons_self ..)
          refine den_call_i (fun _ _ => parse_i ⟨t.t.toArray⟩ (by rw [← size_len, htt]; omega) W7 (hG.ext (ext_trans (ext_trans (ext_trans x4 x5) x6) x7))) fun v w' _ ⟨nn, e, hv, h1, h2, h3⟩ => ⟨nn, e, one_ifc h1, hv, fun W8 _ x8 _ => ?_⟩
          simp only [Env.push, List.cons_append, List.nil_append, List.append_nil]
          refine den_grow fun W9 x9 => den_wr fun W10 x10 => den_ret fun hb _ _ => ?_
          have hnn : nn = Px.numOf t.t := by
            rw [htt] at h3
            have hp : Lx.parsed (Lib.parseIntB 64 t.t) = true := by
              have := hok.1
              rw [k1] at this
              simp only [Lx.may, if_true, Lx.numOk, Bool.and_eq_true] at this
              exact this.1
            unfold Px.numOf
            cases hq : Lib.parseIntB 64 t.t with
            | ok v => exact h3 v hq
            | _ => rw [hq] at hp; cases hp
          subst hnn
          refine ⟨_, _, _, rfl, ExAt.leaf _ _ 1 1 (Px.numOf t.t) [] [], ?_, hT5⟩
          have := hb _ (List.mem_singleton.2 rfl)
          simpa [Sy.dens, Sy.den, E.i, E.b, E.t, gd, Env.push, List.cons_append, List.nil_append, List.append_nil, Int.toNat_natCast, Blk.at] using this
        · -- a text
          have k3 : t.k = 3 := by simpa [Sy.dens, Sy.den, E.i, E.b, E.t, gd, Env.push, List.cons_append, List.nil_append, List.append_nil, Int.toNat_natCast] using k3
          have hP : Px.one (n + 1) (t :: r) = some (Px.leaf 3 0 t.t, r) := by simp [Px.one, k3]
          rw [hP]
          refine den_wr fun W8 x8 => den_ret fun hb _ _ => ⟨_, _, _, rfl, ExAt.leaf _ _ 1 3 0 t.t [], ?_, hT5⟩
          have := hb _ (List.mem_singleton.2 rfl)
          simpa [Sy.dens, Sy.den, E.i, E.b, E.t, gd, Env.push, List.cons_append, List.nil_append, List.append_nil, Int.toNat_natCast, Blk.at] using this
        · have k1 : ¬ t.k = 1 := by simpa [Sy.dens, Sy.den, E.i, E.b, E.t, gd, Env.push, List.cons_append, List.nil_append, List.append_nil, Int.toNat_natCast] using k1
          have k3 : ¬ t.k = 3 := by simpa [Sy.dens, Sy.den, E.i, E.b, E.t, gd, Env.push, List.cons_append, List.nil_append, List.append_nil, Int.toNat_natCast] using k3
          refine den_br (fun ky => den_br (fun k5 => ?_) fun k5 => ?_) fun ky => den_br (fun kl => ?_) fun kl => ?_
          · have k5 : t.t = [121, 101, 115] := by simpa [Sy.dens, Sy.den, E.i, E.b, E.t, gd, Env.push, List.cons_append, List.nil_append, List.append_nil, Int.toNat_natCast] using k5
            have hP : Px.one (n + 1) (t :: r) = some (Px.leaf 2 1 [], r) := by simp [Px.one, hk4, k1, k3, k5]
            rw [hP]
            refine den_grow fun _ _ => den_wr fun W8 x8 => den_ret fun hb _ _ => ⟨_, _, _, rfl, ExAt.leaf _ _ 1 2 1 [] [], ?_, hT5⟩
            have := hb _ (List.mem_singleton.2 rfl)
            simpa [Sy.dens, Sy.den, E.i, E.b, E.t, gd, Env.push, List.cons_append, List.nil_append, List.append_nil, Int.toNat_natCast, Blk.at] using this
          · have k5 : ¬ t.t = [121, 101, 115] := by simpa [Sy.dens, Sy.den, E.i, E.b, E.t, gd, Env.push, List.cons_append, List.nil_append, List.append_nil, Int.toNat_natCast] using k5
            have k6 : t.t = [110, 111] := by
              simp only [Sy.dens, Sy.den, E.i, E.b, E.t, gd, Env.push, List.cons_append, List.nil_append, List.append_nil, Int.toNat_natCast, heq, Bool.or_eq_true, decide_eq_true_eq] at ky
              exact ky.resolve_left k5
            have hP : Px.one (n + 1) (t :: r) = some (Px.leaf 2 0 [], r) := by simp [Px.one, hk4, k1, k3, k6]
            rw [hP]
            refine den_grow fun _ _ => den_wr fun W8 x8 => den_ret fun hb _ _ => ⟨_, _, _, rfl, ExAt.leaf _ _ 1 2 0 [] [], ?_, hT5⟩
            have := hb _ (List.mem_singleton.2 rfl)
            simpa [Sy.dens, Sy.den, E.i, E.b, E.t, gd, Env.push, List.cons_append, List.nil_append, List.append_nil, Int.toNat_natCast, Blk.at] using this
          · -- 'len'
            have kl : t.t = [108, 101, 110] := by simpa [Sy.dens, Sy.den, E.i, E.b, E.t, gd, Env.push, List.cons_append, List.nil_append, List.append_nil, Int.toNat_natCast] using kl
            have hP : Px.one (n + 1) (t :: r) = (Px.sign [40] r).bind fun r1 => (Px.two n 1 r1).bind fun p => (Px.sign [41] p.2).map fun q => (Px.op1 16 p.1, q) := by simp [Px.one, hk4, k1, k3, kl]
            have x7' := ext_trans (ext_trans (ext_trans x4 x5) x6) x7
            refine den_call fun hb _ => CallsE.mono (must_e m _ _ r ⟨#[40]⟩ (W7.but [m]) (by have := hb _ (List.mem_singleton.2 rfl); show W7.w.heap[m]? = _; simpa [Sy.dens, Sy.den, E.i, E.b, E.t, gd, Env.push, List.cons_append, List.nil_append, List.append_nil, Int.toNat_natCast, Blk.at] using this) (but_not W7 m) ((hT5 W hT).ext (ext_but x7' hI))) fun e w' hk hE => ?_
            rcases hE.out with ⟨hq, rfl⟩ | ⟨q, a6, c6, hq, rfl, hh, hs6⟩
            · have hq : Px.sign [40] r = none := hq
              rw [hP, hq]; rfl
            · have hq : Px.sign [40] r = some q := hq
              rw [hP, hq, Option.bind_some]
              have hql := Px.sign_len hq
              refine ⟨q.length, c6, a6, rfl, fun b hb => by obtain rfl := List.mem_singleton.1 hb; exact hh, fun W8 e8 y8 n8 => ?_⟩
              have x8 := ext_trans x7' y8
              have hT6 := hT5.trans hs6
              simp only [Env.push, List.cons_append, List.nil_append, List.append_nil]
              refine den_call fun hb _ => CallsE.mono (ih2 1 m a6 c6 q (W8.but [m]) (hb _ (List.mem_singleton.2 rfl)) (but_not W8 m) ((hT6 W hT).ext (ext_but x8 hI)) (hG.ext (ext_but x8 hI)) (hts.tail.less hql.2) (by simp only [List.length_cons] at hn; omega)) fun e w' hk hE => ?_
              rcases hE.out with ⟨ho, rfl⟩ | ⟨x, r', a', c', op, k, nn, t', nm, al, len, cl, ho, rfl, hx, hh, hs⟩
              · rw [ho]; rfl
              · refine ⟨op, k, nn, len, cl, r'.length, c', t', nm, al, a', rfl, fun b hb => by obtain rfl := List.mem_singleton.1 hb; exact hh, fun W9 e9 y9 n9 => ?_⟩
                have x9 := ext_trans x8 y9
                have hX := ExAt.stay hx e9 n9 (by exact x8.size)
                have hT7 := hT6.trans hs
                rw [ho, Option.bind_some]
                simp only [Env.push, List.cons_append, List.nil_append, List.append_nil]
                refine den_new fun m3 W10 hm3 x10 => den_wr fun W11 x11 => den_call fun hb _ => CallsE.mono (must_e m a' c' r' ⟨#[41]⟩ (W11.but [m]) (hb _ (List.mem_singleton.2 rfl)) (but_not W11 m) ((hT7 W hT).ext (ext_but (ext_trans (ext_trans x9 x10) x11) hI))) fun e w' hk hE => ?_
                rcases hE.out with ⟨hq2, rfl⟩ | ⟨q2, a8, c8, hq2, rfl, hh, hs8⟩
                · have hq2 : Px.sign [41] r' = none := hq2
                  simp only [hq2]; rfl
                · have hq2 : Px.sign [41] r' = some q2 := hq2
                  simp only [hq2]
                  refine ⟨q2.length, c8, a8, rfl, fun b hb => by obtain rfl := List.mem_singleton.1 hb; exact hh, fun W12 e12 x12 n12 => ?_⟩
                  simp only [Env.push, List.cons_append, List.nil_append, List.append_nil]
                  refine den_new fun m4 W13 hm4 x13 => den_wr fun W14 x14 => den_ret fun hb _ _ => ?_
                  have h1 := hb _ (List.mem_cons_self ..)
                  have h2 := hb _ (List.mem_cons_of_mem _ (List.mem_cons_self ..))
                  exact ⟨a8, c8, _, rfl, ExAt.one h1 hm4 (((((hX.ext x10).ext x11).ext x12).ext x13).ext x14).new 16, h2, hT7.trans hs8⟩
          · -- a name
            have kl : ¬ t.t = [108, 101, 110] := by simpa [Sy.dens, Sy.den, E.i, E.b, E.t, gd, Env.push, List.cons_append, List.nil_append, List.append_nil, Int.toNat_natCast] using kl
            have hy : ¬ t.t = [121, 101, 115] ∧ ¬ t.t = [110, 111] := by
              simp only [Sy.dens, Sy.den, E.i, E.b, E.t, gd, Env.push, List.cons_append, List.nil_append, List.append_nil, Int.toNat_natCast, heq, Bool.or_eq_false_iff, decide_eq_false_iff_not] at ky
              exact ky
            have hP : Px.one (n + 1) (t :: r) = some (Px.name t.t, r) := by simp [Px.one, hk4, k1, k3, kl, hy.1, hy.2]
            rw [hP]
            refine den_wr fun W8 x8 => den_ret fun hb _ _ => ⟨_, _, _, rfl, ExAt.leaf _ _ 2 0 0 [] t.t, ?_, hT5⟩
            have := hb _ (List.mem_singleton.2 rfl)
            simpa [Sy.dens, Sy.den, E.i, E.b, E.t, gd, Env.push, List.cons_append, List.nil_append, List.append_nil, Int.toNat_natCast, Blk.at] using this
    · simp [Sy.dens, Sy.den, E.i, E.b, E.t, gd, Env.push, List.cons_append, List.nil_append, List.append_nil, Int.toNat_natCast] at c0
      omega

theorem by_much {s : Lx.Bs} {o : Int} {b : Lx.Bs × Int × Int} (h : Px.by_ s o = some b) : 1 ≤ b.2.2 ∧ b.2.2 ≤ 5 := by
  have := List.mem_of_find?_eq_some h
  simp only [Px.binds, List.mem_cons, List.not_mem_nil, or_false] at this
  rcases this with rfl | rfl | rfl | rfl | rfl | rfl | rfl | rfl | rfl | rfl | rfl <;> decide
theorem two_ok (n : Nat) (ih1 : OneOk n) (ih : ∀ k, k < n → TwoOk k) : TwoOk (n + 1) := by
  intro much m a c ts W hm hI hT hG hts hn
  refine vc_two much ts.length c a m W _ hm hI ?_
  refine den_new fun m1 W1 hm1 x1 => den_call fun hb _ => CallsE.mono (ih1 m a c ts (W1.but [m]) (hb _ (List.mem_singleton.2 rfl)) (but_not W1 m) (hT.ext (ext_but x1 hI)) (hG.ext (ext_but x1 hI)) hts (by omega)) fun e w' hk hE => ?_
  have hP : Px.two (n + 1) much ts = (Px.one n ts).bind fun p => Px.loop n much 7 p.1 p.2 := rfl
  rcases hE.out with ⟨ho, rfl⟩ | ⟨x0, r, a', c', op, k, nn, t', nm, al, len, cl, ho, rfl, hx, hh, hs⟩
  · rw [hP, ho]; rfl
  refine ⟨op, k, nn, len, cl, r.length, c', t', nm, al, a', rfl, fun b hb => by obtain rfl := List.mem_singleton.1 hb; exact hh, fun W2 e2 y2 n2 => ?_⟩
  have x2 := ext_trans x1 y2
  have hX := ExAt.stay hx e2 n2 (by exact x1.size)
  have hrl := Px.one_less ho
  rw [hP, ho, Option.bind_some]
  simp only [Env.push, List.cons_append, List.nil_append, List.append_nil]
  refine den_new fun m2 W3 hm2 y3 => den_wr fun W4 y4 => ?_
  have x4 := ext_trans (ext_trans x2 y3) y4
  have hX4 := (hX.ext y3).ext y4
  refine den_loop (fun j vs ls V => ∃ (f : Nat) (lim op k nn : Int) (t nm : ByteArray) (al : Option Addr) (len cl : Nat) (x : Px.Ex) (q : List Lx.Tok) (aq : Option Addr) (cq : Nat), vs = [.int .i64 lim, .int .u8 op, .int .u8 k, .int .i64 nn, .string t, .string nm, .slice al len cl, .slice aq q.length cq] ∧ ls = [] ∧ j = q.length ∧
    f ≤ n ∧ 3 * q.length + 1 ≤ f ∧ TokSub a c ts aq cq q ∧ TsOk q ∧ ExS V W.w.heap.size x [.int .u8 op, .int .u8 k, .int .i64 nn, .string t, .string nm, .slice al len cl] ∧ Px.loop n much 7 x0 r = Px.loop f much lim x q) r.length ⟨n, 7, op, k, nn, t', nm, al, len, cl, x0, r, a', c', rfl, rfl, rfl, Nat.le_refl _, by have := hrl.1; omega, hs, hts.less hrl.2, hX4, rfl⟩ ?_
  rintro j vs ls V xV ⟨f, lim, op, k, nn, t, nm, al, len, cl, x, q, aq, cq, rfl, rfl, rfl, hfn, hf, hsq, hq, hX, hL⟩
  have xV' := ext_trans x4 xV
  obtain ⟨f, rfl⟩ : ∃ g, f = g + 1 := ⟨f - 1, by omega⟩
  refine ⟨lim, op, k, nn, len, cl, q.length, cq, t, nm, al, aq, rfl, rfl, fun _ => ?_⟩
  simp only [Env.push, List.cons_append, List.nil_append, List.append_nil]
  have out : ∀ (V' : Wd) , Ext V V' → V'.w.heap[m]? = some (.cells #[.slice aq q.length cq] 91) → Px.loop (f + 1) much lim x q = some (x, q) → RdEnd W.w.heap.size m a c ts (Px.loop n much 7 x0 r) (.returned (.agg #[.int .u8 op, .int .u8 k, .int .i64 nn, .string t, .string nm, .slice al len cl])) V'.w := fun V' y hh he => by
    rw [hL, he]
    exact ⟨aq, cq, _, rfl, (hX.ext y).new, hh, hsq⟩
  cases q with
  | nil =>
    refine den_chk rfl (den_chk rfl (den_chk rfl (den_br (fun c0 => ?_) fun _ => den_wr fun V1 y1 => den_ret fun hb _ _ => ?_)))
    · cases c0
    · exact out V1 y1 (hb _ (List.mem_singleton.2 rfl)) rfl
  | cons u q =>
    have hTq := (hsq W hT).ext xV'
    have hx : (u :: q)[0]? = some u := rfl
    have hS := SlI.some_of hTq (by simp)
    refine den_chk ?_ (den_chk ?_ (den_chk ?_ (den_br (fun _ => den_look ⟨u.k, fun W' x => ?_, ?_⟩) fun c0 => ?_)))
    · simp only [Sy.dens, Sy.den, E.i, E.b, E.t, gd, Env.push, List.cons_append, List.nil_append, List.append_nil, Int.toNat_natCast]; rw [hS]; simp
    · simp [Sy.dens, Sy.den, E.i, E.b, E.t, gd, Env.push, List.cons_append, List.nil_append, List.append_nil, Int.toNat_natCast, leB]
    · simp only [Sy.dens, Sy.den, E.i, E.b, E.t, gd, Env.push, List.cons_append, List.nil_append, List.append_nil, Int.toNat_natCast]; rw [ltB_t (by simp only [List.length_cons]; omega)]; simp
    · exact sl_look_f (P := Tryz.prog) tokC_len hTq u8_aggP (k := 0) hx (by decide) (u := .int .u8 u.k) rfl x
    · simp only [Env.push, List.cons_append, List.nil_append, List.append_nil]
      refine den_br (fun c1 => den_look ⟨⟨u.t.toArray⟩, fun W' x => ?_, ?_⟩) fun c1 => den_wr fun V1 y1 => den_ret fun hb _ _ => ?_
      · exact sl_look_f (P := Tryz.prog) tokC_len hTq str_aggP (k := 1) hx (by decide) (u := .string ⟨u.t.toArray⟩) rfl x
      · have hk : u.k = 4 := by simpa [Sy.dens, Sy.den, E.i, E.b, E.t, gd, Env.push, List.cons_append, List.nil_append, List.append_nil, Int.toNat_natCast] using c1
        simp only [Env.push, List.cons_append, List.nil_append, List.append_nil]
        have hby := by_q ⟨u.t.toArray⟩ 0 V
        rw [show (⟨u.t.toArray⟩ : ByteArray).data.toList = u.t by simp] at hby
        cases hb0 : Px.by_ u.t 0 with
        | none =>
          rw [hb0] at hby
          refine den_call_q (fun _ _ => hby) ⟨0, 0, false, ⟨#[]⟩, rfl, fun V1 y1 => ?_⟩
          simp only [Env.push, List.cons_append, List.nil_append, List.append_nil]
          refine den_new fun m3 V2 hm3 y2 => den_wr fun V3 y3 => den_br (fun _ => den_wr fun V4 y4 => den_ret fun hb _ _ => ?_) fun c2 => ?_
          · exact out V4 (ext_trans (ext_trans (ext_trans y1 y2) y3) y4) (hb _ (List.mem_singleton.2 rfl)) (by simp [Px.loop, hk, hb0])
          · simp [Sy.dens, Sy.den, E.i, E.b, E.t, gd, Env.push, List.cons_append, List.nil_append, List.append_nil, Int.toNat_natCast] at c2
        | some b =>
          rw [hb0] at hby
          obtain ⟨hb1, hb5⟩ := by_much hb0
          refine den_call_q (fun _ _ => hby) ⟨b.2.1, b.2.2, true, ⟨b.1.toArray⟩, rfl, fun V1 y1 => ?_⟩
          simp only [Env.push, List.cons_append, List.nil_append, List.append_nil]
          refine den_new fun m3 V2 hm3 y2 => den_wr fun V3 y3 => den_br (fun c2 => den_wr fun V4 y4 => den_ret fun hb _ _ => ?_) fun c2 => ?_
          · have c2 : b.2.2 < much ∨ lim < b.2.2 := by
              simp only [Sy.dens, Sy.den, E.i, E.b, E.t, gd, Env.push, List.cons_append, List.nil_append, List.append_nil, Int.toNat_natCast, Bool.not_true, Bool.false_or, Bool.or_eq_true, ltB_true] at c2
              exact c2
            exact out V4 (ext_trans (ext_trans (ext_trans y1 y2) y3) y4) (hb _ (List.mem_singleton.2 rfl)) (by simp only [Px.loop, hk, hb0, if_true]; rw [if_pos c2])
          · have c2 : ¬ (b.2.2 < much ∨ lim < b.2.2) := by
              simp only [Sy.dens, Sy.den, E.i, E.b, E.t, gd, Env.push, List.cons_append, List.nil_append, List.append_nil, Int.toNat_natCast, Bool.not_true, Bool.false_or, Bool.or_eq_false_iff, ltB_false] at c2
              omega
            have y3' := ext_trans (ext_trans y1 y2) y3
            have hw : IntKind.i64.wrap (b.2.2 + 1) = b.2.2 + 1 := w64i (by omega) (by omega)
            have hLoop : Px.loop (f + 1) much lim x (u :: q) = (Px.two f (b.2.2 + 1) q).bind fun p => Px.loop f much (if b.2.2 = 3 then 2 else b.2.2) (Px.op2 b.2.1 x p.1) p.2 := by
              simp only [Px.loop, hk, hb0, if_true]; rw [if_neg c2]
            have hsq1 : TokSub a c ts (subA aq 1 cq 2) (cq - 1) q := hsq.trans (toks_tail aq cq u q)
            refine den_chk ?_ (den_sub (den_wr fun V4 y4 => den_grow fun V5 y5 => ?_))
            · simp only [Sy.dens, Sy.den, E.i, E.b, E.t, gd, Env.push, List.cons_append, List.nil_append, List.append_nil, Int.toNat_natCast]; exact leB_t (by simp only [List.length_cons]; omega)
            have z5 := ext_trans (ext_trans y3' y4) y5
            have x5 := ext_trans xV' z5
            have htwo : V5.w.heap[m]? = some (.cells #[.slice (subA aq 1 cq 2) q.length (cq - 1)] 91) → CallsE Tryz.prog 61 #[.pointer (some ⟨m, 0, none⟩), .int .i64 (IntKind.i64.wrap (b.2.2 + 1))] (V5.but [m]) (RdEnd V5.w.heap.size m (subA aq 1 cq 2) (cq - 1) q (Px.two f (b.2.2 + 1) q)) := fun hh => by
              rw [hw]
              exact ih f (by omega) (b.2.2 + 1) m (subA aq 1 cq 2) (cq - 1) q (V5.but [m]) hh (but_not V5 m) ((hsq1 W hT).ext (ext_but x5 hI)) (hG.ext (ext_but x5 hI)) hq.tail (by simp only [List.length_cons] at hf; omega)
            refine den_call fun hb _ => CallsE.mono (htwo (by have := hb _ (List.mem_singleton.2 rfl); simpa [Sy.dens, Sy.den, E.i, E.b, E.t, gd, Env.push, List.cons_append, List.nil_append, List.append_nil, Int.toNat_natCast, Blk.at] using this)) fun e w' hk hE => ?_
            rcases hE.out with ⟨ho, rfl⟩ | ⟨x', r', a', c', op', k', nn', t', nm', al', len', cl', ho, rfl, hx', hh, hs'⟩
            · rw [hL, hLoop, ho]; rfl
            · refine ⟨op', k', nn', len', cl', r'.length, c', t', nm', al', a', rfl, fun b hb => by obtain rfl := List.mem_singleton.1 hb; exact hh, fun V6 e6 y6 n6 => ?_⟩
              have x6 := ext_trans x5 y6
              have hX' := ExAt.stay hx' e6 n6 (by exact x5.size)
              have hX6 := hX.ext (ext_trans z5 y6)
              have hlt := Px.two_less ho
              simp only [Env.push, List.cons_append, List.nil_append, List.append_nil]
              refine den_grow fun V7 y7 => den_new fun m4 V8 hm4 y8 => den_grow fun V9 y9 => den_wr fun V10 y10 => ?_
              have y710 := ext_trans (ext_trans (ext_trans y7 y8) y9) y10
              have fin : ∀ (lim' : Int) (V11 : Wd), Ext V10 V11 → lim' = (if b.2.2 = 3 then 2 else b.2.2) → V11.I m4 → V11.w.heap[m4]? = some (.cells ([.int .u8 op, .int .u8 k, .int .i64 nn, .string t, .string nm, .slice al len cl] ++ [.int .u8 op', .int .u8 k', .int .i64 nn', .string t', .string nm', .slice al' len' cl'] : List Value).toArray 26) →
                  ∃ n', n' < (u :: q).length ∧ ∃ (f : Nat) (lim op k nn : Int) (t nm : ByteArray) (al : Option Addr) (len cl : Nat) (x : Px.Ex) (q : List Lx.Tok) (aq : Option Addr) (cq : Nat), [Value.int .i64 lim', .int .u8 b.2.1, .int .u8 0, .int .i64 0, .string ⟨#[]⟩, .string ⟨#[]⟩, .slice (some ⟨m4, 0, none⟩) 2 2, .slice a' r'.length c'] = [.int .i64 lim, .int .u8 op, .int .u8 k, .int .i64 nn, .string t, .string nm, .slice al len cl, .slice aq q.length cq] ∧ ([] : List (List Value)) = [] ∧ n' = q.length ∧
                  f ≤ n ∧ 3 * q.length + 1 ≤ f ∧ TokSub a c ts aq cq q ∧ TsOk q ∧ ExS V11 W.w.heap.size x [.int .u8 op, .int .u8 k, .int .i64 nn, .string t, .string nm, .slice al len cl] ∧ Px.loop n much 7 x0 r = Px.loop f much lim x q := fun lim' V11 y11 hl hIm hbm => by
                refine ⟨r'.length, by have := hlt.1; simp only [List.length_cons]; omega, f, lim', b.2.1, 0, 0, ⟨#[]⟩, ⟨#[]⟩, some ⟨m4, 0, none⟩, 2, 2, Px.op2 b.2.1 x x', r', a', c', rfl, rfl, rfl, by omega, by have := hlt.1; simp only [List.length_cons] at hf; omega, hsq1.trans hs', hq.tail.less hlt.2, ?_, by rw [hL, hLoop, ho, hl]; rfl⟩
                exact ExAt.two hbm ⟨hIm, hm4⟩ (hX6.ext (ext_trans y710 y11)) (hX'.ext (ext_trans y710 y11)) b.2.1
              refine den_br (fun c3 => den_frz fun V11 e11 y11 hI11 hb11 => den_again ?_) fun c3 => den_frz fun V11 e11 y11 hI11 hb11 => den_again ?_
              · have c3 : b.2.2 = 3 := by simpa [Sy.dens, Sy.den, E.i, E.b, E.t, gd, Env.push, List.cons_append, List.nil_append, List.append_nil, Int.toNat_natCast] using c3
                refine fin (IntKind.i64.wrap (b.2.2 - 1)) V11 y11 ?_ (hI11 _ (List.mem_cons_self ..) hm4) (hb11 _ (List.mem_cons_self ..))
                rw [if_pos c3, c3]; decide
              · have c3 : ¬ b.2.2 = 3 := by simpa [Sy.dens, Sy.den, E.i, E.b, E.t, gd, Env.push, List.cons_append, List.nil_append, List.append_nil, Int.toNat_natCast] using c3
                exact fin b.2.2 V11 y11 (by rw [if_neg c3]) (hI11 _ (List.mem_cons_self ..) hm4) (hb11 _ (List.mem_cons_self ..))
      · have hk : ¬ u.k = 4 := by simpa [Sy.dens, Sy.den, E.i, E.b, E.t, gd, Env.push, List.cons_append, List.nil_append, List.append_nil, Int.toNat_natCast] using c1
        exact out V1 y1 (hb _ (List.mem_singleton.2 rfl)) (by simp only [Px.loop]; rw [if_neg hk])
    · simp only [Sy.dens, Sy.den, E.i, E.b, E.t, gd, Env.push, List.cons_append, List.nil_append, List.append_nil, Int.toNat_natCast, ltB_false, List.length_cons] at c0
      omega
theorem read_ok : ∀ n : Nat, OneOk n ∧ TwoOk n := by
  intro n
  induction n using Nat.strongRecOn with
  | ind n ih =>
    cases n with
    | zero => exact ⟨fun m a c ts W _ _ _ _ _ h => by omega, fun mu m a c ts W _ _ _ _ _ h => by omega⟩
    | succ n => exact ⟨one_ok n (ih n (by omega)).1 (ih n (by omega)).2, two_ok n (ih n (by omega)).1 fun k hk => (ih k (by omega)).2⟩
end Go.Proofs.YtckgdgkkmhochaaGreatDoor
