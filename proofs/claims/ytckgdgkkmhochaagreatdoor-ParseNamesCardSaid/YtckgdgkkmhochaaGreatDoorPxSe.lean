/- The contracts of package parse: the operator of a sign, taking a sign. -/
import Derived.Test.YtckgdgkkmhochaaGreatDoorLxLex
import Derived.Test.YtckgdgkkmhochaaGreatDoorPxPlain
import Derived.Test.YtckgdgkkmhochaaGreatDoorVcParse
namespace Go.Proofs.YtckgdgkkmhochaaGreatDoor
open Go Go.RowKit Go.SF
set_option linter.unusedSimpArgs false
set_option linter.unusedVariables false

/-! ### what stays, but for a block -/
theorem ext_but {W W' : Wd} (x : Ext W W') {m : Nat} (h : ¬ W.I m) : Ext W (W'.but [m]) :=
  ⟨x.size, fun b hb => ⟨W'.lt b (x.sub b hb), fun hm => by rw [List.mem_singleton] at hm; subst hm; exact h hb⟩, x.keep, x.os, x.tape, x.output⟩
theorem ext_trans {W W' W'' : Wd} (x : Ext W W') (y : Ext W' W'') : Ext W W'' :=
  ⟨Nat.le_trans x.size y.size, fun b hb => y.sub b (x.sub b hb), fun b hb => (y.keep b (x.sub b hb)).trans (x.keep b hb), y.os.trans x.os, y.tape.trans x.tape, y.output.trans x.output⟩

def bindV : Option (Lx.Bs × Int × Int) → Value
  | some b => .tuple #[.agg #[.string ⟨b.1.toArray⟩, .int .u8 b.2.1, .int .i64 b.2.2], .bool true]
  | none => .tuple #[.agg #[.string ⟨#[]⟩, .int .u8 0, .int .i64 0], .bool false]
theorem by_q (t : ByteArray) (o : Int) (W : Wd) : CallsQ Tryz.prog 43 #[.string t, .int .u8 o] W (bindV (Px.by_ t.data.toList o)) := by
  refine vc_by o t W.all _ ?_
  refine den_new fun _ _ _ _ => den_new fun _ _ _ _ => den_new fun _ _ _ _ => den_grow fun _ _ => den_new fun _ _ _ _ => den_wr fun _ _ => ?_
  unfold Px.by_ Px.binds
  refine den_br (fun c => den_grow fun _ _ => den_wr fun _ _ => den_ret fun _ _ _ => ⟨_, rfl, ?_⟩) fun c => ?_
  · simp only [Sy.dens, Sy.den, E.i, E.b, E.t, gd, Env.push, List.cons_append, List.nil_append, List.append_nil, Int.toNat_natCast] at c
    have c : (([124] : List UInt8) == t.data.toList || ((14 : Int) == o)) = true := c
    rw [List.find?_cons, c]; rfl
  have c1 : (([124] : List UInt8) == t.data.toList || ((14 : Int) == o)) = false := c
  rw [List.find?_cons, c1]
  refine den_br (fun c => den_grow fun _ _ => den_wr fun _ _ => den_ret fun _ _ _ => ⟨_, rfl, ?_⟩) fun c => ?_
  · have c : (([38] : List UInt8) == t.data.toList || ((13 : Int) == o)) = true := c
    rw [List.find?_cons, c]; rfl
  have c2 : (([38] : List UInt8) == t.data.toList || ((13 : Int) == o)) = false := c
  rw [List.find?_cons, c2]
  refine den_br (fun c => den_grow fun _ _ => den_wr fun _ _ => den_ret fun _ _ _ => ⟨_, rfl, ?_⟩) fun c => ?_
  · have c : (([60] : List UInt8) == t.data.toList || ((9 : Int) == o)) = true := c
    rw [List.find?_cons, c]; rfl
  have c3 : (([60] : List UInt8) == t.data.toList || ((9 : Int) == o)) = false := c
  rw [List.find?_cons, c3]
  refine den_br (fun c => den_grow fun _ _ => den_wr fun _ _ => den_ret fun _ _ _ => ⟨_, rfl, ?_⟩) fun c => ?_
  · have c : (([60, 61] : List UInt8) == t.data.toList || ((10 : Int) == o)) = true := c
    rw [List.find?_cons, c]; rfl
  have c4 : (([60, 61] : List UInt8) == t.data.toList || ((10 : Int) == o)) = false := c
  rw [List.find?_cons, c4]
  refine den_br (fun c => den_grow fun _ _ => den_wr fun _ _ => den_ret fun _ _ _ => ⟨_, rfl, ?_⟩) fun c => ?_
  · have c : (([61, 61] : List UInt8) == t.data.toList || ((11 : Int) == o)) = true := c
    rw [List.find?_cons, c]; rfl
  have c5 : (([61, 61] : List UInt8) == t.data.toList || ((11 : Int) == o)) = false := c
  rw [List.find?_cons, c5]
  refine den_br (fun c => den_grow fun _ _ => den_wr fun _ _ => den_ret fun _ _ _ => ⟨_, rfl, ?_⟩) fun c => ?_
  · have c : (([33, 61] : List UInt8) == t.data.toList || ((12 : Int) == o)) = true := c
    rw [List.find?_cons, c]; rfl
  have c6 : (([33, 61] : List UInt8) == t.data.toList || ((12 : Int) == o)) = false := c
  rw [List.find?_cons, c6]
  refine den_br (fun c => den_grow fun _ _ => den_wr fun _ _ => den_ret fun _ _ _ => ⟨_, rfl, ?_⟩) fun c => ?_
  · have c : (([43] : List UInt8) == t.data.toList || ((8 : Int) == o)) = true := c
    rw [List.find?_cons, c]; rfl
  have c7 : (([43] : List UInt8) == t.data.toList || ((8 : Int) == o)) = false := c
  rw [List.find?_cons, c7]
  refine den_br (fun c => den_grow fun _ _ => den_wr fun _ _ => den_ret fun _ _ _ => ⟨_, rfl, ?_⟩) fun c => ?_
  · have c : (([45] : List UInt8) == t.data.toList || ((15 : Int) == o)) = true := c
    rw [List.find?_cons, c]; rfl
  have c8 : (([45] : List UInt8) == t.data.toList || ((15 : Int) == o)) = false := c
  rw [List.find?_cons, c8]
  refine den_br (fun c => den_grow fun _ _ => den_wr fun _ _ => den_ret fun _ _ _ => ⟨_, rfl, ?_⟩) fun c => ?_
  · have c : (([42] : List UInt8) == t.data.toList || ((5 : Int) == o)) = true := c
    rw [List.find?_cons, c]; rfl
  have c9 : (([42] : List UInt8) == t.data.toList || ((5 : Int) == o)) = false := c
  rw [List.find?_cons, c9]
  refine den_br (fun c => den_grow fun _ _ => den_wr fun _ _ => den_ret fun _ _ _ => ⟨_, rfl, ?_⟩) fun c => ?_
  · have c : (([47] : List UInt8) == t.data.toList || ((6 : Int) == o)) = true := c
    rw [List.find?_cons, c]; rfl
  have c10 : (([47] : List UInt8) == t.data.toList || ((6 : Int) == o)) = false := c
  rw [List.find?_cons, c10]
  refine den_br (fun c => den_grow fun _ _ => den_wr fun _ _ => den_ret fun _ _ _ => ⟨_, rfl, ?_⟩) fun c => ?_
  · have c : (([37] : List UInt8) == t.data.toList || ((7 : Int) == o)) = true := c
    rw [List.find?_cons, c]; rfl
  have c11 : (([37] : List UInt8) == t.data.toList || ((7 : Int) == o)) = false := c
  rw [List.find?_cons, c11]
  · refine den_grow fun _ _ => den_wr fun _ _ => den_ret fun _ _ _ => ⟨_, rfl, ?_⟩
    rfl

/-! ### a sign -/
/-- what a row is cut to -/
def TokSub (a : Option Addr) (c : Nat) (ts : List Lx.Tok) (a' : Option Addr) (c' : Nat) (r : List Lx.Tok) : Prop := ∀ W : Wd, Toks W a c ts → Toks W a' c' r
theorem TokSub.refl (a : Option Addr) (c : Nat) (ts : List Lx.Tok) : TokSub a c ts a c ts := fun _ h => h
theorem TokSub.trans {a a' a'' : Option Addr} {c c' c'' : Nat} {ts r s : List Lx.Tok} (h : TokSub a c ts a' c' r) (k : TokSub a' c' r a'' c'' s) : TokSub a c ts a'' c'' s := fun W x => k W (h W x)
theorem toks_tail (a : Option Addr) (c : Nat) (t : Lx.Tok) (r : List Lx.Tok) : TokSub a c (t :: r) (subA a 1 c 2) (c - 1) r := by
  intro W h
  obtain ⟨h1, h2, h3⟩ := h
  rcases h3 with ⟨_, h, _⟩ | ⟨b, o, rfl, hI, hb, hc⟩
  · simp at h
  · refine ⟨toksC_len r, by simp at h2 ⊢; omega, .inr ?_⟩
    by_cases hc1 : c = 1
    · subst hc1
      have hr : r = [] := by cases r with
        | nil => rfl
        | cons _ _ => simp at h2
      subst hr
      exact ⟨b, o, by simp [subA], hI, hb, fun j u hu => by simp [toksC] at hu⟩
    · refine ⟨b, o + 2, by simp [subA, hc1, Addr.add], hI, hb, fun j u hu => ?_⟩
      have := hc (j + 2) u (by rw [show toksC (t :: r) = tokC t ++ toksC r from rfl, List.getElem?_append_right (by rw [tokC_len]; omega), tokC_len]; simpa using hu)
      rw [show o + 2 + j = o + (j + 2) from by omega]; exact this
theorem u8_aggP : aggT Tryz.prog 5 = some false := by kernel_rfl
theorem str_aggP : aggT Tryz.prog 9 = some false := by kernel_rfl
theorem tok_aggP : aggT Tryz.prog 83 = some true := by kernel_rfl
theorem tok_sizeP : sizeT Tryz.prog 83 = some 2 := by kernel_rfl
/-- what is thrown -/
def bad : List PanicEntry := [{ v := .iface 88 (.agg #[]), recovered := false }]
theorem str_ba (s : ByteArray) (l : Lx.Bs) : ((⟨l.toArray⟩ : ByteArray).data.toList == s.data.toList) = decide (l = s.data.toList) := by
  rw [Bool.eq_iff_iff]; simp

def SignEnd (m : Nat) (a : Option Addr) (c : Nat) (ts : List Lx.Tok) (s : Lx.Bs) (e : Ending) (w' : World) : Prop :=
  ∃ a' c' r b, e = .returned (.bool b) ∧ w'.heap[m]? = some (.cells #[.slice a' r.length c'] 91) ∧ TokSub a c ts a' c' r ∧ ((b = true ∧ Px.sign s ts = some r) ∨ (b = false ∧ Px.sign s ts = none ∧ r = ts))
theorem sign_e (m : Nat) (a : Option Addr) (c : Nat) (ts : List Lx.Tok) (s : ByteArray) (W : Wd) (hm : W.w.heap[m]? = some (.cells #[.slice a ts.length c] 91)) (hI : ¬ W.I m) (hT : Toks W a c ts) :
    CallsE Tryz.prog 116 #[.pointer (some ⟨m, 0, none⟩), .string s] W (SignEnd m a c ts s.data.toList) := by
  refine vc_sign ts.length c s a m W _ hm hI ?_
  cases ts with
  | nil =>
    refine den_chk rfl (den_chk rfl (den_chk rfl (den_br (fun c0 => ?_) fun _ => den_ret fun hb _ _ => ?_)))
    · cases c0
    · exact ⟨a, c, [], false, rfl, hb _ (List.mem_singleton.2 rfl), TokSub.refl _ _ _, .inr ⟨rfl, rfl, rfl⟩⟩
  | cons t r =>
    have hx : (t :: r)[0]? = some t := rfl
    have hS := SlI.some_of hT (by simp)
    refine den_chk ?_ (den_chk ?_ (den_chk ?_ (den_br (fun _ => den_look ⟨t.k, fun W' x => ?_, ?_⟩) fun c0 => ?_)))
    · simp only [Sy.dens, Sy.den, E.i, E.b, E.t, gd, Env.push, List.cons_append, List.nil_append, List.append_nil, Int.toNat_natCast]; rw [hS]; simp
    · simp [Sy.dens, Sy.den, E.i, E.b, E.t, gd, Env.push, List.cons_append, List.nil_append, List.append_nil, Int.toNat_natCast, leB]
    · simp only [Sy.dens, Sy.den, E.i, E.b, E.t, gd, Env.push, List.cons_append, List.nil_append, List.append_nil, Int.toNat_natCast]; rw [ltB_t (by simp only [List.length_cons]; omega)]; simp
    · exact sl_look_f (P := Tryz.prog) tokC_len hT u8_aggP (k := 0) hx (by decide) (u := .int .u8 t.k) rfl x
    · simp only [Env.push, List.cons_append, List.nil_append, List.append_nil]
      refine den_br (fun c1 => den_look ⟨⟨t.t.toArray⟩, fun W' x => ?_, ?_⟩) fun c1 => den_ret fun hb _ _ => ?_
      · exact sl_look_f (P := Tryz.prog) tokC_len hT str_aggP (k := 1) hx (by decide) (u := .string ⟨t.t.toArray⟩) rfl x
      · simp only [Env.push, List.cons_append, List.nil_append, List.append_nil]
        have hk : t.k = 4 := by simpa [Sy.dens, Sy.den, E.i, E.b, E.t, gd, Env.push, List.cons_append, List.nil_append, List.append_nil, Int.toNat_natCast] using c1
        refine den_br (fun c2 => den_ret fun hb _ _ => ?_) fun c2 => ?_
        · have hne : ¬ t.t = s.data.toList := by simpa [Sy.dens, Sy.den, E.i, E.b, E.t, gd, Env.push, List.cons_append, List.nil_append, List.append_nil, Int.toNat_natCast] using c2
          exact ⟨a, c, t :: r, false, rfl, hb _ (List.mem_singleton.2 rfl), TokSub.refl _ _ _, .inr ⟨rfl, by simp [Px.sign, hne], rfl⟩⟩
        · have he : t.t = s.data.toList := by simpa [Sy.dens, Sy.den, E.i, E.b, E.t, gd, Env.push, List.cons_append, List.nil_append, List.append_nil, Int.toNat_natCast] using c2
          refine den_chk ?_ (den_sub (den_wr fun _ _ => den_ret fun hb _ _ => ?_))
          · simp only [Sy.dens, Sy.den, E.i, E.b, E.t, gd, Env.push, List.cons_append, List.nil_append, List.append_nil, Int.toNat_natCast]; exact leB_t (by simp only [List.length_cons]; omega)
          · refine ⟨subA a 1 c 2, c - 1, r, true, rfl, ?_, toks_tail a c t r, .inl ⟨rfl, by simp [Px.sign, he, hk]⟩⟩
            have := hb _ (List.mem_singleton.2 rfl)
            simpa [Sy.dens, Sy.den, E.i, E.b, E.t, gd, Env.push, List.cons_append, List.nil_append, List.append_nil, Int.toNat_natCast, Blk.at] using this
      · have hk : ¬ t.k = 4 := by simpa [Sy.dens, Sy.den, E.i, E.b, E.t, gd, Env.push, List.cons_append, List.nil_append, List.append_nil, Int.toNat_natCast] using c1
        exact ⟨a, c, t :: r, false, rfl, hb _ (List.mem_singleton.2 rfl), TokSub.refl _ _ _, .inr ⟨rfl, by simp [Px.sign, hk], rfl⟩⟩
    · simp [Sy.dens, Sy.den, E.i, E.b, E.t, gd, Env.push, List.cons_append, List.nil_append, List.append_nil, Int.toNat_natCast] at c0
      omega
end Go.Proofs.YtckgdgkkmhochaaGreatDoor
