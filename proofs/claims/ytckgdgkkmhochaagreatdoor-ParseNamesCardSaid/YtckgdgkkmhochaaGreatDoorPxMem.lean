/- Trees in memory; a sign that must be there. -/
import Derived.Test.YtckgdgkkmhochaaGreatDoorPxSe
namespace Go.Proofs.YtckgdgkkmhochaaGreatDoor
open Go Go.RowKit Go.SF
set_option linter.unusedSimpArgs false
set_option linter.unusedVariables false

/-! ### trees in memory -/
def exV (op k n : Int) (t nm : Lx.Bs) (a : Option Addr) (len c : Nat) : List Value := [.int .u8 op, .int .u8 k, .int .i64 n, .string ⟨t.toArray⟩, .string ⟨nm.toArray⟩, .slice a len c]
mutual
def ExAt (w : World) (J : Nat → Prop) : Px.Ex → List Value → Prop
  | .mk op k n t nm args, vs => ∃ a c ls, vs = exV op k n t nm a args.length c ∧ SlAt w J a args.length c 6 ls ∧ ExsAt w J args ls
def ExsAt (w : World) (J : Nat → Prop) : List Px.Ex → List Value → Prop
  | [], ls => ls = []
  | e :: l, ls => ∃ x m, ls = x ++ m ∧ ExAt w J e x ∧ ExsAt w J l m
end
theorem SlAt.move {w w' : World} {J J' : Nat → Prop} (hj : ∀ b, J b → b < w.heap.size → J' b ∧ w'.heap[b]? = w.heap[b]?) {a : Option Addr} {n c sz : Nat} {xs : List Value} (h : SlAt w J a n c sz xs) : SlAt w' J' a n c sz xs := by
  obtain ⟨h1, h2, h3⟩ := h
  refine ⟨h1, h2, h3.imp id ?_⟩
  rintro ⟨b, o, e, hI, hb, hc⟩
  obtain ⟨k1, k2⟩ := hj b hI hb
  refine ⟨b, o, e, k1, ?_, fun j u hu => by rw [World.cell?_of_block (w := w) k2]; exact hc j u hu⟩
  rw [Array.getElem?_eq_getElem hb] at k2
  exact (Array.getElem?_eq_some_iff.1 k2).1
mutual
theorem ExAt.move {w w' : World} {J J' : Nat → Prop} (hj : ∀ b, J b → b < w.heap.size → J' b ∧ w'.heap[b]? = w.heap[b]?) : ∀ {e : Px.Ex} {vs : List Value}, ExAt w J e vs → ExAt w' J' e vs
  | .mk op k n t nm args, vs, h => by
    simp only [ExAt] at h ⊢
    obtain ⟨a, c, ls, h1, h2, h3⟩ := h
    exact ⟨a, c, ls, h1, SlAt.move hj h2, ExsAt.move hj h3⟩
theorem ExsAt.move {w w' : World} {J J' : Nat → Prop} (hj : ∀ b, J b → b < w.heap.size → J' b ∧ w'.heap[b]? = w.heap[b]?) : ∀ {l : List Px.Ex} {ls : List Value}, ExsAt w J l ls → ExsAt w' J' l ls
  | [], ls, h => by simp only [ExsAt] at h ⊢; exact h
  | e :: l, ls, h => by
    simp only [ExsAt] at h ⊢
    obtain ⟨x, m, h1, h2, h3⟩ := h
    exact ⟨x, m, h1, ExAt.move hj h2, ExsAt.move hj h3⟩
end
/-- and it stays, and is new -/
def ExS (W : Wd) (n0 : Nat) (e : Px.Ex) (vs : List Value) : Prop := ExAt W.w (fun b => W.I b ∧ n0 ≤ b) e vs
theorem ExS.ext {W W' : Wd} {n0 : Nat} {e : Px.Ex} {vs : List Value} (h : ExS W n0 e vs) (x : Ext W W') : ExS W' n0 e vs :=
  ExAt.move (fun b hb _ => ⟨⟨x.sub b hb.1, hb.2⟩, x.keep b hb.1⟩) h
theorem ExAt.stay {W : Wd} {w : World} {n0 n1 : Nat} {e : Px.Ex} {vs : List Value} (h : ExAt w (fun b => n1 ≤ b) e vs) (hw : W.w = w) (hn : NewIn n1 W) (h0 : n0 ≤ n1) : ExS W n0 e vs := by
  subst hw
  exact ExAt.move (fun b hb hl => ⟨⟨hn b hb hl, Nat.le_trans h0 hb⟩, rfl⟩) h
theorem ExS.new {W : Wd} {n0 : Nat} {e : Px.Ex} {vs : List Value} (h : ExS W n0 e vs) : ExAt W.w (fun b => n0 ≤ b) e vs := ExAt.move (fun b hb _ => ⟨hb.2, rfl⟩) h
theorem ExAt.len {w : World} {J : Nat → Prop} {e : Px.Ex} {vs : List Value} (h : ExAt w J e vs) : vs.length = 6 := by
  cases e
  simp only [ExAt] at h
  obtain ⟨a, c, ls, rfl, _⟩ := h
  rfl
theorem ExAt.shape {w : World} {J : Nat → Prop} {e : Px.Ex} {vs : List Value} (h : ExAt w J e vs) : ∃ (op k n : Int) (t nm : ByteArray) (a : Option Addr) (len c : Nat), vs = [.int .u8 op, .int .u8 k, .int .i64 n, .string t, .string nm, .slice a len c] := by
  cases e
  simp only [ExAt] at h
  obtain ⟨a, c, ls, rfl, _⟩ := h
  exact ⟨_, _, _, _, _, _, _, _, rfl⟩
theorem ExAt.leaf (w : World) (J : Nat → Prop) (op k n : Int) (t nm : Lx.Bs) : ExAt w J (.mk op k n t nm []) (exV op k n t nm none 0 0) := by
  simp only [ExAt, ExsAt]
  exact ⟨none, 0, [], rfl, SlAt.nil _ _ _, rfl⟩
theorem blk_slJ {w : World} {J : Nat → Prop} {b : Nat} {cs : List Value} {ty : TypeId} (h : w.heap[b]? = some (.cells cs.toArray ty)) (hJ : J b) {n sz : Nat} (hl : cs.length = n * sz) : SlAt w J (some ⟨b, 0, none⟩) n n sz cs := by
  refine ⟨hl, Nat.le_refl _, .inr ⟨b, 0, rfl, hJ, (Array.getElem?_eq_some_iff.1 h).1, fun j u hu => ?_⟩⟩
  simp [World.cell?, h, hu]
theorem ExAt.one {w : World} {J : Nat → Prop} {b : Nat} {x : Px.Ex} {vs : List Value} {ty : TypeId} (h : w.heap[b]? = some (.cells vs.toArray ty)) (hJ : J b) (hx : ExAt w J x vs) (o : Int) : ExAt w J (Px.op1 o x) (exV o 0 0 [] [] (some ⟨b, 0, none⟩) 1 1) := by
  simp only [Px.op1, ExAt, ExsAt]
  exact ⟨_, 1, vs, rfl, blk_slJ h hJ (by rw [hx.len]; simp), vs, [], by simp, hx, rfl⟩
theorem ExAt.two {w : World} {J : Nat → Prop} {b : Nat} {x y : Px.Ex} {vs us : List Value} {ty : TypeId} (h : w.heap[b]? = some (.cells (vs ++ us).toArray ty)) (hJ : J b) (hx : ExAt w J x vs) (hy : ExAt w J y us) (o : Int) : ExAt w J (Px.op2 o x y) (exV o 0 0 [] [] (some ⟨b, 0, none⟩) 2 2) := by
  simp only [Px.op2, ExAt, ExsAt]
  exact ⟨_, 2, vs ++ us, rfl, blk_slJ h hJ (by rw [List.length_append, hx.len, hy.len]; simp), vs, us, rfl, hx, us, [], by simp, hy, rfl⟩

/-! ### a sign that must be there -/
def MustEnd (m : Nat) (a : Option Addr) (c : Nat) (ts : List Lx.Tok) (s : Lx.Bs) (e : Ending) (w' : World) : Prop := match Px.sign s ts with
  | none => e = .panicked bad
  | some r => ∃ a' c', e = .returned (.tuple #[]) ∧ w'.heap[m]? = some (.cells #[.slice a' r.length c'] 91) ∧ TokSub a c ts a' c' r
theorem but_not (W : Wd) (m : Nat) : ¬ (W.but [m]).I m := fun h => h.2 (List.mem_singleton.2 rfl)
theorem must_e (m : Nat) (a : Option Addr) (c : Nat) (ts : List Lx.Tok) (s : ByteArray) (W : Wd) (hm : W.w.heap[m]? = some (.cells #[.slice a ts.length c] 91)) (hI : ¬ W.I m) (hT : Toks W a c ts) :
    CallsE Tryz.prog 117 #[.pointer (some ⟨m, 0, none⟩), .string s] W (MustEnd m a c ts s.data.toList) := by
  refine vc_must ts.length c s a m W _ hm hI ?_
  refine den_call fun hb _ => CallsE.mono (sign_e m a c ts s (W.but [m]) hm (but_not W m) (hT.ext (ext_but (Ext.refl W) hI))) fun e w' hk ⟨a1, c1, r1, b1, he, hh, hs, hc⟩ => ?_
  subst he
  refine ⟨r1.length, c1, b1, a1, rfl, fun b hb => by obtain rfl := List.mem_singleton.1 hb; exact hh, fun W2 e2 x2 n2 => ?_⟩
  simp only [Env.push, List.cons_append, List.nil_append, List.append_nil]
  refine den_br (fun c => den_pan ?_) fun c => den_ret fun hb _ _ => ?_
  · have c : b1 = false := by simpa [Sy.dens, Sy.den, E.i, E.b, E.t, gd, Env.push, List.cons_append, List.nil_append, List.append_nil, Int.toNat_natCast] using c
    rcases hc with ⟨hc, _⟩ | ⟨_, hc, _⟩
    · rw [c] at hc; cases hc
    · unfold MustEnd; rw [hc]; rfl
  · have c : b1 = true := by simpa [Sy.dens, Sy.den, E.i, E.b, E.t, gd, Env.push, List.cons_append, List.nil_append, List.append_nil, Int.toNat_natCast] using c
    rcases hc with ⟨_, hc⟩ | ⟨hc, _⟩
    · unfold MustEnd; rw [hc]
      exact ⟨a1, c1, rfl, hb _ (List.mem_singleton.2 rfl), hs⟩
    · rw [c] at hc; cases hc
end Go.Proofs.YtckgdgkkmhochaaGreatDoor
