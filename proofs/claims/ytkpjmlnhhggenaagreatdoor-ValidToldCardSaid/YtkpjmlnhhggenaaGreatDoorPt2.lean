/- Texts of the claim, one behind the other: SfD VcLex Shelf LxPlain. -/
import Derived.Test.YtkpjmlnhhggenaaGreatDoorPt1
import Derived.Lib.ConvBytes
import Derived.Lib.AtoiErrMem
import Derived.Laws.AppendOwn
import Derived.LoopN
import Derived.Deep.LoopGhost
import Derived.Test.YtkpjmlnhhggenaaGreatDoorProg
import Derived.Shelf.Strings.Trim
import Derived.Shelf.Small.Utf8
import Derived.Shelf.Small.Strs
import Derived.Shelf.Strconv.Itoa0
import Derived.Shelf.Strconv.Itoa1
import Derived.Shelf.LaysM
import Derived.Shelf.Strconv.Itoa2
import Derived.Shelf.Strconv.Itoa3
import Derived.Shelf.Strconv.ParseIntEmpty
import Derived.Shelf.Strconv.Clone
import Derived.Shelf.Strconv.SyntaxError
import Derived.Shelf.LaysC
import Derived.Shelf.Strconv.ToError
import Derived.Shelf.Strconv.Lower
import Derived.Shelf.Strconv.ParseUint10
import Derived.Shelf.Strconv.ParseUint10Empty
import Derived.Shelf.Strconv.ParseUint10Any
import Derived.Shelf.Strconv.ParseInt10
import Derived.Shelf.Strconv.RangeError
import Derived.Shelf.Strconv.ToErrorRange
import Derived.Shelf.Strconv.ParseUintEmpty
import Derived.Shelf.Strconv.ParseUint10b64
import Derived.Shelf.Strconv.ParseUint10b32
import Derived.Shelf.Strconv.ParseUint10b16
import Derived.Shelf.Strconv.ParseUint10b8
import Derived.Shelf.Strconv.ParseUint10At
import Derived.Shelf.Strconv.ParseInt10At64
import Derived.Shelf.Strconv.ParseInt10At32
import Derived.Shelf.Strconv.ParseInt10At16
import Derived.Shelf.Strconv.ParseInt10At8
import Derived.Shelf.Strconv.ParseInt10All
import Derived.Shelf.Strconv.ParseIntPublic10
import Derived.Shelf.Strconv.ErrVarParseInt
import Derived.Shelf.Strings.Search1
import Derived.Shelf.Strings.Search2
import Derived.Shelf.Strings.Cut
import Derived.Shelf.Strings.Shaped
import Derived.Shelf.Strings.Prefix
import Derived.Shelf.Unicode.Decode
import Derived.Shelf.Strings.Runes
import Derived.Shelf.Strings.AsciiSet
import Derived.Shelf.Unicode.DecodeSlow
import Derived.Shelf.Unicode.DecodeAny
import Derived.Shelf.Slices.Turned
import Derived.Shelf.Slices.Equal
import Derived.Ground.Names2Prog
import Derived.Shelf.Slices.Clone
import Derived.Shelf.Slices.Empties2
import Derived.Lib.ParseIntB
import Derived.Lib.IndexMore
import Derived.Lib.Join
set_option linter.unusedSimpArgs false
set_option linter.unusedVariables false
section
/- The walk that the kernel computes: symbolic values and worlds, and that they are sound. -/
section
namespace Go.SF
open Go Go.RowKit
variable {P : Program}
def KOk (P : Program) (N : Nat) (W0 : Wd) (R : Ending → World → Prop) (L : Lv) (ρ : Env) (W : Wd) (n : Nat) (K : St → Option Tree) (Q : Act → World → Prop) : Prop :=
 ∀ s' t' e a' W', K s' = some t' → Ext W W' → s'.lp = n → Holds N W0 (ρ.push e) s' a' W' → t'.den P N R L (ρ.push e) W' → Q a' W'.w
structure PanOk (W0 : Wd) (R : Ending → World → Prop) (Q : Exit → Act → World → Prop) : Prop where
 pan : ∀ ch a w', a.defers = [] → Keeps W0 w' → R (.panicked ch) w' → Q (.panic ch) a w'
 put : ∀ ch a d v w', Q (.panic ch) (Act.put a d v) w' → Q (.panic ch) a w'
theorem push_push (ρ d e : Env) : (ρ.push d).push e = ρ.push (d.push e) := by simp [Env.push]
theorem push_nil (ρ : Env) : ρ.push {} = ρ := by simp [Env.push]
theorem KOk.step {N : Nat} {W0 : Wd} {R : Ending → World → Prop} {L : Lv} {ρ d : Env} {W W1 : Wd} {n : Nat} {K : St → Option Tree} {Q : Act → World → Prop} (h : KOk P N W0 R L ρ W n K Q) (x : Ext W W1) : KOk P N W0 R L (ρ.push d) W1 n K Q :=
 fun s' t' e a' W' h1 hx hl h2 h3 => h s' t' (d.push e) a' W' h1 (x.trans hx) hl (by rw [← push_push]; exact h2) (by rw [← push_push]; exact h3)
theorem KOk.more {N : Nat} {W0 : Wd} {R : Ending → World → Prop} {L : Lv} {ρ : Env} {W W1 : Wd} {n : Nat} {K : St → Option Tree} {Q : Act → World → Prop} (h : KOk P N W0 R L ρ W n K Q) (x : Ext W W1) : KOk P N W0 R L ρ W1 n K Q :=
 fun s' t' e a' W' h1 hx hl h2 h3 => h s' t' e a' W' h1 (x.trans hx) hl h2 h3
theorem map_some {α β : Type} {x : Option α} {f : α → β} {y : β} (h : x.map f = some y) : ∃ z, x = some z ∧ y = f z := by
 cases x with
 | none => cases h
 | some z => exact ⟨z, rfl, (Option.some.inj h).symm⟩
def InlOk (P : Program) (inl : Inl) : Prop :=
 ∀ f args ro c t, inl f args ro c = some t → ∀ (ρ : Env) (W : Wd) (R : Ending → World → Prop), ρ.cnt = c → ρ.good → BlksAt ρ ro W.w → t.den P W.w.heap.size R [] ρ W.all → CallsE P f (Sy.dens ρ args).toArray W.all R
theorem splice_ok {N : Nat} {W0 : Wd} {n0 : Nat} {R : Ending → World → Prop} {L : Lv} {ρ : Env} {a : Act} {W : Wd} : ∀ (t : Tree) (s : St) (k : Sy → St → Option Tree) (T : Tree), pureT s.c t = true → splice t s k = some T → Holds N W0 ρ s a W → T.den P n0 R L ρ W →
  ∃ v s' T', k v s' = some T' ∧ T'.den P n0 R L ρ W ∧ Holds N W0 ρ s' a W ∧ (s'.lp = s.lp ∧ s'.hp = s.hp ∧ s'.rw = s.rw ∧ s'.ro = s.ro) ∧ ∀ n1 W1 e, t.den P n1 (Ret fun u _ => u = v.den ρ) [] (ρ.push e) W1 := by
 intro t
 induction t with
 | ret v hp ro rw =>
  intro s k T hp hx hh hT
  refine ⟨v, s, T, hx, hT, hh, ⟨rfl, rfl, rfl, rfl⟩, fun n1 W1 e _ _ _ _ => ?_⟩
  simp only [pureT] at hp
  rw [← hh.cnt] at hp
  exact ⟨_, rfl, Sy.push ρ e v hp⟩
 | pan => intro s k T hp; simp [pureT] at hp
 | rlook => intro s k T hp; simp [pureT] at hp
 | app => intro s k T hp; simp [pureT] at hp
 | cells => intro s k T hp; simp [pureT] at hp
 | sub => intro s k T hp; simp [pureT] at hp
 | adr => intro s k T hp; simp [pureT] at hp
 | newf => intro s k T hp; simp [pureT] at hp
 | both => intro s k T hp; simp [pureT] at hp
 | callr => intro s k T hp; simp [pureT] at hp
 | rset => intro s k T hp; simp [pureT] at hp
 | rclr => intro s k T hp; simp [pureT] at hp
 | frz => intro s k T hp; simp [pureT] at hp
 | frzr => intro s k T hp; simp [pureT] at hp
 | pre => intro s k T hp; simp [pureT] at hp
 | br c t1 t2 ih1 ih2 =>
  intro s k T hp hx hh hT
  simp only [pureT, Bool.and_eq_true] at hp
  obtain ⟨⟨p1, p2⟩, p3⟩ := hp
  have hc : ∀ e, c.b (ρ.push e) = c.b ρ := fun e => (E.push ρ e c (by rw [hh.cnt]; exact p1)).2.1
  have left : c.b ρ = true → (∃ v s' T', k v s' = some T' ∧ T'.den P n0 R L ρ W ∧ Holds N W0 ρ s' a W ∧ (s'.lp = s.lp ∧ s'.hp = s.hp ∧ s'.rw = s.rw ∧ s'.ro = s.ro) ∧ ∀ n1 W1 e, t1.den P n1 (Ret fun u _ => u = v.den ρ) [] (ρ.push e) W1) →
    ∃ v s' T', k v s' = some T' ∧ T'.den P n0 R L ρ W ∧ Holds N W0 ρ s' a W ∧ (s'.lp = s.lp ∧ s'.hp = s.hp ∧ s'.rw = s.rw ∧ s'.ro = s.ro) ∧ ∀ n1 W1 e, (Tree.br c t1 t2).den P n1 (Ret fun u _ => u = v.den ρ) [] (ρ.push e) W1 := by
   rintro hb ⟨v, s', T', h1, h2, h3, h4, h5⟩
   exact ⟨v, s', T', h1, h2, h3, h4, fun n1 W1 e => ⟨fun _ => h5 n1 W1 e, fun h => by rw [hc, hb] at h; cases h⟩⟩
  have right : c.b ρ = false → (∃ v s' T', k v s' = some T' ∧ T'.den P n0 R L ρ W ∧ Holds N W0 ρ s' a W ∧ (s'.lp = s.lp ∧ s'.hp = s.hp ∧ s'.rw = s.rw ∧ s'.ro = s.ro) ∧ ∀ n1 W1 e, t2.den P n1 (Ret fun u _ => u = v.den ρ) [] (ρ.push e) W1) →
    ∃ v s' T', k v s' = some T' ∧ T'.den P n0 R L ρ W ∧ Holds N W0 ρ s' a W ∧ (s'.lp = s.lp ∧ s'.hp = s.hp ∧ s'.rw = s.rw ∧ s'.ro = s.ro) ∧ ∀ n1 W1 e, (Tree.br c t1 t2).den P n1 (Ret fun u _ => u = v.den ρ) [] (ρ.push e) W1 := by
   rintro hb ⟨v, s', T', h1, h2, h3, h4, h5⟩
   exact ⟨v, s', T', h1, h2, h3, h4, fun n1 W1 e => ⟨fun h => (by rw [hc, hb] at h; cases h), fun _ => h5 n1 W1 e⟩⟩
  simp only [splice] at hx
  split at hx
  ·rename_i hd
   exact left (dec_ok hh.kn c hd) (ih1 s k T p2 hx hh hT)
  ·rename_i hd
   exact right (dec_ok hh.kn c hd) (ih2 s k T p3 hx hh hT)
  ·split at hx
   ·rename_i u1 u2 h1 h2
    obtain rfl := Option.some.inj hx
    cases hb : c.b ρ
    ·exact right hb (ih2 { s with kn := know c false s.kn } k u2 p3 h2 (hh.learn hb) (hT.2 hb))
    ·exact left hb (ih1 { s with kn := know c true s.kn } k u1 p2 h1 (hh.learn hb) (hT.1 hb))
   ·cases hx
 | chk c t ih =>
  intro s k T hp hx hh hT
  simp only [pureT, Bool.and_eq_true] at hp
  simp only [splice] at hx
  obtain ⟨u, hu, rfl⟩ := map_some hx
  obtain ⟨hc, hd⟩ := chks_den hh.kn hT
  have hh' : Holds N W0 ρ { s with kn := learns s.kn [c] } a W := hh.knows (learns_ok hh.kn hc)
  obtain ⟨v, s', T', h1, h2, h3, h4, h5⟩ := ih { s with kn := learns s.kn [c] } k u hp.2 hu hh' hd
  refine ⟨v, s', T', h1, h2, h3, h4, fun n1 W1 e => ⟨?_, h5 n1 W1 e⟩⟩
  rw [(E.push ρ e c (by rw [hh.cnt]; exact hp.1)).2.1]
  exact hc.1
 | new t ih =>
  intro s k T hp hx hh hT
  obtain ⟨v, s', T', h1, h2, h3, h4, h5⟩ := ih s k T hp hx hh hT
  exact ⟨v, s', T', h1, h2, h3, h4, fun n1 W1 e m W' _ _ => by rw [push_push]; exact h5 n1 W' _⟩
 | wr t ih =>
  intro s k T hp hx hh hT
  obtain ⟨v, s', T', h1, h2, h3, h4, h5⟩ := ih s k T hp hx hh hT
  exact ⟨v, s', T', h1, h2, h3, h4, fun n1 W1 e W' _ => h5 n1 W' e⟩
 | grow t ih =>
  intro s k T hp hx hh hT
  obtain ⟨v, s', T', h1, h2, h3, h4, h5⟩ := ih s k T hp hx hh hT
  exact ⟨v, s', T', h1, h2, h3, h4, fun n1 W1 e W' _ => h5 n1 W' e⟩
 | call => intro s k T hp; simp [pureT] at hp
 | callq => intro s k T hp; simp [pureT] at hp
 | look => intro s k T hp; simp [pureT] at hp
 | loop => intro s k T hp; simp [pureT] at hp
 | again => intro s k T hp; simp [pureT] at hp
 | byt => intro s k T hp; simp [pureT] at hp
 | join => intro s k T hp; simp [pureT] at hp
theorem useInl_ok {inl : Inl} {f : FuncId} {args : List Sy} {s : St} {t : Tree} (h : useInl inl f args s = some t) : pureT s.c t = true ∧ inl f args (s.hp ++ s.ro) s.c = some t := by
 unfold useInl at h
 split at h
 ·rename_i u hu
  split at h
  ·rename_i hp; obtain rfl := Option.some.inj h; exact ⟨hp, hu⟩
  ·cases h
 ·cases h
theorem both_at {ρ : Env} {a b : List Blk} {w : World} (h : BlksAt ρ a w) (k : BlksAt ρ b w) : BlksAt ρ (a ++ b) w := fun x hx => (List.mem_append.1 hx).elim (h x) (k x)
theorem allB_or {ρ : Env} {G : E} (hG : G.b ρ = true) : ∀ {cs : List E}, allB ρ (cs.map (borE (notE G))) → allB ρ cs
 | [], _ => trivial
 | e :: _, h => ⟨by have := h.1; rw [borE_b, notE_b, hG] at this; simpa using this, allB_or hG h.2⟩
theorem Keeps.start {W0 W : Wd} {w' : World} (x : Ext W0 W) (h : Keeps W w') : Keeps W0 w' :=
 ⟨h.os.trans x.os, h.tape.trans x.tape, h.output.trans x.output, Nat.le_trans x.size h.size, fun b hb => (h.keep b (x.sub b hb)).trans (x.keep b hb)⟩
theorem muIn_notI {N : Nat} {W0 : Wd} {ρ : Env} {s : St} {a : Act} {W : Wd} (h : Holds N W0 ρ s a W) {mu : List Blk} (hmu : muIn s.hp mu = true) {b : Nat} (hI : W.I b) : b ∉ blkNos ρ mu := fun hb => by
 obtain ⟨x, hx, rfl⟩ := List.mem_map.1 hb
 have := List.all_eq_true.1 hmu x hx
 cases hf : findB s.hp x.m with
 | none => rw [hf] at this; cases this
 | some y =>
  obtain ⟨h1, h2⟩ := findB_mem hf
  rw [← h2] at hI
  exact h.own y h1 hI
theorem simS_ok {c : Cnt} {kn : Kn} {x : Sy} (h : x.ok c = true) : (simS kn x).ok c = true := by
 unfold simS
 split
 ·rename_i g w s
  simp only [Sy.ok, Bool.and_eq_true] at h
  split
  ·split
   ·exact h.2
   ·rfl
  ·simp only [Sy.ok, Bool.and_eq_true]; exact h
 ·exact h
theorem ok_simT {s : St} {kn : Kn} (h : s.ok = true) : St.ok { s with tm := simT kn s.tm } = true := by
 simp only [St.ok, Bool.and_eq_true] at h ⊢
 refine ⟨⟨⟨⟨?_, h.1.1.1.2⟩, h.1.1.2⟩, h.1.2⟩, h.2⟩
 refine List.all_eq_true.2 fun p hp => ?_
 obtain ⟨q, hq, rfl⟩ := List.mem_map.1 hp
 have := List.all_eq_true.1 h.1.1.1.1 q hq
 revert this
 cases hq2 : q.2 with
 | none => exact fun _ => by simp [Sy.okO]
 | some y => intro h; simp only [Option.map_some, Sy.okO] at h ⊢; exact simS_ok h
theorem rlook_mem {N : Nat} {W0 : Wd} {ρ : Env} {s : St} {a : Act} {W : Wd} (h : Holds N W0 ρ s a W) {o : Oper} {t : TypeId} {p : Sy} {r : RowS} (hx : xeff P s o.op = some (.rlook t p r)) : r ∈ s.rw := by
 obtain ⟨dst, op, oty, pos, after, guard⟩ := o
 dsimp only at hx
 cases op <;> simp only [xeff] at hx <;> try (cases hx; done)
 case load t' p' =>
  (repeat' split at hx) <;> first | (cases hx; done) | skip
  rename_i he _ _ hr
  have e := Option.some.inj hx
  injection e with e1 e2 e3
  subst e1 e2 e3
  exact rowAt_mem hr
 case slice => rcases xslice_is hx with ⟨_, _, _, _, _, _, e⟩ | ⟨_, _, _, e⟩ <;> cases e
 case call c =>
  rcases xcallE_is hx with ⟨f, _, h1⟩ | ⟨_, h1⟩
  ·obtain ⟨_, _, e⟩ := xcallv_is h1; cases e
  ·rcases xappend_is h1 with ⟨_, _, _, _, _, e⟩ | ⟨_, _, _, _, _, _, e⟩ <;> cases e
 all_goals ((repeat' split at hx) <;> first | (cases hx; done) | (obtain ⟨r, hr, e⟩ := Option.map_eq_some_iff.1 hx; cases e; done) | (obtain ⟨_, _, _, _, _, e⟩ := xmake_app hx; cases e; done) | skip)
theorem Tm.put_of {ρ : Env} {n : Nat} {tm tm' : Tm} {a : Act} {d : Option Nat} {v : Value} {x : Sy} (h : Tm.at ρ tm a.eval) (hn : a.tmps.size = n) (h' : Tm.at ρ (putS n tm' d (some x)) (a.put d v).eval) : Tm.at ρ (putS n tm d (some x)) (a.put d v).eval := by
 cases d with
 | none => exact h
 | some d =>
  by_cases hd : Nat.ble (d + 1) n = true
  ·have e : ∀ tm : Tm, putS n tm (some d) (some x) = (d, some x) :: tm := fun tm => by simp only [putS]; rw [if_pos hd]
   rw [e] at h' ⊢
   intro o y ho
   cases o with
   | tmp t =>
    simp only [evS] at ho
    by_cases ht : d = t
    ·subst ht
     rw [getT_same] at ho
     exact h' (.tmp d) y (by simp only [evS]; rw [getT_same]; exact ho)
    ·rw [getT_other _ _ ht] at ho
     have := h (.tmp t) y ho
     simp only [Act.put, Act.eval, Array.getD_eq_getD_getElem?] at this ⊢
     rw [Array.getElem?_setIfInBounds_ne ht]
     exact this
   | const c => exact h (.const c) y ho
   | global g => exact h (.global g) y ho
   | func f => exact h (.func f) y ho
  ·have e : ∀ tm : Tm, putS n tm (some d) (some x) = tm := fun tm => by simp only [putS]; rw [if_neg hd]
   have hge : a.tmps.size ≤ d := by
    rw [hn]
    rcases Nat.lt_or_ge d n with h1 | h1
    ·exact absurd (Nat.ble_eq_true_of_le h1) hd
    ·exact h1
   have e2 : a.put (some d) v = a := by
    simp only [Act.put]
    rw [Array.setIfInBounds_eq_of_size_le hge]
   rw [e, e2]
   exact h
theorem tm_push {N : Nat} {W0 : Wd} {ρ d : Env} {s : St} {a : Act} {W : Wd} (h : Holds N W0 ρ s a W) (ho : s.ok = true) : Tm.at (ρ.push d) s.tm a.eval := by
 simp only [St.ok, Bool.and_eq_true] at ho
 exact okO_push h.tm (by rw [h.cnt]; exact ho.1.1.1.1)
theorem app_tm {N : Nat} {W0 : Wd} {ρ d : Env} {s : St} {a : Act} {W W' : Wd} (h : Holds N W0 ρ s a W) (ho : s.ok = true) {dst : Option Nat} {v : Value} {r : RowS} {rw : List RowS} {k : E} {xs : List Seg} {kn : Kn}
  (h' : Holds N W0 (ρ.push d) (appSt { s with tm := simT kn s.tm } dst r rw k xs) (a.put dst v) W') : Tm.at (ρ.push d) (appSt s dst r rw k xs).tm (a.put dst v).eval :=
 Tm.put_of (tm_push h ho) h.len h'.tm
theorem app_tm' {N : Nat} {W0 : Wd} {ρ d d2 : Env} {s : St} {a : Act} {W W' : Wd} (h : Holds N W0 ρ s a W) (ho : s.ok = true) {dst : Option Nat} {v : Value} {r : RowS} {rw : List RowS} {k : E} {xs : List Seg} {kn : Kn} {c : Cnt}
  (h' : Holds N W0 ((ρ.push d).push d2) (appSt { s with tm := simT kn s.tm, c := c } dst r rw k xs) (a.put dst v) W') : Tm.at ((ρ.push d).push d2) (appSt { s with c := c } dst r rw k xs).tm (a.put dst v).eval := by
 have h1 := tm_push (d := d.push d2) h ho
 rw [← push_push] at h1
 exact Tm.put_of h1 h.len h'.tm
theorem sub_holds {N : Nat} {W0 : Wd} {ρ : Env} {s : St} {a : Act} {W : Wd} (h : Holds N W0 ρ s a W) (ho : s.ok = true) {aa : Nat} {lo hi c m : E} {sz : Nat} (hhi : hi.ok s.c = true) (hco : c.ok s.c = true) (dst : Option Nat) :
  Holds N W0 (ρ.push { A := [subA (gd ρ.A aa none) (lo.i ρ).toNat (c.i ρ).toNat sz], N := [(hi.i ρ).toNat - (lo.i ρ).toNat, (c.i ρ).toNat - (lo.i ρ).toNat] }) (subSt s dst lo hi c)
   (a.put dst (.slice (subA (gd ρ.A aa none) (lo.i ρ).toNat (c.i ρ).toNat sz) ((hi.i ρ).toNat - (lo.i ρ).toNat) ((c.i ρ).toNat - (lo.i ρ).toNat))) W := by
 generalize hA' : subA (gd ρ.A aa none) (lo.i ρ).toNat (c.i ρ).toNat sz = A'
 generalize hd' : ({ A := [A'], N := [(hi.i ρ).toNat - (lo.i ρ).toNat, (c.i ρ).toNat - (lo.i ρ).toNat] } : Env) = d
 have hdg : d.good := by rw [← hd']; exact fun v hv => by cases hv
 have h0 := h.push ho hdg
 have hdc : d.cnt = { A := 1, N := 2 } := by rw [← hd']; rfl
 rw [hdc] at h0
 have hA : gd (ρ.push d).A s.c.A none = A' := by
  rw [← hd']
  show gd (ρ.A ++ [A']) s.c.A none = _
  rw [← h.cnt]; exact gd_last _ _ _
 have hlen : ρ.N.length = s.c.N := by rw [← h.cnt]; rfl
 have hN0 : gd (ρ.push d).N s.c.N 0 = (hi.i ρ).toNat - (lo.i ρ).toNat := by
  rw [← hd']
  show gd (ρ.N ++ [_, _]) s.c.N 0 = _
  exact gd_len _ _ _ _ _ hlen
 have hN1 : gd (ρ.push d).N (s.c.N + 1) 0 = (c.i ρ).toNat - (lo.i ρ).toNat := by
  rw [← hd']
  show gd (ρ.N ++ [_, _]) (s.c.N + 1) 0 = _
  rw [show ∀ x y : Nat, ρ.N ++ [x, y] = (ρ.N ++ [x]) ++ [y] from fun x y => by simp]
  exact gd_len _ _ _ _ _ (by simp [hlen])
 have e1 : ((subN s lo hi).i (ρ.push d)).toNat = (hi.i ρ).toNat - (lo.i ρ).toNat := by
  unfold subN
  split
  ·split
   ·rw [(E.push ρ d hi (by rw [h.cnt]; exact hhi)).1]; simp [E.i]
   ·simp only [E.i, hN0, Int.toNat_natCast]
  ·simp only [E.i, hN0, Int.toNat_natCast]
 have e2 : ((subC s lo c).i (ρ.push d)).toNat = (c.i ρ).toNat - (lo.i ρ).toNat := by
  unfold subC
  split
  ·split
   ·rw [(E.push ρ d c (by rw [h.cnt]; exact hco)).1]; simp [E.i]
   ·simp only [E.i, hN1, Int.toNat_natCast]
  ·simp only [E.i, hN1, Int.toNat_natCast]
 exact h0.put dst _ (some (.slc s.c.A (subN s lo hi) (subC s lo c))) fun y hy => by
  obtain rfl := Option.some.inj hy
  simp only [Sy.den, hA, e1, e2]
theorem adr_holds {N : Nat} {W0 : Wd} {ρ : Env} {s : St} {a : Act} {W : Wd} (h : Holds N W0 ρ s a W) (ho : s.ok = true) (ad : Addr) (m c : Nat) (dst : Option Nat) :
  Holds N W0 (ρ.push { A := [some ad] }) { s with tm := putS s.n s.tm dst (some (.slc s.c.A (.il m) (.il c))), c := s.c.add { A := 1 } } (a.put dst (.slice (some ad) m c)) W := by
 have h0 := h.push (d := { A := [some ad] }) ho (fun v hv => by cases hv)
 have hA : gd (ρ.push { A := [some ad] }).A s.c.A none = some ad := by
  show gd (ρ.A ++ [some ad]) s.c.A none = _
  rw [← h.cnt]; exact gd_last _ _ _
 exact h0.put dst _ (some (.slc s.c.A (.il m) (.il c))) fun y hy => by
  obtain rfl := Option.some.inj hy
  simp only [Sy.den, hA, E.i, Int.toNat_natCast]
theorem adrE_holds {N : Nat} {W0 : Wd} {ρ : Env} {s : St} {a : Act} {W : Wd} (h : Holds N W0 ρ s a W) (ho : s.ok = true) (ad : Addr) (i : E) (hi : i.ok s.c = true) (z : Nat) (dst : Option Nat) {kn : Kn} (hk : Kn.holds (ρ.push { A := [some ad] }) kn) :
  Holds N W0 (ρ.push { A := [some ad] }) { s with tm := putS s.n s.tm dst (some (.elt s.c.A i z 0)), c := s.c.add { A := 1 }, kn := kn } (a.put dst (.pointer (some (ad.add ((i.i ρ).toNat * z + 0))))) W := by
 have h0 := h.push (d := { A := [some ad] }) ho (fun v hv => by cases hv)
 have hA : gd (ρ.push { A := [some ad] }).A s.c.A none = some ad := by
  show gd (ρ.A ++ [some ad]) s.c.A none = _
  rw [← h.cnt]; exact gd_last _ _ _
 have hI := (E.push ρ { A := [some ad] } i (by rw [h.cnt]; exact hi)).1
 have h1 := h0.put dst (.pointer (some (ad.add ((i.i ρ).toNat * z + 0)))) (some (.elt s.c.A i z 0)) fun y hy => by
  obtain rfl := Option.some.inj hy
  simp only [Sy.den, hA, hI, Option.getD_some]
 exact h1.knows hk
theorem kn_push {N : Nat} {W0 : Wd} {ρ d : Env} {s : St} {a : Act} {W : Wd} (h : Holds N W0 ρ s a W) (ho : s.ok = true) (hd : d.good) : Kn.holds (ρ.push d) s.kn := (h.push ho hd).kn
theorem adrChk_push {N : Nat} {W0 : Wd} {ρ d : Env} {s : St} {a : Act} {W : Wd} (h : Holds N W0 ρ s a W) {i : E} (hi : i.ok s.c = true) {n : Nat} (hc : allB ρ (adrChk i n)) : allB (ρ.push d) (adrChk i n) := by
 obtain ⟨c1, c2, _⟩ := hc
 have hI := (E.push ρ d i (by rw [h.cnt]; exact hi)).1
 refine ⟨?_, ?_, trivial⟩
 ·rw [leE_b] at c1 ⊢; rw [hI]; exact c1
 ·simp only [E.b] at c2 ⊢; rw [hI]; exact c2
theorem xeff_byt {N : Nat} {W0 : Wd} {ρ : Env} {s : St} {a : Act} {W : Wd} (h : Holds N W0 ρ s a W) {o : Oper} {e : E} (hx : xeff P s o.op = some (.byt e)) :
  ∃ el, (execOp a.eval o).run P W.w = .ok (.value (.slice (some ⟨W.w.heap.size, 0, none⟩) (e.t ρ).size (grownCap W.w (e.t ρ).size 0 el))) (Lib.bytesWorld W.w el (e.t ρ)) := by
 obtain ⟨dst, op, oty, pos, after, guard⟩ := o
 dsimp only at hx
 cases op <;> simp only [xeff] at hx <;> try (cases hx; done)
 case slice => rcases xslice_is hx with ⟨_, _, _, _, _, _, e⟩ | ⟨_, _, _, e⟩ <;> cases e
 case convert src dst' x =>
  split at hx
  ·rename_i el e' hs hd he
   split at hx
   ·rename_i hu8
    have e1 := Option.some.inj hx
    injection e1 with e1
    subst e1
    refine ⟨el, ?_⟩
    have hev := h.tm _ _ he
    simp only [Sy.den] at hev
    have := Lib.run_convert_string_bytes (P := P) W.w src dst' el (e'.t ρ) hs hd hu8
    simp [execOp, hev, this]
   ·cases hx
  ·cases hx
 case call c =>
  rcases xcallE_is hx with ⟨f, _, h1⟩ | ⟨_, h1⟩
  ·obtain ⟨_, _, e⟩ := xcallv_is h1; cases e
  ·rcases xappend_is h1 with ⟨_, _, _, _, _, e⟩ | ⟨_, _, _, _, _, _, e⟩ <;> cases e
 all_goals ((repeat' split at hx) <;> first | (cases hx; done) | (obtain ⟨r, hr, e⟩ := Option.map_eq_some_iff.1 hx; cases e; done) | (obtain ⟨_, _, _, _, _, e⟩ := xmake_app hx; cases e; done) | skip)
theorem xops_ok {cf : Cfg} {inl : Inl} (hI : InlOk P inl) {N : Nat} {W0 : Wd} {R : Ending → World → Prop} {L : Lv} {ops : Array Oper} {Q : Exit → Act → World → Prop} (hP : PanOk W0 R Q) {K : St → Option Tree} :
  ∀ (n : Nat) (l : List Oper) (s : St) (t : Tree) (ρ : Env) (a : Act) (W : Wd), xops P cf inl ops n l s K = some t → Holds N W0 ρ s a W → t.den P N R L ρ W →
   KOk P N W0 R L ρ W s.lp K (Q .normal) → wpList P ops Q l a W.w
 | n, [], s, t, ρ, a, W, hx, hh, ht, hK => by
  have hx : K s = some t := by cases n <;> exact hx
  have := hK s t {} a W hx (Ext.refl W) rfl (by rw [push_nil]; exact hh) (by rw [push_nil]; exact ht)
  exact this
 | 0, _ :: _, _, _, _, _, _, hx, _, _, _ => by cases hx
 | n + 1, o :: rest, s, t, ρ, a, W, hx, hh, ht, hK => by
  simp only [xops] at hx
  split at hx
  ·cases hx
  rename_i G hgE
  have hwG := gdE_ok hh hgE
  split at hx
  ·rename_i hd
   have hw : Region.wanted o (yielded ops a.tmps) = false := by rw [hwG]; exact dec_ok hh.kn G hd
   unfold wpList
   rw [if_neg (by rw [hw]; simp)]
   exact xops_ok hI hP n rest _ _ ρ _ W hx (hh.put o.dst undef _ (fun y hy => by obtain rfl := Option.some.inj hy; rfl)) ht hK
  ·split at hx
   ·rename_i cs v hv
    obtain ⟨u, hu, rfl⟩ := map_some hx
    obtain ⟨hc, hd⟩ := chks_den hh.kn ht
    have key : ∀ y : Value, y = (Sy.when G true v).den ρ → wpList P ops Q rest (a.put o.dst y) W.w := fun y hy => by
     have h1 := hh.put o.dst y (some (.when G true v)) (fun z hz => by obtain rfl := Option.some.inj hz; exact hy)
     exact xops_ok hI hP n rest _ _ ρ _ W hu (h1.knows (learns_ok hh.kn hc)) hd hK
    unfold wpList
    cases hG : G.b ρ
    ·rw [if_neg (by rw [hwG, hG]; simp)]
     exact key _ (by simp [Sy.den, hG])
    ·rw [if_pos (by rw [hwG, hG])]
     refine .inl ?_
     have hkn := know_ok G hh.kn hG
     have hr := xval_ok hv hh.good (simT_at hh.tm hkn) (both_at hh.hp hh.ro) hkn (allB_or hG hc)
     unfold Oper.wp
     rw [hr]
     exact key _ (by simp [Sy.den, hG])
   ·split at hx
    ·rename_i t1 t2 h1 h2
     obtain rfl := Option.some.inj hx
     cases hb : G.b ρ
     ·exact xops_ok hI hP n _ _ _ ρ a W h2 (hh.learn hb) (ht.2 hb) hK
     ·exact xops_ok hI hP n _ _ _ ρ a W h1 (hh.learn hb) (ht.1 hb) hK
    ·cases hx
  ·rename_i hdG
   have hw : Region.wanted o (yielded ops a.tmps) = true := by rw [hwG]; exact dec_ok hh.kn G hdG
   have hhS : Holds N W0 ρ { s with tm := simT s.kn s.tm } a W := hh.tms (simT_at hh.tm hh.kn)
   split at hx
   ·rename_i cs v hv
    obtain ⟨u, hu, rfl⟩ := map_some hx
    obtain ⟨hc, hd⟩ := chks_den hh.kn ht
    have hr := xval_ok hv hh.good (simT_at hh.tm hh.kn) (both_at hh.hp hh.ro) hh.kn hc
    unfold wpList
    rw [if_pos hw]
    refine .inl ?_
    unfold Oper.wp
    rw [hr]
    show wpList P ops Q rest (a.put o.dst (v.den ρ)) W.w
    have h1 := hh.put o.dst (v.den ρ) (some v) (fun y hy => by obtain rfl := Option.some.inj hy; rfl)
    exact xops_ok hI hP n rest _ _ ρ _ W hu (h1.knows (learns_ok hh.kn hc)) hd hK
   ·unfold wpList
    rw [if_pos hw]
    refine .inl ?_
    unfold Oper.wp
    split at hx
    ·rename_i ty cs v he
     split at hx
     ·rename_i m hst
      split at hx
      ·rename_i hok
       rw [Bool.and_eq_true] at hok
       obtain ⟨u, hu, rfl⟩ := map_some hx
       have hM : ρ.M.length = s.c.M := by rw [← hh.cnt]; rfl
       have hgd : gd (ρ.push { M := [W.w.heap.size] }).M s.c.M 0 = W.w.heap.size := by
        show gd (ρ.M ++ [W.w.heap.size]) s.c.M 0 = _
        rw [← hM]
        exact gd_last _ _ _
       rw [xeff_new hhS he hgd]
       have ev : v.den (ρ.push { M := [W.w.heap.size] }) = .slice (some ⟨W.w.heap.size, 0, none⟩) m m := by
        rw [stayN_is hst]; simp only [Sy.den, hgd]
       rw [ev]
       show wpList P ops Q rest (a.put o.dst _) (W.w.alloc _)
       have h2 := hh.newf hok.1 ty cs m o.dst
       have x := W.plusI_ext (.cells (Sy.dens ρ cs).toArray ty)
       have h3 := ht W.w.heap.size _ hh.nsz x (.inr rfl) (by show (W.w.heap.push _)[W.w.heap.size]? = _; simp)
       exact xops_ok hI hP n rest _ _ _ _ _ hu h2 h3 (hK.step x)
      ·cases hx
     split at hx
     ·rename_i m z hrn
      split at hx
      ·rename_i hok
       rw [Bool.and_eq_true] at hok
       obtain ⟨u, hu, rfl⟩ := map_some hx
       obtain ⟨ev0, q1, q2, q3⟩ := rowN_is hrn
       have hM : ρ.M.length = s.c.M := by rw [← hh.cnt]; rfl
       have hgd : gd (ρ.push { M := [W.w.heap.size] }).M s.c.M 0 = W.w.heap.size := by
        show gd (ρ.M ++ [W.w.heap.size]) s.c.M 0 = _
        rw [← hM]
        exact gd_last _ _ _
       rw [xeff_new hhS he hgd]
       have ev : v.den (ρ.push { M := [W.w.heap.size] }) = .slice (some ⟨W.w.heap.size, 0, none⟩) m m := by
        rw [ev0]; simp only [Sy.den, hgd]
       rw [ev]
       show wpList P ops Q rest (a.put o.dst _) (W.w.alloc _)
       obtain ⟨W', e1, x, h2⟩ := hh.newr hok.1 ty cs hok.2 q3 q2 q1 o.dst
       rw [← e1]
       have h3 := ht (some ⟨W.w.heap.size, 0, none⟩) m W' (fun _ => rfl) x
       exact xops_ok hI hP n rest _ _ _ _ _ hu h2 h3 (hK.step x)
      ·cases hx
     split at hx
     ·rename_i hok
      rw [Bool.and_eq_true] at hok
      obtain ⟨u, hu, rfl⟩ := map_some hx
      have hM : ρ.M.length = s.c.M := by rw [← hh.cnt]; rfl
      have hgd : gd (ρ.push { M := [W.w.heap.size] }).M s.c.M 0 = W.w.heap.size := by
       show gd (ρ.M ++ [W.w.heap.size]) s.c.M 0 = _
       rw [← hM]
       exact gd_last _ _ _
      rw [xeff_new hhS he hgd]
      show wpList P ops Q rest (a.put o.dst _) (W.w.alloc _)
      have h1 := hh.new hok.1 ty cs hok.2
      have h2 := h1.put o.dst (v.den (ρ.push { M := [W.w.heap.size] })) (some v) (fun y hy => by obtain rfl := Option.some.inj hy; rfl)
      have h3 := ht W.w.heap.size _ hh.nsz (W.plus_ext (.cells (Sy.dens ρ cs).toArray ty))
      exact xops_ok hI hP n rest _ _ _ _ _ hu h2 h3 (hK.step (W.plus_ext _))
     ·cases hx
    ·rename_i m cs he
     obtain ⟨u, hu, rfl⟩ := map_some hx
     obtain ⟨⟨b, hb⟩, hr⟩ := xeff_upd hhS he
     rw [hr]
     show wpList P ops Q rest (a.put o.dst undef) (W.w.setRow _ _)
     obtain ⟨h0, h1⟩ := hh.upd hb cs
     have h2 := h1.put o.dst undef (some undefS) (fun y hy => by obtain rfl := Option.some.inj hy; rfl)
     exact xops_ok hI hP n rest _ _ ρ _ _ hu h2 (ht _ h0) (hK.more h0)
    ·rename_i f args he
     split at hx
     ·rename_i ti hti
      obtain ⟨hpu, hin⟩ := useInl_ok hti
      obtain ⟨v, s', T', h1, h2, h3, h4, h5⟩ := splice_ok ti s _ t hpu hx hh ht
      obtain ⟨u, hu, rfl⟩ := map_some h1
      rw [xeff_call hhS he]
      show Calls P f _ W.w _
      have hc := hI f args _ s.c ti hin ρ W (Ret fun u _ => u = v.den ρ) hh.cnt hh.good (both_at hh.hp hh.ro) (by have := h5 W.w.heap.size W.all {}; rwa [push_nil] at this)
      refine Calls.mono hc ?_
      rintro e w' ⟨hb, v', rfl, rfl⟩
      have k1 := (h3.grow hb).put o.dst (v.den ρ) (some v) (fun y hy => by obtain rfl := Option.some.inj hy; rfl)
      have x1 := W.next_ext hb.all
      exact xops_ok hI hP n rest _ _ ρ _ (W.next w' hb.size) hu k1 (h2 _ x1) (by have := hK.more x1; rw [← h4.1] at this; exact this)
     split at hx
     ·rename_i ps qs hrws
      split at hx
      ·rename_i res c1 hs
       split at hx
       ·rename_i nr c' mr rw' hnr hgv
        split at hx
        ·rename_i hok
         obtain ⟨u, hu, rfl⟩ := map_some hx
         rw [xeff_call hhS he]
         show Calls P f _ W.w _
         have hperm := gives_spec hgv
         have hc := ht (reach_at (both_at hh.hp hh.ro)) hh.rw
         refine Calls.mono hc ?_
         rintro e w' ⟨hk, hR⟩
         cases e with
         | returned v =>
          obtain ⟨d, hd, hv, hnew, hden⟩ := ExE.out hR
          obtain ⟨hs0, h1⟩ := hh.calledR hok hd.2 hperm hk hnew
          have h2 := h1.put o.dst v (some res) (fun y hy => by obtain rfl := Option.some.inj hy; exact hv)
          rw [hd.1] at h2
          have x1 := W.nextB_ext hs0 (rowNos (ρ.push d) nr)
          exact xops_ok hI hP n rest _ _ _ _ _ hu h2 (hden _ rfl x1 (W.nextB_new hs0.size _)) (hK.step x1)
         | panicked ch =>
          refine hP.pan ch _ _ hh.df ?_ hR
          exact (hk.less (V := W) rfl fun b hb => ⟨W.lt b hb, hh.rowsI hperm hb⟩).start hh.ext
         | outgrown => exact hR.elim
        ·cases hx
       ·cases hx
      ·cases hx
     split at hx
     ·rename_i res c1 hs
      split at hx
      ·rename_i mu c' hmu
       split at hx
       ·rename_i hok
        rw [Bool.and_eq_true] at hok
        obtain ⟨u, hu, rfl⟩ := map_some hx
        rw [xeff_call hhS he]
        show Calls P f _ W.w _
        have hc := ht (reach_at (both_at hh.hp hh.ro)) (mu_apart hh hok.2 _) hh.rw
        refine Calls.mono hc ?_
        rintro e w' ⟨hk, hR⟩
        cases e with
        | returned v =>
         obtain ⟨d, hd, hv, hat, hden⟩ := ExE.out hR
         obtain ⟨hs0, h1⟩ := hh.called hok.1 hd.2 hok.2 hk hat
         have h2 := h1.put o.dst v (some res) (fun y hy => by obtain rfl := Option.some.inj hy; exact hv)
         rw [hd.1] at h2
         have x1 := W.next_ext hs0
         exact xops_ok hI hP n rest _ _ _ _ _ hu h2 (hden (W.next w' hs0.size) rfl x1 (W.next_new hs0.size)) (hK.step x1)
        | panicked ch =>
         refine hP.pan ch _ _ hh.df ?_ hR
         exact (hk.less (V := W) rfl fun b hb => ⟨W.lt b hb, muIn_notI hh hok.2 hb⟩).start hh.ext
        | outgrown => exact hR.elim
       ·cases hx
      ·cases hx
     ·cases hx
    ·rename_i t' p he
     split at hx
     ·rename_i res c' hs
      split at hx
      ·rename_i hok
       obtain ⟨u, hu, rfl⟩ := map_some hx
       obtain ⟨d, hd, hl, hden⟩ := ExE.out ht
       have hr := xeff_look hhS he (hl W (Ext.refl W))
       rw [hr]
       show wpList P ops Q rest (a.put o.dst _) W.w
       have h1 := hh.push hok hd.2
       have h2 := h1.put o.dst (res.den (ρ.push d)) (some res) (fun y hy => by obtain rfl := Option.some.inj hy; rfl)
       rw [hd.1] at h2
       exact xops_ok hI hP n rest _ _ _ _ _ hu h2 hden (hK.step (Ext.refl W))
      ·cases hx
     ·cases hx
    ·rename_i t' p r he
     split at hx
     ·rename_i res c' hs
      split at hx
      ·rename_i hok
       obtain ⟨u, hu, rfl⟩ := map_some hx
       obtain ⟨d, hd, hl, hden⟩ := ExE.out ht
       have hmem : r ∈ s.rw := rlook_mem hhS he
       have hr := (xeff_rlook hhS he (hl W.w (hh.rw r hmem))).2
       rw [hr]
       show wpList P ops Q rest (a.put o.dst _) W.w
       have h1 := hh.push hok hd.2
       have h2 := h1.put o.dst (res.den (ρ.push d)) (some res) (fun y hy => by obtain rfl := Option.some.inj hy; rfl)
       rw [hd.1] at h2
       exact xops_ok hI hP n rest _ _ _ _ _ hu h2 hden (hK.step (Ext.refl W))
      ·cases hx
     ·cases hx
    ·rename_i r rw k xs b he
     split at hx
     ·rename_i hok
      simp only [Bool.and_eq_true] at hok
      obtain ⟨⟨⟨⟨⟨o1, o2⟩, o3⟩, o4⟩, o5⟩, o6⟩ := hok
      obtain ⟨u, hu, rfl⟩ := map_some hx
      obtain ⟨hc, hd⟩ := chks_den hh.kn ht
      have okS : St.ok { s with tm := simT s.kn s.tm } = true := ok_simT o1
      obtain ⟨ad, c, w', W', hr, rfl, x1, x2, x3, _, _⟩ := xeff_app hhS okS he o2 o3 o4 o5 o6 hc.1
      rw [hr]
      have hh3 : Holds N W0 (ρ.push { A := [ad], N := [c] }) (appSt s o.dst r rw k xs) (a.put o.dst (.slice ad ((r.n.i ρ).toNat + (k.i ρ).toNat) c)) W' := x3.tms (app_tm hh o1 x3)
      exact xops_ok hI hP n rest _ _ _ _ W' hu hh3 (hd ad c W' x2 x1) (hK.step x1)
     ·cases hx
    ·rename_i r rw aa k c b he
     split at hx
     ·rename_i hok
      simp only [Bool.and_eq_true, decide_eq_true_eq] at hok
      obtain ⟨⟨⟨⟨⟨⟨⟨o1, o2⟩, o3⟩, o4⟩, o5⟩, o6⟩, o7⟩, o8⟩ := hok
      obtain ⟨u, hu, rfl⟩ := map_some hx
      obtain ⟨hc, hd⟩ := chks_den hh.kn ht
      have okS : St.ok { s with tm := simT s.kn s.tm } = true := ok_simT o1
      obtain ⟨l, l1, l2, l3, l4, hd⟩ := hd
      obtain ⟨ad, c', w', W', hr, rfl, x1, x2, x3, _, _⟩ := xeff_appf hhS okS he o2 o4 o5 o8 o3 hc.1 l1 l2 l3 (fun ad had j u hj => l4 ad had W (Ext.refl W) (fun q hq => hhS.rw q hq) j u hj)
      rw [hr]
      have hh3 : Holds N W0 ((ρ.push { L := [l] }).push { A := [ad], N := [c'] }) (appSt { s with c := s.c.add { L := 1 } } o.dst r rw k [.l s.c.L]) (a.put o.dst (.slice ad ((r.n.i ρ).toNat + (k.i ρ).toNat) c')) W' := x3.tms (app_tm' hh o1 x3)
      have hp : (addE r.n k).i (ρ.push { L := [l] }) = (addE r.n k).i ρ := by
       simp only [RowS.ok, Bool.and_eq_true] at o8
       rw [addE_i, addE_i, (E.push ρ _ _ (by rw [hh.cnt]; exact o8.1.2)).1, (E.push ρ _ _ (by rw [hh.cnt]; exact o5)).1]
      exact xops_ok hI hP n rest _ _ _ _ W' hu hh3 (hd ad c' W' (by rw [hp]; exact x2) x1) (by rw [push_push]; exact hK.step x1)
     ·cases hx
    ·rename_i aa lo hi c m z he
     split at hx
     ·rename_i hok
      simp only [Bool.and_eq_true] at hok
      obtain ⟨u, hu, rfl⟩ := map_some hx
      obtain ⟨hc, hd⟩ := chks_den hh.kn ht
      rw [(xeff_sub hhS he hc W.w).1]
      show wpList P ops Q rest (a.put o.dst _) W.w
      have h1 := sub_holds hh hok.1.1 (aa := aa) (lo := lo) (m := m) (sz := z) hok.1.2 hok.2 o.dst
      exact xops_ok hI hP n rest _ _ _ _ W hu h1 hd (hK.step (Ext.refl W))
     ·cases hx
    ·rename_i ad m c he
     split at hx
     ·rename_i hok
      obtain ⟨u, hu, rfl⟩ := map_some hx
      rw [xeff_adr hhS he]
      show wpList P ops Q rest (a.put o.dst _) W.w
      have h1 := adr_holds hh hok ad m c o.dst
      exact xops_ok hI hP n rest _ _ _ _ W hu h1 ht (hK.step (Ext.refl W))
     ·cases hx
    ·rename_i ad i0 m z he
     split at hx
     ·rename_i hok
      rw [Bool.and_eq_true] at hok
      obtain ⟨u, hu, rfl⟩ := map_some hx
      obtain ⟨hc, hd⟩ := chks_den hh.kn ht
      rw [xeff_adrE hhS he hc]
      show wpList P ops Q rest (a.put o.dst _) W.w
      have h1 := adrE_holds hh hok.1 ad i0 hok.2 z o.dst (learns_ok (kn_push hh hok.1 (fun v hv => by cases hv)) (adrChk_push hh hok.2 hc))
      exact xops_ok hI hP n rest _ _ _ _ W hu h1 hd (hK.step (Ext.refl W))
     ·cases hx
    ·rename_i q rw b0 b z vs he
     split at hx
     ·rename_i hok
      simp only [Bool.and_eq_true] at hok
      obtain ⟨⟨⟨⟨o1, o2⟩, o3⟩, o4⟩, o5⟩ := hok
      obtain ⟨u, hu, rfl⟩ := map_some hx
      obtain ⟨hc, hd⟩ := chks_den hh.kn ht
      have okS : St.ok { s with tm := simT s.kn s.tm } = true := ok_simT o1
      have hc1 : (0 : Int) ≤ b0.i ρ := by have := hc.1; rw [leE_b] at this; exact of_decide_eq_true this
      have hc2 : b0.i ρ < q.n.i ρ := of_decide_eq_true hc.2.1
      obtain ⟨w', W', hr, rfl, x1, x2⟩ := xeff_rset hhS okS he o2 hc1 hc2
      rw [hr]
      have h3 : Holds N W0 (ρ.push { L := [setL (conts ρ q.xs) ((b0.i ρ).toNat * z + b) (Sy.dens ρ vs)] }) (rsetSt s o.dst q rw) (a.put o.dst undef) W' := x2.tms (Tm.put_of (tm_push hh o1) hh.len x2.tm)
      exact xops_ok hI hP n rest _ _ _ _ W' hu h3 (hd W' x1) (hK.step x1)
     ·cases hx
    ·rename_i v he
     obtain rfl := Option.some.inj hx
     rw [xeff_pan hhS he]
     exact hP.pan _ _ _ hh.df (Keeps.of_ext hh.ext) ht
    ·rename_i e he
     split at hx
     ·rename_i hok
      rw [Bool.and_eq_true] at hok
      obtain ⟨u, hu, rfl⟩ := map_some hx
      obtain ⟨el, hr⟩ := xeff_byt hhS he
      rw [hr]
      have hk : Keeps (W.but (blkNos ρ [])) (Lib.bytesWorld W.w el (e.t ρ)) := (Keeps.of_below (Lib.bytesWorld_below W.w el (e.t ρ))).less (V := W.but (blkNos ρ [])) rfl fun b hb => hb.1
      obtain ⟨hs0, h1⟩ := hh.called (d := { A := [some ⟨W.w.heap.size, 0, none⟩], N := [grownCap W.w (e.t ρ).size 0 el] }) hok.1 (fun v hv => by cases hv) (mu := []) rfl hk (fun b hb => by cases hb)
      have e0 : s.hp.map (replB []) = s.hp := by
       have : ∀ l : List Blk, l.map (replB []) = l := fun l => by
        induction l with
        | nil => rfl
        | cons b l ih => rw [List.map_cons, ih]; rfl
       exact this _
      have hA : ρ.A.length = s.c.A := by rw [← hh.cnt]; rfl
      have hNn : ρ.N.length = s.c.N := by rw [← hh.cnt]; rfl
      have ev : (Sy.slc s.c.A (.un .len e) (.nv s.c.N)).den (ρ.push { A := [some ⟨W.w.heap.size, 0, none⟩], N := [grownCap W.w (e.t ρ).size 0 el] }) = .slice (some ⟨W.w.heap.size, 0, none⟩) (e.t ρ).size (grownCap W.w (e.t ρ).size 0 el) := by
       have g1 : gd (ρ.A ++ [some (⟨W.w.heap.size, 0, none⟩ : Addr)]) s.c.A none = some ⟨W.w.heap.size, 0, none⟩ := by rw [← hA]; exact gd_last _ _ _
       have g2 : gd (ρ.N ++ [grownCap W.w (e.t ρ).size 0 el]) s.c.N 0 = grownCap W.w (e.t ρ).size 0 el := by rw [← hNn]; exact gd_last _ _ _
       have g3 := (E.push ρ { A := [some ⟨W.w.heap.size, 0, none⟩], N := [grownCap W.w (e.t ρ).size 0 el] } e (by rw [hh.cnt]; exact hok.2)).2.2
       simp only [Sy.den, E.i, g3]
       show Value.slice (gd (ρ.A ++ [some (⟨W.w.heap.size, 0, none⟩ : Addr)]) s.c.A none) _ ((gd (ρ.N ++ [grownCap W.w (e.t ρ).size 0 el]) s.c.N 0 : Nat) : Int).toNat = _
       rw [g1, g2]
       simp
      have h2 := h1.put o.dst (.slice (some ⟨W.w.heap.size, 0, none⟩) (e.t ρ).size (grownCap W.w (e.t ρ).size 0 el)) (some (.slc s.c.A (.un .len e) (.nv s.c.N))) (fun y hy => by obtain rfl := Option.some.inj hy; exact ev.symm)
      have x1 := W.next_ext hs0
      have hnew := W.next_new hs0.size
      have hlt : W.w.heap.size < (Lib.bytesWorld W.w el (e.t ρ)).heap.size := by rw [Lib.bytesWorld_size]; omega
      rw [e0] at h2
      show wpList P ops Q rest (a.put o.dst _) (W.next _ hs0.size).w
      exact xops_ok hI hP n rest _ _ _ _ _ hu h2 (ht W.w.heap.size (grownCap W.w (e.t ρ).size 0 el) (W.next _ hs0.size) x1 (hnew _ (Nat.le_refl _) hlt) hlt (fun j hj => Lib.bytesWorld_cell W.w el (e.t ρ) j hj) (grownCap_ge _ _ _ _)) (hK.step x1)
     ·cases hx
    ·cases hx
end Go.SF
end
section
namespace Go.SF
open Go Go.RowKit
variable {P : Program}
structure It where
 i : Nat
 o : Oper
 x : Sum
 loud : Bool
mutual
def plainS : Sy → Bool
 | .bool _ | .int _ _ | .str _ | .nils => true
 | .agg l | .tup l => plainSs l
 | _ => false
def plainSs : List Sy → Bool
 | [] => true
 | s :: l => plainS s && plainSs l
end
mutual
def bareS : Sy → Sy
 | .slc _ _ _ => .nils
 | .agg l => .agg (bareSs l)
 | .tup l => .tup (bareSs l)
 | s => s
def bareSs : List Sy → List Sy
 | [] => []
 | x :: l => bareS x :: bareSs l
end
def shapeN (P : Program) (cf : Cfg) (f : FuncId) (ty : TypeId) (c : Cnt) : Option (Sy × Cnt) := if cf.nilR.contains f then (shapeR P ty c).map fun r => (bareS r.1, r.2) else shapeR P ty c
def hasNil (ops : Array Oper) : Bool := ops.toList.any fun o => match o.op with | .nilCheck _ => true | _ => false
def loudK (P : Program) (cf : Cfg) (ops : Array Oper) (o : Oper) : Bool :=
 match o.op with
 | .alloc _ | .box .. | .buildSlice .. | .makeSlice .. | .store .. | .panic _ => true
 | .load .. => !cf.mus.isEmpty || (cf.rwx && hasNil ops)
 | .call c => match c.callee with
  | .builtin .append => true
  | .builtin _ => false
  | .value (.func f) => if cf.inl.contains f then false else (Cfg.lookN cf.mu f).isSome || (match shapeN P cf f o.type {} with | some (s, _) => !plainS s | none => true)
  | _ => false
 | _ => false
def itemsOf (P : Program) (cf : Cfg) (ops : Array Oper) : Nat → List Oper → List It
 | _, [] => []
 | k, o :: l => ⟨k, o, sumOf ops o, loudK P cf ops o⟩ :: itemsOf P cf ops (k + 1) l
theorem itemsOf_mem {cf : Cfg} {ops : Array Oper} : ∀ (k : Nat) (l : List Oper) (it : It), it ∈ itemsOf P cf ops k l → ∃ j, l[j]? = some it.o ∧ it.i = k + j ∧ it.x = sumOf ops it.o
 | _, [], _, h => by cases h
 | k, o :: l, it, h => by
  rcases List.mem_cons.1 h with e | e
  ·subst e; exact ⟨0, rfl, rfl, rfl⟩
  ·obtain ⟨j, h1, h2, h3⟩ := itemsOf_mem (k + 1) l it e
   exact ⟨j + 1, h1, by omega, h3⟩
theorem itemsOf_length {cf : Cfg} {ops : Array Oper} : ∀ (k : Nat) (l : List Oper), (itemsOf P cf ops k l).length = l.length
 | _, [] => rfl
 | k, o :: l => by simp [itemsOf, itemsOf_length (k + 1) l]
theorem itemsOf_ge {cf : Cfg} {ops : Array Oper} (k : Nat) (l : List Oper) (it : It) (h : it ∈ itemsOf P cf ops k l) : k ≤ it.i := by
 obtain ⟨j, _, h2, _⟩ := itemsOf_mem k l it h; omega
theorem itemsOf_nd {cf : Cfg} {ops : Array Oper} : ∀ (k : Nat) (l : List Oper), (itemsOf P cf ops k l).Pairwise fun a b => a.i ≠ b.i
 | _, [] => List.Pairwise.nil
 | k, o :: l => by
  simp only [itemsOf, List.pairwise_cons]
  refine ⟨fun it h => ?_, itemsOf_nd (k + 1) l⟩
  have := itemsOf_ge (k + 1) l it h
  show k ≠ it.i
  omega
def pickR (mask : Nat) : List It → Option It → Option It
 | [], d => d
 | it :: l, d => if isReady mask it.x then (if it.loud then pickR mask l (match d with | some e => some e | none => some it) else some it) else pickR mask l d
theorem pickR_mem {mask : Nat} : ∀ {l : List It} {d : Option It} {it : It}, pickR mask l d = some it → (it ∈ l ∧ isReady mask it.x = true) ∨ d = some it
 | [], d, it, h => .inr h
 | a :: l, d, it, h => by
  simp only [pickR] at h
  split at h
  ·rename_i hr
   split at h
   ·rcases pickR_mem h with ⟨h1, h2⟩ | h1
    ·exact .inl ⟨List.mem_cons_of_mem _ h1, h2⟩
    ·cases d with
     | none => obtain rfl := Option.some.inj h1; exact .inl ⟨List.mem_cons_self .., hr⟩
     | some e => exact .inr h1
   ·obtain rfl := Option.some.inj h; exact .inl ⟨List.mem_cons_self .., hr⟩
  ·rcases pickR_mem h with ⟨h1, h2⟩ | h1
   ·exact .inl ⟨List.mem_cons_of_mem _ h1, h2⟩
   ·exact .inr h1
def dropI (i : Nat) : List It → List It
 | [] => []
 | it :: l => if Nat.beq it.i i then l else it :: dropI i l
theorem dropI_sub (i : Nat) : ∀ l : List It, (dropI i l).Sublist l
 | [] => List.Sublist.refl _
 | it :: l => by
  simp only [dropI]
  split
  ·exact List.sublist_cons_self ..
  ·exact (dropI_sub i l).cons_cons _
theorem dropI_len {i : Nat} : ∀ {l : List It}, (∃ it ∈ l, it.i = i) → (dropI i l).length + 1 = l.length
 | [], ⟨_, h, _⟩ => by cases h
 | a :: l, ⟨it, h, e⟩ => by
  simp only [dropI]
  split
  ·simp
  ·rename_i hne
   have : it ∈ l := by
    rcases List.mem_cons.1 h with e2 | e2
    ·subst e2; exact absurd (by rw [e]; exact Nat.beq_refl _) hne
    ·exact e2
   have := dropI_len (i := i) ⟨it, this, e⟩
   simp only [List.length_cons]; omega
theorem dropI_keep {i : Nat} : ∀ {l : List It} {it : It}, it ∈ l → it.i ≠ i → it ∈ dropI i l
 | [], _, h, _ => by cases h
 | a :: l, it, h, hne => by
  simp only [dropI]
  split
  ·rename_i e
   rcases List.mem_cons.1 h with e2 | e2
   ·subst e2; exact absurd (Nat.eq_of_beq_eq_true e) hne
   ·exact e2
  ·rcases List.mem_cons.1 h with e2 | e2
   ·subst e2; exact List.mem_cons_self ..
   ·exact List.mem_cons_of_mem _ (dropI_keep e2 hne)
theorem dropI_ne {i : Nat} : ∀ {l : List It}, l.Pairwise (fun a b => a.i ≠ b.i) → ∀ it ∈ dropI i l, it.i ≠ i
 | [], _, _, h => by cases h
 | a :: l, hp, it, h => by
  rw [List.pairwise_cons] at hp
  simp only [dropI] at h
  split at h
  ·rename_i e
   have := hp.1 it h
   rw [← Nat.eq_of_beq_eq_true e]
   exact fun e2 => this e2.symm
  ·rename_i e
   rcases List.mem_cons.1 h with e2 | e2
   ·subst e2; exact fun e3 => e (by rw [e3]; exact Nat.beq_refl _)
   ·exact dropI_ne hp.2 it e2
def quietOk (it : It) (others : List It) : Bool := others.all fun y => y.x.p.testBit it.i || apartM it.x y.x
def soleOk (mask : Nat) (others : List It) : Bool := others.all fun y => !isReady mask y.x
def freeM : Nat → List Oper → Nat
 | _, [] => 0
 | k, o :: l => if freeB o.op then Nat.lor (freeM (k + 1) l) (2 ^ k) else freeM (k + 1) l
def barOk (ops : Array Oper) (mask : Nat) (it : It) : Bool := Nat.beq (Nat.land mask (Nat.lor it.x.p (freeM 0 ops.toList))) mask
def hpQ (cf : Cfg) (s : St) : List Blk := s.hp.filter fun b => !cf.mus.contains b.m
def blksQ (cf : Cfg) (s : St) (o : Op) : List Blk := if freeB o then [] else hpQ cf s ++ s.ro
def useInlQ (cf : Cfg) (inl : Inl) (f : FuncId) (args : List Sy) (s : St) : Option Tree :=
 match inl f args (hpQ cf s ++ s.ro) s.c with
 | some t => if pureT s.c t then some t else none
 | none => none
def muSub (cf : Cfg) (mu : List Blk) : Bool := mu.all fun b => cf.mus.contains b.m
def xsole (P : Program) (cf : Cfg) (nx : Nat → List It → St → (St → Option Tree) → Option Tree) (mask : Nat) (rem : List It) (it : It) (s : St) (K : St → Option Tree) : Option Tree :=
 match xval P cf.ex (simT s.kn s.tm) (s.hp ++ s.ro) s.kn it.o.op with
 | some (cs, v) => (nx (Nat.lor mask (2 ^ it.i)) rem { s with tm := putS s.n s.tm it.o.dst (some v), kn := learns s.kn cs } K).map fun t => chks s.kn cs (.grow t)
 | none =>
 match xeff P { s with tm := simT s.kn s.tm } it.o.op with
  | some (.new ty cs v) => match stayN cf s.c ty v with
   | some m => if s.ok && Sy.oks s.c cs then (nx (Nat.lor mask (2 ^ it.i)) rem { s with tm := putS s.n s.tm it.o.dst (some (.slc s.c.A (.il m) (.il m))), c := s.c.add { A := 1 } } K).map fun t => .grow (.newf ty cs t) else none
   | none => match rowN P cf s.c ty cs v with
    | some (m, z) => if s.ok && Sy.oks s.c cs then (nx (Nat.lor mask (2 ^ it.i)) rem (appSt s it.o.dst (nilRow ty z) s.rw (.il m) (cs.map .s)) K).map fun t => .grow (.app (.il m) t) else none
    | none => if s.ok && Sy.oks s.c cs then (nx (Nat.lor mask (2 ^ it.i)) rem { s with tm := putS s.n s.tm it.o.dst (some v), hp := ⟨s.c.M, ty, cs⟩ :: s.hp, c := s.c.add { M := 1 } } K).map fun t => .grow (.new t) else none
  | some (.upd m cs) => if cf.mus.contains m then (nx (Nat.lor mask (2 ^ it.i)) rem { s with tm := putS s.n s.tm it.o.dst (some undefS), hp := setB s.hp m cs } K).map fun t => .grow (.wr t) else none
  | some (.call f args) => match Cfg.lookN cf.rws f with
   | some (ps, qs) => match shapeR P it.o.type s.c with
    | some (res, c1) => match newRows res.flat qs c1 with
     | some (nr, c') => if s.ok && ps.isEmpty then (nx (Nat.lor mask (2 ^ it.i)) rem { s with tm := putS s.n s.tm it.o.dst (some res), rw := nr ++ s.rw, c := s.c.add (c'.less s.c) } K).map fun t => .grow (.callr f args (reach (s.hp ++ s.ro) args) s.rw [] res nr (c'.less s.c) t) else none
     | none => none
    | none => none
   | none => match shapeR P it.o.type s.c with
    | some (res, c1) => match muOf P s.hp args ((Cfg.lookN cf.mu f).getD []) c1 with
     | some (mu, c') =>
       if s.ok && (muIn s.hp mu && muSub cf mu) then
        (nx (Nat.lor mask (2 ^ it.i)) rem { s with tm := putS s.n s.tm it.o.dst (some res), hp := s.hp.map (replB mu), c := s.c.add (c'.less s.c) } K).map fun t => .grow (.call f args (reach (s.hp ++ s.ro) args) s.rw mu res (c'.less s.c) t)
       else none
     | none => none
    | none => none
  | some (.app r rw k xs b) => if cf.rwx && (s.ok && isNat k && isNat r.n && k.ok s.c && xs.all (Seg.ok s.c) && r.ok s.c) then (nx (Nat.lor mask (2 ^ it.i)) rem (appSt s it.o.dst r rw k xs) K).map fun t => chks s.kn [leE (addE r.n k) (.il (most b))] (.grow (.app (addE r.n k) t)) else none
  | some (.appf r rw aa k c b) => if cf.rwx && (s.ok && isNat k && isNat c && isNat r.n && k.ok s.c && c.ok s.c && aa < s.c.A && r.ok s.c) then
    (nx (Nat.lor mask (2 ^ it.i)) rem (appSt { s with c := s.c.add { L := 1 } } it.o.dst r rw k [.l s.c.L]) K).map fun t => chks s.kn [leE (addE r.n k) (.il (most b))] (.grow (.cells aa k c r.sz s.rw (.app (addE r.n k) t))) else none
  | some (.rlook t p r) => match shapeT P t s.c with
   | some (res, c') => if s.ok then (nx (Nat.lor mask (2 ^ it.i)) rem { s with tm := putS s.n s.tm it.o.dst (some res), c := s.c.add (c'.less s.c) } K).map fun u => .grow (.rlook t p res r (c'.less s.c) u) else none
   | none => none
  | some (.look t p) => match shapeT P t s.c with
   | some (res, c') => if s.ok then (nx (Nat.lor mask (2 ^ it.i)) rem { s with tm := putS s.n s.tm it.o.dst (some res), c := s.c.add (c'.less s.c) } K).map fun u => .grow (.look t p res (c'.less s.c) u) else none
   | none => none
  | _ => none
def preOf (P : Program) (s : St) : Op → Option (Sy × E × RowS)
 | .call { callee := .builtin .append, args := args, argTypes := ts } => match args.toList, ts.toList with
  | [x, _], [t, _] => match evS s.tm x, P.underlying t with
   | some (.slc a k c), some (.slice el) => if (findR s.rw (.slc a k c)).isNone && (s.ok && (isNat k && (Sy.slc a k c).ok s.c)) then (match s.rw.find? (fun r => Nat.beq r.e el) with
    | some r0 => match findR s.rw r0.v with
     | some r => some (.slc a k c, k, r)
     | none => none
    | none => none) else none
   | _, _ => none
  | _, _ => none
 | _ => none
def preSt (s : St) (v : Sy) (k : E) (r : RowS) : St := { s with rw := ⟨v, k, r.e, r.sz, [.l s.c.L]⟩ :: dropR s.rw r.v, c := s.c.add { L := 1 } }
def xsole1 (P : Program) (cf : Cfg) (nx : Nat → List It → St → (St → Option Tree) → Option Tree) (mask : Nat) (rem : List It) (it : It) (s : St) (K : St → Option Tree) : Option Tree :=
 match preOf P s it.o.op with
 | some (v, kp, rp) => match xeff P { preSt s v kp rp with tm := simT s.kn s.tm } it.o.op with
  | some (.appf r rw aa k c b) => if cf.rwx && (St.ok (preSt s v kp rp) && isNat k && isNat c && isNat r.n && k.ok (preSt s v kp rp).c && c.ok (preSt s v kp rp).c && aa < (preSt s v kp rp).c.A && r.ok (preSt s v kp rp).c) then
    (nx (Nat.lor mask (2 ^ it.i)) rem (appSt { preSt s v kp rp with c := (preSt s v kp rp).c.add { L := 1 } } it.o.dst r rw k [.l (preSt s v kp rp).c.L]) K).map fun t => .pre v rp kp (chks s.kn [leE (addE r.n k) (.il (most b))] (.grow (.cells aa k c r.sz s.rw (.app (addE r.n k) t)))) else none
  | _ => none
 | none => xsole P cf nx mask rem it s K
def readyL (mask : Nat) (rem : List It) : List It := rem.filter fun y => isReady mask y.x
def xboth (f : It → Option Tree) : List It → Option Tree
 | [] => none
 | [y] => f y
 | y :: z :: l => match f y, xboth f (z :: l) with
  | some a, some b => some (.both a b)
  | _, _ => none
def xpin (P : Program) (cf : Cfg) (ops : Array Oper) (nx : Nat → List It → St → (St → Option Tree) → Option Tree) (mask : Nat) (rem : List It) (s : St) (K : St → Option Tree) (it : It) : Option Tree :=
 match gdE ops s it.o with
 | some G => if dec s.kn G = some true then xsole1 P cf nx mask (dropI it.i rem) it s K else none
 | none => none
def xloud (P : Program) (cf : Cfg) (ops : Array Oper) (nx : Nat → List It → St → (St → Option Tree) → Option Tree) (mask : Nat) (rem : List It) (it : It) (s : St) (K : St → Option Tree) : Option Tree :=
 if soleOk mask (dropI it.i rem) then xsole1 P cf nx mask (dropI it.i rem) it s K
 else if cf.rwx then xboth (xpin P cf ops nx mask rem s K) (readyL mask rem) else none
def xdraw (P : Program) (cf : Cfg) (inl : Inl) (ops : Array Oper) (tl : List Oper) (tits : List It) : Nat → Nat → List It → St → (St → Option Tree) → Option Tree
 | _, _, [], s, K => (xops P cf inl ops cf.fuel tl s K).map .grow
 | 0, _, _ :: _, _, _ => none
 | n + 1, mask, a :: l, s, K =>
  match pickR mask (a :: l) none with
  | none => none
  | some it =>
   match gdE ops s it.o with
   | none => none
   | some G => match dec s.kn G with
    | some false => if quietOk it (dropI it.i (a :: l) ++ tits) then xdraw P cf inl ops tl tits n (Nat.lor mask (2 ^ it.i)) (dropI it.i (a :: l)) { s with tm := putS s.n s.tm it.o.dst (some undefS) } K else none
    | none => match xval P cf.ex (simT (know G true s.kn) s.tm) (blksQ cf s it.o.op) (know G true s.kn) it.o.op with
     | some (cs, v) => if quietOk it (dropI it.i (a :: l) ++ tits) then (xdraw P cf inl ops tl tits n (Nat.lor mask (2 ^ it.i)) (dropI it.i (a :: l)) { s with tm := putS s.n s.tm it.o.dst (some (.when G true v)), kn := learns s.kn (cs.map (borE (notE G))) } K).map (chks s.kn (cs.map (borE (notE G)))) else none
     | none => match xdraw P cf inl ops tl tits n mask (a :: l) { s with kn := know G true s.kn } K, xdraw P cf inl ops tl tits n mask (a :: l) { s with kn := know G false s.kn } K with
      | some a, some b => some (.br G a b)
      | _, _ => none
    | some true => match xval P cf.ex (simT s.kn s.tm) (blksQ cf s it.o.op) s.kn it.o.op with
     | some (cs, v) => if quietOk it (dropI it.i (a :: l) ++ tits) then (xdraw P cf inl ops tl tits n (Nat.lor mask (2 ^ it.i)) (dropI it.i (a :: l)) { s with tm := putS s.n s.tm it.o.dst (some v), kn := learns s.kn cs } K).map (chks s.kn cs) else none
     | none => match xeff P { s with tm := simT s.kn s.tm } it.o.op with
      | some (.new _ _ _) => xloud P cf ops (xdraw P cf inl ops tl tits n) mask (a :: l) it s K
      | some (.upd _ _) => xloud P cf ops (xdraw P cf inl ops tl tits n) mask (a :: l) it s K
      | some (.call f args) => match useInlQ cf inl f args s with
       | some t => if quietOk it (dropI it.i (a :: l) ++ tits) then splice t s fun v s' => xdraw P cf inl ops tl tits n (Nat.lor mask (2 ^ it.i)) (dropI it.i (a :: l)) { s' with tm := putS s'.n s'.tm it.o.dst (some v) } K else none
       | none => match Cfg.lookN cf.rws f with
        | some _ => xloud P cf ops (xdraw P cf inl ops tl tits n) mask (a :: l) it s K
        | none => match shapeN P cf f it.o.type s.c with
         | some (res, c1) =>
         if s.ok && (plainS res && ((Cfg.lookN cf.mu f).getD []).isEmpty && quietOk it (dropI it.i (a :: l) ++ tits) && !(cf.rwx && !s.rw.isEmpty)) then
          (xdraw P cf inl ops tl tits n (Nat.lor mask (2 ^ it.i)) (dropI it.i (a :: l)) { s with tm := putS s.n s.tm it.o.dst (some res), c := s.c.add (c1.less s.c) } K).map (.callq f args (reach (hpQ cf s ++ s.ro) args) s.rw res (c1.less s.c))
         else xloud P cf ops (xdraw P cf inl ops tl tits n) mask (a :: l) it s K
         | none => none
      | some (.look t p) => match shapeT P t s.c with
       | some (res, c') => if s.ok && quietOk it (dropI it.i (a :: l) ++ tits) then (xdraw P cf inl ops tl tits n (Nat.lor mask (2 ^ it.i)) (dropI it.i (a :: l)) { s with tm := putS s.n s.tm it.o.dst (some res), c := s.c.add (c'.less s.c) } K).map (.look t p res (c'.less s.c)) else none
       | none => none
      | some (.rlook t p r) => match shapeT P t s.c with
       | some (res, c') => if s.ok && quietOk it (dropI it.i (a :: l) ++ tits) && !cf.rwx then (xdraw P cf inl ops tl tits n (Nat.lor mask (2 ^ it.i)) (dropI it.i (a :: l)) { s with tm := putS s.n s.tm it.o.dst (some res), c := s.c.add (c'.less s.c) } K).map (.rlook t p res r (c'.less s.c)) else xloud P cf ops (xdraw P cf inl ops tl tits n) mask (a :: l) it s K
       | none => none
      | some (.sub aa lo hi c m z) => if s.ok && hi.ok s.c && c.ok s.c && quietOk it (dropI it.i (a :: l) ++ tits) then (xdraw P cf inl ops tl tits n (Nat.lor mask (2 ^ it.i)) (dropI it.i (a :: l)) (subSt s it.o.dst lo hi c) K).map fun t => chks s.kn (subChk lo hi m) (.sub aa lo hi c z t) else none
      | some (.adr ad m c) => if s.ok && quietOk it (dropI it.i (a :: l) ++ tits) then (xdraw P cf inl ops tl tits n (Nat.lor mask (2 ^ it.i)) (dropI it.i (a :: l)) { s with tm := putS s.n s.tm it.o.dst (some (.slc s.c.A (.il m) (.il c))), c := s.c.add { A := 1 } } K).map (.adr ad) else none
      | some (.app _ _ _ _ _) => xloud P cf ops (xdraw P cf inl ops tl tits n) mask (a :: l) it s K
      | some (.appf _ _ _ _ _ _) => xloud P cf ops (xdraw P cf inl ops tl tits n) mask (a :: l) it s K
      | some (.rset q rw i b z vs) => if soleOk mask (dropI it.i (a :: l)) && ((barOk ops mask it || cf.rwx) && (s.ok && (q.ok s.c && (i.ok s.c && (Sy.oks s.c vs && isNat q.n))))) then
        (xdraw P cf inl ops tl tits n (Nat.lor mask (2 ^ it.i)) (dropI it.i (a :: l)) (rsetSt s it.o.dst q rw) K).map fun t => chks s.kn [leE (.il 0) i, .bin .lt i q.n] (.grow (.rset q.xs i b z vs t)) else none
      | some (.adrE ad i m z) => if s.ok && i.ok s.c && quietOk it (dropI it.i (a :: l) ++ tits) then (xdraw P cf inl ops tl tits n (Nat.lor mask (2 ^ it.i)) (dropI it.i (a :: l)) { s with tm := putS s.n s.tm it.o.dst (some (.elt s.c.A i z 0)), c := s.c.add { A := 1 }, kn := learns s.kn (adrChk i m) } K).map fun t => chks s.kn (adrChk i m) (.adr ad t) else none
      | none => xloud P cf ops (xdraw P cf inl ops tl tits n) mask (a :: l) it s K
      | _ => none
structure Rem (P : Program) (ops : Array Oper) (n g mask : Nat) (rem tits : List It) (listed : Array Bool) : Prop where
 sel : Region.noSelect ops = true
 lst : Lst ops mask listed
 low : ∀ o ∈ ops, ∀ e ∈ o.after, Region.binds .any e = true → e.on < ops.size
 tail : Tail ops n
 hi : ∀ j, n ≤ j → mask.testBit j = false
 item : ∀ it ∈ rem, ops[it.i]? = some it.o ∧ it.x = sumOf ops it.o ∧ it.i < n ∧ mask.testBit it.i = false
 all : ∀ j, j < n → mask.testBit j = true ∨ ∃ it ∈ rem, it.i = j
 nd : rem.Pairwise fun a b => a.i ≠ b.i
 tits : ∀ j, n ≤ j → j < ops.size → ∃ y ∈ tits, y.i = j ∧ ops[j]? = some y.o ∧ y.x = sumOf ops y.o
 le : n ≤ ops.size
 seq : ∀ (a : Act) (w : World) (Q : Exit → Act → World → Prop) (l' : Array Bool) (m' : Nat), Lst ops m' l' → (∀ j, j < n → m'.testBit j = true) → (∀ j, n ≤ j → m'.testBit j = false) → wpList P ops Q (ops.toList.drop n) a w → wpAny P .any ops Q g l' a w
theorem testBit_lor (m i j : Nat) : (Nat.lor m (2 ^ i)).testBit j = (m.testBit j || decide (i = j)) := by
 show (m ||| 2 ^ i).testBit j = _
 rw [Nat.testBit_or, Nat.testBit_two_pow]
theorem Rem.next {ops : Array Oper} {n g mask : Nat} {rem tits : List It} {listed : Array Bool} (h : Rem P ops n g mask rem tits listed) {it : It} (hit : it ∈ rem) : Rem P ops n g (Nat.lor mask (2 ^ it.i)) (dropI it.i rem) tits (listed.setIfInBounds it.i true) := by
 obtain ⟨h1, h2, h3, h4⟩ := h.item it hit
 have hlt : it.i < ops.size := (Array.getElem?_eq_some_iff.1 h1).1
 refine ⟨h.sel, h.lst.set hlt, h.low, h.tail, fun j hj => ?_, fun y hy => ?_, fun j hj => ?_, h.nd.sublist (dropI_sub _ _), h.tits, h.le, h.seq⟩
 ·rw [testBit_lor, h.hi j hj, decide_eq_false (by omega)]; rfl
 ·obtain ⟨y1, y2, y3, y4⟩ := h.item y ((dropI_sub _ _).subset hy)
  refine ⟨y1, y2, y3, ?_⟩
  rw [testBit_lor, y4, decide_eq_false (fun e => dropI_ne h.nd y hy e.symm)]; rfl
 ·rw [testBit_lor]
  rcases h.all j hj with h5 | ⟨y, hy, rfl⟩
  ·left; rw [h5]; rfl
  ·by_cases e : y.i = it.i
   ·left; rw [e]; simp
   ·exact .inr ⟨y, dropI_keep hy e, rfl⟩
theorem Rem.isReady {ops : Array Oper} {n g mask : Nat} {rem tits : List It} {listed : Array Bool} (h : Rem P ops n g mask rem tits listed) {it : It} (hit : it ∈ rem) (hr : SF.isReady mask it.x = true) : it.i ∈ Region.ready .any ops listed := by
 obtain ⟨h1, h2, h3, h4⟩ := h.item it hit
 rw [h2] at hr
 exact (isReady_iff h.lst h1 (h.low it.o (Array.mem_of_getElem? h1))).2 ⟨h4, hr⟩
theorem Rem.quiet {ops : Array Oper} {Q : Exit → Act → World → Prop} {C : World → Prop} {n g mask : Nat} {rem tits : List It} {listed : Array Bool} (h : Rem P ops n g mask rem tits listed) {it : It} (hit : it ∈ rem) (hr : SF.isReady mask it.x = true) (hq : quietOk it (dropI it.i rem ++ tits) = true)
  (hQ : ∀ ch a d v w', Q (.panic ch) (Act.put a d v) w' → Q (.panic ch) a w') (hCG : ∀ w w', C w → Gr w w' → C w') {a : Act} {w : World} {v : Value} (hC : C w) (hy : YieldsG P ops (fun w => freeB it.o.op = true ∨ C w) it.o v a) {f : Nat}
  (hK : wpG P ops Q C n g f (listed.setIfInBounds it.i true) (a.put it.o.dst v) w) : wpG P ops Q C n g (f + 1) listed a w := by
 obtain ⟨h1, h2, h3, h4⟩ := h.item it hit
 refine wpG_first h1 h3 (Region.noSelect_spec h.sel) h.tail (fun c a w => hQ c a _ _ w) f C hCG mask listed a w h.lst h.hi ?_ (h.isReady hit hr) hy hC hK
 intro j oj hj hne hun hno
 have hjl : j < ops.size := (Array.getElem?_eq_some_iff.1 hj).1
 rw [h.lst.getD hjl] at hun
 have key : ∀ y : It, y ∈ dropI it.i rem ++ tits → y.i = j → ops[j]? = some y.o → y.x = sumOf ops y.o → it.o.apart ops oj = true := fun y hy e ho hx => by
  have := List.all_eq_true.1 hq y hy
  obtain rfl : oj = y.o := Option.some.inj (hj.symm.trans ho)
  rw [hx, h2] at this
  rcases Bool.or_eq_true _ _ ▸ this with h5 | h5
  ·obtain ⟨e1, he, hb, hon⟩ := bit_pred.1 h5
   exact absurd hon (hno e1 he hb)
  ·exact apartM_ok h5
 rcases Nat.lt_or_ge j n with hjn | hjn
 ·rcases h.all j hjn with h5 | ⟨y, hy, rfl⟩
  ·rw [h5] at hun; cases hun
  ·exact key y (List.mem_append_left _ (dropI_keep hy hne)) rfl (h.item y hy).1 (h.item y hy).2.1
 ·obtain ⟨y, hy, e, ho, hx⟩ := h.tits j hjn hjl
  exact key y (List.mem_append_right _ hy) e ho hx
theorem Rem.sole {ops : Array Oper} {Q : Exit → Act → World → Prop} {C : World → Prop} {n g mask : Nat} {rem tits : List It} {listed : Array Bool} (h : Rem P ops n g mask rem tits listed) {it : It} (hit : it ∈ rem) (hr : SF.isReady mask it.x = true) (hq : soleOk mask (dropI it.i rem) = true)
  {a : Act} {w : World} (hw : Region.wanted it.o (yielded ops a.tmps) = true) {f : Nat}
  (hK : ∀ w', Gr w w' → it.o.wp P a w' (fun a' w'' => C w'' ∧ wpG P ops Q C n g f (listed.setIfInBounds it.i true) a' w'') Q) : wpG P ops Q C n g (f + 1) listed a w := by
 obtain ⟨h1, h2, h3, h4⟩ := h.item it hit
 refine wpG_sole (i := it.i) (fun j => ⟨fun hj => ?_, fun e => e ▸ h.isReady hit hr⟩) h3 fun w' hw' => ?_
 ·have hjn := tail_late h.tail h.lst h.hi h3 (Array.getElem?_eq_some_iff.1 h1).1 h4 hj
  obtain ⟨oj, hoj⟩ : ∃ oj, ops[j]? = some oj := by obtain ⟨_, oj, hoj, _⟩ := mem_ready.1 hj; exact ⟨oj, hoj⟩
  have hj2 := (isReady_iff h.lst hoj (h.low oj (Array.mem_of_getElem? hoj))).1 hj
  rcases h.all j hjn with h5 | ⟨y, hy, rfl⟩
  ·rw [hj2.1] at h5; cases h5
  ·by_cases e : y.i = it.i
   ·exact e
   ·exfalso
    have := List.all_eq_true.1 hq y (dropI_keep hy e)
    obtain ⟨y1, y2, _, _⟩ := h.item y hy
    obtain rfl : y.o = oj := Option.some.inj (y1.symm.trans hoj)
    rw [y2, hj2.2] at this
    cases this
 ·unfold wpOp
  simp only [h1, hw, if_true]
  exact .inl (hK w' hw')
theorem freeM_ok : ∀ (l : List Oper) (n k : Nat), (freeM n l).testBit k = true → n ≤ k ∧ ∃ o, l[k - n]? = some o ∧ freeB o.op = true
 | [], n, k, h => by simp [freeM] at h
 | o :: l, n, k, h => by
  simp only [freeM] at h
  have hrc : (freeM (n + 1) l).testBit k = true → n ≤ k ∧ ∃ o', (o :: l)[k - n]? = some o' ∧ freeB o'.op = true := fun h => by
   obtain ⟨h1, o', h2, h3⟩ := freeM_ok l (n + 1) k h
   exact ⟨by omega, o', by rw [show k - n = (k - (n + 1)) + 1 from by omega, List.getElem?_cons_succ]; exact h2, h3⟩
  split at h
  ·rename_i hf
   have h : (freeM (n + 1) l ||| 2 ^ n).testBit k = true := h
   rw [Nat.testBit_or, Nat.testBit_two_pow, Bool.or_eq_true] at h
   rcases h with h | h
   ·exact hrc h
   ·obtain rfl : n = k := of_decide_eq_true h
    exact ⟨Nat.le_refl _, o, by simp, hf⟩
  ·exact hrc h
theorem Rem.bar {ops : Array Oper} {Q : Exit → Act → World → Prop} {C : World → Prop} {n g mask : Nat} {rem tits : List It} {listed : Array Bool} (h : Rem P ops n g mask rem tits listed) {it : It} (hit : it ∈ rem) (hr : SF.isReady mask it.x = true) (hq : soleOk mask (dropI it.i rem) = true) (hb : barOk ops mask it = true)
  {a : Act} {w : World} (hw : Region.wanted it.o (yielded ops a.tmps) = true) {f : Nat}
  (hK : ∀ w', Gr w w' → it.o.wp P a w' (fun a' w'' => ∃ C' : World → Prop, C' w'' ∧ (∀ w w', C' w → Gr w w' → C' w') ∧ wpG P ops Q C' n g f (listed.setIfInBounds it.i true) a' w'') Q) : wpG P ops Q C n g (f + 1) listed a w := by
 obtain ⟨h1, h2, h3, h4⟩ := h.item it hit
 refine wpG_bar (i := it.i) (fun j => ⟨fun hj => ?_, fun e => e ▸ h.isReady hit hr⟩) h3 ⟨it.o, h1, fun k hk => ?_⟩ fun w' hw' => ?_
 ·have hjn := tail_late h.tail h.lst h.hi h3 (Array.getElem?_eq_some_iff.1 h1).1 h4 hj
  obtain ⟨oj, hoj⟩ : ∃ oj, ops[j]? = some oj := by obtain ⟨_, oj, hoj, _⟩ := mem_ready.1 hj; exact ⟨oj, hoj⟩
  have hj2 := (isReady_iff h.lst hoj (h.low oj (Array.mem_of_getElem? hoj))).1 hj
  rcases h.all j hjn with h5 | ⟨y, hy, rfl⟩
  ·rw [hj2.1] at h5; cases h5
  ·by_cases e : y.i = it.i
   ·exact e
   ·exfalso
    have := List.all_eq_true.1 hq y (dropI_keep hy e)
    obtain ⟨y1, y2, _, _⟩ := h.item y hy
    obtain rfl : y.o = oj := Option.some.inj (y1.symm.trans hoj)
    rw [y2, hj2.2] at this
    cases this
 ·have hks : k < ops.size := by
   rw [← h.lst.1]
   rw [Array.getD_eq_getD_getElem?] at hk
   cases e : listed[k]? with
   | none => rw [e] at hk; cases hk
   | some b => exact (Array.getElem?_eq_some_iff.1 e).1
  have hm : mask.testBit k = true := by
   have := h.lst.2 k hks
   rw [Array.getD_eq_getD_getElem?, this] at hk
   exact hk
  have h5 : (mask &&& (it.x.p ||| freeM 0 ops.toList)).testBit k = true := by
   show (Nat.land mask (Nat.lor it.x.p (freeM 0 ops.toList))).testBit k = true
   rw [Nat.eq_of_beq_eq_true hb]; exact hm
  rw [Nat.testBit_and, Bool.and_eq_true, Nat.testBit_or, Bool.or_eq_true] at h5
  rcases h5.2 with h6 | h6
  ·rw [h2] at h6
   exact .inl (bit_pred.1 h6)
  ·right
   have := freeM_ok ops.toList 0 k h6
   obtain ⟨_, o, ho, hf⟩ := this
   exact ⟨o, by rw [← Array.getElem?_toList]; simpa using ho, hf⟩
 ·unfold wpOp
  simp only [h1, hw, if_true]
  exact .inl (hK w' hw')
def Wd.at (W : Wd) (w' : World) (h : Keeps W w') : Wd := ⟨w', W.I, fun b hb => Nat.lt_of_lt_of_le (W.lt b hb) h.size⟩
theorem Wd.at_ext (W : Wd) {w' : World} (h : Keeps W w') : Ext W (W.at w' h) := ⟨h.size, fun _ hb => hb, h.keep, h.os, h.tape, h.output⟩
structure Cls (cf : Cfg) (ρ : Env) (s : St) (W V : Wd) : Prop where
 here : Keeps V W.w
 sz : W.w.heap.size ≤ V.w.heap.size
 sub : ∀ b, W.I b → V.I b
 hp : ∀ b ∈ hpQ cf s, V.I (gd ρ.M b.m 0)
 rw : cf.rwx = false → ∀ r ∈ s.rw, ∀ k, ownB ρ r = some k → V.I k
 nov : ∀ b ∈ s.hp, cf.mus.contains b.m = true → ¬ V.I (gd ρ.M b.m 0)
 novr : cf.rwx = true → ∀ r ∈ s.rw, ∀ k, ownB ρ r = some k → ¬ V.I k
theorem Keeps.gr {V : Wd} {w w' : World} (h : Keeps V w) (k : Gr w w') : Keeps V w' :=
 ⟨k.os.trans h.os, k.tape.trans h.tape, k.output.trans h.output, Nat.le_trans h.size k.size, fun b hb => (k.block b (Nat.lt_of_lt_of_le (V.lt b hb) h.size)).trans (h.keep b hb)⟩
theorem Cls.same' {cf : Cfg} {ρ : Env} {s : St} {W V : Wd} (hc : Cls cf ρ s W V) {w' : World} (hw : Keeps V w') {b : Nat} (hb : V.I b) : w'.heap[b]? = W.w.heap[b]? := (hw.keep b hb).trans (hc.here.keep b hb).symm
theorem Cls.keep {cf : Cfg} {ρ : Env} {s : St} {W V : Wd} (hc : Cls cf ρ s W V) {w' : World} (hw : Keeps V w') : Keeps W w' :=
 ⟨hw.os.trans hc.here.os.symm, hw.tape.trans hc.here.tape.symm, hw.output.trans hc.here.output.symm, Nat.le_trans hc.sz hw.size, fun b hb => hc.same' hw (hc.sub b hb)⟩
theorem hpQ_at {cf : Cfg} {N : Nat} {W0 : Wd} {ρ : Env} {s : St} {a : Act} {W V : Wd} (h : Holds N W0 ρ s a W) (hc : Cls cf ρ s W V) {w' : World} (hw : Keeps V w') : BlksAt ρ (hpQ cf s ++ s.ro) w' :=
 both_at (BlksAt.keep (fun b hb => h.hp b (List.mem_filter.1 hb).1) fun b hb => hc.same' hw (hc.hp b hb)) (h.ro.keep fun b hb => hc.same' hw (hc.sub _ (h.ext.sub _ (h.old b hb))))
theorem xeff_nf {s : St} {op : Op} (hf : freeB op = true) {e : Eff} (h : xeff P s op = some e) : (∃ ad i m z, e = .adrE ad i m z) ∨ ∃ x, e = .byt x := by
 cases op <;> simp only [freeB, Bool.false_eq_true] at hf <;> simp only [xeff] at h <;> try (cases h; done)
 case indexAddr =>
  left
  split at h
  ·split at h
   ·exact ⟨_, _, _, _, (Option.some.inj h).symm⟩
   ·cases h
  ·cases h
 case convert =>
  right
  split at h
  ·split at h
   ·exact ⟨_, (Option.some.inj h).symm⟩
   ·cases h
  ·cases h
theorem not_free {s : St} {op : Op} {e : Eff} (h : xeff P s op = some e) (hn : ∀ ad i m z, e ≠ .adrE ad i m z) (hb : ∀ x, e ≠ .byt x) {p : Prop} (hp : freeB op = true ∨ p) : p :=
 hp.resolve_left fun hf => by
  rcases xeff_nf hf h with ⟨ad, i, m, z, e1⟩ | ⟨x, e1⟩
  ·exact hn _ _ _ _ e1
  ·exact hb _ e1
theorem blksQ_at {cf : Cfg} {N : Nat} {W0 : Wd} {ρ : Env} {s : St} {a : Act} {W V : Wd} (h : Holds N W0 ρ s a W) (hc : Cls cf ρ s W V) {w' : World} {o : Op} (hw : freeB o = true ∨ Keeps V w') : BlksAt ρ (blksQ cf s o) w' := by
 unfold blksQ
 rcases hw with hw | hw
 ·rw [if_pos hw]; exact fun b hb => by cases hb
 ·split
  ·exact fun b hb => by cases hb
  ·exact hpQ_at h hc hw
theorem rows_at {cf : Cfg} {N : Nat} {W0 : Wd} {ρ : Env} {s : St} {a : Act} {W V : Wd} (h : Holds N W0 ρ s a W) (hc : Cls cf ρ s W V) {w' : World} (hw : Keeps V w') (hx : cf.rwx = false) : RowsAt N ρ s.rw w' := fun r hr => (h.rw r hr).keep fun k hk => hc.same' hw (hc.rw hx r hr k hk)
theorem rows_at' {cf : Cfg} {N : Nat} {W0 : Wd} {ρ : Env} {s : St} {a : Act} {W V : Wd} (h : Holds N W0 ρ s a W) (hc : Cls cf ρ s W V) {w' : World} (hw : Keeps V w') (hx : (!(cf.rwx && !s.rw.isEmpty)) = true) : RowsAt N ρ s.rw w' := by
 cases e : cf.rwx
 ·exact rows_at h hc hw e
 ·rw [e] at hx
  have : s.rw = [] := by simpa using hx
  rw [this]
  exact fun r hr => by cases hr
theorem Cls.push {cf : Cfg} {N : Nat} {W0 : Wd} {ρ d : Env} {s : St} {a : Act} {W V : Wd} (hc : Cls cf ρ s W V) (h : Holds N W0 ρ s a W) (ho : s.ok = true) {s' : St} (e1 : s'.hp = s.hp) (e2 : s'.rw = s.rw) : Cls cf (ρ.push d) s' W V := by
 simp only [St.ok, Bool.and_eq_true] at ho
 have hM : ∀ b ∈ s.hp, gd (ρ.push d).M b.m 0 = gd ρ.M b.m 0 := fun b hb => by
  have := List.all_eq_true.1 ho.1.1.1.2 b hb
  simp only [Blk.ok, Bool.and_eq_true] at this
  exact M_push (by rw [h.cnt]; exact of_decide_eq_true this.1)
 refine ⟨hc.here, hc.sz, hc.sub, fun b hb => ?_, fun hx r hr k hk => ?_, fun b hb hm => ?_, fun hx r hr k hk => ?_⟩
 ·unfold hpQ at hb
  rw [e1] at hb
  rw [hM b (List.mem_filter.1 hb).1]
  exact hc.hp b hb
 ·rw [e2] at hr
  rw [ownB_push (by rw [h.cnt]; exact List.all_eq_true.1 ho.1.2 r hr)] at hk
  exact hc.rw hx r hr k hk
 ·rw [e1] at hb
  rw [hM b hb]
  exact hc.nov b hb hm
 ·rw [e2] at hr
  rw [ownB_push (by rw [h.cnt]; exact List.all_eq_true.1 ho.1.2 r hr)] at hk
  exact hc.novr hx r hr k hk
theorem Cls.same {cf : Cfg} {ρ : Env} {s s' : St} {W V : Wd} (hc : Cls cf ρ s W V) (e1 : s'.hp = s.hp) (e2 : s'.rw = s.rw) : Cls cf ρ s' W V :=
 ⟨hc.here, hc.sz, hc.sub, fun b hb => hc.hp b (by unfold hpQ at *; rw [← e1]; exact hb), fun hx r hr => hc.rw hx r (by rw [← e2]; exact hr), fun b hb => hc.nov b (by rw [← e1]; exact hb), fun hx r hr => hc.novr hx r (by rw [← e2]; exact hr)⟩
def ms (cf : Cfg) (ρ : Env) (s : St) : List Nat := blkNos ρ (s.hp.filter fun b => cf.mus.contains b.m)
theorem ms_mem {cf : Cfg} {ρ : Env} {s : St} {k : Nat} (h : k ∈ ms cf ρ s) : ∃ b ∈ s.hp, cf.mus.contains b.m = true ∧ gd ρ.M b.m 0 = k := by
 obtain ⟨b, hb, rfl⟩ := List.mem_map.1 h
 obtain ⟨h1, h2⟩ := List.mem_filter.1 hb
 exact ⟨b, h1, h2, rfl⟩
def msR (cf : Cfg) (ρ : Env) (s : St) : List Nat := if cf.rwx then rowNos ρ s.rw else []
theorem msR_mem {cf : Cfg} {ρ : Env} {s : St} {k : Nat} (h : k ∈ msR cf ρ s) : cf.rwx = true ∧ ∃ r ∈ s.rw, ownB ρ r = some k := by
 unfold msR at h
 split at h
 ·rename_i hx; exact ⟨hx, rowNos_mem.1 h⟩
 ·cases h
theorem cls_of {cf : Cfg} {N : Nat} {W0 : Wd} {ρ : Env} {s : St} {a : Act} {W : Wd} (h : Holds N W0 ρ s a W) : Cls cf ρ s W (W.but (ms cf ρ s ++ msR cf ρ s)) := by
 refine ⟨⟨rfl, rfl, rfl, Nat.le_refl _, fun _ _ => rfl⟩, Nat.le_refl _, fun b hb => ⟨W.lt b hb, fun hm => ?_⟩, fun b hb => ⟨h.hp.lt (List.mem_filter.1 hb).1, fun hm => ?_⟩, fun hx r hr k hk => ⟨((h.rw r hr).lt hk).2, fun hm => ?_⟩, fun b hb hm hI => hI.2 (List.mem_append_left _ ?_), fun hx r hr k hk hI => hI.2 (List.mem_append_right _ ?_)⟩
 ·rcases List.mem_append.1 hm with hm | hm
  ·obtain ⟨x, hx, _, rfl⟩ := ms_mem hm; exact h.own x hx hb
  ·obtain ⟨_, r, hr, hk⟩ := msR_mem hm; exact (h.rown r hr b hk).1 hb
 ·rcases List.mem_append.1 hm with hm | hm
  ·obtain ⟨x, hx, hc, e⟩ := ms_mem hm
   obtain ⟨b1, b2⟩ := List.mem_filter.1 hb
   refine pair_ne h.nd hx b1 (fun e2 => ?_) e
   rw [e2] at hc
   rw [hc] at b2
   cases b2
  ·obtain ⟨_, r, hr, hk⟩ := msR_mem hm
   exact (h.rown r hr _ hk).2 b (List.mem_filter.1 hb).1 rfl
 ·rcases List.mem_append.1 hm with hm | hm
  ·obtain ⟨x, hx, _, e⟩ := ms_mem hm
   exact (h.rown r hr k hk).2 x hx e
  ·have := (msR_mem hm).1; rw [hx] at this; cases this
 ·exact List.mem_map.2 ⟨b, List.mem_filter.2 ⟨hb, hm⟩, rfl⟩
 ·unfold msR; rw [if_pos hx]; exact rowNos_mem.2 ⟨r, hr, hk⟩
theorem cls_in {cf : Cfg} {ρ ρ' : Env} {s s' : St} {W V W' : Wd} (hc : Cls cf ρ s W V) (hk : Keeps V W'.w) (hn : ∀ b ∈ s'.hp, cf.mus.contains b.m = true → ¬ V.I (gd ρ'.M b.m 0)) (hr : cf.rwx = true → ∀ r ∈ s'.rw, ∀ k, ownB ρ' r = some k → ¬ V.I k) : ∀ w, Keeps (W'.but (ms cf ρ' s' ++ msR cf ρ' s')) w → Keeps V w := by
 intro w h
 refine ⟨h.os.trans hk.os, h.tape.trans hk.tape, h.output.trans hk.output, Nat.le_trans hk.size h.size, fun b hb => (h.keep b ⟨Nat.lt_of_lt_of_le (V.lt b hb) hk.size, fun hm => ?_⟩).trans (hk.keep b hb)⟩
 rcases List.mem_append.1 hm with hm | hm
 ·obtain ⟨x, hx, hcx, rfl⟩ := ms_mem hm
  exact hn x hx hcx hb
 ·obtain ⟨hx, r, hr1, hk1⟩ := msR_mem hm
  exact hr hx r hr1 b hk1 hb
theorem quiet_val {ops : Array Oper} {C : World → Prop} {o : Oper} {v : Value} {a : Act} (hw : Region.wanted o (yielded ops a.tmps) = true) (h : ∀ w, C w → (execOp a.eval o).run P w = .ok (.value v) w) : YieldsG P ops C o v a :=
 .inl ⟨hw, fun w hC => by unfold Oper.quietAt; rw [h w hC]; exact ⟨rfl, rfl⟩⟩
theorem xsole_ok {cf : Cfg} {N : Nat} {W0 : Wd} {R : Ending → World → Prop} {L : Lv} {ops : Array Oper} {Q : Exit → Act → World → Prop} (hP : PanOk W0 R Q) {K : St → Option Tree} {n0 g : Nat} {tits : List It} {nx : Nat → List It → St → (St → Option Tree) → Option Tree}
  (hrec : ∀ (mask : Nat) (rem : List It) (s : St) (t : Tree) (ρ : Env) (a : Act) (W V : Wd) (listed : Array Bool), nx mask rem s K = some t → Holds N W0 ρ s a W → t.den P N R L ρ W →
   KOk P N W0 R L ρ W s.lp K (Q .normal) → Rem P ops n0 g mask rem tits listed → Cls cf ρ s W V → wpG P ops Q (fun w' => Keeps V w') n0 g rem.length listed a W.w)
  {mask : Nat} {rem : List It} {it : It} {s : St} {t : Tree} {ρ : Env} {a : Act} {W V : Wd} {listed' : Array Bool} (hx : xsole P cf nx mask rem it s K = some t) (hh : Holds N W0 ρ s a W) (ht : t.den P N R L ρ W)
  (hK : KOk P N W0 R L ρ W s.lp K (Q .normal)) (hnext : Rem P ops n0 g (Nat.lor mask (2 ^ it.i)) rem tits listed') (hc : Cls cf ρ s W V) :
  ∀ w', Gr W.w w' → it.o.wp P a w' (fun a' w'' => Keeps V w'' ∧ wpG P ops Q (fun w' => Keeps V w') n0 g rem.length listed' a' w'') Q := by
 have hhS : Holds N W0 ρ { s with tm := simT s.kn s.tm } a W := hh.tms (simT_at hh.tm hh.kn)
 simp only [xsole] at hx
 split at hx
 ·rename_i cs v hv
  obtain ⟨u, hu, rfl⟩ := map_some hx
  obtain ⟨hcs, hd⟩ := chks_den hh.kn ht
  intro w' hw'
  have hk : Keeps W.all w' := Keeps.of_below hw'
  have x0 := W.next_ext hk.all
  have hh1 := hh.grow hk
  have ht1 := hd _ x0
  have e1 : (W.next w' hk.size).w = w' := rfl
  rw [← e1] at hw' ⊢
  generalize W.next w' hk.size = W1 at *
  have hr := xval_ok hv hh1.good (simT_at hh1.tm hh1.kn) (both_at hh1.hp hh1.ro) hh1.kn hcs
  unfold Oper.wp
  rw [hr]
  have h2 := (hh1.put it.o.dst (v.den ρ) (some v) (fun y hy => by obtain rfl := Option.some.inj hy; rfl)).knows (learns_ok hh1.kn hcs)
  have hV : Keeps V W1.w := hc.here.gr hw'
  refine ⟨hV, wpG_mono (cls_in (cf := cf) (W' := W1) (ρ' := ρ) (s' := { s with tm := putS s.n s.tm it.o.dst (some v), kn := learns s.kn cs }) hc hV hc.nov hc.novr) _ _ _ _ ?_⟩
  exact hrec _ _ _ _ ρ _ _ _ _ hu h2 ht1 (hK.more x0) hnext (cls_of h2)
 split at hx
 ·rename_i ty cs v he
  split at hx
  ·rename_i m hst
   split at hx
   ·rename_i hok
    simp only [Bool.and_eq_true] at hok
    obtain ⟨u, hu, rfl⟩ := map_some hx
    intro w' hw'
    have hk : Keeps W.all w' := Keeps.of_below hw'
    have x0 := W.next_ext hk.all
    have hh1 := hh.grow hk
    have hhS1 := hhS.grow hk
    have ht1 := ht _ x0
    have e1 : (W.next w' hk.size).w = w' := rfl
    rw [← e1] at hw' ⊢
    generalize W.next w' hk.size = W1 at *
    have hM : ρ.M.length = s.c.M := by rw [← hh.cnt]; rfl
    have hgd : gd (ρ.push { M := [W1.w.heap.size] }).M s.c.M 0 = W1.w.heap.size := by
     show gd (ρ.M ++ [W1.w.heap.size]) s.c.M 0 = _
     rw [← hM]
     exact gd_last _ _ _
    unfold Oper.wp
    rw [xeff_new hhS1 he hgd]
    have ev : v.den (ρ.push { M := [W1.w.heap.size] }) = .slice (some ⟨W1.w.heap.size, 0, none⟩) m m := by
     rw [stayN_is hst]; simp only [Sy.den, hgd]
    rw [ev]
    have h2 := hh1.newf hok.1 ty cs m it.o.dst
    have x1 := W1.plusI_ext (.cells (Sy.dens ρ cs).toArray ty)
    have h3 := ht1 W1.w.heap.size _ hh1.nsz x1 (.inr rfl) (by show (W1.w.heap.push _)[W1.w.heap.size]? = _; simp)
    have hV : Keeps V (W1.plusI (.cells (Sy.dens ρ cs).toArray ty)).w := (hc.here.gr hw').gr (Below.alloc (Below.refl _ _) (Nat.le_refl _) _)
    have hnov : ∀ b ∈ s.hp, cf.mus.contains b.m = true → ¬ V.I (gd (ρ.push { A := [some ⟨W1.w.heap.size, 0, none⟩] }).M b.m 0) := fun b hb hm => (hc.push (d := { A := [some ⟨W1.w.heap.size, 0, none⟩] }) (s' := s) hh hok.1 rfl rfl).nov b hb hm
    refine ⟨hV, wpG_mono (cls_in (cf := cf) (ρ' := ρ.push { A := [some ⟨W1.w.heap.size, 0, none⟩] }) (s' := { s with tm := putS s.n s.tm it.o.dst (some (.slc s.c.A (.il m) (.il m))), c := s.c.add { A := 1 } }) hc hV hnov (hc.push (d := { A := [some ⟨W1.w.heap.size, 0, none⟩] }) (s' := s) hh hok.1 rfl rfl).novr) _ _ _ _ ?_⟩
    exact hrec _ _ _ _ _ _ _ _ _ hu h2 h3 (hK.step (x0.trans x1)) hnext (cls_of h2)
   ·cases hx
  split at hx
  ·rename_i m z hrn
   split at hx
   ·rename_i hok
    simp only [Bool.and_eq_true] at hok
    obtain ⟨u, hu, rfl⟩ := map_some hx
    obtain ⟨ev0, q1, q2, q3⟩ := rowN_is hrn
    intro w' hw'
    have hk : Keeps W.all w' := Keeps.of_below hw'
    have x0 := W.next_ext hk.all
    have hh1 := hh.grow hk
    have hhS1 := hhS.grow hk
    have ht1 := ht _ x0
    have e1 : (W.next w' hk.size).w = w' := rfl
    rw [← e1] at hw' ⊢
    generalize W.next w' hk.size = W1 at *
    have hM : ρ.M.length = s.c.M := by rw [← hh.cnt]; rfl
    have hgd : gd (ρ.push { M := [W1.w.heap.size] }).M s.c.M 0 = W1.w.heap.size := by
     show gd (ρ.M ++ [W1.w.heap.size]) s.c.M 0 = _
     rw [← hM]
     exact gd_last _ _ _
    unfold Oper.wp
    rw [xeff_new hhS1 he hgd]
    have ev : v.den (ρ.push { M := [W1.w.heap.size] }) = .slice (some ⟨W1.w.heap.size, 0, none⟩) m m := by
     rw [ev0]; simp only [Sy.den, hgd]
    rw [ev]
    obtain ⟨W', e2, x1, h2⟩ := hh1.newr hok.1 ty cs hok.2 q3 q2 q1 it.o.dst
    have h3 := ht1 (some ⟨W1.w.heap.size, 0, none⟩) m W' (fun _ => rfl) x1
    have hV : Keeps V W'.w := by rw [e2]; exact (hc.here.gr hw').gr (Below.alloc (Below.refl _ _) (Nat.le_refl _) _)
    have hnov : ∀ b ∈ s.hp, cf.mus.contains b.m = true → ¬ V.I (gd (ρ.push { A := [some ⟨W1.w.heap.size, 0, none⟩], N := [m] }).M b.m 0) := fun b hb hm => (hc.push (d := { A := [some ⟨W1.w.heap.size, 0, none⟩], N := [m] }) (s' := s) hh hok.1 rfl rfl).nov b hb hm
    have hnovr : cf.rwx = true → ∀ r ∈ (appSt s it.o.dst (nilRow ty z) s.rw (.il m) (cs.map .s)).rw, ∀ k, ownB (ρ.push { A := [some ⟨W1.w.heap.size, 0, none⟩], N := [m] }) r = some k → ¬ V.I k := fun hx r hr k hk3 hI => by
     rcases List.mem_cons.1 hr with h5 | h5
     ·subst h5
      have hA : gd (ρ.push { A := [some ⟨W1.w.heap.size, 0, none⟩], N := [m] }).A s.c.A none = some ⟨W1.w.heap.size, 0, none⟩ := by
       show gd (ρ.A ++ [some ⟨W1.w.heap.size, 0, none⟩]) s.c.A none = _
       rw [← hh.cnt]; exact gd_last _ _ _
      unfold ownB at hk3
      simp only [Sy.den, hA, Value.ownBlock, Option.some.injEq] at hk3
      have h7 := V.lt _ hI
      have h8 := (hc.here.gr hw').size
      omega
     ·exact (hc.push (d := { A := [some ⟨W1.w.heap.size, 0, none⟩], N := [m] }) (s' := s) hh hok.1 rfl rfl).novr hx r h5 k hk3 hI
    show Keeps V (W1.w.alloc _) ∧ wpG P ops Q (fun w' => Keeps V w') n0 g _ _ _ (W1.w.alloc _)
    rw [← e2]
    refine ⟨hV, wpG_mono (cls_in (cf := cf) (W' := W') (ρ' := ρ.push { A := [some ⟨W1.w.heap.size, 0, none⟩], N := [m] }) (s' := appSt s it.o.dst (nilRow ty z) s.rw (.il m) (cs.map .s)) hc hV hnov hnovr) _ _ _ _ ?_⟩
    exact hrec _ _ _ _ _ _ _ _ _ hu h2 h3 (hK.step (x0.trans x1)) hnext (cls_of h2)
   ·cases hx
  split at hx
  ·rename_i hok
   simp only [Bool.and_eq_true] at hok
   obtain ⟨u, hu, rfl⟩ := map_some hx
   intro w' hw'
   have hk : Keeps W.all w' := Keeps.of_below hw'
   have x0 := W.next_ext hk.all
   have hh1 := hh.grow hk
   have hhS1 := hhS.grow hk
   have ht1 := ht _ x0
   have e1 : (W.next w' hk.size).w = w' := rfl
   rw [← e1] at hw' ⊢
   generalize W.next w' hk.size = W1 at *
   have hM : ρ.M.length = s.c.M := by rw [← hh.cnt]; rfl
   have hgd : gd (ρ.push { M := [W1.w.heap.size] }).M s.c.M 0 = W1.w.heap.size := by
    show gd (ρ.M ++ [W1.w.heap.size]) s.c.M 0 = _
    rw [← hM]
    exact gd_last _ _ _
   unfold Oper.wp
   rw [xeff_new hhS1 he hgd]
   have h1 := hh1.new hok.1 ty cs hok.2
   have h2 := h1.put it.o.dst (v.den (ρ.push { M := [W1.w.heap.size] })) (some v) (fun y hy => by obtain rfl := Option.some.inj hy; rfl)
   have x1 := W1.plus_ext (.cells (Sy.dens ρ cs).toArray ty)
   have h3 := ht1 W1.w.heap.size _ hh1.nsz x1
   have hV : Keeps V (W1.plus (.cells (Sy.dens ρ cs).toArray ty)).w := (hc.here.gr hw').gr (Below.alloc (Below.refl _ _) (Nat.le_refl _) _)
   have hnov : ∀ b ∈ (⟨s.c.M, ty, cs⟩ :: s.hp : List Blk), cf.mus.contains b.m = true → ¬ V.I (gd (ρ.push { M := [W1.w.heap.size] }).M b.m 0) := fun b hb hm hI => by
    rcases List.mem_cons.1 hb with e | e
    ·subst e
     rw [hgd] at hI
     have h4 := V.lt _ hI
     have h5 := (hc.here.gr hw').size
     omega
    ·exact (hc.push (d := { M := [W1.w.heap.size] }) (s' := s) hh hok.1 rfl rfl).nov b e hm hI
   refine ⟨hV, wpG_mono (cls_in (cf := cf) (ρ' := ρ.push { M := [W1.w.heap.size] }) (s' := { s with tm := putS s.n s.tm it.o.dst (some v), hp := ⟨s.c.M, ty, cs⟩ :: s.hp, c := s.c.add { M := 1 } }) hc hV hnov (hc.push (d := { M := [W1.w.heap.size] }) (s' := s) hh hok.1 rfl rfl).novr) _ _ _ _ ?_⟩
   exact hrec _ _ _ _ _ _ _ _ _ hu h2 h3 (hK.step (x0.trans x1)) hnext (cls_of h2)
  ·cases hx
 ·rename_i m cs he
  split at hx
  ·rename_i hok
   obtain ⟨u, hu, rfl⟩ := map_some hx
   intro w' hw'
   have hk : Keeps W.all w' := Keeps.of_below hw'
   have x0 := W.next_ext hk.all
   have hh1 := hh.grow hk
   have hhS1 := hhS.grow hk
   have ht1 := ht _ x0
   have e1 : (W.next w' hk.size).w = w' := rfl
   rw [← e1] at hw' ⊢
   generalize W.next w' hk.size = W1 at *
   unfold Oper.wp
   obtain ⟨⟨b, hb⟩, hrun⟩ := xeff_upd hhS1 he
   rw [hrun]
   obtain ⟨h0, h1⟩ := hh1.upd hb cs
   have h2 := h1.put it.o.dst undef (some undefS) (fun y hy => by obtain rfl := Option.some.inj hy; rfl)
   obtain ⟨fb1, fb2⟩ := findB_mem hb
   have hMv : ¬ V.I (gd ρ.M m 0) := by rw [← fb2]; exact hc.nov b fb1 (by rw [fb2]; exact hok)
   have hV : Keeps V (W1.row (gd ρ.M m 0) (Sy.dens ρ cs).toArray).w := by
    have h3 := hc.here.gr hw'
    refine ⟨h3.os, h3.tape, h3.output, ?_, fun k hk2 => ?_⟩
    ·have := h3.size; simpa [Wd.row] using this
    ·exact (setRow_other _ _ _ _ (fun e => hMv (by rw [e] at hk2; exact hk2))).trans (h3.keep k hk2)
   have hnov : ∀ b ∈ setB s.hp m cs, cf.mus.contains b.m = true → ¬ V.I (gd ρ.M b.m 0) := fun y hy hm => by
    obtain ⟨s1, _⟩ := setB_spec ρ s.hp m b cs hb hh.nd
    rcases s1 y hy with e | e
    ·subst e; exact hc.nov b fb1 hm
    ·exact hc.nov y e.1 hm
   refine ⟨hV, wpG_mono (cls_in (cf := cf) (W' := W1.row (gd ρ.M m 0) (Sy.dens ρ cs).toArray) (ρ' := ρ) (s' := { s with tm := putS s.n s.tm it.o.dst (some undefS), hp := setB s.hp m cs }) hc hV hnov hc.novr) _ _ _ _ ?_⟩
   exact hrec _ _ _ _ ρ _ _ _ _ hu h2 (ht1 _ h0) (hK.more (x0.trans h0)) hnext (cls_of h2)
  ·cases hx
 ·rename_i f args he
  split at hx
  ·rename_i ps qs hrws
   split at hx
   ·rename_i res c1 hs
    split at hx
    ·rename_i nr c' hnr
     split at hx
     ·rename_i hok
      simp only [Bool.and_eq_true] at hok
      obtain ⟨u, hu, rfl⟩ := map_some hx
      intro w' hw'
      have hk : Keeps W.all w' := Keeps.of_below hw'
      have x0 := W.next_ext hk.all
      have hh1 := hh.grow hk
      have hhS1 := hhS.grow hk
      have ht1 := ht _ x0
      have e1 : (W.next w' hk.size).w = w' := rfl
      rw [← e1] at hw' ⊢
      generalize W.next w' hk.size = W1 at *
      unfold Oper.wp
      rw [xeff_call hhS1 he]
      show Calls P f _ W1.w _
      have hperm : s.rw.Perm ([] ++ s.rw) := List.Perm.refl _
      have hcl := ht1 (reach_at (both_at hh1.hp hh1.ro)) hh1.rw
      refine Calls.mono hcl ?_
      rintro e w2 ⟨hk2, hR⟩
      cases e with
      | returned v =>
       obtain ⟨d, hd, hv, hnew, hden⟩ := ExE.out hR
       obtain ⟨hs0, h1⟩ := hh1.calledR hok.1 hd.2 hperm hk2 hnew
       have h2 := h1.put it.o.dst v (some res) (fun y hy => by obtain rfl := Option.some.inj hy; exact hv)
       rw [hd.1] at h2
       have x1 := W1.nextB_ext hs0 (rowNos (ρ.push d) nr)
       have hVk : Keeps V w2 := by
        have h3 := hc.here.gr hw'
        exact ⟨hk2.os.trans h3.os, hk2.tape.trans h3.tape, hk2.output.trans h3.output, Nat.le_trans h3.size hk2.size, fun b hb => (hk2.keep b ⟨Nat.lt_of_lt_of_le (V.lt b hb) h3.size, fun hm => by cases hm⟩).trans (h3.keep b hb)⟩
       have hnov : ∀ b ∈ s.hp, cf.mus.contains b.m = true → ¬ V.I (gd (ρ.push d).M b.m 0) := fun b hb hm => (hc.push (d := d) (s' := s) hh hok.1 rfl rfl).nov b hb hm
       have hnovr : cf.rwx = true → ∀ r ∈ nr ++ s.rw, ∀ k, ownB (ρ.push d) r = some k → ¬ V.I k := fun hx r hr k hk3 hI => by
        rcases List.mem_append.1 hr with h5 | h5
        ·rcases hnew.new r h5 k hk3 with h6 | h6
         ·have h7 := V.lt _ hI
          have h8 := (hc.here.gr hw').size
          omega
         ·cases h6
        ·exact (hc.push (d := d) (s' := s) hh hok.1 rfl rfl).novr hx r h5 k hk3 hI
       refine ⟨hVk, wpG_mono (cls_in (cf := cf) (W' := W1.nextB w2 hs0.size (rowNos (ρ.push d) nr)) (ρ' := ρ.push d) (s' := { s with tm := putS s.n s.tm it.o.dst (some res), rw := nr ++ s.rw, c := s.c.add (c'.less s.c) }) hc hVk hnov hnovr) _ _ _ _ ?_⟩
       exact hrec _ _ _ _ _ _ _ _ _ hu h2 (hden _ rfl x1 (W1.nextB_new hs0.size _)) (hK.step (x0.trans x1)) hnext (cls_of h2)
      | panicked ch =>
       exact hP.pan ch _ _ hh.df (((hk2.less (V := W1) rfl fun b hb => ⟨W1.lt b hb, hh1.rowsI hperm hb⟩).start x0).start hh.ext) hR
      | outgrown => exact hR.elim
     ·cases hx
    ·cases hx
   ·cases hx
  ·split at hx
   ·rename_i res c1 hs
    split at hx
    ·rename_i mu c' hmu
     split at hx
     ·rename_i hok
      simp only [Bool.and_eq_true] at hok
      obtain ⟨u, hu, rfl⟩ := map_some hx
      intro w' hw'
      have hk : Keeps W.all w' := Keeps.of_below hw'
      have x0 := W.next_ext hk.all
      have hh1 := hh.grow hk
      have hhS1 := hhS.grow hk
      have ht1 := ht _ x0
      have e1 : (W.next w' hk.size).w = w' := rfl
      rw [← e1] at hw' ⊢
      generalize W.next w' hk.size = W1 at *
      unfold Oper.wp
      rw [xeff_call hhS1 he]
      show Calls P f _ W1.w _
      have hcl := ht1 (reach_at (both_at hh1.hp hh1.ro)) (mu_apart hh1 hok.2.1 _) hh1.rw
      refine Calls.mono hcl ?_
      rintro e w2 ⟨hk2, hR⟩
      cases e with
      | returned v =>
       obtain ⟨d, hd, hv, hat, hden⟩ := ExE.out hR
       obtain ⟨hs0, h1⟩ := hh1.called hok.1 hd.2 hok.2.1 hk2 hat
       have h2 := h1.put it.o.dst v (some res) (fun y hy => by obtain rfl := Option.some.inj hy; exact hv)
       rw [hd.1] at h2
       have x1 := W1.next_ext hs0
       have hVk : Keeps V w2 := by
        have h3 := hc.here.gr hw'
        refine ⟨hk2.os.trans h3.os, hk2.tape.trans h3.tape, hk2.output.trans h3.output, Nat.le_trans h3.size hk2.size, fun b hb => (hk2.keep b ⟨Nat.lt_of_lt_of_le (V.lt b hb) h3.size, fun hm => ?_⟩).trans (h3.keep b hb)⟩
        obtain ⟨x, hxm, rfl⟩ := List.mem_map.1 hm
        have q1 := List.all_eq_true.1 hok.2.2 x hxm
        have q2 := List.all_eq_true.1 hok.2.1 x hxm
        cases hf : findB s.hp x.m with
        | none => rw [hf] at q2; cases q2
        | some y =>
         obtain ⟨f1, f2⟩ := findB_mem hf
         rw [← f2] at hb q1
         exact hc.nov y f1 q1 hb
       have hmm : ∀ b, (replB mu b).m = b.m := fun b => by
        unfold replB
        split
        ·rename_i b' e; exact (findB_mem e).2
        ·rfl
       have hnov : ∀ b ∈ s.hp.map (replB mu), cf.mus.contains b.m = true → ¬ V.I (gd (ρ.push d).M b.m 0) := fun b hb hm => by
        obtain ⟨y, hy, rfl⟩ := List.mem_map.1 hb
        rw [hmm] at hm ⊢
        exact (hc.push (d := d) (s' := s) hh hok.1 rfl rfl).nov y hy hm
       refine ⟨hVk, wpG_mono (cls_in (cf := cf) (W' := W1.next w2 hs0.size) (ρ' := ρ.push d) (s' := { s with tm := putS s.n s.tm it.o.dst (some res), hp := s.hp.map (replB mu), c := s.c.add (c'.less s.c) }) hc hVk hnov (hc.push (d := d) (s' := s) hh hok.1 rfl rfl).novr) _ _ _ _ ?_⟩
       exact hrec _ _ _ _ _ _ _ _ _ hu h2 (hden (W1.next w2 hs0.size) rfl x1 (W1.next_new hs0.size)) (hK.step (x0.trans x1)) hnext (cls_of h2)
      | panicked ch =>
       refine hP.pan ch _ _ hh.df ?_ hR
       exact (hk2.less (V := W1) rfl fun b hb => ⟨W1.lt b hb, muIn_notI hh1 hok.2.1 hb⟩).start hh1.ext
      | outgrown => exact hR.elim
     ·cases hx
    ·cases hx
   ·cases hx
 ·rename_i r rw k xs b he
  split at hx
  ·rename_i hok
   simp only [Bool.and_eq_true] at hok
   obtain ⟨hrx, ⟨⟨⟨⟨o1, o2⟩, o3⟩, o4⟩, o5⟩, o6⟩ := hok
   obtain ⟨u, hu, rfl⟩ := map_some hx
   obtain ⟨hck, hd⟩ := chks_den hh.kn ht
   intro w' hw'
   have hk : Keeps W.all w' := Keeps.of_below hw'
   have x0 := W.next_ext hk.all
   have hh1 := hh.grow hk
   have hhS1 := hhS.grow hk
   have hd := hd _ x0
   have e1 : (W.next w' hk.size).w = w' := rfl
   rw [← e1] at hw' ⊢
   generalize W.next w' hk.size = W1 at *
   unfold Oper.wp
   have okS : St.ok { s with tm := simT s.kn s.tm } = true := ok_simT o1
   obtain ⟨ad, c, w2, W', hrun, rfl, x1, x2, x3, x4, x5⟩ := xeff_app hhS1 okS he o2 o3 o4 o5 o6 hck.1
   rw [hrun]
   have hh3 : Holds N W0 (ρ.push { A := [ad], N := [c] }) (appSt s it.o.dst r rw k xs) (a.put it.o.dst (.slice ad ((r.n.i ρ).toNat + (k.i ρ).toNat) c)) W' := x3.tms (app_tm hh1 o1 x3)
   have hV : Keeps V W'.w := by
    have h3 := hc.here.gr hw'
    refine ⟨x4.os.trans h3.os, x4.tape.trans h3.tape, x4.output.trans h3.output, Nat.le_trans h3.size x4.size, fun b hb => (x4.keep b ⟨Nat.lt_of_lt_of_le (V.lt b hb) h3.size, fun hm => ?_⟩).trans (h3.keep b hb)⟩
    obtain ⟨q, hq, hqk⟩ := rowNos_mem.1 hm
    exact hc.novr hrx q hq b hqk hb
   have hnov : ∀ b ∈ s.hp, cf.mus.contains b.m = true → ¬ V.I (gd (ρ.push { A := [ad], N := [c] }).M b.m 0) := fun b hb hm => (hc.push (d := { A := [ad], N := [c] }) (s' := s) hh o1 rfl rfl).nov b hb hm
   have hnovr : cf.rwx = true → ∀ q ∈ (appSt s it.o.dst r rw k xs).rw, ∀ kk, ownB (ρ.push { A := [ad], N := [c] }) q = some kk → ¬ V.I kk := fun _ q hq kk hk3 hI => by
    rcases x5 q hq kk hk3 with h5 | h5
    ·obtain ⟨q2, hq2, hk4⟩ := rowNos_mem.1 h5
     exact hc.novr hrx q2 hq2 kk hk4 hI
    ·have h7 := V.lt _ hI
     have h8 := (hc.here.gr hw').size
     omega
   refine ⟨hV, wpG_mono (cls_in (cf := cf) (W' := W') (ρ' := ρ.push { A := [ad], N := [c] }) (s' := appSt s it.o.dst r rw k xs) hc hV hnov hnovr) _ _ _ _ ?_⟩
   exact hrec _ _ _ _ _ _ _ _ _ hu hh3 (hd ad c W' x2 x1) (hK.step (x0.trans x1)) hnext (cls_of hh3)
  ·cases hx
 ·rename_i r rw aa k c0 b he
  split at hx
  ·rename_i hok
   simp only [Bool.and_eq_true, decide_eq_true_eq] at hok
   obtain ⟨hrx, ⟨⟨⟨⟨⟨⟨o1, o2⟩, o3⟩, o4⟩, o5⟩, o6⟩, o7⟩, o8⟩ := hok
   obtain ⟨u, hu, rfl⟩ := map_some hx
   obtain ⟨hck, hd⟩ := chks_den hh.kn ht
   intro w' hw'
   have hk : Keeps W.all w' := Keeps.of_below hw'
   have x0 := W.next_ext hk.all
   have hh1 := hh.grow hk
   have hhS1 := hhS.grow hk
   have hd := hd _ x0
   obtain ⟨l, l1, l2, l3, l4, hd⟩ := hd
   have e1 : (W.next w' hk.size).w = w' := rfl
   rw [← e1] at hw' ⊢
   generalize W.next w' hk.size = W1 at *
   unfold Oper.wp
   have okS : St.ok { s with tm := simT s.kn s.tm } = true := ok_simT o1
   obtain ⟨ad, c, w2, W', hrun, rfl, x1, x2, x3, x4, x5⟩ := xeff_appf hhS1 okS he o2 o4 o5 o8 o3 hck.1 l1 l2 l3 (fun ad had j u hj => l4 ad had W1 (Ext.refl W1) (fun q hq => hhS1.rw q hq) j u hj)
   rw [hrun]
   have hh3 : Holds N W0 ((ρ.push { L := [l] }).push { A := [ad], N := [c] }) (appSt { s with c := s.c.add { L := 1 } } it.o.dst r rw k [.l s.c.L]) (a.put it.o.dst (.slice ad ((r.n.i ρ).toNat + (k.i ρ).toNat) c)) W' := x3.tms (app_tm' hh1 o1 x3)
   have hV : Keeps V W'.w := by
    have h3 := hc.here.gr hw'
    refine ⟨x4.os.trans h3.os, x4.tape.trans h3.tape, x4.output.trans h3.output, Nat.le_trans h3.size x4.size, fun b hb => (x4.keep b ⟨Nat.lt_of_lt_of_le (V.lt b hb) h3.size, fun hm => ?_⟩).trans (h3.keep b hb)⟩
    obtain ⟨q, hq, hqk⟩ := rowNos_mem.1 hm
    exact hc.novr hrx q hq b hqk hb
   have hnov : ∀ b ∈ s.hp, cf.mus.contains b.m = true → ¬ V.I (gd ((ρ.push { L := [l] }).push { A := [ad], N := [c] }).M b.m 0) := fun b hb hm => by
    rw [push_push]; exact (hc.push (d := ({ L := [l] } : Env).push { A := [ad], N := [c] }) (s' := s) hh o1 rfl rfl).nov b hb hm
   have hnovr : cf.rwx = true → ∀ q ∈ (appSt { s with c := s.c.add { L := 1 } } it.o.dst r rw k [.l s.c.L]).rw, ∀ kk, ownB ((ρ.push { L := [l] }).push { A := [ad], N := [c] }) q = some kk → ¬ V.I kk := fun _ q hq kk hk3 hI => by
    rcases x5 q hq kk hk3 with h5 | h5
    ·obtain ⟨q2, hq2, hk4⟩ := rowNos_mem.1 h5
     exact hc.novr hrx q2 hq2 kk hk4 hI
    ·have h7 := V.lt _ hI
     have h8 := (hc.here.gr hw').size
     omega
   refine ⟨hV, wpG_mono (cls_in (cf := cf) (W' := W') (ρ' := (ρ.push { L := [l] }).push { A := [ad], N := [c] }) (s' := appSt { s with c := s.c.add { L := 1 } } it.o.dst r rw k [.l s.c.L]) hc hV hnov hnovr) _ _ _ _ ?_⟩
   have hp : (addE r.n k).i (ρ.push { L := [l] }) = (addE r.n k).i ρ := by
    simp only [RowS.ok, Bool.and_eq_true] at o8
    rw [addE_i, addE_i, (E.push ρ _ _ (by rw [hh.cnt]; exact o8.1.2)).1, (E.push ρ _ _ (by rw [hh.cnt]; exact o5)).1]
   exact hrec _ _ _ _ _ _ _ _ _ hu hh3 (hd ad c W' (by rw [hp]; exact x2) x1) (by rw [push_push]; exact hK.step (x0.trans x1)) hnext (cls_of hh3)
  ·cases hx
 ·rename_i t' p r he
  split at hx
  ·rename_i res c' hs
   split at hx
   ·rename_i hok
    obtain ⟨u, hu, rfl⟩ := map_some hx
    intro w' hw'
    have hk : Keeps W.all w' := Keeps.of_below hw'
    have x0 := W.next_ext hk.all
    have hh1 := hh.grow hk
    have hhS1 := hhS.grow hk
    have ht1 := ht _ x0
    have e1 : (W.next w' hk.size).w = w' := rfl
    rw [← e1] at hw' ⊢
    generalize W.next w' hk.size = W1 at *
    obtain ⟨d, hd, hl, hden⟩ := ExE.out ht1
    unfold Oper.wp
    rw [(xeff_rlook hhS1 he (hl W1.w (hh1.rw r (rlook_mem hhS1 he)))).2]
    have h1 := hh1.push hok hd.2
    have h2 := h1.put it.o.dst (res.den (ρ.push d)) (some res) (fun y hy => by obtain rfl := Option.some.inj hy; rfl)
    rw [hd.1] at h2
    have hV : Keeps V W1.w := hc.here.gr hw'
    have hcp := hc.push (d := d) (s' := s) hh hok rfl rfl
    refine ⟨hV, wpG_mono (cls_in (cf := cf) (W' := W1) (ρ' := ρ.push d) (s' := { s with tm := putS s.n s.tm it.o.dst (some res), c := s.c.add (c'.less s.c) }) hc hV hcp.nov hcp.novr) _ _ _ _ ?_⟩
    exact hrec _ _ _ _ _ _ _ _ _ hu h2 hden (hK.step x0) hnext (cls_of h2)
   ·cases hx
  ·cases hx
 ·rename_i t' p he
  split at hx
  ·rename_i res c' hs
   split at hx
   ·rename_i hok
    obtain ⟨u, hu, rfl⟩ := map_some hx
    intro w' hw'
    have hk : Keeps W.all w' := Keeps.of_below hw'
    have x0 := W.next_ext hk.all
    have hh1 := hh.grow hk
    have hhS1 := hhS.grow hk
    have ht1 := ht _ x0
    have e1 : (W.next w' hk.size).w = w' := rfl
    rw [← e1] at hw' ⊢
    generalize W.next w' hk.size = W1 at *
    obtain ⟨d, hd, hl, hden⟩ := ExE.out ht1
    unfold Oper.wp
    rw [xeff_look hhS1 he (hl W1 (Ext.refl W1))]
    have h1 := hh1.push hok hd.2
    have h2 := h1.put it.o.dst (res.den (ρ.push d)) (some res) (fun y hy => by obtain rfl := Option.some.inj hy; rfl)
    rw [hd.1] at h2
    have hV : Keeps V W1.w := hc.here.gr hw'
    have hcp := hc.push (d := d) (s' := s) hh hok rfl rfl
    refine ⟨hV, wpG_mono (cls_in (cf := cf) (W' := W1) (ρ' := ρ.push d) (s' := { s with tm := putS s.n s.tm it.o.dst (some res), c := s.c.add (c'.less s.c) }) hc hV hcp.nov hcp.novr) _ _ _ _ ?_⟩
    exact hrec _ _ _ _ _ _ _ _ _ hu h2 hden (hK.step x0) hnext (cls_of h2)
   ·cases hx
  ·cases hx
 ·cases hx
theorem preOf_is {s : St} {op : Op} {v : Sy} {k : E} {r : RowS} (h : preOf P s op = some (v, k, r)) : findR s.rw r.v = some r ∧ s.ok = true ∧ isNat k = true ∧ v.ok s.c = true ∧ k.ok s.c = true ∧ ∃ a c, v = .slc a k c := by
 unfold preOf at h
 split at h
 ·split at h
  ·split at h
   ·split at h
    ·rename_i hc
     simp only [Bool.and_eq_true] at hc
     split at h
     ·split at h
      ·rename_i hf
       obtain rfl := (Prod.mk.inj (Option.some.inj h)).1
       obtain ⟨rfl, rfl⟩ := Prod.mk.inj (Prod.mk.inj (Option.some.inj h)).2
       have e := (findR_perm hf).2
       refine ⟨by rw [e]; exact hf, hc.2.1, hc.2.2.1, hc.2.2.2, ?_, _, _, rfl⟩
       have := hc.2.2.2
       simp only [Sy.ok, Bool.and_eq_true] at this
       exact this.1.2
      ·cases h
     ·cases h
    ·cases h
   ·cases h
  ·cases h
 ·cases h
theorem owns_head {w : World} {b : Nat} {e : TypeId} {sz : Nat} {a : Option Addr} {n c k : Nat} {xs : List Value} {m : Nat} (h : w.ownsRow b e sz (.slice a n c) m xs) (hk : k ≤ m) : w.ownsRow b e sz (.slice a k c) k (xs.take (k * sz)) := by
 obtain ⟨h1, h2⟩ := h
 have hm : k * sz ≤ m * sz := Nat.mul_le_mul_right _ hk
 refine ⟨by rw [List.length_take, h1]; omega, ?_⟩
 rcases h2 with ⟨e1, e2⟩ | ⟨g, cap, cur, e1, hb, hc, hn, hm2, hs, ht⟩
 ·injection e1 with a1 a2 a3
  subst a1 a3
  exact .inl ⟨by rw [show k = 0 by omega], by omega⟩
 ·injection e1 with a1 a2 a3
  subst a1 a3
  refine .inr ⟨g, c, cur, rfl, hb, hc, by omega, hm2, hs, ?_⟩
  rw [← ht, List.take_take, Nat.min_eq_left hm]
theorem pre_holds {cf : Cfg} {N : Nat} {W0 : Wd} {ρ : Env} {s : St} {a : Act} {W V : Wd} (h : Holds N W0 ρ s a W) (hc : Cls cf ρ s W V) {op : Op} {v : Sy} {k : E} {r : RowS} (hp : preOf P s op = some (v, k, r))
  (hd : ∃ ad n c, r.v.den ρ = .slice ad n c ∧ v.den ρ = .slice ad (k.i ρ).toNat c ∧ (k.i ρ).toNat ≤ (r.n.i ρ).toNat) :
  Holds N W0 (ρ.push { L := [(conts ρ r.xs).take ((k.i ρ).toNat * r.sz)] }) (preSt s v k r) a W ∧ Cls cf (ρ.push { L := [(conts ρ r.xs).take ((k.i ρ).toNat * r.sz)] }) (preSt s v k r) W V := by
 obtain ⟨hf, ho, hn, hv, hk, _⟩ := preOf_is hp
 obtain ⟨hpm, _⟩ := findR_perm hf
 have hr : r ∈ s.rw := hpm.mem_iff.2 (List.mem_cons_self ..)
 have hre : ∀ q ∈ dropR s.rw r.v, q ∈ s.rw := fun q hq => hpm.mem_iff.2 (List.mem_cons_of_mem _ hq)
 have two := (hpm.pairwise_iff (fun h => relR_symm h)).1 h.rnd
 have hrat := h.rw r hr
 obtain ⟨ad, n, c, e1, e2, e3⟩ := hd
 generalize hD : (conts ρ r.xs).take ((k.i ρ).toNat * r.sz) = D
 have hP := h.push ho (d := { L := [D] }) (fun v hv => by cases hv)
 have oR : ∀ q ∈ s.rw, ownB (ρ.push { L := [D] }) q = ownB ρ q := fun q hq => ownB_push (by
  simp only [St.ok, Bool.and_eq_true] at ho
  rw [h.cnt]; exact List.all_eq_true.1 ho.1.2 q hq)
 have hvd : v.den (ρ.push { L := [D] }) = v.den ρ := Sy.push ρ _ v (by rw [h.cnt]; exact hv)
 have hkd : k.i (ρ.push { L := [D] }) = k.i ρ := (E.push ρ _ k (by rw [h.cnt]; exact hk)).1
 have hcl : conts (ρ.push { L := [D] }) [.l s.c.L] = D := by
  have hL : s.c.L = ρ.L.length := by rw [← h.cnt]; rfl
  have hLg : gd (ρ.push { L := [D] }).L s.c.L [] = D := by rw [hL]; exact gd_last _ _ _
  simp [conts, Seg.den, hLg]
 have hown : ownB (ρ.push { L := [D] }) ⟨v, k, r.e, r.sz, [.l s.c.L]⟩ = ownB ρ r := by
  unfold ownB
  show (v.den (ρ.push { L := [D] })).ownBlock = _
  rw [hvd, e1, e2]
  cases ad <;> rfl
 refine ⟨⟨hP.cnt, hP.good, hP.tm, hP.len, hP.df, hP.hp, hP.ro, fun q hq => ?_, hP.old, hP.own, fun q hq b hb => ?_, hP.nd, ?_, hP.kn, hP.sub, hP.nle, hP.ext⟩, ?_⟩
 ·rcases List.mem_cons.1 hq with e | hq
  ·subst e
   refine ⟨?_, fun u hu => ?_⟩
   ·show W.w.ownsRow N r.e r.sz (v.den (ρ.push { L := [D] })) (k.i (ρ.push { L := [D] })).toNat (conts (ρ.push { L := [D] }) [.l s.c.L])
    rw [hvd, hkd, hcl, e2, ← hD]
    have := hrat.1
    rw [e1] at this
    exact owns_head this e3
   ·change u ∈ conts (ρ.push { L := [D] }) [.l s.c.L] at hu
    rw [hcl, ← hD] at hu
    exact hrat.2 u (List.mem_of_mem_take hu)
  ·exact hP.rw q (hre q hq)
 ·rcases List.mem_cons.1 hq with e | hq
  ·subst e
   rw [hown, ← oR r hr] at hb
   exact hP.rown r hr b hb
  ·exact hP.rown q (hre q hq) b hb
 ·refine List.pairwise_cons.2 ⟨fun q hq b hb => ?_, ?_⟩
  ·rw [hown] at hb
   rw [oR q (hre q hq)]
   exact (List.pairwise_cons.1 two).1 q hq b hb
  ·refine (List.Pairwise.and_mem.1 (List.pairwise_cons.1 two).2).imp ?_
   intro q1 q2 ⟨m1, m2, hq⟩ b hb
   rw [oR q1 (hre q1 m1)] at hb
   rw [oR q2 (hre q2 m2)]
   exact hq b hb
 ·have hcp : Cls cf (ρ.push { L := [D] }) { s with c := s.c.add { L := 1 } } W V := hc.push h ho rfl rfl
  have hrw : ∀ q ∈ (preSt s v k r).rw, ∀ b, ownB (ρ.push { L := [D] }) q = some b → ∃ q' ∈ s.rw, ownB (ρ.push { L := [D] }) q' = some b := fun q hq b hb => by
   rcases List.mem_cons.1 hq with e | hq
   ·subst e
    exact ⟨r, hr, by rw [oR r hr, ← hown]; exact hb⟩
   ·exact ⟨q, hre q hq, hb⟩
  refine ⟨hcp.here, hcp.sz, hcp.sub, hcp.hp, fun hx q hq b hb => ?_, hcp.nov, fun hx q hq b hb => ?_⟩
  ·obtain ⟨q', m, hb'⟩ := hrw q hq b hb
   exact hcp.rw hx q' m b hb'
  ·obtain ⟨q', m, hb'⟩ := hrw q hq b hb
   exact hcp.novr hx q' m b hb'
theorem xsole1_ok {cf : Cfg} {N : Nat} {W0 : Wd} {R : Ending → World → Prop} {L : Lv} {ops : Array Oper} {Q : Exit → Act → World → Prop} (hP : PanOk W0 R Q) {K : St → Option Tree} {n0 g : Nat} {tits : List It} {nx : Nat → List It → St → (St → Option Tree) → Option Tree}
  (hrec : ∀ (mask : Nat) (rem : List It) (s : St) (t : Tree) (ρ : Env) (a : Act) (W V : Wd) (listed : Array Bool), nx mask rem s K = some t → Holds N W0 ρ s a W → t.den P N R L ρ W →
   KOk P N W0 R L ρ W s.lp K (Q .normal) → Rem P ops n0 g mask rem tits listed → Cls cf ρ s W V → wpG P ops Q (fun w' => Keeps V w') n0 g rem.length listed a W.w)
  {mask : Nat} {rem : List It} {it : It} {s : St} {t : Tree} {ρ : Env} {a : Act} {W V : Wd} {listed' : Array Bool} (hx : xsole1 P cf nx mask rem it s K = some t) (hh : Holds N W0 ρ s a W) (ht : t.den P N R L ρ W)
  (hK : KOk P N W0 R L ρ W s.lp K (Q .normal)) (hnext : Rem P ops n0 g (Nat.lor mask (2 ^ it.i)) rem tits listed') (hc : Cls cf ρ s W V) :
  ∀ w', Gr W.w w' → it.o.wp P a w' (fun a' w'' => Keeps V w'' ∧ wpG P ops Q (fun w' => Keeps V w') n0 g rem.length listed' a' w'') Q := by
 unfold xsole1 at hx
 split at hx
 ·rename_i v kp rp hp
  split at hx
  ·rename_i r rw aa k c0 b he
   split at hx
   ·rename_i hok
    simp only [Bool.and_eq_true, decide_eq_true_eq] at hok
    obtain ⟨hrx, ⟨⟨⟨⟨⟨⟨o1, o2⟩, o3⟩, o4⟩, o5⟩, o6⟩, o7⟩, o8⟩ := hok
    obtain ⟨u, hu, rfl⟩ := map_some hx
    obtain ⟨hpr, hden⟩ := ht
    have hso := (preOf_is hp).2.1
    have hfull : ∀ {W1 : Wd}, Holds N W0 ρ s a W1 → RowsAt N (ρ.push { L := [(conts ρ rp.xs).take ((kp.i ρ).toNat * rp.sz)] }) s.rw W1.w := fun h1 => by
     have ho := hso
     simp only [St.ok, Bool.and_eq_true] at ho
     exact h1.rw.push (by rw [h1.cnt]; exact ho.1.2)
    obtain ⟨hhp, hcp⟩ := pre_holds hh hc hp hpr
    have hK' : KOk P N W0 R L (ρ.push { L := [(conts ρ rp.xs).take ((kp.i ρ).toNat * rp.sz)] }) W s.lp K (Q .normal) := hK.step (Ext.refl W)
    generalize hρ : ρ.push { L := [(conts ρ rp.xs).take ((kp.i ρ).toNat * rp.sz)] } = ρ' at hhp hcp hden hK' hfull
    have hhS : Holds N W0 ρ' { preSt s v kp rp with tm := simT s.kn s.tm } a W := hhp.tms (simT_at hhp.tm hhp.kn)
    have hc' := hcp
    obtain ⟨hck, hd⟩ := chks_den (kn := s.kn) hhp.kn hden
    intro w' hw'
    have hk : Keeps W.all w' := Keeps.of_below hw'
    have x0 := W.next_ext hk.all
    have hh0 := hh.grow hk
    have hh1 := hhp.grow hk
    have hhS1 := hhS.grow hk
    have hd := hd _ x0
    obtain ⟨l, l1, l2, l3, l4, hd⟩ := hd
    have e1 : (W.next w' hk.size).w = w' := rfl
    rw [← e1] at hw' ⊢
    generalize W.next w' hk.size = W1 at *
    unfold Oper.wp
    have okS : St.ok { preSt s v kp rp with tm := simT s.kn s.tm } = true := ok_simT (s := preSt s v kp rp) o1
    obtain ⟨ad, c, w2, W', hrun, rfl, x1, x2, x3, x4, x5⟩ := xeff_appf hhS1 okS he o2 o4 o5 o8 o3 hck.1 l1 l2 l3 (fun ad had j u hj => l4 ad had W1 (Ext.refl W1) (hfull hh0) j u hj)
    rw [hrun]
    have hh3 : Holds N W0 ((ρ'.push { L := [l] }).push { A := [ad], N := [c] }) (appSt { preSt s v kp rp with c := (preSt s v kp rp).c.add { L := 1 } } it.o.dst r rw k [.l (preSt s v kp rp).c.L]) (a.put it.o.dst (.slice ad ((r.n.i ρ').toNat + (k.i ρ').toNat) c)) W' := x3.tms (app_tm' hh1 o1 x3)
    have hV : Keeps V W'.w := by
     have h3 := hc'.here.gr hw'
     refine ⟨x4.os.trans h3.os, x4.tape.trans h3.tape, x4.output.trans h3.output, Nat.le_trans h3.size x4.size, fun b hb => (x4.keep b ⟨Nat.lt_of_lt_of_le (V.lt b hb) h3.size, fun hm => ?_⟩).trans (h3.keep b hb)⟩
     obtain ⟨q, hq, hqk⟩ := rowNos_mem.1 hm
     exact hc'.novr hrx q hq b hqk hb
    have hnov : ∀ b ∈ (preSt s v kp rp).hp, cf.mus.contains b.m = true → ¬ V.I (gd ((ρ'.push { L := [l] }).push { A := [ad], N := [c] }).M b.m 0) := fun b hb hm => by
     rw [push_push]; exact (hc'.push (d := ({ L := [l] } : Env).push { A := [ad], N := [c] }) (s' := preSt s v kp rp) hhp o1 rfl rfl).nov b hb hm
    have hnovr : cf.rwx = true → ∀ q ∈ (appSt { preSt s v kp rp with c := (preSt s v kp rp).c.add { L := 1 } } it.o.dst r rw k [.l (preSt s v kp rp).c.L]).rw, ∀ kk, ownB ((ρ'.push { L := [l] }).push { A := [ad], N := [c] }) q = some kk → ¬ V.I kk := fun _ q hq kk hk3 hI => by
     rcases x5 q hq kk hk3 with h5 | h5
     ·obtain ⟨q2, hq2, hk4⟩ := rowNos_mem.1 h5
      exact hc'.novr hrx q2 hq2 kk hk4 hI
     ·have h7 := V.lt _ hI
      have h8 := (hc'.here.gr hw').size
      omega
    refine ⟨hV, wpG_mono (cls_in (cf := cf) (W' := W') (ρ' := (ρ'.push { L := [l] }).push { A := [ad], N := [c] }) (s' := appSt { preSt s v kp rp with c := (preSt s v kp rp).c.add { L := 1 } } it.o.dst r rw k [.l (preSt s v kp rp).c.L]) hc' hV hnov hnovr) _ _ _ _ ?_⟩
    have hp : (addE r.n k).i (ρ'.push { L := [l] }) = (addE r.n k).i ρ' := by
     simp only [RowS.ok, Bool.and_eq_true] at o8
     rw [addE_i, addE_i, (E.push ρ' _ _ (by rw [hhp.cnt]; exact o8.1.2)).1, (E.push ρ' _ _ (by rw [hhp.cnt]; exact o5)).1]
    exact hrec _ _ _ _ _ _ _ _ _ hu hh3 (hd ad c W' (by rw [hp]; exact x2) x1) (by rw [push_push]; exact hK'.step (x0.trans x1)) hnext (cls_of hh3)
   ·cases hx
  ·cases hx
 ·exact xsole_ok hP hrec hx hh ht hK hnext hc
theorem Rem.both {ops : Array Oper} {Q : Exit → Act → World → Prop} {C : World → Prop} {n g mask : Nat} {rem tits : List It} {listed : Array Bool} (h : Rem P ops n g mask rem tits listed) {it : It} (hit : it ∈ rem) (hr : SF.isReady mask it.x = true)
  {a : Act} {w : World} {f : Nat} (hK : ∀ y ∈ readyL mask rem, Region.wanted y.o (yielded ops a.tmps) = true ∧ ∀ w', Gr w w' → y.o.wp P a w' (fun a' w'' => C w'' ∧ wpG P ops Q C n g f (listed.setIfInBounds y.i true) a' w'') Q) : wpG P ops Q C n g (f + 1) listed a w := by
 obtain ⟨h1, h2, h3, h4⟩ := h.item it hit
 refine ⟨List.ne_nil_of_mem (h.isReady hit hr), fun j hj => ?_⟩
 have hjn := tail_late h.tail h.lst h.hi h3 (Array.getElem?_eq_some_iff.1 h1).1 h4 hj
 obtain ⟨oj, hoj⟩ : ∃ oj, ops[j]? = some oj := by obtain ⟨_, oj, hoj, _⟩ := mem_ready.1 hj; exact ⟨oj, hoj⟩
 have hj2 := (isReady_iff h.lst hoj (h.low oj (Array.mem_of_getElem? hoj))).1 hj
 rcases h.all j hjn with h5 | ⟨y, hy, rfl⟩
 ·rw [hj2.1] at h5; cases h5
 ·refine ⟨hjn, fun w' hw' => ?_⟩
  obtain ⟨y1, y2, _, _⟩ := h.item y hy
  obtain rfl : y.o = oj := Option.some.inj (y1.symm.trans hoj)
  obtain ⟨k1, k2⟩ := hK y (List.mem_filter.2 ⟨hy, by rw [y2]; exact hj2.2⟩)
  unfold wpOp
  simp only [y1, k1, if_true]
  exact .inl (Oper.wp_mono (fun _ _ h => .inl h) (k2 w' hw'))
theorem xboth_ok {n0 : Nat} {R : Ending → World → Prop} {L : Lv} {ρ : Env} {W : Wd} {f : It → Option Tree} : ∀ {l : List It} {t : Tree}, xboth f l = some t → t.den P n0 R L ρ W → ∀ y ∈ l, ∃ u, f y = some u ∧ u.den P n0 R L ρ W
 | [], _, h, _ => by cases h
 | [y], t, h, ht => fun z hz => by obtain rfl := List.mem_singleton.1 hz; exact ⟨t, h, ht⟩
 | y :: z :: l, t, h, ht => by
  simp only [xboth] at h
  split at h
  ·rename_i a b ha hb
   obtain rfl := Option.some.inj h
   intro u hu
   rcases List.mem_cons.1 hu with e | e
   ·subst e; exact ⟨a, ha, ht.1⟩
   ·exact xboth_ok hb ht.2 u e
  ·cases h
theorem xloud_ok {cf : Cfg} {N : Nat} {W0 : Wd} {R : Ending → World → Prop} {L : Lv} {ops : Array Oper} {Q : Exit → Act → World → Prop} (hP : PanOk W0 R Q) {K : St → Option Tree} {n0 g : Nat} {tits : List It} {nx : Nat → List It → St → (St → Option Tree) → Option Tree}
  (hrec : ∀ (mask : Nat) (rem : List It) (s : St) (t : Tree) (ρ : Env) (a : Act) (W V : Wd) (listed : Array Bool), nx mask rem s K = some t → Holds N W0 ρ s a W → t.den P N R L ρ W →
   KOk P N W0 R L ρ W s.lp K (Q .normal) → Rem P ops n0 g mask rem tits listed → Cls cf ρ s W V → wpG P ops Q (fun w' => Keeps V w') n0 g rem.length listed a W.w)
  {mask : Nat} {rem : List It} {it : It} {s : St} {t : Tree} {ρ : Env} {a : Act} {W V : Wd} {listed : Array Bool} (hx : xloud P cf ops nx mask rem it s K = some t) (hh : Holds N W0 ρ s a W) (ht : t.den P N R L ρ W)
  (hK : KOk P N W0 R L ρ W s.lp K (Q .normal)) (hr : Rem P ops n0 g mask rem tits listed) (hc : Cls cf ρ s W V) (hit : it ∈ rem ∧ isReady mask it.x = true) (hw : Region.wanted it.o (yielded ops a.tmps) = true) : wpG P ops Q (fun w' => Keeps V w') n0 g rem.length listed a W.w := by
 have hlen : ∀ y ∈ rem, rem.length = (dropI y.i rem).length + 1 := fun y hy => (dropI_len ⟨y, hy, rfl⟩).symm
 unfold xloud at hx
 split at hx
 ·rename_i hso
  rw [hlen it hit.1]
  exact hr.sole hit.1 hit.2 hso hw (xsole1_ok hP hrec hx hh ht hK (hr.next hit.1) hc)
 ·split at hx
  ·rw [hlen it hit.1]
   refine hr.both hit.1 hit.2 fun y hy => ?_
   obtain ⟨u, hu, hd⟩ := xboth_ok hx ht y hy
   have hyr := (List.mem_filter.1 hy).1
   unfold xpin at hu
   split at hu
   ·rename_i G hG
    split at hu
    ·rename_i hdG
     refine ⟨by rw [gdE_ok hh hG]; exact dec_ok hh.kn G hdG, ?_⟩
     have := xsole1_ok hP hrec hu hh hd hK (hr.next hyr) hc
     rw [show (dropI it.i rem).length = (dropI y.i rem).length from by have h1 := hlen it hit.1; have h2 := hlen y hyr; omega]
     exact this
    ·cases hu
   ·cases hu
  ·cases hx
theorem xdraw_ok {cf : Cfg} {inl : Inl} (hI : InlOk P inl) {N : Nat} {W0 : Wd} {R : Ending → World → Prop} {L : Lv} {ops : Array Oper} {Q : Exit → Act → World → Prop} (hP : PanOk W0 R Q) {K : St → Option Tree} {n0 g : Nat} {tl : List Oper} {tits : List It} (htl : tl = ops.toList.drop n0) :
  ∀ (n mask : Nat) (rem : List It) (s : St) (t : Tree) (ρ : Env) (a : Act) (W V : Wd) (listed : Array Bool), xdraw P cf inl ops tl tits n mask rem s K = some t → Holds N W0 ρ s a W → t.den P N R L ρ W →
   KOk P N W0 R L ρ W s.lp K (Q .normal) → Rem P ops n0 g mask rem tits listed → Cls cf ρ s W V → wpG P ops Q (fun w' => Keeps V w') n0 g rem.length listed a W.w
 | n, mask, [], s, t, ρ, a, W, V, listed, hx, hh, ht, hK, hr, hc => by
  have hx : (xops P cf inl ops cf.fuel tl s K).map .grow = some t := by cases n <;> exact hx
  obtain ⟨u, hu, rfl⟩ := map_some hx
  have hall : ∀ j, j < n0 → mask.testBit j = true := fun j hj => by
   rcases hr.all j hj with h | ⟨_, h, _⟩
   ·exact h
   ·cases h
  refine ⟨fun j hj => ?_, fun w' hw' => ?_⟩
  ·have hjs : j < ops.size := Nat.lt_of_lt_of_le hj hr.le
   rw [hr.lst.getD hjs]; exact hall j hj
  ·have hk : Keeps W.all w' := Keeps.of_below hw'
   have x1 := W.next_ext hk.all
   refine hr.seq a w' Q listed mask hr.lst hall hr.hi ?_
   rw [← htl]
   exact xops_ok hI hP _ _ s u ρ a (W.next w' hk.size) hu (hh.grow hk) (ht _ x1) (hK.more x1)
 | 0, _, _ :: _, _, _, _, _, _, _, _, hx, _, _, _, _, _ => by cases hx
 | n + 1, mask, b0 :: l0, s, t, ρ, a, W, V, listed, hx, hh, ht, hK, hr, hc => by
  simp only [xdraw] at hx
  split at hx
  ·cases hx
  rename_i it hpick
  have hpick := pickR_mem hpick
  have hit : it ∈ b0 :: l0 ∧ isReady mask it.x = true := by
   rcases hpick with h | h
   ·exact h
   ·cases h
  generalize hrem : b0 :: l0 = rem at *
  have hlen : rem.length = (dropI it.i rem).length + 1 := (dropI_len ⟨it, hit.1, rfl⟩).symm
  split at hx
  ·cases hx
  rename_i G hgE
  have hwG := gdE_ok hh hgE
  have hnext := hr.next hit.1
  split at hx
  ·rename_i hd
   have hw : Region.wanted it.o (yielded ops a.tmps) = false := by rw [hwG]; exact dec_ok hh.kn G hd
   split at hx
   ·rename_i hq
    rw [hlen]
    exact hr.quiet hit.1 hit.2 hq hP.put (fun _ _ h k => h.gr k) hc.here (v := undef) (.inr ⟨hw, rfl⟩) (xdraw_ok hI hP htl n _ _ _ _ ρ _ W V _ hx (hh.put it.o.dst undef _ (fun y hy => by obtain rfl := Option.some.inj hy; rfl)) ht hK hnext (hc.same rfl rfl))
   ·cases hx
  ·split at hx
   ·rename_i cs v hv
    split at hx
    ·rename_i hq
     obtain ⟨u, hu, rfl⟩ := map_some hx
     obtain ⟨hcs, hd⟩ := chks_den hh.kn ht
     have key : ∀ y : Value, y = (Sy.when G true v).den ρ → wpG P ops Q (fun w' => Keeps V w') n0 g (dropI it.i rem).length (listed.setIfInBounds it.i true) (a.put it.o.dst y) W.w := fun y hy => by
      have h1 := hh.put it.o.dst y (some (.when G true v)) (fun z hz => by obtain rfl := Option.some.inj hz; exact hy)
      exact xdraw_ok hI hP htl n _ _ _ _ ρ _ W V _ hu (h1.knows (learns_ok hh.kn hcs)) hd hK hnext (hc.same rfl rfl)
     rw [hlen]
     refine hr.quiet hit.1 hit.2 hq hP.put (fun _ _ h k => h.gr k) hc.here (v := (Sy.when G true v).den ρ) ?_ (key _ rfl)
     cases hG : G.b ρ
     ·exact .inr ⟨by rw [hwG, hG], by simp [Sy.den, hG]⟩
     ·have hkn := know_ok G hh.kn hG
      have e : (Sy.when G true v).den ρ = v.den ρ := by simp [Sy.den, hG]
      rw [e]
      exact quiet_val (by rw [hwG, hG]) fun w' hw' => xval_ok hv hh.good (simT_at hh.tm hkn) (blksQ_at hh hc hw') hkn (allB_or hG hcs)
    ·cases hx
   ·split at hx
    ·rename_i t1 t2 h1 h2
     obtain rfl := Option.some.inj hx
     cases hb : G.b ρ
     ·exact xdraw_ok hI hP htl n _ _ _ _ ρ a W V _ h2 (hh.learn hb) (ht.2 hb) hK hr (hc.same rfl rfl)
     ·exact xdraw_ok hI hP htl n _ _ _ _ ρ a W V _ h1 (hh.learn hb) (ht.1 hb) hK hr (hc.same rfl rfl)
    ·cases hx
  ·rename_i hdG
   have hw : Region.wanted it.o (yielded ops a.tmps) = true := by rw [hwG]; exact dec_ok hh.kn G hdG
   have hhS : Holds N W0 ρ { s with tm := simT s.kn s.tm } a W := hh.tms (simT_at hh.tm hh.kn)
   split at hx
   ·rename_i cs v hv
    split at hx
    ·rename_i hq
     obtain ⟨u, hu, rfl⟩ := map_some hx
     obtain ⟨hcs, hd⟩ := chks_den hh.kn ht
     rw [hlen]
     refine hr.quiet hit.1 hit.2 hq hP.put (fun _ _ h k => h.gr k) hc.here (quiet_val hw fun w' hw' => xval_ok hv hh.good (simT_at hh.tm hh.kn) (blksQ_at hh hc hw') hh.kn hcs) ?_
     have h1 := hh.put it.o.dst (v.den ρ) (some v) (fun y hy => by obtain rfl := Option.some.inj hy; rfl)
     exact xdraw_ok hI hP htl n _ _ _ _ ρ _ W V _ hu (h1.knows (learns_ok hh.kn hcs)) hd hK hnext (hc.same rfl rfl)
    ·cases hx
   ·split at hx
    ·exact xloud_ok hP (fun m r s t ρ a W V l => xdraw_ok hI hP htl n m r s t ρ a W V l) hx hh ht hK hr hc hit hw
    ·exact xloud_ok hP (fun m r s t ρ a W V l => xdraw_ok hI hP htl n m r s t ρ a W V l) hx hh ht hK hr hc hit hw
    ·rename_i f args he
     split at hx
     ·rename_i ti hti
      split at hx
      ·rename_i hq
       have hin : inl f args (hpQ cf s ++ s.ro) s.c = some ti ∧ pureT s.c ti = true := by
        unfold useInlQ at hti
        split at hti
        ·rename_i u hu
         split at hti
         ·rename_i hp; obtain rfl := Option.some.inj hti; exact ⟨hu, hp⟩
         ·cases hti
        ·cases hti
       obtain ⟨v, s', T', h1, h2, h3, h4, h5⟩ := splice_ok ti s _ t hin.2 hx hh ht
       rw [hlen]
       refine hr.quiet hit.1 hit.2 hq hP.put (fun _ _ h k => h.gr k) hc.here (v := v.den ρ) (.inl ⟨hw, fun w' hw' => ?_⟩) ?_
       ·replace hw' := not_free he (fun _ _ _ _ h => by cases h) (fun _ h => by cases h) hw'
        unfold Oper.quietAt
        rw [xeff_call hhS he]
        refine ⟨rfl, ?_⟩
        let W1 : Wd := ⟨w', fun _ => False, fun _ h => h.elim⟩
        have hcl := hI f args _ s.c ti hin.1 ρ W1 (Ret fun u _ => u = v.den ρ) hh.cnt hh.good (hpQ_at hh hc hw') (by have := h5 W1.w.heap.size W1.all {}; rwa [push_nil] at this)
        exact Calls.mono hcl fun e w2 ⟨hk, v', e1, e2⟩ => ⟨by rw [e1, e2], hk.below⟩
       ·have k1 := h3.put it.o.dst (v.den ρ) (some v) (fun y hy => by obtain rfl := Option.some.inj hy; rfl)
        exact xdraw_ok hI hP htl n _ _ _ _ ρ _ W V _ h1 k1 h2 (by rw [← h4.1] at hK; exact hK) hnext (hc.same h4.2.1 h4.2.2.1)
      ·cases hx
     split at hx
     ·exact xloud_ok hP (fun m r s t ρ a W V l => xdraw_ok hI hP htl n m r s t ρ a W V l) hx hh ht hK hr hc hit hw
     ·split at hx
      ·rename_i res c1 hs
       split at hx
       ·rename_i hok
        simp only [Bool.and_eq_true] at hok
        obtain ⟨u, hu, rfl⟩ := map_some hx
        obtain ⟨d, hd, hcall, hden⟩ := ExE.out ht
        rw [hlen]
        refine hr.quiet hit.1 hit.2 hok.2.1.2 hP.put (fun _ _ h k => h.gr k) hc.here (v := res.den (ρ.push d)) (.inl ⟨hw, fun w' hw' => ?_⟩) ?_
        ·replace hw' := not_free he (fun _ _ _ _ h => by cases h) (fun _ h => by cases h) hw'
         unfold Oper.quietAt
         rw [xeff_call hhS he]
         refine ⟨rfl, ?_⟩
         have hk := hc.keep hw'
         have h1 := hcall (W.at w' hk) (W.at_ext hk) (reach_at (hpQ_at hh hc hw')) (rows_at' hh hc hw' hok.2.2)
         exact Calls.mono h1 fun e w2 ⟨hk2, v', e1, e2⟩ => ⟨by rw [e1, e2], hk2.below⟩
        ·have h1 := hh.push hok.1 hd.2
         have h2 := h1.put it.o.dst (res.den (ρ.push d)) (some res) (fun y hy => by obtain rfl := Option.some.inj hy; rfl)
         rw [hd.1] at h2
         exact xdraw_ok hI hP htl n _ _ _ _ _ _ W V _ hu h2 hden (hK.step (Ext.refl W)) hnext (hc.push hh hok.1 rfl rfl)
       ·exact xloud_ok hP (fun m r s t ρ a W V l => xdraw_ok hI hP htl n m r s t ρ a W V l) hx hh ht hK hr hc hit hw
      ·cases hx
    ·rename_i t' p he
     split at hx
     ·rename_i res c' hs
      split at hx
      ·rename_i hok
       simp only [Bool.and_eq_true] at hok
       obtain ⟨u, hu, rfl⟩ := map_some hx
       obtain ⟨d, hd, hl, hden⟩ := ExE.out ht
       rw [hlen]
       refine hr.quiet hit.1 hit.2 hok.2 hP.put (fun _ _ h k => h.gr k) hc.here (v := res.den (ρ.push d)) (quiet_val hw fun w' hw' => ?_) ?_
       ·have hk := hc.keep (not_free he (fun _ _ _ _ h => by cases h) (fun _ h => by cases h) hw')
        exact xeff_look hhS he (hl (W.at w' hk) (W.at_ext hk))
       ·have h1 := hh.push hok.1 hd.2
        have h2 := h1.put it.o.dst (res.den (ρ.push d)) (some res) (fun y hy => by obtain rfl := Option.some.inj hy; rfl)
        rw [hd.1] at h2
        exact xdraw_ok hI hP htl n _ _ _ _ _ _ W V _ hu h2 hden (hK.step (Ext.refl W)) hnext (hc.push hh hok.1 rfl rfl)
      ·cases hx
     ·cases hx
    ·rename_i t' p r he
     split at hx
     ·rename_i res c' hs
      split at hx
      ·rename_i hok
       simp only [Bool.and_eq_true] at hok
       obtain ⟨u, hu, rfl⟩ := map_some hx
       obtain ⟨d, hd, hl, hden⟩ := ExE.out ht
       rw [hlen]
       refine hr.quiet hit.1 hit.2 hok.1.2 hP.put (fun _ _ h k => h.gr k) hc.here (quiet_val hw fun w' hw' => (xeff_rlook hhS he (hl w' (rows_at hh hc (not_free he (fun _ _ _ _ h => by cases h) (fun _ h => by cases h) hw') (by simpa using hok.2) r (rlook_mem hhS he)))).2) ?_
       have h1 := hh.push hok.1.1 hd.2
       have h2 := h1.put it.o.dst (res.den (ρ.push d)) (some res) (fun y hy => by obtain rfl := Option.some.inj hy; rfl)
       rw [hd.1] at h2
       exact xdraw_ok hI hP htl n _ _ _ _ _ _ W V _ hu h2 hden (hK.step (Ext.refl W)) hnext (hc.push hh hok.1.1 rfl rfl)
      ·exact xloud_ok hP (fun m r s t ρ a W V l => xdraw_ok hI hP htl n m r s t ρ a W V l) hx hh ht hK hr hc hit hw
     ·cases hx
    ·rename_i aa lo hi c m z he
     split at hx
     ·rename_i hok
      simp only [Bool.and_eq_true] at hok
      obtain ⟨u, hu, rfl⟩ := map_some hx
      obtain ⟨hcs, hd⟩ := chks_den hh.kn ht
      rw [hlen]
      refine hr.quiet hit.1 hit.2 hok.2 hP.put (fun _ _ h k => h.gr k) hc.here (quiet_val hw fun w' hw' => (xeff_sub hhS he hcs w').1) ?_
      have h1 := sub_holds hh hok.1.1.1 (aa := aa) (lo := lo) (m := m) (sz := z) hok.1.1.2 hok.1.2 it.o.dst
      exact xdraw_ok hI hP htl n _ _ _ _ _ _ W V _ hu h1 hd (hK.step (Ext.refl W)) hnext (hc.push hh hok.1.1.1 rfl rfl)
     ·cases hx
    ·rename_i ad m c he
     split at hx
     ·rename_i hok
      simp only [Bool.and_eq_true] at hok
      obtain ⟨u, hu, rfl⟩ := map_some hx
      rw [hlen]
      refine hr.quiet hit.1 hit.2 hok.2 hP.put (fun _ _ h k => h.gr k) hc.here (quiet_val hw fun w' hw' => xeff_adr hhS he w') ?_
      have h1 := adr_holds hh hok.1 ad m c it.o.dst
      exact xdraw_ok hI hP htl n _ _ _ _ _ _ W V _ hu h1 ht (hK.step (Ext.refl W)) hnext (hc.push hh hok.1 rfl rfl)
     ·cases hx
    ·exact xloud_ok hP (fun m r s t ρ a W V l => xdraw_ok hI hP htl n m r s t ρ a W V l) hx hh ht hK hr hc hit hw
    ·exact xloud_ok hP (fun m r s t ρ a W V l => xdraw_ok hI hP htl n m r s t ρ a W V l) hx hh ht hK hr hc hit hw
    ·rename_i q rw b0 b z vs he
     split at hx
     ·rename_i hok
      simp only [Bool.and_eq_true] at hok
      obtain ⟨hso, hbr, o1, o2, o3, o4, o5⟩ := hok
      obtain ⟨u, hu, rfl⟩ := map_some hx
      obtain ⟨hcs, hd⟩ := chks_den hh.kn ht
      have hc1 : (0 : Int) ≤ b0.i ρ := by have := hcs.1; rw [leE_b] at this; exact of_decide_eq_true this
      have hc2 : b0.i ρ < q.n.i ρ := of_decide_eq_true hcs.2.1
      rw [hlen]
      rcases (by simpa using hbr : barOk ops mask it = true ∨ cf.rwx = true) with hbr | hrx
      ·refine hr.bar hit.1 hit.2 hso hbr hw fun w' hw' => ?_
       have hk : Keeps W.all w' := Keeps.of_below hw'
       have x0 := W.next_ext hk.all
       have hh1 := hh.grow hk
       have hhS1 := hhS.grow hk
       have hd := hd _ x0
       have e1 : (W.next w' hk.size).w = w' := rfl
       rw [← e1] at hw' ⊢
       generalize W.next w' hk.size = W1 at *
       unfold Oper.wp
       have okS : St.ok { s with tm := simT s.kn s.tm } = true := ok_simT o1
       obtain ⟨w2, W', hrun, rfl, x1, x2⟩ := xeff_rset hhS1 okS he o2 hc1 hc2
       rw [hrun]
       have h3 : Holds N W0 (ρ.push { L := [setL (conts ρ q.xs) ((b0.i ρ).toNat * z + b) (Sy.dens ρ vs)] }) (rsetSt s it.o.dst q rw) (a.put it.o.dst undef) W' := x2.tms (Tm.put_of (tm_push hh1 o1) hh1.len x2.tm)
       exact ⟨_, (cls_of h3).here, fun _ _ h k => h.gr k, xdraw_ok hI hP htl n _ _ _ _ _ _ W' _ _ hu h3 (hd W' x1) (hK.step (x0.trans x1)) hnext (cls_of h3)⟩
      ·refine hr.sole hit.1 hit.2 hso hw fun w' hw' => ?_
       have hk : Keeps W.all w' := Keeps.of_below hw'
       have x0 := W.next_ext hk.all
       have hh1 := hh.grow hk
       have hhS1 := hhS.grow hk
       have hd := hd _ x0
       have e1 : (W.next w' hk.size).w = w' := rfl
       rw [← e1] at hw' ⊢
       generalize W.next w' hk.size = W1 at *
       unfold Oper.wp
       have okS : St.ok { s with tm := simT s.kn s.tm } = true := ok_simT o1
       obtain ⟨w2, W', hrun, rfl, x1, x2, hperm, g0, arr, hown, rfl⟩ := xeff_rset' hhS1 okS he o2 hc1 hc2
       rw [hrun]
       have h3 : Holds N W0 (ρ.push { L := [setL (conts ρ q.xs) ((b0.i ρ).toNat * z + b) (Sy.dens ρ vs)] }) (rsetSt s it.o.dst q rw) (a.put it.o.dst undef) (W1.row g0 arr) := x2.tms (Tm.put_of (tm_push hh1 o1) hh1.len x2.tm)
       have hqm : q ∈ s.rw := hperm.mem_iff.2 (List.mem_cons_self ..)
       have hMv : ¬ V.I g0 := hc.novr hrx q hqm g0 hown
       have hV : Keeps V (W1.row g0 arr).w := by
        have h3 := hc.here.gr hw'
        refine ⟨h3.os, h3.tape, h3.output, ?_, fun k hk2 => ?_⟩
        ·have := h3.size; simpa [Wd.row] using this
        ·exact (setRow_other _ _ _ _ (fun e => hMv (by rw [e] at hk2; exact hk2))).trans (h3.keep k hk2)
       have hp := hc.push (d := { L := [setL (conts ρ q.xs) ((b0.i ρ).toNat * z + b) (Sy.dens ρ vs)] }) (s' := s) hh o1 rfl rfl
       have hnovr : cf.rwx = true → ∀ r ∈ (rsetSt s it.o.dst q rw).rw, ∀ k, ownB (ρ.push { L := [setL (conts ρ q.xs) ((b0.i ρ).toNat * z + b) (Sy.dens ρ vs)] }) r = some k → ¬ V.I k := fun hx r hr k hk => by
        rcases List.mem_cons.1 hr with e | e
        ·subst e
         exact hp.novr hx q hqm k hk
        ·exact hp.novr hx r (hperm.mem_iff.2 (List.mem_cons_of_mem _ e)) k hk
       refine ⟨hV, wpG_mono (cls_in (cf := cf) (s' := rsetSt s it.o.dst q rw) hc hV hp.nov hnovr) _ _ _ _ ?_⟩
       exact xdraw_ok hI hP htl n _ _ _ _ _ _ (W1.row g0 arr) _ _ hu h3 (hd _ x1) (hK.step (x0.trans x1)) hnext (cls_of h3)
     ·cases hx
    ·rename_i ad i0 m z he
     split at hx
     ·rename_i hok
      simp only [Bool.and_eq_true] at hok
      obtain ⟨u, hu, rfl⟩ := map_some hx
      obtain ⟨hck, hd⟩ := chks_den hh.kn ht
      rw [hlen]
      refine hr.quiet hit.1 hit.2 hok.2 hP.put (fun _ _ h k => h.gr k) hc.here (quiet_val hw fun w' hw' => xeff_adrE hhS he hck w') ?_
      have h1 := adrE_holds hh hok.1.1 ad i0 hok.1.2 z it.o.dst (learns_ok (kn_push hh hok.1.1 (fun v hv => by cases hv)) (adrChk_push hh hok.1.2 hck))
      exact xdraw_ok hI hP htl n _ _ _ _ _ _ W V _ hu h1 hd (hK.step (Ext.refl W)) hnext (hc.push hh hok.1.1 rfl rfl)
     ·cases hx
    ·exact xloud_ok hP (fun m r s t ρ a W V l => xdraw_ok hI hP htl n m r s t ρ a W V l) hx hh ht hK hr hc hit hw
    ·cases hx
def chainB : Nat → List It → Bool
 | _, [] => true
 | k, y :: l => (Nat.beq (Nat.shiftRight y.x.p k) 0 && l.all fun z => z.x.p.testBit (z.i - 1)) && chainB (k + 1) l
def tailAt (n : Nat) : Nat → List It → Nat
 | _, [] => n
 | k, y :: l => if Nat.beq (Nat.land y.x.p (2 ^ k - 1)) (2 ^ k - 1) && (l.all fun z => z.x.p.testBit k) && chainB k (y :: l) then k else tailAt n (k + 1) l
def lowB (n : Nat) (l : List It) : Bool := l.all fun y => Nat.beq (Nat.shiftRight y.x.p n) 0
def xregion (P : Program) (cf : Cfg) (inl : Inl) (ops : Array Oper) (s : St) (K : St → Option Tree) : Option Tree :=
 if P.follows .mixedOrders && (Region.noSelect ops && lowB ops.size (itemsOf P cf ops 0 ops.toList)) then
  xdraw P cf inl ops (ops.toList.drop (tailAt ops.size 0 (itemsOf P cf ops 0 ops.toList))) ((itemsOf P cf ops 0 ops.toList).drop (tailAt ops.size 0 (itemsOf P cf ops 0 ops.toList))) cf.fuel 0 ((itemsOf P cf ops 0 ops.toList).take (tailAt ops.size 0 (itemsOf P cf ops 0 ops.toList))) s K
 else none
theorem low_of {ops : Array Oper} {o : Oper} {n : Nat} (h : Nat.beq (Nat.shiftRight (sumOf ops o).p n) 0 = true) : ∀ e ∈ o.after, Region.binds .any e = true → e.on < n := by
 intro e he hb
 have h := Nat.eq_of_beq_eq_true h
 have h1 : (sumOf ops o).p.testBit e.on = true := bit_pred.2 ⟨e, he, hb, rfl⟩
 rcases Nat.lt_or_ge e.on n with h2 | h2
 ·exact h2
 ·exfalso
  have h3 : ((sumOf ops o).p >>> n).testBit (e.on - n) = true := by rw [Nat.testBit_shiftRight]; rw [show n + (e.on - n) = e.on from by omega]; exact h1
  have h4 : (sumOf ops o).p >>> n = 0 := h
  rw [h4] at h3
  simp at h3
theorem itemsOf_get {cf : Cfg} {ops : Array Oper} : ∀ (k : Nat) (l : List Oper) (j : Nat), (itemsOf P cf ops k l)[j]? = (l[j]?).map fun o => ⟨k + j, o, sumOf ops o, loudK P cf ops o⟩
 | _, [], j => by simp [itemsOf]
 | k, o :: l, 0 => by simp [itemsOf]
 | k, o :: l, j + 1 => by
  simp only [itemsOf, List.getElem?_cons_succ]
  rw [itemsOf_get (k + 1) l j]
  congr 1
  funext o
  rw [show k + 1 + j = k + (j + 1) from by omega]
theorem itemsOf_drop {cf : Cfg} {ops : Array Oper} (k : Nat) (l : List Oper) (n : Nat) : (itemsOf P cf ops k l).drop n = itemsOf P cf ops (k + n) (l.drop n) := by
 apply List.ext_getElem?
 intro j
 rw [List.getElem?_drop, itemsOf_get, itemsOf_get, List.getElem?_drop]
 congr 1
 funext o
 rw [show k + (n + j) = k + n + j from by omega]
theorem tail_seq {cf : Cfg} {ops : Array Oper} {Q : Exit → Act → World → Prop} (hlow : ∀ o ∈ ops, ∀ e ∈ o.after, Region.binds .any e = true → e.on < ops.size) : ∀ (l : List Oper) (k : Nat) (a : Act) (w : World) (listed : Array Bool) (mask : Nat), l = ops.toList.drop k → k + l.length = ops.size → Lst ops mask listed →
  (∀ j, j < k → mask.testBit j = true) → (∀ j, k ≤ j → mask.testBit j = false) → chainB k (itemsOf P cf ops k l) = true → wpList P ops Q l a w → wpAny P .any ops Q l.length listed a w
 | [], k, a, w, listed, mask, hl, hk, hL, h1, h2, hc, h => by
  refine ⟨?_, h⟩
  rw [List.eq_nil_iff_forall_not_mem]
  intro j hj
  obtain ⟨h0, oj, hoj, _⟩ := mem_ready.1 hj
  have hjl : j < ops.size := (Array.getElem?_eq_some_iff.1 hoj).1
  rw [hL.getD hjl, h1 j (by simp at hk; omega)] at h0
  cases h0
 | o :: l, k, a, w, listed, mask, hl, hk, hL, h1, h2, hc, h => by
  have hks : k < ops.size := by simp only [List.length_cons] at hk; omega
  have h0 : ops[k]? = some o := by
   have : (ops.toList.drop k)[0]? = some o := by rw [← hl]; rfl
   simpa using this
  have hl' : l = ops.toList.drop (k + 1) := by rw [← List.drop_drop, ← hl]; rfl
  simp only [itemsOf, chainB, Bool.and_eq_true] at hc
  obtain ⟨⟨hp, hch⟩, hc'⟩ := hc
  have hready : ∀ j, j ∈ Region.ready .any ops listed → j = k := fun j hj => by
   obtain ⟨hju, oj, hoj, hall⟩ := mem_ready.1 hj
   have hjl : j < ops.size := (Array.getElem?_eq_some_iff.1 hoj).1
   rw [hL.getD hjl] at hju
   rcases Nat.lt_or_ge j k with h3 | h3
   ·rw [h1 j h3] at hju; cases hju
   ·rcases Nat.lt_or_ge k j with h4 | h4
    ·exfalso
     have hit : (itemsOf P cf ops (k + 1) l)[j - (k + 1)]? = some ⟨j, oj, sumOf ops oj, loudK P cf ops oj⟩ := by
      rw [itemsOf_get, hl', List.getElem?_drop, show k + 1 + (j - (k + 1)) = j from by omega]
      simp [hoj]
     have := List.all_eq_true.1 hch _ (List.mem_of_getElem? hit)
     dsimp only at this
     obtain ⟨e, he, hb, hon⟩ := bit_pred.1 this
     have h5 := hall e he hb
     rw [hon, hL.getD (by omega), h2 (j - 1) (by omega)] at h5
     cases h5
    ·omega
  have hkr : k ∈ Region.ready .any ops listed := by
   rw [mem_ready]
   refine ⟨by rw [hL.getD hks]; exact h2 k (Nat.le_refl _), o, h0, fun e he hb => ?_⟩
   have := low_of hp e he hb
   rw [hL.getD (by omega)]
   exact h1 _ this
  refine ⟨fun h3 => (by rw [h3] at hkr; cases hkr), fun i hi => ?_⟩
  obtain rfl := hready i hi
  have hw : wpOp P ops Q i (wpList P ops Q l) a w := by unfold wpOp; simp only [h0]; exact h
  refine wpOp_mono (fun a' w' h' => tail_seq hlow l (i + 1) a' w' _ (mask ||| 2 ^ i) hl' (by simp only [List.length_cons] at hk; omega) (hL.set hks) (fun j hj => ?_) (fun j hj => ?_) hc' h') hw
  ·rw [Nat.testBit_or, Nat.testBit_two_pow]
   by_cases e : i = j
   ·rw [decide_eq_true e, Bool.or_true]
   ·rw [h1 j (by omega), Bool.true_or]
  ·rw [Nat.testBit_or, Nat.testBit_two_pow, h2 j (by omega), decide_eq_false (by omega)]; rfl
theorem tailAt_spec {ops : Array Oper} (n : Nat) : ∀ (k : Nat) (l : List It), k + l.length = n → (∀ (j : Nat) y, l[j]? = some y → y.i = k + j) → tailAt n k l ≤ n ∧ k ≤ tailAt n k l ∧
  (∀ y, l[tailAt n k l - k]? = some y → Nat.beq (Nat.land y.x.p (2 ^ tailAt n k l - 1)) (2 ^ tailAt n k l - 1) = true) ∧ (∀ (j : Nat) y, l[j]? = some y → tailAt n k l < k + j → y.x.p.testBit (tailAt n k l) = true) ∧ chainB (tailAt n k l) (l.drop (tailAt n k l - k)) = true
 | k, [], h, _ => by simp only [tailAt]; simp at h; subst h; simp [chainB]
 | k, y :: l, h, hi => by
  simp only [tailAt]
  split
  ·rename_i hc
   simp only [Bool.and_eq_true] at hc
   refine ⟨by simp at h; omega, Nat.le_refl _, fun z hz => ?_, fun j z hz hj => ?_, by simpa using hc.2⟩
   ·simp only [Nat.sub_self, List.getElem?_cons_zero, Option.some.injEq] at hz
    subst hz; exact hc.1.1
   ·cases j with
    | zero => omega
    | succ j =>
     rw [List.getElem?_cons_succ] at hz
     exact List.all_eq_true.1 hc.1.2 z (List.mem_of_getElem? hz)
  ·obtain ⟨h1, h2, h3, h4, h5⟩ := tailAt_spec (ops := ops) n (k + 1) l (by simp at h; omega) (fun j z hz => by have := hi (j + 1) z (by simpa using hz); omega)
   generalize tailAt n (k + 1) l = m at *
   refine ⟨h1, by omega, fun z hz => ?_, fun j z hz hj => ?_, ?_⟩
   ·rw [show m - k = (m - (k + 1)) + 1 from by omega, List.getElem?_cons_succ] at hz
    exact h3 z hz
   ·cases j with
    | zero => omega
    | succ j =>
     rw [List.getElem?_cons_succ] at hz
     exact h4 j z hz (by omega)
   ·rw [show m - k = (m - (k + 1)) + 1 from by omega]
    exact h5
theorem land_all {p k : Nat} (h : Nat.beq (Nat.land p (2 ^ k - 1)) (2 ^ k - 1) = true) {i : Nat} (hi : i < k) : p.testBit i = true := by
 have h := Nat.eq_of_beq_eq_true h
 have h2 : (p &&& (2 ^ k - 1)).testBit i = true := by
  show (Nat.land p (2 ^ k - 1)).testBit i = true
  rw [h, Nat.testBit_two_pow_sub_one]
  simpa using hi
 rw [Nat.testBit_and, Bool.and_eq_true] at h2
 exact h2.1
theorem xregion_ok {cf : Cfg} {inl : Inl} (hI : InlOk P inl) {N : Nat} {W0 : Wd} {R : Ending → World → Prop} {L : Lv} {ops : Array Oper} {Q : Exit → Act → World → Prop} (hP : PanOk W0 R Q) {K : St → Option Tree} {s : St} {t : Tree} {ρ : Env} {a : Act} {W : Wd} {id : Nat}
  (hx : xregion P cf inl ops s K = some t) (hh : Holds N W0 ρ s a W) (ht : t.den P N R L ρ W) (hK : KOk P N W0 R L ρ W s.lp K (Q .normal)) : (Code.region id ops true).wp P Q a W.w := by
 unfold xregion at hx
 split at hx
 ·rename_i hB
  simp only [Bool.and_eq_true] at hB
  obtain ⟨hm, hsel, hlowB⟩ := hB
  have hlow : ∀ o ∈ ops, ∀ e ∈ o.after, Region.binds .any e = true → e.on < ops.size := fun o ho => by
   obtain ⟨j, hj⟩ := Array.getElem?_of_mem ho
   have hjl : j < ops.size := (Array.getElem?_eq_some_iff.1 hj).1
   have hit : (itemsOf P cf ops 0 ops.toList)[j]? = some ⟨0 + j, o, sumOf ops o, loudK P cf ops o⟩ := by rw [itemsOf_get]; simp [hj]
   exact low_of (List.all_eq_true.1 hlowB _ (List.mem_of_getElem? hit))
  have hlen0 : (itemsOf P cf ops 0 ops.toList).length = ops.size := by rw [itemsOf_length, Array.length_toList]
  have hget : ∀ (j : Nat) y, (itemsOf P cf ops 0 ops.toList)[j]? = some y → ops[j]? = some y.o ∧ y.i = j ∧ y.x = sumOf ops y.o := fun j y hy => by
   rw [itemsOf_get, Array.getElem?_toList] at hy
   obtain ⟨o, ho, rfl⟩ := Option.map_eq_some_iff.1 hy
   exact ⟨ho, by simp, rfl⟩
  obtain ⟨t1, _, t3, t4, t5⟩ := tailAt_spec (ops := ops) ops.size 0 (itemsOf P cf ops 0 ops.toList) (by omega) (fun j y hy => by have := (hget j y hy).2.1; omega)
  generalize hn0 : tailAt ops.size 0 (itemsOf P cf ops 0 ops.toList) = n0 at *
  rw [Nat.sub_zero] at t3 t5
  have hz : ∀ j, (0 : Nat).testBit j = false := fun j => by simp
  have hrem : Rem P ops n0 (ops.size - n0) 0 ((itemsOf P cf ops 0 ops.toList).take n0) ((itemsOf P cf ops 0 ops.toList).drop n0) (Array.replicate ops.size false) := by
   refine ⟨hsel, ⟨by simp, fun j hj => by simp [hj]⟩, hlow, fun j oj hj hnj => ?_, fun j _ => hz j, fun it hit => ?_, fun j hj => .inr ?_, ?_, fun j hj hjs => ?_, t1, fun a w Q l' m' hL h1 h2 h3 => ?_⟩
   ·have hjl : j < ops.size := (Array.getElem?_eq_some_iff.1 hj).1
    have hit : (itemsOf P cf ops 0 ops.toList)[j]? = some ⟨0 + j, oj, sumOf ops oj, loudK P cf ops oj⟩ := by rw [itemsOf_get]; simp [hj]
    refine ⟨fun i hi e => ?_, fun h => ?_⟩
    ·subst e
     exact bit_pred.1 (land_all (t3 _ hit) hi)
    ·exact bit_pred.1 (t4 j _ hit (by omega))
   ·obtain ⟨j, hj⟩ := List.getElem?_of_mem hit
    have hjn : j < n0 := by
     have := (List.getElem?_eq_some_iff.1 hj).1
     rw [List.length_take] at this; omega
    rw [List.getElem?_take, if_pos hjn] at hj
    obtain ⟨h1, h2, h3⟩ := hget j it hj
    rw [h2]
    exact ⟨h1, h3, hjn, hz j⟩
   ·have hjs : j < ops.size := Nat.lt_of_lt_of_le hj t1
    obtain ⟨o, ho⟩ : ∃ o, ops[j]? = some o := ⟨ops[j], by simp [hjs]⟩
    have hit : (itemsOf P cf ops 0 ops.toList)[j]? = some ⟨0 + j, o, sumOf ops o, loudK P cf ops o⟩ := by rw [itemsOf_get]; simp [ho]
    exact ⟨_, List.mem_of_getElem? (i := j) (by rw [List.getElem?_take, if_pos hj]; exact hit), by simp⟩
   ·exact (itemsOf_nd 0 _).sublist (List.take_sublist _ _)
   ·obtain ⟨o, ho⟩ : ∃ o, ops[j]? = some o := ⟨ops[j], by simp [hjs]⟩
    have hit : (itemsOf P cf ops 0 ops.toList)[j]? = some ⟨0 + j, o, sumOf ops o, loudK P cf ops o⟩ := by rw [itemsOf_get]; simp [ho]
    exact ⟨_, List.mem_of_getElem? (i := j - n0) (by rw [List.getElem?_drop, show n0 + (j - n0) = j from by omega]; exact hit), by simp, by simpa using ho, rfl⟩
   ·rw [itemsOf_drop, Nat.zero_add] at t5
    have := tail_seq (cf := cf) (Q := Q) hlow (ops.toList.drop n0) n0 a w l' m' rfl (by simp; omega) hL h1 h2 t5 h3
    rwa [List.length_drop, Array.length_toList] at this
  refine wp_region_any hm ?_
  have hg := xdraw_ok hI hP rfl _ _ _ _ _ _ _ _ _ _ hx hh ht hK hrem (cls_of hh)
  have hl : ((itemsOf P cf ops 0 ops.toList).take n0).length + (ops.size - n0) = ops.size := by rw [List.length_take, hlen0]; omega
  have hgr : Gr W.w { W.w with drawn := W.w.drawn + 1 } := ⟨rfl, rfl, rfl, Nat.le_refl _, fun _ _ => rfl⟩
  have := wpAny_of_G _ _ _ _ (wpG_gr _ _ _ _ _ hgr hg)
  rw [hl] at this
  exact this
 ·cases hx
end Go.SF
end
section
namespace Go.SF
open Go Go.RowKit
variable {P : Program}
def clrZ (P : Program) (t : TypeId) : Option (Array Value) := match P.underlying t with
 | some (.slice el) => match P.info? el with
  | some ie => match ie.zero with
   | some z => if z.cells.toList.all Value.oneCell' then some z.cells else none
   | none => none
  | none => none
 | _ => none
def capE : Sy → E → Bool
 | .slc _ _ c, e => E.same c e
 | _, _ => false
def clrSt (s : St) (d2 : Nat) (d3 : Option Nat) (q : RowS) (rest : List RowS) : St := { s with tm := putS s.n (putS s.n s.tm (some d2) none) d3 none, rw := { q with xs := [.l s.c.L] } :: rest, c := s.c.add { L := 1 } }
def xclr (P : Program) (ops : Array Oper) (s : St) (K : St → Option Tree) : Option Tree :=
 match ops.toList with
 | [o0, o1, o2, o3] =>
  if o0.guard.isNone && (o1.guard.isNone && (o2.guard.isNone && o3.guard.isNone)) then
  match o0.op, o1.op, o2.dst, o3.op with
  | .move x, .move i, some d2, .call c => match c.callee, c.args.toList, c.argTypes.toList, evS s.tm x with
   | .builtin .clear, [.tmp d3], [t], some vx => match evS (putS s.n s.tm o0.dst (some vx)) i with
    | some vi => match xeff P { s with tm := putS s.n (putS s.n s.tm o0.dst (some vx)) o1.dst (some vi) } o2.op with
     | some (.sub aa lo hi cq m z) => match rowAt s.rw aa, clrZ P t with
      | some r, some zs => match findR s.rw r.v with
       | some q => if (Nat.beq d2 d3 && Nat.ble (d2 + 1) s.n && (E.same hi q.n && isNat q.n) && (Nat.beq q.sz z && Nat.beq z zs.size && Nat.ble 1 z) && capE q.v cq) && (St.ok { s with tm := putS s.n (putS s.n s.tm o0.dst (some vx)) o1.dst (some vi) } && q.ok s.c) then
         (K (clrSt { s with tm := putS s.n (putS s.n s.tm o0.dst (some vx)) o1.dst (some vi) } d2 o3.dst q (dropR s.rw r.v))).map fun t => chks s.kn (.sm aa :: .bin .lt lo q.n :: subChk lo hi m) (.rclr q.xs lo q.n z zs t)
        else none
       | none => none
      | _, _ => none
     | _ => none
    | none => none
   | _, _, _, _ => none
  | _, _, _, _ => none
  else none
 | _ => none
theorem wanted_none {o : Oper} {y : Nat → Option Bool} (h : o.guard.isNone = true) : Region.wanted o y = true := by
 have : o.guard = none := by cases hg : o.guard with
  | none => rfl
  | some _ => rw [hg] at h; cases h
 unfold Region.wanted
 rw [this]
theorem move_run {P : Program} {a : Act} {o : Oper} {x : Operand} (h : o.op = .move x) (w : World) : (execOp a.eval o).run P w = .ok (.value (a.eval x)) w := by
 obtain ⟨dst, op, oty, pos, after, guard⟩ := o
 dsimp only at h
 subst h
 simp [execOp]
theorem zeroCells_len (zs : Array Value) (n : Nat) : (Builtin.zeroCells zs n).toList.length = n * zs.size := by simp [Builtin.zeroCells]
theorem zeroCells_one {zs : Array Value} (h : ∀ u ∈ zs.toList, u.oneCell' = true) (hz : 0 < zs.size) (n : Nat) : ∀ u ∈ (Builtin.zeroCells zs n).toList, u.oneCell' = true := fun u hu => by
 simp only [Builtin.zeroCells, Array.toList_map, List.mem_map] at hu
 obtain ⟨i, _, rfl⟩ := hu
 have hlt : i % zs.size < zs.size := Nat.mod_lt _ hz
 rw [getElem!_pos zs (i % zs.size) hlt]
 exact h _ (by simp)
theorem clear_run {P : Program} {a : Act} {o : Oper} {c : Call} {d : Nat} {t : TypeId} (h : o.op = .call c) (hc : c.callee = .builtin .clear) (ha : c.args.toList = [.tmp d]) (hts : c.argTypes.toList = [t]) {el : TypeId} {z : Value} {g off n k : Nat} (hn : 0 < n)
  (hu : P.underlying t = some (.slice el)) (hz : ∀ w, (zeroValue el).run P w = .ok z w) (hv : a.eval (.tmp d) = .slice (some ⟨g, off, none⟩) n k) {e : TypeId} {cur : Array Value} {w : World} (hg : w.heap[g]? = some (.cells cur e (0, 0))) (hl : off + n * z.cells.size ≤ cur.size) (hone : ∀ u ∈ (Builtin.zeroCells z.cells n).toList, u.oneCell' = true) :
  (execOp a.eval o).run P w = .ok (.value (.tuple #[])) (w.setRow g (setL cur.toList off (Builtin.zeroCells z.cells n).toList).toArray) := by
 obtain ⟨dst, op, oty, pos, after, guard⟩ := o
 dsimp only at h
 subst h
 obtain ⟨callee, args, ts⟩ := c
 dsimp only at hc ha hts
 subst hc
 have e1 : args = #[.tmp d] := by apply Array.ext'; simpa using ha
 have e2 : ts = #[t] := by apply Array.ext'; simpa using hts
 subst e1 e2
 have h3 := run_storeCells_at P g off e (Builtin.zeroCells z.cells n).toList 0 cur w hg (by rw [zeroCells_len, Nat.add_zero]; exact hl) hone
 have h4 : (storeCells ⟨g, off, none⟩ (Builtin.zeroCells z.cells n).toList 0).run P w = .ok () (w.setRow g (setL cur.toList off (Builtin.zeroCells z.cells n).toList).toArray) := by
  rw [h3]; simp [setL]
 obtain ⟨m, rfl⟩ : ∃ m, n = m + 1 := ⟨n - 1, by omega⟩
 simp only [execOp, resolve, invoke, builtin, Sem.run_bind, Sem.run_pure, Result.andThen_ok, List.map_toArray, List.map_cons, List.map_nil, hv, Builtin.clear_]
 simp [run_underlying hu, hz, h4]
theorem eval_put {a : Act} {d : Nat} {v : Value} (h : d < a.tmps.size) : (a.put (some d) v).eval (.tmp d) = v := by
 simp only [Act.put, Act.eval, Array.getD_eq_getD_getElem?]
 rw [Array.getElem?_setIfInBounds_self_of_lt h]
 rfl
theorem clrZ_is {P : Program} {t : TypeId} {zs : Array Value} (h : clrZ P t = some zs) : ∃ el z, P.underlying t = some (.slice el) ∧ (∀ w, (zeroValue el).run P w = .ok z w) ∧ z.cells = zs ∧ ∀ u ∈ zs.toList, u.oneCell' = true := by
 unfold clrZ at h
 split at h
 ·rename_i el hu
  split at h
  ·rename_i ie hie
   split at h
   ·rename_i z hz
    split at h
    ·rename_i hall
     obtain rfl := Option.some.inj h
     exact ⟨el, z, hu, fun w => by simp [zeroValue, typeInfo, hie, hz], rfl, fun u hm => List.all_eq_true.1 hall u hm⟩
    ·cases h
   ·cases h
  ·cases h
 ·cases h
theorem xclr_ok {N : Nat} {W0 : Wd} {R : Ending → World → Prop} {L : Lv} {ops : Array Oper} {Q : Exit → Act → World → Prop} {K : St → Option Tree} {s : St} {t : Tree} {ρ : Env} {a : Act} {W : Wd} (hx : xclr P ops s K = some t) (hh : Holds N W0 ρ s a W) (ht : t.den P N R L ρ W)
  (hK : KOk P N W0 R L ρ W s.lp K (Q .normal)) : wpList P ops Q ops.toList a W.w := by
 unfold xclr at hx
 split at hx
 rotate_left
 ·cases hx
 rename_i o0 o1 o2 o3 hops
 rw [hops]
 split at hx
 rotate_left
 ·cases hx
 rename_i hgd
 simp only [Bool.and_eq_true] at hgd
 obtain ⟨g0, g1, g2, g3⟩ := hgd
 split at hx
 rotate_left
 ·cases hx
 rename_i x i d2 c h0 h1 h2 h3
 split at hx
 rotate_left
 ·cases hx
 rename_i d3 tt vx hc ha hts hvx
 split at hx
 rotate_left
 ·cases hx
 rename_i vi hvi
 split at hx
 rotate_left
 ·cases hx
 rename_i aa lo hi c' m z he
 split at hx
 rotate_left
 ·cases hx
 rename_i r zs hr hz
 split at hx
 rotate_left
 ·cases hx
 rename_i q hq
 split at hx
 rotate_left
 ·cases hx
 rename_i hcond
 simp only [Bool.and_eq_true] at hcond
 obtain ⟨⟨⟨⟨⟨e1, e2⟩, e3, e4⟩, ⟨e5, e6⟩, e7⟩, e8⟩, o1', o2'⟩ := hcond
 have e1 := Nat.eq_of_beq_eq_true e1
 have e2 := Nat.le_of_ble_eq_true e2
 have e3 := E.same_eq e3
 have e5 := Nat.eq_of_beq_eq_true e5
 have e6 := Nat.eq_of_beq_eq_true e6
 have e7 := Nat.le_of_ble_eq_true e7
 subst e1
 obtain ⟨u, hu, rfl⟩ := map_some hx
 obtain ⟨hck, hd⟩ := chks_den hh.kn ht
 obtain ⟨hsm, hlt, hsub⟩ := hck
 have hlt : lo.i ρ < q.n.i ρ := of_decide_eq_true hlt
 have hlo : 0 ≤ lo.i ρ := by have := hsub.1; rw [leE_b] at this; have := of_decide_eq_true this; simpa [E.i] using this
 obtain ⟨p1, p2⟩ := findR_perm hq
 obtain ⟨nn, cc, hrv⟩ := rowAt_v hr
 have hqv : q.v = .slc aa nn cc := p2.trans hrv
 have hqm : q ∈ s.rw := p1.mem_iff.2 (List.mem_cons_self ..)
 obtain ⟨el, zv, hul, hzv, rfl, hzone⟩ := clrZ_is hz
 have hnil : q.v.den ρ ≠ .slice none 0 0 := by
  rw [hqv]
  intro hnil
  simp only [Sy.den] at hnil
  injection hnil with a1 a2 a3
  have : (gd ρ.A aa none).isSome = true := hsm
  rw [a1] at this
  cases this
 have hk : ((lo.i ρ).toNat * z) + (Builtin.zeroCells zv.cells ((q.n.i ρ).toNat - (lo.i ρ).toNat)).toList.length ≤ (q.n.i ρ).toNat * q.sz := by
  rw [zeroCells_len, ← e6, e5, ← Nat.add_mul]
  exact Nat.mul_le_mul_right _ (by omega)
 have hone := zeroCells_one hzone (by omega) ((q.n.i ρ).toNat - (lo.i ρ).toNat)
 -- the moves
 have k1 : Holds N W0 ρ { s with tm := putS s.n s.tm o0.dst (some vx) } (a.put o0.dst (vx.den ρ)) W := hh.put o0.dst (vx.den ρ) (some vx) (fun y hy => by obtain rfl := Option.some.inj hy; rfl)
 have k2 : Holds N W0 ρ { s with tm := putS s.n (putS s.n s.tm o0.dst (some vx)) o1.dst (some vi) } ((a.put o0.dst (vx.den ρ)).put o1.dst (vi.den ρ)) W := k1.put o1.dst (vi.den ρ) (some vi) (fun y hy => by obtain rfl := Option.some.inj hy; rfl)
 have hs2 := (xeff_sub k2 he hsub W.w).1
 obtain ⟨g, cap, cur, c1, c2, c3, c4, c5, c6⟩ := k2.rsetK o1' p1 o2' hqv hnil hk hone
 obtain ⟨sl, hsl⟩ : ∃ sl, sl = Value.slice (subA (gd ρ.A aa none) (lo.i ρ).toNat (c'.i ρ).toNat z) ((hi.i ρ).toNat - (lo.i ρ).toNat) ((c'.i ρ).toNat - (lo.i ρ).toNat) := ⟨_, rfl⟩
 rw [← hsl] at hs2
 have hd2 : ((a.put o0.dst (vx.den ρ)).put o1.dst (vi.den ρ)).tmps.size = s.n := k2.len
 have hev := eval_put (a := (a.put o0.dst (vx.den ρ)).put o1.dst (vi.den ρ)) (d := d2) (v := sl) (by rw [hd2]; exact e2)
 have hcap : (c'.i ρ).toNat ≠ (lo.i ρ).toNat := by
  rw [hqv] at e8
  have e9 := E.same_eq e8
  obtain ⟨⟨_, hrow⟩, _⟩ := hh.rw q hqm
  rcases hrow with ⟨hnil', _⟩ | ⟨g', cap', cur', hv, _, _, hnc, _⟩
  ·exact absurd hnil' hnil
  ·rw [hqv] at hv
   simp only [Sy.den] at hv
   injection hv with a1 a2 a3
   rw [← e9]; omega
 have hrun := clear_run (P := P) (a := ((a.put o0.dst (vx.den ρ)).put o1.dst (vi.den ρ)).put (some d2) sl) h3 hc ha hts (g := g) (off := (lo.i ρ).toNat * z) (n := (q.n.i ρ).toNat - (lo.i ρ).toNat) (k := (c'.i ρ).toNat - (lo.i ρ).toNat) (by omega) hul hzv (by rw [hev, hsl, c1, e3]; unfold subA; rw [if_neg hcap]; simp only [Option.map_some, add_none, Nat.zero_add]) c2 (by rw [zeroCells_len] at c4; exact c4) hone
 have st := fun (y : Nat → Option Bool) => And.intro (wanted_none (y := y) g0) (And.intro (wanted_none (y := y) g1) (And.intro (wanted_none (y := y) g2) (wanted_none (y := y) g3)))
 have v0 : a.eval x = vx.den ρ := hh.tm x vx hvx
 have v1 : (a.put o0.dst (vx.den ρ)).eval i = vi.den ρ := k1.tm i vi hvi
 unfold wpList
 rw [if_pos (st _).1]
 refine .inl ?_
 unfold Oper.wp
 rw [move_run h0, v0]
 show wpList P ops Q [o1, o2, o3] (a.put o0.dst (vx.den ρ)) W.w
 unfold wpList
 rw [if_pos (st _).2.1]
 refine .inl ?_
 unfold Oper.wp
 rw [move_run h1, v1]
 show wpList P ops Q [o2, o3] ((a.put o0.dst (vx.den ρ)).put o1.dst (vi.den ρ)) W.w
 unfold wpList
 rw [if_pos (st _).2.2.1]
 refine .inl ?_
 unfold Oper.wp
 rw [hs2]
 show wpList P ops Q [o3] (((a.put o0.dst (vx.den ρ)).put o1.dst (vi.den ρ)).put o2.dst sl) W.w
 rw [h2]
 unfold wpList
 rw [if_pos (st _).2.2.2]
 refine .inl ?_
 unfold Oper.wp
 rw [hrun]
 show Q .normal ((((a.put o0.dst (vx.den ρ)).put o1.dst (vi.den ρ)).put (some d2) sl).put o3.dst (.tuple #[])) (W.row g (setL cur.toList ((lo.i ρ).toNat * z) (Builtin.zeroCells zv.cells ((q.n.i ρ).toNat - (lo.i ρ).toNat)).toList).toArray).w
 have f1 := (c6.put (some d2) sl none (fun y hy => by cases hy)).put o3.dst (.tuple #[]) none (fun y hy => by cases hy)
 exact hK _ u _ _ _ hu c5 rfl f1 (hd _ c5)
end Go.SF
end
section
namespace Go.SF
open Go Go.RowKit
variable {P : Program}
abbrev Car := Sy × Option RowS
def turnsRow (o : Oper) : Bool := match o.op with
 | .call c => (match c.callee with
  | .builtin .append => true
  | .builtin _ => false
  | _ => true)
 | .store .. | .makeSlice .. => true
 | _ => false
def turnsB (cf : Cfg) (o : Oper) : Bool :=
 match o.op with
 | .store .. => true
 | .call c => match c.callee with
  | .value (.func f) => (Cfg.lookN cf.mu f).isSome
  | _ => false
 | _ => false
def Cfg.forBlks (cf : Cfg) (ops : Array Oper) : Cfg := if ops.toList.any (turnsB cf) then cf else { cf with mus := [] }
def Cfg.forOps (cf : Cfg) (ops : Array Oper) : Cfg := (if ops.toList.any turnsRow then cf else { cf with rwx := false }).forBlks ops
def Cfg.forReg (cf : Cfg) (id : Nat) : Cfg := match Cfg.lookN cf.musR id with
 | some l => { cf with mus := l }
 | none => if cf.musR.isEmpty then cf else { cf with mus := [], rwx := false }
def rowL : Option RowS → List RowS
 | some r => [r]
 | none => []
def setC : List Blk → Nat → Nat → Sy → List Blk
 | [], _, _, _ => []
 | b :: l, m, off, x => if b.m = m then { b with cs := b.cs.set off x } :: l else b :: setC l m off x
def plug1 (s : St) (p : Pos) (x : Car) : St := match p with
 | .tm t | .row t _ => { s with tm := (t, some x.1) :: s.tm, rw := rowL x.2 ++ s.rw }
 | .cell m off | .rowc m off _ => { s with hp := setC s.hp m off x.1, rw := rowL x.2 ++ s.rw }
def plug (s : St) : List Pos → List Car → St
 | p :: ps, x :: xs => plug (plug1 s p x) ps xs
 | _, _ => s
def getP (P : Program) (s : St) (rw : List RowS) : Pos → Option (Car × List RowS)
 | .tm t => (getT s.tm t).map fun x => ((x, none), rw)
 | .cell m off => match findB s.hp m with
  | some b => (b.cs[off]?).map fun x => ((x, none), rw)
  | none => none
 | .row t ty => match getT s.tm t with
  | some v => match rowOf P rw ty v with
   | some (r, rest, _) => some ((v, some r), rest)
   | none => none
  | none => none
 | .rowc m off ty => match findB s.hp m with
  | some b => match b.cs[off]? with
   | some v => match rowOf P rw ty v with
    | some (r, rest, _) => some ((v, some r), rest)
    | none => none
   | none => none
  | none => none
def getPs (P : Program) (s : St) : List Pos → List RowS → Option (List Car × List RowS)
 | [], rw => some ([], rw)
 | p :: ps, rw => match getP P s rw p with
  | some (x, rw') => match getPs P s ps rw' with
   | some (l, rest) => some (x :: l, rest)
   | none => none
  | none => none
def carV (l : List Car) : List Sy := l.map (·.1)
def carR (l : List Car) : List RowS := l.flatMap fun x => rowL x.2
def headC : Sy → Cnt → Option (Sy × Cnt)
 | .bool _, c => some (.bool (.bv c.B), { c with B := c.B + 1 })
 | .int k _, c => some (.int k (.iv c.I), { c with I := c.I + 1 })
 | .str _, c => some (.str (.tv c.T), { c with T := c.T + 1 })
 | .slc _ _ _, c | .nils, c | .slb _ _ _ _, c => some (.slc c.A (.nv c.N) (.nv (c.N + 1)), { c with A := c.A + 1, N := c.N + 2 })
 | .agg _, _ | .tup _, _ | .when _ _ _, _ => none
 | _, c => some (.var c.V, { c with V := c.V + 1 })
def headCs : List Sy → Cnt → Option (List Sy × Cnt)
 | [], c => some ([], c)
 | s :: l, c => match headC s c with
  | some (h, c') => match headCs l c' with
   | some (r, c'') => some (h :: r, c'')
   | none => none
  | none => none
def headS (s : Sy) (c : Cnt) : Option (Sy × Cnt) := match s with
 | .agg l => (headCs l c).map fun p => (.agg p.1, p.2)
 | s => headC s c
def headX (x : Car) (c : Cnt) : Option (Car × Cnt) := match x.2 with
 | some r => some ((.slc c.A (.nv c.N) (.nv (c.N + 1)), some ⟨.slc c.A (.nv c.N) (.nv (c.N + 1)), .nv c.N, r.e, r.sz, [.l c.L]⟩), { c with A := c.A + 1, N := c.N + 2, L := c.L + 1 })
 | none => (headS x.1 c).map fun p => ((p.1, none), p.2)
def headXs : List Car → Cnt → Option (List Car × Cnt)
 | [], c => some ([], c)
 | s :: l, c => match headX s c with
  | some (h, c') => match headXs l c' with
   | some (r, c'') => some (h :: r, c'')
   | none => none
  | none => none
def carLike : List Car → List Car → Bool
 | [], [] => true
 | x :: l, y :: m => (match x.2, y.2 with
  | some r, some q => decide (r.e = q.e) && decide (r.sz = q.sz)
  | none, none => true
  | _, _ => false) && carLike l m
 | _, _ => false
def Seg.same : Seg → Seg → Bool
 | .l a, .l b => Nat.beq a b
 | .s x, .s y => Sy.same x y
 | .z n, .z m => E.same n m
 | _, _ => false
def segsSame : List Seg → List Seg → Bool
 | [], [] => true
 | a :: l, b :: m => Seg.same a b && segsSame l m
 | _, _ => false
theorem segsSame_eq : ∀ {a b : List Seg}, segsSame a b = true → a = b
 | [], [], _ => rfl
 | [], _ :: _, h => by simp [segsSame] at h
 | _ :: _, [], h => by simp [segsSame] at h
 | a :: l, b :: m, h => by
  simp only [segsSame, Bool.and_eq_true] at h
  have h1 : a = b := by
   cases a <;> cases b <;> simp only [Seg.same] at h
   ·rw [Nat.eq_of_beq_eq_true h.1]
   ·cases h.1
   ·cases h.1
   ·cases h.1
   ·rw [Sy.same_eq h.1]
   ·cases h.1
   ·cases h.1
   ·cases h.1
   ·rw [E.same_eq h.1]
  rw [h1, segsSame_eq h.2]
def rowsSame : List RowS → List RowS → Bool
 | [], [] => true
 | a :: l, b :: m => (Sy.same a.v b.v && E.same a.n b.n && decide (a.e = b.e) && decide (a.sz = b.sz) && segsSame a.xs b.xs) && rowsSame l m
 | _, _ => false
theorem rowsSame_eq : ∀ {a b : List RowS}, rowsSame a b = true → a = b
 | [], [], _ => rfl
 | [], _ :: _, h => by simp [rowsSame] at h
 | _ :: _, [], h => by simp [rowsSame] at h
 | ⟨v, n, e, sz, xs⟩ :: l, ⟨v', n', e', sz', xs'⟩ :: m, h => by
  simp only [rowsSame, Bool.and_eq_true, decide_eq_true_eq] at h
  obtain ⟨⟨⟨⟨⟨h1, h2⟩, h3⟩, h4⟩, h5⟩, h6⟩ := h
  rw [Sy.same_eq h1, E.same_eq h2, h3, h4, segsSame_eq h5, rowsSame_eq h6]
def dsts : Code → List Nat
 | .region _ ops _ => ops.toList.filterMap (·.dst)
 | .seq a b => dsts a ++ dsts b
 | .cond _ a b => dsts a ++ dsts b
 | .block _ b => dsts b
 | .loop b => dsts b
 | .scope b => dsts b
 | _ => []
def forget (tm : Tm) : List Nat → Tm
 | [] => tm
 | t :: l => forget ((t, none) :: tm) l
def firstR : Code → Option Nat
 | .region id _ _ => some id
 | .seq a b => (firstR a).or (firstR b)
 | .cond _ a b => (firstR a).or (firstR b)
 | .block _ b => firstR b
 | .loop b => firstR b
 | .scope b => firstR b
 | _ => none
def coverK (a b : Tm) : Tm → Bool
 | [] => true
 | (k, _) :: l => (match getT b k with
  | some h => (match getT a k with
   | some x => Sy.same x h
   | none => false)
  | none => true) && coverK a b l
def coverT (a b : Tm) : Bool := coverK a b b
def coverH : List Blk → List Blk → Bool
 | [], [] => true
 | a :: l, b :: m => decide (a.m = b.m) && decide (a.ty = b.ty) && Sy.sames a.cs b.cs && coverH l m
 | _, _ => false
def cover (s' s : St) : Bool := (coverT s'.tm s.tm && coverH (s'.hp.drop (s'.hp.length - s.hp.length)) s.hp) && (coverH s'.ro s.ro && Nat.beq s'.n s.n)
def unrolls (cf : Cfg) (k : Nat) : Nat := (Cfg.lookN cf.unroll k).getD 0
inductive X where
 | nrm | exit (id : Nat) | ret
def X.out : X → Exit
 | .nrm => .normal
 | .exit id => .exit id
 | .ret => .ret
def joinAt (cf : Cfg) (b : Code) : Option (List Pos) := match cf.joins with
 | [] => none
 | _ => match firstR b with
  | some k => Cfg.findJ cf.joins k
  | none => none
def xunroll (xb : St → (X → St → Option Tree) → Option Tree) : Nat → St → (X → St → Option Tree) → Option Tree
 | 0, _, _ => none
 | n + 1, s, K => xb s fun x s' => match x with
  | .nrm => xunroll xb n s' K
  | x => K x s'
def xcode (P : Program) (cf : Cfg) (inl : Inl) : Code → St → (X → St → Option Tree) → Option Tree
 | .skip, s, K => K .nrm s
 | .label _, s, K => K .nrm s
 | .seq a b, s, K => match joinAt cf b with
  | none => xcode P cf inl a s fun x s' => match x with
   | .nrm => xcode P cf inl b s' K
   | x => K x s'
  | some ps => match getPs P s ps s.rw with
   | some (ini, rest) => match headXs ini s.c with
    | some (heads, c') =>
     if s.ok && ((carV heads).all (Sy.ok (s.c.add (c'.less s.c))) && (carR heads).all (RowS.ok (s.c.add (c'.less s.c)))) && carLike ini heads then
      match xcode P cf inl a { s with lp := s.lp + 1 } (fun x s' => match x with
       | .nrm => match getPs P s' ps s'.rw with
        | some (vals, rest') => if cover s' (plug { s with tm := forget s.tm (dsts a), rw := rest } ps vals) && rowsSame (rest'.drop (rest'.length - rest.length)) rest && carLike vals heads then some (frzT (s'.hp.take (s'.hp.length - (plug { s with tm := forget s.tm (dsts a), rw := rest } ps vals).hp.length)) (frzR (rest'.take (rest'.length - rest.length)) (.again s.lp (carV vals) (carR vals)))) else none
        | none => none
       | x => K x s'), xcode P cf inl b { plug { s with tm := forget s.tm (dsts a), rw := rest } ps heads with c := s.c.add (c'.less s.c) } K with
      | some ta, some tb => some (.join ta (carV heads) (carR heads) (c'.less s.c) tb)
      | _, _ => none
     else none
    | none => none
   | none => none
 | .cond c a b, s, K => match (evS s.tm c).map (simS s.kn) with
  | some (.bool e) => match dec s.kn e with
   | some true => xcode P cf inl a s K
   | some false => xcode P cf inl b s K
   | none => match xcode P cf inl a { s with kn := know e true s.kn } K, xcode P cf inl b { s with kn := know e false s.kn } K with
    | some t, some u => some (.br e t u)
    | _, _ => none
  | _ => none
 | .block id b, s, K => xcode P cf inl b s fun x s' => match x with
  | .exit i => if i = id then K .nrm s' else K (.exit i) s'
  | x => K x s'
 | .exit id, s, K => K (.exit id) s
 | .ret, s, K => K .ret s
 | .region id ops draw, s, K => if draw then xregion P ((cf.forReg id).forOps ops) inl ops s (K .nrm) else match xclr P ops s (K .nrm) with
  | some t => some t
  | none => xops P cf inl ops cf.fuel ops.toList s (K .nrm)
 | .loop b, s, K => match firstR b with
  | some k => match unrolls cf k with
   | n + 1 => xunroll (xcode P cf inl b) (n + 1) s K
   | 0 => match getPs P s (Cfg.find cf.loops k) s.rw with
    | some (ini, rest) => match headXs ini s.c with
     | some (heads, c') =>
      if s.ok && ((carV heads).all (Sy.ok (s.c.add (c'.less s.c))) && (carR heads).all (RowS.ok (s.c.add (c'.less s.c)))) && carLike ini heads then
       match xcode P cf inl b { plug { s with tm := forget s.tm (dsts b), rw := rest } (Cfg.find cf.loops k) heads with c := s.c.add (c'.less s.c), lp := s.lp + 1 } (fun x s' => match x with
        | .nrm => match getPs P s' (Cfg.find cf.loops k) s'.rw with
         | some (vals, rest') => if cover s' (plug { s with tm := forget s.tm (dsts b), rw := rest } (Cfg.find cf.loops k) vals) && rowsSame (rest'.drop (rest'.length - rest.length)) rest && carLike vals heads then some (frzT (s'.hp.take (s'.hp.length - (plug { s with tm := forget s.tm (dsts b), rw := rest } (Cfg.find cf.loops k) vals).hp.length)) (frzR (rest'.take (rest'.length - rest.length)) (.again s.lp (carV vals) (carR vals)))) else none
         | none => none
        | x => K x s') with
       | some t => some (.loop (carV ini) (carR ini) (carV heads) (carR heads) (c'.less s.c) t)
       | none => none
      else none
     | none => none
    | none => none
  | none => none
 | _, _, _ => none
def KOkX (P : Program) (N : Nat) (W0 : Wd) (R : Ending → World → Prop) (L : Lv) (ρ : Env) (W : Wd) (K : X → St → Option Tree) (Q : Exit → Act → World → Prop) : Prop :=
 ∀ x s' t' e M a' W', K x s' = some t' → Ext W W' → s'.lp = (L ++ M).length → Holds N W0 (ρ.push e) s' a' W' → t'.den P N R (L ++ M) (ρ.push e) W' → Q x.out a' W'.w
theorem KOkX.step {N : Nat} {W0 : Wd} {R : Ending → World → Prop} {L M : Lv} {ρ d : Env} {W W1 : Wd} {K : X → St → Option Tree} {Q : Exit → Act → World → Prop} (h : KOkX P N W0 R L ρ W K Q) (x : Ext W W1) : KOkX P N W0 R (L ++ M) (ρ.push d) W1 K Q :=
 fun y s' t' e N a' W' h1 hx hl h2 h3 => h y s' t' (d.push e) (M ++ N) a' W' h1 (x.trans hx) (by rw [← List.append_assoc]; exact hl) (by rw [← push_push]; exact h2) (by rw [← push_push, ← List.append_assoc]; exact h3)
theorem PanOk.thn {W0 : Wd} {R : Ending → World → Prop} {Q : Exit → Act → World → Prop} (h : PanOk W0 R Q) (K : Act → World → Prop) : PanOk W0 R (Exit.then K Q) := ⟨h.pan, h.put⟩
theorem PanOk.blk {W0 : Wd} {R : Ending → World → Prop} {Q : Exit → Act → World → Prop} (h : PanOk W0 R Q) (id : Nat) : PanOk W0 R (Exit.inBlock id Q) := ⟨h.pan, h.put⟩
structure RowsGood (N : Nat) (W0 : Wd) (ρ : Env) (W : Wd) (hp : List Blk) (rw : List RowS) : Prop where
 one : ∀ r ∈ rw, r.at N ρ W.w ∧ ∀ k, ownB ρ r = some k → ¬ W.I k ∧ ∀ b ∈ hp, gd ρ.M b.m 0 ≠ k
 two : rw.Pairwise (relR ρ)
theorem Holds.rowsGood {N : Nat} {W0 : Wd} {ρ : Env} {s : St} {a : Act} {W : Wd} (h : Holds N W0 ρ s a W) : RowsGood N W0 ρ W s.hp s.rw := ⟨fun r hr => ⟨h.rw r hr, h.rown r hr⟩, h.rnd⟩
theorem RowsGood.perm {N : Nat} {W0 : Wd} {ρ : Env} {W : Wd} {hp : List Blk} {l m : List RowS} (h : RowsGood N W0 ρ W hp l) (p : l.Perm m) : RowsGood N W0 ρ W hp m :=
 ⟨fun r hr => h.one r (p.mem_iff.2 hr), (p.pairwise_iff (fun hab => relR_symm hab)).1 h.two⟩
theorem RowsGood.sub {N : Nat} {W0 : Wd} {ρ : Env} {W : Wd} {hp : List Blk} {l m : List RowS} (h : RowsGood N W0 ρ W hp l) (p : m.Sublist l) : RowsGood N W0 ρ W hp m :=
 ⟨fun r hr => h.one r (p.subset hr), h.two.sublist p⟩
theorem RowsGood.nil {N : Nat} {W0 : Wd} {ρ : Env} {W : Wd} {hp : List Blk} {l : List RowS} (h : RowsGood N W0 ρ W hp l) (e : TypeId) (sz : Nat) : RowsGood N W0 ρ W hp (⟨.nils, .il 0, e, sz, []⟩ :: l) := by
 have ho : ∀ k, ownB ρ ⟨.nils, .il 0, e, sz, []⟩ ≠ some k := fun k hk => by simp [ownB, Sy.den, Value.ownBlock] at hk
 refine ⟨fun r hr => ?_, ?_⟩
 ·rcases List.mem_cons.1 hr with e1 | e1
  ·subst e1
   exact ⟨⟨World.ownsRow_nil _ _ _ _, fun u hu => by cases hu⟩, fun k hk => absurd hk (ho k)⟩
  ·exact h.one r e1
 ·rw [List.pairwise_cons]
  exact ⟨fun q _ k hk => absurd hk (ho k), h.two⟩
theorem rowOf_good {N : Nat} {W0 : Wd} {ρ : Env} {W : Wd} {hp : List Blk} {acc rw rest : List RowS} {t : TypeId} {v : Sy} {r : RowS} {ie : TypeInfo} (h : RowsGood N W0 ρ W hp (acc ++ rw)) (hr : rowOf P rw t v = some (r, rest, ie)) : RowsGood N W0 ρ W hp ((r :: acc) ++ rest) ∧ r.v = v := by
 unfold rowOf at hr
 split at hr
 ·split at hr
  ·split at hr
   ·have e := Option.some.inj hr
    injection e with e1 e2
    injection e2 with e2 e3
    subst e1 e2 e3
    exact ⟨h.nil _ _, rfl⟩
   ·split at hr
    ·rename_i r' hf
     split at hr
     ·have e := Option.some.inj hr
      injection e with e1 e2
      injection e2 with e2 e3
      subst e1 e2 e3
      obtain ⟨h1, h2⟩ := findR_perm hf
      exact ⟨h.perm ((h1.append_left acc).trans List.perm_middle), h2⟩
     ·cases hr
    ·cases hr
  ·cases hr
 ·cases hr
def plugR : List Car → List RowS → List RowS
 | [], rw => rw
 | x :: l, rw => plugR l (rowL x.2 ++ rw)
theorem plugR_sub : ∀ (l : List Car) {m n : List RowS}, m.Sublist n → (plugR l m).Sublist (plugR l n)
 | [], _, _, h => h
 | x :: l, _, _, h => plugR_sub l ((List.Sublist.refl _).append h)
theorem plug_rw : ∀ (ps : List Pos) (xs : List Car) (s : St), ps.length = xs.length → (plug s ps xs).rw = plugR xs s.rw
 | [], [], _, _ => rfl
 | [], _ :: _, _, h => by simp at h
 | _ :: _, [], _, h => by simp at h
 | p :: ps, x :: xs, s, h => by
  simp only [plug, plugR]
  rw [plug_rw ps xs _ (by simpa using h)]
  cases p <;> rfl
def CarOk (x : Car) : Prop := ∀ r, x.2 = some r → r.v = x.1
theorem getPs_good {N : Nat} {W0 : Wd} {ρ : Env} {W : Wd} {hp : List Blk} (s : St) : ∀ (ps : List Pos) (acc rw : List RowS) (l : List Car) (rest : List RowS), RowsGood N W0 ρ W hp (acc ++ rw) → getPs P s ps rw = some (l, rest) → RowsGood N W0 ρ W hp (plugR l (acc ++ rest)) ∧ (∀ x ∈ l, CarOk x) ∧ ps.length = l.length
 | [], acc, rw, l, rest, h, hg => by
  have e := Option.some.inj hg
  injection e with e1 e2
  subst e1 e2
  exact ⟨h, fun x hx => (by cases hx), rfl⟩
 | p :: ps, acc, rw, l, rest, h, hg => by
  simp only [getPs] at hg
  split at hg
  ·rename_i x rw' hp1
   split at hg
   ·rename_i l' rest' hl
    have e := Option.some.inj hg
    injection e with e1 e2
    subst e1 e2
    have key : RowsGood N W0 ρ W hp ((rowL x.2 ++ acc) ++ rw') ∧ CarOk x := by
     cases p with
     | tm t =>
      simp only [getP] at hp1
      obtain ⟨y, hy, e⟩ := Option.map_eq_some_iff.1 hp1
      injection e with e1 e2
      subst e1 e2
      exact ⟨h, fun r hr => by cases hr⟩
     | cell m off =>
      simp only [getP] at hp1
      split at hp1
      ·obtain ⟨y, hy, e⟩ := Option.map_eq_some_iff.1 hp1
       injection e with e1 e2
       subst e1 e2
       exact ⟨h, fun r hr => by cases hr⟩
      ·cases hp1
     | row t ty =>
      simp only [getP] at hp1
      split at hp1
      ·split at hp1
       ·rename_i v hv r rst ie hrow
        have e := Option.some.inj hp1
        injection e with e1 e2
        subst e1 e2
        obtain ⟨g1, g2⟩ := rowOf_good h hrow
        exact ⟨g1, fun r' hr' => by obtain rfl := Option.some.inj hr'; exact g2⟩
       ·cases hp1
      ·cases hp1
     | rowc m off ty =>
      simp only [getP] at hp1
      split at hp1
      ·split at hp1
       ·split at hp1
        ·rename_i v hv r rst ie hrow
         have e := Option.some.inj hp1
         injection e with e1 e2
         subst e1 e2
         obtain ⟨g1, g2⟩ := rowOf_good h hrow
         exact ⟨g1, fun r' hr' => by obtain rfl := Option.some.inj hr'; exact g2⟩
        ·cases hp1
       ·cases hp1
      ·cases hp1
    obtain ⟨i1, i2, i3⟩ := getPs_good s ps (rowL x.2 ++ acc) rw' l' rest' key.1 hl
    refine ⟨by simp only [plugR]; rw [← List.append_assoc]; exact i1, fun y hy => ?_, by simp [i3]⟩
    rcases List.mem_cons.1 hy with e | e
    ·subst e; exact key.2
    ·exact i2 y e
   ·cases hg
  ·cases hg
def lenV : Value → Nat
 | .slice _ n _ => n
 | _ => 0
theorem RowS.at.len {n0 : Nat} {ρ : Env} {r : RowS} {w : World} (h : r.at n0 ρ w) : (r.n.i ρ).toNat = lenV (r.v.den ρ) := by
 rcases h.1.2 with ⟨h1, h2⟩ | ⟨g, cap, cur, h1, _⟩
 ·rw [h1, h2]; rfl
 ·rw [h1]; rfl
def rk (ρ : Env) (r : RowS) : Value × TypeId × Nat × List Value := (r.v.den ρ, r.e, r.sz, conts ρ r.xs)
structure Alike (ρ ρ' : Env) (s s' : St) : Prop where
 len : s.n = s'.n
 tm : ∀ t : Nat, (getT s.tm t).map (Sy.den ρ) = (getT s'.tm t).map (Sy.den ρ')
 ms : s.hp.map (·.m) = s'.hp.map (·.m)
 hp : s.hp.map (fun b => (gd ρ.M b.m 0, b.ty, Sy.dens ρ b.cs)) = s'.hp.map (fun b => (gd ρ'.M b.m 0, b.ty, Sy.dens ρ' b.cs))
 ro : s.ro.map (fun b => (gd ρ.M b.m 0, b.ty, Sy.dens ρ b.cs)) = s'.ro.map (fun b => (gd ρ'.M b.m 0, b.ty, Sy.dens ρ' b.cs))
 rw : s.rw.map (rk ρ) = s'.rw.map (rk ρ')
 rn : ∀ r ∈ s'.rw, (r.n.i ρ').toNat = lenV (r.v.den ρ')
theorem Alike.holds {N : Nat} {W0 : Wd} {ρ ρ' : Env} {s s' : St} {a : Act} {W : Wd} (h : Holds N W0 ρ s a W) (k : Alike ρ ρ' s s') (hc : ρ'.cnt = s'.c) (hg : ρ'.good) (hk : Kn.holds ρ' s'.kn) : Holds N W0 ρ' s' a W := by
 have old : ∀ b ∈ s'.hp, ∃ b0 ∈ s.hp, gd ρ.M b0.m 0 = gd ρ'.M b.m 0 ∧ b0.ty = b.ty ∧ Sy.dens ρ b0.cs = Sy.dens ρ' b.cs := fun b hb => by
  have : (gd ρ'.M b.m 0, b.ty, Sy.dens ρ' b.cs) ∈ s.hp.map (fun b => (gd ρ.M b.m 0, b.ty, Sy.dens ρ b.cs)) := by
   rw [k.hp]; exact List.mem_map.2 ⟨b, hb, rfl⟩
  obtain ⟨b0, h0, e⟩ := List.mem_map.1 this
  simp only [Prod.mk.injEq] at e
  exact ⟨b0, h0, e.1, e.2.1, e.2.2⟩
 have oldr : ∀ b ∈ s'.ro, ∃ b0 ∈ s.ro, gd ρ.M b0.m 0 = gd ρ'.M b.m 0 ∧ b0.ty = b.ty ∧ Sy.dens ρ b0.cs = Sy.dens ρ' b.cs := fun b hb => by
  have : (gd ρ'.M b.m 0, b.ty, Sy.dens ρ' b.cs) ∈ s.ro.map (fun b => (gd ρ.M b.m 0, b.ty, Sy.dens ρ b.cs)) := by
   rw [k.ro]; exact List.mem_map.2 ⟨b, hb, rfl⟩
  obtain ⟨b0, h0, e⟩ := List.mem_map.1 this
  simp only [Prod.mk.injEq] at e
  exact ⟨b0, h0, e.1, e.2.1, e.2.2⟩
 have oldw : ∀ r ∈ s'.rw, ∃ r0 ∈ s.rw, rk ρ r0 = rk ρ' r := fun r hr => by
  have : rk ρ' r ∈ s.rw.map (rk ρ) := by rw [k.rw]; exact List.mem_map.2 ⟨r, hr, rfl⟩
  obtain ⟨r0, h0, e⟩ := List.mem_map.1 this
  exact ⟨r0, h0, e⟩
 refine ⟨hc, hg, ?_, by rw [h.len, k.len], h.df, fun b hb => ?_, fun b hb => ?_, fun r hr => ?_, fun b hb => ?_, fun b hb => ?_, fun r hr k' hk' => ?_, ?_, ?_, hk, h.sub, h.nle, h.ext⟩
 ·intro x y hx
  cases x with
  | tmp t =>
   simp only [evS] at hx
   have := k.tm t
   rw [hx] at this
   cases ho : getT s.tm t with
   | none => rw [ho] at this; cases this
   | some z =>
    rw [ho] at this
    have h1 := h.tm (.tmp t) z ho
    rw [h1]
    simpa using this
  | const v => simp only [evS] at hx; obtain rfl := Option.some.inj hx; have := h.tm (.const v) _ rfl; rw [this, ofVal_den, ofVal_den]
  | global g => simp only [evS] at hx; obtain rfl := Option.some.inj hx; exact h.tm (.global g) _ rfl
  | func f => simp only [evS] at hx; obtain rfl := Option.some.inj hx; exact h.tm (.func f) _ rfl
 ·obtain ⟨b0, h0, e1, e2, e3⟩ := old b hb
  have := h.hp b0 h0
  unfold Blk.at at *
  rw [← e1, ← e2, ← e3]
  exact this
 ·obtain ⟨b0, h0, e1, e2, e3⟩ := oldr b hb
  have := h.ro b0 h0
  unfold Blk.at at *
  rw [← e1, ← e2, ← e3]
  exact this
 ·obtain ⟨r0, h0, e⟩ := oldw r hr
  have h1 := h.rw r0 h0
  simp only [rk, Prod.mk.injEq] at e
  obtain ⟨e1, e2, e3, e4⟩ := e
  have hn := k.rn r hr
  have hn0 := h1.len
  unfold RowS.at at *
  rw [← e2, ← e3, hn, ← e1, ← hn0, ← e4]
  exact h1
 ·obtain ⟨b0, h0, e1, e2, e3⟩ := oldr b hb
  rw [← e1]
  exact h.old b0 h0
 ·obtain ⟨b0, h0, e1, e2, e3⟩ := old b hb
  rw [← e1]
  exact h.own b0 h0
 ·obtain ⟨r0, h0, e⟩ := oldw r hr
  simp only [rk, Prod.mk.injEq] at e
  have : ownB ρ r0 = some k' := by unfold ownB at *; rw [e.1]; exact hk'
  refine ⟨(h.rown r0 h0 k' this).1, fun b hb => ?_⟩
  obtain ⟨b0, h2, e1, _⟩ := old b hb
  rw [← e1]
  exact (h.rown r0 h0 k' this).2 b0 h2
 ·have h1 : (s.hp.map fun b => gd ρ.M b.m 0) = s'.hp.map fun b => gd ρ'.M b.m 0 := by
   have := congrArg (List.map Prod.fst) k.hp
   simpa [List.map_map, Function.comp_def] using this
  have h2 : (s.hp.map fun b => gd ρ.M b.m 0).Pairwise (· ≠ ·) := List.pairwise_map.2 h.nd
  rw [h1] at h2
  exact List.pairwise_map.1 h2
 ·have h1 : s.rw.map (ownB ρ) = s'.rw.map (ownB ρ') := by
   have := congrArg (List.map fun x => Value.ownBlock x.1) k.rw
   simp only [List.map_map, Function.comp_def, rk] at this
   exact this
  have h2 : (s.rw.map (ownB ρ)).Pairwise fun x y => ∀ k, x = some k → y ≠ some k := List.pairwise_map.2 h.rnd
  rw [h1] at h2
  exact List.pairwise_map.1 h2
theorem setC_map (ρ : Env) : ∀ (hp : List Blk) (m off : Nat) (x : Sy), (setC hp m off x).map (·.m) = hp.map (·.m)
 | [], _, _, _ => rfl
 | b :: l, m, off, x => by
  simp only [setC]
  split
  ·simp
  ·simp [setC_map ρ l m off x]
theorem dens_set (ρ : Env) (l : List Sy) (n : Nat) (x : Sy) : Sy.dens ρ (l.set n x) = (Sy.dens ρ l).set n (x.den ρ) := by simp [Sy.dens_eq, List.map_set]
theorem setC_alike {ρ ρ' : Env} {x x' : Sy} (hx : x.den ρ = x'.den ρ') (m off : Nat) : ∀ (l l' : List Blk), l.map (·.m) = l'.map (·.m) → (l.map fun b => (gd ρ.M b.m 0, b.ty, Sy.dens ρ b.cs)) = (l'.map fun b => (gd ρ'.M b.m 0, b.ty, Sy.dens ρ' b.cs)) →
  ((setC l m off x).map fun b => (gd ρ.M b.m 0, b.ty, Sy.dens ρ b.cs)) = ((setC l' m off x').map fun b => (gd ρ'.M b.m 0, b.ty, Sy.dens ρ' b.cs))
 | [], [], _, _ => rfl
 | [], _ :: _, h, _ => by simp at h
 | _ :: _, [], h, _ => by simp at h
 | b :: l, b' :: l', h, k => by
  simp only [List.map_cons, List.cons.injEq] at h k
  simp only [setC]
  rw [h.1]
  split
  ·simp only [List.map_cons, dens_set, hx]
   have := k.1
   simp only [Prod.mk.injEq] at this
   rw [h.1] at this
   rw [this.1, this.2.1, this.2.2, k.2]
  ·simp only [List.map_cons]
   have := k.1
   rw [h.1] at this
   rw [h.1, this, setC_alike hx m off l l' h.2 k.2]
def CarsEq (ρ ρ' : Env) : List Car → List Car → Prop
 | [], [] => True
 | x :: l, y :: m => x.1.den ρ = y.1.den ρ' ∧ (match x.2, y.2 with
  | some r, some q => rk ρ r = rk ρ' q ∧ (q.n.i ρ').toNat = lenV (q.v.den ρ')
  | none, none => True
  | _, _ => False) ∧ CarsEq ρ ρ' l m
 | _, _ => False
theorem Alike.plug1 {ρ ρ' : Env} {s s' : St} (k : Alike ρ ρ' s s') (p : Pos) {x x' : Car} (hx : x.1.den ρ = x'.1.den ρ') (hr : match x.2, x'.2 with
  | some r, some q => rk ρ r = rk ρ' q ∧ (q.n.i ρ').toNat = lenV (q.v.den ρ')
  | none, none => True
  | _, _ => False) : Alike ρ ρ' (plug1 s p x) (plug1 s' p x') := by
 have hrw : (rowL x.2 ++ s.rw).map (rk ρ) = (rowL x'.2 ++ s'.rw).map (rk ρ') ∧ ∀ r ∈ rowL x'.2 ++ s'.rw, (r.n.i ρ').toNat = lenV (r.v.den ρ') := by
  obtain ⟨v, o⟩ := x; obtain ⟨v', o'⟩ := x'
  cases o <;> cases o' <;> simp only at hr
  ·exact ⟨k.rw, k.rn⟩
  ·refine ⟨by simp only [rowL, List.cons_append, List.nil_append, List.map_cons, hr.1, k.rw], fun r hr' => ?_⟩
   rcases List.mem_cons.1 hr' with e | e
   ·subst e; exact hr.2
   ·exact k.rn r e
 have tmc : ∀ (t : Nat), ∀ u : Nat, (getT ((t, some x.1) :: s.tm) u).map (Sy.den ρ) = (getT ((t, some x'.1) :: s'.tm) u).map (Sy.den ρ') := fun t u => by
  by_cases e : t = u
  ·subst e
   rw [getT_same, getT_same]
   simp [hx]
  ·rw [getT_other _ _ e, getT_other _ _ e]
   exact k.tm u
 cases p with
 | tm t => exact ⟨k.len, tmc t, k.ms, k.hp, k.ro, hrw.1, hrw.2⟩
 | row t ty => exact ⟨k.len, tmc t, k.ms, k.hp, k.ro, hrw.1, hrw.2⟩
 | cell m off => exact ⟨k.len, k.tm, by simp [SF.plug1, setC_map ρ, k.ms], setC_alike hx m off _ _ k.ms k.hp, k.ro, hrw.1, hrw.2⟩
 | rowc m off ty => exact ⟨k.len, k.tm, by simp [SF.plug1, setC_map ρ, k.ms], setC_alike hx m off _ _ k.ms k.hp, k.ro, hrw.1, hrw.2⟩
theorem Alike.plug {ρ ρ' : Env} : ∀ (ps : List Pos) {s s' : St} (k : Alike ρ ρ' s s') (xs xs' : List Car), CarsEq ρ ρ' xs xs' → Alike ρ ρ' (plug s ps xs) (plug s' ps xs')
 | [], _, _, k, _, _, _ => by simp only [SF.plug]; exact k
 | p :: ps, _, _, k, [], [], _ => by simp only [SF.plug]; exact k
 | p :: ps, _, _, k, [], _ :: _, h => by simp [CarsEq] at h
 | p :: ps, _, _, k, _ :: _, [], h => by simp [CarsEq] at h
 | p :: ps, _, _, k, x :: xs, x' :: xs', h => by
  simp only [CarsEq] at h
  simp only [SF.plug]
  exact Alike.plug ps (k.plug1 p h.1 h.2.1) xs xs' h.2.2
theorem carsEq_of {ρ ρ' : Env} : ∀ {xs ys : List Car}, carLike xs ys = true → Sy.dens ρ (carV xs) = Sy.dens ρ' (carV ys) → rowConts ρ (carR xs) = rowConts ρ' (carR ys) → (∀ x ∈ xs, CarOk x) →
  (∀ y ∈ ys, CarOk y ∧ ∀ q, y.2 = some q → (q.n.i ρ').toNat = lenV (q.v.den ρ')) → CarsEq ρ ρ' xs ys
 | [], [], _, _, _, _, _ => trivial
 | [], _ :: _, h, _, _, _, _ => by simp [carLike] at h
 | _ :: _, [], h, _, _, _, _ => by simp [carLike] at h
 | (v, o) :: xs, (v', o') :: ys, h, hd, hr, hx, hy => by
  simp only [carLike, Bool.and_eq_true] at h
  simp only [carV, List.map_cons, Sy.dens, List.cons.injEq] at hd
  have hx1 := hx _ (List.mem_cons_self ..)
  have hy1 := hy _ (List.mem_cons_self ..)
  have rest : rowConts ρ (carR xs) = rowConts ρ' (carR ys) → CarsEq ρ ρ' xs ys := fun hr' => carsEq_of h.2 hd.2 hr' (fun x hx' => hx x (List.mem_cons_of_mem _ hx')) (fun y hy' => hy y (List.mem_cons_of_mem _ hy'))
  cases o <;> cases o' <;> simp only at h
  ·exact ⟨hd.1, trivial, rest hr⟩
  ·exact absurd h.1 (by simp)
  ·exact absurd h.1 (by simp)
  ·rename_i r q
   simp only [carR, List.flatMap_cons, rowL, List.cons_append, List.nil_append, rowConts, List.map_cons, List.cons.injEq] at hr
   simp only [Bool.and_eq_true, decide_eq_true_eq] at h
   refine ⟨hd.1, ⟨?_, hy1.2 q rfl⟩, rest hr.2⟩
   simp only [rk, Prod.mk.injEq]
   refine ⟨?_, h.1.1, h.1.2, hr.1⟩
   rw [hx1 r rfl, hy1.1 q rfl]
   exact hd.1
theorem plug_kn : ∀ (ps : List Pos) (s : St) (xs : List Car), (plug s ps xs).kn = s.kn ∧ (plug s ps xs).c = s.c ∧ (plug s ps xs).lp = s.lp
 | [], s, xs => by simp [plug]
 | p :: ps, s, [] => by simp [plug]
 | p :: ps, s, x :: xs => by
  simp only [plug]
  obtain ⟨h1, h2, h3⟩ := plug_kn ps (plug1 s p x) xs
  rw [h1, h2, h3]
  cases p <;> simp [plug1]
theorem forget_get : ∀ (l : List Nat) (tm : Tm) (t : Nat), getT (forget tm l) t = getT tm t ∨ getT (forget tm l) t = none
 | [], _, _ => .inl rfl
 | u :: l, tm, t => by
  simp only [forget]
  rcases forget_get l ((u, none) :: tm) t with h | h
  ·by_cases e : u = t
   ·subst e
    right
    rw [h, getT_same]
   ·left
    rw [h, getT_other _ _ e]
  ·exact .inr h
theorem forget_all {f : Option Sy → Bool} (hf : f none = true) : ∀ (l : List Nat) (tm : Tm), tm.all (fun p => f p.2) = true → (forget tm l).all (fun p => f p.2) = true
 | [], _, h => h
 | u :: l, tm, h => forget_all hf l ((u, none) :: tm) (by simp only [List.all_cons, hf, Bool.true_and]; exact h)
theorem coverK_ok {a b : Tm} : ∀ {l : Tm}, coverK a b l = true → ∀ p ∈ l, ∀ x, getT b p.1 = some x → getT a p.1 = some x
 | [], _, _, hp, _, _ => by cases hp
 | (k, v) :: l, h, p, hp, x, hx => by
  simp only [coverK, Bool.and_eq_true] at h
  rcases List.mem_cons.1 hp with e | e
  ·subst e
   have h1 := h.1
   rw [hx] at h1
   cases ha : getT a k with
   | none => rw [ha] at h1; cases h1
   | some y => rw [ha] at h1; rw [Sy.same_eq h1]
  ·exact coverK_ok h.2 p e x hx
theorem coverT_ok {a b : Tm} (h : coverT a b = true) (t : Nat) (x : Sy) (hx : getT b t = some x) : getT a t = some x := by
 obtain ⟨p, hp, e, _⟩ := getT_mem hx
 subst e
 exact coverK_ok h p hp x hx
theorem coverH_ok : ∀ {a b : List Blk}, coverH a b = true → a = b
 | [], [], _ => rfl
 | [], _ :: _, h => by simp [coverH] at h
 | _ :: _, [], h => by simp [coverH] at h
 | ⟨m, ty, cs⟩ :: l, ⟨m', ty', cs'⟩ :: r, h => by
  simp only [coverH, Bool.and_eq_true] at h
  obtain ⟨⟨⟨h1, h2⟩, h3⟩, h4⟩ := h
  have e1 := of_decide_eq_true h1
  have e2 := of_decide_eq_true h2
  have e3 := Sy.sames_eq h3
  subst e1 e2 e3
  rw [coverH_ok h4]
theorem Holds.cover {N : Nat} {W0 : Wd} {ρ : Env} {s' s : St} {a : Act} {W : Wd} (h : Holds N W0 ρ s' a W) (hc : cover s' s = true) (hr : RowsGood N W0 ρ W s'.hp s.rw) (hk : Kn.holds ρ s.kn) : Holds N W0 ρ { s with c := s'.c } a W := by
 simp only [SF.cover, Bool.and_eq_true] at hc
 have c2 := coverT_ok hc.1.1
 have c3 := coverH_ok hc.1.2
 have c4 := coverH_ok hc.2.1
 have c1 := Nat.eq_of_beq_eq_true hc.2.2
 have hsub : ∀ b ∈ s.hp, b ∈ s'.hp := fun b hb => by rw [← c3] at hb; exact List.mem_of_mem_drop hb
 refine ⟨h.cnt, h.good, ?_, by rw [h.len, c1], h.df, fun b hb => h.hp b (hsub b hb), fun b hb => h.ro b (by rw [c4]; exact hb), fun r hr' => (hr.one r hr').1, fun b hb => h.old b (by rw [c4]; exact hb), fun b hb => h.own b (hsub b hb), fun r hr' k hk' => ⟨((hr.one r hr').2 k hk').1, fun b hb => ((hr.one r hr').2 k hk').2 b (hsub b hb)⟩, ?_, hr.two, hk, h.sub, h.nle, h.ext⟩
 ·intro x y hx
  cases x with
  | tmp t => exact h.tm (.tmp t) y (c2 t y hx)
  | const v => exact h.tm (.const v) y hx
  | global g => exact h.tm (.global g) y hx
  | func f => exact h.tm (.func f) y hx
 ·show s.hp.Pairwise _
  rw [← c3]
  exact h.nd.sublist (List.drop_sublist _ _)
theorem Alike.refl_push {N : Nat} {W0 : Wd} {ρ d e : Env} {s : St} {w : World} (hc : ρ.cnt = s.c) (ho : s.ok = true) (hr : RowsAt N ρ s.rw w) : Alike (ρ.push d) (ρ.push e) s s := by
 simp only [St.ok, Bool.and_eq_true] at ho
 obtain ⟨⟨⟨⟨o1, o2⟩, o4⟩, o5⟩, o3⟩ := ho
 rw [← hc] at o1 o2 o4 o5
 have blks : ∀ l : List Blk, l.all (Blk.ok ρ.cnt) = true → l.map (fun b => (gd (ρ.push d).M b.m 0, b.ty, Sy.dens (ρ.push d) b.cs)) = l.map (fun b => (gd (ρ.push e).M b.m 0, b.ty, Sy.dens (ρ.push e) b.cs)) := fun l hl =>
  List.map_congr_left fun b hb => by
   have := List.all_eq_true.1 hl b hb
   simp only [Blk.ok, Bool.and_eq_true] at this
   have hm := of_decide_eq_true this.1
   rw [M_push hm, M_push hm, Sy.pushes ρ d b.cs this.2, Sy.pushes ρ e b.cs this.2]
 refine ⟨rfl, fun t => ?_, rfl, blks _ o2, blks _ o4, List.map_congr_left fun r hr' => ?_, fun r hr' => ?_⟩
 ·cases ht : getT s.tm t with
  | none => rfl
  | some x =>
   obtain ⟨p, hp, _, h2⟩ := getT_mem ht
   have := List.all_eq_true.1 o1 _ hp
   rw [h2] at this
   simp only [Option.map_some]
   rw [Sy.push ρ d x this, Sy.push ρ e x this]
 ·have h1 := RowS.push (d := d) (List.all_eq_true.1 o5 r hr')
  have h2 := RowS.push (d := e) (List.all_eq_true.1 o5 r hr')
  simp only [rk, h1.1, h1.2.2, h2.1, h2.2.2]
 ·have h2 := RowS.push (d := e) (List.all_eq_true.1 o5 r hr')
  rw [h2.1, h2.2.1]
  exact (hr r hr').len
theorem Kn.push {ρ d : Env} {s : St} (hc : ρ.cnt = s.c) (ho : s.ok = true) (h : Kn.holds ρ s.kn) : Kn.holds (ρ.push d) s.kn := by
 simp only [St.ok, Bool.and_eq_true] at ho
 obtain ⟨_, o3⟩ := ho
 rw [← hc] at o3
 intro p hp
 have := List.all_eq_true.1 o3 p hp
 rw [(E.push ρ d p.1 this).2.1]
 exact h p hp
theorem setC_self : ∀ {hp : List Blk} {m off : Nat} {b : Blk} {x : Sy}, findB hp m = some b → b.cs[off]? = some x → setC hp m off x = hp
 | [], _, _, _, _, h, _ => by cases h
 | a :: l, m, off, b, x, h, hx => by
  simp only [findB] at h
  simp only [setC]
  split at h
  ·rename_i e
   obtain rfl := Option.some.inj h
   rw [if_pos e]
   have : a.cs.set off x = a.cs := by
    apply List.ext_getElem?
    intro i
    rw [List.getElem?_set]
    by_cases e2 : off = i
    ·subst e2
     rw [if_pos rfl]
     split
     ·exact hx.symm
     ·rename_i hl; rw [List.getElem?_eq_none (by omega)]
    ·rw [if_neg e2]
   rw [this]
  ·rename_i e
   rw [if_neg e, setC_self h hx]
structure Less (s' s : St) : Prop where
 len : s.n = s'.n
 tm : ∀ (t : Nat) (x : Sy), getT s.tm t = some x → getT s'.tm t = some x
 hp : s.hp = s'.hp
 ro : s.ro = s'.ro
theorem plug_less {s0 : St} : ∀ (ps : List Pos) (s : St) (rw : List RowS) (xs : List Car) (rest : List RowS), getPs P s0 ps rw = some (xs, rest) → Less s0 s → Less s0 (plug s ps xs)
 | [], s, rw, xs, rest, _, h => by simp only [plug]; exact h
 | p :: ps, s, rw, xs, rest, hg, h => by
  simp only [getPs] at hg
  split at hg
  ·rename_i x rw' hx
   split at hg
   ·rename_i l rest' hl
    have e := Option.some.inj hg
    injection e with e1 e2
    subst e1 e2
    simp only [plug]
    refine plug_less ps _ rw' l rest' hl ?_
    have tmc : ∀ (t : Nat), getT s0.tm t = some x.1 → ∀ (u : Nat) (y : Sy), getT ((t, some x.1) :: s.tm) u = some y → getT s0.tm u = some y := fun t h0 u y hy => by
     by_cases e : t = u
     ·subst e
      rw [getT_same] at hy
      rw [← Option.some.inj hy]
      exact h0
     ·rw [getT_other _ _ e] at hy
      exact h.tm u y hy
    cases p with
    | tm t =>
     simp only [getP] at hx
     obtain ⟨y, hy, e⟩ := Option.map_eq_some_iff.1 hx
     injection e with e1 e2
     subst e1
     exact ⟨h.len, tmc t hy, h.hp, h.ro⟩
    | row t ty =>
     simp only [getP] at hx
     split at hx
     ·rename_i v hv
      split at hx
      ·have e := Option.some.inj hx
       injection e with e1 e2
       subst e1
       exact ⟨h.len, tmc t hv, h.hp, h.ro⟩
      ·cases hx
     ·cases hx
    | cell m off =>
     simp only [getP] at hx
     split at hx
     ·rename_i b hb
      obtain ⟨y, hy, e⟩ := Option.map_eq_some_iff.1 hx
      injection e with e1 e2
      subst e1
      refine ⟨h.len, h.tm, ?_, h.ro⟩
      simp only [plug1]
      rw [h.hp, setC_self hb hy]
     ·cases hx
    | rowc m off ty =>
     simp only [getP] at hx
     split at hx
     ·rename_i b hb
      split at hx
      ·rename_i y hy
       split at hx
       ·have e := Option.some.inj hx
        injection e with e1 e2
        subst e1
        refine ⟨h.len, h.tm, ?_, h.ro⟩
        simp only [plug1]
        rw [h.hp, setC_self hb hy]
       ·cases hx
      ·cases hx
     ·cases hx
   ·cases hg
  ·cases hg
theorem Holds.less {N : Nat} {W0 : Wd} {ρ : Env} {s' s : St} {a : Act} {W : Wd} (h : Holds N W0 ρ s' a W) (k : Less s' s) (hr : RowsGood N W0 ρ W s'.hp s.rw) (hk : Kn.holds ρ s.kn) : Holds N W0 ρ { s with c := s'.c } a W := by
 refine ⟨h.cnt, h.good, ?_, by rw [h.len, k.len], h.df, ?_, fun b hb => h.ro b (by rw [← k.ro]; exact hb), fun r hr' => (hr.one r hr').1, fun b hb => h.old b (by rw [← k.ro]; exact hb), ?_, fun r hr' k' hk' => ⟨((hr.one r hr').2 k' hk').1, fun b hb => ((hr.one r hr').2 k' hk').2 b (by rw [← k.hp]; exact hb)⟩, ?_, hr.two, hk, h.sub, h.nle, h.ext⟩
 ·intro x y hx
  cases x with
  | tmp t => exact h.tm (.tmp t) y (k.tm t y hx)
  | const v => exact h.tm (.const v) y hx
  | global g => exact h.tm (.global g) y hx
  | func f => exact h.tm (.func f) y hx
 ·show BlksAt ρ s.hp W.w
  rw [k.hp]; exact h.hp
 ·show ∀ b ∈ s.hp, _
  rw [k.hp]; exact h.own
 ·show s.hp.Pairwise _
  rw [k.hp]; exact h.nd
theorem headXs_ok : ∀ (l : List Car) (c : Cnt) (r : List Car × Cnt), headXs l c = some r → ∀ y ∈ r.1, CarOk y ∧ ∀ q, y.2 = some q → ∀ ρ : Env, (q.n.i ρ).toNat = lenV (q.v.den ρ)
 | [], c, r, h => by obtain rfl := Option.some.inj h; exact fun y hy => (by cases hy)
 | x :: l, c, r, h => by
  simp only [headXs] at h
  split at h
  ·rename_i y c' hy
   split at h
   ·rename_i m c'' hm
    obtain rfl := Option.some.inj h
    intro z hz
    rcases List.mem_cons.1 hz with e | e
    ·subst e
     unfold headX at hy
     split at hy
     ·have e := Option.some.inj hy
      injection e with e1 e2
      subst e1
      exact ⟨fun q hq => by obtain rfl := Option.some.inj hq; rfl, fun q hq ρ => by obtain rfl := Option.some.inj hq; rfl⟩
     ·obtain ⟨p, _, e⟩ := Option.map_eq_some_iff.1 hy
      injection e with e1 e2
      subst e1
      exact ⟨fun q hq => (by cases hq), fun q hq => (by cases hq)⟩
    ·exact headXs_ok l _ _ hm z e
   ·cases h
  ·cases h
theorem carLike_len : ∀ {a b : List Car}, carLike a b = true → a.length = b.length
 | [], [], _ => rfl
 | [], _ :: _, h => by simp [carLike] at h
 | _ :: _, [], h => by simp [carLike] at h
 | _ :: l, _ :: m, h => by simp only [carLike, Bool.and_eq_true] at h; simp [carLike_len h.2]
theorem rounds_ok {N : Nat} {W0 : Wd} {R : Ending → World → Prop} {b : Code} {xb : St → (X → St → Option Tree) → Option Tree} (hP0 : True)
  (ih : ∀ (s : St) (K : X → St → Option Tree) (t : Tree) (L : Lv) (ρ : Env) (a : Act) (W : Wd) (Q : Exit → Act → World → Prop), PanOk W0 R Q → xb s K = some t → Holds N W0 ρ s a W → s.lp = L.length → t.den P N R L ρ W → KOkX P N W0 R L ρ W K Q → b.wp P Q a W.w) :
  ∀ (n : Nat) (s : St) (K : X → St → Option Tree) (t : Tree) (L : Lv) (ρ : Env) (a : Act) (W : Wd) (Q : Exit → Act → World → Prop), PanOk W0 R Q → xunroll xb n s K = some t → Holds N W0 ρ s a W → s.lp = L.length → t.den P N R L ρ W → KOkX P N W0 R L ρ W K Q → Code.rounds P b Q n a W.w
 | 0, _, _, _, _, _, _, _, _, _, hx, _, _, _, _ => by cases hx
 | n + 1, s, K, t, L, ρ, a, W, Q, hP, hx, hh, hl, ht, hK => by
  rw [rounds_succ]
  simp only [xunroll] at hx
  refine ih s _ t L ρ a W _ (hP.thn _) hx hh hl ht ?_
  intro z s' t' e M a' W' h1 hx' hl' h2 h3
  cases z with
  | nrm => exact rounds_ok hP0 ih n s' K t' (L ++ M) (ρ.push e) a' W' Q hP h1 h2 hl' h3 (hK.step hx')
  | exit id => exact hK (.exit id) s' t' e M a' W' h1 hx' hl' h2 h3
  | ret => exact hK .ret s' t' e M a' W' h1 hx' hl' h2 h3
theorem plugR_mem : ∀ (l : List Car) (rw : List RowS) (r : RowS), r ∈ rw → r ∈ plugR l rw
 | [], _, _, h => h
 | x :: l, rw, r, h => plugR_mem l _ r (List.mem_append_right _ h)
theorem carR_mem : ∀ (l : List Car) (rw : List RowS) (r : RowS), r ∈ carR l → r ∈ plugR l rw
 | [], _, _, h => by cases h
 | x :: l, rw, r, h => by
  simp only [carR, List.flatMap_cons] at h
  simp only [plugR]
  rcases List.mem_append.1 h with h1 | h1
  ·exact plugR_mem l _ r (List.mem_append_left _ h1)
  ·exact carR_mem l _ r h1
theorem dropR_mem : ∀ {rw : List RowS} {v : Sy} {r : RowS}, r ∈ dropR rw v → r ∈ rw
 | [], _, _, h => h
 | a :: l, v, r, h => by
  simp only [dropR] at h
  split at h
  ·exact List.mem_cons_of_mem _ h
  ·rcases List.mem_cons.1 h with e | e
   ·subst e; exact List.mem_cons_self ..
   ·exact List.mem_cons_of_mem _ (dropR_mem e)
theorem getPs_rest (s : St) : ∀ (ps : List Pos) (rw : List RowS) (l : List Car) (rest : List RowS), getPs P s ps rw = some (l, rest) → ∀ r ∈ rest, r ∈ rw
 | [], rw, l, rest, hg => by
  have e := Option.some.inj hg
  injection e with e1 e2
  subst e2
  exact fun r hr => hr
 | p :: ps, rw, l, rest, hg => by
  simp only [getPs] at hg
  split at hg
  ·rename_i x rw' hx
   split at hg
   ·rename_i l' rest' hl
    have e := Option.some.inj hg
    injection e with e1 e2
    subst e2
    intro r hr
    have h1 := getPs_rest s ps rw' l' rest' hl r hr
    cases p with
    | tm t =>
     simp only [getP] at hx
     obtain ⟨y, hy, e⟩ := Option.map_eq_some_iff.1 hx
     injection e with e1 e2
     subst e2
     exact h1
    | cell m off =>
     simp only [getP] at hx
     split at hx
     ·obtain ⟨y, hy, e⟩ := Option.map_eq_some_iff.1 hx
      injection e with e1 e2
      subst e2
      exact h1
     ·cases hx
    | row t ty =>
     simp only [getP] at hx
     split at hx
     ·split at hx
      ·rename_i v hv r2 rst ie hrow
       have e := Option.some.inj hx
       injection e with e1 e2
       subst e2
       unfold rowOf at hrow
       (repeat' split at hrow) <;> first
        | (cases hrow; done)
        | (have e := Option.some.inj hrow; injection e with e1 e2; injection e2 with e2 e3; subst e2; first | exact h1 | exact dropR_mem h1)
      ·cases hx
     ·cases hx
    | rowc m off ty =>
     simp only [getP] at hx
     split at hx
     ·split at hx
      ·split at hx
       ·rename_i v hv r2 rst ie hrow
        have e := Option.some.inj hx
        injection e with e1 e2
        subst e2
        unfold rowOf at hrow
        (repeat' split at hrow) <;> first
         | (cases hrow; done)
         | (have e := Option.some.inj hrow; injection e with e1 e2; injection e2 with e2 e3; subst e2; first | exact h1 | exact dropR_mem h1)
       ·cases hx
      ·cases hx
     ·cases hx
   ·cases hg
  ·cases hg
theorem Holds.freeze {N : Nat} {W0 : Wd} {ρ : Env} {s : St} {a : Act} {W W' : Wd} (h : Holds N W0 ρ s a W) (hw : W'.w = W.w) (x : Ext W W') {bs : List Blk} (hI : ∀ b, W'.I b → W.I b ∨ ∃ x ∈ bs, b = gd ρ.M x.m 0 ∧ N ≤ b)
  (hhp : ∀ b ∈ s.hp, ∀ x ∈ bs, gd ρ.M b.m 0 ≠ gd ρ.M x.m 0) (hrw : ∀ r ∈ s.rw, ∀ k, ownB ρ r = some k → ∀ x ∈ bs, k ≠ gd ρ.M x.m 0) : Holds N W0 ρ s a W' := by
 refine ⟨h.cnt, h.good, h.tm, h.len, h.df, by rw [hw]; exact h.hp, by rw [hw]; exact h.ro, by rw [hw]; exact h.rw, h.old, fun b hb hi => ?_, fun r hr k hk => ⟨fun hi => ?_, (h.rown r hr k hk).2⟩, h.nd, h.rnd, h.kn, fun b hi => ?_, h.nle, h.ext.trans x⟩
 ·rcases hI _ hi with h1 | ⟨y, hy, e, _⟩
  ·exact h.own b hb h1
  ·exact hhp b hb y hy e
 ·rcases hI _ hi with h1 | ⟨y, hy, e, _⟩
  ·exact (h.rown r hr k hk).1 h1
  ·exact hrw r hr k hk y hy e
 ·rcases hI _ hi with h1 | ⟨y, hy, _, e⟩
  ·exact h.sub b h1
  ·exact .inr e
theorem Holds.freezeR {N : Nat} {W0 : Wd} {ρ : Env} {s : St} {a : Act} {W W' : Wd} (h : Holds N W0 ρ s a W) (hw : W'.w = W.w) (x : Ext W W') {rs : List RowS} (hI : ∀ b, W'.I b → W.I b ∨ ∃ r ∈ rs, ownB ρ r = some b ∧ N ≤ b)
  (hhp : ∀ b ∈ s.hp, ∀ r ∈ rs, ownB ρ r ≠ some (gd ρ.M b.m 0)) (hrw : ∀ q ∈ s.rw, ∀ k, ownB ρ q = some k → ∀ r ∈ rs, ownB ρ r ≠ some k) : Holds N W0 ρ s a W' := by
 refine ⟨h.cnt, h.good, h.tm, h.len, h.df, by rw [hw]; exact h.hp, by rw [hw]; exact h.ro, by rw [hw]; exact h.rw, h.old, fun b hb hi => ?_, fun r hr k hk => ⟨fun hi => ?_, (h.rown r hr k hk).2⟩, h.nd, h.rnd, h.kn, fun b hi => ?_, h.nle, h.ext.trans x⟩
 ·rcases hI _ hi with h1 | ⟨y, hy, e, _⟩
  ·exact h.own b hb h1
  ·exact hhp b hb y hy e
 ·rcases hI _ hi with h1 | ⟨y, hy, e, _⟩
  ·exact (h.rown r hr k hk).1 h1
  ·exact hrw r hr k hk y hy e
 ·rcases hI _ hi with h1 | ⟨y, hy, _, e⟩
  ·exact h.sub b h1
  ·exact .inr e
theorem plugR_app : ∀ (l : List Car) (m : List RowS), plugR l m = plugR l [] ++ m
 | [], _ => rfl
 | x :: l, m => by
  show plugR l (rowL x.2 ++ m) = plugR l (rowL x.2 ++ []) ++ m
  rw [plugR_app l (rowL x.2 ++ m), plugR_app l (rowL x.2 ++ []), List.append_nil, List.append_assoc]
theorem left_apart {ρ : Env} {l : List Car} {rest rest' : List RowS} {k : Nat} (h : (plugR l rest').Pairwise (relR ρ)) (hr : rest'.drop k = rest) : ∀ q ∈ plugR l rest, ∀ b, ownB ρ q = some b → ∀ r ∈ rest'.take k, ownB ρ r ≠ some b := by
 intro q hq b hb r hr2 e
 rw [plugR_app, ← List.take_append_drop k rest', hr, List.pairwise_append] at h
 rw [plugR_app] at hq
 rcases List.mem_append.1 hq with h1 | h1
 ·exact h.2.2 q h1 r (List.mem_append_left _ hr2) b hb e
 ·exact (List.pairwise_append.1 h.2.1).2.2 r hr2 q h1 b e hb
theorem xcode_ok {inl : Inl} (hI : InlOk P inl) {N : Nat} {W0 : Wd} {R : Ending → World → Prop} {cf : Cfg} : ∀ (c : Code) (s : St) (K : X → St → Option Tree) (t : Tree) (L : Lv) (ρ : Env) (a : Act) (W : Wd) (Q : Exit → Act → World → Prop), PanOk W0 R Q →
  xcode P cf inl c s K = some t → Holds N W0 ρ s a W → s.lp = L.length → t.den P N R L ρ W → KOkX P N W0 R L ρ W K Q → c.wp P Q a W.w := by
 intro c
 induction c with
 | skip =>
  intro s K t L ρ a W Q hP hx hh hl ht hK
  refine wp_skip ?_
  exact hK .nrm s t {} [] a W hx (Ext.refl W) (by simpa using hl) (by rw [push_nil]; exact hh) (by rw [push_nil, List.append_nil]; exact ht)
 | label l =>
  intro s K t L ρ a W Q hP hx hh hl ht hK
  refine wp_label ?_
  exact hK .nrm s t {} [] a W hx (Ext.refl W) (by simpa using hl) (by rw [push_nil]; exact hh) (by rw [push_nil, List.append_nil]; exact ht)
 | exit id =>
  intro s K t L ρ a W Q hP hx hh hl ht hK
  refine wp_exit ?_
  exact hK (.exit id) s t {} [] a W hx (Ext.refl W) (by simpa using hl) (by rw [push_nil]; exact hh) (by rw [push_nil, List.append_nil]; exact ht)
 | ret =>
  intro s K t L ρ a W Q hP hx hh hl ht hK
  refine wp_ret ?_
  exact hK .ret s t {} [] a W hx (Ext.refl W) (by simpa using hl) (by rw [push_nil]; exact hh) (by rw [push_nil, List.append_nil]; exact ht)
 | seq x y ihx ihy =>
  intro s K t L ρ a W Q hP hx hh hl ht hK
  refine wp_seq ?_
  simp only [xcode] at hx
  split at hx
  ·refine ihx s _ t L ρ a W _ (hP.thn _) hx hh hl ht ?_
   intro z s' t' e M a' W' h1 hx' hl' h2 h3
   cases z with
   | nrm => exact ihy s' K t' (L ++ M) (ρ.push e) a' W' Q hP h1 h2 hl' h3 (hK.step hx')
   | exit id => exact hK (.exit id) s' t' e M a' W' h1 hx' hl' h2 h3
   | ret => exact hK .ret s' t' e M a' W' h1 hx' hl' h2 h3
  ·rename_i ps hps
   split at hx
   ·rename_i ini rest hini
    split at hx
    ·rename_i heads c' hheads
     split at hx
     ·rename_i hok
      simp only [Bool.and_eq_true] at hok
      split at hx
      ·rename_i ta tb hta htb
       obtain rfl := Option.some.inj hx
       obtain ⟨J, hJ, hround⟩ := ht
       obtain ⟨gd1, gd2, gd3⟩ := getPs_good (W0 := W0) (W := W) (hp := s.hp) s ps [] s.rw ini rest (by simpa using hh.rowsGood) hini
       simp only [List.nil_append] at gd1
       have hrestsub : ∀ r ∈ rest, r ∈ s.rw := getPs_rest s ps s.rw ini rest hini
       have hbok : St.ok { s with tm := forget s.tm (dsts x), rw := rest } = true := by
        have h0 := hok.1.1
        simp only [St.ok, Bool.and_eq_true] at h0 ⊢
        refine ⟨⟨⟨⟨?_, h0.1.1.1.2⟩, h0.1.1.2⟩, List.all_eq_true.2 fun r hr => List.all_eq_true.1 h0.1.2 r (hrestsub r hr)⟩, h0.2⟩
        exact forget_all (f := Sy.okO s.c) rfl _ _ h0.1.1.1.1
       have hlenR : ps.length = heads.length := gd3.trans (carLike_len hok.2)
       have hhok := headXs_ok ini s.c _ hheads
       have hh1 : Holds N W0 ρ { s with lp := s.lp + 1 } a W := ⟨hh.cnt, hh.good, hh.tm, hh.len, hh.df, hh.hp, hh.ro, hh.rw, hh.old, hh.own, hh.rown, hh.nd, hh.rnd, hh.kn, hh.sub, hh.nle, hh.ext⟩
       refine ihx { s with lp := s.lp + 1 } _ ta (L ++ [J]) ρ a W _ (hP.thn _) hta hh1 (by simp [hl]) hJ ?_
       intro z s' t' e' M a'' W'' h1 hx' hl' h2 h3
       cases z with
       | nrm =>
        dsimp only at h1
        split at h1
        ·rename_i vals' rest' hvals'
         split at h1
         ·rename_i hcov
          simp only [Bool.and_eq_true] at hcov
          obtain rfl := Option.some.inj h1
          obtain ⟨k1, k2, k3⟩ := getPs_good (W0 := W0) (W := W'') (hp := s'.hp) s' ps [] s'.rw vals' rest' (by simpa using h2.rowsGood) hvals'
          simp only [List.nil_append] at k1
          obtain ⟨W3a, hw3a, x3a, hI3a, h3⟩ := frzT_den h3 (fun b hb => h2.hp b (List.mem_of_mem_take hb))
          obtain ⟨W3, hw3b, x3b, hI3b, h3⟩ := frzR_den h3 (fun r hr => by rw [hw3a]; exact (k1.one r (by rw [plugR_app]; exact List.mem_append_right _ (List.mem_of_mem_take hr))).1)
          have hw3 : W3.w = W''.w := hw3b.trans hw3a
          have x3 := x3a.trans x3b
          have h4 : Lv.at (L ++ [J] ++ M) s.lp _ _ W3 := h3
          have hget : (L ++ [J] ++ M)[s.lp]? = some J := by
           rw [hl, List.append_assoc, List.getElem?_append_right (Nat.le_refl _)]
           simp
          unfold Lv.at at h4
          rw [hget] at h4
          have hrs := rowsSame_eq hcov.1.2
          have hsubR : RowsGood N W0 (ρ.push e') W'' s'.hp (plug { s with tm := forget s.tm (dsts x), rw := rest } ps vals').rw := by
           rw [plug_rw ps vals' _ k3]
           exact k1.sub (plugR_sub _ (by rw [← hrs]; exact List.drop_sublist _ _))
          have h5 := h2.cover hcov.1.1 hsubR (by rw [(plug_kn ps _ vals').1]; exact Kn.push (s := { s with tm := forget s.tm (dsts x), rw := rest }) hh.cnt hbok hh.kn)
          have hcH : s'.hp.drop (s'.hp.length - (plug { s with tm := forget s.tm (dsts x), rw := rest } ps vals').hp.length) = (plug { s with tm := forget s.tm (dsts x), rw := rest } ps vals').hp := by
           have := hcov.1.1
           simp only [SF.cover, Bool.and_eq_true] at this
           exact coverH_ok this.1.2
          have hnd := h2.nd
          rw [← List.take_append_drop (s'.hp.length - (plug { s with tm := forget s.tm (dsts x), rw := rest } ps vals').hp.length) s'.hp, List.pairwise_append] at hnd
          have h7a := h5.freeze hw3a x3a hI3a (fun y hb x hx e => by
           have hb' : y ∈ (plug { s with tm := forget s.tm (dsts _), rw := rest } ps vals').hp := hb
           rw [← hcH] at hb'
           exact hnd.2.2 x hx y hb' e.symm) (fun r hr k hk x hx e => by
           exact (hsubR.one r hr).2 k hk |>.2 x (List.mem_of_mem_take hx) e.symm)
          have h7 := h7a.freezeR hw3b x3b hI3b (fun y hb r hr e => by
           have hb' : y ∈ (plug { s with tm := forget s.tm (dsts _), rw := rest } ps vals').hp := hb
           rw [← hcH] at hb'
           exact ((k1.one r (by rw [plugR_app]; exact List.mem_append_right _ (List.mem_of_mem_take hr))).2 _ e).2 y (List.mem_of_mem_drop hb') rfl) (fun q hq b hb r hr => by
           have hq' : q ∈ (plug { s with tm := forget s.tm (dsts _), rw := rest } ps vals').rw := hq
           rw [plug_rw ps vals' _ k3] at hq'
           exact left_apart k1.two hrs q hq' b hb r hr)
          -- from here on over the heads
          have xW : Ext W W3 := hx'.trans x3
          obtain ⟨d, hd, hdens, hdrow, hden⟩ := (hround _ _ W3 xW h4).out
          have hal : Alike (ρ.push e') (ρ.push d) (plug { s with tm := forget s.tm (dsts x), rw := rest } ps vals') (plug { s with tm := forget s.tm (dsts x), rw := rest } ps heads) :=
           (Alike.refl_push (W0 := W0) (w := W.w) (s := { s with tm := forget s.tm (dsts x), rw := rest }) hh.cnt hbok (fun r hr => hh.rw r (hrestsub r hr))).plug ps vals' heads (carsEq_of hcov.2 hdens.symm hdrow.symm k2 fun y hy => ⟨(hhok y hy).1, fun q hq => (hhok y hy).2 q hq _⟩)
          have hcnt : (ρ.push d).cnt = s.c.add (c'.less s.c) := by rw [Env.cnt_push, hh.cnt, hd.1]
          have hhold' : Holds N W0 (ρ.push d) { plug { s with tm := forget s.tm (dsts x), rw := rest } ps heads with c := s.c.add (c'.less s.c) } a'' W3 := by
           refine Alike.holds h7 ⟨hal.len, hal.tm, hal.ms, hal.hp, hal.ro, hal.rw, hal.rn⟩ hcnt (Env.good_push hh.good hd.2) ?_
           show Kn.holds _ (plug _ ps heads).kn
           rw [(plug_kn ps _ heads).1]
           exact Kn.push (s := { s with tm := forget s.tm (dsts x), rw := rest }) hh.cnt hbok hh.kn
          have hrows : RowsAt N (ρ.push d) (carR heads) W3.w := fun r hr => hhold'.rw r (by
           show r ∈ (plug _ ps heads).rw
           rw [plug_rw ps heads _ hlenR]
           exact carR_mem heads rest r hr)
          have hK' : KOkX P N W0 R L (ρ.push d) W3 K Q := by
           have := hK.step (M := []) (d := d) xW
           rw [List.append_nil] at this
           exact this
          show y.wp P Q a'' W''.w
          rw [← hw3]
          refine ihy _ K tb L (ρ.push d) a'' W3 Q hP htb hhold' ?_ (hden hrows) hK'
          show (plug _ ps heads).lp = _
          rw [(plug_kn ps _ heads).2.2]
          exact hl
         ·cases h1
        ·cases h1
       | exit i =>
        exact hK (.exit i) s' t' e' ([J] ++ M) a'' W'' h1 hx' (by rw [← List.append_assoc]; exact hl') h2 (by rw [← List.append_assoc]; exact h3)
       | ret =>
        exact hK .ret s' t' e' ([J] ++ M) a'' W'' h1 hx' (by rw [← List.append_assoc]; exact hl') h2 (by rw [← List.append_assoc]; exact h3)
      ·cases hx
     ·cases hx
    ·cases hx
   ·cases hx
 | cond c x y ihx ihy =>
  intro s K t L ρ a W Q hP hx hh hl ht hK
  simp only [xcode] at hx
  split at hx
  ·rename_i e he
   have hc : a.eval c = .bool (e.b ρ) := by
    obtain ⟨s0, hs0, hs1⟩ := Option.map_eq_some_iff.1 he
    rw [hh.tm c _ hs0, ← simS_den hh.kn, hs1]; rfl
   split at hx
   ·rename_i hd
    rw [dec_ok hh.kn e hd] at hc
    exact wp_cond_true hc (ihx s K t L ρ a W Q hP hx hh hl ht hK)
   ·rename_i hd
    rw [dec_ok hh.kn e hd] at hc
    exact wp_cond_false hc (ihy s K t L ρ a W Q hP hx hh hl ht hK)
   ·split at hx
    ·rename_i t1 t2 h1 h2
     obtain rfl := Option.some.inj hx
     cases hb : e.b ρ
     ·rw [hb] at hc
      exact wp_cond_false hc (ihy _ K t2 L ρ a W Q hP h2 (hh.learn hb) hl (ht.2 hb) hK)
     ·rw [hb] at hc
      exact wp_cond_true hc (ihx _ K t1 L ρ a W Q hP h1 (hh.learn hb) hl (ht.1 hb) hK)
    ·cases hx
  ·cases hx
 | block id b ih =>
  intro s K t L ρ a W Q hP hx hh hl ht hK
  refine wp_block ?_
  refine ih s _ t L ρ a W _ (hP.blk _) hx hh hl ht ?_
  intro z s' t' e M a' W' h1 hx' hl' h2 h3
  cases z with
  | nrm => exact hK .nrm s' t' e M a' W' h1 hx' hl' h2 h3
  | ret => exact hK .ret s' t' e M a' W' h1 hx' hl' h2 h3
  | exit i =>
   simp only [X.out, Exit.inBlock]
   dsimp only at h1
   split at h1
   ·rename_i hi
    rw [if_pos hi]
    exact hK .nrm s' t' e M a' W' h1 hx' hl' h2 h3
   ·rename_i hi
    rw [if_neg hi]
    exact hK (.exit i) s' t' e M a' W' h1 hx' hl' h2 h3
 | region id ops draw =>
  intro s K t L ρ a W Q hP hx hh hl ht hK
  have hK' : KOk P N W0 R L ρ W s.lp (K .nrm) (Q .normal) := fun s' t' e a' W' h1 hx' hl' h2 h3 =>
   hK .nrm s' t' e [] a' W' h1 hx' (by rw [List.append_nil, hl', hl]) h2 (by rw [List.append_nil]; exact h3)
  simp only [xcode] at hx
  split at hx
  ·rename_i hd
   have hd : draw = true := hd
   subst hd
   exact xregion_ok hI hP hx hh ht hK'
  ·rename_i hd
   have hd : draw = false := by simpa using hd
   subst hd
   refine wp_region_list ?_
   split at hx
   ·rename_i u hu
    obtain rfl := Option.some.inj hx
    exact xclr_ok hu hh ht hK'
   ·exact xops_ok hI hP _ _ s t ρ a W hx hh ht hK'
 | loop b ih =>
  intro s K t L ρ a W Q hP hx hh hl ht hK
  simp only [xcode] at hx
  split at hx
  ·rename_i k hk
   split at hx
   ·exact wp_loop_rounds _ (rounds_ok trivial (fun s K t L ρ a W Q hP hx hh hl ht hK => ih s K t L ρ a W Q hP hx hh hl ht hK) _ s K t L ρ a W Q hP hx hh hl ht hK)
   ·split at hx
    ·rename_i ini rest hini
     split at hx
     ·rename_i heads c' hheads
      split at hx
      ·rename_i hok
       simp only [Bool.and_eq_true] at hok
       split at hx
       ·rename_i tb htb
        obtain rfl := Option.some.inj hx
        obtain ⟨Inv, n0, hI0, hround⟩ := ht
        generalize hps : Cfg.find cf.loops k = ps at *
        obtain ⟨gd1, gd2, gd3⟩ := getPs_good (W0 := W0) (W := W) (hp := s.hp) s ps [] s.rw ini rest (by simpa using hh.rowsGood) hini
        simp only [List.nil_append] at gd1
        have hbase : Less s { s with tm := forget s.tm (dsts b), rw := rest } := by
         refine ⟨rfl, fun t x h => ?_, rfl, rfl⟩
         rcases forget_get (dsts b) s.tm t with h1 | h1
         ·dsimp only at h; rw [h1] at h; exact h
         ·dsimp only at h; rw [h1] at h; cases h
        have hrestsub : ∀ r ∈ rest, r ∈ s.rw := getPs_rest s ps s.rw ini rest hini
        have hbok : St.ok { s with tm := forget s.tm (dsts b), rw := rest } = true := by
         have h0 := hok.1.1
         simp only [St.ok, Bool.and_eq_true] at h0 ⊢
         refine ⟨⟨⟨⟨?_, h0.1.1.1.2⟩, h0.1.1.2⟩, List.all_eq_true.2 fun r hr => List.all_eq_true.1 h0.1.2 r (hrestsub r hr)⟩, h0.2⟩
         exact forget_all (f := Sy.okO s.c) rfl _ _ h0.1.1.1.1
        have hlenR : ps.length = heads.length := gd3.trans (carLike_len hok.2)
        have hhok := headXs_ok ini s.c _ hheads
        refine wp_loop_ghost (fun n a' w' => ∃ (W' : Wd) (e : Env) (vals : List Car), W'.w = w' ∧ Ext W W' ∧ carLike vals heads = true ∧ (∀ x ∈ vals, CarOk x) ∧
         Holds N W0 (ρ.push e) { plug { s with tm := forget s.tm (dsts b), rw := rest } ps vals with c := (ρ.push e).cnt } a' W' ∧ Inv n (Sy.dens (ρ.push e) (carV vals)) (rowConts (ρ.push e) (carR vals)) W') n0 ?_ ?_
        ·refine ⟨W, {}, ini, rfl, Ext.refl W, hok.2, gd2, ?_, by rw [push_nil]; exact hI0⟩
         have h1 := hh.less (plug_less ps _ s.rw ini rest hini hbase) (by rw [plug_rw ps ini _ gd3]; exact gd1) (by rw [(plug_kn ps _ ini).1]; exact hh.kn)
         rw [push_nil, hh.cnt]
         exact h1
        ·rintro n a' w' ⟨W', e, vals, rfl, hext, hvl, hvok, hhold, hInv⟩
         obtain ⟨d, hd, hdens, hdrow, hden⟩ := (hround n _ _ W' hext hInv).out
         have hal : Alike (ρ.push e) (ρ.push d) (plug { s with tm := forget s.tm (dsts b), rw := rest } ps vals) (plug { s with tm := forget s.tm (dsts b), rw := rest } ps heads) :=
          (Alike.refl_push (W0 := W0) (w := W.w) (s := { s with tm := forget s.tm (dsts b), rw := rest }) hh.cnt hbok (fun r hr => hh.rw r (hrestsub r hr))).plug ps vals heads (carsEq_of hvl hdens.symm hdrow.symm hvok fun y hy => ⟨(hhok y hy).1, fun q hq => (hhok y hy).2 q hq _⟩)
         have hcnt : (ρ.push d).cnt = s.c.add (c'.less s.c) := by rw [Env.cnt_push, hh.cnt, hd.1]
         have hhold' : Holds N W0 (ρ.push d) { plug { s with tm := forget s.tm (dsts b), rw := rest } ps heads with c := s.c.add (c'.less s.c), lp := s.lp + 1 } a' W' := by
          refine Alike.holds hhold ⟨hal.len, hal.tm, hal.ms, hal.hp, hal.ro, hal.rw, hal.rn⟩ hcnt (Env.good_push hh.good hd.2) ?_
          show Kn.holds _ (plug _ ps heads).kn
          rw [(plug_kn ps _ heads).1]
          exact Kn.push (s := { s with tm := forget s.tm (dsts b), rw := rest }) hh.cnt hbok hh.kn
         have hrows : RowsAt N (ρ.push d) (carR heads) W'.w := fun r hr => hhold'.rw r (by
          show r ∈ (plug _ ps heads).rw
          rw [plug_rw ps heads _ hlenR]
          exact carR_mem heads rest r hr)
         refine ih _ _ tb _ (ρ.push d) a' W' _ (hP.thn _) htb hhold' ?_ (hden hrows) ?_
         ·simp [hl]
         ·intro z s' t' e' M a'' W'' h1 hx' hl' h2 h3
          cases z with
          | nrm =>
           dsimp only at h1
           split at h1
           ·rename_i vals' rest' hvals'
            split at h1
            ·rename_i hcov
             simp only [Bool.and_eq_true] at hcov
             obtain rfl := Option.some.inj h1
             rw [push_push] at h2 h3
             obtain ⟨k1, k2, k3⟩ := getPs_good (W0 := W0) (W := W'') (hp := s'.hp) s' ps [] s'.rw vals' rest' (by simpa using h2.rowsGood) hvals'
             simp only [List.nil_append] at k1
             obtain ⟨W3a, hw3a, x3a, hI3a, h3⟩ := frzT_den h3 (fun b hb => h2.hp b (List.mem_of_mem_take hb))
             obtain ⟨W3, hw3b, x3b, hI3b, h3⟩ := frzR_den h3 (fun r hr => by rw [hw3a]; exact (k1.one r (by rw [plugR_app]; exact List.mem_append_right _ (List.mem_of_mem_take hr))).1)
             have hw3 : W3.w = W''.w := hw3b.trans hw3a
             have x3 := x3a.trans x3b
             have h4 : Lv.at (L ++ [_] ++ M) s.lp _ _ W3 := h3
             have hget : (L ++ [fun vs' ls' W'' => ∃ n', n' < n ∧ Inv n' vs' ls' W''] ++ M)[s.lp]? = some (fun vs' ls' W'' => ∃ n', n' < n ∧ Inv n' vs' ls' W'') := by
              rw [hl, List.append_assoc, List.getElem?_append_right (Nat.le_refl _)]
              simp
             unfold Lv.at at h4
             rw [hget] at h4
             obtain ⟨n', hn', hI'⟩ := h4
             refine ⟨n', hn', W3, d.push e', vals', hw3, hext.trans (hx'.trans x3), hcov.2, k2, ?_, hI'⟩
             have hrs := rowsSame_eq hcov.1.2
             have hsubR : RowsGood N W0 (ρ.push (d.push e')) W'' s'.hp (plug { s with tm := forget s.tm (dsts b), rw := rest } ps vals').rw := by
              rw [plug_rw ps vals' _ k3]
              exact k1.sub (plugR_sub _ (by rw [← hrs]; exact List.drop_sublist _ _))
             have h5 := h2.cover hcov.1.1 hsubR (by rw [(plug_kn ps _ vals').1]; exact Kn.push (s := { s with tm := forget s.tm (dsts b), rw := rest }) hh.cnt hbok hh.kn)
             have hcH : s'.hp.drop (s'.hp.length - (plug { s with tm := forget s.tm (dsts b), rw := rest } ps vals').hp.length) = (plug { s with tm := forget s.tm (dsts b), rw := rest } ps vals').hp := by
              have := hcov.1.1
              simp only [SF.cover, Bool.and_eq_true] at this
              exact coverH_ok this.1.2
             have hnd := h2.nd
             rw [← List.take_append_drop (s'.hp.length - (plug { s with tm := forget s.tm (dsts b), rw := rest } ps vals').hp.length) s'.hp, List.pairwise_append] at hnd
             have h7a := h5.freeze hw3a x3a hI3a (fun y hb x hx e => by
              have hb' : y ∈ (plug { s with tm := forget s.tm (dsts b), rw := rest } ps vals').hp := hb
              rw [← hcH] at hb'
              exact hnd.2.2 x hx y hb' e.symm) (fun r hr k hk x hx e => by
              exact (hsubR.one r hr).2 k hk |>.2 x (List.mem_of_mem_take hx) e.symm)
             have h7 := h7a.freezeR hw3b x3b hI3b (fun y hb r hr e => by
              have hb' : y ∈ (plug { s with tm := forget s.tm (dsts _), rw := rest } ps vals').hp := hb
              rw [← hcH] at hb'
              exact ((k1.one r (by rw [plugR_app]; exact List.mem_append_right _ (List.mem_of_mem_take hr))).2 _ e).2 y (List.mem_of_mem_drop hb') rfl) (fun q hq b hb r hr => by
              have hq' : q ∈ (plug { s with tm := forget s.tm (dsts _), rw := rest } ps vals').rw := hq
              rw [plug_rw ps vals' _ k3] at hq'
              exact left_apart k1.two hrs q hq' b hb r hr)
             have h6 := h2.cnt
             rw [h6]
             exact h7
            ·cases h1
           ·cases h1
          | exit i =>
           have := hK (.exit i) s' t' (d.push e') ([fun vs' ls' W'' => ∃ n', n' < n ∧ Inv n' vs' ls' W''] ++ M) a'' W'' h1 (hext.trans hx') (by rw [← List.append_assoc]; exact hl') (by rw [← push_push]; exact h2) (by rw [← push_push, ← List.append_assoc]; exact h3)
           exact this
          | ret =>
           have := hK .ret s' t' (d.push e') ([fun vs' ls' W'' => ∃ n', n' < n ∧ Inv n' vs' ls' W''] ++ M) a'' W'' h1 (hext.trans hx') (by rw [← List.append_assoc]; exact hl') (by rw [← push_push]; exact h2) (by rw [← push_push, ← List.append_assoc]; exact h3)
           exact this
       ·cases hx
      ·cases hx
     ·cases hx
    ·cases hx
  ·cases hx
 | rangeFunc => intro s K t L ρ a W Q hP hx; simp [xcode] at hx
 | scope => intro s K t L ρ a W Q hP hx; simp [xcode] at hx
 | goto => intro s K t L ρ a W Q hP hx; simp [xcode] at hx
 | refuse => intro s K t L ρ a W Q hP hx; simp [xcode] at hx
end Go.SF
end
section
namespace Go.SF
open Go Go.RowKit
variable {P : Program}
def resS (P : Program) (s : St) : List ResultVar → Option (List Sy)
 | [] => some []
 | r :: l => match (match r with
   | .tmp t => getT s.tm t
   | .cell a t => match getT s.tm a with
    | some (.ptr m o) => match findB (s.hp ++ s.ro) m with
     | some b => ldS P t b.cs o
     | none => none
    | _ => none), resS P s l with
  | some x, some r => some (x :: r)
  | _, _ => none
def oneS : List Sy → Sy
 | [s] => s
 | l => .tup l
def resOne (tmps : Array Value) : ResultVar → Sem Value
 | .tmp t => pure (tmps.getD t undef)
 | .cell a t => do loadVar t (← asAddr (tmps.getD a undef))
theorem results_eq (fn : Func) (tmps : Array Value) : results fn tmps = (do let vs ← fn.results.mapM (resOne tmps); pure (if h : vs.size = 1 then vs[0] else .tuple vs)) := by
 unfold results
 congr 1
theorem run_resS {N : Nat} {W0 : Wd} {ρ : Env} {s : St} {a : Act} {W : Wd} (h : Holds N W0 ρ s a W) : ∀ (l : List ResultVar) (r : List Sy), resS P s l = some r →
  (l.mapM (m := Sem) (resOne a.tmps)).run P W.w = .ok (Sy.dens ρ r) W.w
 | [], r, hr => by obtain rfl := Option.some.inj hr; simp [Sy.dens]
 | x :: l, r, hr => by
  simp only [resS] at hr
  split at hr
  ·rename_i y r' hy hr'
   obtain rfl := Option.some.inj hr
   have ih := run_resS h l r' hr'
   have hone : (resOne a.tmps x).run P W.w = .ok (y.den ρ) W.w := by
    cases x with
    | tmp t =>
     have h1 := h.tm (.tmp t) y hy
     simp only [Act.eval] at h1
     simp only [resOne, Sem.run_pure, h1]
    | cell c t =>
     dsimp only at hy
     split at hy
     ·rename_i m o hc
      split at hy
      ·rename_i b hb
       have h1 := h.tm (.tmp c) _ hc
       simp only [Act.eval, Sy.den] at h1
       obtain ⟨hm, rfl⟩ := findB_mem hb
       have h2 := run_ldS (ρ := ρ) hy (both_at h.hp h.ro b hm)
       simp only [resOne, h1, asAddr, Sem.run_bind, Sem.run_pure, Result.andThen_ok, h2]
      ·cases hy
     ·cases hy
   simp only [List.mapM_cons, Sem.run_bind, hone, Result.andThen_ok, ih, Sem.run_pure, Sy.dens]
  ·cases hr
theorem run_results {N : Nat} {W0 : Wd} {ρ : Env} {s : St} {a : Act} {W : Wd} (h : Holds N W0 ρ s a W) {fn : Func} {r : List Sy} (hr : resS P s fn.results.toList = some r) :
  (results fn a.tmps).run P W.w = .ok ((oneS r).den ρ) W.w := by
 have h1 := run_resS (P := P) h fn.results.toList r hr
 rw [results_eq, Array.mapM_eq_mapM_toList]
 simp only [Sem.run_bind, Sem.run_map]
 rw [h1]
 simp only [Result.andThen_ok]
 match r with
 | [] => simp [oneS, Sy.den, Sy.dens]
 | [x] => simp [oneS, Sy.dens]
 | x :: y :: l => simp [oneS, Sy.den, Sy.dens]
def argT : Nat → List Sy → Tm
 | _, [] => []
 | k, s :: l => (k, some s) :: argT (k + 1) l
theorem argT_get : ∀ (l : List Sy) (k t : Nat), getT (argT k l) t = if k ≤ t then l[t - k]? else none
 | [], k, t => by simp [argT, getT]
 | s :: l, k, t => by
  simp only [argT]
  by_cases h : k = t
  ·subst h; rw [getT_same]; simp
  ·rw [getT_other _ _ h, argT_get l (k + 1) t]
   by_cases h1 : k ≤ t
   ·rw [if_pos h1, if_pos (by omega), show t - k = (t - (k + 1)) + 1 from by omega, List.getElem?_cons_succ]
   ·rw [if_neg h1, if_neg (by omega)]
def startS (args : List Sy) (n : Nat) (hp ro : List Blk) (rw : List RowS) (c : Cnt) : St := { n := if n < args.length then args.length else n, tm := argT 0 args, hp := hp, ro := ro, rw := rw, kn := [], c := c, lp := 0 }
def xfnI (P : Program) (cf : Cfg) (inl : Inl) (fn : Func) (args : List Sy) (hp ro : List Blk) (rw : List RowS) (c : Cnt) : Option Tree :=
 match fn.body with
 | some code => xcode P cf inl code (startS args fn.ntmps hp ro rw c) fun x s => match x with
  | .exit _ => none
  | _ => match resS P s fn.results.toList with
   | some r => some (.ret (oneS r) (reach s.hp r ++ s.hp.filter fun b => (hp.map (·.m)).contains b.m) (reach s.ro r) s.rw)
   | none => none
 | none => none
def inlD (P : Program) (cf : Cfg) : Nat → Inl
 | 0 => fun _ _ _ _ => none
 | d + 1 => fun f args ro c => if cf.inl.contains f then (match P.funcs[f]? with
  | some fn => xfnI P { cf with loops := [] } (inlD P cf d) fn args [] ro [] c
  | none => none) else none
def xfn (P : Program) (cf : Cfg) (fn : Func) (args : List Sy) (hp ro : List Blk) (c : Cnt) : Option Tree := xfnI P cf (inlD P cf cf.depth) fn args hp ro [] c
theorem start_holds {N : Nat} (args : List Sy) (n : Nat) (ρ : Env) (hg : ρ.good) (hp ro : List Blk) (rw : List RowS) (W : Wd) (hN : N ≤ W.w.heap.size) (hrw : RowsAt N ρ rw W.w) (hrown : ∀ r ∈ rw, ∀ k, ownB ρ r = some k → ¬ W.I k ∧ ∀ b ∈ hp, gd ρ.M b.m 0 ≠ k) (hrnd : rw.Pairwise fun r q => ∀ k, ownB ρ r = some k → ownB ρ q ≠ some k) (hhp : BlksAt ρ hp W.w) (hown : ∀ b ∈ hp, ¬ W.I (gd ρ.M b.m 0)) (hnd : hp.Pairwise fun a b => gd ρ.M a.m 0 ≠ gd ρ.M b.m 0) (hro : BlksAt ρ ro W.w) (hroI : ∀ b ∈ ro, W.I (gd ρ.M b.m 0)) :
  Holds N W ρ (startS args n hp ro rw ρ.cnt) { tmps := (Sy.dens ρ args).toArray ++ Array.replicate (n - (Sy.dens ρ args).toArray.size) undef, defers := [] } W := by
 have hlen : (Sy.dens ρ args).length = args.length := by simp [Sy.dens_eq]
 refine ⟨rfl, hg, ?_, ?_, rfl, hhp, hro, hrw, hroI, hown, hrown, hnd, hrnd, fun p hp => (by cases hp), fun b hb => .inl hb, hN, Ext.refl W⟩
 ·intro x y hx
  cases x with
  | tmp t =>
   simp only [evS, startS, argT_get, Nat.zero_le, if_true, Nat.sub_zero] at hx
   simp only [Act.eval, Array.getD_eq_getD_getElem?]
   have h : t < args.length := (List.getElem?_eq_some_iff.1 hx).1
   have e : ((Sy.dens ρ args).toArray ++ Array.replicate (n - (Sy.dens ρ args).toArray.size) undef)[t]? = (Sy.dens ρ args)[t]? := by
    rw [Array.getElem?_append_left (by simpa [hlen] using h)]; simp
   rw [e, dens_getElem?, hx]
   rfl
  | const v => simp only [evS] at hx; obtain rfl := Option.some.inj hx; rw [ofVal_den]; rfl
  | global g => simp only [evS] at hx; obtain rfl := Option.some.inj hx; rfl
  | func f => simp only [evS] at hx; obtain rfl := Option.some.inj hx; simp [Act.eval, Sy.den, Sy.dens]
 ·simp only [startS, Array.size_append, List.size_toArray, hlen, Array.size_replicate]
  split <;> omega
theorem reach_sub {hp : List Blk} {r : List Sy} : ∀ b ∈ reach hp r, b ∈ hp := fun b hb => (List.mem_filter.1 hb).1
theorem fnI_calls {inl : Inl} (hI : InlOk P inl) {f : FuncId} {fn : Func} (hf : P.funcs[f]? = some fn) (cf : Cfg) (args : List Sy) (hp ro : List Blk) (rw : List RowS) (ρ : Env) (t : Tree) (hx : xfnI P cf inl fn args hp ro rw ρ.cnt = some t) (hg : ρ.good) {N : Nat} {W : Wd} (hN : N ≤ W.w.heap.size) (hrw : RowsAt N ρ rw W.w) (hrown : ∀ r ∈ rw, ∀ k, ownB ρ r = some k → ¬ W.I k ∧ ∀ b ∈ hp, gd ρ.M b.m 0 ≠ k) (hrnd : rw.Pairwise fun r q => ∀ k, ownB ρ r = some k → ownB ρ q ≠ some k)
  {R : Ending → World → Prop} (hhp : BlksAt ρ hp W.w) (hown : ∀ b ∈ hp, ¬ W.I (gd ρ.M b.m 0)) (hnd : hp.Pairwise fun a b => gd ρ.M a.m 0 ≠ gd ρ.M b.m 0) (hro : BlksAt ρ ro W.w) (hroI : ∀ b ∈ ro, W.I (gd ρ.M b.m 0)) (hden : t.den P N R [] ρ W) : CallsE P f (Sy.dens ρ args).toArray W R := by
 unfold xfnI at hx
 split at hx
 ·rename_i code hb
  refine calls_of_wp hf hb ?_
  have hP : PanOk W R (bodyPost P fn fun e w' => Keeps W w' ∧ R e w') := ⟨fun ch a w' h1 h2 h3 => ⟨h1, h2, h3⟩, fun ch a d v w' h => by
   obtain ⟨h1, h2⟩ := h
   exact ⟨by cases d <;> exact h1, h2⟩⟩
  refine xcode_ok hI code (startS args fn.ntmps hp ro rw ρ.cnt) _ t [] ρ _ W _ hP hx (start_holds args fn.ntmps ρ hg hp ro rw W hN hrw hrown hrnd hhp hown hnd hro hroI) rfl hden ?_
  intro x s' t' e M a' W' h1 hx' hl' h2 h3
  have fin : ∀ r, resS P s' fn.results.toList = some r → t' = .ret (oneS r) (reach s'.hp r ++ s'.hp.filter fun b => (hp.map (·.m)).contains b.m) (reach s'.ro r) s'.rw →
    a'.defers = [] ∧ ∃ v, (results fn a'.tmps).run P W'.w = .ok v W'.w ∧ (Keeps W W'.w ∧ R (.returned v) W'.w) := by
   rintro r hr rfl
   refine ⟨h2.df, _, run_results h2 hr, Keeps.of_ext h2.ext, ?_⟩
   refine h3 (fun b hb => ?_) (fun b hb => h2.ro b (reach_sub b hb)) h2.rw ⟨h2.rnd, fun r hr k hk => (h2.rown r hr k hk).1⟩
   rcases List.mem_append.1 hb with h4 | h4
   ·exact h2.hp b (reach_sub b h4)
   ·exact h2.hp b (List.mem_filter.1 h4).1
  cases x with
  | exit i => cases h1
  | nrm =>
   dsimp only at h1
   split at h1
   ·rename_i r hr; exact fin r hr (Option.some.inj h1).symm
   ·cases h1
  | ret =>
   dsimp only at h1
   split at h1
   ·rename_i r hr; exact fin r hr (Option.some.inj h1).symm
   ·cases h1
 ·cases hx
theorem inlD_ok (cf : Cfg) : ∀ d, InlOk P (inlD P cf d)
 | 0 => fun f args ro c t h => by cases h
 | d + 1 => fun f args ro c t h ρ W R hc hg hro hden => by
  simp only [inlD] at h
  split at h
  ·split at h
   ·rename_i fn hfn
    subst hc
    exact fnI_calls (inlD_ok cf d) hfn _ args [] ro [] ρ t h hg (Nat.le_refl _) (fun r hr => by cases hr) (fun r hr => by cases hr) List.Pairwise.nil (fun b hb => by cases hb) (fun b hb => by cases hb) List.Pairwise.nil hro (fun b hb => hro.lt hb) hden
   ·cases h
  ·cases h
theorem fn_calls {f : FuncId} {fn : Func} (hf : P.funcs[f]? = some fn) (cf : Cfg) (args : List Sy) (ρ : Env) (t : Tree) (hx : xfn P cf fn args [] [] ρ.cnt = some t) (hg : ρ.good) {W : Wd} {R : Ending → World → Prop}
  (hden : t.den P W.w.heap.size R [] ρ W) : CallsE P f (Sy.dens ρ args).toArray W R :=
 fnI_calls (inlD_ok cf cf.depth) hf cf args [] [] [] ρ t hx hg (Nat.le_refl _) (fun r hr => by cases hr) (fun r hr => by cases hr) List.Pairwise.nil (fun b hb => by cases hb) (fun b hb => by cases hb) List.Pairwise.nil (fun b hb => by cases hb) (fun b hb => by cases hb) hden
theorem fn_calls_mu {f : FuncId} {fn : Func} (hf : P.funcs[f]? = some fn) (cf : Cfg) (args : List Sy) (hp : List Blk) (ρ : Env) (t : Tree) (hx : xfn P cf fn args hp [] ρ.cnt = some t) (hg : ρ.good) {W : Wd} {R : Ending → World → Prop}
  (hhp : BlksAt ρ hp W.w) (hown : ∀ b ∈ hp, ¬ W.I (gd ρ.M b.m 0)) (hnd : hp.Pairwise fun a b => gd ρ.M a.m 0 ≠ gd ρ.M b.m 0) (hden : t.den P W.w.heap.size R [] ρ W) : CallsE P f (Sy.dens ρ args).toArray W R :=
 fnI_calls (inlD_ok cf cf.depth) hf cf args hp [] [] ρ t hx hg (Nat.le_refl _) (fun r hr => by cases hr) (fun r hr => by cases hr) List.Pairwise.nil hhp hown hnd (fun b hb => by cases hb) (fun b hb => by cases hb) hden
theorem fn_calls_ro {f : FuncId} {fn : Func} (hf : P.funcs[f]? = some fn) (cf : Cfg) (args : List Sy) (ro : List Blk) (ρ : Env) (t : Tree) (hx : xfn P cf fn args [] ro ρ.cnt = some t) (hg : ρ.good) {W : Wd} {R : Ending → World → Prop}
  (hro : BlksAt ρ ro W.w) (hroI : ∀ b ∈ ro, W.I (gd ρ.M b.m 0)) (hden : t.den P W.w.heap.size R [] ρ W) : CallsE P f (Sy.dens ρ args).toArray W R :=
 fnI_calls (inlD_ok cf cf.depth) hf cf args [] ro [] ρ t hx hg (Nat.le_refl _) (fun r hr => by cases hr) (fun r hr => by cases hr) List.Pairwise.nil (fun b hb => by cases hb) (fun b hb => by cases hb) List.Pairwise.nil hro hroI hden
def Wd.of (w : World) : Wd := ⟨w, fun _ => False, fun _ h => h.elim⟩
theorem CallsQ.out {f : FuncId} {args : Array Value} {W : Wd} {v : Value} (h : CallsQ P f args W v) : Calls P f args W.w fun e w' => e = .returned v ∧ Below W.w.heap.size W.w w' :=
 Calls.mono h fun e w' ⟨hk, u, he, hu⟩ => ⟨by rw [he, hu], hk.below⟩
theorem CallsQ.of_below {f : FuncId} {args : Array Value} {W : Wd} {v : Value} (h : Calls P f args W.w fun e w' => e = .returned v ∧ Below W.w.heap.size W.w w') : CallsQ P f args W v :=
 Calls.mono h fun e w' ⟨he, hb⟩ => ⟨Keeps.of_below hb, v, he, rfl⟩
end Go.SF
end
section
namespace Go.SF
open Go Go.RowKit
section
variable {P : Program} {n0 : Nat} {R : Ending → World → Prop} {L : Lv} {W : Wd} {ρ : Env}
theorem den_ret {s hp ro rw} (h : BlksAt ρ hp W.w → BlksAt ρ ro W.w → RowsAt n0 ρ rw W.w → R (.returned (s.den ρ)) W.w) : (Tree.ret s hp ro rw).den P n0 R L ρ W := fun a b c _ => h a b c
theorem den_pan {s} (h : R (.panicked [{ v := s.den ρ, recovered := false }]) W.w) : (Tree.pan s).den P n0 R L ρ W := h
theorem den_br {c a b} (h : c.b ρ = true → a.den P n0 R L ρ W) (k : c.b ρ = false → b.den P n0 R L ρ W) : (Tree.br c a b).den P n0 R L ρ W := ⟨h, k⟩
theorem den_br_t {c a b} (e : c.b ρ = true) (h : a.den P n0 R L ρ W) : (Tree.br c a b).den P n0 R L ρ W := ⟨fun _ => h, fun e' => absurd (e.symm.trans e') (by decide)⟩
theorem den_br_f {c a b} (e : c.b ρ = false) (h : b.den P n0 R L ρ W) : (Tree.br c a b).den P n0 R L ρ W := ⟨fun e' => absurd (e.symm.trans e') (by decide), fun _ => h⟩
theorem den_chk {c t} (e : c.b ρ = true) (h : t.den P n0 R L ρ W) : (Tree.chk c t).den P n0 R L ρ W := ⟨e, h⟩
theorem den_new {t} (h : ∀ m W', n0 ≤ m → Ext W W' → t.den P n0 R L (ρ.push { M := [m] }) W') : (Tree.new t).den P n0 R L ρ W := h
theorem den_wr {t} (h : ∀ W', Ext W W' → t.den P n0 R L ρ W') : (Tree.wr t).den P n0 R L ρ W := h
theorem den_grow {t} (h : ∀ W', Ext W W' → t.den P n0 R L ρ W') : (Tree.grow t).den P n0 R L ρ W := h
theorem den_app {n t} (h : ∀ a c W', (0 < n.i ρ → a.isSome = true) → Ext W W' → t.den P n0 R L (ρ.push { A := [a], N := [c] }) W') : (Tree.app n t).den P n0 R L ρ W := h
theorem den_sub {a lo hi c sz t} (h : t.den P n0 R L (ρ.push { A := [subA (gd ρ.A a none) (lo.i ρ).toNat (c.i ρ).toNat sz], N := [(hi.i ρ).toNat - (lo.i ρ).toNat, (c.i ρ).toNat - (lo.i ρ).toNat] }) W) : (Tree.sub a lo hi c sz t).den P n0 R L ρ W := h
theorem den_adr {a t} (h : t.den P n0 R L (ρ.push { A := [some a] }) W) : (Tree.adr a t).den P n0 R L ρ W := h
theorem den_both {a b} (h : a.den P n0 R L ρ W) (k : b.den P n0 R L ρ W) : (Tree.both a b).den P n0 R L ρ W := ⟨h, k⟩
theorem den_cells {a n c sz rw t} (l : List Value) (h1 : l.length = (n.i ρ).toNat * sz) (h2 : ∀ u ∈ l, u.oneCell' = true) (h3 : gd ρ.A a none = none → n.i ρ ≤ 0 ∧ c.i ρ ≤ 0)
  (h4 : ∀ ad, gd ρ.A a none = some ad → ∀ W', Ext W W' → ∀ (j : Nat) u, l[j]? = some u → W'.w.cell? (ad.add j) = some u) (h : t.den P n0 R L (ρ.push { L := [l] }) W) : (Tree.cells a n c sz rw t).den P n0 R L ρ W := ⟨l, h1, h2, h3, fun ad e W' x _ => h4 ad e W' x, h⟩
theorem den_call {f args hp rw mu res c t} (h : BlksAt ρ hp W.w → RowsAt n0 ρ rw W.w → CallsE P f (Sy.dens ρ args).toArray (W.but (blkNos ρ mu)) fun e w' => match e with
   | .returned v => ExE c fun d => v = res.den (ρ.push d) ∧ BlksAt (ρ.push d) mu w' ∧ ∀ W', W'.w = w' → Ext W W' → NewIn W.w.heap.size W' → t.den P n0 R L (ρ.push d) W'
   | .panicked ch => R (.panicked ch) w'
   | .outgrown => False) : (Tree.call f args hp rw mu res c t).den P n0 R L ρ W := fun hb _ hr => h hb hr
theorem den_call_d {f args hp rw mu res c t} (h : BlksAt ρ hp W.w → MuApart ρ W hp mu → RowsAt n0 ρ rw W.w → CallsE P f (Sy.dens ρ args).toArray (W.but (blkNos ρ mu)) fun e w' => match e with
   | .returned v => ExE c fun d => v = res.den (ρ.push d) ∧ BlksAt (ρ.push d) mu w' ∧ ∀ W', W'.w = w' → Ext W W' → NewIn W.w.heap.size W' → t.den P n0 R L (ρ.push d) W'
   | .panicked ch => R (.panicked ch) w'
   | .outgrown => False) : (Tree.call f args hp rw mu res c t).den P n0 R L ρ W := h
theorem den_call_i {f args hp rw res c t} {R' : Value → World → Prop} (h : BlksAt ρ hp W.w → RowsAt n0 ρ rw W.w → CallsI P f (Sy.dens ρ args).toArray W.all R')
  (k : ∀ v w', Keeps W.all w' → R' v w' → ExE c fun d => v = res.den (ρ.push d) ∧ ∀ W', W'.w = w' → Ext W W' → NewIn W.w.heap.size W' → t.den P n0 R L (ρ.push d) W') : (Tree.call f args hp rw [] res c t).den P n0 R L ρ W :=
 fun hb _ hr => CallsE.mono ((h hb hr).less (V := W.but []) rfl fun b hb => hb.1) fun e w' hk ⟨v, he, hv⟩ => by
  subst he
  have hk' : Keeps W.all w' := hk.less rfl fun b hb => ⟨hb, by simp [blkNos]⟩
  obtain ⟨d, hd, h1, h2⟩ := (k v w' hk' hv).out
  have hnil : BlksAt (ρ.push d) [] w' := fun b hb => by cases hb
  exact ExE.mk hd ⟨h1, hnil, h2⟩
theorem den_call_q {f args hp rw res c t v} (h : BlksAt ρ hp W.w → RowsAt n0 ρ rw W.w → CallsQ P f (Sy.dens ρ args).toArray W v) (k : ExE c fun d => v = res.den (ρ.push d) ∧ ∀ W', Ext W W' → t.den P n0 R L (ρ.push d) W') : (Tree.call f args hp rw [] res c t).den P n0 R L ρ W :=
 den_call_i h fun u w' _ hu => by
  subst hu
  obtain ⟨d, hd, h1, h2⟩ := k.out
  exact ExE.mk hd ⟨h1, fun W' _ x _ => h2 W' x⟩
theorem den_callr_i {f args hp rw res nr c t} {R' : Value → World → Prop} (h : BlksAt ρ hp W.w → RowsAt n0 ρ rw W.w → CallsI P f (Sy.dens ρ args).toArray W.all R')
  (k : ∀ v w', Keeps W.all w' → R' v w' → ExE c fun d => v = res.den (ρ.push d) ∧ RowsNew n0 W.w.heap.size [] (ρ.push d) nr w' ∧ ∀ W', W'.w = w' → Ext W W' → NewBut W.w.heap.size (rowNos (ρ.push d) nr) W' → t.den P n0 R L (ρ.push d) W') : (Tree.callr f args hp rw [] res nr c t).den P n0 R L ρ W :=
 fun hb hr => CallsE.mono ((h hb hr).less (V := W.but []) rfl fun b hb => hb.1) fun e w' hk ⟨v, he, hv⟩ => by
  subst he
  exact k v w' (hk.less rfl fun b hb => ⟨hb, fun hm => by cases hm⟩) hv
theorem den_frz {bs t} (h : ∀ W', W'.w = W.w → Ext W W' → (∀ b ∈ bs, n0 ≤ gd ρ.M b.m 0 → W'.I (gd ρ.M b.m 0)) → BlksAt ρ bs W'.w → t.den P n0 R L ρ W') : (Tree.frz bs t).den P n0 R L ρ W := h
theorem den_rset {xs i o z vs t} (h : ∀ W', Ext W W' → t.den P n0 R L (ρ.push { L := [setL (conts ρ xs) ((i.i ρ).toNat * z + o) (Sy.dens ρ vs)] }) W') : (Tree.rset xs i o z vs t).den P n0 R L ρ W := h
theorem rowsNew_one {n ρ : _} {ks : List Nat} {r : RowS} {w : World} (h0 : n0 ≤ n) (h : w.ownsRow n r.e r.sz (r.v.den ρ) (r.n.i ρ).toNat (conts ρ r.xs)) (h1 : ∀ u ∈ conts ρ r.xs, u.oneCell' = true) : RowsNew n0 n ks ρ [r] w :=
 ⟨fun q hq => by obtain rfl := List.mem_singleton.1 hq; exact ⟨⟨h.1, h.2.imp id fun ⟨g, cap, cur, a, b, c⟩ => ⟨g, cap, cur, a, Nat.le_trans h0 b, c⟩⟩, h1⟩,
  fun q hq k hk => by obtain rfl := List.mem_singleton.1 hq; exact .inl (World.ownsRow.lt h k hk).1, List.pairwise_singleton _ _⟩
theorem den_callq {f args hp rw res c t} (h : ExE c fun d => (∀ W', Ext W W' → BlksAt ρ hp W'.w → RowsAt n0 ρ rw W'.w → CallsQ P f (Sy.dens ρ args).toArray W' (res.den (ρ.push d))) ∧ t.den P n0 R L (ρ.push d) W) : (Tree.callq f args hp rw res c t).den P n0 R L ρ W := h
theorem den_look {ty p res c t} (h : ExE c fun d => (∀ W', Ext W W' → (Instr.loadAt ty (p.den ρ)).run P W'.w = .ok (res.den (ρ.push d)) W'.w) ∧ t.den P n0 R L (ρ.push d) W) : (Tree.look ty p res c t).den P n0 R L ρ W := h
theorem den_rlook {ty p res r c t} (h : ExE c fun d => (∀ w, r.at n0 ρ w → (Instr.loadAt ty (p.den ρ)).run P w = .ok (res.den (ρ.push d)) w) ∧ t.den P n0 R L (ρ.push d) W) : (Tree.rlook ty p res r c t).den P n0 R L ρ W := h
theorem den_loop {init rin heads rhd c t} (Inv : Nat → List Value → List (List Value) → Wd → Prop) (n : Nat) (h : Inv n (Sy.dens ρ init) (rowConts ρ rin) W)
  (k : ∀ n vs ls W', Ext W W' → Inv n vs ls W' → ExE c fun d => Sy.dens (ρ.push d) heads = vs ∧ rowConts (ρ.push d) rhd = ls ∧
    (RowsAt n0 (ρ.push d) rhd W'.w → t.den P n0 R (L ++ [fun vs' ls' W'' => ∃ n', n' < n ∧ Inv n' vs' ls' W'']) (ρ.push d) W')) : (Tree.loop init rin heads rhd c t).den P n0 R L ρ W := ⟨Inv, n, h, k⟩
theorem den_byt {e t} (h : ∀ m c W', Ext W W' → W'.I m → m < W'.w.heap.size → (∀ j, j < (e.t ρ).size → W'.w.cell? ⟨m, j, none⟩ = some (.int .u8 ((e.t ρ).data.toList.getD j 0).toNat)) → (e.t ρ).size ≤ c → t.den P n0 R L (ρ.push { A := [some ⟨m, 0, none⟩], N := [c] }) W') : (Tree.byt e t).den P n0 R L ρ W := h
theorem den_join {a heads rhd c t} (J : List Value → List (List Value) → Wd → Prop) (h : a.den P n0 R (L ++ [J]) ρ W)
  (k : ∀ vs ls W', Ext W W' → J vs ls W' → ExE c fun d => Sy.dens (ρ.push d) heads = vs ∧ rowConts (ρ.push d) rhd = ls ∧ (RowsAt n0 (ρ.push d) rhd W'.w → t.den P n0 R L (ρ.push d) W')) : (Tree.join a heads rhd c t).den P n0 R L ρ W := ⟨J, h, k⟩
theorem den_again {n vals rows} (h : L.at n (Sy.dens ρ vals) (rowConts ρ rows) W) : (Tree.again n vals rows).den P n0 R L ρ W := h
end
end Go.SF
end
end
section
namespace Go.SF
open Go Go.RowKit
@[reducible] def kc : Cfg := { ex := false, inl := [], loops := [], unroll := [], mu := [], mus := [], stays := [], rowT := [], rwx := false, nilR := [], musR := [], joins := [], rws := [] }
@[reducible] def kk0 : Cnt := ⟨1, 0, 0, 0, 0, 0, 0, 0⟩
@[reducible] def kk1 : Cnt := ⟨0, 0, 1, 0, 0, 0, 0, 0⟩
@[reducible] def kk2 : Cnt := ⟨0, 2, 0, 0, 0, 1, 0, 0⟩
@[reducible] def kk3 : Cnt := ⟨4, 4, 2, 4, 0, 2, 0, 0⟩
@[reducible] def kk4 : Cnt := ⟨4, 4, 1, 4, 0, 2, 0, 0⟩
@[reducible] def kk5 : Cnt := ⟨0, 0, 0, 1, 0, 0, 0, 0⟩
@[reducible] def kk6 : Cnt := ⟨2, 0, 0, 0, 0, 0, 0, 0⟩
@[reducible] def kk7 : Cnt := ⟨1, 2, 0, 0, 0, 1, 0, 1⟩
@[reducible] def kk8 : Cnt := ⟨3, 4, 0, 2, 0, 2, 0, 0⟩
@[reducible] def kk9 : Cnt := ⟨2, 0, 1, 1, 0, 0, 0, 0⟩
@[reducible] def kk10 : Cnt := ⟨2, 0, 0, 2, 0, 0, 0, 0⟩
@[reducible] def kk11 : Cnt := ⟨0, 6, 0, 1, 0, 3, 0, 0⟩
@[reducible] def kk12 : Cnt := ⟨0, 12, 0, 1, 0, 6, 1, 0⟩
@[reducible] def kk13 : Cnt := ⟨0, 2, 0, 0, 0, 1, 0, 1⟩
@[reducible] def kk14 : Cnt := ⟨1, 2, 0, 0, 0, 1, 1, 0⟩
@[reducible] def kk15 : Cnt := ⟨3, 2, 0, 2, 0, 1, 0, 0⟩
@[reducible] def kk16 : Cnt := ⟨4, 4, 1, 4, 0, 2, 1, 0⟩
@[reducible] def kk17 : Cnt := ⟨0, 2, 0, 1, 0, 1, 1, 0⟩
@[reducible] def kk18 : Cnt := ⟨0, 2, 1, 0, 0, 1, 0, 0⟩
@[reducible] def kk19 : Cnt := ⟨1, 4, 0, 0, 0, 2, 0, 2⟩
end Go.SF
/- What is left to show of functions, as the walk that the kernel computes finds it (written by wip/vc2.py). -/
namespace Go.Proofs.YtkpjmlnhhggenaaGreatDoor
open Go Go.RowKit Go.SF
set_option maxRecDepth 100000
@[reducible] def dd0_0_0 : RowS := ⟨(.slc 1 (.bin .add (.nv 0) (.il 1)) (.nv 2)), (.bin .add (.nv 0) (.il 1)), 135, 2, [(.l 0), (.s (.int .u8 (.iv 0))), (.s (.str (.tv 3)))]⟩
@[reducible] def t_runD_1 : Tree := (.grow (.br (.bin .band (.bin .le (.il 48) (.bin .byte (.tv 0) (.iv 0))) (.bin .le (.bin .byte (.tv 0) (.iv 0)) (.il 57))) (.again 0 [(.int .i64 (.un (.wrap .i64) (.bin .add (.iv 0) (.il 1))))] []) (.ret (.int .i64 (.iv 0)) [] [] [])))
@[reducible] def t_runD_2 : Tree := (.chk (.bin .bor (.un .not (.bin .lt (.iv 0) (.un .len (.tv 0)))) (.bin .le (.il 0) (.iv 0))) (.chk (.bin .bor (.un .not (.bin .lt (.iv 0) (.un .len (.tv 0)))) (.bin .lt (.iv 0) (.un .len (.tv 0)))) (.br (.bin .lt (.iv 0) (.un .len (.tv 0))) t_runD_1 (.ret (.int .i64 (.iv 0)) [] [] []))))
@[reducible] def t_runD : Tree :=
(.loop [(.int .i64 (.il 0))] [] [(.int .i64 (.iv 0))] [] kk0 t_runD_2)
theorem x_runD : xfn Tryz.prog { kc with inl := [141, 142, 143, 148], loops := [⟨2, [.tm 5]⟩] } Tryz.f144 [(.str (.tv 0)), (.fn 141 [])] [] [] kk5 = some t_runD := by kernel_rfl
theorem vc_runD (t0 : ByteArray) (W : Wd) (R : Ending → World → Prop) (h : t_runD.den Tryz.prog W.w.heap.size R [] { T := [t0] } W) : CallsE Tryz.prog 144 #[.string t0, .func (.func 141) #[] #[]] W R :=
 fn_calls Tryz.func144 _ _ { T := [t0] } _ x_runD (fun v hv => by cases hv) h
@[reducible] def t_runB_1 : Tree := (.grow (.br (.bin .bor (.bin .band (.bin .le (.il 97) (.bin .byte (.tv 0) (.iv 0))) (.bin .le (.bin .byte (.tv 0) (.iv 0)) (.il 122))) (.bin .ieq (.bin .byte (.tv 0) (.iv 0)) (.il 95))) (.again 0 [(.int .i64 (.un (.wrap .i64) (.bin .add (.iv 0) (.il 1))))] []) (.ret (.int .i64 (.iv 0)) [] [] [])))
@[reducible] def t_runB_2 : Tree := (.br (.un .not (.bin .band (.bin .le (.il 48) (.bin .byte (.tv 0) (.iv 0))) (.bin .le (.bin .byte (.tv 0) (.iv 0)) (.il 57)))) t_runB_1 (.grow (.again 0 [(.int .i64 (.un (.wrap .i64) (.bin .add (.iv 0) (.il 1))))] [])))
@[reducible] def t_runB_3 : Tree := (.chk (.bin .bor (.un .not (.bin .lt (.iv 0) (.un .len (.tv 0)))) (.bin .le (.il 0) (.iv 0))) (.chk (.bin .bor (.un .not (.bin .lt (.iv 0) (.un .len (.tv 0)))) (.bin .lt (.iv 0) (.un .len (.tv 0)))) (.br (.bin .lt (.iv 0) (.un .len (.tv 0))) t_runB_2 (.ret (.int .i64 (.iv 0)) [] [] []))))
@[reducible] def t_runB : Tree :=
(.loop [(.int .i64 (.il 0))] [] [(.int .i64 (.iv 0))] [] kk0 t_runB_3)
theorem x_runB : xfn Tryz.prog { kc with inl := [141, 142, 143, 148], loops := [⟨2, [.tm 5]⟩] } Tryz.f144 [(.str (.tv 0)), (.fn 143 [])] [] [] kk5 = some t_runB := by kernel_rfl
theorem vc_runB (t0 : ByteArray) (W : Wd) (R : Ending → World → Prop) (h : t_runB.den Tryz.prog W.w.heap.size R [] { T := [t0] } W) : CallsE Tryz.prog 144 #[.string t0, .func (.func 143) #[] #[]] W R :=
 fn_calls Tryz.func144 _ _ { T := [t0] } _ x_runB (fun v hv => by cases hv) h
@[reducible] def t_runQ_1 : Tree := (.grow (.br (.bin .band (.bin .band (.bin .le (.il 32) (.bin .byte (.tv 0) (.iv 0))) (.bin .le (.bin .byte (.tv 0) (.iv 0)) (.il 126))) (.un .not (.bin .ieq (.bin .byte (.tv 0) (.iv 0)) (.il 39)))) (.again 0 [(.int .i64 (.un (.wrap .i64) (.bin .add (.iv 0) (.il 1))))] []) (.ret (.int .i64 (.iv 0)) [] [] [])))
@[reducible] def t_runQ_2 : Tree := (.chk (.bin .bor (.un .not (.bin .lt (.iv 0) (.un .len (.tv 0)))) (.bin .le (.il 0) (.iv 0))) (.chk (.bin .bor (.un .not (.bin .lt (.iv 0) (.un .len (.tv 0)))) (.bin .lt (.iv 0) (.un .len (.tv 0)))) (.br (.bin .lt (.iv 0) (.un .len (.tv 0))) t_runQ_1 (.ret (.int .i64 (.iv 0)) [] [] []))))
@[reducible] def t_runQ : Tree :=
(.loop [(.int .i64 (.il 0))] [] [(.int .i64 (.iv 0))] [] kk0 t_runQ_2)
theorem x_runQ : xfn Tryz.prog { kc with inl := [141, 142, 143, 148], loops := [⟨2, [.tm 5]⟩] } Tryz.f144 [(.str (.tv 0)), (.fn 148 [])] [] [] kk5 = some t_runQ := by kernel_rfl
theorem vc_runQ (t0 : ByteArray) (W : Wd) (R : Ending → World → Prop) (h : t_runQ.den Tryz.prog W.w.heap.size R [] { T := [t0] } W) : CallsE Tryz.prog 144 #[.string t0, .func (.func 148) #[] #[]] W R :=
 fn_calls Tryz.func144 _ _ { T := [t0] } _ x_runQ (fun v hv => by cases hv) h
@[reducible] def t_may_1 : Tree := (.chk (.bin .bor (.un .not (.bin .band (.bin .ieq (.iv 2) (.un .len (.tv 0))) (.un .not (.bin .ieq (.un .len (.tv 0)) (.il 1))))) (.bin .le (.il 0) (.il 0))) (.chk (.bin .bor (.un .not (.bin .band (.bin .ieq (.iv 2) (.un .len (.tv 0))) (.un .not (.bin .ieq (.un .len (.tv 0)) (.il 1))))) (.bin .lt (.il 0) (.un .len (.tv 0)))) (.ret (.bool (.bin .band (.bin .ieq (.iv 2) (.un .len (.tv 0))) (.bin .bor (.bin .ieq (.un .len (.tv 0)) (.il 1)) (.un .not (.bin .ieq (.bin .byte (.tv 0) (.il 0)) (.il 48)))))) [] [] [])))
@[reducible] def t_may_2 : Tree := (.call 144 [(.str (.tv 0)), (.fn 141 [])] [] [] [] (.int .i64 (.iv 2)) kk0 t_may_1)
@[reducible] def t_may_3 : Tree := (.call 147 [(.str (.tv 0)), (.int .i64 (.il 10)), (.int .i64 (.il 64))] [] [] [] (.tup [(.int .i64 (.iv 1)), (.var 0)]) ⟨1, 0, 0, 0, 1, 0, 0, 0⟩ (.chk (.vk 0) (.br (.vn 0) t_may_2 (.ret (.bool (.bl false)) [] [] []))))
@[reducible] def t_may_4 : Tree := (.ret (.bool (.bin .band (.bin .ieq (.iv 1) (.un .len (.tv 0))) (.bin .le (.un .len (.tv 0)) (.il 12)))) [] [] [])
@[reducible] def t_may_5 : Tree := (.call 144 [(.str (.tv 0)), (.fn 143 [])] [] [] [] (.int .i64 (.iv 1)) kk0 t_may_4)
@[reducible] def t_may_6 : Tree := (.grow (.br (.bin .band (.bin .le (.il 97) (.bin .byte (.tv 0) (.il 0))) (.bin .le (.bin .byte (.tv 0) (.il 0)) (.il 122))) t_may_5 (.ret (.bool (.bl false)) [] [] [])))
@[reducible] def t_may_7 : Tree := (.chk (.bin .bor (.bin .teq (.tv 0) (.tl [])) (.bin .le (.il 0) (.il 0))) (.chk (.bin .bor (.bin .teq (.tv 0) (.tl [])) (.bin .lt (.il 0) (.un .len (.tv 0)))) (.br (.un .not (.bin .teq (.tv 0) (.tl []))) t_may_6 (.ret (.bool (.bl false)) [] [] []))))
@[reducible] def t_may_8 : Tree := (.ret (.bool (.bin .band (.bin .ieq (.iv 1) (.un .len (.tv 0))) (.bin .le (.un .len (.tv 0)) (.il 40)))) [] [] [])
@[reducible] def t_may_9 : Tree := (.call 144 [(.str (.tv 0)), (.fn 148 [])] [] [] [] (.int .i64 (.iv 1)) kk0 t_may_8)
@[reducible] def t_may_10 : Tree := (.adr ⟨3, 0, none⟩ (.call 59 [(.slc 0 (.il 14) (.il 14)), (.str (.tv 0))] [] [] [] (.bool (.bv 0)) kk1 (.ret (.bool (.bv 0)) [] [] [])))
@[reducible] def t_may_11 : Tree := (.br (.bin .ieq (.iv 0) (.il 3)) t_may_9 (.br (.bin .ieq (.iv 0) (.il 4)) t_may_10 (.ret (.bool (.bl false)) [] [] [])))
@[reducible] def t_may : Tree :=
(.new (.br (.bin .ieq (.iv 0) (.il 1)) t_may_3 (.br (.bin .ieq (.iv 0) (.il 2)) t_may_7 t_may_11)))
theorem x_may : xfn Tryz.prog { kc with inl := [141, 142, 143, 148] } Tryz.f107 [(.agg [(.int .u8 (.iv 0)), (.str (.tv 0))])] [] [] ⟨1, 0, 0, 1, 0, 0, 0, 0⟩ = some t_may := by kernel_rfl
theorem vc_may (i0 : Int) (t0 : ByteArray) (W : Wd) (R : Ending → World → Prop) (h : t_may.den Tryz.prog W.w.heap.size R [] { I := [i0], T := [t0] } W) : CallsE Tryz.prog 107 #[.agg #[.int .u8 i0, .string t0]] W R :=
 fn_calls Tryz.func107 _ _ { I := [i0], T := [t0] } _ x_may (fun v hv => by cases hv) h
@[reducible] def t_first_1 : Tree := (.chk (.bin .le (.il 0) (.iv 0)) (.chk (.bin .le (.iv 0) (.un .len (.tv 0))) (.grow (.wr (.grow (.ret (.tup [(.agg [(.int .u8 (.il 1)), (.str (.cut (.tv 0) (.il 0) (.iv 0)))]), (.int .i64 (.iv 0))]) [] [] []))))))
@[reducible] def t_first_2 : Tree := (.call 144 [(.str (.tv 0)), (.fn 141 [])] [] [] [] (.int .i64 (.iv 0)) kk0 t_first_1)
@[reducible] def t_first_3 : Tree := (.chk (.bin .le (.il 0) (.iv 0)) (.chk (.bin .le (.iv 0) (.un .len (.tv 0))) (.grow (.wr (.grow (.ret (.tup [(.agg [(.int .u8 (.il 2)), (.str (.cut (.tv 0) (.il 0) (.iv 0)))]), (.int .i64 (.iv 0))]) [] [] []))))))
@[reducible] def t_first_4 : Tree := (.call 144 [(.str (.tv 0)), (.fn 143 [])] [] [] [] (.int .i64 (.iv 0)) kk0 t_first_3)
@[reducible] def t_first_5 : Tree := (.wr (.ret (.tup [(.agg [(.int .u8 (.il 0)), (.str (.tl []))]), (.int .i64 (.il 0))]) [] [] []))
@[reducible] def t_first_6 : Tree := (.wr (.ret (.tup [(.agg [(.int .u8 (.il 3)), (.str (.tv 1))]), (.int .i64 (.un (.wrap .i64) (.bin .add (.un .len (.tv 1)) (.il 2))))]) [] [] []))
@[reducible] def t_first_7 : Tree := (.chk (.bin .le (.il 0) (.il 1)) (.chk (.bin .le (.il 1) (.un .len (.tv 0))) (.chk (.bin .le (.un .len (.tv 0)) (.un .len (.tv 0))) (.call 145 [(.str (.cut (.tv 0) (.il 1) (.un .len (.tv 0)))), (.str (.tl [39]))] [] [] [] (.tup [(.str (.tv 1)), (.str (.tv 2)), (.bool (.bv 0))]) ⟨0, 0, 1, 2, 0, 0, 0, 0⟩ (.br (.un .not (.bv 0)) t_first_5 t_first_6)))))
@[reducible] def t_first_8 : Tree := (.wr (.ret (.tup [(.agg [(.int .u8 (.il 4)), (.str (.tv 1))]), (.int .i64 (.un .len (.tv 1)))]) [] [] []))
@[reducible] def t_first_9 : Tree := (.wr (.ret (.tup [(.agg [(.int .u8 (.il 4)), (.str (.tv 2))]), (.int .i64 (.un .len (.tv 2)))]) [] [] []))
@[reducible] def t_first_10 : Tree := (.wr (.ret (.tup [(.agg [(.int .u8 (.il 4)), (.str (.tv 3))]), (.int .i64 (.un .len (.tv 3)))]) [] [] []))
@[reducible] def t_first_11 : Tree := (.wr (.ret (.tup [(.agg [(.int .u8 (.il 4)), (.str (.tv 4))]), (.int .i64 (.un .len (.tv 4)))]) [] [] []))
@[reducible] def t_first_12 : Tree := (.wr (.ret (.tup [(.agg [(.int .u8 (.il 4)), (.str (.tv 5))]), (.int .i64 (.un .len (.tv 5)))]) [] [] []))
@[reducible] def t_first_13 : Tree := (.wr (.ret (.tup [(.agg [(.int .u8 (.il 4)), (.str (.tv 6))]), (.int .i64 (.un .len (.tv 6)))]) [] [] []))
@[reducible] def t_first_14 : Tree := (.wr (.ret (.tup [(.agg [(.int .u8 (.il 4)), (.str (.tv 7))]), (.int .i64 (.un .len (.tv 7)))]) [] [] []))
@[reducible] def t_first_15 : Tree := (.wr (.ret (.tup [(.agg [(.int .u8 (.il 4)), (.str (.tv 8))]), (.int .i64 (.un .len (.tv 8)))]) [] [] []))
@[reducible] def t_first_16 : Tree := (.wr (.ret (.tup [(.agg [(.int .u8 (.il 4)), (.str (.tv 9))]), (.int .i64 (.un .len (.tv 9)))]) [] [] []))
@[reducible] def t_first_17 : Tree := (.wr (.ret (.tup [(.agg [(.int .u8 (.il 4)), (.str (.tv 10))]), (.int .i64 (.un .len (.tv 10)))]) [] [] []))
@[reducible] def t_first_18 : Tree := (.wr (.ret (.tup [(.agg [(.int .u8 (.il 4)), (.str (.tv 11))]), (.int .i64 (.un .len (.tv 11)))]) [] [] []))
@[reducible] def t_first_19 : Tree := (.wr (.ret (.tup [(.agg [(.int .u8 (.il 4)), (.str (.tv 12))]), (.int .i64 (.un .len (.tv 12)))]) [] [] []))
@[reducible] def t_first_20 : Tree := (.wr (.ret (.tup [(.agg [(.int .u8 (.il 4)), (.str (.tv 13))]), (.int .i64 (.un .len (.tv 13)))]) [] [] []))
@[reducible] def t_first_21 : Tree := (.wr (.ret (.tup [(.agg [(.int .u8 (.il 4)), (.str (.tv 14))]), (.int .i64 (.un .len (.tv 14)))]) [] [] []))
@[reducible] def t_first_22 : Tree := (.call 146 [(.str (.tv 0)), (.str (.tv 14))] [] [] [] (.bool (.bv 13)) kk1 (.br (.bv 13) t_first_21 t_first_5))
@[reducible] def t_first_23 : Tree := (.call 146 [(.str (.tv 0)), (.str (.tv 13))] [] [] [] (.bool (.bv 12)) kk1 (.br (.bv 12) t_first_20 t_first_22))
@[reducible] def t_first_24 : Tree := (.call 146 [(.str (.tv 0)), (.str (.tv 12))] [] [] [] (.bool (.bv 11)) kk1 (.br (.bv 11) t_first_19 t_first_23))
@[reducible] def t_first_25 : Tree := (.call 146 [(.str (.tv 0)), (.str (.tv 11))] [] [] [] (.bool (.bv 10)) kk1 (.br (.bv 10) t_first_18 t_first_24))
@[reducible] def t_first_26 : Tree := (.call 146 [(.str (.tv 0)), (.str (.tv 10))] [] [] [] (.bool (.bv 9)) kk1 (.br (.bv 9) t_first_17 t_first_25))
@[reducible] def t_first_27 : Tree := (.call 146 [(.str (.tv 0)), (.str (.tv 9))] [] [] [] (.bool (.bv 8)) kk1 (.br (.bv 8) t_first_16 t_first_26))
@[reducible] def t_first_28 : Tree := (.call 146 [(.str (.tv 0)), (.str (.tv 8))] [] [] [] (.bool (.bv 7)) kk1 (.br (.bv 7) t_first_15 t_first_27))
@[reducible] def t_first_29 : Tree := (.call 146 [(.str (.tv 0)), (.str (.tv 7))] [] [] [] (.bool (.bv 6)) kk1 (.br (.bv 6) t_first_14 t_first_28))
@[reducible] def t_first_30 : Tree := (.call 146 [(.str (.tv 0)), (.str (.tv 6))] [] [] [] (.bool (.bv 5)) kk1 (.br (.bv 5) t_first_13 t_first_29))
@[reducible] def t_first_31 : Tree := (.call 146 [(.str (.tv 0)), (.str (.tv 5))] [] [] [] (.bool (.bv 4)) kk1 (.br (.bv 4) t_first_12 t_first_30))
@[reducible] def t_first_32 : Tree := (.call 146 [(.str (.tv 0)), (.str (.tv 4))] [] [] [] (.bool (.bv 3)) kk1 (.br (.bv 3) t_first_11 t_first_31))
@[reducible] def t_first_33 : Tree := (.call 146 [(.str (.tv 0)), (.str (.tv 3))] [] [] [] (.bool (.bv 2)) kk1 (.br (.bv 2) t_first_10 t_first_32))
@[reducible] def t_first_34 : Tree := (.call 146 [(.str (.tv 0)), (.str (.tv 2))] [] [] [] (.bool (.bv 1)) kk1 (.br (.bv 1) t_first_9 t_first_33))
@[reducible] def t_first_35 : Tree := (.call 146 [(.str (.tv 0)), (.str (.tv 1))] [] [] [] (.bool (.bv 0)) kk1 (.br (.bv 0) t_first_8 t_first_34))
@[reducible] def t_first_36 : Tree := (.look 179 (.val (.pointer (some ⟨3, 0, none⟩))) (.agg [(.str (.tv 1)), (.str (.tv 2)), (.str (.tv 3)), (.str (.tv 4)), (.str (.tv 5)), (.str (.tv 6)), (.str (.tv 7)), (.str (.tv 8)), (.str (.tv 9)), (.str (.tv 10)), (.str (.tv 11)), (.str (.tv 12)), (.str (.tv 13)), (.str (.tv 14))]) ⟨0, 0, 0, 14, 0, 0, 0, 0⟩ t_first_35)
@[reducible] def t_first_37 : Tree := (.new (.wr (.grow (.br (.bin .band (.bin .le (.il 97) (.bin .byte (.tv 0) (.il 0))) (.bin .le (.bin .byte (.tv 0) (.il 0)) (.il 122))) t_first_4 (.br (.bin .ieq (.bin .byte (.tv 0) (.il 0)) (.il 39)) t_first_7 t_first_36)))))
@[reducible] def t_first : Tree :=
(.new (.new (.new (.wr (.chk (.bin .le (.il 0) (.il 0)) (.chk (.bin .lt (.il 0) (.un .len (.tv 0))) (.grow (.br (.bin .band (.bin .le (.il 48) (.bin .byte (.tv 0) (.il 0))) (.bin .le (.bin .byte (.tv 0) (.il 0)) (.il 57))) t_first_2 t_first_37))))))))
theorem x_first : xfn Tryz.prog { kc with inl := [141, 142, 143, 148], unroll := [(2, 3), (14, 15)], mus := [0] } Tryz.f106 [(.str (.tv 0))] [] [] kk5 = some t_first := by kernel_rfl
theorem vc_first (t0 : ByteArray) (W : Wd) (R : Ending → World → Prop) (h : t_first.den Tryz.prog W.w.heap.size R [] { T := [t0] } W) : CallsE Tryz.prog 106 #[.string t0] W R :=
 fn_calls Tryz.func106 _ _ { T := [t0] } _ x_first (fun v hv => by cases hv) h
@[reducible] def t_lex_1 : Tree := (.ret (.tup [.nils, (.int .i64 (.il 4))]) [] [] [⟨(.slc 0 (.nv 0) (.nv 1)), (.nv 0), 135, 2, [(.l 0)]⟩])
@[reducible] def t_lex_2 : Tree := (.frz [⟨1, 135, [(.int .u8 (.iv 0)), (.str (.tv 3))]⟩, ⟨0, 135, [(.int .u8 (.iv 0)), (.str (.tv 3))]⟩] (.again 0 [(.str (.tv 4)), (.slc 1 (.bin .add (.nv 0) (.il 1)) (.nv 2))] [dd0_0_0]))
@[reducible] def t_lex_3 : Tree := (.new (.chk (.bin .le (.bin .add (.nv 0) (.il 1)) (.il 5864062014805)) (.app (.bin .add (.nv 0) (.il 1)) (.chk (.bin .le (.il 0) (.iv 1)) (.chk (.bin .le (.iv 1) (.un .len (.tv 2))) (.chk (.bin .le (.un .len (.tv 2)) (.un .len (.tv 2))) (.call 105 [(.str (.cut (.tv 2) (.iv 1) (.un .len (.tv 2)))), (.str (.tl [32]))] [] [dd0_0_0] [] (.str (.tv 4)) kk5 t_lex_2)))))))
@[reducible] def t_lex_4 : Tree := (.call 107 [(.agg [(.int .u8 (.iv 0)), (.str (.tv 3))])] [] [⟨(.slc 0 (.nv 0) (.nv 1)), (.nv 0), 135, 2, [(.l 0)]⟩] [] (.bool (.bv 0)) kk1 (.br (.un .not (.bv 0)) t_lex_1 t_lex_3))
@[reducible] def t_lex_5 : Tree := (.call 106 [(.str (.tv 2))] [] [⟨(.slc 0 (.nv 0) (.nv 1)), (.nv 0), 135, 2, [(.l 0)]⟩] [] (.tup [(.agg [(.int .u8 (.iv 0)), (.str (.tv 3))]), (.int .i64 (.iv 1))]) ⟨2, 0, 0, 1, 0, 0, 0, 0⟩ (.new (.wr (.br (.un .not (.bin .ieq (.iv 1) (.il 0))) t_lex_4 t_lex_1))))
@[reducible] def t_lex_6 : Tree := (.ret (.tup [(.slc 0 (.nv 0) (.nv 1)), (.int .i64 (.il 0))]) [] [] [⟨(.slc 0 (.nv 0) (.nv 1)), (.nv 0), 135, 2, [(.l 0)]⟩])
@[reducible] def t_lex_7 : Tree := (.loop [(.str (.tv 1)), .nils] [⟨.nils, (.il 0), 135, 2, []⟩] [(.str (.tv 2)), (.slc 0 (.nv 0) (.nv 1))] [⟨(.slc 0 (.nv 0) (.nv 1)), (.nv 0), 135, 2, [(.l 0)]⟩] ⟨0, 2, 0, 1, 0, 1, 0, 1⟩ (.br (.un .not (.bin .teq (.tv 2) (.tl []))) t_lex_5 t_lex_6))
@[reducible] def t_lex_8 : Tree := (.call 105 [(.str (.tv 0)), (.str (.tl [32]))] [] [] [] (.str (.tv 1)) kk5 t_lex_7)
@[reducible] def t_lex : Tree :=
(.br (.bin .lt (.il 100) (.un .len (.tv 0))) (.ret (.tup [.nils, (.int .i64 (.il 40))]) [] [] []) t_lex_8)
theorem x_lex : xfn Tryz.prog { kc with inl := [141, 142, 143, 148], loops := [⟨5, [.tm 0, .row 4 83]⟩] } Tryz.f50 [(.str (.tv 0))] [] [] kk5 = some t_lex := by kernel_rfl
theorem vc_lex (t0 : ByteArray) (W : Wd) (R : Ending → World → Prop) (h : t_lex.den Tryz.prog W.w.heap.size R [] { T := [t0] } W) : CallsE Tryz.prog 50 #[.string t0] W R :=
 fn_calls Tryz.func50 _ _ { T := [t0] } _ x_lex (fun v hv => by cases hv) h
end Go.Proofs.YtkpjmlnhhggenaaGreatDoor
end
section
/-
 DERIVED: THE SHELF's CONTRACTS AT THIS DUMP, IN PLAIN WORDS (tools/lay-plain.mjs out of 'TryzShelf.lean', which tools/lay-shelf.mjs wrote): THE SAME DECLARATIONS UNDER THE SAME NAMES: 'import', 'namespace', 'open', 'def', 'theorem' AND NOTHING ELSE: no command of the shelf's: FOR A HAND-IN. Each laying: the table of numbers ('.._ren') and one theorem, a field a fact of the dump's own or the kernel's comparison; each contract: ONE APPLICATION.
-/
namespace Go.Proofs
open Go.Shelf
def Tryz.lays161_ren : Go.Shelf.Ren := ⟨fun | 161 => 105 | 231 => 137 | 227 => 138 | 233 => 139 | 235 => 140 | 228 => 164 | 197 => 165 | 151 => 166 | 260 => 181 | 152 => 182 | 137 => 189 | 119 => 190 | 224 => 191 | 225 => 192 | 217 => 193 | 266 => 200 | n => n, fun | 9 => 9 | 4 => 4 | 3 => 3 | 5 => 5 | 117 => 170 | 116 => 169 | 0 => 0 | 124 => 173 | 105 => 198 | 21 => 21 | 119 => 220 | 46 => 66 | 139 => 223 | 138 => 222 | n => n, fun | 3 => 5 | 4 => 6 | n => n⟩
theorem Tryz.lays161 : Go.Proofs.Lays.n161 Tryz.prog Tryz.lays161_ren := {
 mixed := by kernel_rfl
 f119 := Tryz.func190.trans (congrArg some (by kernel_rfl))
 f137 := Tryz.func189.trans (congrArg some (by kernel_rfl))
 f151 := Tryz.func166.trans (congrArg some (by kernel_rfl))
 f152 := Tryz.func182.trans (congrArg some (by kernel_rfl))
 f161 := Tryz.func105.trans (congrArg some (by kernel_rfl))
 f197 := Tryz.func165.trans (congrArg some (by kernel_rfl))
 f217 := Tryz.func193.trans (congrArg some (by kernel_rfl))
 f224 := Tryz.func191.trans (congrArg some (by kernel_rfl))
 f225 := Tryz.func192.trans (congrArg some (by kernel_rfl))
 f227 := Tryz.func138.trans (congrArg some (by kernel_rfl))
 f228 := Tryz.func164.trans (congrArg some (by kernel_rfl))
 f231 := Tryz.func137.trans (congrArg some (by kernel_rfl))
 f233 := Tryz.func139.trans (congrArg some (by kernel_rfl))
 f235 := Tryz.func140.trans (congrArg some (by kernel_rfl))
 f260 := Tryz.func181.trans (congrArg some (by kernel_rfl))
 f266 := Tryz.func200.trans (congrArg some (by kernel_rfl))
 t0 := Tryz.underlying0
 a0 := Tryz.isAgg0
 z0 := Tryz.sizeOf0
 v0 := Tryz.zeroValue0
 t3 := Tryz.underlying3
 a3 := Tryz.isAgg3
 z3 := Tryz.sizeOf3
 v3 := Tryz.zeroValue3
 t4 := Tryz.underlying4
 a4 := Tryz.isAgg4
 z4 := Tryz.sizeOf4
 v4 := Tryz.zeroValue4
 t5 := Tryz.underlying5
 a5 := Tryz.isAgg5
 z5 := Tryz.sizeOf5
 v5 := Tryz.zeroValue5
 t9 := Tryz.underlying9
 a9 := Tryz.isAgg9
 z9 := Tryz.sizeOf9
 v9 := Tryz.zeroValue9
 t21 := Tryz.underlying21
 a21 := Tryz.isAgg21
 z21 := Tryz.sizeOf21
 v21 := Tryz.zeroValue21
 t46 := Tryz.underlying66
 a46 := Tryz.isAgg66
 z46 := Tryz.sizeOf66
 v46 := Tryz.zeroValue66
 t105 := Tryz.underlying198
 a105 := Tryz.isAgg198
 z105 := Tryz.sizeOf198
 v105 := Tryz.zeroValue198
 t116 := Tryz.underlying169
 a116 := Tryz.isAgg169
 z116 := Tryz.sizeOf169
 t117 := Tryz.underlying170
 a117 := Tryz.isAgg170
 z117 := Tryz.sizeOf170
 v117 := Tryz.zeroValue170
 t119 := Tryz.underlying220
 a119 := Tryz.isAgg220
 z119 := Tryz.sizeOf220
 t124 := Tryz.underlying173
 a124 := Tryz.isAgg173
 z124 := Tryz.sizeOf173
 v124 := Tryz.zeroValue173
 t138 := Tryz.underlying222
 a138 := Tryz.isAgg222
 z138 := Tryz.sizeOf222
 v138 := Tryz.zeroValue222
 t139 := Tryz.underlying223
 a139 := Tryz.isAgg223
 z139 := Tryz.sizeOf223
 v139 := Tryz.zeroValue223
 g3 := by kernel_rfl
 g4 := by kernel_rfl }
open Go.RowKit in
theorem Tryz.strings_TrimLeft_one (s : ByteArray) (c : UInt8) (hc : c.toNat < 128) (w : World) :
  Calls Tryz.prog 105 #[.string s, .string ⟨#[c]⟩] w fun e w' => e = .returned (.string ⟨(Lib.trimLeftB s.data.toList c).toArray⟩) ∧ w' = w := Any.strings_TrimLeft_one Tryz.lays161 s c hc w
def Tryz.laysC174_ren : Go.Shelf.Ren := ⟨fun | 174 => 147 | 247 => 169 | 245 => 170 | 287 => 184 | 279 => 185 | 280 => 186 | 281 => 187 | 282 => 188 | 321 => 195 | 322 => 196 | 316 => 197 | 171 => 199 | 205 => 198 | 243 => 202 | 246 => 203 | 283 => 204 | 284 => 205 | 285 => 206 | 286 => 207 | 129 => 209 | 317 => 208 | 318 => 210 | 319 => 211 | 320 => 212 | 337 => 213 | 338 => 214 | n => n, fun | 9 => 9 | 3 => 3 | 2 => 2 | 75 => 182 | 85 => 183 | 4 => 4 | 167 => 213 | 5 => 5 | 53 => 214 | 175 => 215 | 46 => 66 | 168 => 217 | 37 => 77 | 0 => 0 | 210 => 229 | 21 => 21 | 127 => 235 | 145 => 238 | 143 => 236 | 171 => 240 | 173 => 243 | 212 => 246 | 51 => 232 | 20 => 20 | 213 => 247 | 232 => 250 | 233 => 251 | 80 => 252 | n => n, fun | 15 => 8 | 16 => 9 | 17 => 10 | 18 => 11 | 19 => 12 | n => n⟩
theorem Tryz.laysC174 : Go.Proofs.LaysC.n174 Tryz.prog Tryz.laysC174_ren := {
 mixed := by kernel_rfl
 f129 := Tryz.func209.trans (congrArg some (by kernel_rfl))
 f171 := Tryz.func199.trans (congrArg some (by kernel_rfl))
 f174 := Tryz.func147.trans (congrArg some (by kernel_rfl))
 f205 := Tryz.func198.trans (congrArg some (by kernel_rfl))
 f243 := Tryz.func202.trans (congrArg some (by kernel_rfl))
 f245 := Tryz.func170.trans (congrArg some (by kernel_rfl))
 f246 := Tryz.func203.trans (congrArg some (by kernel_rfl))
 f247 := Tryz.func169.trans (congrArg some (by kernel_rfl))
 f279 := Tryz.func185.trans (congrArg some (by kernel_rfl))
 f280 := Tryz.func186.trans (congrArg some (by kernel_rfl))
 f281 := Tryz.func187.trans (congrArg some (by kernel_rfl))
 f282 := Tryz.func188.trans (congrArg some (by kernel_rfl))
 f283 := Tryz.func204.trans (congrArg some (by kernel_rfl))
 f284 := Tryz.func205.trans (congrArg some (by kernel_rfl))
 f285 := Tryz.func206.trans (congrArg some (by kernel_rfl))
 f286 := Tryz.func207.trans (congrArg some (by kernel_rfl))
 f287 := Tryz.func184.trans (congrArg some (by kernel_rfl))
 f316 := Tryz.func197.trans (congrArg some (by kernel_rfl))
 f317 := Tryz.func208.trans (congrArg some (by kernel_rfl))
 f318 := Tryz.func210.trans (congrArg some (by kernel_rfl))
 f319 := Tryz.func211.trans (congrArg some (by kernel_rfl))
 f320 := Tryz.func212.trans (congrArg some (by kernel_rfl))
 f321 := Tryz.func195.trans (congrArg some (by kernel_rfl))
 f322 := Tryz.func196.trans (congrArg some (by kernel_rfl))
 f337 := Tryz.func213.trans (congrArg some (by kernel_rfl))
 f338 := Tryz.func214.trans (congrArg some (by kernel_rfl))
 t0 := Tryz.underlying0
 a0 := Tryz.isAgg0
 z0 := Tryz.sizeOf0
 v0 := Tryz.zeroValue0
 t2 := Tryz.underlying2
 a2 := Tryz.isAgg2
 z2 := Tryz.sizeOf2
 v2 := Tryz.zeroValue2
 t3 := Tryz.underlying3
 a3 := Tryz.isAgg3
 z3 := Tryz.sizeOf3
 v3 := Tryz.zeroValue3
 t4 := Tryz.underlying4
 a4 := Tryz.isAgg4
 z4 := Tryz.sizeOf4
 v4 := Tryz.zeroValue4
 t5 := Tryz.underlying5
 a5 := Tryz.isAgg5
 z5 := Tryz.sizeOf5
 v5 := Tryz.zeroValue5
 t9 := Tryz.underlying9
 a9 := Tryz.isAgg9
 z9 := Tryz.sizeOf9
 v9 := Tryz.zeroValue9
 t20 := Tryz.underlying20
 a20 := Tryz.isAgg20
 z20 := Tryz.sizeOf20
 v20 := Tryz.zeroValue20
 t21 := Tryz.underlying21
 a21 := Tryz.isAgg21
 z21 := Tryz.sizeOf21
 v21 := Tryz.zeroValue21
 t37 := Tryz.underlying77
 a37 := Tryz.isAgg77
 z37 := Tryz.sizeOf77
 v37 := Tryz.zeroValue77
 t46 := Tryz.underlying66
 a46 := Tryz.isAgg66
 z46 := Tryz.sizeOf66
 v46 := Tryz.zeroValue66
 t51 := Tryz.underlying232
 a51 := Tryz.isAgg232
 z51 := Tryz.sizeOf232
 v51 := Tryz.zeroValue232
 t53 := Tryz.underlying214
 a53 := Tryz.isAgg214
 z53 := Tryz.sizeOf214
 v53 := Tryz.zeroValue214
 t75 := Tryz.underlying182
 a75 := Tryz.isAgg182
 z75 := Tryz.sizeOf182
 v75 := Tryz.zeroValue182
 t85 := Tryz.underlying183
 a85 := Tryz.isAgg183
 z85 := Tryz.sizeOf183
 v85 := Tryz.zeroValue183
 t127 := Tryz.underlying235
 a127 := Tryz.isAgg235
 z127 := Tryz.sizeOf235
 v127 := Tryz.zeroValue235
 t143 := Tryz.underlying236
 a143 := Tryz.isAgg236
 z143 := Tryz.sizeOf236
 v143 := Tryz.zeroValue236
 t145 := Tryz.underlying238
 a145 := Tryz.isAgg238
 z145 := Tryz.sizeOf238
 v145 := Tryz.zeroValue238
 t167 := Tryz.underlying213
 a167 := Tryz.isAgg213
 z167 := Tryz.sizeOf213
 v167 := Tryz.zeroValue213
 t168 := Tryz.underlying217
 a168 := Tryz.isAgg217
 z168 := Tryz.sizeOf217
 v168 := Tryz.zeroValue217
 t171 := Tryz.underlying240
 a171 := Tryz.isAgg240
 z171 := Tryz.sizeOf240
 v171 := Tryz.zeroValue240
 t173 := Tryz.underlying243
 a173 := Tryz.isAgg243
 z173 := Tryz.sizeOf243
 v173 := Tryz.zeroValue243
 t175 := Tryz.underlying215
 a175 := Tryz.isAgg215
 z175 := Tryz.sizeOf215
 v175 := Tryz.zeroValue215
 t210 := Tryz.underlying229
 a210 := Tryz.isAgg229
 z210 := Tryz.sizeOf229
 v210 := Tryz.zeroValue229
 t212 := Tryz.underlying246
 a212 := Tryz.isAgg246
 z212 := Tryz.sizeOf246
 v212 := Tryz.zeroValue246
 t213 := Tryz.underlying247
 a213 := Tryz.isAgg247
 z213 := Tryz.sizeOf247
 t232 := Tryz.underlying250
 a232 := Tryz.isAgg250
 z232 := Tryz.sizeOf250
 v232 := Tryz.zeroValue250
 t233 := Tryz.underlying251
 a233 := Tryz.isAgg251
 z233 := Tryz.sizeOf251
 v233 := Tryz.zeroValue251
 g15 := by kernel_rfl
 g16 := by kernel_rfl
 g17 := by kernel_rfl
 g18 := by kernel_rfl
 g19 := by kernel_rfl
 t80 := Tryz.underlying252
 a80 := Tryz.isAgg252
 z80 := Tryz.sizeOf252
 v80 := Tryz.zeroValue252
 i0 := by kernel_rfl
 i2 := by kernel_rfl
 i3 := by kernel_rfl
 i4 := by kernel_rfl
 i5 := by kernel_rfl
 i9 := by kernel_rfl
 i20 := by kernel_rfl
 i21 := by kernel_rfl
 i37 := by kernel_rfl
 i46 := by kernel_rfl
 i51 := by kernel_rfl
 i53 := by kernel_rfl
 i75 := by kernel_rfl
 i80 := by kernel_rfl
 i85 := by kernel_rfl
 i127 := by kernel_rfl
 i143 := by kernel_rfl
 i145 := by kernel_rfl
 i167 := by kernel_rfl
 i168 := by kernel_rfl
 i171 := by kernel_rfl
 i173 := by kernel_rfl
 i175 := by kernel_rfl
 i210 := by kernel_rfl
 i212 := by kernel_rfl
 i232 := by kernel_rfl
 i233 := by kernel_rfl
 m15 := by kernel_rfl
 m16 := by kernel_rfl
 m17 := by kernel_rfl
 m18 := by kernel_rfl
 m19 := by kernel_rfl
 c0 := by kernel_rfl
 c2 := by kernel_rfl
 c3 := by kernel_rfl
 c4 := by kernel_rfl
 c5 := by kernel_rfl
 c9 := by kernel_rfl
 c20 := by kernel_rfl
 c21 := by kernel_rfl
 c37 := by kernel_rfl
 c46 := by kernel_rfl
 c51 := by kernel_rfl
 c53 := by kernel_rfl
 c75 := by kernel_rfl
 c80 := by kernel_rfl
 c85 := by kernel_rfl
 c127 := by kernel_rfl
 c143 := by kernel_rfl
 c145 := by kernel_rfl
 c167 := by kernel_rfl
 c168 := by kernel_rfl
 c171 := by kernel_rfl
 c173 := by kernel_rfl
 c175 := by kernel_rfl
 c210 := by kernel_rfl
 c212 := by kernel_rfl
 c213 := by kernel_rfl
 c232 := by kernel_rfl
 c233 := by kernel_rfl }
open Go.RowKit in
theorem Tryz.strconv_ParseInt_10_at64_ok (s : ByteArray) (hmax : s.size ≤ 9223372036854775806) (v : Int) (h : Lib.parseIntB 64 s.data.toList = .ok v) (w : World) :
  Calls Tryz.prog 147 #[.string s, .int .i64 10, .int .i64 64] w fun e w' => e = .returned (.tuple #[.int .i64 v, .nilIface]) ∧ (w' = w ∨ ∃ t, w' = Lib.bytesWorld w 5 t) := Any.strconv_ParseInt_10_at64_ok Tryz.laysC174 s hmax v h w
open Go.RowKit in
theorem Tryz.strconv_ParseInt_10_at64_syntax_var (s : ByteArray) (hlim : s.size ≤ 281474976710656) (h : Lib.parseIntB 64 s.data.toList = Lib.parseIntB 64 []) (tp : TypeId) (p : Value) (w : World) (hvar : w.var? Tryz.prog "strconv.ErrSyntax" = some #[.iface tp p]) :
  Calls Tryz.prog 147 #[.string s, .int .i64 10, .int .i64 64] w fun e w' => ∃ N, e = .returned (.tuple #[.int .i64 (0), .iface 217 (.pointer (some ⟨N, 0, none⟩))]) ∧ w.heap.size ≤ N ∧ w'.heap[N]? = some (.cells #[.string ⟨#[80, 97, 114, 115, 101, 73, 110, 116]⟩, .string s, .iface tp p] 229 (0, 0)) ∧ Below w.heap.size w w' := Any.strconv_ParseInt_10_at64_syntax_var Tryz.laysC174 s hlim h tp p w hvar
open Go.RowKit in
theorem Tryz.strconv_ParseInt_10_at64_range_var (s : ByteArray) (hlim : s.size ≤ 281474976710656) (h : Lib.parseIntB 64 s.data.toList = .range) (tp : TypeId) (p : Value) (w : World) (hvar : w.var? Tryz.prog "strconv.ErrRange" = some #[.iface tp p]) :
  Calls Tryz.prog 147 #[.string s, .int .i64 10, .int .i64 64] w fun e w' => ∃ N, e = .returned (.tuple #[.int .i64 (Lib.intSat 64 s.data.toList), .iface 217 (.pointer (some ⟨N, 0, none⟩))]) ∧ w.heap.size ≤ N ∧ w'.heap[N]? = some (.cells #[.string ⟨#[80, 97, 114, 115, 101, 73, 110, 116]⟩, .string s, .iface tp p] 229 (0, 0)) ∧ Below w.heap.size w w' := Any.strconv_ParseInt_10_at64_range_var Tryz.laysC174 s hlim h tp p w hvar
def Tryz.lays145_ren : Go.Shelf.Ren := ⟨fun | 145 => 145 | 220 => 167 | 219 => 183 | 217 => 193 | 225 => 192 | 224 => 191 | 267 => 194 | 266 => 200 | 314 => 201 | n => n, fun | 9 => 9 | 4 => 4 | 59 => 177 | 3 => 3 | 5 => 5 | 46 => 66 | 146 => 233 | 51 => 232 | n => n, fun | 1 => 7 | n => n⟩
theorem Tryz.lays145 : Go.Proofs.Lays.n145 Tryz.prog Tryz.lays145_ren := {
 mixed := by kernel_rfl
 f145 := Tryz.func145.trans (congrArg some (by kernel_rfl))
 f217 := Tryz.func193.trans (congrArg some (by kernel_rfl))
 f219 := Tryz.func183.trans (congrArg some (by kernel_rfl))
 f220 := Tryz.func167.trans (congrArg some (by kernel_rfl))
 f224 := Tryz.func191.trans (congrArg some (by kernel_rfl))
 f225 := Tryz.func192.trans (congrArg some (by kernel_rfl))
 f266 := Tryz.func200.trans (congrArg some (by kernel_rfl))
 f267 := Tryz.func194.trans (congrArg some (by kernel_rfl))
 f314 := Tryz.func201.trans (congrArg some (by kernel_rfl))
 t3 := Tryz.underlying3
 a3 := Tryz.isAgg3
 z3 := Tryz.sizeOf3
 v3 := Tryz.zeroValue3
 t4 := Tryz.underlying4
 a4 := Tryz.isAgg4
 z4 := Tryz.sizeOf4
 v4 := Tryz.zeroValue4
 t5 := Tryz.underlying5
 a5 := Tryz.isAgg5
 z5 := Tryz.sizeOf5
 v5 := Tryz.zeroValue5
 t9 := Tryz.underlying9
 a9 := Tryz.isAgg9
 z9 := Tryz.sizeOf9
 v9 := Tryz.zeroValue9
 t46 := Tryz.underlying66
 a46 := Tryz.isAgg66
 z46 := Tryz.sizeOf66
 v46 := Tryz.zeroValue66
 t51 := Tryz.underlying232
 a51 := Tryz.isAgg232
 z51 := Tryz.sizeOf232
 v51 := Tryz.zeroValue232
 t59 := Tryz.underlying177
 a59 := Tryz.isAgg177
 z59 := Tryz.sizeOf177
 v59 := Tryz.zeroValue177
 t146 := Tryz.underlying233
 a146 := Tryz.isAgg233
 z146 := Tryz.sizeOf233
 v146 := Tryz.zeroValue233
 g1 := by kernel_rfl }
open Go.RowKit Go.Lib in
theorem Tryz.strings_Cut (s sep : ByteArray) (m : Int) (w : World) (hs : s.size < 4294967281) (hm : w.cell? ⟨7, 0, none⟩ = some (.int .i64 m)) :
  Calls Tryz.prog 145 #[.string s, .string sep] w fun e w' => e = .returned (.tuple #[.string ⟨(Lib.cut s.data.toList sep.data.toList).1.toArray⟩, .string ⟨(Lib.cut s.data.toList sep.data.toList).2.1.toArray⟩, .bool (Lib.cut s.data.toList sep.data.toList).2.2]) ∧ ∃ n, w' = w.drewN n := Any.strings_Cut Tryz.lays145 s sep m w hs hm
def Tryz.lays99_ren : Go.Shelf.Ren := ⟨fun | 99 => 146 | 206 => 168 | n => n, fun | 9 => 9 | 4 => 4 | 3 => 3 | n => n, fun | n => n⟩
theorem Tryz.lays99 : Go.Proofs.Lays.n99 Tryz.prog Tryz.lays99_ren := {
 mixed := by kernel_rfl
 f99 := Tryz.func146.trans (congrArg some (by kernel_rfl))
 f206 := Tryz.func168.trans (congrArg some (by kernel_rfl))
 t3 := Tryz.underlying3
 a3 := Tryz.isAgg3
 z3 := Tryz.sizeOf3
 v3 := Tryz.zeroValue3
 t4 := Tryz.underlying4
 a4 := Tryz.isAgg4
 z4 := Tryz.sizeOf4
 v4 := Tryz.zeroValue4
 t9 := Tryz.underlying9
 a9 := Tryz.isAgg9
 z9 := Tryz.sizeOf9
 v9 := Tryz.zeroValue9 }
open Go.RowKit Go.Lib in
theorem Tryz.strings_HasPrefix (s p : ByteArray) (w : World) :
  Calls Tryz.prog 146 #[.string s, .string p] w fun e w' => e = .returned (.bool (Lib.hasPrefix s.data.toList p.data.toList)) ∧ w' = w := Any.strings_HasPrefix Tryz.lays99 s p w
def Tryz.lays110_ren : Go.Shelf.Ren := ⟨fun | 110 => 59 | 109 => 116 | n => n, fun | 31 => 23 | 9 => 9 | 4 => 4 | 3 => 3 | 0 => 0 | n => n, fun | n => n⟩
theorem Tryz.lays110 : Go.Proofs.Lays.n110 Tryz.prog Tryz.lays110_ren := {
 mixed := by kernel_rfl
 f109 := Tryz.func116.trans (congrArg some (by kernel_rfl))
 f110 := Tryz.func59.trans (congrArg some (by kernel_rfl))
 t0 := Tryz.underlying0
 a0 := Tryz.isAgg0
 z0 := Tryz.sizeOf0
 v0 := Tryz.zeroValue0
 t3 := Tryz.underlying3
 a3 := Tryz.isAgg3
 z3 := Tryz.sizeOf3
 v3 := Tryz.zeroValue3
 t4 := Tryz.underlying4
 a4 := Tryz.isAgg4
 z4 := Tryz.sizeOf4
 v4 := Tryz.zeroValue4
 t9 := Tryz.underlying9
 a9 := Tryz.isAgg9
 z9 := Tryz.sizeOf9
 v9 := Tryz.zeroValue9
 t31 := Tryz.underlying23
 a31 := Tryz.isAgg23
 z31 := Tryz.sizeOf23
 v31 := Tryz.zeroValue23 }
open Go.Lib in
theorem Tryz.slices_Contains_string (b off n c : Nat) (zs : List ByteArray) (x : ByteArray) (w : World) (hz : n ≤ zs.length) (hbig : n ≤ 9223372036854775807) (hc : ∀ j, j < zs.length → w.cell? ⟨b, off + j, none⟩ = some (.string (zs.getD j ByteArray.empty))) :
  Calls Tryz.prog 59 #[.slice (some ⟨b, off, none⟩) n c, .string x] w fun e w' => e = .returned (.bool (Lib.containsS (zs.take n) x)) ∧ w' = w := Any.slices_Contains_string Tryz.lays110 b off n c zs x w hz hbig hc
end Go.Proofs
end
section
/- Parts of expressions in plain Lean: what may be, the first part of a text, all parts, how they stand there. No program in sight. -/
namespace Lx
open Go
abbrev Bs := List UInt8
def digit (c : UInt8) : Bool := decide (48 ≤ (c.toNat : Int)) && decide ((c.toNat : Int) ≤ 57)
def letter (c : UInt8) : Bool := decide (97 ≤ (c.toNat : Int)) && decide ((c.toNat : Int) ≤ 122)
def behind (c : UInt8) : Bool := (digit c || letter c) || ((c.toNat : Int) == 95)
def quoted (c : UInt8) : Bool := (decide (32 ≤ (c.toNat : Int)) && decide ((c.toNat : Int) ≤ 126)) && !((c.toNat : Int) == 39)
def run (p : UInt8 → Bool) (l : Bs) : Nat := (l.takeWhile p).length
def signs : List Bs := [[60, 61], [61, 61], [33, 61], [124], [38], [60], [43], [45], [42], [47], [37], [33], [40], [41]]
def parsed : Lib.NumEnd Int → Bool
 | .ok _ => true
 | _ => false
def numOk (l : Bs) : Bool := parsed (Lib.parseIntB 64 l) && ((run digit l == l.length) && ((l.length == 1) || !(l.head? == some 48)))
def wordOk (l : Bs) : Bool := match l with
 | [] => false
 | c :: _ => letter c && ((run behind l == l.length) && decide (l.length ≤ 12))
def quoteOk (l : Bs) : Bool := (run quoted l == l.length) && decide (l.length ≤ 40)
def may (k : Int) (l : Bs) : Bool := if k = 1 then numOk l else if k = 2 then wordOk l else if k = 3 then quoteOk l else if k = 4 then signs.contains l else false
structure Tok where
 k : Int
 t : Bs
 deriving DecidableEq
def none : Tok × Nat := (⟨0, []⟩, 0)
def cutQ (l : Bs) : Option Bs := if (l.takeWhile (· != 39)).length < l.length then some (l.takeWhile (· != 39)) else Option.none
def first : Bs → Tok × Nat
 | [] => none
 | c :: r =>
  if digit c then (⟨1, (c :: r).take (run digit (c :: r))⟩, run digit (c :: r))
  else if letter c then (⟨2, (c :: r).take (run behind (c :: r))⟩, run behind (c :: r))
  else if c = 39 then (match cutQ r with
   | some q => (⟨3, q⟩, q.length + 2)
   | Option.none => none)
  else match signs.find? fun x => x.isPrefixOf (c :: r) with
   | some x => (⟨4, x⟩, x.length)
   | Option.none => none
def trim (l : Bs) : Bs := l.dropWhile (· == 32)
def lexT : Nat → Bs → Option (List Tok)
 | 0, _ => Option.none
 | _ + 1, [] => some []
 | n + 1, c :: r => if (first (c :: r)).2 = 0 || !(may (first (c :: r)).1.k (first (c :: r)).1.t) then Option.none else (lexT n (trim ((c :: r).drop (first (c :: r)).2))).map ((first (c :: r)).1 :: ·)
def lex (l : Bs) : List Tok × Int := if 100 < l.length then ([], 40) else match lexT (l.length + 1) (trim l) with
 | some ts => (ts, 0)
 | Option.none => ([], 4)
def text (t : Tok) : Bs := if t.k = 3 then 39 :: (t.t ++ [39]) else t.t
theorem run_le (p : UInt8 → Bool) (l : Bs) : run p l ≤ l.length := by unfold run; exact (List.takeWhile_sublist _).length_le
theorem run_cons_t {p : UInt8 → Bool} {c : UInt8} {l : Bs} (h : p c = true) : run p (c :: l) = run p l + 1 := by simp [run, List.takeWhile_cons, h]
theorem run_cons_f {p : UInt8 → Bool} {c : UInt8} {l : Bs} (h : p c = false) : run p (c :: l) = 0 := by simp [run, List.takeWhile_cons, h]
theorem run_nil (p : UInt8 → Bool) : run p [] = 0 := rfl
theorem trim_le (l : Bs) : (trim l).length ≤ l.length := (List.dropWhile_sublist _).length_le
theorem index39 : ∀ l : Bs, Lib.index l [39] = if (l.takeWhile (· != 39)).length < l.length then ((l.takeWhile (· != 39)).length : Int) else -1
 | [] => rfl
 | b :: r => by
  have ih := index39 r
  unfold Lib.index
  by_cases h : b = 39
  ·subst h; simp [List.takeWhile_cons]
  ·have h1 : (b != 39) = true := by simpa using h
   have h2 : ([39] : Bs).isPrefixOf (b :: r) = false := by simp [List.isPrefixOf]; exact fun e => h e.symm
   rw [h2, ih]
   simp only [List.takeWhile_cons, h1, if_true, List.length_cons, Bool.false_eq_true, if_false]
   by_cases hl : (r.takeWhile (· != 39)).length < r.length
   ·have h3 : (((r.takeWhile (· != 39)).length : Int) == -1) = false := by rw [beq_eq_false_iff_ne]; omega
    simp [hl, h3]
   ·simp [hl]
theorem take_tw (p : UInt8 → Bool) (l : Bs) : l.take (l.takeWhile p).length = l.takeWhile p := by
 induction l with
 | nil => rfl
 | cons c r ih => by_cases h : p c = true <;> simp [List.takeWhile_cons, h, ih]
theorem cut39 (l : Bs) : (Lib.cut l [39]).2.2 = (cutQ l).isSome ∧ ((cutQ l).isSome = true → cutQ l = some (Lib.cut l [39]).1) := by
 unfold Lib.cut cutQ
 rw [index39]
 by_cases h : (l.takeWhile (· != 39)).length < l.length
 ·simp only [h, if_true]
  have h0 : (0 : Int) ≤ ((l.takeWhile (· != 39)).length : Int) := by omega
  simp [h0, take_tw]
 ·simp [h]
theorem cutQ_len {l q : Bs} (h : cutQ l = some q) : q.length < l.length := by
 unfold cutQ at h
 split at h
 ·rename_i hl; obtain rfl := Option.some.inj h; exact hl
 ·cases h
end Lx
end
