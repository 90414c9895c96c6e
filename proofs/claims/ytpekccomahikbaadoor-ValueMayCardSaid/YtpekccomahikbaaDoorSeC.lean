/- The walk that the kernel computes: symbolic values and worlds, and that they are sound. -/
import Derived.Test.YtpekccomahikbaaDoorSeB
import Derived.Deep.LoopGhost
section
namespace Go.SE
open Go Go.RowKit

variable {P : Program}

/-- a world, and the blocks that will never turn again -/
structure Wd where
  w : World
  I : Nat → Prop
  lt : ∀ b, I b → b < w.heap.size
structure Ext (W W' : Wd) : Prop where
  size : W.w.heap.size ≤ W'.w.heap.size
  sub : ∀ b, W.I b → W'.I b
  keep : ∀ b, W.I b → W'.w.heap[b]? = W.w.heap[b]?
theorem Ext.refl (W : Wd) : Ext W W := ⟨Nat.le_refl _, fun _ h => h, fun _ _ => rfl⟩
theorem Ext.trans {A B C : Wd} (h : Ext A B) (k : Ext B C) : Ext A C :=
  ⟨Nat.le_trans h.size k.size, fun b hb => k.sub b (h.sub b hb), fun b hb => (k.keep b (h.sub b hb)).trans (h.keep b hb)⟩
/-- the blocks from a number on, up to the world's size, stay -/
def NewIn (n : Nat) (W' : Wd) : Prop := ∀ b, n ≤ b → b < W'.w.heap.size → W'.I b

/-- what a function does that only grows the world: it returns a value of which R holds, in a world whose new blocks stay -/
def CallsI (P : Program) (f : FuncId) (args : Array Value) (W : Wd) (R : Value → Wd → Prop) : Prop :=
  Calls P f args W.w fun e w' => ∃ v, e = .returned v ∧ Below W.w.heap.size W.w w' ∧ ∀ W' : Wd, W'.w = w' → Ext W W' → NewIn W.w.heap.size W' → R v W'
/-- it returns that value -/
def CallsQ (P : Program) (f : FuncId) (args : Array Value) (W : Wd) (v : Value) : Prop :=
  Calls P f args W.w fun e w' => e = .returned v ∧ Below W.w.heap.size W.w w'
theorem CallsI.of_q {f : FuncId} {args : Array Value} {W : Wd} {v : Value} {R : Value → Wd → Prop} (h : CallsQ P f args W v) (hR : ∀ W', Ext W W' → R v W') : CallsI P f args W R :=
  Calls.mono h fun _ _ ⟨he, hb⟩ => ⟨v, he, hb, fun W' _ x _ => hR W' x⟩
theorem CallsQ.of_i {f : FuncId} {args : Array Value} {W : Wd} {v : Value} (h : CallsI P f args W fun u _ => u = v) : CallsQ P f args W v :=
  Calls.mono h fun e w' ⟨u, he, hb, hR⟩ => by
    have := hR ⟨w', fun b => W.I b ∨ (W.w.heap.size ≤ b ∧ b < w'.heap.size), fun b hb' => hb'.elim (fun h1 => Nat.lt_of_lt_of_le (W.lt b h1) hb.size) (fun h1 => h1.2)⟩ rfl
      ⟨hb.size, fun _ h1 => .inl h1, fun b h1 => hb.block b (W.lt b h1)⟩ (fun b h1 h2 => .inr ⟨h1, h2⟩)
    exact ⟨by rw [he, this], hb⟩
theorem CallsI.mono {f : FuncId} {args : Array Value} {W : Wd} {R R' : Value → Wd → Prop} (h : CallsI P f args W R) (hr : ∀ v W', Ext W W' → NewIn W.w.heap.size W' → R v W' → R' v W') : CallsI P f args W R' :=
  Calls.mono h fun _ _ ⟨v, he, hb, hR⟩ => ⟨v, he, hb, fun W' h1 h2 h3 => hr v W' h2 h3 (hR W' h1 h2 h3)⟩

/-- it has so many variables, and those that are values fit in a cell -/
def Env.fits (d : Env) (c : Cnt) : Prop := d.cnt = c ∧ d.good
def ExL {α : Type} : Nat → (List α → Prop) → Prop
  | 0, p => p []
  | n + 1, p => ∃ a, ExL n fun l => p (a :: l)
def ExV : Nat → (List Value → Prop) → Prop
  | 0, p => p []
  | n + 1, p => ∃ a : Value, a.oneCell' = true ∧ ExV n fun l => p (a :: l)
/-- there are variables, so many of each kind -/
def ExE (c : Cnt) (p : Env → Prop) : Prop :=
  ExL c.I fun i => ExL c.N fun n => ExL c.B fun b => ExL c.T fun t => ExV c.V fun v => ExL c.A fun a => ExL c.M fun m => p ⟨i, n, b, t, v, a, m⟩
theorem ExL.out {α : Type} : ∀ {n : Nat} {p : List α → Prop}, ExL n p → ∃ l, l.length = n ∧ p l
  | 0, _, h => ⟨[], rfl, h⟩
  | n + 1, p, ⟨a, h⟩ => let ⟨l, h1, h2⟩ := ExL.out h; ⟨a :: l, by simp [h1], h2⟩
theorem ExV.out : ∀ {n : Nat} {p : List Value → Prop}, ExV n p → ∃ l, l.length = n ∧ (∀ v ∈ l, v.oneCell' = true) ∧ p l
  | 0, _, h => ⟨[], rfl, fun v hv => (by cases hv), h⟩
  | n + 1, p, ⟨a, ha, h⟩ => let ⟨l, h1, h3, h2⟩ := ExV.out h; ⟨a :: l, by simp [h1], fun v hv => (List.mem_cons.1 hv).elim (fun e => e ▸ ha) (h3 v), h2⟩
theorem ExE.out {c : Cnt} {p : Env → Prop} (h : ExE c p) : ∃ d : Env, d.fits c ∧ p d := by
  obtain ⟨i, hi, h⟩ := ExL.out h
  obtain ⟨n, hn, h⟩ := ExL.out h
  obtain ⟨b, hb, h⟩ := ExL.out h
  obtain ⟨t, ht, h⟩ := ExL.out h
  obtain ⟨v, hv, hv', h⟩ := ExV.out h
  obtain ⟨a, ha, h⟩ := ExL.out h
  obtain ⟨m, hm, h⟩ := ExL.out h
  exact ⟨⟨i, n, b, t, v, a, m⟩, ⟨by simp [Env.cnt, hi, hn, hb, ht, hv, ha, hm], hv'⟩, h⟩

inductive Tree where
  | ret (s : Sy) (hp : List Blk)
  | br (c : E) (a b : Tree)
  | chk (c : E) (t : Tree)
  | new (t : Tree)
  | wr (t : Tree)
  | call (f : FuncId) (args : List Sy) (hp : List Blk) (res : Sy) (c : Cnt) (t : Tree)
  | callq (f : FuncId) (args : List Sy) (hp : List Blk) (res : Sy) (c : Cnt) (t : Tree)
  | grow (t : Tree)
  | look (ty : TypeId) (p res : Sy) (c : Cnt) (t : Tree)
  | loop (init heads : List Sy) (c : Cnt) (t : Tree)
  | again (n : Nat) (vals : List Sy)

abbrev Lv := List (List Value → Wd → Prop)
def Lv.at (L : Lv) (n : Nat) (vs : List Value) (W : Wd) : Prop := match L[n]? with
  | some p => p vs W
  | none => False

def BlksAt (ρ : Env) (hp : List Blk) (w : World) : Prop := ∀ b ∈ hp, b.at ρ w

/-- what is left to show -/
def Tree.den (P : Program) (n0 : Nat) (R : Value → Wd → Prop) : Tree → Lv → Env → Wd → Prop
  | .ret s hp, _, ρ, W => ∀ W', W'.w = W.w → Ext W W' → NewIn n0 W' → BlksAt ρ hp W'.w → R (s.den ρ) W'
  | .br c a b, L, ρ, W => (c.b ρ = true → a.den P n0 R L ρ W) ∧ (c.b ρ = false → b.den P n0 R L ρ W)
  | .chk c t, L, ρ, W => c.b ρ = true ∧ t.den P n0 R L ρ W
  | .new t, L, ρ, W => ∀ m W', Ext W W' → t.den P n0 R L (ρ.push { M := [m] }) W'
  | .wr t, L, ρ, W => ∀ W', Ext W W' → t.den P n0 R L ρ W'
  | .call f args hp res c t, L, ρ, W => BlksAt ρ hp W.w → CallsI P f (Sy.dens ρ args).toArray W fun v W' => ExE c fun d => v = res.den (ρ.push d) ∧ t.den P n0 R L (ρ.push d) W'
  | .callq f args hp res c t, L, ρ, W => ExE c fun d => (∀ W', Ext W W' → BlksAt ρ hp W'.w → CallsQ P f (Sy.dens ρ args).toArray W' (res.den (ρ.push d))) ∧ t.den P n0 R L (ρ.push d) W
  | .grow t, L, ρ, W => ∀ W', Ext W W' → t.den P n0 R L ρ W'
  | .look ty p res c t, L, ρ, W => ExE c fun d => (∀ W', Ext W W' → (Instr.loadAt ty (p.den ρ)).run P W'.w = .ok (res.den (ρ.push d)) W'.w) ∧ t.den P n0 R L (ρ.push d) W
  | .loop init heads c t, L, ρ, W => ∃ (Inv : Nat → List Value → Wd → Prop) (n : Nat), Inv n (Sy.dens ρ init) W ∧
      ∀ n vs W', Ext W W' → Inv n vs W' → ExE c fun d => Sy.dens (ρ.push d) heads = vs ∧ t.den P n0 R (L ++ [fun vs' W'' => ∃ n', n' < n ∧ Inv n' vs' W'']) (ρ.push d) W'
  | .again n vals, L, ρ, W => L.at n (Sy.dens ρ vals) W

/-! ### the state -/
structure St where
  n : Nat
  tm : Tm
  hp : List Blk
  ro : List Blk
  kn : Kn
  c : Cnt
  lp : Nat

def Sy.okO (c : Cnt) : Option Sy → Bool
  | none => true
  | some s => s.ok c
def Blk.ok (c : Cnt) (b : Blk) : Bool := b.m < c.M && Sy.oks c b.cs
def St.ok (s : St) : Bool := (s.tm.all (fun p => Sy.okO s.c p.2) && s.hp.all (Blk.ok s.c) && s.ro.all (Blk.ok s.c)) && s.kn.all (fun p => p.1.ok s.c)

structure Holds (W0 : Wd) (ρ : Env) (s : St) (a : Act) (W : Wd) : Prop where
  cnt : ρ.cnt = s.c
  good : ρ.good
  tm : Tm.at ρ s.tm a.eval
  len : a.tmps.size = s.n
  df : a.defers = []
  hp : BlksAt ρ s.hp W.w
  ro : BlksAt ρ s.ro W.w
  old : ∀ b ∈ s.ro, gd ρ.M b.m 0 < W0.w.heap.size
  own : ∀ b ∈ s.hp, W0.w.heap.size ≤ gd ρ.M b.m 0 ∧ ¬ W.I (gd ρ.M b.m 0)
  nd : s.hp.Pairwise fun a b => gd ρ.M a.m 0 ≠ gd ρ.M b.m 0
  kn : Kn.holds ρ s.kn
  up : Below W0.w.heap.size W0.w W.w
  sub : ∀ b, W.I b → W0.I b ∨ W0.w.heap.size ≤ b
  ext : Ext W0 W

theorem okO_push {ρ d : Env} {tm : Tm} {ev : Operand → Value} (h : Tm.at ρ tm ev) (ho : tm.all (fun p => Sy.okO ρ.cnt p.2) = true) : Tm.at (ρ.push d) tm ev := by
  intro x s hx
  cases x with
  | tmp t =>
    have h1 := h _ _ hx
    rw [h1]
    simp only [evS] at hx
    obtain ⟨p, hp, _, h2⟩ := getT_mem hx
    have := List.all_eq_true.1 ho _ hp
    rw [h2] at this
    exact (Sy.push ρ d s this).symm
  | const v => simp only [evS] at hx; obtain rfl := Option.some.inj hx; rw [ofVal_den]; have := h (.const v) _ rfl; rw [ofVal_den] at this; exact this
  | global g => simp only [evS] at hx; obtain rfl := Option.some.inj hx; exact h (.global g) _ rfl
  | func f => simp only [evS] at hx; obtain rfl := Option.some.inj hx; exact h (.func f) _ rfl

theorem Env.good_push {ρ d : Env} (h : ρ.good) (k : d.good) : (ρ.push d).good := by
  intro v hv
  rcases List.mem_append.1 hv with h1 | h1
  · exact h v h1
  · exact k v h1
theorem M_push {ρ d : Env} {m : Nat} (h : m < ρ.cnt.M) : gd (ρ.push d).M m 0 = gd ρ.M m 0 := gd_app _ _ _ _ h

theorem BlksAt.push {ρ d : Env} {hp : List Blk} {w : World} (h : BlksAt ρ hp w) (ho : hp.all (Blk.ok ρ.cnt) = true) : BlksAt (ρ.push d) hp w := by
  intro b hb
  have h1 := List.all_eq_true.1 ho b hb
  simp only [Blk.ok, Bool.and_eq_true] at h1
  have := h b hb
  unfold Blk.at at *
  rw [M_push (of_decide_eq_true h1.1), Sy.pushes ρ d b.cs h1.2]
  exact this
/-- more variables -/
theorem Holds.push {W0 : Wd} {ρ d : Env} {s : St} {a : Act} {W : Wd} (h : Holds W0 ρ s a W) (ho : s.ok = true) (hd : d.good) : Holds W0 (ρ.push d) { s with c := s.c.add d.cnt } a W := by
  simp only [St.ok, Bool.and_eq_true] at ho
  obtain ⟨⟨⟨o1, o2⟩, o4⟩, o3⟩ := ho
  rw [← h.cnt] at o1 o2 o3 o4
  have hm : ∀ b ∈ s.hp, b.m < ρ.cnt.M := fun b hb => by
    have := List.all_eq_true.1 o2 b hb
    simp only [Blk.ok, Bool.and_eq_true] at this
    exact of_decide_eq_true this.1
  have hm' : ∀ b ∈ s.ro, b.m < ρ.cnt.M := fun b hb => by
    have := List.all_eq_true.1 o4 b hb
    simp only [Blk.ok, Bool.and_eq_true] at this
    exact of_decide_eq_true this.1
  refine ⟨by rw [Env.cnt_push, h.cnt], Env.good_push h.good hd, okO_push h.tm o1, h.len, h.df, h.hp.push o2, h.ro.push o4, ?_, ?_, ?_, ?_, h.up, h.sub, h.ext⟩
  · intro b hb
    rw [M_push (hm' b hb)]
    exact h.old b hb
  · intro b hb
    rw [M_push (hm b hb)]
    exact h.own b hb
  · refine (List.Pairwise.and_mem.1 h.nd).imp ?_
    rintro x y ⟨hx, hy, hxy⟩
    rw [M_push (hm x hx), M_push (hm y hy)]
    exact hxy
  · intro p hp
    have := List.all_eq_true.1 o3 p hp
    rw [(E.push ρ d p.1 this).2.1]
    exact h.kn p hp

/-- a temporary gets a value -/
def putS (n : Nat) (tm : Tm) (d : Option Nat) (v : Option Sy) : Tm := match d with
  | some d => if Nat.ble (d + 1) n then (d, v) :: tm else tm
  | none => tm
theorem Holds.put {W0 : Wd} {ρ : Env} {s : St} {a : Act} {W : Wd} (h : Holds W0 ρ s a W) (d : Option Nat) (v : Value) (x : Option Sy) (hx : ∀ y, x = some y → v = y.den ρ) :
    Holds W0 ρ { s with tm := putS s.n s.tm d x } (a.put d v) W := by
  cases d with
  | none => exact h
  | some d =>
    by_cases hd : Nat.ble (d + 1) s.n = true
    · have hlt : d < a.tmps.size := by rw [h.len]; exact Nat.le_of_ble_eq_true hd
      have e : putS s.n s.tm (some d) x = (d, x) :: s.tm := by simp only [putS]; rw [if_pos hd]
      rw [e]
      refine ⟨h.cnt, h.good, ?_, by simp [Act.put, h.len], h.df, h.hp, h.ro, h.old, h.own, h.nd, h.kn, h.up, h.sub, h.ext⟩
      intro o y ho
      cases o with
      | tmp t =>
        simp only [evS] at ho
        simp only [Act.put, Act.eval]
        by_cases ht : d = t
        · subst ht
          rw [getT_same] at ho
          have : (a.tmps.setIfInBounds d v)[d]? = some v := by simp [hlt]
          simp only [Array.getD_eq_getD_getElem?, this, Option.getD_some]
          exact hx y ho
        · rw [getT_other _ _ ht] at ho
          have := h.tm (.tmp t) y ho
          simp only [Act.eval, Array.getD_eq_getD_getElem?] at this ⊢
          rw [Array.getElem?_setIfInBounds_ne ht]
          exact this
      | const c => exact h.tm (.const c) y ho
      | global g => exact h.tm (.global g) y ho
      | func f => exact h.tm (.func f) y ho
    · have e : putS s.n s.tm (some d) x = s.tm := by simp only [putS]; rw [if_neg hd]
      have hge : a.tmps.size ≤ d := by
        rw [h.len]
        rcases Nat.lt_or_ge d s.n with h1 | h1
        · exact absurd (Nat.ble_eq_true_of_le h1) hd
        · exact h1
      have e2 : a.put (some d) v = a := by
        simp only [Act.put]
        rw [Array.setIfInBounds_eq_of_size_le hge]
      rw [e, e2]
      exact h
theorem Holds.learn {W0 : Wd} {ρ : Env} {s : St} {a : Act} {W : Wd} (h : Holds W0 ρ s a W) {e : E} {b : Bool} (he : e.b ρ = b) : Holds W0 ρ { s with kn := know e b s.kn } a W :=
  ⟨h.cnt, h.good, h.tm, h.len, h.df, h.hp, h.ro, h.old, h.own, h.nd, know_ok e h.kn he, h.up, h.sub, h.ext⟩
end Go.SE
end
section
namespace Go.SE
open Go Go.RowKit

variable {P : Program}

/-! ### the shape of a type's values -/
mutual
def cellsT (P : Program) : Nat → TypeId → Cnt → Option (List Sy × Cnt)
  | 0, _, _ => none
  | d + 1, t, c =>
    match P.underlying t with
    | some .bool => some ([.bool (.bv c.B)], { c with B := c.B + 1 })
    | some (.int k) => some ([.int k (.iv c.I)], { c with I := c.I + 1 })
    | some .string => some ([.str (.tv c.T)], { c with T := c.T + 1 })
    | some (.slice _) => some ([.slc c.A c.N (c.N + 1)], { c with A := c.A + 1, N := c.N + 2 })
    | some (.struct fs) => cellsFs P d fs.toList c
    | some (.pointer _) | some (.map _ _) | some (.func _ _ _) | some (.interface _) => some ([.var c.V], { c with V := c.V + 1 })
    | _ => none
def cellsFs (P : Program) : Nat → List Field → Cnt → Option (List Sy × Cnt)
  | _, [], c => some ([], c)
  | 0, _ :: _, _ => none
  | d + 1, f :: fs, c => match cellsT P d f.type c with
    | some (l, c') => match cellsFs P d fs c' with
      | some (m, c'') => some (l ++ m, c'')
      | none => none
    | none => none
end
def shapeT (P : Program) (t : TypeId) (c : Cnt) : Option (Sy × Cnt) :=
  match P.underlying t, cellsT P 40 t c with
  | some (.struct _), some (l, c') => some (.agg l, c')
  | _, some ([s], c') => some (s, c')
  | _, _ => none
def shapeTs (P : Program) : List TypeId → Cnt → Option (List Sy × Cnt)
  | [], c => some ([], c)
  | t :: ts, c => match shapeT P t c with
    | some (s, c') => match shapeTs P ts c' with
      | some (l, c'') => some (s :: l, c'')
      | none => none
    | none => none
def shapeR (P : Program) (t : TypeId) (c : Cnt) : Option (Sy × Cnt) :=
  match P.underlying t with
  | some (.tuple ts) => match shapeTs P ts.toList c with
    | some (l, c') => some (.tup l, c')
    | none => none
  | _ => shapeT P t c
def Cnt.less (c d : Cnt) : Cnt := ⟨c.I - d.I, c.N - d.N, c.B - d.B, c.T - d.T, c.V - d.V, c.A - d.A, c.M - d.M⟩

/-! ### which blocks a value comes to -/
mutual
def Sy.refs : Sy → List Nat
  | .ptr m _ | .slb m _ _ _ => [m]
  | .agg l | .tup l | .fn _ l => Sy.refss l
  | .ifc _ s => s.refs
  | _ => []
def Sy.refss : List Sy → List Nat
  | [] => []
  | s :: l => s.refs ++ Sy.refss l
end
def near (hp : List Blk) (ms : List Nat) : List Blk := hp.filter fun b => ms.contains b.m
def reach (hp : List Blk) (args : List Sy) : List Blk :=
  let h1 := near hp (Sy.refss args)
  near hp (Sy.refss args ++ h1.flatMap fun b => Sy.refss b.cs)
theorem reach_at {ρ : Env} {hp : List Blk} {args : List Sy} {w : World} (h : BlksAt ρ hp w) : BlksAt ρ (reach hp args) w := fun b hb => h b (List.mem_filter.1 hb).1

def setB : List Blk → Nat → List Sy → List Blk
  | [], _, _ => []
  | b :: l, m, cs => if b.m = m then { b with cs := cs } :: l else b :: setB l m cs

/-- what an operation does that is no mere value -/
inductive Eff where
  | new (ty : TypeId) (cs : List Sy) (s : Sy)
  | upd (m : Nat) (cs : List Sy)
  | call (f : FuncId) (args : List Sy)
  | look (t : TypeId) (p : Sy)

def xeff (P : Program) (s : St) (o : Op) : Option Eff :=
  match o with
  | .alloc t => match (P.info? t).bind (·.zero) with
    | some z => some (.new t (z.cells.toList.map ofCell) (.ptr s.c.M 0))
    | none => none
  | .box t x => match (evS s.tm x).bind Sy.cells with
    | some l => some (.new t l (.ptr s.c.M 0))
    | none => none
  | .buildSlice t len ps => match P.underlying t, evParts s.tm ps.toList with
    | some (.slice el), some l => match P.info? el with
      | some ie => match ie.zero with
        | some z => if len * ie.size ≤ 16777216 then (fillS (fun i => some (i * ie.size, ie.size)) (((Array.range (len * ie.size)).map (z.cells[· % z.cells.size]!)).toList.map ofCell) l).map fun cs => .new el cs (.slb s.c.M 0 len len) else none
        | none => none
      | none => none
    | _, _ => none
  | .store t p x => match evS s.tm p, (evS s.tm x).bind Sy.cells, sizeT P t with
    | some (.ptr m o), some vs, some n => match findB s.hp m with
      | some b => if vs.length = n ∧ o + n ≤ b.cs.length then some (.upd m (over b.cs o vs)) else none
      | none => none
    | _, _, _ => none
  | .load t p => match evS s.tm p with
    | some (.elt a i z o) => some (.look t (.elt a i z o))
    | some (.val (.pointer (some a))) => some (.look t (.val (.pointer (some a))))
    | some (.var n) => some (.look t (.var n))
    | _ => none
  | .call { callee := .value f, args := args, argTypes := _ } => match evS s.tm f, evsS s.tm args.toList with
    | some (.fn g caps), some l => match P.funcs[g]? with
      | some fn => if fn.body.isSome ∧ (fn.name == "runtime.NumGoroutine") = false then some (.call g (l ++ caps)) else none
      | none => none
    | _, _ => none
  | _ => none

/-- whether an operation's guard lets it through -/
def gdE (ops : Array Oper) (s : St) (o : Oper) : Option E :=
  match o.guard with
  | none => some (.bl true)
  | some (j, want) => match (ops[j]?).bind (·.dst) with
    | some d => match getT s.tm d with
      | some (.bool e) => some (litE e want)
      | some (.when g w (.bool e)) => some (bandE (litE g w) (litE e want))
      | some (.val (.tuple ⟨[]⟩)) => some (.bl false)
      | _ => none
    | none => none

def chks (kn : Kn) : List E → Tree → Tree
  | [], t => t
  | e :: l, t => if dec kn e = some true then chks kn l t else .chk e (chks kn l t)
def learns (kn : Kn) : List E → Kn
  | [] => kn
  | e :: l => learns (know e true kn) l

def undefS : Sy := .val (.tuple #[])

/-- functions that are walked into: of a call what is left to show -/
abbrev Inl := FuncId → List Sy → List Blk → Cnt → Option Tree
/-- it only looks, and its values stand without its own blocks -/
def pureT (c : Cnt) : Tree → Bool
  | .ret v _ => v.ok c
  | .br e a b => e.ok c && pureT c a && pureT c b
  | .chk e t => e.ok c && pureT c t
  | .new t | .wr t | .grow t => pureT c t
  | _ => false
def splice : Tree → St → (Sy → St → Option Tree) → Option Tree
  | .ret v _, s, k => k v s
  | .br e a b, s, k => match dec s.kn e with
    | some true => splice a s k
    | some false => splice b s k
    | none => match splice a { s with kn := know e true s.kn } k, splice b { s with kn := know e false s.kn } k with
      | some t, some u => some (.br e t u)
      | _, _ => none
  | .chk e t, s, k => (splice t { s with kn := learns s.kn [e] } k).map (chks s.kn [e])
  | .new t, s, k | .wr t, s, k | .grow t, s, k => splice t s k
  | _, _, _ => none
def useInl (inl : Inl) (f : FuncId) (args : List Sy) (s : St) : Option Tree :=
  match inl f args (s.hp ++ s.ro) s.c with
  | some t => if pureT s.c t then some t else none
  | none => none

/-- operations in a row -/
def xops (P : Program) (ex : Bool) (inl : Inl) (ops : Array Oper) : Nat → List Oper → St → (St → Option Tree) → Option Tree
  | _, [], s, K => K s
  | 0, _ :: _, _, _ => none
  | n + 1, o :: rest, s, K =>
    match gdE ops s o with
    | none => none
    | some G => match dec s.kn G with
      | some false => xops P ex inl ops n rest { s with tm := putS s.n s.tm o.dst (some undefS) } K
      | none => match xval P ex (simT (know G true s.kn) s.tm) (s.hp ++ s.ro) (know G true s.kn) o.op with
        | some (cs, v) => (xops P ex inl ops n rest { s with tm := putS s.n s.tm o.dst (some (.when G true v)), kn := learns s.kn (cs.map (borE (notE G))) } K).map (chks s.kn (cs.map (borE (notE G))))
        | none => match xops P ex inl ops n (o :: rest) { s with kn := know G true s.kn } K, xops P ex inl ops n (o :: rest) { s with kn := know G false s.kn } K with
          | some a, some b => some (.br G a b)
          | _, _ => none
      | some true => match xval P ex (simT s.kn s.tm) (s.hp ++ s.ro) s.kn o.op with
        | some (cs, v) => (xops P ex inl ops n rest { s with tm := putS s.n s.tm o.dst (some v), kn := learns s.kn cs } K).map (chks s.kn cs)
        | none => match xeff P { s with tm := simT s.kn s.tm } o.op with
          | some (.new ty cs v) => if s.ok && Sy.oks s.c cs then (xops P ex inl ops n rest { s with tm := putS s.n s.tm o.dst (some v), hp := ⟨s.c.M, ty, cs⟩ :: s.hp, c := s.c.add { M := 1 } } K).map .new else none
          | some (.upd m cs) => (xops P ex inl ops n rest { s with tm := putS s.n s.tm o.dst (some undefS), hp := setB s.hp m cs } K).map .wr
          | some (.call f args) => match useInl inl f args s with
           | some t => splice t s fun v s' => (xops P ex inl ops n rest { s' with tm := putS s'.n s'.tm o.dst (some v) } K).map .grow
           | none => match shapeR P o.type s.c with
            | some (res, c') => if s.ok then (xops P ex inl ops n rest { s with tm := putS s.n s.tm o.dst (some res), c := s.c.add (c'.less s.c) } K).map (.call f args (reach (s.hp ++ s.ro) args) res (c'.less s.c)) else none
            | none => none
          | some (.look t p) => match shapeT P t s.c with
            | some (res, c') => if s.ok then (xops P ex inl ops n rest { s with tm := putS s.n s.tm o.dst (some res), c := s.c.add (c'.less s.c) } K).map (.look t p res (c'.less s.c)) else none
            | none => none
          | none => none

/-! ### it is sound -/
theorem gdE_ok {W0 : Wd} {ρ : Env} {ops : Array Oper} {s : St} {a : Act} {W : Wd} {o : Oper} {G : E} (h : Holds W0 ρ s a W) (hg : gdE ops s o = some G) : Region.wanted o (yielded ops a.tmps) = G.b ρ := by
  unfold gdE at hg
  unfold Region.wanted
  split at hg
  · rename_i h0
    obtain rfl := Option.some.inj hg
    rw [h0]; rfl
  · rename_i j want h0
    rw [h0]
    show (yielded ops a.tmps j == some want) = _
    split at hg
    · rename_i d hd
      have val : ∀ x : Sy, getT s.tm d = some x → (a.tmps[d]?).getD undef = x.den ρ := fun x hx => by
        have h1 := h.tm (.tmp d) x hx
        simpa [Act.eval, Array.getD_eq_getD_getElem?] using h1
      split at hg
      · rename_i e he
        obtain rfl := Option.some.inj hg
        have h1 := val _ he
        simp only [Sy.den] at h1
        have h2 : a.tmps[d]? = some (.bool (e.b ρ)) := by
          cases hd' : a.tmps[d]? with
          | none => rw [hd'] at h1; cases h1
          | some v => rw [hd'] at h1; simpa using h1
        simp only [yielded, hd, Option.bind_some, h2, litE_b]
        rfl
      · rename_i g w e he
        obtain rfl := Option.some.inj hg
        have h1 := val _ he
        simp only [Sy.den] at h1
        rw [bandE_b, litE_b, litE_b]
        by_cases hgw : g.b ρ = w
        · rw [if_pos hgw] at h1
          have h2 : a.tmps[d]? = some (.bool (e.b ρ)) := by
            cases hd' : a.tmps[d]? with
            | none => rw [hd'] at h1; cases h1
            | some v => rw [hd'] at h1; simpa using h1
          simp only [yielded, hd, Option.bind_some, h2, hgw, beq_self_eq_true, Bool.true_and]
          rfl
        · rw [if_neg hgw] at h1
          have h2 : yielded ops a.tmps j = none := by
            simp only [yielded, hd, Option.bind_some]
            cases hd' : a.tmps[d]? with
            | none => rfl
            | some v => rw [hd'] at h1; simp only [Option.getD_some] at h1; rw [h1]; rfl
          rw [h2]
          have h3 : (g.b ρ == w) = false := by simpa using hgw
          rw [h3]; rfl
      · rename_i he
        obtain rfl := Option.some.inj hg
        have h1 := val _ he
        simp only [Sy.den] at h1
        have h2 : yielded ops a.tmps j = none := by
          simp only [yielded, hd, Option.bind_some]
          cases hd' : a.tmps[d]? with
          | none => rfl
          | some v => rw [hd'] at h1; simp only [Option.getD_some] at h1; rw [h1]
        rw [h2]; rfl
      · cases hg
    · cases hg

theorem chks_den {n0 : Nat} {R : Value → Wd → Prop} {L : Lv} {ρ : Env} {W : Wd} {kn : Kn} (hk : Kn.holds ρ kn) : ∀ {cs : List E} {t : Tree}, (chks kn cs t).den P n0 R L ρ W → allB ρ cs ∧ t.den P n0 R L ρ W
  | [], t, h => ⟨trivial, h⟩
  | e :: _, t, h => by
    simp only [chks] at h
    split at h
    · rename_i hd
      have := chks_den hk h
      exact ⟨⟨dec_ok hk e hd, this.1⟩, this.2⟩
    · have := chks_den hk h.2
      exact ⟨⟨h.1, this.1⟩, this.2⟩
theorem learns_ok {ρ : Env} : ∀ {cs : List E} {kn : Kn}, Kn.holds ρ kn → allB ρ cs → Kn.holds ρ (learns kn cs)
  | [], _, hk, _ => hk
  | e :: _, kn, hk, h => learns_ok (kn := know e true kn) (know_ok e hk h.1) h.2

theorem setB_spec (ρ : Env) : ∀ (hp : List Blk) (m : Nat) (b : Blk) (cs : List Sy), findB hp m = some b → (hp.Pairwise fun a b => gd ρ.M a.m 0 ≠ gd ρ.M b.m 0) →
    (∀ x ∈ setB hp m cs, x = { b with cs := cs } ∨ (x ∈ hp ∧ gd ρ.M x.m 0 ≠ gd ρ.M b.m 0)) ∧ (setB hp m cs).map (·.m) = hp.map (·.m)
  | [], _, _, _, h, _ => by cases h
  | a :: l, m, b, cs, h, hp => by
    simp only [findB] at h
    simp only [setB]
    rw [List.pairwise_cons] at hp
    split at h
    · rename_i e
      obtain rfl := Option.some.inj h
      rw [if_pos e]
      refine ⟨fun x hx => ?_, by simp⟩
      rcases List.mem_cons.1 hx with h1 | h1
      · exact .inl h1
      · exact .inr ⟨List.mem_cons_of_mem _ h1, fun e2 => hp.1 x h1 e2.symm⟩
    · rename_i e
      rw [if_neg e]
      obtain ⟨i1, i2⟩ := setB_spec ρ l m b cs h hp.2
      refine ⟨fun x hx => ?_, by simp [i2]⟩
      rcases List.mem_cons.1 hx with h1 | h1
      · subst h1
        exact .inr ⟨List.mem_cons_self .., hp.1 b (findB_mem h).1⟩
      · rcases i1 x h1 with h2 | h2
        · exact .inl h2
        · exact .inr ⟨List.mem_cons_of_mem _ h2.1, h2.2⟩
theorem pairwise_map_m (ρ : Env) {a b : List Blk} (h : a.map (·.m) = b.map (·.m)) (hb : b.Pairwise fun x y => gd ρ.M x.m 0 ≠ gd ρ.M y.m 0) : a.Pairwise fun x y => gd ρ.M x.m 0 ≠ gd ρ.M y.m 0 := by
  have h1 : (b.map (·.m)).Pairwise fun x y => gd ρ.M x 0 ≠ gd ρ.M y 0 := (List.pairwise_map (R := fun x y => gd ρ.M x 0 ≠ gd ρ.M y 0)).2 hb
  rw [← h] at h1
  exact (List.pairwise_map (R := fun x y => gd ρ.M x 0 ≠ gd ρ.M y 0)).1 h1

/-- the world behind a call, or behind more draws and new blocks -/
def Wd.up (W : Wd) (w' : World) (h : Below W.w.heap.size W.w w') : Wd :=
  ⟨w', fun b => W.I b ∨ (W.w.heap.size ≤ b ∧ b < w'.heap.size), fun b hb => hb.elim (fun h1 => Nat.lt_of_lt_of_le (W.lt b h1) h.size) (fun h1 => h1.2)⟩
theorem Wd.up_ext (W : Wd) (w' : World) (h : Below W.w.heap.size W.w w') : Ext W (W.up w' h) := ⟨h.size, fun _ h1 => .inl h1, fun b h1 => h.block b (W.lt b h1)⟩
theorem Wd.up_new (W : Wd) (w' : World) (h : Below W.w.heap.size W.w w') : NewIn W.w.heap.size (W.up w' h) := fun _ h1 h2 => .inr ⟨h1, h2⟩
theorem BlksAt.lt {ρ : Env} {hp : List Blk} {w : World} (h : BlksAt ρ hp w) {b : Blk} (hb : b ∈ hp) : gd ρ.M b.m 0 < w.heap.size := by
  have := h b hb
  unfold Blk.at at this
  exact (Array.getElem?_eq_some_iff.1 this).1
theorem BlksAt.up {ρ : Env} {hp : List Blk} {w w' : World} (h : BlksAt ρ hp w) (hb : Below w.heap.size w w') : BlksAt ρ hp w' := fun b hm => by
  have := h b hm
  unfold Blk.at at *
  rw [hb.block _ (h.lt hm)]
  exact this
theorem Holds.grow {W0 : Wd} {ρ : Env} {s : St} {a : Act} {W : Wd} (h : Holds W0 ρ s a W) (w' : World) (hb : Below W.w.heap.size W.w w') : Holds W0 ρ s a (W.up w' hb) :=
  ⟨h.cnt, h.good, h.tm, h.len, h.df, h.hp.up hb, h.ro.up hb, h.old, fun b hm => ⟨(h.own b hm).1, fun hI => hI.elim (h.own b hm).2 (fun h1 => by have := h.hp.lt hm; omega)⟩, h.nd, h.kn,
    Below.trans h.up (Below.mono hb h.up.size), fun b hI => hI.elim (h.sub b) (fun h1 => .inr (Nat.le_trans h.up.size h1.1)), h.ext.trans (W.up_ext w' hb)⟩
/-- a new block -/
def Wd.plus (W : Wd) (o : Obj) : Wd := ⟨W.w.alloc o, W.I, fun b hb => by have := W.lt b hb; simp; omega⟩
theorem Wd.plus_ext (W : Wd) (o : Obj) : Ext W (W.plus o) := ⟨by simp [Wd.plus], fun _ h => h, fun b hb => Below.heap_alloc _ _ _ (W.lt b hb)⟩
theorem Holds.new {W0 : Wd} {ρ : Env} {s : St} {a : Act} {W : Wd} (h : Holds W0 ρ s a W) (ho : s.ok = true) (ty : TypeId) (cs : List Sy) (hcs : Sy.oks s.c cs = true) :
    Holds W0 (ρ.push { M := [W.w.heap.size] }) { s with hp := ⟨s.c.M, ty, cs⟩ :: s.hp, c := s.c.add { M := 1 } } a (W.plus (.cells (Sy.dens ρ cs).toArray ty)) := by
  have hd : ({ M := [W.w.heap.size] } : Env).good := fun v hv => by cases hv
  have h1 := h.push ho hd
  have hM : ρ.M.length = s.c.M := by rw [← h.cnt]; rfl
  have hnew : gd (ρ.push { M := [W.w.heap.size] }).M s.c.M 0 = W.w.heap.size := by
    show gd (ρ.M ++ [W.w.heap.size]) s.c.M 0 = _
    rw [← hM]
    clear hM h1 hd hcs ho h
    induction ρ.M with
    | nil => rfl
    | cons x l ih => exact ih
  have hlt : ∀ b ∈ s.hp, gd (ρ.push { M := [W.w.heap.size] }).M b.m 0 < W.w.heap.size := fun b hb => h1.hp.lt hb
  refine ⟨h1.cnt, h1.good, h1.tm, h1.len, h1.df, ?_, fun b hb => ?_, h1.old, ?_, ?_, h1.kn, ?_, h1.sub, h1.ext.trans (W.plus_ext _)⟩
  rotate_left
  · have h2 := h1.ro b hb
    have h3 := h1.ro.lt hb
    unfold Blk.at at *
    rw [← h2]
    exact Below.heap_alloc _ _ _ h3
  rotate_right
  · intro b hb
    rcases List.mem_cons.1 hb with e | e
    · subst e
      unfold Blk.at
      rw [hnew, Sy.pushes ρ _ cs (by rw [h.cnt]; exact hcs)]
      show (W.w.heap.push _)[W.w.heap.size]? = _
      simp
    · have := h1.hp b e
      unfold Blk.at at *
      rw [← this]
      exact Below.heap_alloc _ _ _ (hlt b e)
  · intro b hb
    rcases List.mem_cons.1 hb with e | e
    · subst e
      rw [hnew]
      exact ⟨h.up.size, fun hI => by have := W.lt _ hI; omega⟩
    · exact h1.own b e
  · rw [List.pairwise_cons]
    refine ⟨fun b hb => ?_, h1.nd⟩
    rw [hnew]
    have := hlt b hb
    omega
  · exact Below.alloc h1.up h.up.size _
/-- a store into a block of one's own -/
def Wd.row (W : Wd) (g : Nat) (cs : Array Value) : Wd := ⟨W.w.setRow g cs, W.I, fun b hb => by have := W.lt b hb; simpa using this⟩
theorem Holds.upd {W0 : Wd} {ρ : Env} {s : St} {a : Act} {W : Wd} (h : Holds W0 ρ s a W) {m : Nat} {b : Blk} (hf : findB s.hp m = some b) (cs : List Sy) :
    Ext W (W.row (gd ρ.M m 0) (Sy.dens ρ cs).toArray) ∧ Holds W0 ρ { s with hp := setB s.hp m cs } a (W.row (gd ρ.M m 0) (Sy.dens ρ cs).toArray) := by
  obtain ⟨hm, rfl⟩ := findB_mem hf
  obtain ⟨s1, s2⟩ := setB_spec ρ s.hp b.m b cs hf h.nd
  have hat := h.hp b hm
  have hown := h.own b hm
  unfold Blk.at at hat
  have x : Ext W (W.row (gd ρ.M b.m 0) (Sy.dens ρ cs).toArray) := ⟨by simp [Wd.row], fun _ h => h, fun k hk => setRow_other _ _ _ _ (fun e => hown.2 (e ▸ hk))⟩
  refine ⟨x, h.cnt, h.good, h.tm, h.len, h.df, ?_, fun y hy => ?_, h.old, ?_, ?_, h.kn, ?_, h.sub, h.ext.trans x⟩
  rotate_left
  · have h2 := h.ro y hy
    have h3 := h.old y hy
    unfold Blk.at at *
    rw [← h2]
    exact setRow_other _ _ _ _ (by omega)
  rotate_right
  · intro y hy
    unfold Blk.at
    rcases s1 y hy with e | e
    · subst e
      exact setRow_heap W.w _ _ _ _ (0, 0) hat
    · have := h.hp y e.1
      unfold Blk.at at this
      rw [← this]
      exact setRow_other _ _ _ _ e.2
  · intro y hy
    rcases s1 y hy with e | e
    · subst e; exact hown
    · exact h.own y e.1
  · exact pairwise_map_m ρ s2 h.nd
  · exact Below.trans h.up ⟨rfl, rfl, rfl, by simp [Wd.row], fun k hk => setRow_other _ _ _ _ (by omega)⟩

/-- one operation with an effect -/
theorem xeff_new {W0 : Wd} {ρ : Env} {s : St} {a : Act} {W : Wd} (h : Holds W0 ρ s a W) {o : Oper} {ty : TypeId} {cs : List Sy} {v : Sy} (hx : xeff P s o.op = some (.new ty cs v)) {ρ' : Env} (hρ : gd ρ'.M s.c.M 0 = W.w.heap.size) :
    (execOp a.eval o).run P W.w = .ok (.value (v.den ρ')) (W.w.alloc (.cells (Sy.dens ρ cs).toArray ty)) := by
  obtain ⟨dst, op, oty, pos, after, guard⟩ := o
  dsimp only at hx
  cases op <;> simp only [xeff] at hx <;> try (cases hx; done)
  case alloc t =>
    split at hx
    · rename_i z hz
      have e := Option.some.inj hx
      injection e with e1 e2 e3
      subst e1 e2 e3
      obtain ⟨it, hit, hz'⟩ := Option.bind_eq_some_iff.1 hz
      simp [execOp, Instr.alloc, zeroValue, typeInfo, hit, hz', newVar, newRow, dens_ofCell, Sy.den, hρ]
    · cases hx
  case box t x =>
    split at hx
    · rename_i l hl
      have e := Option.some.inj hx
      injection e with e1 e2 e3
      subst e1 e2 e3
      obtain ⟨y, hy, hc⟩ := Option.bind_eq_some_iff.1 hl
      have h1 := (Sy.cells_den h.good hc).1
      simp [execOp, Instr.box, newVar, newRow, h.tm _ _ hy, h1, Sy.den, hρ]
    · cases hx
  case buildSlice t len ps =>
    split at hx
    · rename_i el l hu hl
      split at hx
      · rename_i ie hie
        split at hx
        · rename_i z hz
          split at hx
          · rename_i hlen
            obtain ⟨r, hr, e⟩ := Option.map_eq_some_iff.1 hx
            injection e with e1 e2 e3
            subst e1 e2 e3
            have h1 := fillS_den (ρ := ρ) h.good _ l _ r hr
            rw [dens_ofCell, Array.toArray_toList] at h1
            have h2 := evParts_den h.tm _ _ hl
            have h3 : (ps.map fun p => (p.1, a.eval p.2)).toList = l.map fun p => (p.1, p.2.den ρ) := by rw [Array.toList_map, h2]
            have hs : (sizeOf el).run P W.w = .ok ie.size W.w := by simp [sizeOf, typeInfo, hie]
            have hzv : (zeroValue el).run P W.w = .ok z W.w := by simp [zeroValue, typeInfo, hie, hz]
            have hno : ¬ (len * ie.size > 2 ^ 24) := by omega
            simp only [execOp, Instr.buildSlice, Sem.run_bind, run_underlying hu, Result.andThen_ok, hs, Sem.run_pure, h3]
            rw [if_neg hno]
            by_cases h0 : len * ie.size = 0
            · simp only [h0, if_true, Sem.run_pure, Sem.run_bind, Result.andThen_ok]
              simp only [h0] at h1
              have e0 : ∀ f : Nat → Value, (Array.range 0).map f = #[] := fun f => by simp
              rw [e0] at h1
              rw [e0, h1]
              simp [newRow, Sy.den, hρ]
            · simp only [h0, if_false, Sem.run_bind, hzv, Result.andThen_ok, Sem.run_pure]
              rw [h1]
              simp [newRow, Sy.den, hρ]
          · cases hx
        · cases hx
      · cases hx
    · cases hx
  case store t p x => (repeat' split at hx) <;> first | (cases hx; done) | skip
  case load t p => (repeat' split at hx) <;> first | (cases hx; done) | skip
  case call c =>
    obtain ⟨callee, args, ts⟩ := c
    cases callee <;> simp only at hx <;> (repeat' split at hx) <;> first | (cases hx; done) | skip
theorem xeff_upd {W0 : Wd} {ρ : Env} {s : St} {a : Act} {W : Wd} (h : Holds W0 ρ s a W) {o : Oper} {m : Nat} {cs : List Sy} (hx : xeff P s o.op = some (.upd m cs)) :
    (∃ b, findB s.hp m = some b) ∧ (execOp a.eval o).run P W.w = .ok .skip (W.w.setRow (gd ρ.M m 0) (Sy.dens ρ cs).toArray) := by
  obtain ⟨dst, op, oty, pos, after, guard⟩ := o
  dsimp only at hx
  cases op <;> simp only [xeff] at hx <;> try (cases hx; done)
  case store t p x =>
    split at hx
    · rename_i m' off vs n hp hv hn
      split at hx
      · rename_i b hb
        split at hx
        · rename_i hl
          have e := Option.some.inj hx
          injection e with e1 e2
          subst e1 e2
          obtain ⟨y, hy, hc⟩ := Option.bind_eq_some_iff.1 hv
          obtain ⟨hm, rfl⟩ := findB_mem hb
          have hat := h.hp b hm
          unfold Blk.at at hat
          refine ⟨⟨b, hb⟩, ?_⟩
          have := run_stS (P := P) h.good hc hn hl.1 hl.2 hat
          simp [execOp, Instr.storeAt, Instr.sureAddr, h.tm _ _ hp, Sy.den, h.tm _ _ hy, this]
        · cases hx
      · cases hx
    · cases hx
  case buildSlice t len ps =>
    (repeat' split at hx) <;> first | (cases hx; done) | (obtain ⟨r, hr, e⟩ := Option.map_eq_some_iff.1 hx; cases e)
  case alloc t => split at hx <;> first | (cases hx; done) | skip
  case box t x => split at hx <;> first | (cases hx; done) | skip
  case load t p => (repeat' split at hx) <;> first | (cases hx; done) | skip
  case call c =>
    obtain ⟨callee, args, ts⟩ := c
    cases callee <;> simp only at hx <;> (repeat' split at hx) <;> first | (cases hx; done) | skip
theorem xeff_call {W0 : Wd} {ρ : Env} {s : St} {a : Act} {W : Wd} (h : Holds W0 ρ s a W) {o : Oper} {f : FuncId} {args : List Sy} (hx : xeff P s o.op = some (.call f args)) (w : World) :
    (execOp a.eval o).run P w = .ok (.enter f (Sy.dens ρ args).toArray) w := by
  obtain ⟨dst, op, oty, pos, after, guard⟩ := o
  dsimp only at hx
  cases op <;> simp only [xeff] at hx <;> try (cases hx; done)
  case store t p x => (repeat' split at hx) <;> first | (cases hx; done) | skip
  case buildSlice t len ps =>
    (repeat' split at hx) <;> first | (cases hx; done) | (obtain ⟨r, hr, e⟩ := Option.map_eq_some_iff.1 hx; cases e)
  case alloc t => split at hx <;> first | (cases hx; done) | skip
  case box t x => split at hx <;> first | (cases hx; done) | skip
  case load t p => (repeat' split at hx) <;> first | (cases hx; done) | skip
  case call c =>
    obtain ⟨callee, cargs, ts⟩ := c
    cases callee <;> simp only at hx <;> try (cases hx; done)
    rename_i fo
    split at hx
    · rename_i g caps l hf hl
      split at hx
      · rename_i fn hfn
        split at hx
        · rename_i hb
          have e := Option.some.inj hx
          injection e with e1 e2
          subst e1 e2
          have h1 := evsS_den h.tm _ _ hl
          have h2 : cargs.map a.eval = (Sy.dens ρ l).toArray := by rw [← h1, ← Array.toList_map]
          have h3 : fn.body.isNone = false := by cases hbd : fn.body <;> simp_all
          simp only [execOp, resolve, Deferred.ofValue, h.tm _ _ hf, Sy.den, Sem.run_bind, Sem.run_pure, Result.andThen_ok, h2, invoke, callFunc, run_program, hfn]
          simp only [hb.2, Bool.false_eq_true, if_false, h3, Sem.run_pure]
          simp [Sy.dens_eq]
        · cases hx
      · cases hx
    · cases hx
theorem xeff_look {W0 : Wd} {ρ : Env} {s : St} {a : Act} {W : Wd} (h : Holds W0 ρ s a W) {o : Oper} {t : TypeId} {p : Sy} (hx : xeff P s o.op = some (.look t p)) {w : World} {v : Value}
    (hl : (Instr.loadAt t (p.den ρ)).run P w = .ok v w) : (execOp a.eval o).run P w = .ok (.value v) w := by
  obtain ⟨dst, op, oty, pos, after, guard⟩ := o
  dsimp only at hx
  cases op <;> simp only [xeff] at hx <;> try (cases hx; done)
  case store t p x => (repeat' split at hx) <;> first | (cases hx; done) | skip
  case buildSlice t len ps =>
    (repeat' split at hx) <;> first | (cases hx; done) | (obtain ⟨r, hr, e⟩ := Option.map_eq_some_iff.1 hx; cases e)
  case alloc t => split at hx <;> first | (cases hx; done) | skip
  case box t x => split at hx <;> first | (cases hx; done) | skip
  case load t' p' =>
    split at hx
    all_goals first | (cases hx; done) | skip
    all_goals
      rename_i he
      have e := Option.some.inj hx
      injection e with e1 e2
      subst e1 e2
      simp only [execOp, h.tm _ _ he, Sem.run_bind, hl, Result.andThen_ok, Sem.run_pure]
  case call c =>
    obtain ⟨callee, args, ts⟩ := c
    cases callee <;> simp only at hx <;> (repeat' split at hx) <;> first | (cases hx; done) | skip
end Go.SE
end
section
set_option linter.unusedVariables false
namespace Go.SE
open Go Go.RowKit

variable {P : Program}

def maskOf : List Nat → Nat
  | [] => 0
  | t :: l => 2 ^ t ||| maskOf l
theorem maskOf_bit : ∀ (l : List Nat) (t : Nat), (maskOf l).testBit t = l.contains t
  | [], t => by simp [maskOf]
  | a :: l, t => by
    simp only [maskOf, Nat.testBit_or, maskOf_bit l t, List.contains_cons, Nat.testBit_two_pow]
    by_cases h : a = t
    · subst h; simp
    · have h1 : (t == a) = false := by rw [beq_eq_false_iff_ne]; exact fun e => h e.symm
      rw [h1, decide_eq_false h]
/-- what an operation writes, what it looks at, what it waits for -/
structure Sum where
  d : Nat
  l : Nat
  p : Nat
def sumOf (ops : Array Oper) (o : Oper) : Sum := ⟨maskOf o.dst.toList, maskOf (o.looksAt ops), maskOf (o.after.toList.filterMap fun e => if Region.binds .any e then some e.on else none)⟩
def apartM (x y : Sum) : Bool := Nat.beq (Nat.land x.d y.l) 0 && (Nat.beq (Nat.land x.d y.d) 0 && Nat.beq (Nat.land y.d x.l) 0)
def laterM (k : Nat) (x : Sum) : List Sum → Bool
  | [] => true
  | y :: l => (y.p.testBit k || apartM x y) && laterM k x l
def quickM : Nat → List Sum → Bool
  | _, [] => true
  | k, x :: l => (Nat.beq (Nat.shiftRight x.p k) 0 && laterM k x l) && quickM (k + 1) l
def quickB (ops : Array Oper) : Bool := Region.noSelect ops && quickM 0 (ops.toList.map (sumOf ops))

theorem land_zero {a b t : Nat} (h : Nat.beq (Nat.land a b) 0 = true) (ha : a.testBit t = true) : b.testBit t = false := by
  have h := Nat.eq_of_beq_eq_true h
  have h2 : (a &&& b).testBit t = false := by
    show (Nat.land a b).testBit t = false
    rw [h]; simp
  rw [Nat.testBit_and, ha, Bool.true_and] at h2
  exact h2
theorem apartM_ok {ops : Array Oper} {x y : Oper} (h : apartM (sumOf ops x) (sumOf ops y) = true) : x.apart ops y = true := by
  simp only [apartM, sumOf, Bool.and_eq_true] at h
  obtain ⟨h1, h2, h3⟩ := h
  unfold Oper.apart
  rw [Bool.and_eq_true]
  constructor
  · cases hx : x.dst with
    | none => rfl
    | some d =>
      have e1 := land_zero h1 (t := d) (by rw [maskOf_bit, hx]; simp)
      have e2 := land_zero h2 (t := d) (by rw [maskOf_bit, hx]; simp)
      rw [maskOf_bit] at e1 e2
      simp only [Bool.and_eq_true, Bool.not_eq_true', bne_iff_ne]
      refine ⟨e1, fun e => ?_⟩
      rw [e] at e2
      simp at e2
  · cases hy : y.dst with
    | none => rfl
    | some d =>
      have e3 := land_zero h3 (t := d) (by rw [maskOf_bit, hy]; simp)
      rw [maskOf_bit] at e3
      show (!(x.looksAt ops).contains d) = true
      rw [e3]; rfl
theorem pred_ok {ops : Array Oper} {o : Oper} {k : Nat} (h : (sumOf ops o).p.testBit k = true) : ∃ e ∈ o.after, Region.binds .any e = true ∧ e.on = k := by
  simp only [sumOf, maskOf_bit] at h
  rw [List.contains_iff_mem, List.mem_filterMap] at h
  obtain ⟨e, he, hk⟩ := h
  split at hk
  · rename_i hb
    exact ⟨e, by simpa using he, hb, Option.some.inj hk⟩
  · cases hk
theorem preds_lt {ops : Array Oper} {o : Oper} {k : Nat} (h : Nat.beq (Nat.shiftRight (sumOf ops o).p k) 0 = true) : ∀ e ∈ o.after, Region.binds .any e = true → e.on < k := by
  intro e he hb
  have h := Nat.eq_of_beq_eq_true h
  have h1 : (sumOf ops o).p.testBit e.on = true := by
    simp only [sumOf, maskOf_bit]
    rw [List.contains_iff_mem, List.mem_filterMap]
    exact ⟨e, by simpa using he, by rw [if_pos hb]⟩
  rcases Nat.lt_or_ge e.on k with h2 | h2
  · exact h2
  · exfalso
    have h3 : ((sumOf ops o).p >>> k).testBit (e.on - k) = true := by rw [Nat.testBit_shiftRight]; rw [show k + (e.on - k) = e.on from by omega]; exact h1
    have h4 : (sumOf ops o).p >>> k = 0 := h
    rw [h4] at h3
    simp at h3
theorem laterM_ok {ops : Array Oper} {k : Nat} {x : Sum} : ∀ {l : List Oper}, laterM k x (l.map (sumOf ops)) = true → ∀ o ∈ l, (sumOf ops o).p.testBit k = true ∨ apartM x (sumOf ops o) = true
  | [], _, _, h => by cases h
  | y :: l, h, o, ho => by
    simp only [List.map_cons, laterM, Bool.and_eq_true, Bool.or_eq_true] at h
    rcases List.mem_cons.1 ho with e | e
    · subst e; exact h.1
    · exact laterM_ok h.2 o e
/-- the first k are listed -/
def firsts (n k : Nat) : Array Bool := (Array.range n).map fun j => decide (j < k)
theorem firsts_getD (n k j : Nat) (b : Bool) : (firsts n k).getD j b = if j < n then decide (j < k) else b := by
  unfold firsts
  rw [Array.getD_eq_getD_getElem?]
  by_cases h : j < n
  · simp [h]
  · rw [if_neg h, Array.getElem?_eq_none (by simp; omega)]; rfl
theorem firsts_set (n k : Nat) : (firsts n k).setIfInBounds k true = firsts n (k + 1) := by
  apply Array.ext
  · simp [firsts]
  · intro i h1 h2
    simp only [firsts, Array.size_setIfInBounds, Array.size_map, Array.size_range] at h1
    rw [Array.getElem_setIfInBounds]
    · simp only [firsts, Array.getElem_map, Array.getElem_range]
      by_cases e : k = i
      · subst e; simp
      · rw [if_neg e]; congr 1; simp; omega
    · simpa [firsts] using h1
theorem wpAnyQ_quick {ops : Array Oper} {C : World → Prop} {Q : Act → Prop} (hs : Region.noSelect ops = true) : ∀ (l : List Oper) (k : Nat) (a : Act), (∀ j : Nat, l[j]? = ops[k + j]?) → k + l.length = ops.size →
    quickM k (l.map (sumOf ops)) = true → wpQuiet P ops C Q l a → wpAnyQ P .any ops C Q l.length (firsts ops.size k) a
  | [], k, a, _, hn, _, h => by
    refine ⟨?_, h⟩
    rw [List.eq_nil_iff_forall_not_mem]
    intro j hj
    obtain ⟨h0, o, ho, _⟩ := mem_ready.1 hj
    have hjn : j < ops.size := (Array.getElem?_eq_some_iff.1 ho).1
    rw [firsts_getD, if_pos hjn] at h0
    simp at hn h0
    omega
  | o :: l, k, a, hl, hn, hB, h => by
    have h0 : ops[k]? = some o := by simpa using (hl 0).symm
    have hkn : k < ops.size := (Array.getElem?_eq_some_iff.1 h0).1
    simp only [List.map_cons, quickM, Bool.and_eq_true] at hB
    obtain ⟨⟨hr, hf⟩, hB'⟩ := hB
    have hst : qOp P ops C k (wpQuiet P ops C Q l) a := by unfold qOp; simp only [h0]; exact h
    obtain ⟨v, hy, hK⟩ := yieldsIn_of_qOp h0 hst
    refine wpAnyQ_first h0 (Region.noSelect_spec hs) l.length (firsts ops.size k) a ?_ ?_ hy ?_
    · intro j oj hj hjk hun hno
      have hjn : j < ops.size := (Array.getElem?_eq_some_iff.1 hj).1
      rw [firsts_getD, if_pos hjn] at hun
      have hgt : k < j := by simp at hun; omega
      have hmem : oj ∈ l := by
        have := hl (j - k)
        rw [show k + (j - k) = j from by omega, hj] at this
        rw [show j - k = (j - k - 1) + 1 from by omega, List.getElem?_cons_succ] at this
        exact List.mem_of_getElem? this
      rcases laterM_ok hf oj hmem with h1 | h1
      · obtain ⟨e, he, hb, hek⟩ := pred_ok h1
        exact absurd hek (hno e he hb)
      · exact apartM_ok h1
    · rw [mem_ready]
      refine ⟨by rw [firsts_getD, if_pos hkn]; simp, o, h0, fun e he hb => ?_⟩
      have := preds_lt hr e he hb
      rw [firsts_getD, if_pos (by omega)]
      simpa using this
    · rw [firsts_set]
      exact wpAnyQ_quick hs l (k + 1) _ (fun j => by have := hl (j + 1); simpa [Nat.add_assoc, Nat.add_comm 1 j] using this) (by simp at hn; omega) hB' hK
theorem wp_region_quick {id : Nat} {ops : Array Oper} {C : World → Prop} {Q : Exit → Act → World → Prop} {a : Act} {w : World} (hm : P.follows .mixedOrders = true) (hB : quickB ops = true) (hC : C { w with drawn := w.drawn + 1 })
    (h : wpQuiet P ops C (fun a' => ∀ w', C w' → Q .normal a' w') ops.toList a) : (Code.region id ops true).wp P Q a w := by
  simp only [quickB, Bool.and_eq_true] at hB
  refine wp_region_any hm (wpAny_of_quiet (Q := fun a' => ∀ w', C w' → Q .normal a' w') (fun _ w' hw' h => h w' hw') _ _ _ _ hC ?_)
  have h1 := wpAnyQ_quick (P := P) (C := C) hB.1 ops.toList 0 a (by simp) (by simp) hB.2 h
  have e : firsts ops.size 0 = Array.replicate ops.size false := by
    apply Array.ext
    · simp [firsts]
    · intro i h1 h2
      simp [firsts]
  rw [e] at h1
  simpa using h1
end Go.SE
end
section
set_option linter.unusedVariables false
namespace Go.SE
open Go Go.RowKit

variable {P : Program}

/-- what the rest must do -/
def KOk (P : Program) (W0 : Wd) (R : Value → Wd → Prop) (L : Lv) (ρ : Env) (W : Wd) (n : Nat) (K : St → Option Tree) (Q : Act → World → Prop) : Prop :=
  ∀ s' t' e a' W', K s' = some t' → Ext W W' → s'.lp = n → Holds W0 (ρ.push e) s' a' W' → t'.den P W0.w.heap.size R L (ρ.push e) W' → Q a' W'.w

theorem push_push (ρ d e : Env) : (ρ.push d).push e = ρ.push (d.push e) := by simp [Env.push]
theorem push_nil (ρ : Env) : ρ.push {} = ρ := by simp [Env.push]
theorem KOk.step {W0 : Wd} {R : Value → Wd → Prop} {L : Lv} {ρ d : Env} {W W1 : Wd} {n : Nat} {K : St → Option Tree} {Q : Act → World → Prop} (h : KOk P W0 R L ρ W n K Q) (x : Ext W W1) : KOk P W0 R L (ρ.push d) W1 n K Q :=
  fun s' t' e a' W' h1 hx hl h2 h3 => h s' t' (d.push e) a' W' h1 (x.trans hx) hl (by rw [← push_push]; exact h2) (by rw [← push_push]; exact h3)
theorem KOk.more {W0 : Wd} {R : Value → Wd → Prop} {L : Lv} {ρ : Env} {W W1 : Wd} {n : Nat} {K : St → Option Tree} {Q : Act → World → Prop} (h : KOk P W0 R L ρ W n K Q) (x : Ext W W1) : KOk P W0 R L ρ W1 n K Q :=
  fun s' t' e a' W' h1 hx hl h2 h3 => h s' t' e a' W' h1 (x.trans hx) hl h2 h3

theorem map_some {α β : Type} {x : Option α} {f : α → β} {y : β} (h : x.map f = some y) : ∃ z, x = some z ∧ y = f z := by
  cases x with
  | none => cases h
  | some z => exact ⟨z, rfl, (Option.some.inj h).symm⟩

def InlOk (P : Program) (inl : Inl) : Prop :=
  ∀ f args ro c t, inl f args ro c = some t → ∀ (ρ : Env) (W : Wd) (R : Value → Wd → Prop), ρ.cnt = c → ρ.good → BlksAt ρ ro W.w → t.den P W.w.heap.size R [] ρ W → CallsI P f (Sy.dens ρ args).toArray W R
theorem splice_ok {W0 : Wd} {n0 : Nat} {R : Value → Wd → Prop} {L : Lv} {ρ : Env} {a : Act} {W : Wd} : ∀ (t : Tree) (s : St) (k : Sy → St → Option Tree) (T : Tree), pureT s.c t = true → splice t s k = some T → Holds W0 ρ s a W → T.den P n0 R L ρ W →
    ∃ v s' T', k v s' = some T' ∧ T'.den P n0 R L ρ W ∧ Holds W0 ρ s' a W ∧ s'.lp = s.lp ∧ ∀ n1 W1 e, t.den P n1 (fun u _ => u = v.den ρ) [] (ρ.push e) W1 := by
  intro t
  induction t with
  | ret v hp =>
    intro s k T hp hx hh hT
    refine ⟨v, s, T, hx, hT, hh, rfl, fun n1 W1 e W' _ _ _ _ => ?_⟩
    simp only [pureT] at hp
    rw [← hh.cnt] at hp
    exact Sy.push ρ e v hp
  | br c t1 t2 ih1 ih2 =>
    intro s k T hp hx hh hT
    simp only [pureT, Bool.and_eq_true] at hp
    obtain ⟨⟨p1, p2⟩, p3⟩ := hp
    have hc : ∀ e, c.b (ρ.push e) = c.b ρ := fun e => (E.push ρ e c (by rw [hh.cnt]; exact p1)).2.1
    have left : c.b ρ = true → (∃ v s' T', k v s' = some T' ∧ T'.den P n0 R L ρ W ∧ Holds W0 ρ s' a W ∧ s'.lp = s.lp ∧ ∀ n1 W1 e, t1.den P n1 (fun u _ => u = v.den ρ) [] (ρ.push e) W1) →
        ∃ v s' T', k v s' = some T' ∧ T'.den P n0 R L ρ W ∧ Holds W0 ρ s' a W ∧ s'.lp = s.lp ∧ ∀ n1 W1 e, (Tree.br c t1 t2).den P n1 (fun u _ => u = v.den ρ) [] (ρ.push e) W1 := by
      rintro hb ⟨v, s', T', h1, h2, h3, h4, h5⟩
      exact ⟨v, s', T', h1, h2, h3, h4, fun n1 W1 e => ⟨fun _ => h5 n1 W1 e, fun h => by rw [hc, hb] at h; cases h⟩⟩
    have right : c.b ρ = false → (∃ v s' T', k v s' = some T' ∧ T'.den P n0 R L ρ W ∧ Holds W0 ρ s' a W ∧ s'.lp = s.lp ∧ ∀ n1 W1 e, t2.den P n1 (fun u _ => u = v.den ρ) [] (ρ.push e) W1) →
        ∃ v s' T', k v s' = some T' ∧ T'.den P n0 R L ρ W ∧ Holds W0 ρ s' a W ∧ s'.lp = s.lp ∧ ∀ n1 W1 e, (Tree.br c t1 t2).den P n1 (fun u _ => u = v.den ρ) [] (ρ.push e) W1 := by
      rintro hb ⟨v, s', T', h1, h2, h3, h4, h5⟩
      exact ⟨v, s', T', h1, h2, h3, h4, fun n1 W1 e => ⟨fun h => (by rw [hc, hb] at h; cases h), fun _ => h5 n1 W1 e⟩⟩
    simp only [splice] at hx
    split at hx
    · rename_i hd
      exact left (dec_ok hh.kn c hd) (ih1 s k T p2 hx hh hT)
    · rename_i hd
      exact right (dec_ok hh.kn c hd) (ih2 s k T p3 hx hh hT)
    · split at hx
      · rename_i u1 u2 h1 h2
        obtain rfl := Option.some.inj hx
        cases hb : c.b ρ
        · exact right hb (ih2 { s with kn := know c false s.kn } k u2 p3 h2 (hh.learn hb) (hT.2 hb))
        · exact left hb (ih1 { s with kn := know c true s.kn } k u1 p2 h1 (hh.learn hb) (hT.1 hb))
      · cases hx
  | chk c t ih =>
    intro s k T hp hx hh hT
    simp only [pureT, Bool.and_eq_true] at hp
    simp only [splice] at hx
    obtain ⟨u, hu, rfl⟩ := map_some hx
    obtain ⟨hc, hd⟩ := chks_den hh.kn hT
    have hh' : Holds W0 ρ { s with kn := learns s.kn [c] } a W := ⟨hh.cnt, hh.good, hh.tm, hh.len, hh.df, hh.hp, hh.ro, hh.old, hh.own, hh.nd, learns_ok hh.kn hc, hh.up, hh.sub, hh.ext⟩
    obtain ⟨v, s', T', h1, h2, h3, h4, h5⟩ := ih { s with kn := learns s.kn [c] } k u hp.2 hu hh' hd
    refine ⟨v, s', T', h1, h2, h3, h4, fun n1 W1 e => ⟨?_, h5 n1 W1 e⟩⟩
    rw [(E.push ρ e c (by rw [hh.cnt]; exact hp.1)).2.1]
    exact hc.1
  | new t ih =>
    intro s k T hp hx hh hT
    obtain ⟨v, s', T', h1, h2, h3, h4, h5⟩ := ih s k T hp hx hh hT
    exact ⟨v, s', T', h1, h2, h3, h4, fun n1 W1 e m W' _ => by rw [push_push]; exact h5 n1 W' _⟩
  | wr t ih =>
    intro s k T hp hx hh hT
    obtain ⟨v, s', T', h1, h2, h3, h4, h5⟩ := ih s k T hp hx hh hT
    exact ⟨v, s', T', h1, h2, h3, h4, fun n1 W1 e W' _ => h5 n1 W' e⟩
  | grow t ih =>
    intro s k T hp hx hh hT
    obtain ⟨v, s', T', h1, h2, h3, h4, h5⟩ := ih s k T hp hx hh hT
    exact ⟨v, s', T', h1, h2, h3, h4, fun n1 W1 e W' _ => h5 n1 W' e⟩
  | call => intro s k T hp; simp [pureT] at hp
  | callq => intro s k T hp; simp [pureT] at hp
  | look => intro s k T hp; simp [pureT] at hp
  | loop => intro s k T hp; simp [pureT] at hp
  | again => intro s k T hp; simp [pureT] at hp
theorem useInl_ok {inl : Inl} (hI : InlOk P inl) {f : FuncId} {args : List Sy} {s : St} {t : Tree} (h : useInl inl f args s = some t) : pureT s.c t = true ∧ inl f args (s.hp ++ s.ro) s.c = some t := by
  unfold useInl at h
  split at h
  · rename_i u hu
    split at h
    · rename_i hp; obtain rfl := Option.some.inj h; exact ⟨hp, hu⟩
    · cases h
  · cases h
theorem both_at {ρ : Env} {a b : List Blk} {w : World} (h : BlksAt ρ a w) (k : BlksAt ρ b w) : BlksAt ρ (a ++ b) w := fun x hx => (List.mem_append.1 hx).elim (h x) (k x)

theorem allB_or {ρ : Env} {G : E} (hG : G.b ρ = true) : ∀ {cs : List E}, allB ρ (cs.map (borE (notE G))) → allB ρ cs
  | [], _ => trivial
  | e :: _, h => ⟨by have := h.1; rw [borE_b, notE_b, hG] at this; simpa using this, allB_or hG h.2⟩

theorem xops_ok {inl : Inl} (hI : InlOk P inl) {W0 : Wd} {R : Value → Wd → Prop} {L : Lv} {ex : Bool} {ops : Array Oper} {Q : Exit → Act → World → Prop} {K : St → Option Tree} :
    ∀ (n : Nat) (l : List Oper) (s : St) (t : Tree) (ρ : Env) (a : Act) (W : Wd), xops P ex inl ops n l s K = some t → Holds W0 ρ s a W → t.den P W0.w.heap.size R L ρ W →
      KOk P W0 R L ρ W s.lp K (Q .normal) → wpList P ops Q l a W.w
  | n, [], s, t, ρ, a, W, hx, hh, ht, hK => by
    have hx : K s = some t := by cases n <;> exact hx
    have := hK s t {} a W hx (Ext.refl W) rfl (by rw [push_nil]; exact hh) (by rw [push_nil]; exact ht)
    exact this
  | 0, _ :: _, _, _, _, _, _, hx, _, _, _ => by cases hx
  | n + 1, o :: rest, s, t, ρ, a, W, hx, hh, ht, hK => by
    simp only [xops] at hx
    split at hx
    · cases hx
    rename_i G hgE
    have hwG := gdE_ok hh hgE
    split at hx
    · rename_i hd
      have hw : Region.wanted o (yielded ops a.tmps) = false := by rw [hwG]; exact dec_ok hh.kn G hd
      unfold wpList
      rw [if_neg (by rw [hw]; simp)]
      exact xops_ok hI n rest _ _ ρ _ W hx (hh.put o.dst undef _ (fun y hy => by obtain rfl := Option.some.inj hy; rfl)) ht hK
    · split at hx
      · rename_i cs v hv
        obtain ⟨u, hu, rfl⟩ := map_some hx
        obtain ⟨hc, hd⟩ := chks_den hh.kn ht
        have key : ∀ y : Value, y = (Sy.when G true v).den ρ → wpList P ops Q rest (a.put o.dst y) W.w := fun y hy => by
          have h1 := hh.put o.dst y (some (.when G true v)) (fun z hz => by obtain rfl := Option.some.inj hz; exact hy)
          exact xops_ok hI n rest _ _ ρ _ W hu ⟨h1.cnt, h1.good, h1.tm, h1.len, h1.df, h1.hp, h1.ro, h1.old, h1.own, h1.nd, learns_ok hh.kn hc, h1.up, h1.sub, h1.ext⟩ hd hK
        unfold wpList
        cases hG : G.b ρ
        · rw [if_neg (by rw [hwG, hG]; simp)]
          exact key _ (by simp [Sy.den, hG])
        · rw [if_pos (by rw [hwG, hG])]
          refine .inl ?_
          have hkn := know_ok G hh.kn hG
          have hr := xval_ok hv hh.good (simT_at hh.tm hkn) (both_at hh.hp hh.ro) hkn (allB_or hG hc)
          unfold Oper.wp
          rw [hr]
          exact key _ (by simp [Sy.den, hG])
      · split at hx
        · rename_i t1 t2 h1 h2
          obtain rfl := Option.some.inj hx
          cases hb : G.b ρ
          · exact xops_ok hI n _ _ _ ρ a W h2 (hh.learn hb) (ht.2 hb) hK
          · exact xops_ok hI n _ _ _ ρ a W h1 (hh.learn hb) (ht.1 hb) hK
        · cases hx
    · rename_i hdG
      have hw : Region.wanted o (yielded ops a.tmps) = true := by rw [hwG]; exact dec_ok hh.kn G hdG
      have hhS : Holds W0 ρ { s with tm := simT s.kn s.tm } a W := ⟨hh.cnt, hh.good, simT_at hh.tm hh.kn, hh.len, hh.df, hh.hp, hh.ro, hh.old, hh.own, hh.nd, hh.kn, hh.up, hh.sub, hh.ext⟩
      split at hx
      · rename_i cs v hv
        obtain ⟨u, hu, rfl⟩ := map_some hx
        obtain ⟨hc, hd⟩ := chks_den hh.kn ht
        have hr := xval_ok hv hh.good (simT_at hh.tm hh.kn) (both_at hh.hp hh.ro) hh.kn hc
        unfold wpList
        rw [if_pos hw]
        refine .inl ?_
        unfold Oper.wp
        rw [hr]
        show wpList P ops Q rest (a.put o.dst (v.den ρ)) W.w
        have h1 := hh.put o.dst (v.den ρ) (some v) (fun y hy => by obtain rfl := Option.some.inj hy; rfl)
        exact xops_ok hI n rest _ _ ρ _ W hu ⟨h1.cnt, h1.good, h1.tm, h1.len, h1.df, h1.hp, h1.ro, h1.old, h1.own, h1.nd, learns_ok hh.kn hc, h1.up, h1.sub, h1.ext⟩ hd hK
      · unfold wpList
        rw [if_pos hw]
        refine .inl ?_
        unfold Oper.wp
        split at hx
        · rename_i ty cs v he
          split at hx
          · rename_i hok
            rw [Bool.and_eq_true] at hok
            obtain ⟨u, hu, rfl⟩ := map_some hx
            have hM : ρ.M.length = s.c.M := by rw [← hh.cnt]; rfl
            have hgd : gd (ρ.push { M := [W.w.heap.size] }).M s.c.M 0 = W.w.heap.size := by
              show gd (ρ.M ++ [W.w.heap.size]) s.c.M 0 = _
              rw [← hM]
              clear hM
              induction ρ.M with
              | nil => rfl
              | cons x l ih => exact ih
            rw [xeff_new hhS he hgd]
            show wpList P ops Q rest (a.put o.dst _) (W.w.alloc _)
            have h1 := hh.new hok.1 ty cs hok.2
            have h2 := h1.put o.dst (v.den (ρ.push { M := [W.w.heap.size] })) (some v) (fun y hy => by obtain rfl := Option.some.inj hy; rfl)
            have h3 := ht W.w.heap.size _ (W.plus_ext (.cells (Sy.dens ρ cs).toArray ty))
            exact xops_ok hI n rest _ _ _ _ _ hu h2 h3 (hK.step (W.plus_ext _))
          · cases hx
        · rename_i m cs he
          obtain ⟨u, hu, rfl⟩ := map_some hx
          obtain ⟨⟨b, hb⟩, hr⟩ := xeff_upd hhS he
          rw [hr]
          show wpList P ops Q rest (a.put o.dst undef) (W.w.setRow _ _)
          obtain ⟨h0, h1⟩ := hh.upd hb cs
          have h2 := h1.put o.dst undef (some undefS) (fun y hy => by obtain rfl := Option.some.inj hy; rfl)
          exact xops_ok hI n rest _ _ ρ _ _ hu h2 (ht _ h0) (hK.more h0)
        · rename_i f args he
          split at hx
          · rename_i ti hti
            obtain ⟨hpu, hin⟩ := useInl_ok hI hti
            obtain ⟨v, s', T', h1, h2, h3, h4, h5⟩ := splice_ok ti s _ t hpu hx hh ht
            obtain ⟨u, hu, rfl⟩ := map_some h1
            rw [xeff_call hhS he]
            show Calls P f _ W.w _
            have hc := CallsQ.of_i (hI f args _ s.c ti hin ρ W (fun u _ => u = v.den ρ) hh.cnt hh.good (both_at hh.hp hh.ro) (by have := h5 W.w.heap.size W {}; rwa [push_nil] at this))
            refine Calls.mono hc ?_
            rintro e w' ⟨rfl, hb⟩
            have k1 := (h3.grow w' hb).put o.dst (v.den ρ) (some v) (fun y hy => by obtain rfl := Option.some.inj hy; rfl)
            exact xops_ok hI n rest _ _ ρ _ (W.up w' hb) hu k1 (h2 _ (W.up_ext w' hb)) (by have := hK.more (W.up_ext w' hb); rw [← h4] at this; exact this)
          split at hx
          · rename_i res c' hs
            split at hx
            · rename_i hok
              obtain ⟨u, hu, rfl⟩ := map_some hx
              rw [xeff_call hhS he]
              show Calls P f _ W.w _
              have hc := ht (reach_at (both_at hh.hp hh.ro))
              refine Calls.mono hc ?_
              rintro e w' ⟨v, rfl, hb, hR⟩
              obtain ⟨d, hd, hv, hden⟩ := (hR (W.up w' hb) rfl (W.up_ext w' hb) (W.up_new w' hb)).out
              have h1 := (hh.grow w' hb).push hok hd.2
              have h2 := h1.put o.dst v (some res) (fun y hy => by obtain rfl := Option.some.inj hy; exact hv)
              rw [hd.1] at h2
              exact xops_ok hI n rest _ _ _ _ _ hu h2 hden (hK.step (W.up_ext w' hb))
            · cases hx
          · cases hx
        · rename_i t' p he
          split at hx
          · rename_i res c' hs
            split at hx
            · rename_i hok
              obtain ⟨u, hu, rfl⟩ := map_some hx
              obtain ⟨d, hd, hl, hden⟩ := ht.out
              have hr := xeff_look hhS he (hl W (Ext.refl W))
              rw [hr]
              show wpList P ops Q rest (a.put o.dst _) W.w
              have h1 := hh.push hok hd.2
              have h2 := h1.put o.dst (res.den (ρ.push d)) (some res) (fun y hy => by obtain rfl := Option.some.inj hy; rfl)
              rw [hd.1] at h2
              exact xops_ok hI n rest _ _ _ _ _ hu h2 hden (hK.step (Ext.refl W))
            · cases hx
          · cases hx
        · cases hx

/-! ### a region that draws its order -/
def xdraw (P : Program) (ex : Bool) (inl : Inl) (ops : Array Oper) : Nat → List Oper → St → (St → Option Tree) → Option Tree
  | _, [], s, K => (K s).map .grow
  | 0, _ :: _, _, _ => none
  | n + 1, o :: rest, s, K =>
    match gdE ops s o with
    | none => none
    | some G => match dec s.kn G with
      | some false => xdraw P ex inl ops n rest { s with tm := putS s.n s.tm o.dst (some undefS) } K
      | none => match xval P ex (simT (know G true s.kn) s.tm) (s.hp ++ s.ro) (know G true s.kn) o.op with
        | some (cs, v) => (xdraw P ex inl ops n rest { s with tm := putS s.n s.tm o.dst (some (.when G true v)), kn := learns s.kn (cs.map (borE (notE G))) } K).map (chks s.kn (cs.map (borE (notE G))))
        | none => match xdraw P ex inl ops n (o :: rest) { s with kn := know G true s.kn } K, xdraw P ex inl ops n (o :: rest) { s with kn := know G false s.kn } K with
          | some a, some b => some (.br G a b)
          | _, _ => none
      | some true => match xval P ex (simT s.kn s.tm) (s.hp ++ s.ro) s.kn o.op with
        | some (cs, v) => (xdraw P ex inl ops n rest { s with tm := putS s.n s.tm o.dst (some v), kn := learns s.kn cs } K).map (chks s.kn cs)
        | none => match xeff P { s with tm := simT s.kn s.tm } o.op with
          | some (.call f args) => match useInl inl f args s with
           | some t => splice t s fun v s' => xdraw P ex inl ops n rest { s' with tm := putS s'.n s'.tm o.dst (some v) } K
           | none => match shapeR P o.type s.c with
            | some (res, c') => if s.ok then (xdraw P ex inl ops n rest { s with tm := putS s.n s.tm o.dst (some res), c := s.c.add (c'.less s.c) } K).map (.callq f args (reach (s.hp ++ s.ro) args) res (c'.less s.c)) else none
            | none => none
          | some (.look t p) => match shapeT P t s.c with
            | some (res, c') => if s.ok then (xdraw P ex inl ops n rest { s with tm := putS s.n s.tm o.dst (some res), c := s.c.add (c'.less s.c) } K).map (.look t p res (c'.less s.c)) else none
            | none => none
          | _ => none

theorem xdraw_ok {inl : Inl} (hI : InlOk P inl) {W0 : Wd} {R : Value → Wd → Prop} {L : Lv} {ex : Bool} {ops : Array Oper} {Q : Exit → Act → World → Prop} {K : St → Option Tree} {W : Wd} :
    ∀ (n : Nat) (l : List Oper) (s : St) (t : Tree) (ρ : Env) (a : Act), xdraw P ex inl ops n l s K = some t → Holds W0 ρ s a W → t.den P W0.w.heap.size R L ρ W →
      KOk P W0 R L ρ W s.lp K (Q .normal) → wpQuiet P ops (fun w' => Below W.w.heap.size W.w w') (fun a' => ∀ w', Below W.w.heap.size W.w w' → Q .normal a' w') l a
  | n, [], s, t, ρ, a, hx, hh, ht, hK => by
    have hx : (K s).map .grow = some t := by cases n <;> exact hx
    obtain ⟨u, hu, rfl⟩ := map_some hx
    intro w' hb
    exact hK s u {} a (W.up w' hb) hu (W.up_ext w' hb) rfl (by rw [push_nil]; exact hh.grow w' hb) (by rw [push_nil]; exact ht _ (W.up_ext w' hb))
  | 0, _ :: _, _, _, _, _, hx, _, _, _ => by cases hx
  | n + 1, o :: rest, s, t, ρ, a, hx, hh, ht, hK => by
    simp only [xdraw] at hx
    split at hx
    · cases hx
    rename_i G hgE
    have hwG := gdE_ok hh hgE
    split at hx
    · rename_i hd
      have hw : Region.wanted o (yielded ops a.tmps) = false := by rw [hwG]; exact dec_ok hh.kn G hd
      unfold wpQuiet
      rw [if_neg (by rw [hw]; simp)]
      exact xdraw_ok hI n rest _ _ ρ _ hx (hh.put o.dst undef _ (fun y hy => by obtain rfl := Option.some.inj hy; rfl)) ht hK
    · split at hx
      · rename_i cs v hv
        obtain ⟨u, hu, rfl⟩ := map_some hx
        obtain ⟨hc, hd⟩ := chks_den hh.kn ht
        have key : ∀ y : Value, y = (Sy.when G true v).den ρ → wpQuiet P ops (fun w' => Below W.w.heap.size W.w w') (fun a' => ∀ w', Below W.w.heap.size W.w w' → Q .normal a' w') rest (a.put o.dst y) := fun y hy => by
          have h1 := hh.put o.dst y (some (.when G true v)) (fun z hz => by obtain rfl := Option.some.inj hz; exact hy)
          exact xdraw_ok hI n rest _ _ ρ _ hu ⟨h1.cnt, h1.good, h1.tm, h1.len, h1.df, h1.hp, h1.ro, h1.old, h1.own, h1.nd, learns_ok hh.kn hc, h1.up, h1.sub, h1.ext⟩ hd hK
        unfold wpQuiet
        cases hG : G.b ρ
        · rw [if_neg (by rw [hwG, hG]; simp)]
          exact key _ (by simp [Sy.den, hG])
        · rw [if_pos (by rw [hwG, hG])]
          have hkn := know_ok G hh.kn hG
          refine ⟨v.den ρ, fun w' hb => ?_, key _ (by simp [Sy.den, hG])⟩
          have hr := xval_ok hv hh.good (simT_at hh.tm hkn) ((both_at hh.hp hh.ro).up hb) hkn (allB_or hG hc)
          unfold Oper.quietAt
          rw [hr]
          exact ⟨rfl, rfl⟩
      · split at hx
        · rename_i t1 t2 h1 h2
          obtain rfl := Option.some.inj hx
          cases hb : G.b ρ
          · exact xdraw_ok hI n _ _ _ ρ a h2 (hh.learn hb) (ht.2 hb) hK
          · exact xdraw_ok hI n _ _ _ ρ a h1 (hh.learn hb) (ht.1 hb) hK
        · cases hx
    · rename_i hdG
      have hw : Region.wanted o (yielded ops a.tmps) = true := by rw [hwG]; exact dec_ok hh.kn G hdG
      have hhS : Holds W0 ρ { s with tm := simT s.kn s.tm } a W := ⟨hh.cnt, hh.good, simT_at hh.tm hh.kn, hh.len, hh.df, hh.hp, hh.ro, hh.old, hh.own, hh.nd, hh.kn, hh.up, hh.sub, hh.ext⟩
      split at hx
      · rename_i cs v hv
        obtain ⟨u, hu, rfl⟩ := map_some hx
        obtain ⟨hc, hd⟩ := chks_den hh.kn ht
        unfold wpQuiet
        rw [if_pos hw]
        refine ⟨v.den ρ, fun w' hb => ?_, ?_⟩
        · have hr := xval_ok hv hh.good (simT_at hh.tm hh.kn) ((both_at hh.hp hh.ro).up hb) hh.kn hc
          unfold Oper.quietAt
          rw [hr]
          exact ⟨rfl, rfl⟩
        · have h1 := hh.put o.dst (v.den ρ) (some v) (fun y hy => by obtain rfl := Option.some.inj hy; rfl)
          exact xdraw_ok hI n rest _ _ ρ _ hu ⟨h1.cnt, h1.good, h1.tm, h1.len, h1.df, h1.hp, h1.ro, h1.old, h1.own, h1.nd, learns_ok hh.kn hc, h1.up, h1.sub, h1.ext⟩ hd hK
      · unfold wpQuiet
        rw [if_pos hw]
        split at hx
        · rename_i f args he
          split at hx
          · rename_i ti hti
            obtain ⟨hpu, hin⟩ := useInl_ok hI hti
            obtain ⟨v, s', T', h1, h2, h3, h4, h5⟩ := splice_ok ti s _ t hpu hx hh ht
            refine ⟨v.den ρ, fun w' hb => ?_, ?_⟩
            · unfold Oper.quietAt
              rw [xeff_call hhS he]
              refine ⟨rfl, ?_⟩
              have hc := CallsQ.of_i (hI f args _ s.c ti hin ρ (W.up w' hb) (fun u _ => u = v.den ρ) hh.cnt hh.good ((both_at hh.hp hh.ro).up hb) (by have := h5 (W.up w' hb).w.heap.size (W.up w' hb) {}; rwa [push_nil] at this))
              exact Calls.mono hc fun e w'' ⟨h1, h2⟩ => ⟨h1, Below.trans hb (Below.mono h2 hb.size)⟩
            · have k1 := h3.put o.dst (v.den ρ) (some v) (fun y hy => by obtain rfl := Option.some.inj hy; rfl)
              exact xdraw_ok hI n rest _ _ ρ _ h1 k1 h2 (by rw [← h4] at hK; exact hK)
          split at hx
          · rename_i res c' hs
            split at hx
            · rename_i hok
              obtain ⟨u, hu, rfl⟩ := map_some hx
              obtain ⟨d, hd, hcall, hden⟩ := ht.out
              refine ⟨res.den (ρ.push d), fun w' hb => ?_, ?_⟩
              · unfold Oper.quietAt
                rw [xeff_call hhS he]
                refine ⟨rfl, ?_⟩
                have := hcall (W.up w' hb) (W.up_ext w' hb) (reach_at ((both_at hh.hp hh.ro).up hb))
                exact Calls.mono this fun e w'' ⟨h1, h2⟩ => ⟨h1, Below.trans hb (Below.mono h2 hb.size)⟩
              · have h1 := hh.push hok hd.2
                have h2 := h1.put o.dst (res.den (ρ.push d)) (some res) (fun y hy => by obtain rfl := Option.some.inj hy; rfl)
                rw [hd.1] at h2
                exact xdraw_ok hI n rest _ _ _ _ hu h2 hden (hK.step (Ext.refl W))
            · cases hx
          · cases hx
        · rename_i t' p he
          split at hx
          · rename_i res c' hs
            split at hx
            · rename_i hok
              obtain ⟨u, hu, rfl⟩ := map_some hx
              obtain ⟨d, hd, hl, hden⟩ := ht.out
              refine ⟨res.den (ρ.push d), fun w' hb => ?_, ?_⟩
              · unfold Oper.quietAt
                have hr := xeff_look (w := w') hhS he (hl (W.up w' hb) (W.up_ext w' hb))
                rw [hr]
                exact ⟨rfl, rfl⟩
              · have h1 := hh.push hok hd.2
                have h2 := h1.put o.dst (res.den (ρ.push d)) (some res) (fun y hy => by obtain rfl := Option.some.inj hy; rfl)
                rw [hd.1] at h2
                exact xdraw_ok hI n rest _ _ _ _ hu h2 hden (hK.step (Ext.refl W))
            · cases hx
          · cases hx
        · cases hx
end Go.SE
end
section
set_option linter.unusedVariables false
namespace Go.SE
open Go Go.RowKit

variable {P : Program}

/-! ### two symbolic values that are the same -/
def valSame : Value → Value → Bool
  | .pointer a, .pointer b => decide (a = b)
  | .nilIface, .nilIface => true
  | .nilFunc, .nilFunc => true
  | .map none, .map none => true
  | .tuple ⟨[]⟩, .tuple ⟨[]⟩ => true
  | _, _ => false
theorem valSame_eq {a b : Value} (h : valSame a b = true) : a = b := by
  unfold valSame at h
  split at h <;> first | rfl | (simp at h; done) | (simp at h; rw [h])
mutual
def Sy.same : Sy → Sy → Bool
  | .bool a, .bool b => E.same a b
  | .int k a, .int j b => Nat.beq (kindNo k) (kindNo j) && E.same a b
  | .str a, .str b => E.same a b
  | .ptr m o, .ptr n p => decide (m = n) && decide (o = p)
  | .elt a i z o, .elt b j y p => decide (a = b) && E.same i j && decide (z = y) && decide (o = p)
  | .slc a n c, .slc b m d => decide (a = b) && decide (n = m) && decide (c = d)
  | .slb a o n c, .slb b p m d => decide (a = b) && decide (o = p) && decide (n = m) && decide (c = d)
  | .nils, .nils => true
  | .val a, .val b => valSame a b
  | .var n, .var m => decide (n = m)
  | .agg l, .agg m => Sy.sames l m
  | .tup l, .tup m => Sy.sames l m
  | .fn f l, .fn g m => decide (f = g) && Sy.sames l m
  | .ifc t s, .ifc u r => decide (t = u) && Sy.same s r
  | .when g w s, .when h v r => E.same g h && decide (w = v) && Sy.same s r
  | _, _ => false
def Sy.sames : List Sy → List Sy → Bool
  | [], [] => true
  | a :: l, b :: m => Sy.same a b && Sy.sames l m
  | _, _ => false
end
mutual
theorem Sy.same_eq : ∀ {a b : Sy}, Sy.same a b = true → a = b
  | .bool a, b, h => by cases b <;> simp only [Sy.same] at h <;> first | (rw [E.same_eq h]) | cases h
  | .int k a, b, h => by cases b <;> simp only [Sy.same, Bool.and_eq_true] at h <;> first | (rw [kindNo_inj (Nat.eq_of_beq_eq_true h.1), E.same_eq h.2]) | cases h
  | .str a, b, h => by cases b <;> simp only [Sy.same] at h <;> first | (rw [E.same_eq h]) | cases h
  | .ptr m o, b, h => by cases b <;> simp_all [Sy.same]
  | .elt a i z o, b, h => by cases b <;> simp only [Sy.same, Bool.and_eq_true] at h <;> first | (rw [of_decide_eq_true h.1.1.1, E.same_eq h.1.1.2, of_decide_eq_true h.1.2, of_decide_eq_true h.2]) | cases h
  | .slc a n c, b, h => by cases b <;> simp_all [Sy.same]
  | .slb a o n c, b, h => by cases b <;> simp_all [Sy.same]
  | .nils, b, h => by cases b <;> simp_all [Sy.same]
  | .val a, b, h => by
    cases b <;> simp only [Sy.same] at h <;> try (cases h; done)
    rw [valSame_eq h]
  | .var n, b, h => by cases b <;> simp_all [Sy.same]
  | .agg l, b, h => by
    cases b <;> simp only [Sy.same] at h <;> try (cases h; done)
    rw [Sy.sames_eq h]
  | .tup l, b, h => by
    cases b <;> simp only [Sy.same] at h <;> try (cases h; done)
    rw [Sy.sames_eq h]
  | .fn f l, b, h => by
    cases b <;> simp only [Sy.same, Bool.and_eq_true] at h <;> try (cases h; done)
    rw [of_decide_eq_true h.1, Sy.sames_eq h.2]
  | .ifc t s, b, h => by
    cases b <;> simp only [Sy.same, Bool.and_eq_true] at h <;> try (cases h; done)
    rw [of_decide_eq_true h.1, Sy.same_eq h.2]
  | .when g w s, b, h => by
    cases b <;> simp only [Sy.same, Bool.and_eq_true] at h <;> try (cases h; done)
    rw [E.same_eq h.1.1, of_decide_eq_true h.1.2, Sy.same_eq h.2]
theorem Sy.sames_eq : ∀ {a b : List Sy}, Sy.sames a b = true → a = b
  | [], [], _ => rfl
  | [], _ :: _, h => by simp [Sy.sames] at h
  | _ :: _, [], h => by simp [Sy.sames] at h
  | a :: l, b :: m, h => by
    simp only [Sy.sames, Bool.and_eq_true] at h
    rw [Sy.same_eq h.1, Sy.sames_eq h.2]
end

/-! ### what a loop turns -/
inductive Pos where
  | tm (t : Nat)
  | cell (m off : Nat)
def setC : List Blk → Nat → Nat → Sy → List Blk
  | [], _, _, _ => []
  | b :: l, m, off, x => if b.m = m then { b with cs := b.cs.set off x } :: l else b :: setC l m off x
def plug1 (s : St) (p : Pos) (x : Sy) : St := match p with
  | .tm t => { s with tm := (t, some x) :: s.tm }
  | .cell m off => { s with hp := setC s.hp m off x }
def plug (s : St) : List Pos → List Sy → St
  | p :: ps, x :: xs => plug (plug1 s p x) ps xs
  | _, _ => s
def getP (s : St) : Pos → Option Sy
  | .tm t => getT s.tm t
  | .cell m off => match findB s.hp m with
    | some b => b.cs[off]?
    | none => none
def getPs (s : St) : List Pos → Option (List Sy)
  | [] => some []
  | p :: ps => match getP s p, getPs s ps with
    | some x, some l => some (x :: l)
    | _, _ => none
/-- a head for what was there at first -/
def headC : Sy → Cnt → Option (Sy × Cnt)
  | .bool _, c => some (.bool (.bv c.B), { c with B := c.B + 1 })
  | .int k _, c => some (.int k (.iv c.I), { c with I := c.I + 1 })
  | .str _, c => some (.str (.tv c.T), { c with T := c.T + 1 })
  | .slc _ _ _, c | .nils, c | .slb _ _ _ _, c => some (.slc c.A c.N (c.N + 1), { c with A := c.A + 1, N := c.N + 2 })
  | .agg _, _ | .tup _, _ | .when _ _ _, _ => none
  | _, c => some (.var c.V, { c with V := c.V + 1 })
def headCs : List Sy → Cnt → Option (List Sy × Cnt)
  | [], c => some ([], c)
  | s :: l, c => match headC s c with
    | some (h, c') => match headCs l c' with
      | some (r, c'') => some (h :: r, c'')
      | none => none
    | none => none
def headS (s : Sy) (c : Cnt) : Option (Sy × Cnt) := match s with
  | .agg l => (headCs l c).map fun p => (.agg p.1, p.2)
  | s => headC s c
def headSs : List Sy → Cnt → Option (List Sy × Cnt)
  | [], c => some ([], c)
  | s :: l, c => match headS s c with
    | some (h, c') => match headSs l c' with
      | some (r, c'') => some (h :: r, c'')
      | none => none
    | none => none

/-- the temporaries that code writes -/
def dsts : Code → List Nat
  | .region _ ops _ => ops.toList.filterMap (·.dst)
  | .seq a b => dsts a ++ dsts b
  | .cond _ a b => dsts a ++ dsts b
  | .block _ b => dsts b
  | .loop b => dsts b
  | .scope b => dsts b
  | _ => []
def forget (tm : Tm) : List Nat → Tm
  | [] => tm
  | t :: l => forget ((t, none) :: tm) l
def firstR : Code → Option Nat
  | .region id _ _ => some id
  | .seq a b => (firstR a).or (firstR b)
  | .cond _ a b => (firstR a).or (firstR b)
  | .block _ b => firstR b
  | .loop b => firstR b
  | .scope b => firstR b
  | _ => none

def coverK (a b : Tm) : Tm → Bool
  | [] => true
  | (k, _) :: l => (match getT b k with
    | some h => (match getT a k with
      | some x => Sy.same x h
      | none => false)
    | none => true) && coverK a b l
def coverT (a b : Tm) : Bool := coverK a b b
def coverH : List Blk → List Blk → Bool
  | [], [] => true
  | a :: l, b :: m => decide (a.m = b.m) && decide (a.ty = b.ty) && Sy.sames a.cs b.cs && coverH l m
  | _, _ => false
/-- the state s' tells all that s tells -/
def cover (s' s : St) : Bool := (coverT s'.tm s.tm && coverH (s'.hp.drop (s'.hp.length - s.hp.length)) s.hp) && (coverH s'.ro s.ro && Nat.beq s'.n s.n)

/-! ### code -/
inductive X where
  | nrm | exit (id : Nat) | ret
def X.out : X → Exit
  | .nrm => .normal
  | .exit id => .exit id
  | .ret => .ret
structure LoopCfg where
  key : Nat
  ps : List Pos
structure Cfg where
  ex : Bool := false
  fuel : Nat := 400
  loops : List LoopCfg := []
  inl : List FuncId := []
  depth : Nat := 6
def Cfg.find : List LoopCfg → Nat → List Pos
  | [], _ => []
  | l :: ls, k => if l.key = k then l.ps else Cfg.find ls k

def xcode (P : Program) (cf : Cfg) (inl : Inl) : Code → St → (X → St → Option Tree) → Option Tree
  | .skip, s, K => K .nrm s
  | .label _, s, K => K .nrm s
  | .seq a b, s, K => xcode P cf inl a s fun x s' => match x with
    | .nrm => xcode P cf inl b s' K
    | x => K x s'
  | .cond c a b, s, K => match (evS s.tm c).map (simS s.kn) with
    | some (.bool e) => match dec s.kn e with
      | some true => xcode P cf inl a s K
      | some false => xcode P cf inl b s K
      | none => match xcode P cf inl a { s with kn := know e true s.kn } K, xcode P cf inl b { s with kn := know e false s.kn } K with
        | some t, some u => some (.br e t u)
        | _, _ => none
    | _ => none
  | .block id b, s, K => xcode P cf inl b s fun x s' => match x with
    | .exit i => if i = id then K .nrm s' else K (.exit i) s'
    | x => K x s'
  | .exit id, s, K => K (.exit id) s
  | .ret, s, K => K .ret s
  | .region _ ops draw, s, K =>
    if draw then (if P.follows .mixedOrders && quickB ops then xdraw P cf.ex inl ops cf.fuel ops.toList s (K .nrm) else none)
    else xops P cf.ex inl ops cf.fuel ops.toList s (K .nrm)
  | .loop b, s, K => match firstR b with
    | some k => match getPs s (Cfg.find cf.loops k) with
      | some ini => match headSs ini s.c with
        | some (heads, c') =>
          let base : St := { s with tm := forget s.tm (dsts b) }
          let cd := c'.less s.c
          if s.ok && heads.all (Sy.ok (s.c.add cd)) then
            match xcode P cf inl b { plug base (Cfg.find cf.loops k) heads with c := s.c.add cd, lp := s.lp + 1 } (fun x s' => match x with
              | .nrm => match getPs s' (Cfg.find cf.loops k) with
                | some vals => if cover s' (plug base (Cfg.find cf.loops k) vals) && decide (vals.length = heads.length) then some (.again s.lp vals) else none
                | none => none
              | x => K x s') with
            | some t => some (.loop ini heads cd t)
            | none => none
          else none
        | none => none
      | none => none
    | none => none
  | _, _, _ => none

/-! ### it is sound -/
def KOkX (P : Program) (W0 : Wd) (R : Value → Wd → Prop) (L : Lv) (ρ : Env) (W : Wd) (K : X → St → Option Tree) (Q : Exit → Act → World → Prop) : Prop :=
  ∀ x s' t' e M a' W', K x s' = some t' → Ext W W' → s'.lp = (L ++ M).length → Holds W0 (ρ.push e) s' a' W' → t'.den P W0.w.heap.size R (L ++ M) (ρ.push e) W' → Q x.out a' W'.w
theorem KOkX.step {W0 : Wd} {R : Value → Wd → Prop} {L M : Lv} {ρ d : Env} {W W1 : Wd} {K : X → St → Option Tree} {Q : Exit → Act → World → Prop} (h : KOkX P W0 R L ρ W K Q) (x : Ext W W1) : KOkX P W0 R (L ++ M) (ρ.push d) W1 K Q :=
  fun y s' t' e N a' W' h1 hx hl h2 h3 => h y s' t' (d.push e) (M ++ N) a' W' h1 (x.trans hx) (by rw [← List.append_assoc]; exact hl) (by rw [← push_push]; exact h2) (by rw [← push_push, ← List.append_assoc]; exact h3)

/-- two states, each under its own variables, tell the same -/
structure Alike (ρ ρ' : Env) (s s' : St) : Prop where
  len : s.n = s'.n
  tm : ∀ t : Nat, (getT s.tm t).map (Sy.den ρ) = (getT s'.tm t).map (Sy.den ρ')
  ms : s.hp.map (·.m) = s'.hp.map (·.m)
  hp : s.hp.map (fun b => (gd ρ.M b.m 0, b.ty, Sy.dens ρ b.cs)) = s'.hp.map (fun b => (gd ρ'.M b.m 0, b.ty, Sy.dens ρ' b.cs))
  ro : s.ro.map (fun b => (gd ρ.M b.m 0, b.ty, Sy.dens ρ b.cs)) = s'.ro.map (fun b => (gd ρ'.M b.m 0, b.ty, Sy.dens ρ' b.cs))
theorem Alike.holds {W0 : Wd} {ρ ρ' : Env} {s s' : St} {a : Act} {W : Wd} (h : Holds W0 ρ s a W) (k : Alike ρ ρ' s s') (hc : ρ'.cnt = s'.c) (hg : ρ'.good) (hk : Kn.holds ρ' s'.kn) : Holds W0 ρ' s' a W := by
  have old : ∀ b ∈ s'.hp, ∃ b0 ∈ s.hp, gd ρ.M b0.m 0 = gd ρ'.M b.m 0 ∧ b0.ty = b.ty ∧ Sy.dens ρ b0.cs = Sy.dens ρ' b.cs := fun b hb => by
    have : (gd ρ'.M b.m 0, b.ty, Sy.dens ρ' b.cs) ∈ s.hp.map (fun b => (gd ρ.M b.m 0, b.ty, Sy.dens ρ b.cs)) := by
      rw [k.hp]; exact List.mem_map.2 ⟨b, hb, rfl⟩
    obtain ⟨b0, h0, e⟩ := List.mem_map.1 this
    simp only [Prod.mk.injEq] at e
    exact ⟨b0, h0, e.1, e.2.1, e.2.2⟩
  have oldr : ∀ b ∈ s'.ro, ∃ b0 ∈ s.ro, gd ρ.M b0.m 0 = gd ρ'.M b.m 0 ∧ b0.ty = b.ty ∧ Sy.dens ρ b0.cs = Sy.dens ρ' b.cs := fun b hb => by
    have : (gd ρ'.M b.m 0, b.ty, Sy.dens ρ' b.cs) ∈ s.ro.map (fun b => (gd ρ.M b.m 0, b.ty, Sy.dens ρ b.cs)) := by
      rw [k.ro]; exact List.mem_map.2 ⟨b, hb, rfl⟩
    obtain ⟨b0, h0, e⟩ := List.mem_map.1 this
    simp only [Prod.mk.injEq] at e
    exact ⟨b0, h0, e.1, e.2.1, e.2.2⟩
  refine ⟨hc, hg, ?_, by rw [h.len, k.len], h.df, ?_, fun b hb => ?_, fun b hb => ?_, ?_, ?_, hk, h.up, h.sub, h.ext⟩
  rotate_left 2
  · obtain ⟨b0, h0, e1, e2, e3⟩ := oldr b hb
    have := h.ro b0 h0
    unfold Blk.at at *
    rw [← e1, ← e2, ← e3]
    exact this
  · obtain ⟨b0, h0, e1, e2, e3⟩ := oldr b hb
    rw [← e1]
    exact h.old b0 h0
  rotate_right 2
  · intro x y hx
    cases x with
    | tmp t =>
      simp only [evS] at hx
      have := k.tm t
      rw [hx] at this
      cases ho : getT s.tm t with
      | none => rw [ho] at this; cases this
      | some z =>
        rw [ho] at this
        have h1 := h.tm (.tmp t) z ho
        rw [h1]
        simpa using this
    | const v => simp only [evS] at hx; obtain rfl := Option.some.inj hx; have := h.tm (.const v) _ rfl; rw [this, ofVal_den, ofVal_den]
    | global g => simp only [evS] at hx; obtain rfl := Option.some.inj hx; exact h.tm (.global g) _ rfl
    | func f => simp only [evS] at hx; obtain rfl := Option.some.inj hx; exact h.tm (.func f) _ rfl
  · intro b hb
    obtain ⟨b0, h0, e1, e2, e3⟩ := old b hb
    have := h.hp b0 h0
    unfold Blk.at at *
    rw [← e1, ← e2, ← e3]
    exact this
  · intro b hb
    obtain ⟨b0, h0, e1, e2, e3⟩ := old b hb
    rw [← e1]
    exact h.own b0 h0
  · have h1 : (s.hp.map fun b => gd ρ.M b.m 0) = s'.hp.map fun b => gd ρ'.M b.m 0 := by
      have := congrArg (List.map Prod.fst) k.hp
      simpa [List.map_map, Function.comp_def] using this
    have h2 : (s.hp.map fun b => gd ρ.M b.m 0).Pairwise (· ≠ ·) := List.pairwise_map.2 h.nd
    rw [h1] at h2
    exact List.pairwise_map.1 h2
theorem setC_map (ρ : Env) : ∀ (hp : List Blk) (m off : Nat) (x : Sy), (setC hp m off x).map (·.m) = hp.map (·.m)
  | [], _, _, _ => rfl
  | b :: l, m, off, x => by
    simp only [setC]
    split
    · simp
    · simp [setC_map ρ l m off x]
theorem dens_set (ρ : Env) (l : List Sy) (n : Nat) (x : Sy) : Sy.dens ρ (l.set n x) = (Sy.dens ρ l).set n (x.den ρ) := by simp [Sy.dens_eq, List.map_set]
theorem setC_alike {ρ ρ' : Env} {x x' : Sy} (hx : x.den ρ = x'.den ρ') (m off : Nat) : ∀ (l l' : List Blk), l.map (·.m) = l'.map (·.m) → (l.map fun b => (gd ρ.M b.m 0, b.ty, Sy.dens ρ b.cs)) = (l'.map fun b => (gd ρ'.M b.m 0, b.ty, Sy.dens ρ' b.cs)) →
    ((setC l m off x).map fun b => (gd ρ.M b.m 0, b.ty, Sy.dens ρ b.cs)) = ((setC l' m off x').map fun b => (gd ρ'.M b.m 0, b.ty, Sy.dens ρ' b.cs))
  | [], [], _, _ => rfl
  | [], _ :: _, h, _ => by simp at h
  | _ :: _, [], h, _ => by simp at h
  | b :: l, b' :: l', h, k => by
    simp only [List.map_cons, List.cons.injEq] at h k
    simp only [setC]
    rw [h.1]
    split
    · simp only [List.map_cons, dens_set, hx]
      have := k.1
      simp only [Prod.mk.injEq] at this
      rw [h.1] at this
      rw [this.1, this.2.1, this.2.2, k.2]
    · simp only [List.map_cons]
      have := k.1
      rw [h.1] at this
      rw [h.1, this, setC_alike hx m off l l' h.2 k.2]
theorem Alike.plug1 {ρ ρ' : Env} {s s' : St} (k : Alike ρ ρ' s s') (p : Pos) {x x' : Sy} (hx : x.den ρ = x'.den ρ') : Alike ρ ρ' (plug1 s p x) (plug1 s' p x') := by
  cases p with
  | tm t =>
    refine ⟨k.len, fun u => ?_, k.ms, k.hp, k.ro⟩
    simp only [SE.plug1]
    by_cases e : t = u
    · subst e
      rw [getT_same, getT_same]
      simp [hx]
    · rw [getT_other _ _ e, getT_other _ _ e]
      exact k.tm u
  | cell m off => exact ⟨k.len, k.tm, by simp [SE.plug1, setC_map ρ, k.ms], setC_alike hx m off _ _ k.ms k.hp, k.ro⟩
theorem Alike.plug {ρ ρ' : Env} : ∀ (ps : List Pos) {s s' : St} (k : Alike ρ ρ' s s') (xs xs' : List Sy), xs.length = xs'.length → Sy.dens ρ xs = Sy.dens ρ' xs' → Alike ρ ρ' (plug s ps xs) (plug s' ps xs')
  | [], _, _, k, _, _, _, _ => by simp only [SE.plug]; exact k
  | p :: ps, _, _, k, [], [], _, _ => by simp only [SE.plug]; exact k
  | p :: ps, _, _, k, [], _ :: _, h, _ => by simp at h
  | p :: ps, _, _, k, _ :: _, [], h, _ => by simp at h
  | p :: ps, _, _, k, x :: xs, x' :: xs', hl, h => by
    simp only [Sy.dens, List.cons.injEq] at h
    simp only [SE.plug]
    exact Alike.plug ps (k.plug1 p h.1) xs xs' (by simpa using hl) h.2
theorem plug_kn : ∀ (ps : List Pos) (s : St) (xs : List Sy), (plug s ps xs).kn = s.kn ∧ (plug s ps xs).c = s.c ∧ (plug s ps xs).lp = s.lp
  | [], s, xs => by simp [plug]
  | p :: ps, s, [] => by simp [plug]
  | p :: ps, s, x :: xs => by
    simp only [plug]
    obtain ⟨h1, h2, h3⟩ := plug_kn ps (plug1 s p x) xs
    rw [h1, h2, h3]
    cases p <;> simp [plug1]
theorem forget_get : ∀ (l : List Nat) (tm : Tm) (t : Nat), getT (forget tm l) t = getT tm t ∨ getT (forget tm l) t = none
  | [], _, _ => .inl rfl
  | u :: l, tm, t => by
    simp only [forget]
    rcases forget_get l ((u, none) :: tm) t with h | h
    · by_cases e : u = t
      · subst e
        right
        rw [h, getT_same]
      · left
        rw [h, getT_other _ _ e]
    · exact .inr h
theorem forget_all {f : Option Sy → Bool} (hf : f none = true) : ∀ (l : List Nat) (tm : Tm), tm.all (fun p => f p.2) = true → (forget tm l).all (fun p => f p.2) = true
  | [], _, h => h
  | u :: l, tm, h => forget_all hf l ((u, none) :: tm) (by simp only [List.all_cons, hf, Bool.true_and]; exact h)
theorem coverK_ok {a b : Tm} : ∀ {l : Tm}, coverK a b l = true → ∀ p ∈ l, ∀ x, getT b p.1 = some x → getT a p.1 = some x
  | [], _, _, hp, _, _ => by cases hp
  | (k, v) :: l, h, p, hp, x, hx => by
    simp only [coverK, Bool.and_eq_true] at h
    rcases List.mem_cons.1 hp with e | e
    · subst e
      have h1 := h.1
      rw [hx] at h1
      cases ha : getT a k with
      | none => rw [ha] at h1; cases h1
      | some y => rw [ha] at h1; rw [Sy.same_eq h1]
    · exact coverK_ok h.2 p e x hx
theorem coverT_ok {a b : Tm} (h : coverT a b = true) (t : Nat) (x : Sy) (hx : getT b t = some x) : getT a t = some x := by
  obtain ⟨p, hp, e, _⟩ := getT_mem hx
  subst e
  exact coverK_ok h p hp x hx
theorem coverH_ok : ∀ {a b : List Blk}, coverH a b = true → a = b
  | [], [], _ => rfl
  | [], _ :: _, h => by simp [coverH] at h
  | _ :: _, [], h => by simp [coverH] at h
  | ⟨m, ty, cs⟩ :: l, ⟨m', ty', cs'⟩ :: r, h => by
    simp only [coverH, Bool.and_eq_true] at h
    obtain ⟨⟨⟨h1, h2⟩, h3⟩, h4⟩ := h
    have e1 := of_decide_eq_true h1
    have e2 := of_decide_eq_true h2
    have e3 := Sy.sames_eq h3
    subst e1 e2 e3
    rw [coverH_ok h4]
theorem Holds.cover {W0 : Wd} {ρ : Env} {s' s : St} {a : Act} {W : Wd} (h : Holds W0 ρ s' a W) (hc : cover s' s = true) (hk : Kn.holds ρ s.kn) : Holds W0 ρ { s with c := s'.c } a W := by
  simp only [SE.cover, Bool.and_eq_true] at hc
  have c2 := coverT_ok hc.1.1
  have c3 := coverH_ok hc.1.2
  have c4 := coverH_ok hc.2.1
  have c1 := Nat.eq_of_beq_eq_true hc.2.2
  have hsub : ∀ b ∈ s.hp, b ∈ s'.hp := fun b hb => by rw [← c3] at hb; exact List.mem_of_mem_drop hb
  refine ⟨h.cnt, h.good, ?_, by rw [h.len, c1], h.df, fun b hb => h.hp b (hsub b hb), fun b hb => h.ro b (by rw [c4]; exact hb), fun b hb => h.old b (by rw [c4]; exact hb), fun b hb => h.own b (hsub b hb), ?_, hk, h.up, h.sub, h.ext⟩
  · intro x y hx
    cases x with
    | tmp t => exact h.tm (.tmp t) y (c2 t y hx)
    | const v => exact h.tm (.const v) y hx
    | global g => exact h.tm (.global g) y hx
    | func f => exact h.tm (.func f) y hx
  · show s.hp.Pairwise _
    rw [← c3]
    exact h.nd.sublist (List.drop_sublist _ _)
theorem Alike.refl_push {ρ d e : Env} {s : St} (hc : ρ.cnt = s.c) (ho : s.ok = true) : Alike (ρ.push d) (ρ.push e) s s := by
  simp only [St.ok, Bool.and_eq_true] at ho
  obtain ⟨⟨⟨o1, o2⟩, o4⟩, o3⟩ := ho
  rw [← hc] at o1 o2 o4
  have blks : ∀ l : List Blk, l.all (Blk.ok ρ.cnt) = true → l.map (fun b => (gd (ρ.push d).M b.m 0, b.ty, Sy.dens (ρ.push d) b.cs)) = l.map (fun b => (gd (ρ.push e).M b.m 0, b.ty, Sy.dens (ρ.push e) b.cs)) := fun l hl =>
    List.map_congr_left fun b hb => by
      have := List.all_eq_true.1 hl b hb
      simp only [Blk.ok, Bool.and_eq_true] at this
      have hm := of_decide_eq_true this.1
      rw [M_push hm, M_push hm, Sy.pushes ρ d b.cs this.2, Sy.pushes ρ e b.cs this.2]
  refine ⟨rfl, fun t => ?_, rfl, blks _ o2, blks _ o4⟩
  cases ht : getT s.tm t with
  | none => rfl
  | some x =>
    obtain ⟨p, hp, _, h2⟩ := getT_mem ht
    have := List.all_eq_true.1 o1 _ hp
    rw [h2] at this
    simp only [Option.map_some]
    rw [Sy.push ρ d x this, Sy.push ρ e x this]
theorem Kn.push {ρ d : Env} {s : St} (hc : ρ.cnt = s.c) (ho : s.ok = true) (h : Kn.holds ρ s.kn) : Kn.holds (ρ.push d) s.kn := by
  simp only [St.ok, Bool.and_eq_true] at ho
  obtain ⟨_, o3⟩ := ho
  rw [← hc] at o3
  intro p hp
  have := List.all_eq_true.1 o3 p hp
  rw [(E.push ρ d p.1 this).2.1]
  exact h p hp

theorem getPs_length (s : St) : ∀ (ps : List Pos) (l : List Sy), getPs s ps = some l → l.length = ps.length
  | [], l, h => by obtain rfl := Option.some.inj h; rfl
  | p :: ps, l, h => by
    simp only [getPs] at h
    split at h
    · rename_i x r _ hr
      obtain rfl := Option.some.inj h
      simp [getPs_length s ps r hr]
    · cases h
theorem headSs_length : ∀ (l : List Sy) (c : Cnt) (r : List Sy × Cnt), headSs l c = some r → r.1.length = l.length
  | [], c, r, h => by obtain rfl := Option.some.inj h; rfl
  | s :: l, c, r, h => by
    simp only [headSs] at h
    split at h
    · split at h
      · rename_i h1 _ _ h2
        obtain rfl := Option.some.inj h
        simp [headSs_length l _ _ h2]
      · cases h
    · cases h
theorem setC_self : ∀ {hp : List Blk} {m off : Nat} {b : Blk} {x : Sy}, findB hp m = some b → b.cs[off]? = some x → setC hp m off x = hp
  | [], _, _, _, _, h, _ => by cases h
  | a :: l, m, off, b, x, h, hx => by
    simp only [findB] at h
    simp only [setC]
    split at h
    · rename_i e
      obtain rfl := Option.some.inj h
      rw [if_pos e]
      have : a.cs.set off x = a.cs := by
        apply List.ext_getElem?
        intro i
        rw [List.getElem?_set]
        by_cases e2 : off = i
        · subst e2
          rw [if_pos rfl]
          split
          · exact hx.symm
          · rename_i hl; rw [List.getElem?_eq_none (by omega)]
        · rw [if_neg e2]
      rw [this]
    · rename_i e
      rw [if_neg e, setC_self h hx]
/-- the state at a loop's head tells no more than the state ahead of it -/
structure Less (s' s : St) : Prop where
  len : s.n = s'.n
  tm : ∀ (t : Nat) (x : Sy), getT s.tm t = some x → getT s'.tm t = some x
  hp : s.hp = s'.hp
  ro : s.ro = s'.ro
theorem plug_less {s0 : St} : ∀ (ps : List Pos) (s : St) (xs : List Sy), getPs s0 ps = some xs → Less s0 s → Less s0 (plug s ps xs)
  | [], s, xs, _, h => by simp only [plug]; exact h
  | p :: ps, s, xs, hg, h => by
    simp only [getPs] at hg
    split at hg
    · rename_i x r hx hr
      obtain rfl := Option.some.inj hg
      simp only [plug]
      refine plug_less ps _ r hr ?_
      cases p with
      | tm t =>
        refine ⟨h.len, fun u y hy => ?_, h.hp, h.ro⟩
        simp only [plug1] at hy
        by_cases e : t = u
        · subst e
          rw [getT_same] at hy
          rw [← Option.some.inj hy]
          exact hx
        · rw [getT_other _ _ e] at hy
          exact h.tm u y hy
      | cell m off =>
        refine ⟨h.len, h.tm, ?_, h.ro⟩
        simp only [plug1]
        simp only [getP] at hx
        split at hx
        · rename_i b hb
          rw [h.hp, setC_self hb hx]
        · cases hx
    · cases hg
theorem Holds.less {W0 : Wd} {ρ : Env} {s' s : St} {a : Act} {W : Wd} (h : Holds W0 ρ s' a W) (k : Less s' s) (hk : Kn.holds ρ s.kn) : Holds W0 ρ { s with c := s'.c } a W := by
  refine ⟨h.cnt, h.good, ?_, by rw [h.len, k.len], h.df, ?_, fun b hb => h.ro b (by rw [← k.ro]; exact hb), fun b hb => h.old b (by rw [← k.ro]; exact hb), ?_, ?_, hk, h.up, h.sub, h.ext⟩
  · intro x y hx
    cases x with
    | tmp t => exact h.tm (.tmp t) y (k.tm t y hx)
    | const v => exact h.tm (.const v) y hx
    | global g => exact h.tm (.global g) y hx
    | func f => exact h.tm (.func f) y hx
  · show BlksAt ρ s.hp W.w
    rw [k.hp]; exact h.hp
  · show ∀ b ∈ s.hp, _
    rw [k.hp]; exact h.own
  · show s.hp.Pairwise _
    rw [k.hp]; exact h.nd

theorem xcode_ok {inl : Inl} (hI : InlOk P inl) {W0 : Wd} {R : Value → Wd → Prop} {cf : Cfg} : ∀ (c : Code) (s : St) (K : X → St → Option Tree) (t : Tree) (L : Lv) (ρ : Env) (a : Act) (W : Wd) (Q : Exit → Act → World → Prop),
    xcode P cf inl c s K = some t → Holds W0 ρ s a W → s.lp = L.length → t.den P W0.w.heap.size R L ρ W → KOkX P W0 R L ρ W K Q → c.wp P Q a W.w := by
  intro c
  induction c with
  | skip =>
    intro s K t L ρ a W Q hx hh hl ht hK
    refine wp_skip ?_
    exact hK .nrm s t {} [] a W hx (Ext.refl W) (by simpa using hl) (by rw [push_nil]; exact hh) (by rw [push_nil, List.append_nil]; exact ht)
  | label l =>
    intro s K t L ρ a W Q hx hh hl ht hK
    refine wp_label ?_
    exact hK .nrm s t {} [] a W hx (Ext.refl W) (by simpa using hl) (by rw [push_nil]; exact hh) (by rw [push_nil, List.append_nil]; exact ht)
  | exit id =>
    intro s K t L ρ a W Q hx hh hl ht hK
    refine wp_exit ?_
    exact hK (.exit id) s t {} [] a W hx (Ext.refl W) (by simpa using hl) (by rw [push_nil]; exact hh) (by rw [push_nil, List.append_nil]; exact ht)
  | ret =>
    intro s K t L ρ a W Q hx hh hl ht hK
    refine wp_ret ?_
    exact hK .ret s t {} [] a W hx (Ext.refl W) (by simpa using hl) (by rw [push_nil]; exact hh) (by rw [push_nil, List.append_nil]; exact ht)
  | seq x y ihx ihy =>
    intro s K t L ρ a W Q hx hh hl ht hK
    refine wp_seq ?_
    refine ihx s _ t L ρ a W _ hx hh hl ht ?_
    intro z s' t' e M a' W' h1 hx' hl' h2 h3
    cases z with
    | nrm => exact ihy s' K t' (L ++ M) (ρ.push e) a' W' Q h1 h2 hl' h3 (hK.step hx')
    | exit id => exact hK (.exit id) s' t' e M a' W' h1 hx' hl' h2 h3
    | ret => exact hK .ret s' t' e M a' W' h1 hx' hl' h2 h3
  | cond c x y ihx ihy =>
    intro s K t L ρ a W Q hx hh hl ht hK
    simp only [xcode] at hx
    split at hx
    · rename_i e he
      have hc : a.eval c = .bool (e.b ρ) := by
        obtain ⟨s0, hs0, hs1⟩ := Option.map_eq_some_iff.1 he
        rw [hh.tm c _ hs0, ← simS_den hh.kn, hs1]; rfl
      split at hx
      · rename_i hd
        rw [dec_ok hh.kn e hd] at hc
        exact wp_cond_true hc (ihx s K t L ρ a W Q hx hh hl ht hK)
      · rename_i hd
        rw [dec_ok hh.kn e hd] at hc
        exact wp_cond_false hc (ihy s K t L ρ a W Q hx hh hl ht hK)
      · split at hx
        · rename_i t1 t2 h1 h2
          obtain rfl := Option.some.inj hx
          cases hb : e.b ρ
          · rw [hb] at hc
            exact wp_cond_false hc (ihy _ K t2 L ρ a W Q h2 (hh.learn hb) hl (ht.2 hb) hK)
          · rw [hb] at hc
            exact wp_cond_true hc (ihx _ K t1 L ρ a W Q h1 (hh.learn hb) hl (ht.1 hb) hK)
        · cases hx
    · cases hx
  | block id b ih =>
    intro s K t L ρ a W Q hx hh hl ht hK
    refine wp_block ?_
    refine ih s _ t L ρ a W _ hx hh hl ht ?_
    intro z s' t' e M a' W' h1 hx' hl' h2 h3
    cases z with
    | nrm => exact hK .nrm s' t' e M a' W' h1 hx' hl' h2 h3
    | ret => exact hK .ret s' t' e M a' W' h1 hx' hl' h2 h3
    | exit i =>
      simp only [X.out, Exit.inBlock]
      dsimp only at h1
      split at h1
      · rename_i hi
        rw [if_pos hi]
        exact hK .nrm s' t' e M a' W' h1 hx' hl' h2 h3
      · rename_i hi
        rw [if_neg hi]
        exact hK (.exit i) s' t' e M a' W' h1 hx' hl' h2 h3
  | region id ops draw =>
    intro s K t L ρ a W Q hx hh hl ht hK
    have hK' : KOk P W0 R L ρ W s.lp (K .nrm) (Q .normal) := fun s' t' e a' W' h1 hx' hl' h2 h3 =>
      hK .nrm s' t' e [] a' W' h1 hx' (by rw [List.append_nil, hl', hl]) h2 (by rw [List.append_nil]; exact h3)
    simp only [xcode] at hx
    split at hx
    · rename_i hd
      subst hd
      split at hx
      · rename_i hB
        rw [Bool.and_eq_true] at hB
        refine wp_region_quick (C := fun w' => Below W.w.heap.size W.w w') hB.1 hB.2 ?_ ?_
        · exact ⟨rfl, rfl, rfl, Nat.le_refl _, fun _ _ => rfl⟩
        · exact xdraw_ok hI _ _ s t ρ a hx hh ht hK'
      · cases hx
    · rename_i hd
      have hd : draw = false := by simpa using hd
      subst hd
      refine wp_region_list ?_
      exact xops_ok hI _ _ s t ρ a W hx hh ht hK'
  | loop b ih =>
    intro s K t L ρ a W Q hx hh hl ht hK
    simp only [xcode] at hx
    split at hx
    · rename_i k hk
      split at hx
      · rename_i ini hini
        split at hx
        · rename_i heads c' hheads
          split at hx
          · rename_i hok
            rw [Bool.and_eq_true] at hok
            split at hx
            · rename_i tb htb
              obtain rfl := Option.some.inj hx
              obtain ⟨Inv, n0, hI0, hround⟩ := ht
              generalize hps : Cfg.find cf.loops k = ps at *
              have hbase : Less s { s with tm := forget s.tm (dsts b) } := by
                refine ⟨rfl, fun t x h => ?_, rfl, rfl⟩
                rcases forget_get (dsts b) s.tm t with h1 | h1
                · dsimp only at h; rw [h1] at h; exact h
                · dsimp only at h; rw [h1] at h; cases h
              have hbok : St.ok { s with tm := forget s.tm (dsts b) } = true := by
                have h0 := hok.1
                simp only [St.ok, Bool.and_eq_true] at h0 ⊢
                refine ⟨⟨⟨?_, h0.1.1.2⟩, h0.1.2⟩, h0.2⟩
                exact forget_all (f := Sy.okO s.c) rfl _ _ h0.1.1.1
              have hlen : heads.length = ini.length := headSs_length ini s.c _ hheads
              refine wp_loop_ghost (fun n a' w' => ∃ (W' : Wd) (e : Env) (vals : List Sy), W'.w = w' ∧ Ext W W' ∧ vals.length = heads.length ∧
                Holds W0 (ρ.push e) { plug { s with tm := forget s.tm (dsts b) } ps vals with c := (ρ.push e).cnt } a' W' ∧ Inv n (Sy.dens (ρ.push e) vals) W') n0 ?_ ?_
              · refine ⟨W, {}, ini, rfl, Ext.refl W, hlen.symm, ?_, by rw [push_nil]; exact hI0⟩
                have h1 := hh.less (plug_less ps _ ini hini hbase) (by rw [(plug_kn ps _ ini).1]; exact hh.kn)
                rw [push_nil, hh.cnt]
                exact h1
              · rintro n a' w' ⟨W', e, vals, rfl, hext, hvl, hhold, hInv⟩
                obtain ⟨d, hd, hdens, hden⟩ := (hround n _ W' hext hInv).out
                have hal : Alike (ρ.push e) (ρ.push d) (plug { s with tm := forget s.tm (dsts b) } ps vals) (plug { s with tm := forget s.tm (dsts b) } ps heads) :=
                  (Alike.refl_push (s := { s with tm := forget s.tm (dsts b) }) hh.cnt hbok).plug ps vals heads hvl hdens.symm
                have hcnt : (ρ.push d).cnt = s.c.add (c'.less s.c) := by rw [Env.cnt_push, hh.cnt, hd.1]
                have hhold' : Holds W0 (ρ.push d) { plug { s with tm := forget s.tm (dsts b) } ps heads with c := s.c.add (c'.less s.c), lp := s.lp + 1 } a' W' := by
                  refine Alike.holds hhold ⟨hal.len, hal.tm, hal.ms, hal.hp, hal.ro⟩ hcnt (Env.good_push hh.good hd.2) ?_
                  show Kn.holds _ (plug _ ps heads).kn
                  rw [(plug_kn ps _ heads).1]
                  exact Kn.push (s := { s with tm := forget s.tm (dsts b) }) hh.cnt hbok hh.kn
                refine ih _ _ tb _ (ρ.push d) a' W' _ htb hhold' ?_ hden ?_
                · simp [hl]
                · intro z s' t' e' M a'' W'' h1 hx' hl' h2 h3
                  cases z with
                  | nrm =>
                    dsimp only at h1
                    split at h1
                    · rename_i vals' hvals'
                      split at h1
                      · rename_i hcov
                        rw [Bool.and_eq_true] at hcov
                        obtain rfl := Option.some.inj h1
                        have h4 : Lv.at (L ++ [_] ++ M) s.lp _ W'' := h3
                        have hget : (L ++ [fun vs' W'' => ∃ n', n' < n ∧ Inv n' vs' W''] ++ M)[s.lp]? = some (fun vs' W'' => ∃ n', n' < n ∧ Inv n' vs' W'') := by
                          rw [hl, List.append_assoc, List.getElem?_append_right (Nat.le_refl _)]
                          simp
                        unfold Lv.at at h4
                        rw [hget] at h4
                        obtain ⟨n', hn', hI'⟩ := h4
                        rw [push_push] at h2 hI'
                        refine ⟨n', hn', W'', d.push e', vals', rfl, hext.trans hx', of_decide_eq_true hcov.2, ?_, hI'⟩
                        have h5 := h2.cover hcov.1 (by rw [(plug_kn ps _ vals').1]; exact Kn.push (s := { s with tm := forget s.tm (dsts b) }) hh.cnt hbok hh.kn)
                        have h6 := h2.cnt
                        rw [h6]
                        exact h5
                      · cases h1
                    · cases h1
                  | exit i =>
                    have := hK (.exit i) s' t' (d.push e') ([fun vs' W'' => ∃ n', n' < n ∧ Inv n' vs' W''] ++ M) a'' W'' h1 (hext.trans hx') (by rw [← List.append_assoc]; exact hl') (by rw [← push_push]; exact h2) (by rw [← push_push, ← List.append_assoc]; exact h3)
                    exact this
                  | ret =>
                    have := hK .ret s' t' (d.push e') ([fun vs' W'' => ∃ n', n' < n ∧ Inv n' vs' W''] ++ M) a'' W'' h1 (hext.trans hx') (by rw [← List.append_assoc]; exact hl') (by rw [← push_push]; exact h2) (by rw [← push_push, ← List.append_assoc]; exact h3)
                    exact this
            · cases hx
          · cases hx
        · cases hx
      · cases hx
    · cases hx
  | rangeFunc => intro s K t L ρ a W Q hx; simp [xcode] at hx
  | scope => intro s K t L ρ a W Q hx; simp [xcode] at hx
  | goto => intro s K t L ρ a W Q hx; simp [xcode] at hx
  | refuse => intro s K t L ρ a W Q hx; simp [xcode] at hx
end Go.SE
end
section
set_option linter.unusedVariables false
namespace Go.SE
open Go Go.RowKit

variable {P : Program}

def resS (P : Program) (s : St) : List ResultVar → Option (List Sy)
  | [] => some []
  | r :: l => match (match r with
      | .tmp t => getT s.tm t
      | .cell a t => match getT s.tm a with
        | some (.ptr m o) => match findB (s.hp ++ s.ro) m with
          | some b => ldS P t b.cs o
          | none => none
        | _ => none), resS P s l with
    | some x, some r => some (x :: r)
    | _, _ => none
def oneS : List Sy → Sy
  | [s] => s
  | l => .tup l
def resOne (tmps : Array Value) : ResultVar → Sem Value
  | .tmp t => pure (tmps.getD t undef)
  | .cell a t => do loadVar t (← asAddr (tmps.getD a undef))
theorem results_eq (fn : Func) (tmps : Array Value) : results fn tmps = (do let vs ← fn.results.mapM (resOne tmps); pure (if h : vs.size = 1 then vs[0] else .tuple vs)) := by
  unfold results
  congr 1
theorem run_resS {W0 : Wd} {ρ : Env} {s : St} {a : Act} {W : Wd} (h : Holds W0 ρ s a W) : ∀ (l : List ResultVar) (r : List Sy), resS P s l = some r →
    (l.mapM (m := Sem) (resOne a.tmps)).run P W.w = .ok (Sy.dens ρ r) W.w
  | [], r, hr => by obtain rfl := Option.some.inj hr; simp [Sy.dens]
  | x :: l, r, hr => by
    simp only [resS] at hr
    split at hr
    · rename_i y r' hy hr'
      obtain rfl := Option.some.inj hr
      have ih := run_resS h l r' hr'
      have hone : (resOne a.tmps x).run P W.w = .ok (y.den ρ) W.w := by
        cases x with
        | tmp t =>
          have h1 := h.tm (.tmp t) y hy
          simp only [Act.eval] at h1
          simp only [resOne, Sem.run_pure, h1]
        | cell c t =>
          dsimp only at hy
          split at hy
          · rename_i m o hc
            split at hy
            · rename_i b hb
              have h1 := h.tm (.tmp c) _ hc
              simp only [Act.eval, Sy.den] at h1
              obtain ⟨hm, rfl⟩ := findB_mem hb
              have h2 := run_ldS (ρ := ρ) hy (both_at h.hp h.ro b hm)
              simp only [resOne, h1, asAddr, Sem.run_bind, Sem.run_pure, Result.andThen_ok, h2]
            · cases hy
          · cases hy
      simp only [List.mapM_cons, Sem.run_bind, hone, Result.andThen_ok, ih, Sem.run_pure, Sy.dens]
    · cases hr
theorem run_results {W0 : Wd} {ρ : Env} {s : St} {a : Act} {W : Wd} (h : Holds W0 ρ s a W) {fn : Func} {r : List Sy} (hr : resS P s fn.results.toList = some r) :
    (results fn a.tmps).run P W.w = .ok ((oneS r).den ρ) W.w := by
  have h1 := run_resS (P := P) h fn.results.toList r hr
  rw [results_eq, Array.mapM_eq_mapM_toList]
  simp only [Sem.run_bind, Sem.run_map]
  rw [h1]
  simp only [Result.andThen_ok]
  match r with
  | [] => simp [oneS, Sy.den, Sy.dens]
  | [x] => simp [oneS, Sy.dens]
  | x :: y :: l => simp [oneS, Sy.den, Sy.dens]

def argT : Nat → List Sy → Tm
  | _, [] => []
  | k, s :: l => (k, some s) :: argT (k + 1) l
theorem argT_get : ∀ (l : List Sy) (k t : Nat), getT (argT k l) t = if k ≤ t then l[t - k]? else none
  | [], k, t => by simp [argT, getT]
  | s :: l, k, t => by
    simp only [argT]
    by_cases h : k = t
    · subst h; rw [getT_same]; simp
    · rw [getT_other _ _ h, argT_get l (k + 1) t]
      by_cases h1 : k ≤ t
      · rw [if_pos h1, if_pos (by omega), show t - k = (t - (k + 1)) + 1 from by omega, List.getElem?_cons_succ]
      · rw [if_neg h1, if_neg (by omega)]
def startS (args : List Sy) (n : Nat) (ro : List Blk) (c : Cnt) : St := { n := if n < args.length then args.length else n, tm := argT 0 args, hp := [], ro := ro, kn := [], c := c, lp := 0 }
/-- what is left to show of a function -/
def xfnI (P : Program) (cf : Cfg) (inl : Inl) (fn : Func) (args : List Sy) (ro : List Blk) (c : Cnt) : Option Tree :=
  match fn.body with
  | some code => xcode P cf inl code (startS args fn.ntmps ro c) fun x s => match x with
    | .exit _ => none
    | _ => match resS P s fn.results.toList with
      | some r => some (.ret (oneS r) (reach (s.hp ++ s.ro) r))
      | none => none
  | none => none

def inlD (P : Program) (cf : Cfg) : Nat → Inl
  | 0 => fun _ _ _ _ => none
  | d + 1 => fun f args ro c => if cf.inl.contains f then (match P.funcs[f]? with
    | some fn => xfnI P { cf with loops := [] } (inlD P cf d) fn args ro c
    | none => none) else none
def xfn (P : Program) (cf : Cfg) (fn : Func) (args : List Sy) (ro : List Blk) (c : Cnt) : Option Tree := xfnI P cf (inlD P cf cf.depth) fn args ro c

theorem start_holds (args : List Sy) (n : Nat) (ρ : Env) (hg : ρ.good) (ro : List Blk) (W : Wd) (hro : BlksAt ρ ro W.w) :
    Holds W ρ (startS args n ro ρ.cnt) { tmps := (Sy.dens ρ args).toArray ++ Array.replicate (n - (Sy.dens ρ args).toArray.size) undef, defers := [] } W := by
  have hlen : (Sy.dens ρ args).length = args.length := by simp [Sy.dens_eq]
  refine ⟨rfl, hg, ?_, ?_, rfl, fun b hb => (by cases hb), hro, fun b hb => hro.lt hb, fun b hb => (by cases hb), List.Pairwise.nil, fun p hp => (by cases hp), Below.refl _ _, fun b hb => .inl hb, Ext.refl W⟩
  · intro x y hx
    cases x with
    | tmp t =>
      simp only [evS, startS, argT_get, Nat.zero_le, if_true, Nat.sub_zero] at hx
      simp only [Act.eval, Array.getD_eq_getD_getElem?]
      have h : t < args.length := (List.getElem?_eq_some_iff.1 hx).1
      have e : ((Sy.dens ρ args).toArray ++ Array.replicate (n - (Sy.dens ρ args).toArray.size) undef)[t]? = (Sy.dens ρ args)[t]? := by
        rw [Array.getElem?_append_left (by simpa [hlen] using h)]; simp
      rw [e, dens_getElem?, hx]
      rfl
    | const v => simp only [evS] at hx; obtain rfl := Option.some.inj hx; rw [ofVal_den]; rfl
    | global g => simp only [evS] at hx; obtain rfl := Option.some.inj hx; rfl
    | func f => simp only [evS] at hx; obtain rfl := Option.some.inj hx; simp [Act.eval, Sy.den, Sy.dens]
  · simp only [startS, Array.size_append, List.size_toArray, hlen, Array.size_replicate]
    split <;> omega

theorem fnI_calls {inl : Inl} (hI : InlOk P inl) {f : FuncId} {fn : Func} (hf : P.funcs[f]? = some fn) (cf : Cfg) (args : List Sy) (ro : List Blk) (ρ : Env) (t : Tree) (hx : xfnI P cf inl fn args ro ρ.cnt = some t) (hg : ρ.good) {W : Wd}
    {R : Value → Wd → Prop} (hro : BlksAt ρ ro W.w) (hden : t.den P W.w.heap.size R [] ρ W) : CallsI P f (Sy.dens ρ args).toArray W R := by
  unfold xfnI at hx
  split at hx
  · rename_i code hb
    refine calls_of_wp hf hb ?_
    refine xcode_ok hI code (startS args fn.ntmps ro ρ.cnt) _ t [] ρ _ W _ hx (start_holds args fn.ntmps ρ hg ro W hro) rfl hden ?_
    intro x s' t' e M a' W' h1 hx' hl' h2 h3
    have fin : ∀ r, resS P s' fn.results.toList = some r → t' = .ret (oneS r) (reach (s'.hp ++ s'.ro) r) →
        a'.defers = [] ∧ ∃ v, (results fn a'.tmps).run P W'.w = .ok v W'.w ∧ ∃ v', Ending.returned v = .returned v' ∧ Below W.w.heap.size W.w W'.w ∧ ∀ W'' : Wd, W''.w = W'.w → Ext W W'' → NewIn W.w.heap.size W'' → R v' W'' := by
      rintro r hr rfl
      refine ⟨h2.df, _, run_results h2 hr, _, rfl, h2.up, fun W'' e1 e2 e3 => ?_⟩
      refine h3 W'' e1 ⟨by rw [e1]; exact Nat.le_refl _, fun b hb => ?_, fun b _ => by rw [e1]⟩ e3 (by rw [e1]; exact reach_at (both_at h2.hp h2.ro))
      rcases h2.sub b hb with h4 | h4
      · exact e2.sub b h4
      · exact e3 b h4 (by rw [e1]; exact W'.lt b hb)
    cases x with
    | exit i => cases h1
    | nrm =>
      dsimp only at h1
      split at h1
      · rename_i r hr; exact fin r hr (Option.some.inj h1).symm
      · cases h1
    | ret =>
      dsimp only at h1
      split at h1
      · rename_i r hr; exact fin r hr (Option.some.inj h1).symm
      · cases h1
  · cases hx
theorem inlD_ok (cf : Cfg) : ∀ d, InlOk P (inlD P cf d)
  | 0 => fun f args ro c t h => by cases h
  | d + 1 => fun f args ro c t h ρ W R hc hg hro hden => by
    simp only [inlD] at h
    split at h
    · split at h
      · rename_i fn hfn
        subst hc
        exact fnI_calls (inlD_ok cf d) hfn _ args ro ρ t h hg hro hden
      · cases h
    · cases h
/-- what is left to show of a function shows what it does -/
theorem fn_calls {f : FuncId} {fn : Func} (hf : P.funcs[f]? = some fn) (cf : Cfg) (args : List Sy) (ρ : Env) (t : Tree) (hx : xfn P cf fn args [] ρ.cnt = some t) (hg : ρ.good) {W : Wd} {R : Value → Wd → Prop}
    (hden : t.den P W.w.heap.size R [] ρ W) : CallsI P f (Sy.dens ρ args).toArray W R :=
  fnI_calls (inlD_ok cf cf.depth) hf cf args [] ρ t hx hg (fun b hb => by cases hb) hden
/-- the same, with blocks that are known -/
theorem fn_calls_ro {f : FuncId} {fn : Func} (hf : P.funcs[f]? = some fn) (cf : Cfg) (args : List Sy) (ro : List Blk) (ρ : Env) (t : Tree) (hx : xfn P cf fn args ro ρ.cnt = some t) (hg : ρ.good) {W : Wd} {R : Value → Wd → Prop}
    (hro : BlksAt ρ ro W.w) (hden : t.den P W.w.heap.size R [] ρ W) : CallsI P f (Sy.dens ρ args).toArray W R :=
  fnI_calls (inlD_ok cf cf.depth) hf cf args ro ρ t hx hg hro hden

/-- any world, nothing of which is known to stay -/
def Wd.of (w : World) : Wd := ⟨w, fun _ => False, fun _ h => h.elim⟩
theorem CallsI.out {f : FuncId} {args : Array Value} {w : World} {v : Value} (h : CallsI P f args (Wd.of w) fun u _ => u = v) : Calls P f args w fun e w' => e = .returned v ∧ Below w.heap.size w w' := CallsQ.of_i h
end Go.SE
end
section
namespace Go.SE
open Go Go.RowKit

section
variable {P : Program} {n0 : Nat} {R : Value → Wd → Prop} {L : Lv} {W : Wd} {ρ : Env}
theorem den_ret {s hp} (h : ∀ W', W'.w = W.w → Ext W W' → NewIn n0 W' → BlksAt ρ hp W'.w → R (s.den ρ) W') : (Tree.ret s hp).den P n0 R L ρ W := h
theorem den_br {c a b} (h : c.b ρ = true → a.den P n0 R L ρ W) (k : c.b ρ = false → b.den P n0 R L ρ W) : (Tree.br c a b).den P n0 R L ρ W := ⟨h, k⟩
theorem den_br_t {c a b} (e : c.b ρ = true) (h : a.den P n0 R L ρ W) : (Tree.br c a b).den P n0 R L ρ W := ⟨fun _ => h, fun e' => absurd (e.symm.trans e') (by decide)⟩
theorem den_br_f {c a b} (e : c.b ρ = false) (h : b.den P n0 R L ρ W) : (Tree.br c a b).den P n0 R L ρ W := ⟨fun e' => absurd (e.symm.trans e') (by decide), fun _ => h⟩
theorem den_chk {c t} (e : c.b ρ = true) (h : t.den P n0 R L ρ W) : (Tree.chk c t).den P n0 R L ρ W := ⟨e, h⟩
theorem den_new {t} (h : ∀ m W', Ext W W' → t.den P n0 R L (ρ.push { M := [m] }) W') : (Tree.new t).den P n0 R L ρ W := h
theorem den_wr {t} (h : ∀ W', Ext W W' → t.den P n0 R L ρ W') : (Tree.wr t).den P n0 R L ρ W := h
theorem den_grow {t} (h : ∀ W', Ext W W' → t.den P n0 R L ρ W') : (Tree.grow t).den P n0 R L ρ W := h
theorem den_call {f args hp res c t} (h : BlksAt ρ hp W.w → CallsI P f (Sy.dens ρ args).toArray W fun v W' => ExE c fun d => v = res.den (ρ.push d) ∧ t.den P n0 R L (ρ.push d) W') : (Tree.call f args hp res c t).den P n0 R L ρ W := h
theorem den_callq {f args hp res c t} (h : ExE c fun d => (∀ W', Ext W W' → BlksAt ρ hp W'.w → CallsQ P f (Sy.dens ρ args).toArray W' (res.den (ρ.push d))) ∧ t.den P n0 R L (ρ.push d) W) : (Tree.callq f args hp res c t).den P n0 R L ρ W := h
theorem den_look {ty p res c t} (h : ExE c fun d => (∀ W', Ext W W' → (Instr.loadAt ty (p.den ρ)).run P W'.w = .ok (res.den (ρ.push d)) W'.w) ∧ t.den P n0 R L (ρ.push d) W) : (Tree.look ty p res c t).den P n0 R L ρ W := h
theorem den_loop {init heads c t} (Inv : Nat → List Value → Wd → Prop) (n : Nat) (h : Inv n (Sy.dens ρ init) W)
    (k : ∀ n vs W', Ext W W' → Inv n vs W' → ExE c fun d => Sy.dens (ρ.push d) heads = vs ∧ t.den P n0 R (L ++ [fun vs' W'' => ∃ n', n' < n ∧ Inv n' vs' W'']) (ρ.push d) W') : (Tree.loop init heads c t).den P n0 R L ρ W := ⟨Inv, n, h, k⟩
theorem den_again {n vals} (h : L.at n (Sy.dens ρ vals) W) : (Tree.again n vals).den P n0 R L ρ W := h
end
end Go.SE
end
