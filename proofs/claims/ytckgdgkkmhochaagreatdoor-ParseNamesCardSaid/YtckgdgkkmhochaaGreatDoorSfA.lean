/- The walk that the kernel computes: symbolic values and worlds, and that they are sound. -/
import Derived.WalkKit
import Derived.WalkLawsBesides
import Derived.Lib.QuietBelow
import Derived.Laws.StructEq
set_option linter.unusedSimpArgs false
set_option linter.unusedVariables false
section
namespace Go.SF
open Go Go.RowKit

/-- a list's element -/
def gd {α : Type} : List α → Nat → α → α
  | [], _, x => x
  | a :: _, 0, _ => a
  | _ :: l, n + 1, x => gd l n x
theorem gd_app {α : Type} : ∀ (l m : List α) (n : Nat) (x : α), n < l.length → gd (l ++ m) n x = gd l n x
  | [], _, _, _, h => by simp at h
  | _ :: _, _, 0, _, _ => rfl
  | _ :: l, m, n + 1, x, h => gd_app l m n x (by simpa using h)
theorem gd_mem {α : Type} : ∀ (l : List α) (n : Nat) (x : α), gd l n x ∈ l ∨ gd l n x = x
  | [], _, _ => .inr rfl
  | _ :: _, 0, _ => .inl (List.mem_cons_self ..)
  | _ :: l, n + 1, x => (gd_mem l n x).imp (List.mem_cons_of_mem _) id

theorem gd_get' {α : Type} : ∀ {l : List α} {n : Nat} {x : α} (h : n < l.length), gd l n x = l[n]
  | _ :: _, 0, _, _ => rfl
  | _ :: l, n + 1, x, h => gd_get' (l := l) (n := n) (x := x) (by simpa using h)
theorem gd_get {a : Array UInt8} {n : Nat} {x : UInt8} (h : n < a.size) : gd a.toList n x = a[n] := by
  rw [gd_get' (by simpa using h)]; simp

/-- operators of two -/
inductive BO where
  | add | sub | mul | quo | rem | lt | le | ieq | band | bor | beq | cat | teq | tlt | byte | max
  deriving DecidableEq, Repr
/-- operators of one -/
inductive UO where
  | wrap (k : IntKind) | len | not | neg | chr
  deriving DecidableEq, Repr
/-- expressions over numbers, truths and texts -/
inductive E where
  | iv (n : Nat) | nv (n : Nat) | bv (n : Nat) | tv (n : Nat)
  | il (n : Int) | bl (b : Bool) | tl (s : List UInt8)
  | sm (a : Nat) | vn (n : Nat) | vk (n : Nat)
  | bin (o : BO) (a b : E) | un (o : UO) (a : E) | cut (s lo hi : E)
  deriving DecidableEq, Repr

/-- whether two expressions are the same, quick for the kernel -/
def kindNo : IntKind → Nat
  | .i8 => 0 | .i16 => 1 | .i32 => 2 | .i64 => 3 | .u8 => 4 | .u16 => 5 | .u32 => 6 | .u64 => 7
def BO.no : BO → Nat
  | .add => 0 | .sub => 1 | .mul => 2 | .quo => 3 | .rem => 4 | .lt => 5 | .le => 6 | .ieq => 7 | .band => 8 | .bor => 9 | .beq => 10 | .cat => 11 | .teq => 12 | .tlt => 13 | .byte => 14 | .max => 15
def UO.no : UO → Nat
  | .wrap k => 10 + kindNo k | .len => 0 | .not => 1 | .neg => 2 | .chr => 3
theorem BO.no_inj {a b : BO} (h : Nat.beq a.no b.no = true) : a = b := by
  have h := Nat.eq_of_beq_eq_true h
  cases a <;> cases b <;> first | rfl | (simp [BO.no] at h)
theorem kindNo_inj {a b : IntKind} (h : kindNo a = kindNo b) : a = b := by cases a <;> cases b <;> first | rfl | (simp [kindNo] at h)
theorem kindNo_lt (a : IntKind) : kindNo a < 8 := by cases a <;> decide
theorem UO.no_inj {a b : UO} (h : Nat.beq a.no b.no = true) : a = b := by
  have h := Nat.eq_of_beq_eq_true h
  cases a <;> cases b <;> simp only [UO.no] at h <;> first | rfl | (exact congrArg UO.wrap (kindNo_inj (by omega))) | omega
def intSame : Int → Int → Bool
  | .ofNat a, .ofNat b => Nat.beq a b
  | .negSucc a, .negSucc b => Nat.beq a b
  | _, _ => false
theorem intSame_eq {a b : Int} (h : intSame a b = true) : a = b := by
  cases a <;> cases b <;> simp only [intSame] at h <;> first | (rw [Nat.eq_of_beq_eq_true h]) | cases h
theorem intSame_mk {a b : Int} (h : a = b) : intSame a b = true := by subst h; cases a <;> simp [intSame]
def bytesSame : List UInt8 → List UInt8 → Bool
  | [], [] => true
  | a :: l, b :: m => Nat.beq a.toNat b.toNat && bytesSame l m
  | _, _ => false
theorem bytesSame_eq : ∀ {a b : List UInt8}, bytesSame a b = true → a = b
  | [], [], _ => rfl
  | [], _ :: _, h => by simp [bytesSame] at h
  | _ :: _, [], h => by simp [bytesSame] at h
  | a :: l, b :: m, h => by
    simp only [bytesSame, Bool.and_eq_true] at h
    rw [UInt8.toNat_inj.1 (Nat.eq_of_beq_eq_true h.1), bytesSame_eq h.2]
def boolSame : Bool → Bool → Bool
  | true, b => b
  | false, b => !b
theorem boolSame_eq {a b : Bool} (h : boolSame a b = true) : a = b := by cases a <;> cases b <;> first | rfl | cases h
def E.same : E → E → Bool
  | .iv a, .iv b => Nat.beq a b
  | .nv a, .nv b => Nat.beq a b
  | .bv a, .bv b => Nat.beq a b
  | .tv a, .tv b => Nat.beq a b
  | .sm a, .sm b => Nat.beq a b
  | .vn a, .vn b => Nat.beq a b
  | .vk a, .vk b => Nat.beq a b
  | .il a, .il b => intSame a b
  | .bl a, .bl b => boolSame a b
  | .tl a, .tl b => bytesSame a b
  | .bin o a b, .bin p c d => Nat.beq o.no p.no && (a.same c && b.same d)
  | .un o a, .un p c => Nat.beq o.no p.no && a.same c
  | .cut a b c, .cut d e f => a.same d && (b.same e && c.same f)
  | _, _ => false
theorem E.same_eq : ∀ {a b : E}, E.same a b = true → a = b := by
  intro a
  induction a with
  | iv n => intro b h; cases b <;> simp only [E.same] at h <;> first | (rw [Nat.eq_of_beq_eq_true h]) | cases h
  | nv n => intro b h; cases b <;> simp only [E.same] at h <;> first | (rw [Nat.eq_of_beq_eq_true h]) | cases h
  | bv n => intro b h; cases b <;> simp only [E.same] at h <;> first | (rw [Nat.eq_of_beq_eq_true h]) | cases h
  | tv n => intro b h; cases b <;> simp only [E.same] at h <;> first | (rw [Nat.eq_of_beq_eq_true h]) | cases h
  | sm n => intro b h; cases b <;> simp only [E.same] at h <;> first | (rw [Nat.eq_of_beq_eq_true h]) | cases h
  | vn n => intro b h; cases b <;> simp only [E.same] at h <;> first | (rw [Nat.eq_of_beq_eq_true h]) | cases h
  | vk n => intro b h; cases b <;> simp only [E.same] at h <;> first | (rw [Nat.eq_of_beq_eq_true h]) | cases h
  | il n => intro b h; cases b <;> simp only [E.same] at h <;> first | (rw [intSame_eq h]) | cases h
  | bl n => intro b h; cases b <;> simp only [E.same] at h <;> first | (rw [boolSame_eq h]) | cases h
  | tl n => intro b h; cases b <;> simp only [E.same] at h <;> first | (rw [bytesSame_eq h]) | cases h
  | bin o x y ihx ihy =>
    intro b h
    cases b <;> simp only [E.same, Bool.and_eq_true] at h <;> first | (rw [BO.no_inj h.1, ihx h.2.1, ihy h.2.2]) | cases h
  | un o x ihx =>
    intro b h
    cases b <;> simp only [E.same, Bool.and_eq_true] at h <;> first | (rw [UO.no_inj h.1, ihx h.2]) | cases h
  | cut x y z ihx ihy ihz =>
    intro b h
    cases b <;> simp only [E.same, Bool.and_eq_true] at h <;> first | (rw [ihx h.1, ihy h.2.1, ihz h.2.2]) | cases h

/-- what the variables are -/
structure Env where
  I : List Int := []
  N : List Nat := []
  B : List Bool := []
  T : List ByteArray := []
  V : List Value := []
  A : List (Option Addr) := []
  M : List Nat := []
  L : List (List Value) := []

/-- how many variables there are -/
structure Cnt where
  I : Nat := 0
  N : Nat := 0
  B : Nat := 0
  T : Nat := 0
  V : Nat := 0
  A : Nat := 0
  M : Nat := 0
  L : Nat := 0
  deriving DecidableEq, Repr

def Env.cnt (ρ : Env) : Cnt := ⟨ρ.I.length, ρ.N.length, ρ.B.length, ρ.T.length, ρ.V.length, ρ.A.length, ρ.M.length, ρ.L.length⟩
def Env.push (ρ d : Env) : Env := ⟨ρ.I ++ d.I, ρ.N ++ d.N, ρ.B ++ d.B, ρ.T ++ d.T, ρ.V ++ d.V, ρ.A ++ d.A, ρ.M ++ d.M, ρ.L ++ d.L⟩
def Cnt.add (c d : Cnt) : Cnt := ⟨c.I + d.I, c.N + d.N, c.B + d.B, c.T + d.T, c.V + d.V, c.A + d.A, c.M + d.M, c.L + d.L⟩
theorem Env.cnt_push (ρ d : Env) : (ρ.push d).cnt = ρ.cnt.add d.cnt := by simp [Env.cnt, Env.push, Cnt.add]

def isNilV : Value → Bool
  | .nilIface => true
  | _ => false
def isIfcV : Value → Bool
  | .nilIface | .iface _ _ => true
  | _ => false
/-- comparisons as truths -/
def ltB (a b : Int) : Bool := decide (a < b)
def leB (a b : Int) : Bool := decide (a ≤ b)
theorem ltB_true {a b : Int} : (ltB a b = true) = (a < b) := by simp [ltB]
theorem ltB_false {a b : Int} : (ltB a b = false) = (b ≤ a) := by simp [ltB]
theorem leB_true {a b : Int} : (leB a b = true) = (a ≤ b) := by simp [leB]
theorem leB_false {a b : Int} : (leB a b = false) = (b < a) := by simp [leB]
mutual
def E.i (ρ : Env) : E → Int
  | .iv n => gd ρ.I n 0
  | .nv n => ((gd ρ.N n 0 : Nat) : Int)
  | .il n => n
  | .bin .add a b => a.i ρ + b.i ρ
  | .bin .sub a b => a.i ρ - b.i ρ
  | .bin .mul a b => a.i ρ * b.i ρ
  | .bin .quo a b => (a.i ρ).tdiv (b.i ρ)
  | .bin .rem a b => (a.i ρ).tmod (b.i ρ)
  | .bin .max a b => max (a.i ρ) (b.i ρ)
  | .bin .byte s n => ((gd (s.t ρ).data.toList (n.i ρ).toNat 0).toNat : Int)
  | .un (.wrap k) a => k.wrap (a.i ρ)
  | .un .neg a => - a.i ρ
  | .un .len s => ((s.t ρ).size : Int)
  | _ => 0
def E.b (ρ : Env) : E → Bool
  | .bv n => gd ρ.B n false
  | .bl b => b
  | .sm a => (gd ρ.A a none).isSome
  | .vn n => isNilV (gd ρ.V n .nilIface)
  | .vk n => isIfcV (gd ρ.V n .nilIface)
  | .bin .lt a b => ltB (a.i ρ) (b.i ρ)
  | .bin .le a b => leB (a.i ρ) (b.i ρ)
  | .bin .ieq a b => a.i ρ == b.i ρ
  | .bin .band a b => a.b ρ && b.b ρ
  | .bin .bor a b => a.b ρ || b.b ρ
  | .bin .beq a b => a.b ρ == b.b ρ
  | .bin .teq a b => (a.t ρ).data.toList == (b.t ρ).data.toList
  | .bin .tlt a b => Op.bytesLess (a.t ρ).data.toList (b.t ρ).data.toList
  | .un .not a => !a.b ρ
  | _ => false
def E.t (ρ : Env) : E → ByteArray
  | .tv n => gd ρ.T n ⟨#[]⟩
  | .tl s => ⟨s.toArray⟩
  | .bin .cat a b => a.t ρ ++ b.t ρ
  | .un .chr a => ⟨#[UInt8.ofNat (a.i ρ).toNat]⟩
  | .cut s lo hi => (s.t ρ).extract (lo.i ρ).toNat (hi.i ρ).toNat
  | _ => ⟨#[]⟩
end

/-- all variables are there -/
def E.ok (c : Cnt) : E → Bool
  | .iv n => n < c.I | .nv n => n < c.N | .bv n => n < c.B | .tv n => n < c.T
  | .il _ | .bl _ | .tl _ => true
  | .sm n => n < c.A
  | .vn n | .vk n => n < c.V
  | .bin _ a b => a.ok c && b.ok c
  | .un _ a => a.ok c
  | .cut a b d => a.ok c && b.ok c && d.ok c


theorem E.push (ρ d : Env) (e : E) : e.ok ρ.cnt = true → e.i (ρ.push d) = e.i ρ ∧ e.b (ρ.push d) = e.b ρ ∧ e.t (ρ.push d) = e.t ρ := by
  induction e with
  | iv n => intro h; have h := of_decide_eq_true h; simp [E.i, E.b, E.t, Env.push, gd_app _ _ _ _ h]
  | nv n => intro h; have h := of_decide_eq_true h; simp [E.i, E.b, E.t, Env.push, gd_app _ _ _ _ h]
  | bv n => intro h; have h := of_decide_eq_true h; simp [E.i, E.b, E.t, Env.push, gd_app _ _ _ _ h]
  | tv n => intro h; have h := of_decide_eq_true h; simp [E.i, E.b, E.t, Env.push, gd_app _ _ _ _ h]
  | il n => intro _; simp [E.i, E.b, E.t]
  | sm n => intro h; have h := of_decide_eq_true h; simp [E.i, E.b, E.t, Env.push, gd_app _ _ _ _ h]
  | vn n => intro h; have h := of_decide_eq_true h; simp [E.i, E.b, E.t, Env.push, gd_app _ _ _ _ h]
  | vk n => intro h; have h := of_decide_eq_true h; simp [E.i, E.b, E.t, Env.push, gd_app _ _ _ _ h]
  | bl n => intro _; simp [E.i, E.b, E.t]
  | tl n => intro _; simp [E.i, E.b, E.t]
  | bin o a b iha ihb =>
    intro h
    simp only [E.ok, Bool.and_eq_true] at h
    obtain ⟨a1, a2, a3⟩ := iha h.1
    obtain ⟨b1, b2, b3⟩ := ihb h.2
    cases o <;> simp [E.i, E.b, E.t, a1, a2, a3, b1, b2, b3]
  | un o a iha =>
    intro h
    simp only [E.ok] at h
    obtain ⟨a1, a2, a3⟩ := iha h
    cases o <;> simp [E.i, E.b, E.t, a1, a2, a3]
  | cut a b c iha ihb ihc =>
    intro h
    simp only [E.ok, Bool.and_eq_true] at h
    obtain ⟨_, _, a3⟩ := iha h.1.1
    obtain ⟨b1, _, _⟩ := ihb h.1.2
    obtain ⟨c1, _, _⟩ := ihc h.2
    simp [E.i, E.b, E.t, a3, b1, c1]

/-- symbolic values -/
inductive Sy where
  | bool (e : E) | int (k : IntKind) (e : E) | str (e : E)
  | ptr (m : Nat) (off : Nat)
  | elt (a : Nat) (i : E) (sz fo : Nat)
  | slc (a : Nat) (n c : E)
  | slb (m off n c : Nat)
  | nils
  | val (v : Value) | var (n : Nat)
  | agg (l : List Sy) | tup (l : List Sy)
  | fn (f : FuncId) (l : List Sy)
  | ifc (t : TypeId) (s : Sy)
  | when (g : E) (w : Bool) (s : Sy)

mutual
def Sy.den (ρ : Env) : Sy → Value
  | .bool e => .bool (e.b ρ)
  | .int k e => .int k (e.i ρ)
  | .str e => .string (e.t ρ)
  | .ptr m off => .pointer (some ⟨gd ρ.M m 0, off, none⟩)
  | .elt a i sz fo => .pointer (some (((gd ρ.A a none).getD default).add ((i.i ρ).toNat * sz + fo)))
  | .slc a n c => .slice (gd ρ.A a none) (n.i ρ).toNat (c.i ρ).toNat
  | .slb m off n c => .slice (some ⟨gd ρ.M m 0, off, none⟩) n c
  | .nils => .slice none 0 0
  | .val v => v
  | .var n => gd ρ.V n .nilIface
  | .agg l => .agg (Sy.dens ρ l).toArray
  | .tup l => .tuple (Sy.dens ρ l).toArray
  | .fn f l => .func (.func f) #[] (Sy.dens ρ l).toArray
  | .ifc t s => .iface t (s.den ρ)
  | .when g w s => if g.b ρ = w then s.den ρ else undef
def Sy.dens (ρ : Env) : List Sy → List Value
  | [] => []
  | s :: l => s.den ρ :: Sy.dens ρ l
end
theorem Sy.dens_eq (ρ : Env) (l : List Sy) : Sy.dens ρ l = l.map (Sy.den ρ) := by
  induction l with
  | nil => rfl
  | cons s l ih => simp [Sy.dens, ih]

mutual
def Sy.ok (c : Cnt) : Sy → Bool
  | .bool e | .int _ e | .str e => e.ok c
  | .ptr m _ => m < c.M
  | .elt a i _ _ => a < c.A && i.ok c
  | .slc a n k => a < c.A && n.ok c && k.ok c
  | .slb m _ _ _ => m < c.M
  | .nils | .val _ => true
  | .var n => n < c.V
  | .agg l | .tup l | .fn _ l => Sy.oks c l
  | .ifc _ s => s.ok c
  | .when g _ s => g.ok c && s.ok c
def Sy.oks (c : Cnt) : List Sy → Bool
  | [] => true
  | s :: l => s.ok c && Sy.oks c l
end

mutual
theorem Sy.push (ρ d : Env) : ∀ s : Sy, s.ok ρ.cnt = true → s.den (ρ.push d) = s.den ρ
  | .bool e, h => by simp only [Sy.ok] at h; simp [Sy.den, E.push ρ d e h]
  | .int _ e, h => by simp only [Sy.ok] at h; simp [Sy.den, E.push ρ d e h]
  | .str e, h => by simp only [Sy.ok] at h; simp [Sy.den, E.push ρ d e h]
  | .ptr m _, h => by have h := of_decide_eq_true h; simp [Sy.den, Env.push, gd_app _ _ _ _ h]
  | .elt a i _ _, h => by
    simp only [Sy.ok, Bool.and_eq_true] at h
    have h1 := E.push ρ d i h.2
    have h2 : a < ρ.A.length := of_decide_eq_true h.1
    simp only [Sy.den, h1]
    simp [Env.push, gd_app _ _ _ _ h2]
  | .slc a n k, h => by
    simp only [Sy.ok, Bool.and_eq_true] at h
    have h1 := (E.push ρ d n h.1.2).1
    have h2 := (E.push ρ d k h.2).1
    simp only [Sy.den, h1, h2]
    simp [Env.push, gd_app _ _ _ _ (of_decide_eq_true h.1.1)]
  | .slb m _ _ _, h => by have h := of_decide_eq_true h; simp [Sy.den, Env.push, gd_app _ _ _ _ h]
  | .nils, _ => rfl
  | .val _, _ => rfl
  | .var n, h => by have h := of_decide_eq_true h; simp [Sy.den, Env.push, gd_app _ _ _ _ h]
  | .agg l, h => by simp only [Sy.ok] at h; simp [Sy.den, Sy.pushes ρ d l h]
  | .tup l, h => by simp only [Sy.ok] at h; simp [Sy.den, Sy.pushes ρ d l h]
  | .fn _ l, h => by simp only [Sy.ok] at h; simp [Sy.den, Sy.pushes ρ d l h]
  | .ifc _ s, h => by simp only [Sy.ok] at h; simp [Sy.den, Sy.push ρ d s h]
  | .when g w s, h => by
    simp only [Sy.ok, Bool.and_eq_true] at h
    simp [Sy.den, Sy.push ρ d s h.2, (E.push ρ d g h.1).2.1]
theorem Sy.pushes (ρ d : Env) : ∀ l : List Sy, Sy.oks ρ.cnt l = true → Sy.dens (ρ.push d) l = Sy.dens ρ l
  | [], _ => rfl
  | s :: l, h => by simp only [Sy.oks, Bool.and_eq_true] at h; simp [Sy.dens, Sy.push ρ d s h.1, Sy.pushes ρ d l h.2]
end

/-- a value as a symbolic one -/
def ofCell : Value → Sy
  | .bool b => .bool (.bl b)
  | .int k n => .int k (.il n)
  | .string s => .str (.tl s.data.toList)
  | .slice none 0 0 => .nils
  | v => .val v
theorem ofCell_den (ρ : Env) (v : Value) : (ofCell v).den ρ = v := by
  unfold ofCell
  split <;> simp [Sy.den, E.b, E.i, E.t]
def ofVal : Value → Sy
  | .agg cs => .agg (cs.toList.map ofCell)
  | v => ofCell v
theorem dens_ofCell (ρ : Env) (l : List Value) : Sy.dens ρ (l.map ofCell) = l := by
  induction l with
  | nil => rfl
  | cons v l ih => simp [Sy.dens, ofCell_den, ih]
theorem ofVal_den (ρ : Env) (v : Value) : (ofVal v).den ρ = v := by
  unfold ofVal
  split
  · simp [Sy.den, dens_ofCell]
  · exact ofCell_den ρ _

def Env.good (ρ : Env) : Prop := ∀ v ∈ ρ.V, v.oneCell' = true
/-- it surely fits in one cell -/
def Sy.cell : Sy → Bool
  | .agg _ | .tup _ | .when _ _ _ => false
  | .val v => v.oneCell'
  | _ => true
theorem Sy.cell_den {ρ : Env} (hg : ρ.good) : ∀ s : Sy, s.cell = true → (s.den ρ).oneCell' = true
  | .var n, _ => by
    simp only [Sy.den]
    rcases gd_mem ρ.V n .nilIface with h | h
    · exact hg _ h
    · rw [h]; rfl
  | .val v, h => h
  | .bool _, _ | .int _ _, _ | .str _, _ | .ptr _ _, _ | .elt _ _ _ _, _ | .slc _ _ _, _ | .slb _ _ _ _, _ | .nils, _ | .fn _ _, _ | .ifc _ _, _ => rfl
  | .agg _, h | .tup _, h | .when _ _ _, h => by cases h
/-- the cells of a symbolic value -/
def Sy.cells : Sy → Option (List Sy)
  | .agg l => if l.all Sy.cell then some l else none
  | s => if s.cell then some [s] else none
theorem cells_of_one {v : Value} (h : v.oneCell' = true) : v.cells = #[v] := by cases v <;> first | rfl | cases h
theorem Sy.cells_den {ρ : Env} (hg : ρ.good) {s : Sy} {l : List Sy} (h : s.cells = some l) : (s.den ρ).cells = (Sy.dens ρ l).toArray ∧ ∀ x ∈ l, x.cell = true := by
  cases s
  case agg k =>
    simp only [Sy.cells] at h
    split at h
    · rename_i ha
      obtain rfl : k = l := by simpa using h
      exact ⟨by simp [Sy.den, Value.cells], by simpa using ha⟩
    · cases h
  all_goals
    simp only [Sy.cells] at h
    split at h
    · rename_i hc
      obtain rfl := (Option.some.inj h).symm
      refine ⟨?_, by simpa using hc⟩
      simp only [Sy.dens]
      exact cells_of_one (Sy.cell_den hg _ hc)
    · cases h
end Go.SF
end
section
namespace Go.SF
open Go Go.RowKit

variable {P : Program}

/-- a block that is known whole -/
structure Blk where
  m : Nat
  ty : TypeId
  cs : List Sy

def Blk.at (ρ : Env) (b : Blk) (w : World) : Prop := w.heap[gd ρ.M b.m 0]? = some (.cells (Sy.dens ρ b.cs).toArray b.ty)
def findB : List Blk → Nat → Option Blk
  | [], _ => none
  | b :: l, m => if b.m = m then some b else findB l m
theorem findB_mem : ∀ {l : List Blk} {m : Nat} {b : Blk}, findB l m = some b → b ∈ l ∧ b.m = m
  | [], _, _, h => by cases h
  | a :: l, m, b, h => by
    simp only [findB] at h
    split at h
    · rename_i e; obtain rfl := Option.some.inj h; exact ⟨List.mem_cons_self .., e⟩
    · exact ⟨List.mem_cons_of_mem _ (findB_mem h).1, (findB_mem h).2⟩

def aggT (P : Program) (t : TypeId) : Option Bool :=
  match P.underlying t with
  | some (.struct _) | some (.array _ _) => some true
  | some _ => some false
  | none => none
def sizeT (P : Program) (t : TypeId) : Option Nat := (P.info? t).map (·.size)
theorem run_aggT {t : TypeId} {b : Bool} (h : aggT P t = some b) (w : World) : (isAgg t).run P w = .ok b w := by
  unfold aggT at h
  split at h <;> simp_all [isAgg, underlying]
theorem run_sizeT {t : TypeId} {n : Nat} (h : sizeT P t = some n) (w : World) : (sizeOf t).run P w = .ok n w := by
  unfold sizeT at h
  cases hi : P.info? t with
  | none => simp [hi] at h
  | some i => simp [hi] at h; subst h; simp [sizeOf, typeInfo, hi]

theorem add_add (a : Addr) (m n : Nat) : (a.add m).add n = a.add (m + n) := by
  unfold Addr.add
  by_cases hm : m = 0
  · subst hm; simp
  · by_cases hn : n = 0
    · subst hn; simp [hm]
    · simp [hm, hn, Nat.add_assoc]
theorem add_none (b o n : Nat) : (⟨b, o, none⟩ : Addr).add n = ⟨b, o + n, none⟩ := by
  unfold Addr.add; split <;> simp_all

/-- what is loaded from cells -/
def ldS (P : Program) (t : TypeId) (cs : List Sy) (off : Nat) : Option Sy :=
  match aggT P t, sizeT P t with
  | some true, some n => let l := (cs.drop off).take n; if l.length = n then some (.agg l) else none
  | some false, some _ => cs[off]?
  | _, _ => none
theorem dens_getElem? (ρ : Env) (l : List Sy) (n : Nat) : (Sy.dens ρ l)[n]? = (l[n]?).map (Sy.den ρ) := by
  rw [Sy.dens_eq, List.getElem?_map]
theorem run_ldS {ρ : Env} {t : TypeId} {cs : List Sy} {off : Nat} {s : Sy} (h : ldS P t cs off = some s) {w : World} {b : Nat} {ty : TypeId}
    (hb : w.heap[b]? = some (.cells (Sy.dens ρ cs).toArray ty)) : (loadVar t ⟨b, off, none⟩).run P w = .ok (s.den ρ) w := by
  unfold ldS at h
  split at h
  · rename_i n hA hS
    dsimp only at h
    split at h
    · rename_i hl
      obtain rfl := Option.some.inj h
      have hc : (loadCells ⟨b, off, none⟩ n).run P w = .ok (Sy.dens ρ ((cs.drop off).take n)).toArray w := by
        have := run_loadCells_list (P := P) w ⟨b, off, none⟩ (Sy.dens ρ ((cs.drop off).take n)) (fun j v hj => by
          rw [add_none]
          rw [dens_getElem?] at hj
          have hjn : j < n := by
            rcases Nat.lt_or_ge j n with h1 | h1
            · exact h1
            · rw [List.getElem?_take, if_neg (by omega)] at hj; cases hj
          rw [List.getElem?_take, if_pos hjn, List.getElem?_drop] at hj
          simp [World.cell?, hb, dens_getElem?, hj])
        rwa [Sy.dens_eq, List.length_map, hl, ← Sy.dens_eq] at this
      simp [loadVar, run_aggT hA, run_sizeT hS, hc, Sy.den]
    · cases h
  · rename_i n hA hS
    have : (w.cell? ⟨b, off, none⟩) = some (s.den ρ) := by simp [World.cell?, hb, dens_getElem?, h]
    simp [loadVar, run_aggT hA, this]
  · cases h

/-- cells, some of them overwritten -/
def over (c : List Sy) (k : Nat) (v : List Sy) : List Sy := c.take k ++ v ++ c.drop (k + v.length)
theorem over_den (ρ : Env) (c v : List Sy) (k : Nat) : Sy.dens ρ (over c k v) = (Sy.dens ρ c).take k ++ Sy.dens ρ v ++ (Sy.dens ρ c).drop (k + v.length) := by
  simp [over, Sy.dens_eq, List.map_take, List.map_drop]
theorem run_stS {ρ : Env} (hg : ρ.good) {t : TypeId} {cs vs : List Sy} {off n : Nat} {s : Sy} (hs : s.cells = some vs) (hS : sizeT P t = some n) (hn : vs.length = n) (hl : off + n ≤ cs.length)
    {w : World} {b : Nat} {ty : TypeId} (hb : w.heap[b]? = some (.cells (Sy.dens ρ cs).toArray ty)) :
    (storeVar t ⟨b, off, none⟩ (s.den ρ)).run P w = .ok () (w.setRow b (Sy.dens ρ (over cs off vs)).toArray) := by
  obtain ⟨h1, h2⟩ := Sy.cells_den hg hs
  have h3 := run_storeCells_at (P := P) b off ty (Sy.dens ρ vs) 0 (Sy.dens ρ cs).toArray w hb (by simp [Sy.dens_eq]; omega) (fun v hv => by
    rw [Sy.dens_eq] at hv
    obtain ⟨x, hx, rfl⟩ := List.mem_map.1 hv
    exact Sy.cell_den hg _ (h2 x hx))
  have hsz : (s.den ρ).cells.size = n := by rw [h1]; simp [Sy.dens_eq, hn]
  simp only [storeVar, Sem.run_bind, run_sizeT hS, Result.andThen_ok]
  rw [if_neg (by rw [hsz]; simp)]
  rw [h1]
  rw [h3, over_den]
  simp [Sy.dens_eq]

def partS (P : Program) (t : TypeId) (cs : List Sy) (off : Nat) : Option Sy := ldS P t cs off
theorem run_partS {ρ : Env} {t : TypeId} {cs : List Sy} {off : Nat} {s : Sy} (h : partS P t cs off = some s) (w : World) :
    (part t (Sy.dens ρ cs).toArray off).run P w = .ok (s.den ρ) w := by
  unfold partS ldS at h
  split at h
  · rename_i n hA hS
    dsimp only at h
    split at h
    · rename_i hl
      obtain rfl := Option.some.inj h
      simp only [part, Sem.run_bind, run_aggT hA, Result.andThen_ok, if_true, run_sizeT hS, Sem.run_pure]
      congr 1
      simp [Sy.den, Sy.dens_eq, List.map_take, List.map_drop]
    · cases h
  · rename_i n hA hS
    simp only [part, Sem.run_bind, run_aggT hA, Result.andThen_ok, if_false, Bool.false_eq_true]
    simp [dens_getElem?, h]
  · cases h

mutual
def eqE (P : Program) : Nat → TypeId → Sy → Sy → Option E
  | 0, _, _, _ => none
  | d + 1, t, x, y =>
    match P.underlying t, x, y with
    | some (.int _), .int k a, .int k' b => if k = k' then some (.bin .ieq a b) else none
    | some .bool, .bool a, .bool b => some (.bin .beq a b)
    | some .string, .str a, .str b => some (.bin .teq a b)
    | some (.struct fs), .agg xs, .agg ys => if P.stoodInHeld t then none else eqFs P d xs ys fs.toList
    | _, _, _ => none
def eqFs (P : Program) : Nat → List Sy → List Sy → List Field → Option E
  | _, _, _, [] => some (.bl true)
  | 0, _, _, _ :: _ => none
  | d + 1, xs, ys, f :: fs =>
    if f.name ≠ "_" then
      match partS P f.type xs f.offset, partS P f.type ys f.offset with
      | some a, some b => match eqE P d f.type a b, eqFs P d xs ys fs with
        | some e, some (.bl true) => some e
        | some e, some r => some (.bin .band e r)
        | _, _ => none
      | _, _ => none
    else eqFs P d xs ys fs
end
theorem toList_data (s : ByteArray) : s.toList = s.data.toList := ByteArray.toList_eq s
mutual
theorem run_eqE {ρ : Env} (w : World) : ∀ (d D : Nat) (t : TypeId) (x y : Sy) (e : E), eqE P d t x y = some e → d ≤ D → (Op.equalIn D t (x.den ρ) (y.den ρ)).run P w = .ok (e.b ρ) w
  | 0, _, _, _, _, _, h, _ => by simp [eqE] at h
  | d + 1, 0, _, _, _, _, _, hD => by omega
  | d + 1, D + 1, t, x, y, e, h, hD => by
    simp only [eqE] at h
    split at h
    · rename_i k0 k a k' b hu
      split at h
      · obtain rfl := Option.some.inj h
        rename_i hk; subst hk
        exact run_equalIn_int w D t k k0 _ _ hu
      · cases h
    · rename_i a b hu
      obtain rfl := Option.some.inj h
      exact run_equalIn_bool w D t _ _ hu
    · rename_i a b hu
      obtain rfl := Option.some.inj h
      rw [Sy.den, Sy.den, run_equalIn_string w D t _ _ hu, toList_data, toList_data]; rfl
    · rename_i fs xs ys hu
      split at h
      · cases h
      · rename_i hst
        have hfo : P.fieldsOf t = fs := by simp [Program.fieldsOf, hu]
        rw [Sy.den, Sy.den, run_equalIn_struct w D t _ _ (by rw [hfo]; exact hu) (by simpa using hst), hfo]
        exact run_eqFs w d D xs ys fs.toList e h (by omega)
    · cases h
theorem run_eqFs {ρ : Env} (w : World) : ∀ (d D : Nat) (xs ys : List Sy) (fs : List Field) (e : E), eqFs P d xs ys fs = some e → d ≤ D →
    (Op.eqFields D (Sy.dens ρ xs).toArray (Sy.dens ρ ys).toArray fs).run P w = .ok (e.b ρ) w
  | _, _, _, _, [], e, h, _ => by simp only [eqFs] at h; obtain rfl := Option.some.inj h; simp [Op.eqFields, E.b]
  | 0, _, _, _, _ :: _, _, h, _ => by simp [eqFs] at h
  | d + 1, D, xs, ys, f :: fs, e, h, hD => by
    simp only [eqFs] at h
    simp only [Op.eqFields]
    split at h
    · rename_i hn
      rw [if_pos hn]
      split at h
      · rename_i a b ha hb
        simp only [Sem.run_bind, run_partS ha, run_partS hb, Result.andThen_ok]
        split at h
        · rename_i e1 he he2
          obtain rfl := Option.some.inj h
          rw [run_eqE w d D f.type a b e1 he (by omega)]
          simp only [Result.andThen_ok, Sem.run_ite, Sem.run_pure]
          have := run_eqFs (ρ := ρ) w d D xs ys fs _ he2 (by omega)
          rw [this]
          cases e1.b ρ <;> simp [E.b]
        · rename_i e1 r _hne he hr
          obtain rfl := Option.some.inj h
          rw [run_eqE w d D f.type a b e1 he (by omega)]
          simp only [Result.andThen_ok, Sem.run_ite, Sem.run_pure]
          have := run_eqFs (ρ := ρ) w d D xs ys fs _ hr (by omega)
          rw [this]
          cases h1 : e1.b ρ <;> simp [E.b, h1]
        · cases h
      · cases h
    · rename_i hn
      rw [if_neg hn]
      exact run_eqFs w d D xs ys fs e h (by omega)
end
end Go.SF
end
section
namespace Go.SF
open Go Go.RowKit

variable {P : Program}

theorem wrap_in (k : IntKind) (n : Int) (h1 : k.min ≤ n) (h2 : n ≤ k.max) : k.wrap n = n := by
  cases k <;> simp [IntKind.wrap, IntKind.min, IntKind.max, IntKind.bits, IntKind.signed] at * <;> omega

def isLit : E → Option Int
  | .il n => some n
  | _ => none
theorem isLit_i {ρ : Env} {e : E} {n : Int} (h : isLit e = some n) : e.i ρ = n := by
  cases e <;> simp [isLit] at h; subst h; simp [E.i]

/-- surely no less than 0 -/
def isNat : E → Bool
  | .nv _ => true
  | .il n => decide (0 ≤ n)
  | .bin .add a b => isNat a && isNat b
  | .un .len _ => true
  | _ => false
theorem isNat_i {ρ : Env} : ∀ {e : E}, isNat e = true → 0 ≤ e.i ρ
  | .nv n, _ => by simp [E.i]
  | .il n, h => by simpa [isNat, E.i] using h
  | .bin .add a b, h => by
    simp only [isNat, Bool.and_eq_true] at h
    have h1 := isNat_i (ρ := ρ) h.1
    have h2 := isNat_i (ρ := ρ) h.2
    simp only [E.i]; omega
  | .un .len _, _ => by simp [E.i]
def addE (a b : E) : E := match a, b with
  | .il x, .il y => .il (x + y)
  | a, .il 0 => a
  | .il 0, b => b
  | .bin .add a (.il x), .il y => .bin .add a (.il (x + y))
  | a, b => .bin .add a b
theorem addE_i {ρ : Env} (a b : E) : (addE a b).i ρ = a.i ρ + b.i ρ := by
  unfold addE; split <;> simp [E.i, Int.add_assoc]

/-- what is asked of expressions -/
def allB (ρ : Env) : List E → Prop
  | [] => True
  | e :: l => e.b ρ = true ∧ allB ρ l

/-- a number's arithmetic: exact, if asked so -/
def arithS (ex : Bool) (k : IntKind) (a b : E) (e : E) (f : Int → Int → Int) : List E × Sy :=
  match isLit a, isLit b with
  | some x, some y => ([], .int k (.il (k.wrap (f x y))))
  | _, _ => if ex then ([.bin .le (.il k.min) e, .bin .le e (.il k.max)], .int k e) else ([], .int k (.un (.wrap k) e))
theorem arithS_den {ρ : Env} {ex : Bool} {k : IntKind} {a b e : E} {f : Int → Int → Int} {cs : List E} {s : Sy} (hq : arithS ex k a b e f = (cs, s)) (hf : e.i ρ = f (a.i ρ) (b.i ρ)) (h : allB ρ cs) :
    s.den ρ = .int k (k.wrap (f (a.i ρ) (b.i ρ))) := by
  unfold arithS at hq
  split at hq
  · rename_i x y hx hy
    obtain ⟨rfl, rfl⟩ := Prod.mk.inj hq
    simp [Sy.den, E.i, isLit_i hx, isLit_i hy]
  · cases ex
    · obtain ⟨rfl, rfl⟩ := Prod.mk.inj hq
      simp [Sy.den, E.i, hf]
    · obtain ⟨rfl, rfl⟩ := Prod.mk.inj hq
      have h1 := of_decide_eq_true h.1
      have h2 := of_decide_eq_true h.2.1
      simp only [E.i] at h1 h2
      simp only [Sy.den]
      rw [← hf, wrap_in k _ h1 h2]

def cmpS (a b : E) (e : E) (f : Int → Int → Bool) : List E × Sy :=
  match isLit a, isLit b with
  | some x, some y => ([], .bool (.bl (f x y)))
  | _, _ => ([], .bool e)
theorem cmpS_den {ρ : Env} {a b e : E} {f : Int → Int → Bool} {cs : List E} {s : Sy} (hq : cmpS a b e f = (cs, s)) (hf : e.b ρ = f (a.i ρ) (b.i ρ)) : s.den ρ = .bool (f (a.i ρ) (b.i ρ)) := by
  unfold cmpS at hq
  split at hq
  · rename_i x y hx hy
    obtain ⟨rfl, rfl⟩ := Prod.mk.inj hq
    simp [Sy.den, E.b, isLit_i hx, isLit_i hy]
  · obtain ⟨rfl, rfl⟩ := Prod.mk.inj hq
    simp [Sy.den, hf]

def notE : E → E
  | .bl b => .bl (!b)
  | .un .not e => e
  | e => .un .not e
theorem notE_b {ρ : Env} (e : E) : (notE e).b ρ = !(e.b ρ) := by
  unfold notE; split <;> simp [E.b]

/-- two numbers -/
def intS (ex : Bool) (op : BinOp) (k : IntKind) (a b : E) : Option (List E × Sy) :=
  match op with
  | .add => some (arithS ex k a b (.bin .add a b) (· + ·))
  | .sub => some (arithS ex k a b (.bin .sub a b) (· - ·))
  | .mul => some (arithS ex k a b (.bin .mul a b) (· * ·))
  | .quo => match arithS ex k a b (.bin .quo a b) Int.tdiv, isLit b with
    | (cs, s), some y => if y = 0 then none else some (cs, s)
    | (cs, s), none => some (notE (.bin .ieq b (.il 0)) :: cs, s)
  | .rem => match isLit b with
    | some y => if y = 0 then none else some ([], .int k (.bin .rem a b))
    | none => some ([notE (.bin .ieq b (.il 0))], .int k (.bin .rem a b))
  | .eql => some (cmpS a b (.bin .ieq a b) (· == ·))
  | .neq => some (cmpS a b (notE (.bin .ieq a b)) (· != ·))
  | .lss => some (cmpS a b (.bin .lt a b) (fun x y => decide (x < y)))
  | .leq => some (cmpS a b (.bin .le a b) (fun x y => decide (x ≤ y)))
  | .gtr => some (cmpS a b (.bin .lt b a) (fun x y => decide (y < x)))
  | .geq => some (cmpS a b (.bin .le b a) (fun x y => decide (y ≤ x)))
  | _ => none

theorem run_intS {ρ : Env} {ex : Bool} {op : BinOp} {k : IntKind} {a b : E} {cs : List E} {s : Sy} (h : intS ex op k a b = some (cs, s)) (hc : allB ρ cs) (t : TypeId) (w : World) :
    (binOp op t (.int k (a.i ρ)) (.int k (b.i ρ))).run P w = .ok (s.den ρ) w := by
  cases op <;> simp only [intS] at h <;> try (cases h; done)
  case add =>
    rw [arithS_den (Option.some.inj h) (by simp [E.i]) hc]; simp [binOp, Op.intArith]
  case sub =>
    rw [arithS_den (Option.some.inj h) (by simp [E.i]) hc]; simp [binOp, Op.intArith]
  case mul =>
    rw [arithS_den (Option.some.inj h) (by simp [E.i]) hc]; simp [binOp, Op.intArith]
  case quo =>
    split at h
    · rename_i cs' s' y hp hb
      split at h
      · cases h
      · rename_i hy
        obtain ⟨rfl, rfl⟩ := Prod.mk.inj (Option.some.inj h)
        rw [arithS_den hp (by simp [E.i]) hc]; simp [binOp, Op.intDiv, isLit_i hb, hy]
    · rename_i cs' s' hp hb
      obtain ⟨rfl, rfl⟩ := Prod.mk.inj (Option.some.inj h)
      have h0 : ¬ b.i ρ = 0 := by have := hc.1; rw [notE_b] at this; simpa [E.b, E.i] using this
      rw [arithS_den hp (by simp [E.i]) hc.2]; simp [binOp, Op.intDiv, h0]
  case rem =>
    split at h
    · rename_i y hb
      split at h
      · cases h
      · rename_i hy
        obtain ⟨rfl, rfl⟩ := Prod.mk.inj (Option.some.inj h)
        have hb' := isLit_i (ρ := ρ) hb
        simp [binOp, Op.intDiv, hb', hy, Sy.den, E.i]
    · obtain ⟨rfl, rfl⟩ := Prod.mk.inj (Option.some.inj h)
      have h0 : ¬ b.i ρ = 0 := by have := hc.1; rw [notE_b] at this; simpa [E.b, E.i] using this
      simp [binOp, Op.intDiv, h0, Sy.den, E.i]
  all_goals
    rw [cmpS_den (ρ := ρ) (Option.some.inj h) (by first | (simp [E.b, ltB, leB]; done) | (rw [notE_b]; rfl))]
    simp [binOp, Op.intCmp]

/-- two texts -/
def strS (op : BinOp) (a b : E) : Option (List E × Sy) :=
  match op with
  | .add => some ([.bin .le (.bin .add (.un .len a) (.un .len b)) (.il 9223372036854775807)], .str (.bin .cat a b))
  | .eql => some ([], .bool (.bin .teq a b))
  | .neq => some ([], .bool (.un .not (.bin .teq a b)))
  | .lss => some ([], .bool (.bin .tlt a b))
  | .leq => some ([], .bool (.bin .bor (.bin .tlt a b) (.bin .teq a b)))
  | .gtr => some ([], .bool (.un .not (.bin .bor (.bin .tlt a b) (.bin .teq a b))))
  | .geq => some ([], .bool (.un .not (.bin .tlt a b)))
  | _ => none
theorem run_strS {ρ : Env} {op : BinOp} {a b : E} {cs : List E} {s : Sy} (h : strS op a b = some (cs, s)) (hc : allB ρ cs) (t : TypeId) (w : World) :
    (binOp op t (.string (a.t ρ)) (.string (b.t ρ))).run P w = .ok (s.den ρ) w := by
  cases op <;> simp only [strS] at h <;> try (cases h; done)
  all_goals obtain ⟨rfl, rfl⟩ := Prod.mk.inj (Option.some.inj h)
  case add =>
    have h1 := hc.1
    have h1 := of_decide_eq_true h1
    simp only [E.i] at h1
    have h2 : ¬ ((((a.t ρ).size + (b.t ρ).size : Nat) : Int) > IntKind.i64.max) := by
      have : IntKind.i64.max = 9223372036854775807 := by decide
      rw [this]; omega
    simp only [binOp, Op.stringOp, if_neg h2, Sem.run_pure]
    rfl
  all_goals simp [binOp, Op.stringOp, toList_data, Sy.den, E.b]

/-- a number that is shifted to the right -/
def shrS (op : BinOp) (k : IntKind) (a b : E) : Option (List E × Sy) :=
  match op, isLit b with
  | .shr, some (.ofNat n) => if n ≤ k.bits then some ([.bin .le (.il 0) a], .int k (.bin .quo a (.il (2 ^ n)))) else none
  | _, _ => none
theorem run_shrS {ρ : Env} {op : BinOp} {k k' : IntKind} {a b : E} {cs : List E} {s : Sy} (h : shrS op k a b = some (cs, s)) (hc : allB ρ cs) (t : TypeId) (ox oy : Operand) (w : World) :
    (do eqGuard op t ox oy (.int k (a.i ρ)) (.int k' (b.i ρ)); binOp op t (.int k (a.i ρ)) (.int k' (b.i ρ)) : Sem Value).run P w = .ok (s.den ρ) w := by
  unfold shrS at h
  split at h
  · rename_i n hb
    split at h
    · rename_i hn
      obtain ⟨rfl, rfl⟩ := Prod.mk.inj (Option.some.inj h)
      have h0 : (0 : Int) ≤ a.i ρ := of_decide_eq_true hc.1
      have e : b.i ρ = (n : Int) := isLit_i hb
      rw [e]
      have hg : (eqGuard .shr t ox oy (.int k (a.i ρ)) (.int k' (n : Int))).run P w = .ok () w := rfl
      have h2 : (0 : Int) ≤ 2 ^ n := Int.le_of_lt (Int.pow_pos (by decide))
      simp only [Sem.run_bind, hg, Result.andThen_ok, binOp, Op.shift, if_neg (show ¬ ((n : Int) < 0) by omega), Int.toNat_natCast, Nat.min_eq_left hn, Sem.run_pure, Sy.den, E.i]
      rw [Int.tdiv_eq_ediv_of_nonneg h0, Int.fdiv_eq_ediv_of_nonneg _ h2]
    · cases h
  · cases h
/-- any operator of two -/
def binS (P : Program) (ex : Bool) (op : BinOp) (t : TypeId) (x y : Sy) : Option (List E × Sy) :=
  match x, y with
  | .int k a, .int k' b => match shrS op k a b with
    | some r => some r
    | none => if k = k' then intS ex op k a b else none
  | .str a, .str b => strS op a b
  | .bool a, .bool b =>
    match op, P.underlying t with
    | .eql, some .bool => some ([], .bool (.bin .beq a b))
    | .neq, some .bool => some ([], .bool (.un .not (.bin .beq a b)))
    | _, _ => none
  | .agg xs, .agg ys =>
    if P.eqGuardType P.depth t then none else
    match op, eqE P 16 t (.agg xs) (.agg ys) with
    | .eql, some e => some ([], .bool e)
    | .neq, some e => some ([], .bool (notE e))
    | _, _ => none
  | _, _ => none
theorem run_binS {ρ : Env} {ex : Bool} {op : BinOp} {t : TypeId} {x y : Sy} {cs : List E} {s : Sy} (h : binS P ex op t x y = some (cs, s)) (hc : allB ρ cs) (ox oy : Operand) (w : World) :
    (do eqGuard op t ox oy (x.den ρ) (y.den ρ); binOp op t (x.den ρ) (y.den ρ) : Sem Value).run P w = .ok (s.den ρ) w := by
  unfold binS at h
  split at h
  · rename_i k a k' b
    split at h
    · rename_i r hr
      obtain rfl := Option.some.inj h
      exact run_shrS hr hc t ox oy w
    · split at h
      · rename_i hk; subst hk
        have : (eqGuard op t ox oy ((Sy.int k a).den ρ) ((Sy.int k b).den ρ)).run P w = .ok () w := by cases op <;> rfl
        simp only [Sem.run_bind, this, Result.andThen_ok]
        exact run_intS h hc t w
      · cases h
  · rename_i a b
    have : (eqGuard op t ox oy ((Sy.str a).den ρ) ((Sy.str b).den ρ)).run P w = .ok () w := by cases op <;> rfl
    simp only [Sem.run_bind, this, Result.andThen_ok]
    exact run_strS h hc t w
  · split at h
    · rename_i hu
      obtain ⟨rfl, rfl⟩ := Prod.mk.inj (Option.some.inj h)
      simp [Sy.den, eqGuard, binOp, Op.equal, Op.maxDepth, run_equalIn_bool w 9999 t _ _ hu, E.b]
    · rename_i hu
      obtain ⟨rfl, rfl⟩ := Prod.mk.inj (Option.some.inj h)
      simp [Sy.den, eqGuard, binOp, Op.equal, Op.maxDepth, run_equalIn_bool w 9999 t _ _ hu, E.b]
    · cases h
  · split at h
    · cases h
    · rename_i xs ys hg
      have hg' : (eqGuard op t ox oy ((Sy.agg xs).den ρ) ((Sy.agg ys).den ρ)).run P w = .ok () w := run_eqGuard_agg w op t ox oy _ _ (by simpa using hg)
      simp only [Sem.run_bind, hg', Result.andThen_ok]
      split at h
      · rename_i e he
        obtain ⟨rfl, rfl⟩ := Prod.mk.inj (Option.some.inj h)
        have := run_eqE (ρ := ρ) w 16 10000 t _ _ e he (by omega)
        have h2 := run_eql_struct (P := P) w t (Sy.dens ρ xs).toArray (Sy.dens ρ ys).toArray
        simp only [Sy.den] at this ⊢
        rw [h2, this]; rfl
      · rename_i e he
        obtain ⟨rfl, rfl⟩ := Prod.mk.inj (Option.some.inj h)
        have := run_eqE (ρ := ρ) w 16 10000 t _ _ e he (by omega)
        have h2 := run_neq_struct (P := P) w t (Sy.dens ρ xs).toArray (Sy.dens ρ ys).toArray
        simp only [Sy.den, notE_b] at this ⊢
        rw [h2, this]; rfl
      · cases h
  · cases h

/-- a byte of a text -/
theorem run_indexS {ρ : Env} (t : TypeId) (s i : E) (k : IntKind) (hu : P.underlying t = some .string) (h0 : 0 ≤ i.i ρ) (h1 : i.i ρ < (s.t ρ).size) (w : World) :
    (Instr.index t (.string (s.t ρ)) (.int k (i.i ρ))).run P w = .ok (.int .u8 (E.i ρ (.bin .byte s i))) w := by
  rw [run_index_string w t _ k _ hu]
  have hn : (i.i ρ).toNat < (s.t ρ).size := by omega
  have hn' : (i.i ρ).toNat < (s.t ρ).data.size := hn
  rw [dif_pos ⟨h0, h1⟩]
  simp only [E.i, gd_get hn']
  rfl

/-- a bound, or what stands for it -/
def bdE (o : Option (IntKind × E)) (d : E) : E := match o with | some (_, e) => e | none => d
/-- a piece of a text -/
theorem run_cutS {ρ : Env} (t : TypeId) (s : E) (lo hi : Option (IntKind × E)) (hu : P.underlying t = some .string)
    (l h : Int) (hl : l = (bdE lo (.il 0)).i ρ) (hh : h = (bdE hi (.un .len s)).i ρ)
    (h0 : 0 ≤ l) (h1 : l ≤ h) (h2 : h ≤ (s.t ρ).size) (w : World) :
    (Instr.sliceAt t (.string (s.t ρ)) (lo.map fun x => .int x.1 (x.2.i ρ)) (hi.map fun x => .int x.1 (x.2.i ρ)) none).run P w = .ok (.string ((s.t ρ).extract l.toNat h.toNat)) w := by
  have a1 : 0 ≤ h := Int.le_trans h0 h1
  have e1 : ((s.t ρ).size : Int).toNat = (s.t ρ).size := by simp
  have a2 : ¬ (max h 0 < l) := by omega
  rcases lo with _ | ⟨kl, el⟩ <;> rcases hi with _ | ⟨kh, eh⟩ <;> simp only [bdE, E.i] at hl hh <;> subst hl <;> subst hh <;>
    simp_all [Instr.sliceAt, run_underlying hu, Instr.slice, Instr.sliceBounds, Instr.sliceBound, asIntOf]
end Go.SF
end
