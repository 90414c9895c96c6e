/- Texts of the claim, one behind the other: SfA SfB SfC. -/
import Derived.WalkKit
import Derived.WalkLawsBesides
import Derived.Lib.QuietBelow
import Derived.Laws.StructEq
import Derived.ChangeKeysEq
import Derived.Laws.Slices
import Derived.Laws.AppendOwn
import Derived.Laws.AppendOwnNone
import Derived.Laws.OwnMore
import Derived.Laws.MakeOwn
set_option linter.unusedSimpArgs false
set_option linter.unusedVariables false
section
theorem z_a {α : Type} {a : α} {l k : List α} : a :: l ++ k = a :: (l ++ k) := rfl
theorem z_b {α : Type} {l : List α} : [] ++ l = l := rfl
theorem z_c {α : Type} {l : List α} : l ++ [] = l := List.append_nil l
theorem z_d {n : Nat} : Int.toNat (n : Int) = n := rfl
theorem z_e {α β : Type} {f : α → β} {a : α} {l : List α} : (a :: l).map f = f a :: l.map f := rfl
theorem z_f {α β : Type} {f : α → β} : [].map f = [] := rfl
theorem z_g {α β : Type} {f : α → List β} {a : α} {l : List α} : (a :: l).flatMap f = f a ++ l.flatMap f := List.flatMap_cons
theorem z_h {α β : Type} {f : α → List β} : [].flatMap f = [] := rfl
/- The walk that the kernel computes: symbolic values and worlds, and that they are sound. -/
section
namespace Go.SF
open Go Go.RowKit
def gd {α : Type} : List α → Nat → α → α
 | [], _, x => x
 | a :: _, 0, _ => a
 | _ :: l, n + 1, x => gd l n x
theorem gd_app {α : Type} : ∀ (l m : List α) (n : Nat) (x : α), n < l.length → gd (l ++ m) n x = gd l n x
 | [], _, _, _, h => by simp at h
 | _ :: _, _, 0, _, _ => rfl
 | _ :: l, m, n + 1, x, h => gd_app l m n x (by simpa using h)
theorem gd_mem {α : Type} : ∀ (l : List α) (n : Nat) (x : α), gd l n x ∈ l ∨ gd l n x = x
 | [], _, _ => .inr rfl
 | _ :: _, 0, _ => .inl (List.mem_cons_self ..)
 | _ :: l, n + 1, x => (gd_mem l n x).imp (List.mem_cons_of_mem _) id
theorem gd_get' {α : Type} : ∀ {l : List α} {n : Nat} {x : α} (h : n < l.length), gd l n x = l[n]
 | _ :: _, 0, _, _ => rfl
 | _ :: l, n + 1, x, h => gd_get' (l := l) (n := n) (x := x) (by simpa using h)
theorem gd_get {a : Array UInt8} {n : Nat} {x : UInt8} (h : n < a.size) : gd a.toList n x = a[n] := by
 rw [gd_get' (by simpa using h)]; simp
inductive BO where
 | add | sub | mul | quo | rem | lt | le | ieq | band | bor | beq | cat | teq | tlt | byte | max
 deriving DecidableEq, Repr
inductive UO where
 | wrap (k : IntKind) | len | not | neg | chr
 deriving DecidableEq, Repr
inductive E where
 | iv (n : Nat) | nv (n : Nat) | bv (n : Nat) | tv (n : Nat)
 | il (n : Int) | bl (b : Bool) | tl (s : List UInt8)
 | sm (a : Nat) | vn (n : Nat) | vk (n : Nat)
 | bin (o : BO) (a b : E) | un (o : UO) (a : E) | cut (s lo hi : E)
 deriving DecidableEq, Repr
def kindNo : IntKind → Nat
 | .i8 => 0 | .i16 => 1 | .i32 => 2 | .i64 => 3 | .u8 => 4 | .u16 => 5 | .u32 => 6 | .u64 => 7
def BO.no : BO → Nat
 | .add => 0 | .sub => 1 | .mul => 2 | .quo => 3 | .rem => 4 | .lt => 5 | .le => 6 | .ieq => 7 | .band => 8 | .bor => 9 | .beq => 10 | .cat => 11 | .teq => 12 | .tlt => 13 | .byte => 14 | .max => 15
def UO.no : UO → Nat
 | .wrap k => 10 + kindNo k | .len => 0 | .not => 1 | .neg => 2 | .chr => 3
theorem BO.no_inj {a b : BO} (h : Nat.beq a.no b.no = true) : a = b := by
 have h := Nat.eq_of_beq_eq_true h
 cases a <;> cases b <;> first | rfl | (simp [BO.no] at h)
theorem kindNo_inj {a b : IntKind} (h : kindNo a = kindNo b) : a = b := by cases a <;> cases b <;> first | rfl | (simp [kindNo] at h)
theorem UO.no_inj {a b : UO} (h : Nat.beq a.no b.no = true) : a = b := by
 have h := Nat.eq_of_beq_eq_true h
 cases a <;> cases b <;> simp only [UO.no] at h <;> first | rfl | (exact congrArg UO.wrap (kindNo_inj (by omega))) | omega
def intSame : Int → Int → Bool
 | .ofNat a, .ofNat b => Nat.beq a b
 | .negSucc a, .negSucc b => Nat.beq a b
 | _, _ => false
theorem intSame_eq {a b : Int} (h : intSame a b = true) : a = b := by
 cases a <;> cases b <;> simp only [intSame] at h <;> first | (rw [Nat.eq_of_beq_eq_true h]) | cases h
theorem intSame_mk {a b : Int} (h : a = b) : intSame a b = true := by subst h; cases a <;> simp [intSame]
def bytesSame : List UInt8 → List UInt8 → Bool
 | [], [] => true
 | a :: l, b :: m => Nat.beq a.toNat b.toNat && bytesSame l m
 | _, _ => false
theorem bytesSame_eq : ∀ {a b : List UInt8}, bytesSame a b = true → a = b
 | [], [], _ => rfl
 | [], _ :: _, h => by simp [bytesSame] at h
 | _ :: _, [], h => by simp [bytesSame] at h
 | a :: l, b :: m, h => by
  simp only [bytesSame, Bool.and_eq_true] at h
  rw [UInt8.toNat_inj.1 (Nat.eq_of_beq_eq_true h.1), bytesSame_eq h.2]
def boolSame : Bool → Bool → Bool
 | true, b => b
 | false, b => !b
theorem boolSame_eq {a b : Bool} (h : boolSame a b = true) : a = b := by cases a <;> cases b <;> first | rfl | cases h
def E.same : E → E → Bool
 | .iv a, .iv b => Nat.beq a b
 | .nv a, .nv b => Nat.beq a b
 | .bv a, .bv b => Nat.beq a b
 | .tv a, .tv b => Nat.beq a b
 | .sm a, .sm b => Nat.beq a b
 | .vn a, .vn b => Nat.beq a b
 | .vk a, .vk b => Nat.beq a b
 | .il a, .il b => intSame a b
 | .bl a, .bl b => boolSame a b
 | .tl a, .tl b => bytesSame a b
 | .bin o a b, .bin p c d => Nat.beq o.no p.no && (a.same c && b.same d)
 | .un o a, .un p c => Nat.beq o.no p.no && a.same c
 | .cut a b c, .cut d e f => a.same d && (b.same e && c.same f)
 | _, _ => false
theorem E.same_eq : ∀ {a b : E}, E.same a b = true → a = b := by
 intro a
 induction a with
 | iv n => intro b h; cases b <;> simp only [E.same] at h <;> first | (rw [Nat.eq_of_beq_eq_true h]) | cases h
 | nv n => intro b h; cases b <;> simp only [E.same] at h <;> first | (rw [Nat.eq_of_beq_eq_true h]) | cases h
 | bv n => intro b h; cases b <;> simp only [E.same] at h <;> first | (rw [Nat.eq_of_beq_eq_true h]) | cases h
 | tv n => intro b h; cases b <;> simp only [E.same] at h <;> first | (rw [Nat.eq_of_beq_eq_true h]) | cases h
 | sm n => intro b h; cases b <;> simp only [E.same] at h <;> first | (rw [Nat.eq_of_beq_eq_true h]) | cases h
 | vn n => intro b h; cases b <;> simp only [E.same] at h <;> first | (rw [Nat.eq_of_beq_eq_true h]) | cases h
 | vk n => intro b h; cases b <;> simp only [E.same] at h <;> first | (rw [Nat.eq_of_beq_eq_true h]) | cases h
 | il n => intro b h; cases b <;> simp only [E.same] at h <;> first | (rw [intSame_eq h]) | cases h
 | bl n => intro b h; cases b <;> simp only [E.same] at h <;> first | (rw [boolSame_eq h]) | cases h
 | tl n => intro b h; cases b <;> simp only [E.same] at h <;> first | (rw [bytesSame_eq h]) | cases h
 | bin o x y ihx ihy =>
  intro b h
  cases b <;> simp only [E.same, Bool.and_eq_true] at h <;> first | (rw [BO.no_inj h.1, ihx h.2.1, ihy h.2.2]) | cases h
 | un o x ihx =>
  intro b h
  cases b <;> simp only [E.same, Bool.and_eq_true] at h <;> first | (rw [UO.no_inj h.1, ihx h.2]) | cases h
 | cut x y z ihx ihy ihz =>
  intro b h
  cases b <;> simp only [E.same, Bool.and_eq_true] at h <;> first | (rw [ihx h.1, ihy h.2.1, ihz h.2.2]) | cases h
structure Env where
 I : List Int := []
 N : List Nat := []
 B : List Bool := []
 T : List ByteArray := []
 V : List Value := []
 A : List (Option Addr) := []
 M : List Nat := []
 L : List (List Value) := []
structure Cnt where
 I : Nat := 0
 N : Nat := 0
 B : Nat := 0
 T : Nat := 0
 V : Nat := 0
 A : Nat := 0
 M : Nat := 0
 L : Nat := 0
 deriving DecidableEq, Repr
def Env.cnt (ρ : Env) : Cnt := ⟨ρ.I.length, ρ.N.length, ρ.B.length, ρ.T.length, ρ.V.length, ρ.A.length, ρ.M.length, ρ.L.length⟩
def Env.push (ρ d : Env) : Env := ⟨ρ.I ++ d.I, ρ.N ++ d.N, ρ.B ++ d.B, ρ.T ++ d.T, ρ.V ++ d.V, ρ.A ++ d.A, ρ.M ++ d.M, ρ.L ++ d.L⟩
def Cnt.add (c d : Cnt) : Cnt := ⟨c.I + d.I, c.N + d.N, c.B + d.B, c.T + d.T, c.V + d.V, c.A + d.A, c.M + d.M, c.L + d.L⟩
theorem Env.cnt_push (ρ d : Env) : (ρ.push d).cnt = ρ.cnt.add d.cnt := by simp [Env.cnt, Env.push, Cnt.add]
def isNilV : Value → Bool
 | .nilIface => true
 | _ => false
def isIfcV : Value → Bool
 | .nilIface | .iface _ _ => true
 | _ => false
def ltB (a b : Int) : Bool := decide (a < b)
def leB (a b : Int) : Bool := decide (a ≤ b)
theorem ltB_true {a b : Int} : (ltB a b = true) = (a < b) := by simp [ltB]
theorem ltB_false {a b : Int} : (ltB a b = false) = (b ≤ a) := by simp [ltB]
theorem leB_true {a b : Int} : (leB a b = true) = (a ≤ b) := by simp [leB]
theorem leB_false {a b : Int} : (leB a b = false) = (b < a) := by simp [leB]
mutual
def E.i (ρ : Env) : E → Int
 | .iv n => gd ρ.I n 0
 | .nv n => ((gd ρ.N n 0 : Nat) : Int)
 | .il n => n
 | .bin .add a b => a.i ρ + b.i ρ
 | .bin .sub a b => a.i ρ - b.i ρ
 | .bin .mul a b => a.i ρ * b.i ρ
 | .bin .quo a b => (a.i ρ).tdiv (b.i ρ)
 | .bin .rem a b => (a.i ρ).tmod (b.i ρ)
 | .bin .max a b => max (a.i ρ) (b.i ρ)
 | .bin .byte s n => ((gd (s.t ρ).data.toList (n.i ρ).toNat 0).toNat : Int)
 | .un (.wrap k) a => k.wrap (a.i ρ)
 | .un .neg a => - a.i ρ
 | .un .len s => ((s.t ρ).size : Int)
 | _ => 0
def E.b (ρ : Env) : E → Bool
 | .bv n => gd ρ.B n false
 | .bl b => b
 | .sm a => (gd ρ.A a none).isSome
 | .vn n => isNilV (gd ρ.V n .nilIface)
 | .vk n => isIfcV (gd ρ.V n .nilIface)
 | .bin .lt a b => ltB (a.i ρ) (b.i ρ)
 | .bin .le a b => leB (a.i ρ) (b.i ρ)
 | .bin .ieq a b => a.i ρ == b.i ρ
 | .bin .band a b => a.b ρ && b.b ρ
 | .bin .bor a b => a.b ρ || b.b ρ
 | .bin .beq a b => a.b ρ == b.b ρ
 | .bin .teq a b => (a.t ρ).data.toList == (b.t ρ).data.toList
 | .bin .tlt a b => Op.bytesLess (a.t ρ).data.toList (b.t ρ).data.toList
 | .un .not a => !a.b ρ
 | _ => false
def E.t (ρ : Env) : E → ByteArray
 | .tv n => gd ρ.T n ⟨#[]⟩
 | .tl s => ⟨s.toArray⟩
 | .bin .cat a b => a.t ρ ++ b.t ρ
 | .un .chr a => ⟨#[UInt8.ofNat (a.i ρ).toNat]⟩
 | .cut s lo hi => (s.t ρ).extract (lo.i ρ).toNat (hi.i ρ).toNat
 | _ => ⟨#[]⟩
end
def E.ok (c : Cnt) : E → Bool
 | .iv n => n < c.I | .nv n => n < c.N | .bv n => n < c.B | .tv n => n < c.T
 | .il _ | .bl _ | .tl _ => true
 | .sm n => n < c.A
 | .vn n | .vk n => n < c.V
 | .bin _ a b => a.ok c && b.ok c
 | .un _ a => a.ok c
 | .cut a b d => a.ok c && b.ok c && d.ok c
theorem E.push (ρ d : Env) (e : E) : e.ok ρ.cnt = true → e.i (ρ.push d) = e.i ρ ∧ e.b (ρ.push d) = e.b ρ ∧ e.t (ρ.push d) = e.t ρ := by
 induction e with
 | iv n => intro h; have h := of_decide_eq_true h; simp [E.i, E.b, E.t, Env.push, gd_app _ _ _ _ h]
 | nv n => intro h; have h := of_decide_eq_true h; simp [E.i, E.b, E.t, Env.push, gd_app _ _ _ _ h]
 | bv n => intro h; have h := of_decide_eq_true h; simp [E.i, E.b, E.t, Env.push, gd_app _ _ _ _ h]
 | tv n => intro h; have h := of_decide_eq_true h; simp [E.i, E.b, E.t, Env.push, gd_app _ _ _ _ h]
 | il n => intro _; simp [E.i, E.b, E.t]
 | sm n => intro h; have h := of_decide_eq_true h; simp [E.i, E.b, E.t, Env.push, gd_app _ _ _ _ h]
 | vn n => intro h; have h := of_decide_eq_true h; simp [E.i, E.b, E.t, Env.push, gd_app _ _ _ _ h]
 | vk n => intro h; have h := of_decide_eq_true h; simp [E.i, E.b, E.t, Env.push, gd_app _ _ _ _ h]
 | bl n => intro _; simp [E.i, E.b, E.t]
 | tl n => intro _; simp [E.i, E.b, E.t]
 | bin o a b iha ihb =>
  intro h
  simp only [E.ok, Bool.and_eq_true] at h
  obtain ⟨a1, a2, a3⟩ := iha h.1
  obtain ⟨b1, b2, b3⟩ := ihb h.2
  cases o <;> simp [E.i, E.b, E.t, a1, a2, a3, b1, b2, b3]
 | un o a iha =>
  intro h
  simp only [E.ok] at h
  obtain ⟨a1, a2, a3⟩ := iha h
  cases o <;> simp [E.i, E.b, E.t, a1, a2, a3]
 | cut a b c iha ihb ihc =>
  intro h
  simp only [E.ok, Bool.and_eq_true] at h
  obtain ⟨_, _, a3⟩ := iha h.1.1
  obtain ⟨b1, _, _⟩ := ihb h.1.2
  obtain ⟨c1, _, _⟩ := ihc h.2
  simp [E.i, E.b, E.t, a3, b1, c1]
inductive Sy where
 | bool (e : E) | int (k : IntKind) (e : E) | str (e : E)
 | ptr (m : Nat) (off : Nat)
 | elt (a : Nat) (i : E) (sz fo : Nat)
 | slc (a : Nat) (n c : E)
 | slb (m off n c : Nat)
 | nils
 | val (v : Value) | var (n : Nat)
 | agg (l : List Sy) | tup (l : List Sy)
 | fn (f : FuncId) (l : List Sy) | bnd (f : FuncId) (l : List Sy)
 | ifc (t : TypeId) (s : Sy)
 | when (g : E) (w : Bool) (s : Sy)
mutual
def Sy.den (ρ : Env) : Sy → Value
 | .bool e => .bool (e.b ρ)
 | .int k e => .int k (e.i ρ)
 | .str e => .string (e.t ρ)
 | .ptr m off => .pointer (some ⟨gd ρ.M m 0, off, none⟩)
 | .elt a i sz fo => .pointer (some (((gd ρ.A a none).getD default).add ((i.i ρ).toNat * sz + fo)))
 | .slc a n c => .slice (gd ρ.A a none) (n.i ρ).toNat (c.i ρ).toNat
 | .slb m off n c => .slice (some ⟨gd ρ.M m 0, off, none⟩) n c
 | .nils => .slice none 0 0
 | .val v => v
 | .var n => gd ρ.V n .nilIface
 | .agg l => .agg (Sy.dens ρ l).toArray
 | .tup l => .tuple (Sy.dens ρ l).toArray
 | .fn f l => .func (.func f) #[] (Sy.dens ρ l).toArray
 | .bnd f l => .func (.func f) (Sy.dens ρ l).toArray #[]
 | .ifc t s => .iface t (s.den ρ)
 | .when g w s => if g.b ρ = w then s.den ρ else undef
def Sy.dens (ρ : Env) : List Sy → List Value
 | [] => []
 | s :: l => s.den ρ :: Sy.dens ρ l
end
theorem Sy.dens_eq (ρ : Env) (l : List Sy) : Sy.dens ρ l = l.map (Sy.den ρ) := by
 induction l with
 | nil => rfl
 | cons s l ih => simp [Sy.dens, ih]
mutual
def Sy.ok (c : Cnt) : Sy → Bool
 | .bool e | .int _ e | .str e => e.ok c
 | .ptr m _ => m < c.M
 | .elt a i _ _ => a < c.A && i.ok c
 | .slc a n k => a < c.A && n.ok c && k.ok c
 | .slb m _ _ _ => m < c.M
 | .nils | .val _ => true
 | .var n => n < c.V
 | .agg l | .tup l | .fn _ l | .bnd _ l => Sy.oks c l
 | .ifc _ s => s.ok c
 | .when g _ s => g.ok c && s.ok c
def Sy.oks (c : Cnt) : List Sy → Bool
 | [] => true
 | s :: l => s.ok c && Sy.oks c l
end
mutual
theorem Sy.push (ρ d : Env) : ∀ s : Sy, s.ok ρ.cnt = true → s.den (ρ.push d) = s.den ρ
 | .bool e, h => by simp only [Sy.ok] at h; simp [Sy.den, E.push ρ d e h]
 | .int _ e, h => by simp only [Sy.ok] at h; simp [Sy.den, E.push ρ d e h]
 | .str e, h => by simp only [Sy.ok] at h; simp [Sy.den, E.push ρ d e h]
 | .ptr m _, h => by have h := of_decide_eq_true h; simp [Sy.den, Env.push, gd_app _ _ _ _ h]
 | .elt a i _ _, h => by
  simp only [Sy.ok, Bool.and_eq_true] at h
  have h1 := E.push ρ d i h.2
  have h2 : a < ρ.A.length := of_decide_eq_true h.1
  simp only [Sy.den, h1]
  simp [Env.push, gd_app _ _ _ _ h2]
 | .slc a n k, h => by
  simp only [Sy.ok, Bool.and_eq_true] at h
  have h1 := (E.push ρ d n h.1.2).1
  have h2 := (E.push ρ d k h.2).1
  simp only [Sy.den, h1, h2]
  simp [Env.push, gd_app _ _ _ _ (of_decide_eq_true h.1.1)]
 | .slb m _ _ _, h => by have h := of_decide_eq_true h; simp [Sy.den, Env.push, gd_app _ _ _ _ h]
 | .nils, _ => rfl
 | .val _, _ => rfl
 | .var n, h => by have h := of_decide_eq_true h; simp [Sy.den, Env.push, gd_app _ _ _ _ h]
 | .agg l, h => by simp only [Sy.ok] at h; simp [Sy.den, Sy.pushes ρ d l h]
 | .tup l, h => by simp only [Sy.ok] at h; simp [Sy.den, Sy.pushes ρ d l h]
 | .fn _ l, h => by simp only [Sy.ok] at h; simp [Sy.den, Sy.pushes ρ d l h]
 | .bnd _ l, h => by simp only [Sy.ok] at h; simp [Sy.den, Sy.pushes ρ d l h]
 | .ifc _ s, h => by simp only [Sy.ok] at h; simp [Sy.den, Sy.push ρ d s h]
 | .when g w s, h => by
  simp only [Sy.ok, Bool.and_eq_true] at h
  simp [Sy.den, Sy.push ρ d s h.2, (E.push ρ d g h.1).2.1]
theorem Sy.pushes (ρ d : Env) : ∀ l : List Sy, Sy.oks ρ.cnt l = true → Sy.dens (ρ.push d) l = Sy.dens ρ l
 | [], _ => rfl
 | s :: l, h => by simp only [Sy.oks, Bool.and_eq_true] at h; simp [Sy.dens, Sy.push ρ d s h.1, Sy.pushes ρ d l h.2]
end
def ofCell : Value → Sy
 | .bool b => .bool (.bl b)
 | .int k n => .int k (.il n)
 | .string s => .str (.tl s.data.toList)
 | .slice none 0 0 => .nils
 | v => .val v
theorem ofCell_den (ρ : Env) (v : Value) : (ofCell v).den ρ = v := by
 unfold ofCell
 split <;> simp [Sy.den, E.b, E.i, E.t]
def ofVal : Value → Sy
 | .agg cs => .agg (cs.toList.map ofCell)
 | v => ofCell v
theorem dens_ofCell (ρ : Env) (l : List Value) : Sy.dens ρ (l.map ofCell) = l := by
 induction l with
 | nil => rfl
 | cons v l ih => simp [Sy.dens, ofCell_den, ih]
theorem ofVal_den (ρ : Env) (v : Value) : (ofVal v).den ρ = v := by
 unfold ofVal
 split
 ·simp [Sy.den, dens_ofCell]
 ·exact ofCell_den ρ _
def Env.good (ρ : Env) : Prop := ∀ v ∈ ρ.V, v.oneCell' = true
def Sy.cell : Sy → Bool
 | .agg _ | .tup _ | .when _ _ _ => false
 | .val v => v.oneCell'
 | _ => true
theorem Sy.cell_den {ρ : Env} (hg : ρ.good) : ∀ s : Sy, s.cell = true → (s.den ρ).oneCell' = true
 | .var n, _ => by
  simp only [Sy.den]
  rcases gd_mem ρ.V n .nilIface with h | h
  ·exact hg _ h
  ·rw [h]; rfl
 | .val v, h => h
 | .bool _, _ | .int _ _, _ | .str _, _ | .ptr _ _, _ | .elt _ _ _ _, _ | .slc _ _ _, _ | .slb _ _ _ _, _ | .nils, _ | .fn _ _, _ | .bnd _ _, _ | .ifc _ _, _ => rfl
 | .agg _, h | .tup _, h | .when _ _ _, h => by cases h
def Sy.cells : Sy → Option (List Sy)
 | .agg l => if l.all Sy.cell then some l else none
 | s => if s.cell then some [s] else none
theorem cells_of_one {v : Value} (h : v.oneCell' = true) : v.cells = #[v] := by cases v <;> first | rfl | cases h
theorem Sy.cells_den {ρ : Env} (hg : ρ.good) {s : Sy} {l : List Sy} (h : s.cells = some l) : (s.den ρ).cells = (Sy.dens ρ l).toArray ∧ ∀ x ∈ l, x.cell = true := by
 cases s
 case agg k =>
  simp only [Sy.cells] at h
  split at h
  ·rename_i ha
   obtain rfl : k = l := by simpa using h
   exact ⟨by simp [Sy.den, Value.cells], by simpa using ha⟩
  ·cases h
 all_goals
  simp only [Sy.cells] at h
  split at h
  ·rename_i hc
   obtain rfl := (Option.some.inj h).symm
   refine ⟨?_, by simpa using hc⟩
   simp only [Sy.dens]
   exact cells_of_one (Sy.cell_den hg _ hc)
  ·cases h
end Go.SF
end
section
namespace Go.SF
open Go Go.RowKit
variable {P : Program}
structure Blk where
 m : Nat
 ty : TypeId
 cs : List Sy
def Blk.at (ρ : Env) (b : Blk) (w : World) : Prop := w.heap[gd ρ.M b.m 0]? = some (.cells (Sy.dens ρ b.cs).toArray b.ty)
def findB : List Blk → Nat → Option Blk
 | [], _ => none
 | b :: l, m => if b.m = m then some b else findB l m
theorem findB_mem : ∀ {l : List Blk} {m : Nat} {b : Blk}, findB l m = some b → b ∈ l ∧ b.m = m
 | [], _, _, h => by cases h
 | a :: l, m, b, h => by
  simp only [findB] at h
  split at h
  ·rename_i e; obtain rfl := Option.some.inj h; exact ⟨List.mem_cons_self .., e⟩
  ·exact ⟨List.mem_cons_of_mem _ (findB_mem h).1, (findB_mem h).2⟩
def aggT (P : Program) (t : TypeId) : Option Bool :=
 match P.underlying t with
 | some (.struct _) | some (.array _ _) => some true
 | some _ => some false
 | none => none
def sizeT (P : Program) (t : TypeId) : Option Nat := (P.info? t).map (·.size)
theorem run_aggT {t : TypeId} {b : Bool} (h : aggT P t = some b) (w : World) : (isAgg t).run P w = .ok b w := by
 unfold aggT at h
 split at h <;> simp_all [isAgg, underlying]
theorem run_sizeT {t : TypeId} {n : Nat} (h : sizeT P t = some n) (w : World) : (sizeOf t).run P w = .ok n w := by
 unfold sizeT at h
 cases hi : P.info? t with
 | none => simp [hi] at h
 | some i => simp [hi] at h; subst h; simp [sizeOf, typeInfo, hi]
theorem add_add (a : Addr) (m n : Nat) : (a.add m).add n = a.add (m + n) := by
 unfold Addr.add
 by_cases hm : m = 0
 ·subst hm; simp
 ·by_cases hn : n = 0
  ·subst hn; simp [hm]
  ·simp [hm, hn, Nat.add_assoc]
theorem add_none (b o n : Nat) : (⟨b, o, none⟩ : Addr).add n = ⟨b, o + n, none⟩ := by
 unfold Addr.add; split <;> simp_all
def ldS (P : Program) (t : TypeId) (cs : List Sy) (off : Nat) : Option Sy :=
 match aggT P t, sizeT P t with
 | some true, some n => let l := (cs.drop off).take n; if l.length = n then some (.agg l) else none
 | some false, some _ => cs[off]?
 | _, _ => none
theorem dens_getElem? (ρ : Env) (l : List Sy) (n : Nat) : (Sy.dens ρ l)[n]? = (l[n]?).map (Sy.den ρ) := by
 rw [Sy.dens_eq, List.getElem?_map]
theorem run_ldS {ρ : Env} {t : TypeId} {cs : List Sy} {off : Nat} {s : Sy} (h : ldS P t cs off = some s) {w : World} {b : Nat} {ty : TypeId}
  (hb : w.heap[b]? = some (.cells (Sy.dens ρ cs).toArray ty)) : (loadVar t ⟨b, off, none⟩).run P w = .ok (s.den ρ) w := by
 unfold ldS at h
 split at h
 ·rename_i n hA hS
  dsimp only at h
  split at h
  ·rename_i hl
   obtain rfl := Option.some.inj h
   have hc : (loadCells ⟨b, off, none⟩ n).run P w = .ok (Sy.dens ρ ((cs.drop off).take n)).toArray w := by
    have := run_loadCells_list (P := P) w ⟨b, off, none⟩ (Sy.dens ρ ((cs.drop off).take n)) (fun j v hj => by
     rw [add_none]
     rw [dens_getElem?] at hj
     have hjn : j < n := by
      rcases Nat.lt_or_ge j n with h1 | h1
      ·exact h1
      ·rw [List.getElem?_take, if_neg (by omega)] at hj; cases hj
     rw [List.getElem?_take, if_pos hjn, List.getElem?_drop] at hj
     simp [World.cell?, hb, dens_getElem?, hj])
    rwa [Sy.dens_eq, List.length_map, hl, ← Sy.dens_eq] at this
   simp [loadVar, run_aggT hA, run_sizeT hS, hc, Sy.den]
  ·cases h
 ·rename_i n hA hS
  have : (w.cell? ⟨b, off, none⟩) = some (s.den ρ) := by simp [World.cell?, hb, dens_getElem?, h]
  simp [loadVar, run_aggT hA, this]
 ·cases h
def over (c : List Sy) (k : Nat) (v : List Sy) : List Sy := c.take k ++ v ++ c.drop (k + v.length)
theorem over_den (ρ : Env) (c v : List Sy) (k : Nat) : Sy.dens ρ (over c k v) = (Sy.dens ρ c).take k ++ Sy.dens ρ v ++ (Sy.dens ρ c).drop (k + v.length) := by
 simp [over, Sy.dens_eq, List.map_take, List.map_drop]
theorem run_stS {ρ : Env} (hg : ρ.good) {t : TypeId} {cs vs : List Sy} {off n : Nat} {s : Sy} (hs : s.cells = some vs) (hS : sizeT P t = some n) (hn : vs.length = n) (hl : off + n ≤ cs.length)
  {w : World} {b : Nat} {ty : TypeId} (hb : w.heap[b]? = some (.cells (Sy.dens ρ cs).toArray ty)) :
  (storeVar t ⟨b, off, none⟩ (s.den ρ)).run P w = .ok () (w.setRow b (Sy.dens ρ (over cs off vs)).toArray) := by
 obtain ⟨h1, h2⟩ := Sy.cells_den hg hs
 have h3 := run_storeCells_at (P := P) b off ty (Sy.dens ρ vs) 0 (Sy.dens ρ cs).toArray w hb (by simp [Sy.dens_eq]; omega) (fun v hv => by
  rw [Sy.dens_eq] at hv
  obtain ⟨x, hx, rfl⟩ := List.mem_map.1 hv
  exact Sy.cell_den hg _ (h2 x hx))
 have hsz : (s.den ρ).cells.size = n := by rw [h1]; simp [Sy.dens_eq, hn]
 simp only [storeVar, Sem.run_bind, run_sizeT hS, Result.andThen_ok]
 rw [if_neg (by rw [hsz]; simp)]
 rw [h1]
 rw [h3, over_den]
 simp [Sy.dens_eq]
def partS (P : Program) (t : TypeId) (cs : List Sy) (off : Nat) : Option Sy := ldS P t cs off
theorem run_partS {ρ : Env} {t : TypeId} {cs : List Sy} {off : Nat} {s : Sy} (h : partS P t cs off = some s) (w : World) :
  (part t (Sy.dens ρ cs).toArray off).run P w = .ok (s.den ρ) w := by
 unfold partS ldS at h
 split at h
 ·rename_i n hA hS
  dsimp only at h
  split at h
  ·rename_i hl
   obtain rfl := Option.some.inj h
   simp only [part, Sem.run_bind, run_aggT hA, Result.andThen_ok, if_true, run_sizeT hS, Sem.run_pure]
   congr 1
   simp [Sy.den, Sy.dens_eq, List.map_take, List.map_drop]
  ·cases h
 ·rename_i n hA hS
  simp only [part, Sem.run_bind, run_aggT hA, Result.andThen_ok, if_false, Bool.false_eq_true]
  simp [dens_getElem?, h]
 ·cases h
mutual
def eqE (P : Program) : Nat → TypeId → Sy → Sy → Option E
 | 0, _, _, _ => none
 | d + 1, t, x, y =>
  match P.underlying t, x, y with
  | some (.int _), .int k a, .int k' b => if k = k' then some (.bin .ieq a b) else none
  | some .bool, .bool a, .bool b => some (.bin .beq a b)
  | some .string, .str a, .str b => some (.bin .teq a b)
  | some (.struct fs), .agg xs, .agg ys => if P.stoodInHeld t then none else eqFs P d xs ys fs.toList
  | some (.array n el), .agg xs, .agg ys => match P.info? el with
   | some _ => eqIs P d el (P.cellsOf el) xs ys (List.range n)
   | none => none
  | some (.interface _), .ifc u a, .ifc v b => if u = v then (match P.info? u with
   | some i => if i.comparable then eqE P d u a b else none
   | none => none) else some (.bl false)
  | _, _, _ => none
def eqIs (P : Program) : Nat → TypeId → Nat → List Sy → List Sy → List Nat → Option E
 | _, _, _, _, _, [] => some (.bl true)
 | 0, _, _, _, _, _ :: _ => none
 | d + 1, el, z, xs, ys, i :: is =>
  match partS P el xs (i * z), partS P el ys (i * z) with
  | some a, some b => match eqE P d el a b, eqIs P d el z xs ys is with
   | some e, some (.bl true) => some e
   | some e, some r => some (.bin .band e r)
   | _, _ => none
  | _, _ => none
def eqFs (P : Program) : Nat → List Sy → List Sy → List Field → Option E
 | _, _, _, [] => some (.bl true)
 | 0, _, _, _ :: _ => none
 | d + 1, xs, ys, f :: fs =>
  if f.name ≠ "_" then
   match partS P f.type xs f.offset, partS P f.type ys f.offset with
   | some a, some b => match eqE P d f.type a b, eqFs P d xs ys fs with
    | some e, some (.bl true) => some e
    | some e, some r => some (.bin .band e r)
    | _, _ => none
   | _, _ => none
  else eqFs P d xs ys fs
end
theorem toList_data (s : ByteArray) : s.toList = s.data.toList := ByteArray.toList_eq s
mutual
theorem run_eqE {ρ : Env} (w : World) : ∀ (d D : Nat) (t : TypeId) (x y : Sy) (e : E), eqE P d t x y = some e → d ≤ D → (Op.equalIn D t (x.den ρ) (y.den ρ)).run P w = .ok (e.b ρ) w
 | 0, _, _, _, _, _, h, _ => by simp [eqE] at h
 | d + 1, 0, _, _, _, _, _, hD => by omega
 | d + 1, D + 1, t, x, y, e, h, hD => by
  simp only [eqE] at h
  split at h
  ·rename_i k0 k a k' b hu
   split at h
   ·obtain rfl := Option.some.inj h
    rename_i hk; subst hk
    exact run_equalIn_int w D t k k0 _ _ hu
   ·cases h
  ·rename_i a b hu
   obtain rfl := Option.some.inj h
   exact run_equalIn_bool w D t _ _ hu
  ·rename_i a b hu
   obtain rfl := Option.some.inj h
   rw [Sy.den, Sy.den, run_equalIn_string w D t _ _ hu, toList_data, toList_data]; rfl
  ·rename_i fs xs ys hu
   split at h
   ·cases h
   ·rename_i hst
    have hfo : P.fieldsOf t = fs := by simp [Program.fieldsOf, hu]
    rw [Sy.den, Sy.den, run_equalIn_struct w D t _ _ (by rw [hfo]; exact hu) (by simpa using hst), hfo]
    exact run_eqFs w d D xs ys fs.toList e h (by omega)
  ·rename_i n el xs ys hu
   split at h
   ·rename_i i hi
    rw [Sy.den, Sy.den, run_equalIn_array (w := w) D _ _ hu hi]
    exact run_eqIs w d D el (P.cellsOf el) xs ys (List.range n) e h (by omega)
   ·cases h
  ·rename_i ms u a v b hu
   split at h
   ·rename_i huv
    subst huv
    split at h
    ·rename_i i hi
     split at h
     ·rename_i hcmp
      have := run_eqE (ρ := ρ) w d D u a b e h (by omega)
      simp [Sy.den, Op.equalIn, run_underlying hu, typeInfo, hi, hcmp, this]
     ·cases h
    ·cases h
   ·rename_i huv
    obtain rfl := Option.some.inj h
    simp [Sy.den, Op.equalIn, run_underlying hu, huv, E.b]
  ·cases h
theorem run_eqIs {ρ : Env} (w : World) : ∀ (d D : Nat) (el : TypeId) (z : Nat) (xs ys : List Sy) (is : List Nat) (e : E), eqIs P d el z xs ys is = some e → d ≤ D →
  (Op.eqItems D el z (Sy.dens ρ xs).toArray (Sy.dens ρ ys).toArray is).run P w = .ok (e.b ρ) w
 | _, _, _, _, _, _, [], e, h, _ => by simp only [eqIs] at h; obtain rfl := Option.some.inj h; simp [Op.eqItems, E.b]
 | 0, _, _, _, _, _, _ :: _, _, h, _ => by simp [eqIs] at h
 | d + 1, D, el, z, xs, ys, i :: is, e, h, hD => by
  simp only [eqIs] at h
  simp only [Op.eqItems]
  split at h
  ·rename_i a b ha hb
   simp only [Sem.run_bind, run_partS ha, run_partS hb, Result.andThen_ok]
   split at h
   ·rename_i e1 he he2
    obtain rfl := Option.some.inj h
    rw [run_eqE w d D el a b e1 he (by omega)]
    simp only [Result.andThen_ok, Sem.run_ite, Sem.run_pure]
    have := run_eqIs (ρ := ρ) w d D el z xs ys is _ he2 (by omega)
    rw [this]
    cases e1.b ρ <;> simp [E.b]
   ·rename_i e1 r _hne he hr
    obtain rfl := Option.some.inj h
    rw [run_eqE w d D el a b e1 he (by omega)]
    simp only [Result.andThen_ok, Sem.run_ite, Sem.run_pure]
    have := run_eqIs (ρ := ρ) w d D el z xs ys is _ hr (by omega)
    rw [this]
    cases h1 : e1.b ρ <;> simp [E.b, h1]
   ·cases h
  ·cases h
theorem run_eqFs {ρ : Env} (w : World) : ∀ (d D : Nat) (xs ys : List Sy) (fs : List Field) (e : E), eqFs P d xs ys fs = some e → d ≤ D →
  (Op.eqFields D (Sy.dens ρ xs).toArray (Sy.dens ρ ys).toArray fs).run P w = .ok (e.b ρ) w
 | _, _, _, _, [], e, h, _ => by simp only [eqFs] at h; obtain rfl := Option.some.inj h; simp [Op.eqFields, E.b]
 | 0, _, _, _, _ :: _, _, h, _ => by simp [eqFs] at h
 | d + 1, D, xs, ys, f :: fs, e, h, hD => by
  simp only [eqFs] at h
  simp only [Op.eqFields]
  split at h
  ·rename_i hn
   rw [if_pos hn]
   split at h
   ·rename_i a b ha hb
    simp only [Sem.run_bind, run_partS ha, run_partS hb, Result.andThen_ok]
    split at h
    ·rename_i e1 he he2
     obtain rfl := Option.some.inj h
     rw [run_eqE w d D f.type a b e1 he (by omega)]
     simp only [Result.andThen_ok, Sem.run_ite, Sem.run_pure]
     have := run_eqFs (ρ := ρ) w d D xs ys fs _ he2 (by omega)
     rw [this]
     cases e1.b ρ <;> simp [E.b]
    ·rename_i e1 r _hne he hr
     obtain rfl := Option.some.inj h
     rw [run_eqE w d D f.type a b e1 he (by omega)]
     simp only [Result.andThen_ok, Sem.run_ite, Sem.run_pure]
     have := run_eqFs (ρ := ρ) w d D xs ys fs _ hr (by omega)
     rw [this]
     cases h1 : e1.b ρ <;> simp [E.b, h1]
    ·cases h
   ·cases h
  ·rename_i hn
   rw [if_neg hn]
   exact run_eqFs w d D xs ys fs e h (by omega)
end
end Go.SF
end
section
namespace Go.SF
open Go Go.RowKit
variable {P : Program}
theorem wrap_in (k : IntKind) (n : Int) (h1 : k.min ≤ n) (h2 : n ≤ k.max) : k.wrap n = n := by
 cases k <;> simp [IntKind.wrap, IntKind.min, IntKind.max, IntKind.bits, IntKind.signed] at * <;> omega
def isLit : E → Option Int
 | .il n => some n
 | _ => none
theorem isLit_i {ρ : Env} {e : E} {n : Int} (h : isLit e = some n) : e.i ρ = n := by
 cases e <;> simp [isLit] at h; subst h; simp [E.i]
def isNat : E → Bool
 | .nv _ => true
 | .il n => decide (0 ≤ n)
 | .bin .add a b => isNat a && isNat b
 | .un .len _ => true
 | _ => false
theorem isNat_i {ρ : Env} : ∀ {e : E}, isNat e = true → 0 ≤ e.i ρ
 | .nv n, _ => by simp [E.i]
 | .il n, h => by simpa [isNat, E.i] using h
 | .bin .add a b, h => by
  simp only [isNat, Bool.and_eq_true] at h
  have h1 := isNat_i (ρ := ρ) h.1
  have h2 := isNat_i (ρ := ρ) h.2
  simp only [E.i]; omega
 | .un .len _, _ => by simp [E.i]
def addE (a b : E) : E := match a, b with
 | .il x, .il y => .il (x + y)
 | a, .il 0 => a
 | .il 0, b => b
 | .bin .add a (.il x), .il y => .bin .add a (.il (x + y))
 | a, b => .bin .add a b
theorem addE_i {ρ : Env} (a b : E) : (addE a b).i ρ = a.i ρ + b.i ρ := by
 unfold addE; split <;> simp [E.i, Int.add_assoc]
def allB (ρ : Env) : List E → Prop
 | [] => True
 | e :: l => e.b ρ = true ∧ allB ρ l
def arithS (ex : Bool) (k : IntKind) (a b : E) (e : E) (f : Int → Int → Int) : List E × Sy :=
 match isLit a, isLit b with
 | some x, some y => ([], .int k (.il (k.wrap (f x y))))
 | _, _ => if ex then ([.bin .le (.il k.min) e, .bin .le e (.il k.max)], .int k e) else ([], .int k (.un (.wrap k) e))
theorem arithS_den {ρ : Env} {ex : Bool} {k : IntKind} {a b e : E} {f : Int → Int → Int} {cs : List E} {s : Sy} (hq : arithS ex k a b e f = (cs, s)) (hf : e.i ρ = f (a.i ρ) (b.i ρ)) (h : allB ρ cs) :
  s.den ρ = .int k (k.wrap (f (a.i ρ) (b.i ρ))) := by
 unfold arithS at hq
 split at hq
 ·rename_i x y hx hy
  obtain ⟨rfl, rfl⟩ := Prod.mk.inj hq
  simp [Sy.den, E.i, isLit_i hx, isLit_i hy]
 ·cases ex
  ·obtain ⟨rfl, rfl⟩ := Prod.mk.inj hq
   simp [Sy.den, E.i, hf]
  ·obtain ⟨rfl, rfl⟩ := Prod.mk.inj hq
   have h1 := of_decide_eq_true h.1
   have h2 := of_decide_eq_true h.2.1
   simp only [E.i] at h1 h2
   simp only [Sy.den]
   rw [← hf, wrap_in k _ h1 h2]
def cmpS (a b : E) (e : E) (f : Int → Int → Bool) : List E × Sy :=
 match isLit a, isLit b with
 | some x, some y => ([], .bool (.bl (f x y)))
 | _, _ => ([], .bool e)
theorem cmpS_den {ρ : Env} {a b e : E} {f : Int → Int → Bool} {cs : List E} {s : Sy} (hq : cmpS a b e f = (cs, s)) (hf : e.b ρ = f (a.i ρ) (b.i ρ)) : s.den ρ = .bool (f (a.i ρ) (b.i ρ)) := by
 unfold cmpS at hq
 split at hq
 ·rename_i x y hx hy
  obtain ⟨rfl, rfl⟩ := Prod.mk.inj hq
  simp [Sy.den, E.b, isLit_i hx, isLit_i hy]
 ·obtain ⟨rfl, rfl⟩ := Prod.mk.inj hq
  simp [Sy.den, hf]
def notE : E → E
 | .bl b => .bl (!b)
 | .un .not e => e
 | e => .un .not e
theorem notE_b {ρ : Env} (e : E) : (notE e).b ρ = !(e.b ρ) := by
 unfold notE; split <;> simp [E.b]
def intS (ex : Bool) (op : BinOp) (k : IntKind) (a b : E) : Option (List E × Sy) :=
 match op with
 | .add => some (arithS ex k a b (.bin .add a b) (· + ·))
 | .sub => some (arithS ex k a b (.bin .sub a b) (· - ·))
 | .mul => some (arithS ex k a b (.bin .mul a b) (· * ·))
 | .quo => match arithS ex k a b (.bin .quo a b) Int.tdiv, isLit b with
  | (cs, s), some y => if y = 0 then none else some (cs, s)
  | (cs, s), none => some (notE (.bin .ieq b (.il 0)) :: cs, s)
 | .rem => match isLit b with
  | some y => if y = 0 then none else some ([], .int k (.bin .rem a b))
  | none => some ([notE (.bin .ieq b (.il 0))], .int k (.bin .rem a b))
 | .eql => some (cmpS a b (.bin .ieq a b) (· == ·))
 | .neq => some (cmpS a b (notE (.bin .ieq a b)) (· != ·))
 | .lss => some (cmpS a b (.bin .lt a b) (fun x y => decide (x < y)))
 | .leq => some (cmpS a b (.bin .le a b) (fun x y => decide (x ≤ y)))
 | .gtr => some (cmpS a b (.bin .lt b a) (fun x y => decide (y < x)))
 | .geq => some (cmpS a b (.bin .le b a) (fun x y => decide (y ≤ x)))
 | _ => none
theorem run_intS {ρ : Env} {ex : Bool} {op : BinOp} {k : IntKind} {a b : E} {cs : List E} {s : Sy} (h : intS ex op k a b = some (cs, s)) (hc : allB ρ cs) (t : TypeId) (w : World) :
  (binOp op t (.int k (a.i ρ)) (.int k (b.i ρ))).run P w = .ok (s.den ρ) w := by
 cases op <;> simp only [intS] at h <;> try (cases h; done)
 case add =>
  rw [arithS_den (Option.some.inj h) (by simp [E.i]) hc]; simp [binOp, Op.intArith]
 case sub =>
  rw [arithS_den (Option.some.inj h) (by simp [E.i]) hc]; simp [binOp, Op.intArith]
 case mul =>
  rw [arithS_den (Option.some.inj h) (by simp [E.i]) hc]; simp [binOp, Op.intArith]
 case quo =>
  split at h
  ·rename_i cs' s' y hp hb
   split at h
   ·cases h
   ·rename_i hy
    obtain ⟨rfl, rfl⟩ := Prod.mk.inj (Option.some.inj h)
    rw [arithS_den hp (by simp [E.i]) hc]; simp [binOp, Op.intDiv, isLit_i hb, hy]
  ·rename_i cs' s' hp hb
   obtain ⟨rfl, rfl⟩ := Prod.mk.inj (Option.some.inj h)
   have h0 : ¬ b.i ρ = 0 := by have := hc.1; rw [notE_b] at this; simpa [E.b, E.i] using this
   rw [arithS_den hp (by simp [E.i]) hc.2]; simp [binOp, Op.intDiv, h0]
 case rem =>
  split at h
  ·rename_i y hb
   split at h
   ·cases h
   ·rename_i hy
    obtain ⟨rfl, rfl⟩ := Prod.mk.inj (Option.some.inj h)
    have hb' := isLit_i (ρ := ρ) hb
    simp [binOp, Op.intDiv, hb', hy, Sy.den, E.i]
  ·obtain ⟨rfl, rfl⟩ := Prod.mk.inj (Option.some.inj h)
   have h0 : ¬ b.i ρ = 0 := by have := hc.1; rw [notE_b] at this; simpa [E.b, E.i] using this
   simp [binOp, Op.intDiv, h0, Sy.den, E.i]
 all_goals
  rw [cmpS_den (ρ := ρ) (Option.some.inj h) (by first | (simp [E.b, ltB, leB]; done) | (rw [notE_b]; rfl))]
  simp [binOp, Op.intCmp]
def strS (op : BinOp) (a b : E) : Option (List E × Sy) :=
 match op with
 | .add => some ([.bin .le (.bin .add (.un .len a) (.un .len b)) (.il 9223372036854775807)], .str (.bin .cat a b))
 | .eql => some ([], .bool (.bin .teq a b))
 | .neq => some ([], .bool (.un .not (.bin .teq a b)))
 | .lss => some ([], .bool (.bin .tlt a b))
 | .leq => some ([], .bool (.bin .bor (.bin .tlt a b) (.bin .teq a b)))
 | .gtr => some ([], .bool (.un .not (.bin .bor (.bin .tlt a b) (.bin .teq a b))))
 | .geq => some ([], .bool (.un .not (.bin .tlt a b)))
 | _ => none
theorem run_strS {ρ : Env} {op : BinOp} {a b : E} {cs : List E} {s : Sy} (h : strS op a b = some (cs, s)) (hc : allB ρ cs) (t : TypeId) (w : World) :
  (binOp op t (.string (a.t ρ)) (.string (b.t ρ))).run P w = .ok (s.den ρ) w := by
 cases op <;> simp only [strS] at h <;> try (cases h; done)
 all_goals obtain ⟨rfl, rfl⟩ := Prod.mk.inj (Option.some.inj h)
 case add =>
  have h1 := hc.1
  have h1 := of_decide_eq_true h1
  simp only [E.i] at h1
  have h2 : ¬ ((((a.t ρ).size + (b.t ρ).size : Nat) : Int) > IntKind.i64.max) := by
   have : IntKind.i64.max = 9223372036854775807 := by decide
   rw [this]; omega
  simp only [binOp, Op.stringOp, if_neg h2, Sem.run_pure]
  rfl
 all_goals simp [binOp, Op.stringOp, toList_data, Sy.den, E.b]
def shrS (op : BinOp) (k : IntKind) (a b : E) : Option (List E × Sy) :=
 match op, isLit b with
 | .shr, some (.ofNat n) => if n ≤ k.bits then some ([.bin .le (.il 0) a], .int k (.bin .quo a (.il (2 ^ n)))) else none
 | _, _ => none
theorem run_shrS {ρ : Env} {op : BinOp} {k k' : IntKind} {a b : E} {cs : List E} {s : Sy} (h : shrS op k a b = some (cs, s)) (hc : allB ρ cs) (t : TypeId) (ox oy : Operand) (w : World) :
  (do eqGuard op t ox oy (.int k (a.i ρ)) (.int k' (b.i ρ)); binOp op t (.int k (a.i ρ)) (.int k' (b.i ρ)) : Sem Value).run P w = .ok (s.den ρ) w := by
 unfold shrS at h
 split at h
 ·rename_i n hb
  split at h
  ·rename_i hn
   obtain ⟨rfl, rfl⟩ := Prod.mk.inj (Option.some.inj h)
   have h0 : (0 : Int) ≤ a.i ρ := of_decide_eq_true hc.1
   have e : b.i ρ = (n : Int) := isLit_i hb
   rw [e]
   have hg : (eqGuard .shr t ox oy (.int k (a.i ρ)) (.int k' (n : Int))).run P w = .ok () w := rfl
   have h2 : (0 : Int) ≤ 2 ^ n := Int.le_of_lt (Int.pow_pos (by decide))
   simp only [Sem.run_bind, hg, Result.andThen_ok, binOp, Op.shift, if_neg (show ¬ ((n : Int) < 0) by omega), Int.toNat_natCast, Nat.min_eq_left hn, Sem.run_pure, Sy.den, E.i]
   rw [Int.tdiv_eq_ediv_of_nonneg h0, Int.fdiv_eq_ediv_of_nonneg _ h2]
  ·cases h
 ·cases h
def binS (P : Program) (ex : Bool) (op : BinOp) (t : TypeId) (x y : Sy) : Option (List E × Sy) :=
 match x, y with
 | .int k a, .int k' b => match shrS op k a b with
  | some r => some r
  | none => if k = k' then intS ex op k a b else none
 | .str a, .str b => strS op a b
 | .bool a, .bool b =>
  match op, P.underlying t with
  | .eql, some .bool => some ([], .bool (.bin .beq a b))
  | .neq, some .bool => some ([], .bool (.un .not (.bin .beq a b)))
  | _, _ => none
 | .agg xs, .agg ys =>
  if P.eqGuardType P.depth t then none else
  match op, eqE P 16 t (.agg xs) (.agg ys) with
  | .eql, some e => some ([], .bool e)
  | .neq, some e => some ([], .bool (notE e))
  | _, _ => none
 | _, _ => none
theorem run_binS {ρ : Env} {ex : Bool} {op : BinOp} {t : TypeId} {x y : Sy} {cs : List E} {s : Sy} (h : binS P ex op t x y = some (cs, s)) (hc : allB ρ cs) (ox oy : Operand) (w : World) :
  (do eqGuard op t ox oy (x.den ρ) (y.den ρ); binOp op t (x.den ρ) (y.den ρ) : Sem Value).run P w = .ok (s.den ρ) w := by
 unfold binS at h
 split at h
 ·rename_i k a k' b
  split at h
  ·rename_i r hr
   obtain rfl := Option.some.inj h
   exact run_shrS hr hc t ox oy w
  ·split at h
   ·rename_i hk; subst hk
    have : (eqGuard op t ox oy ((Sy.int k a).den ρ) ((Sy.int k b).den ρ)).run P w = .ok () w := by cases op <;> rfl
    simp only [Sem.run_bind, this, Result.andThen_ok]
    exact run_intS h hc t w
   ·cases h
 ·rename_i a b
  have : (eqGuard op t ox oy ((Sy.str a).den ρ) ((Sy.str b).den ρ)).run P w = .ok () w := by cases op <;> rfl
  simp only [Sem.run_bind, this, Result.andThen_ok]
  exact run_strS h hc t w
 ·split at h
  ·rename_i hu
   obtain ⟨rfl, rfl⟩ := Prod.mk.inj (Option.some.inj h)
   simp [Sy.den, eqGuard, binOp, Op.equal, Op.maxDepth, run_equalIn_bool w 9999 t _ _ hu, E.b]
  ·rename_i hu
   obtain ⟨rfl, rfl⟩ := Prod.mk.inj (Option.some.inj h)
   simp [Sy.den, eqGuard, binOp, Op.equal, Op.maxDepth, run_equalIn_bool w 9999 t _ _ hu, E.b]
  ·cases h
 ·split at h
  ·cases h
  ·rename_i xs ys hg
   have hg' : (eqGuard op t ox oy ((Sy.agg xs).den ρ) ((Sy.agg ys).den ρ)).run P w = .ok () w := run_eqGuard_agg w op t ox oy _ _ (by simpa using hg)
   simp only [Sem.run_bind, hg', Result.andThen_ok]
   split at h
   ·rename_i e he
    obtain ⟨rfl, rfl⟩ := Prod.mk.inj (Option.some.inj h)
    have := run_eqE (ρ := ρ) w 16 10000 t _ _ e he (by omega)
    have h2 := run_eql_struct (P := P) w t (Sy.dens ρ xs).toArray (Sy.dens ρ ys).toArray
    simp only [Sy.den] at this ⊢
    rw [h2, this]; rfl
   ·rename_i e he
    obtain ⟨rfl, rfl⟩ := Prod.mk.inj (Option.some.inj h)
    have := run_eqE (ρ := ρ) w 16 10000 t _ _ e he (by omega)
    have h2 := run_neq_struct (P := P) w t (Sy.dens ρ xs).toArray (Sy.dens ρ ys).toArray
    simp only [Sy.den, notE_b] at this ⊢
    rw [h2, this]; rfl
   ·cases h
 ·cases h
theorem run_indexS {ρ : Env} (t : TypeId) (s i : E) (k : IntKind) (hu : P.underlying t = some .string) (h0 : 0 ≤ i.i ρ) (h1 : i.i ρ < (s.t ρ).size) (w : World) :
  (Instr.index t (.string (s.t ρ)) (.int k (i.i ρ))).run P w = .ok (.int .u8 (E.i ρ (.bin .byte s i))) w := by
 rw [run_index_string w t _ k _ hu]
 have hn : (i.i ρ).toNat < (s.t ρ).size := by omega
 have hn' : (i.i ρ).toNat < (s.t ρ).data.size := hn
 rw [dif_pos ⟨h0, h1⟩]
 simp only [E.i, gd_get hn']
 rfl
def bdE (o : Option (IntKind × E)) (d : E) : E := match o with | some (_, e) => e | none => d
theorem run_cutS {ρ : Env} (t : TypeId) (s : E) (lo hi : Option (IntKind × E)) (hu : P.underlying t = some .string)
  (l h : Int) (hl : l = (bdE lo (.il 0)).i ρ) (hh : h = (bdE hi (.un .len s)).i ρ)
  (h0 : 0 ≤ l) (h1 : l ≤ h) (h2 : h ≤ (s.t ρ).size) (w : World) :
  (Instr.sliceAt t (.string (s.t ρ)) (lo.map fun x => .int x.1 (x.2.i ρ)) (hi.map fun x => .int x.1 (x.2.i ρ)) none).run P w = .ok (.string ((s.t ρ).extract l.toNat h.toNat)) w := by
 have a1 : 0 ≤ h := Int.le_trans h0 h1
 have e1 : ((s.t ρ).size : Int).toNat = (s.t ρ).size := by simp
 have a2 : ¬ (max h 0 < l) := by omega
 rcases lo with _ | ⟨kl, el⟩ <;> rcases hi with _ | ⟨kh, eh⟩ <;> simp only [bdE, E.i] at hl hh <;> subst hl <;> subst hh <;>
  simp_all [Instr.sliceAt, run_underlying hu, Instr.slice, Instr.sliceBounds, Instr.sliceBound, asIntOf]
end Go.SF
end
end
section
/- The walk that the kernel computes: symbolic values and worlds, and that they are sound. -/
section
namespace Go.SF
open Go Go.RowKit
variable {P : Program}
abbrev Kn := List (E × Bool)
def Kn.holds (ρ : Env) (kn : Kn) : Prop := ∀ p ∈ kn, p.1.b ρ = p.2
def look : Kn → E → Option Bool
 | [], _ => none
 | (f, b) :: kn, e =>
  if E.same f e then some b else
  match f, b, e with
  | .bin .ieq x (.il m), true, .bin .ieq y (.il n) => if E.same x y then some (intSame m n) else look kn e
  | _, _, _ => look kn e
theorem look_ok {ρ : Env} : ∀ {kn : Kn} {e : E} {b : Bool}, Kn.holds ρ kn → look kn e = some b → e.b ρ = b
 | [], _, _, _, h => by cases h
 | (f, c) :: kn, e, b, hk, h => by
  have h1 := hk (f, c) (List.mem_cons_self ..)
  have h2 : Kn.holds ρ kn := fun p hp => hk p (List.mem_cons_of_mem _ hp)
  simp only [look] at h
  split at h
  ·rename_i hfe
   have hfe := E.same_eq hfe
   subst hfe; simpa using h1.trans (by simpa using h)
  ·split at h
   ·split at h
    ·rename_i hxy
     have hxy := E.same_eq hxy
     subst hxy
     obtain rfl := Option.some.inj h
     simp only [E.b, E.i, beq_iff_eq] at h1
     rw [Bool.eq_iff_iff]
     simp only [E.b, E.i, h1, beq_iff_eq]
     exact ⟨intSame_mk, intSame_eq⟩
    ·exact look_ok h2 h
   ·exact look_ok h2 h
def dec (kn : Kn) : E → Option Bool
 | .bl b => some b
 | .un .not e => (dec kn e).map (!·)
 | .bin .band a b =>
  match dec kn a, dec kn b with
  | some false, _ => some false
  | _, some false => some false
  | some true, some true => some true
  | _, _ => look kn (.bin .band a b)
 | .bin .bor a b =>
  match dec kn a, dec kn b with
  | some true, _ => some true
  | _, some true => some true
  | some false, some false => some false
  | _, _ => look kn (.bin .bor a b)
 | .bin .beq a b =>
  match dec kn a, dec kn b with
  | some x, some y => some (x == y)
  | _, _ => look kn (.bin .beq a b)
 | e => look kn e
theorem dec_ok {ρ : Env} {kn : Kn} (hk : Kn.holds ρ kn) (e : E) : ∀ {b : Bool}, dec kn e = some b → e.b ρ = b := by
 induction e with
 | bl c => intro b h; simpa [dec, E.b] using h
 | un o a ih =>
  intro b h
  cases o <;> simp only [dec] at h <;> try exact look_ok hk h
  case not =>
   obtain ⟨c, hc, rfl⟩ := Option.map_eq_some_iff.1 h
   simp [E.b, ih hc]
 | bin o a c iha ihc =>
  intro b h
  cases o <;> simp only [dec] at h <;> try exact look_ok hk h
  case band =>
   split at h
   ·rename_i h1; simp only [E.b, iha h1]; simpa using h
   ·rename_i h2 _; simp only [E.b, ihc h2, Bool.and_false]; simpa using h
   ·rename_i h1 h2; simp only [E.b, iha h1, ihc h2]; simpa using h
   ·exact look_ok hk h
  case bor =>
   split at h
   ·rename_i h1; simp only [E.b, iha h1]; simpa using h
   ·rename_i h2 _; simp only [E.b, ihc h2, Bool.or_true]; simpa using h
   ·rename_i h1 h2; simp only [E.b, iha h1, ihc h2]; simpa using h
   ·exact look_ok hk h
  case beq =>
   split at h
   ·rename_i x y h1 h2; obtain rfl := Option.some.inj h; simp [E.b, iha h1, ihc h2]
   ·exact look_ok hk h
 | iv | nv | bv | tv | il | tl | sm | vn | vk | cut => intro b h; exact look_ok hk h
def learn : E → Bool → Kn → Kn
 | .un .not e, b, kn => learn e (!b) kn
 | .bin .band a c, true, kn => learn a true (learn c true kn)
 | .bin .bor a c, false, kn => learn a false (learn c false kn)
 | .bin .band a c, false, kn => match dec kn a, dec kn c with
  | some true, _ => learn c false kn
  | _, some true => learn a false kn
  | _, _ => (.bin .band a c, false) :: kn
 | .bin .bor a c, true, kn => match dec kn a, dec kn c with
  | some false, _ => learn c true kn
  | _, some false => learn a true kn
  | _, _ => (.bin .bor a c, true) :: kn
 | .bl _, _, kn => kn
 | e, b, kn => (e, b) :: kn
theorem cons_ok {ρ : Env} {e : E} {b : Bool} {kn : Kn} (hk : Kn.holds ρ kn) (h : e.b ρ = b) : Kn.holds ρ ((e, b) :: kn) := by
 intro p hp
 rcases List.mem_cons.1 hp with h1 | h1
 ·subst h1; exact h
 ·exact hk p h1
theorem learn_ok {ρ : Env} (e : E) : ∀ {b : Bool} {kn : Kn}, Kn.holds ρ kn → e.b ρ = b → Kn.holds ρ (learn e b kn) := by
 induction e with
 | bl c => intro b kn hk _; exact hk
 | un o a ih =>
  intro b kn hk h
  cases o <;> try exact cons_ok hk h
  case not => exact ih hk (by simp only [E.b] at h; rw [← h, Bool.not_not])
 | bin o a c iha ihc =>
  intro b kn hk h
  cases o <;> try exact cons_ok hk h
  case band =>
   cases b
   ·simp only [learn]
    split
    ·rename_i h1; exact ihc hk (by simpa [E.b, dec_ok hk a h1] using h)
    ·rename_i h1 _; exact iha hk (by simpa [E.b, dec_ok hk c h1] using h)
    ·exact cons_ok hk h
   ·simp only [E.b, Bool.and_eq_true] at h
    exact iha (ihc hk h.2) h.1
  case bor =>
   cases b
   ·simp only [E.b, Bool.or_eq_false_iff] at h
    exact iha (ihc hk h.2) h.1
   ·simp only [learn]
    split
    ·rename_i h1; exact ihc hk (by simpa [E.b, dec_ok hk a h1] using h)
    ·rename_i h1 _; exact iha hk (by simpa [E.b, dec_ok hk c h1] using h)
    ·exact cons_ok hk h
 | iv | nv | bv | tv | il | tl | sm | vn | vk | cut => intro b kn hk h; exact cons_ok hk h
def step1 (acc : Kn) : E × Bool → Kn
 | (.bin .band a c, false) => match dec acc a, dec acc c with
  | some true, none => learn c false acc
  | none, some true => learn a false acc
  | _, _ => acc
 | (.bin .bor a c, true) => match dec acc a, dec acc c with
  | some false, none => learn c true acc
  | none, some false => learn a true acc
  | _, _ => acc
 | _ => acc
theorem step1_ok {ρ : Env} {acc : Kn} (h : Kn.holds ρ acc) {p : E × Bool} (hp : p.1.b ρ = p.2) : Kn.holds ρ (step1 acc p) := by
 unfold step1
 split
 ·rename_i a c
  split
  ·rename_i ha _; exact learn_ok c h (by simpa [E.b, dec_ok h a ha] using hp)
  ·rename_i _ hc; exact learn_ok a h (by simpa [E.b, dec_ok h c hc] using hp)
  ·exact h
 ·rename_i a c
  split
  ·rename_i ha _; exact learn_ok c h (by simpa [E.b, dec_ok h a ha] using hp)
  ·rename_i _ hc; exact learn_ok a h (by simpa [E.b, dec_ok h c hc] using hp)
  ·exact h
 ·exact h
def relearn : Kn → Kn → Kn
 | [], acc => acc
 | p :: l, acc => relearn l (step1 acc p)
theorem relearn_ok {ρ : Env} : ∀ {l acc : Kn}, Kn.holds ρ l → Kn.holds ρ acc → Kn.holds ρ (relearn l acc)
 | [], _, _, h => h
 | p :: l, acc, hl, h => relearn_ok (l := l) (acc := step1 acc p) (fun q hq => hl q (List.mem_cons_of_mem _ hq)) (step1_ok h (hl p (List.mem_cons_self ..)))
def know (e : E) (b : Bool) (kn : Kn) : Kn := let k := learn e b kn; relearn k k
theorem know_ok {ρ : Env} (e : E) {b : Bool} {kn : Kn} (hk : Kn.holds ρ kn) (h : e.b ρ = b) : Kn.holds ρ (know e b kn) := relearn_ok (learn_ok e hk h) (learn_ok e hk h)
def bandE : E → E → E
 | .bl true, b => b
 | .bl false, _ => .bl false
 | a, .bl true => a
 | _, .bl false => .bl false
 | a, b => .bin .band a b
theorem bandE_b {ρ : Env} (a b : E) : (bandE a b).b ρ = (a.b ρ && b.b ρ) := by
 unfold bandE; split <;> simp [E.b]
def borE : E → E → E
 | .bl false, b => b
 | .bl true, _ => .bl true
 | a, .bl false => a
 | _, .bl true => .bl true
 | a, b => .bin .bor a b
theorem borE_b {ρ : Env} (a b : E) : (borE a b).b ρ = (a.b ρ || b.b ρ) := by
 unfold borE; split <;> simp [E.b]
def litE (e : E) (w : Bool) : E := if w then e else notE e
theorem litE_b {ρ : Env} (e : E) (w : Bool) : (litE e w).b ρ = (e.b ρ == w) := by
 cases w <;> simp [litE, notE_b]
def iteE (c a b : E) : E := match a, b with
 | .bl true, b => borE c b
 | a, .bl false => bandE c a
 | .bl false, b => bandE (notE c) b
 | a, .bl true => borE (notE c) a
 | a, b => borE (bandE c a) (bandE (notE c) b)
theorem iteE_b {ρ : Env} (c a b : E) : (iteE c a b).b ρ = if c.b ρ then a.b ρ else b.b ρ := by
 unfold iteE
 split <;> simp only [bandE_b, borE_b, notE_b] <;> cases c.b ρ <;> simp [E.b]
def simS (kn : Kn) : Sy → Sy
 | .when g w s => match dec kn g with
  | some b => if b = w then s else .val undef
  | none => .when g w s
 | s => s
theorem simS_den {ρ : Env} {kn : Kn} (hk : Kn.holds ρ kn) (s : Sy) : (simS kn s).den ρ = s.den ρ := by
 unfold simS
 split
 ·rename_i g w s
  split
  ·rename_i b hb
   have := dec_ok hk g hb
   split
   ·rename_i e; simp [Sy.den, this, e]
   ·rename_i e; simp [Sy.den, this, e]
  ·rfl
 ·rfl
abbrev Tm := List (Nat × Option Sy)
def getT : Tm → Nat → Option Sy
 | [], _ => none
 | (k, v) :: l, t => if Nat.beq k t then v else getT l t
theorem getT_mem : ∀ {tm : Tm} {t : Nat} {x : Sy}, getT tm t = some x → ∃ p ∈ tm, p.1 = t ∧ p.2 = some x
 | [], _, _, h => by cases h
 | (k, v) :: l, t, x, h => by
  simp only [getT] at h
  split at h
  ·rename_i hk; exact ⟨(k, v), List.mem_cons_self .., Nat.eq_of_beq_eq_true hk, h⟩
  ·obtain ⟨p, hp, h1, h2⟩ := getT_mem h; exact ⟨p, List.mem_cons_of_mem _ hp, h1, h2⟩
theorem getT_same (k : Nat) (v : Option Sy) (l : Tm) : getT ((k, v) :: l) k = v := by simp [getT]
theorem getT_other {k t : Nat} (v : Option Sy) (l : Tm) (h : k ≠ t) : getT ((k, v) :: l) t = getT l t := by
 simp only [getT]
 rw [if_neg (fun e => h (Nat.eq_of_beq_eq_true e))]
def evS (tm : Tm) : Operand → Option Sy
 | .tmp t => getT tm t
 | .const v => some (ofVal v)
 | .global g => some (.val (.pointer (some ⟨g, 0, none⟩)))
 | .func f => some (.fn f [])
def evsS (tm : Tm) : List Operand → Option (List Sy)
 | [] => some []
 | x :: l => match evS tm x, evsS tm l with
  | some s, some r => some (s :: r)
  | _, _ => none
def simT (kn : Kn) (tm : Tm) : Tm := tm.map fun p => (p.1, p.2.map (simS kn))
theorem getT_simT (kn : Kn) : ∀ (tm : Tm) (t : Nat), getT (simT kn tm) t = (getT tm t).map (simS kn)
 | [], _ => rfl
 | (k, v) :: l, t => by
  simp only [simT, List.map_cons, getT]
  split
  ·rfl
  ·exact getT_simT kn l t
theorem evS_simT (kn : Kn) (tm : Tm) : ∀ (x : Operand) (s : Sy), evS (simT kn tm) x = some s → ∃ s0, evS tm x = some s0 ∧ (s = s0 ∨ s = simS kn s0)
 | .tmp t, s, h => by
  simp only [evS, getT_simT] at h ⊢
  obtain ⟨y, hy, e⟩ := Option.map_eq_some_iff.1 h
  exact ⟨y, hy, .inr e.symm⟩
 | .const v, s, h => ⟨s, h, .inl rfl⟩
 | .global g, s, h => ⟨s, h, .inl rfl⟩
 | .func f, s, h => ⟨s, h, .inl rfl⟩
def Tm.at (ρ : Env) (tm : Tm) (ev : Operand → Value) : Prop := ∀ x s, evS tm x = some s → ev x = s.den ρ
theorem simT_at {ρ : Env} {kn : Kn} {tm : Tm} {ev : Operand → Value} (ht : Tm.at ρ tm ev) (hk : Kn.holds ρ kn) : Tm.at ρ (simT kn tm) ev := by
 intro x s h
 obtain ⟨s0, h0, h1⟩ := evS_simT kn tm x s h
 rcases h1 with h1 | h1
 ·subst h1; exact ht x _ h0
 ·subst h1; rw [simS_den hk]; exact ht x s0 h0
theorem evsS_den {ρ : Env} {tm : Tm} {ev : Operand → Value} (ht : Tm.at ρ tm ev) : ∀ (l : List Operand) (r : List Sy), evsS tm l = some r → l.map ev = Sy.dens ρ r
 | [], r, h => by obtain rfl := Option.some.inj h; rfl
 | x :: l, r, h => by
  simp only [evsS] at h
  split at h
  ·rename_i s r' hs hr
   obtain rfl := Option.some.inj h
   simp [Sy.dens, ht x s hs, evsS_den ht l r' hr]
  ·cases h
def fillS (pl : Nat → Option (Nat × Nat)) (cells : List Sy) : List (Nat × Sy) → Option (List Sy)
 | [] => some cells
 | (i, s) :: rest =>
  match pl i, s.cells with
  | some (off, n), some vs => if vs.length = n ∧ off + n ≤ cells.length then fillS pl (over cells off vs) rest else none
  | _, _ => none
def optI (tm : Tm) : Option Operand → Option (Option (IntKind × E))
 | none => some none
 | some x => match evS tm x with
  | some (.int k e) => some (some (k, e))
  | _ => none
def litO : Option (Option (IntKind × E)) → Nat → Option Nat
 | some none, d => some d
 | some (some (_, .il (.ofNat n))), _ => some n
 | _, _ => none
def evParts (tm : Tm) : List (Nat × Operand) → Option (List (Nat × Sy))
 | [] => some []
 | (i, x) :: l => match evS tm x, evParts tm l with
  | some s, some r => some ((i, s) :: r)
  | _, _ => none
def byteOf : Sy → Option E
 | .int .u8 e => some e
 | _ => none
theorem byteOf_eq {s : Sy} {e : E} (h : byteOf s = some e) : s = .int .u8 e := by
 unfold byteOf at h
 split at h
 ·obtain rfl := Option.some.inj h; rfl
 ·cases h
def catE : List Sy → Option E
 | [] => some (.tl [])
 | s :: l => match byteOf s, l with
  | some e, [] => some (.un .chr e)
  | some e, _ => (catE l).map fun r => .bin .cat (.un .chr e) r
  | none, _ => none
def nilS (P : Program) (tm : Tm) (op : BinOp) (t : TypeId) (x y : Operand) : Option (List E × Sy) :=
 match op, P.underlying t, evS tm x, y with
 | .eql, some (.interface _), some (.var n), .const .nilIface => some ([.vk n], .bool (.vn n))
 | .neq, some (.interface _), some (.var n), .const .nilIface => some ([.vk n], .bool (.un .not (.vn n)))
 | .eql, some (.slice _), some (.slc a _ _), .const (.slice none 0 0) => some ([], .bool (.un .not (.sm a)))
 | .neq, some (.slice _), some (.slc a _ _), .const (.slice none 0 0) => some ([], .bool (.sm a))
 | _, _, _, _ => none
theorem run_equalIn_slnil {t el : TypeId} (hu : P.underlying t = some (.slice el)) (d : Nat) (a : Option Addr) (n c : Nat) (w : World) :
  (Op.equalIn (d + 1) t (.slice a n c) (.slice none 0 0)).run P w = .ok (!a.isSome) w := by
 cases a <;> simp [Op.equalIn, run_underlying hu]
theorem run_equalIn_nil {t : TypeId} {ms : Array (String × TypeId)} (hu : P.underlying t = some (.interface ms)) (d : Nat) (v : Value) (hk : isIfcV v = true) (w : World) :
  (Op.equalIn (d + 1) t v .nilIface).run P w = .ok (isNilV v) w := by
 cases v <;> simp only [isIfcV] at hk <;> try (cases hk; done)
 ·simp [Op.equalIn, run_underlying hu, isNilV]
 ·simp [Op.equalIn, run_underlying hu, isNilV]
theorem run_nilS {ρ : Env} {tm : Tm} {ev : Operand → Value} (ht : Tm.at ρ tm ev) {op : BinOp} {t : TypeId} {x y : Operand} {cs : List E} {s : Sy} (h : nilS P tm op t x y = some (cs, s)) (hc : allB ρ cs) (w : World) :
  (do eqGuard op t x y (ev x) (ev y); binOp op t (ev x) (ev y) : Sem Value).run P w = .ok (s.den ρ) w := by
 have e2 : ev (.const .nilIface) = .nilIface := by have := ht (.const .nilIface) (ofVal .nilIface) rfl; rw [ofVal_den] at this; exact this
 unfold nilS at h
 split at h
 ·rename_i ms n hu hx
  obtain ⟨rfl, rfl⟩ := Prod.mk.inj (Option.some.inj h)
  have e1 := ht _ _ hx
  have hk := hc.1
  simp only [E.b, Sy.den] at hk e1 ⊢
  rw [e1, e2]
  generalize gd ρ.V n .nilIface = v at *
  have h1 := run_equalIn_nil (P := P) hu 9999 v hk w
  have h2 : (eqGuard .eql t x (.const .nilIface) v .nilIface).run P w = .ok () w := by cases v <;> simp [eqGuard]
  have h3 : (binOp .eql t v .nilIface) = (do return .bool (← Op.equal t v .nilIface)) := by cases v <;> first | rfl | (simp only [isIfcV] at hk; cases hk)
  simp only [Sem.run_bind, h2, h3, Result.andThen_ok, Op.equal, Op.maxDepth, h1, Sem.run_pure]
 ·rename_i ms n hu hx
  obtain ⟨rfl, rfl⟩ := Prod.mk.inj (Option.some.inj h)
  have e1 := ht _ _ hx
  have hk := hc.1
  simp only [E.b, Sy.den] at hk e1 ⊢
  rw [e1, e2]
  generalize gd ρ.V n .nilIface = v at *
  have h1 := run_equalIn_nil (P := P) hu 9999 v hk w
  have h2 : (eqGuard .neq t x (.const .nilIface) v .nilIface).run P w = .ok () w := by cases v <;> simp [eqGuard]
  have h3 : (binOp .neq t v .nilIface) = (do return .bool (!(← Op.equal t v .nilIface))) := by cases v <;> first | rfl | (simp only [isIfcV] at hk; cases hk)
  simp only [Sem.run_bind, h2, h3, Result.andThen_ok, Op.equal, Op.maxDepth, h1, Sem.run_pure]
 ·rename_i el a n c hu hx
  obtain ⟨rfl, rfl⟩ := Prod.mk.inj (Option.some.inj h)
  have e1 := ht _ _ hx
  have e3 : ev (.const (.slice none 0 0)) = .slice none 0 0 := by have := ht (.const (.slice none 0 0)) (ofVal (.slice none 0 0)) rfl; rw [ofVal_den] at this; exact this
  simp only [E.b, Sy.den] at e1 ⊢
  rw [e1, e3]
  have h1 := run_equalIn_slnil (P := P) hu 9999 (gd ρ.A a none) (n.i ρ).toNat (c.i ρ).toNat w
  have h2 : (eqGuard .eql t x (.const (.slice none 0 0)) (.slice (gd ρ.A a none) (n.i ρ).toNat (c.i ρ).toNat) (.slice none 0 0)).run P w = .ok () w := by simp [eqGuard]
  have h3 : (binOp .eql t (.slice (gd ρ.A a none) (n.i ρ).toNat (c.i ρ).toNat) (.slice none 0 0)) = (do return .bool (← Op.equal t (.slice (gd ρ.A a none) (n.i ρ).toNat (c.i ρ).toNat) (.slice none 0 0))) := rfl
  simp only [Sem.run_bind, h2, h3, Result.andThen_ok, Op.equal, Op.maxDepth, h1, Sem.run_pure]
 ·rename_i el a n c hu hx
  obtain ⟨rfl, rfl⟩ := Prod.mk.inj (Option.some.inj h)
  have e1 := ht _ _ hx
  have e3 : ev (.const (.slice none 0 0)) = .slice none 0 0 := by have := ht (.const (.slice none 0 0)) (ofVal (.slice none 0 0)) rfl; rw [ofVal_den] at this; exact this
  simp only [E.b, Sy.den] at e1 ⊢
  rw [e1, e3]
  have h1 := run_equalIn_slnil (P := P) hu 9999 (gd ρ.A a none) (n.i ρ).toNat (c.i ρ).toNat w
  have h2 : (eqGuard .neq t x (.const (.slice none 0 0)) (.slice (gd ρ.A a none) (n.i ρ).toNat (c.i ρ).toNat) (.slice none 0 0)).run P w = .ok () w := by simp [eqGuard]
  have h3 : (binOp .neq t (.slice (gd ρ.A a none) (n.i ρ).toNat (c.i ρ).toNat) (.slice none 0 0)) = (do return .bool (!(← Op.equal t (.slice (gd ρ.A a none) (n.i ρ).toNat (c.i ρ).toNat) (.slice none 0 0)))) := rfl
  simp only [Sem.run_bind, h2, h3, Result.andThen_ok, Op.equal, Op.maxDepth, h1, Sem.run_pure, Bool.not_not]
 ·cases h
def xval (P : Program) (ex : Bool) (tm : Tm) (hp : List Blk) (kn : Kn) : Op → Option (List E × Sy)
 | .move x | .assign x => (evS tm x).map ([], ·)
 | .pick c a b => match evS tm c with
  | some (.bool e) => match dec kn e with
   | some true => (evS tm a).map ([], ·)
   | some false => (evS tm b).map ([], ·)
   | none => match (evS tm a).map (simS (know e true kn)), (evS tm b).map (simS (know e false kn)) with
    | some (.bool x), some (.bool y) => some ([], .bool (iteE e x y))
    | _, _ => none
  | _ => none
 | .nilCheck x => match evS tm x with
  | some (.ptr m o) => some ([], .ptr m o)
  | some (.fn f l) => some ([], .fn f l)
  | some (.elt a i z o) => some ([], .elt a i z o)
  | _ => none
 | .binOp op t x y _ => match nilS P tm op t x y with
  | some r => some r
  | none => match evS tm x, evS tm y with
   | some a, some b => binS P ex op t a b
   | _, _ => none
 | .unOp .not _ x => match evS tm x with
  | some (.bool e) => some ([], .bool (notE e))
  | _ => none
 | .unOp .neg _ x => match evS tm x with
  | some (.int k e) => some (arithS ex k (.il 0) e (.un .neg e) (· - ·))
  | _ => none
 | .convert src dst x => match P.underlying src, P.underlying dst, evS tm x with
  | some _, some (.int k), some (.int k' e) => if k = k' ∧ ex = true then some ([.bin .le (.il k.min) e, .bin .le e (.il k.max)], .int k e) else some ([], .int k (.un (.wrap k) e))
  | some .string, some .string, some (.str e) => some ([], .str e)
  | some (.slice el), some .string, some (.slb m o n _) => match P.underlying el, findB hp m with
   | some (.int .u8), some b => if o + n ≤ b.cs.length then (catE ((b.cs.drop o).take n)).map fun e => ([], .str e) else none
   | _, _ => none
  | _, _, _ => none
 | .fieldAddr t x f => match P.underlying t, evS tm x with
  | some (.struct fs), some s => match fs[f]? with
   | some fd => match sizeT P fd.type with
    | some (_ + 1) => match s with
     | .ptr m o => some ([], .ptr m (o + fd.offset))
     | .elt a i z o => some ([], .elt a i z (o + fd.offset))
     | _ => none
    | _ => none
   | none => none
  | _, _ => none
 | .field t x f => match P.underlying t, evS tm x with
  | some (.struct fs), some (.agg cs) => match fs[f]? with
   | some fd => (partS P fd.type cs fd.offset).map ([], ·)
   | none => none
  | _, _ => none
 | .index t x i => match P.underlying t, evS tm x, evS tm i with
  | some .string, some (.str s), some (.int _ e) => some ([.bin .le (.il 0) e, .bin .lt e (.un .len s)], .int .u8 (.bin .byte s e))
  | some (.array n el), some (.agg cs), some (.int _ (.il j)) => match sizeT P el with
   | some z => if 0 ≤ j ∧ j < n then (partS P el cs (j.toNat * z)).map ([], ·) else none
   | none => none
  | _, _, _ => none
 | .indexAddr t x i => match P.underlying t, evS tm x, evS tm i with
  | some (.slice el), some (.slc a n _), some (.int _ e) => match sizeT P el with
   | some z => if isNat n then some ([.sm a, .bin .le (.il 0) e, .bin .lt e n], .elt a e z 0) else none
   | none => none
  | some (.slice el), some (.slb m o n _), some (.int _ (.il j)) => match sizeT P el with
   | some z => if 0 ≤ j ∧ j < n then some ([], .ptr m (o + j.toNat * z)) else none
   | none => none
  | some (.array n el), some (.ptr m o), some (.int _ (.il j)) => match sizeT P el with
   | some z => if 0 ≤ j ∧ j < n then some ([], .ptr m (o + j.toNat * z)) else none
   | none => none
  | _, _, _ => none
 | .extract x i => match evS tm x with
  | some (.tup l) => (l[i]?).map ([], ·)
  | _ => none
 | .load t x => match evS tm x with
  | some (.ptr m o) => match findB hp m with
   | some b => (ldS P t b.cs o).map ([], ·)
   | none => none
  | _ => none
 | .slice t x lo hi none => match P.underlying t, evS tm x, optI tm lo, optI tm hi with
  | some .string, some (.str s), some l, some h =>
   some ([.bin .le (.il 0) (bdE l (.il 0)), .bin .le (bdE l (.il 0)) (bdE h (.un .len s)), .bin .le (bdE h (.un .len s)) (.un .len s)], .str (.cut s (bdE l (.il 0)) (bdE h (.un .len s))))
  | some (.array n el), some (.ptr m o), some l, some h => match sizeT P el, litO (some l) 0, litO (some h) n with
   | some z, some l, some h => if l ≤ h ∧ h ≤ n then some ([], .slb m (if n = l then o else o + l * z) (h - l) (n - l)) else none
   | _, _, _ => none
  | some (.slice el), some (.slb m o n c), some l, some h => match sizeT P el, litO (some l) 0, litO (some h) n with
   | some z, some l, some h => if l ≤ h ∧ h ≤ c then some ([], .slb m (if c = l then o else o + l * z) (h - l) (c - l)) else none
   | _, _, _ => none
  | _, _, _, _ => none
 | .makeFunc (.func f) first cap => if first.size = 0 then (evsS tm cap.toList).map fun l => ([], .fn f l) else if cap.size = 0 then (evsS tm first.toList).map fun l => ([], .bnd f l) else none
 | .makeInterface t x => match P.underlying t, evS tm x with
  | some (.interface _), _ => none
  | some _, some s => some ([], .ifc t s)
  | _, _ => none
 | .build t ps => match P.info? t, P.underlying t, evParts tm ps.toList with
  | some it, some (.struct fs), some l => match it.zero, fs.toList.mapM (fun f => (P.info? f.type).map fun i => (f.offset, i.size)) with
   | some z, some pl => (fillS (fun i => pl[i]?) (z.cells.toList.map ofCell) l).map fun cs => ([], .agg cs)
   | _, _ => none
  | some it, some (.array _ el), some l => match it.zero, P.info? el with
   | some z, some ie => (fillS (fun i => some (i * ie.size, ie.size)) (z.cells.toList.map ofCell) l).map fun cs => ([], .agg cs)
   | _, _ => none
  | _, _, _ => none
 | .call { callee := .builtin .len, args := args, argTypes := ts } => match ts[0]?, args[0]? with
  | some t, some x => match P.underlying t, evS tm x with
   | some .string, some (.str s) => some ([], .int .i64 (.un .len s))
   | some (.slice _), some (.slc _ n _) => if isNat n then some ([], .int .i64 n) else none
   | some (.slice _), some (.slb _ _ n _) => some ([], .int .i64 (.il n))
   | some (.slice _), some .nils => some ([], .int .i64 (.il 0))
   | _, _ => none
  | _, _ => none
 | .call { callee := .builtin .max, args := args, argTypes := _ } => match args.toList with
  | [x, y] => match evS tm x, evS tm y with
   | some (.int k a), some (.int _ b) => some ([], .int k (.bin .max a b))
   | _, _ => none
  | _ => none
 | _ => none
theorem optI_den {ρ : Env} {tm : Tm} {ev : Operand → Value} (ht : Tm.at ρ tm ev) {x : Option Operand} {r : Option (IntKind × E)} (h : optI tm x = some r) :
  x.map ev = r.map fun p => .int p.1 (p.2.i ρ) := by
 unfold optI at h
 split at h
 ·obtain rfl := Option.some.inj h; rfl
 ·split at h
  ·rename_i hx
   obtain rfl := Option.some.inj h
   simp [ht _ _ hx, Sy.den]
  ·cases h
theorem litO_ev {ρ : Env} {tm : Tm} {ev : Operand → Value} (ht : Tm.at ρ tm ev) {x : Option Operand} {d l : Nat} (h : litO (optI tm x) d = some l) : (x = none ∧ l = d) ∨ ∃ k, x.map ev = some (.int k (l : Int)) := by
 unfold litO at h
 split at h
 ·rename_i hx
  left
  obtain rfl := Option.some.inj h
  unfold optI at hx
  split at hx
  ·exact ⟨rfl, rfl⟩
  ·split at hx <;> cases hx
 ·rename_i k n hx
  obtain rfl := Option.some.inj h
  exact .inr ⟨k, by rw [optI_den ht hx]; simp [E.i]⟩
 ·cases h
theorem evParts_den {ρ : Env} {tm : Tm} {ev : Operand → Value} (ht : Tm.at ρ tm ev) : ∀ (l : List (Nat × Operand)) (r : List (Nat × Sy)), evParts tm l = some r →
  (l.map fun p => (p.1, ev p.2)) = r.map fun p => (p.1, p.2.den ρ)
 | [], r, h => by obtain rfl := Option.some.inj h; rfl
 | (i, x) :: l, r, h => by
  simp only [evParts] at h
  split at h
  ·rename_i s r' hs hr
   obtain rfl := Option.some.inj h
   simp [ht x s hs, evParts_den ht l r' hr]
  ·cases h
theorem foldl_set : ∀ (vs : List Value) (cells : List Value) (off j : Nat), off + j + vs.length ≤ cells.length →
  ((vs.zipIdx j).foldl (fun cs (x : Value × Nat) => cs.setIfInBounds (off + x.2) x.1) cells.toArray) = (cells.take (off + j) ++ vs ++ cells.drop (off + j + vs.length)).toArray
 | [], cells, off, j, _ => by simp
 | v :: vs, cells, off, j, h => by
  have ih := foldl_set vs (cells.set (off + j) v) off (j + 1) (by simp at h ⊢; omega)
  simp only [List.zipIdx_cons, List.foldl_cons, List.setIfInBounds_toArray]
  rw [ih]
  congr 1
  have e := list_seg_step cells (off + j) v vs (by simp at h; omega)
  simpa [Nat.add_assoc] using e
theorem fillS_den {ρ : Env} (hg : ρ.good) (pl : Nat → Option (Nat × Nat)) :
  ∀ (l : List (Nat × Sy)) (cells r : List Sy), fillS pl cells l = some r →
  Instr.fill pl (Sy.dens ρ cells).toArray (l.map fun p => (p.1, p.2.den ρ)) = some (Sy.dens ρ r).toArray
 | [], cells, r, h => by obtain rfl := Option.some.inj h; rfl
 | (i, s) :: l, cells, r, h => by
  simp only [fillS] at h
  split at h
  ·rename_i off n vs hf hv
   split at h
   ·rename_i hl
    obtain ⟨h1, h2⟩ := Sy.cells_den hg hv
    have ih := fillS_den hg pl l _ r h
    simp only [List.map_cons, Instr.fill, hf, h1]
    have hsz : (Sy.dens ρ vs).toArray.size = n := by simp [Sy.dens_eq, hl.1]
    have hcz : (Sy.dens ρ cells).toArray.size = cells.length := by simp [Sy.dens_eq]
    rw [if_neg (by rw [hsz, hcz]; simp; exact hl.2)]
    rw [← ih, over_den, ← Array.foldl_toList, Array.toList_zipIdx]
    congr 1
    have := foldl_set (Sy.dens ρ vs) (Sy.dens ρ cells) off 0 (by simp [Sy.dens_eq]; omega)
    simpa [Sy.dens_eq] using this
   ·cases h
  ·cases h
theorem inj2 {α β : Type} {a a' : α} {b b' : β} (h : some (a, b) = some (a', b')) : a = a' ∧ b = b' := Prod.mk.inj (Option.some.inj h)
theorem map_inj {x : Option Sy} {cs : List E} {s : Sy} (h : x.map (fun y => (([] : List E), y)) = some (cs, s)) : cs = [] ∧ x = some s := by
 cases x <;> simp at h
 exact ⟨h.1, by rw [h.2]⟩
theorem catE_bytes {ρ : Env} : ∀ (l : List Sy) (e : E), catE l = some e → ∃ bs : List Int, Sy.dens ρ l = bs.map (fun n => Value.int .u8 n) ∧ (e.t ρ).data.toList = bs.map fun n => UInt8.ofNat n.toNat
 | [], e, h => by
  simp only [catE] at h
  obtain rfl := Option.some.inj h
  exact ⟨[], rfl, by simp [E.t]⟩
 | s :: l, e, h => by
  simp only [catE] at h
  split at h
  ·rename_i x hx
   have := byteOf_eq hx
   subst this
   obtain rfl := Option.some.inj h
   exact ⟨[x.i ρ], by simp [Sy.dens, Sy.den], by simp [E.t]⟩
  ·rename_i x hx _
   have := byteOf_eq hx
   subst this
   obtain ⟨r, hr, rfl⟩ := Option.map_eq_some_iff.1 h
   obtain ⟨bs, h1, h2⟩ := catE_bytes _ r hr
   refine ⟨x.i ρ :: bs, by rw [Sy.dens, h1]; simp [Sy.den], ?_⟩
   simp only [E.t, ByteArray.data_append, Array.toList_append, h2]
   simp
  ·cases h
theorem foldl_pushes : ∀ (bs : List Int) (s0 : ByteArray), (bs.foldl (fun r n => r.push (UInt8.ofNat n.toNat)) s0).data.toList = s0.data.toList ++ bs.map fun n => UInt8.ofNat n.toNat
 | [], s0 => by simp
 | b :: bs, s0 => by
  rw [List.foldl_cons, foldl_pushes bs]
  simp [ByteArray.push]
set_option maxHeartbeats 1000000 in
theorem xval_ok {ρ : Env} {ex : Bool} {tm : Tm} {hp : List Blk} {kn : Kn} {ev : Operand → Value} {w : World} {o : Oper} {cs : List E} {s : Sy} (hx : xval P ex tm hp kn o.op = some (cs, s))
  (hg : ρ.good) (ht : Tm.at ρ tm ev) (hb : ∀ b ∈ hp, b.at ρ w) (hk : Kn.holds ρ kn) (hc : allB ρ cs) : (execOp ev o).run P w = .ok (.value (s.den ρ)) w := by
 obtain ⟨dst, op, ty, pos, after, guard⟩ := o
 dsimp only at hx
 cases op <;> (try simp only [xval] at hx) <;> try (cases hx; done)
 case move x =>
  obtain ⟨rfl, hy⟩ := map_inj hx
  simp [execOp, ht _ _ hy]
 case assign x =>
  obtain ⟨rfl, hy⟩ := map_inj hx
  simp [execOp, ht _ _ hy]
 case pick c a b =>
  split at hx
  ·rename_i e he
   split at hx
   ·rename_i hd
    obtain ⟨rfl, hy⟩ := map_inj hx
    simp [execOp, ht _ _ he, Sy.den, dec_ok hk e hd, ht _ _ hy, asBool]
   ·rename_i hd
    obtain ⟨rfl, hy⟩ := map_inj hx
    simp [execOp, ht _ _ he, Sy.den, dec_ok hk e hd, ht _ _ hy, asBool]
   ·split at hx
    ·rename_i x y hxa hyb
     obtain ⟨rfl, rfl⟩ := inj2 hx
     obtain ⟨sa, hsa, ha⟩ := Option.map_eq_some_iff.1 hxa
     obtain ⟨sb, hsb, hb'⟩ := Option.map_eq_some_iff.1 hyb
     cases hce : e.b ρ
     ·have h1 := simS_den (know_ok e hk hce) sb
      rw [hb'] at h1
      simp [execOp, ht _ _ he, Sy.den, asBool, hce, ht _ _ hsb, ← h1, iteE_b]
     ·have h1 := simS_den (know_ok e hk hce) sa
      rw [ha] at h1
      simp [execOp, ht _ _ he, Sy.den, asBool, hce, ht _ _ hsa, ← h1, iteE_b]
    ·cases hx
  ·cases hx
 case nilCheck x =>
  split at hx
  ·rename_i he
   obtain ⟨rfl, rfl⟩ := inj2 hx
   simp [execOp, ht _ _ he, Sy.den]
  ·rename_i he
   obtain ⟨rfl, rfl⟩ := inj2 hx
   simp [execOp, ht _ _ he, Sy.den]
  ·rename_i he
   obtain ⟨rfl, rfl⟩ := inj2 hx
   simp [execOp, ht _ _ he, Sy.den]
  ·cases hx
 case binOp op t x y yt =>
  split at hx
  ·rename_i r hr
   obtain rfl := Option.some.inj hx
   have := run_nilS ht hr hc w
   simp only [execOp, Sem.run_bind, Sem.run_pure] at this ⊢
   rw [this]; rfl
  split at hx
  ·rename_i a b ha hb'
   have := run_binS hx hc x y w
   simp only [execOp, ht _ _ ha, ht _ _ hb', Sem.run_bind, Sem.run_pure] at this ⊢
   rw [this]; rfl
  ·cases hx
 case unOp op t x =>
  cases op <;> (try simp only at hx) <;> try (cases hx; done)
  ·split at hx
   ·rename_i k e he
    have := arithS_den (ρ := ρ) (Option.some.inj hx) (by simp [E.i]) hc
    simp [execOp, ht _ _ he, Sy.den, Op.unary, Op.intArith, this, E.i]
   ·cases hx
  ·split at hx
   ·rename_i e he
    obtain ⟨rfl, rfl⟩ := inj2 hx
    simp [execOp, ht _ _ he, Sy.den, Op.unary, notE_b]
   ·cases hx
 case convert src dst x =>
  split at hx
  ·rename_i d k k' e hs hd he
   split at hx
   ·rename_i hke
    obtain ⟨rfl, rfl⟩ := inj2 hx
    obtain ⟨rfl, _⟩ := hke
    have h1 := of_decide_eq_true hc.1
    have h2 := of_decide_eq_true hc.2.1
    simp only [E.i] at h1 h2
    have := wrap_in k _ h1 h2
    cases d <;> simp [execOp, ht _ _ he, Sy.den, convert, run_underlying hs, run_underlying hd, Conv.intToInt, this]
   ·obtain ⟨rfl, rfl⟩ := inj2 hx
    cases d <;> simp [execOp, ht _ _ he, Sy.den, convert, run_underlying hs, run_underlying hd, Conv.intToInt, E.i]
  ·rename_i e hs hd he
   obtain ⟨rfl, rfl⟩ := inj2 hx
   simp [execOp, ht _ _ he, Sy.den, convert, run_underlying hs, run_underlying hd]
  ·rename_i el m o n c hs hd he
   split at hx
   ·rename_i b hu hf
    split at hx
    ·rename_i hl
     cases hr : catE ((b.cs.drop o).take n) with
     | none => simp [hr] at hx
     | some e =>
      simp only [hr, Option.map_some] at hx
      obtain ⟨rfl, rfl⟩ := inj2 hx
      obtain ⟨bs, h1, h2⟩ := catE_bytes (ρ := ρ) _ e hr
      obtain ⟨hm, rfl⟩ := findB_mem hf
      have hat := hb b hm
      unfold Blk.at at hat
      have hlen : bs.length = n := by
       have := congrArg List.length h1
       simp [Sy.dens_eq] at this
       omega
      have h3 := run_bytesToString (P := P) w ⟨gd ρ.M b.m 0, o, none⟩ n c bs (by
       have := run_loadCells_list (P := P) w ⟨gd ρ.M b.m 0, o, none⟩ (bs.map (fun n => Value.int .u8 n)) (fun j v hj => by
        rw [add_none]
        have hjn : j < n := by
         rcases Nat.lt_or_ge j n with h3 | h3
         ·exact h3
         ·rw [List.getElem?_eq_none (by simp; omega)] at hj; cases hj
        rw [← h1, dens_getElem?, List.getElem?_take, if_pos hjn, List.getElem?_drop] at hj
        simp [World.cell?, hat, dens_getElem?, hj])
       rwa [List.length_map, hlen] at this)
      have h4 : e.t ρ = bs.foldl (fun r n => r.push (UInt8.ofNat n.toNat)) ByteArray.empty := by
       apply ByteArray.ext
       apply Array.ext'
       rw [h2, foldl_pushes]; simp
      have h5 : (convert src dst (.slice (some ⟨gd ρ.M b.m 0, o, none⟩) n c)).run P w = .ok (.string (e.t ρ)) w := by
       simp only [convert, Sem.run_bind, run_underlying hs, run_underlying hd, Result.andThen_ok, run_underlying hu, h3, h4]
      simp [execOp, ht _ _ he, Sy.den, h5]
    ·cases hx
   ·cases hx
  ·cases hx
 case fieldAddr t x f =>
  split at hx
  ·rename_i fs s' hu he
   split at hx
   ·rename_i fd hfd
    split at hx
    ·rename_i n hn
     split at hx
     ·obtain ⟨rfl, rfl⟩ := inj2 hx
      simp [execOp, ht _ _ he, Sy.den, Instr.fieldAt, run_underlying hu, hfd, Instr.sureAddr, fieldPlace, run_sizeT hn, add_none]
     ·obtain ⟨rfl, rfl⟩ := inj2 hx
      simp [execOp, ht _ _ he, Sy.den, Instr.fieldAt, run_underlying hu, hfd, Instr.sureAddr, fieldPlace, run_sizeT hn, add_add, Nat.add_assoc]
     ·cases hx
    ·cases hx
   ·cases hx
  ·cases hx
 case field t x f =>
  split at hx
  ·rename_i fs cs' hu he
   split at hx
   ·rename_i fd hfd
    obtain ⟨rfl, hy⟩ := map_inj hx
    have := run_partS (ρ := ρ) hy w
    simp [execOp, ht _ _ he, Sy.den, Instr.field, run_underlying hu, hfd, this, asAgg]
   ·cases hx
  ·cases hx
 case index t x i =>
  split at hx
  ·rename_i s' k e hu he hi
   obtain ⟨rfl, rfl⟩ := inj2 hx
   have h1 := of_decide_eq_true hc.1
   have h2 := of_decide_eq_true hc.2.1
   simp only [E.i] at h1 h2
   have := run_indexS (P := P) (ρ := ρ) t s' e k hu h1 h2 w
   simp [execOp, ht _ _ he, ht _ _ hi, Sy.den, this]
  ·rename_i n el cs' k j hu he hi
   split at hx
   ·rename_i z hz
    split at hx
    ·rename_i hj
     obtain ⟨rfl, hy⟩ := map_inj hx
     have := run_partS (ρ := ρ) hy w
     simp [execOp, ht _ _ he, ht _ _ hi, Sy.den, E.i, Instr.index, asIntOf, run_underlying hu, hj, run_sizeT hz, this]
    ·cases hx
   ·cases hx
  ·cases hx
 case indexAddr t x i =>
  split at hx
  ·rename_i el a n c k e hu he hi
   split at hx
   ·rename_i z hz
    split at hx
    ·rename_i hn
     obtain ⟨rfl, rfl⟩ := inj2 hx
     obtain ⟨g1, g2, g3, _⟩ := hc
     have h2 := of_decide_eq_true g2
     have h3 := of_decide_eq_true g3
     have h4 := isNat_i (ρ := ρ) hn
     simp only [E.i] at h2
     have h5 : e.i ρ < ((n.i ρ).toNat : Int) := by omega
     simp only [E.b] at g1
     obtain ⟨ad, had⟩ := Option.isSome_iff_exists.1 g1
     simp [execOp, ht _ _ he, ht _ _ hi, Sy.den, Instr.indexAt, asIntOf, run_underlying hu, had, h2, h3, run_sizeT hz]
     intro h6
     omega
    ·cases hx
   ·cases hx
  ·rename_i el m o n c k j hu he hi
   split at hx
   ·rename_i z hz
    split at hx
    ·rename_i hj
     obtain ⟨rfl, rfl⟩ := inj2 hx
     simp [execOp, ht _ _ he, ht _ _ hi, Sy.den, Instr.indexAt, asIntOf, run_underlying hu, hj, run_sizeT hz, E.i, add_none]
    ·cases hx
   ·cases hx
  ·rename_i n el m o k j hu he hi
   split at hx
   ·rename_i z hz
    split at hx
    ·rename_i hj
     obtain ⟨rfl, rfl⟩ := inj2 hx
     simp [execOp, ht _ _ he, ht _ _ hi, Sy.den, Instr.indexAt, asIntOf, run_underlying hu, hj, run_sizeT hz, E.i, add_none, Instr.sureAddr]
    ·cases hx
   ·cases hx
  ·cases hx
 case extract x i =>
  split at hx
  ·rename_i l he
   obtain ⟨rfl, hy⟩ := map_inj hx
   simp [execOp, ht _ _ he, Sy.den, Instr.extract, dens_getElem?, hy]
  ·cases hx
 case load t x =>
  split at hx
  ·rename_i m o he
   split at hx
   ·rename_i b hf
    obtain ⟨rfl, hy⟩ := map_inj hx
    obtain ⟨hm, rfl⟩ := findB_mem hf
    have := run_ldS (ρ := ρ) hy (hb b hm)
    simp [execOp, ht _ _ he, Sy.den, Instr.loadAt, Instr.sureAddr, this]
   ·cases hx
  ·cases hx
 case slice t x lo hi mx =>
  cases mx <;> (try simp only at hx) <;> try (cases hx; done)
  split at hx
  ·rename_i s' l h hu he hl hh
   obtain ⟨rfl, rfl⟩ := inj2 hx
   obtain ⟨g1, g2, g3, _⟩ := hc
   have h1 := of_decide_eq_true g1
   have h2 := of_decide_eq_true g2
   have h3 := of_decide_eq_true g3
   simp only [E.i] at h1 h3
   have := run_cutS (P := P) (ρ := ρ) t s' l h hu _ _ rfl rfl h1 h2 h3 w
   simp [execOp, ht _ _ he, Sy.den, optI_den ht hl, optI_den ht hh, this, E.t]
  ·rename_i n el m o l h hu he hl hh
   split at hx
   ·rename_i z l' h' hz hl' hh'
    split at hx
    ·rename_i hlh
     obtain ⟨rfl, rfl⟩ := inj2 hx
     rw [← hl] at hl'
     rw [← hh] at hh'
     have hm : P.arrayLen t = n := by simp [Program.arrayLen, hu]
     have he0 : P.elem t = el := by simp [Program.elem, hu]
     have hel : P.underlying t = some (.array (P.arrayLen t) (P.elem t)) := by rw [he0, hm]; exact hu
     have hez : sizeT P (P.elem t) = some z := by rw [he0]; exact hz
     have key : (Instr.sliceAt t (.pointer (some ⟨gd ρ.M m 0, o, none⟩)) (lo.map ev) (hi.map ev) none).run P w = .ok (.slice (some ⟨gd ρ.M m 0, if n = l' then o else o + l' * z, none⟩) (h' - l') (n - l')) w := by
      have e : (⟨gd ρ.M m 0, if n = l' then o else o + l' * z, none⟩ : Addr) = if n = l' then ⟨gd ρ.M m 0, o, none⟩ else (⟨gd ρ.M m 0, o, none⟩ : Addr).add (l' * z) := by
       split
       ·rfl
       ·rw [add_none]
      rw [e]
      rcases litO_ev ht hl' with ⟨rfl, rfl⟩ | ⟨kl, el⟩ <;> rcases litO_ev ht hh' with ⟨rfl, rfl⟩ | ⟨kh, eh⟩
      ·rw [Option.map_none, run_sliceAt_array_all w t _ hel, run_sizeT hez]; simp [Result.andThen, slicedAt, hm]
      ·rw [Option.map_none, eh, run_sliceAt_array_h w t _ hel kh _ (by omega) (by rw [hm]; omega), run_sizeT hez]; simp [Result.andThen, slicedAt, hm]
      ·rw [Option.map_none, el, run_sliceAt_array_l w t _ hel kl _ (by omega) (by rw [hm]; omega), run_sizeT hez]; simp [Result.andThen, slicedAt, hm]
      ·rw [el, eh, run_sliceAt_array_lh w t _ hel kl kh _ _ (by omega) (by omega) (by rw [hm]; omega), run_sizeT hez]; simp [Result.andThen, slicedAt, hm]
     simp only [execOp, ht _ _ he, Sy.den, Option.map_none, Sem.run_bind, key, Result.andThen_ok, Sem.run_pure, E.i, Int.toNat_natCast]
    ·cases hx
   ·cases hx
  ·rename_i el m o n c l h hu he hl hh
   split at hx
   ·rename_i z l' h' hz hl' hh'
    split at hx
    ·rename_i hlh
     obtain ⟨rfl, rfl⟩ := inj2 hx
     rw [← hl] at hl'
     rw [← hh] at hh'
     have he0 : P.elem t = el := by simp [Program.elem, hu]
     have hel : P.underlying t = some (.slice (P.elem t)) := by rw [he0]; exact hu
     have hez : sizeT P (P.elem t) = some z := by rw [he0]; exact hz
     have key : (Instr.slice t (.slice (some ⟨gd ρ.M m 0, o, none⟩) n c) (lo.map ev) (hi.map ev) none).run P w = .ok (.slice (some ⟨gd ρ.M m 0, if c = l' then o else o + l' * z, none⟩) (h' - l') (c - l')) w := by
      have e : (some (⟨gd ρ.M m 0, if c = l' then o else o + l' * z, none⟩ : Addr)) = if c = l' then some ⟨gd ρ.M m 0, o, none⟩ else (some (⟨gd ρ.M m 0, o, none⟩ : Addr)).map (·.add (l' * z)) := by
       split
       ·rfl
       ·rw [Option.map_some, add_none]
      rw [e]
      rcases litO_ev ht hl' with ⟨rfl, rfl⟩ | ⟨kl, el⟩ <;> rcases litO_ev ht hh' with ⟨rfl, rfl⟩ | ⟨kh, eh⟩
      ·rw [Option.map_none, run_slice_all w t _ _ _ hel, run_sizeT hez]; simp [Result.andThen, sliced]
      ·rw [Option.map_none, eh, run_slice_h w t _ _ _ hel kh _ (by omega) (by omega), run_sizeT hez]; simp [Result.andThen, sliced]
      ·rw [Option.map_none, el, run_slice_l w t _ _ _ hel kl _ (by omega) (by omega), run_sizeT hez]; simp [Result.andThen, sliced]
      ·rw [el, eh, run_slice_lh w t _ _ _ hel kl kh _ _ (by omega) (by omega) (by omega), run_sizeT hez]; simp [Result.andThen, sliced]
     simp only [execOp, ht _ _ he, Sy.den, Option.map_none, Sem.run_bind, run_sliceAt_slice w t _ _ _ _ hel, E.i, Int.toNat_natCast, key, Result.andThen_ok, Sem.run_pure]
    ·cases hx
   ·cases hx
  ·cases hx
 case makeFunc fn first cap =>
  cases fn <;> (try simp only at hx) <;> try (cases hx; done)
  split at hx
  ·rename_i h0
   cases hl : evsS tm cap.toList with
   | none => simp [hl] at hx
   | some l =>
    simp only [hl, Option.map_some] at hx
    obtain ⟨rfl, rfl⟩ := inj2 hx
    have h1 := evsS_den ht _ _ hl
    have h2 : first = #[] := by simpa using h0
    subst h2
    have h3 : cap.map ev = (Sy.dens ρ l).toArray := by
     rw [← h1, ← Array.toList_map]
    simp [execOp, Instr.makeFunc, Sy.den, h3]
  ·split at hx
   ·rename_i h0
    cases hl : evsS tm first.toList with
    | none => simp [hl] at hx
    | some l =>
     simp only [hl, Option.map_some] at hx
     obtain ⟨rfl, rfl⟩ := inj2 hx
     have h1 := evsS_den ht _ _ hl
     have h2 : cap = #[] := by simpa using h0
     subst h2
     have h3 : first.map ev = (Sy.dens ρ l).toArray := by
      rw [← h1, ← Array.toList_map]
     simp [execOp, Instr.makeFunc, Sy.den, h3]
   ·cases hx
 case makeInterface t x =>
  split at hx
  ·cases hx
  ·rename_i d s' hne hd he
   obtain ⟨rfl, rfl⟩ := inj2 hx
   have : P.concrete t = true := by
    unfold Program.concrete
    rw [hd]
    cases d <;> first | rfl | exact (hne _ rfl).elim
   simp [execOp, ht _ _ he, Sy.den, run_makeInterface w t _ this]
  ·cases hx
 case build t ps =>
  split at hx
  ·rename_i it fs l hit hu hl
   split at hx
   ·rename_i z pl hz hpl
    cases hf : fillS (fun i => pl[i]?) (z.cells.toList.map ofCell) l with
    | none => simp [hf] at hx
    | some r =>
     simp only [hf, Option.map_some] at hx
     obtain ⟨rfl, rfl⟩ := inj2 hx
     have h1 := fillS_den hg (fun i => pl[i]?) l _ r hf
     rw [dens_ofCell] at h1
     have h2 := evParts_den ht _ _ hl
     have h3 : P.built t (ps.map fun p => (p.1, ev p.2)).toList = some (Sy.dens ρ r).toArray := by
      unfold Program.built
      simp only [hit, hu, hz, hpl]
      rw [Array.toList_map, h2]
      simpa using h1
     have := run_build w t _ _ h3
     simp only [execOp]
     simp [this, Sy.den]
   ·cases hx
  ·rename_i it n el l hit hu hl
   split at hx
   ·rename_i z ie hz hie
    cases hf : fillS (fun i => some (i * ie.size, ie.size)) (z.cells.toList.map ofCell) l with
    | none => simp [hf] at hx
    | some r =>
     simp only [hf, Option.map_some] at hx
     obtain ⟨rfl, rfl⟩ := inj2 hx
     have h1 := fillS_den hg (fun i => some (i * ie.size, ie.size)) l _ r hf
     rw [dens_ofCell] at h1
     have h2 := evParts_den ht _ _ hl
     have h3 : P.built t (ps.map fun p => (p.1, ev p.2)).toList = some (Sy.dens ρ r).toArray := by
      unfold Program.built
      simp only [hit, hu, hz, hie]
      rw [Array.toList_map, h2]
      simpa using h1
     have := run_build w t _ _ h3
     simp only [execOp]
     simp [this, Sy.den]
   ·cases hx
  ·cases hx
 case call c =>
  obtain ⟨callee, args, ts⟩ := c
  cases callee <;> (try simp only at hx) <;> try (cases hx; done)
  rename_i bi
  cases bi <;> (try simp only at hx) <;> try (cases hx; done)
  rotate_left
  ·skip
   split at hx
   ·rename_i x y hxy
    split at hx
    ·rename_i k a k' b h1 h2
     obtain ⟨rfl, rfl⟩ := inj2 hx
     have e1 : args.map ev = #[ev x, ev y] := by rw [show args = #[x, y] from Array.toList_inj.1 hxy]; simp
     simp only [execOp, resolve, invoke, builtin, Sem.run_bind, Sem.run_pure, Result.andThen_ok, e1, ht _ _ h1, ht _ _ h2, Sy.den, run_max_int2, E.i]
     have h5 : (if b.i ρ > a.i ρ then b.i ρ else a.i ρ) = max (a.i ρ) (b.i ρ) := by split <;> omega
     simp [h5]
    ·cases hx
   ·cases hx
  split at hx
  ·rename_i t x ht0 hx0
   have e0 : (args.map ev)[0]? = some (ev x) := by simp [hx0]
   split at hx
   ·rename_i s' hu he
    obtain ⟨rfl, rfl⟩ := inj2 hx
    simp [execOp, resolve, invoke, builtin, Builtin.len_, ht0, hx0, run_underlying hu, ht _ _ he, Sy.den, E.i, goInt]
   ·rename_i el a n c hu he
    split at hx
    ·rename_i hn
     obtain ⟨rfl, rfl⟩ := inj2 hx
     have h4 := isNat_i (ρ := ρ) hn
     have h5 : max (n.i ρ) 0 = n.i ρ := by omega
     simp [execOp, resolve, invoke, builtin, Builtin.len_, ht0, hx0, run_underlying hu, ht _ _ he, Sy.den, goInt, h5]
    ·cases hx
   ·rename_i el m o n c hu he
    obtain ⟨rfl, rfl⟩ := inj2 hx
    simp [execOp, resolve, invoke, builtin, Builtin.len_, ht0, hx0, run_underlying hu, ht _ _ he, Sy.den, E.i, goInt]
   ·rename_i el hu he
    obtain ⟨rfl, rfl⟩ := inj2 hx
    simp [execOp, resolve, invoke, builtin, Builtin.len_, ht0, hx0, run_underlying hu, ht _ _ he, Sy.den, E.i, goInt]
   ·cases hx
  ·cases hx
end Go.SF
end
end
section
/- The walk that the kernel computes: symbolic values and worlds, and that they are sound. -/
section
namespace Go.SF
open Go Go.RowKit
variable {P : Program}
structure Wd where
 w : World
 I : Nat → Prop
 lt : ∀ b, I b → b < w.heap.size
structure Ext (W W' : Wd) : Prop where
 size : W.w.heap.size ≤ W'.w.heap.size
 sub : ∀ b, W.I b → W'.I b
 keep : ∀ b, W.I b → W'.w.heap[b]? = W.w.heap[b]?
 os : W'.w.os = W.w.os
 tape : W'.w.tape = W.w.tape
 output : W'.w.output = W.w.output
theorem Ext.refl (W : Wd) : Ext W W := ⟨Nat.le_refl _, fun _ h => h, fun _ _ => rfl, rfl, rfl, rfl⟩
theorem Ext.trans {A B C : Wd} (h : Ext A B) (k : Ext B C) : Ext A C :=
 ⟨Nat.le_trans h.size k.size, fun b hb => k.sub b (h.sub b hb), fun b hb => (k.keep b (h.sub b hb)).trans (h.keep b hb), k.os.trans h.os, k.tape.trans h.tape, k.output.trans h.output⟩
def NewIn (n : Nat) (W' : Wd) : Prop := ∀ b, n ≤ b → b < W'.w.heap.size → W'.I b
def Wd.all (W : Wd) : Wd := ⟨W.w, fun b => b < W.w.heap.size, fun _ h => h⟩
def Wd.but (W : Wd) (ms : List Nat) : Wd := ⟨W.w, fun b => b < W.w.heap.size ∧ b ∉ ms, fun _ h => h.1⟩
theorem Wd.all_ext (W : Wd) : Ext W W.all := ⟨Nat.le_refl _, fun b hb => W.lt b hb, fun _ _ => rfl, rfl, rfl, rfl⟩
theorem Wd.but_ext (W : Wd) {ms : List Nat} (h : ∀ b, W.I b → b ∉ ms) : Ext W (W.but ms) := ⟨Nat.le_refl _, fun b hb => ⟨W.lt b hb, h b hb⟩, fun _ _ => rfl, rfl, rfl, rfl⟩
structure Keeps (W : Wd) (w' : World) : Prop where
 os : w'.os = W.w.os
 tape : w'.tape = W.w.tape
 output : w'.output = W.w.output
 size : W.w.heap.size ≤ w'.heap.size
 keep : ∀ b, W.I b → w'.heap[b]? = W.w.heap[b]?
theorem Keeps.of_ext {W W' : Wd} (x : Ext W W') : Keeps W W'.w := ⟨x.os, x.tape, x.output, x.size, x.keep⟩
theorem Keeps.below {W : Wd} {w' : World} (h : Keeps W.all w') : Below W.w.heap.size W.w w' := ⟨h.os, h.tape, h.output, h.size, h.keep⟩
theorem Keeps.of_below {W : Wd} {w' : World} (h : Below W.w.heap.size W.w w') : Keeps W.all w' := ⟨h.os, h.tape, h.output, h.size, h.block⟩
theorem Keeps.less {V W : Wd} {w' : World} (h : Keeps W w') (e : V.w = W.w) (s : ∀ b, V.I b → W.I b) : Keeps V w' := by
 obtain ⟨v, I, lt⟩ := V
 dsimp only at e; subst e
 exact ⟨h.os, h.tape, h.output, h.size, fun b hb => h.keep b (s b hb)⟩
def CallsE (P : Program) (f : FuncId) (args : Array Value) (W : Wd) (R : Ending → World → Prop) : Prop := Calls P f args W.w fun e w' => Keeps W w' ∧ R e w'
def Ret (R : Value → World → Prop) : Ending → World → Prop := fun e w' => ∃ v, e = .returned v ∧ R v w'
def CallsI (P : Program) (f : FuncId) (args : Array Value) (W : Wd) (R : Value → World → Prop) : Prop := CallsE P f args W (Ret R)
def CallsQ (P : Program) (f : FuncId) (args : Array Value) (W : Wd) (v : Value) : Prop := CallsI P f args W.all fun u _ => u = v
theorem CallsE.mono {f : FuncId} {args : Array Value} {W : Wd} {R R' : Ending → World → Prop} (h : CallsE P f args W R) (hr : ∀ e w', Keeps W w' → R e w' → R' e w') : CallsE P f args W R' :=
 Calls.mono h fun e w' ⟨hk, hR⟩ => ⟨hk, hr e w' hk hR⟩
theorem CallsE.less {f : FuncId} {args : Array Value} {V W : Wd} {R : Ending → World → Prop} (h : CallsE P f args W R) (e : V.w = W.w) (s : ∀ b, V.I b → W.I b) : CallsE P f args V R := by
 unfold CallsE at *
 rw [e]
 exact Calls.mono h fun _ _ ⟨hk, hR⟩ => ⟨hk.less e s, hR⟩
theorem CallsI.mono {f : FuncId} {args : Array Value} {W : Wd} {R R' : Value → World → Prop} (h : CallsI P f args W R) (hr : ∀ v w', Keeps W w' → R v w' → R' v w') : CallsI P f args W R' :=
 CallsE.mono h fun _ w' hk ⟨v, he, hR⟩ => ⟨v, he, hr v w' hk hR⟩
def Env.fits (d : Env) (c : Cnt) : Prop := d.cnt = c ∧ d.good
def ExL {α : Type} : Nat → (List α → Prop) → Prop
 | 0, p => p []
 | n + 1, p => ∃ a, ExL n fun l => p (a :: l)
def ExV : Nat → (List Value → Prop) → Prop
 | 0, p => p []
 | n + 1, p => ∃ a : Value, a.oneCell' = true ∧ ExV n fun l => p (a :: l)
def ExE (c : Cnt) (p : Env → Prop) : Prop :=
 ExL c.I fun i => ExL c.N fun n => ExL c.B fun b => ExL c.T fun t => ExV c.V fun v => ExL c.A fun a => ExL c.M fun m => ExL c.L fun l => p ⟨i, n, b, t, v, a, m, l⟩
theorem ExL.out {α : Type} : ∀ {n : Nat} {p : List α → Prop}, ExL n p → ∃ l, l.length = n ∧ p l
 | 0, _, h => ⟨[], rfl, h⟩
 | n + 1, p, ⟨a, h⟩ => let ⟨l, h1, h2⟩ := ExL.out h; ⟨a :: l, by simp [h1], h2⟩
theorem ExV.out : ∀ {n : Nat} {p : List Value → Prop}, ExV n p → ∃ l, l.length = n ∧ (∀ v ∈ l, v.oneCell' = true) ∧ p l
 | 0, _, h => ⟨[], rfl, fun v hv => (by cases hv), h⟩
 | n + 1, p, ⟨a, ha, h⟩ => let ⟨l, h1, h3, h2⟩ := ExV.out h; ⟨a :: l, by simp [h1], fun v hv => (List.mem_cons.1 hv).elim (fun e => e ▸ ha) (h3 v), h2⟩
theorem ExE.out {c : Cnt} {p : Env → Prop} (h : ExE c p) : ∃ d : Env, d.fits c ∧ p d := by
 obtain ⟨i, hi, h⟩ := ExL.out h
 obtain ⟨n, hn, h⟩ := ExL.out h
 obtain ⟨b, hb, h⟩ := ExL.out h
 obtain ⟨t, ht, h⟩ := ExL.out h
 obtain ⟨v, hv, hv', h⟩ := ExV.out h
 obtain ⟨a, ha, h⟩ := ExL.out h
 obtain ⟨m, hm, h⟩ := ExL.out h
 obtain ⟨l, hl, h⟩ := ExL.out h
 exact ⟨⟨i, n, b, t, v, a, m, l⟩, ⟨by simp [Env.cnt, hi, hn, hb, ht, hv, ha, hm, hl], hv'⟩, h⟩
theorem ExL.mk {α : Type} : ∀ {l : List α} {n : Nat} {p : List α → Prop}, l.length = n → p l → ExL n p
 | [], 0, _, _, h => h
 | [], _ + 1, _, e, _ => by simp at e
 | _ :: _, 0, _, e, _ => by simp at e
 | a :: l, n + 1, p, e, h => ⟨a, ExL.mk (l := l) (by simpa using e) h⟩
theorem ExV.mk : ∀ {l : List Value} {n : Nat} {p : List Value → Prop}, l.length = n → (∀ v ∈ l, v.oneCell' = true) → p l → ExV n p
 | [], 0, _, _, _, h => h
 | [], _ + 1, _, e, _, _ => by simp at e
 | _ :: _, 0, _, e, _, _ => by simp at e
 | a :: l, n + 1, p, e, hv, h => ⟨a, hv a (List.mem_cons_self ..), ExV.mk (l := l) (by simpa using e) (fun v hv' => hv v (List.mem_cons_of_mem _ hv')) h⟩
theorem ExE.mk {c : Cnt} {p : Env → Prop} {d : Env} (hd : d.fits c) (h : p d) : ExE c p := by
 obtain ⟨rfl, hg⟩ := hd
 exact ExL.mk rfl (ExL.mk rfl (ExL.mk rfl (ExL.mk rfl (ExV.mk rfl hg (ExL.mk rfl (ExL.mk rfl (ExL.mk rfl h)))))))
inductive Seg where
 | l (k : Nat)
 | s (x : Sy)
 | z (n : E)  -- so many zeros
def Seg.den (ρ : Env) : Seg → List Value
 | .l k => gd ρ.L k []
 | .s x => [x.den ρ]
 | .z n => List.replicate (n.i ρ).toNat (.int .i64 0)
def conts (ρ : Env) (xs : List Seg) : List Value := xs.flatMap (Seg.den ρ)
structure RowS where
 v : Sy
 n : E
 e : TypeId
 sz : Nat
 xs : List Seg
def RowS.at (n0 : Nat) (ρ : Env) (r : RowS) (w : World) : Prop := w.ownsRow n0 r.e r.sz (r.v.den ρ) (r.n.i ρ).toNat (conts ρ r.xs) ∧ ∀ u ∈ conts ρ r.xs, u.oneCell' = true
def RowsAt (n0 : Nat) (ρ : Env) (rw : List RowS) (w : World) : Prop := ∀ r ∈ rw, r.at n0 ρ w
def Seg.ok (c : Cnt) : Seg → Bool
 | .l k => k < c.L
 | .s x => x.ok c
 | .z n => n.ok c
def RowS.ok (c : Cnt) (r : RowS) : Bool := r.v.ok c && r.n.ok c && r.xs.all (Seg.ok c)
def subA (a : Option Addr) (lo c sz : Nat) : Option Addr := if c = lo then a else a.map (·.add (lo * sz))
inductive Tree where
 | ret (s : Sy) (hp : List Blk) (ro : List Blk) (rw : List RowS)
 | pan (s : Sy)
 | br (c : E) (a b : Tree)
 | chk (c : E) (t : Tree)
 | new (t : Tree)
 | wr (t : Tree)
 | call (f : FuncId) (args : List Sy) (hp : List Blk) (rw : List RowS) (mu : List Blk) (res : Sy) (c : Cnt) (t : Tree)
 | callq (f : FuncId) (args : List Sy) (hp : List Blk) (rw : List RowS) (res : Sy) (c : Cnt) (t : Tree)
 | callr (f : FuncId) (args : List Sy) (hp : List Blk) (rw : List RowS) (mr : List RowS) (res : Sy) (nr : List RowS) (c : Cnt) (t : Tree)
 | frz (bs : List Blk) (t : Tree)
 | frzr (rs : List RowS) (t : Tree)
 | pre (v : Sy) (r : RowS) (k : E) (t : Tree)
 | rset (xs : List Seg) (i : E) (o z : Nat) (vs : List Sy) (t : Tree)
 | rclr (xs : List Seg) (lo n : E) (z : Nat) (zs : Array Value) (t : Tree)
 | grow (t : Tree)
 | look (ty : TypeId) (p res : Sy) (c : Cnt) (t : Tree)
 | rlook (ty : TypeId) (p res : Sy) (r : RowS) (c : Cnt) (t : Tree)
 | app (n : E) (t : Tree)
 | cells (a : Nat) (n c : E) (sz : Nat) (rw : List RowS) (t : Tree)
 | sub (a : Nat) (lo hi c : E) (sz : Nat) (t : Tree)
 | adr (a : Addr) (t : Tree)
 | newf (ty : TypeId) (cs : List Sy) (t : Tree)
 | both (a b : Tree)
 | loop (init : List Sy) (rin : List RowS) (heads : List Sy) (rhd : List RowS) (c : Cnt) (t : Tree)
 | again (n : Nat) (vals : List Sy) (rows : List RowS)
 | byt (e : E) (t : Tree)
 | join (a : Tree) (heads : List Sy) (rhd : List RowS) (c : Cnt) (t : Tree)
abbrev Lv := List (List Value → List (List Value) → Wd → Prop)
def Lv.at (L : Lv) (n : Nat) (vs : List Value) (ls : List (List Value)) (W : Wd) : Prop := match L[n]? with
 | some p => p vs ls W
 | none => False
def BlksAt (ρ : Env) (hp : List Blk) (w : World) : Prop := ∀ b ∈ hp, b.at ρ w
def blkNos (ρ : Env) (mu : List Blk) : List Nat := mu.map fun b => gd ρ.M b.m 0
def rowConts (ρ : Env) (rw : List RowS) : List (List Value) := rw.map fun r => conts ρ r.xs
def ownB (ρ : Env) (r : RowS) : Option Nat := (r.v.den ρ).ownBlock
def rowNos (ρ : Env) (rw : List RowS) : List Nat := rw.filterMap (ownB ρ)
structure RowsNew (n0 n : Nat) (ks : List Nat) (ρ : Env) (nr : List RowS) (w : World) : Prop where
 at_ : RowsAt n0 ρ nr w
 new : ∀ r ∈ nr, ∀ k, ownB ρ r = some k → n ≤ k ∨ k ∈ ks
 two : nr.Pairwise fun r q => ∀ k, ownB ρ r = some k → ownB ρ q ≠ some k
def NewBut (n : Nat) (ks : List Nat) (W' : Wd) : Prop := ∀ b, n ≤ b → b < W'.w.heap.size → b ∉ ks → W'.I b
def setL (l : List Value) (k : Nat) (vs : List Value) : List Value := l.take k ++ vs ++ l.drop (k + vs.length)
def MuApart (ρ : Env) (W : Wd) (hp mu : List Blk) : Prop := (∀ a ∈ hp, ∀ b ∈ mu, a.m ≠ b.m → gd ρ.M a.m 0 ≠ gd ρ.M b.m 0) ∧ ∀ b ∈ mu, ¬ W.I (gd ρ.M b.m 0)
theorem MuApart.ext {ρ : Env} {W : Wd} {hp mu : List Blk} (h : MuApart ρ W hp mu) : Ext W (W.but (blkNos ρ mu)) :=
 ⟨Nat.le_refl _, fun b hb => ⟨W.lt b hb, fun hm => by obtain ⟨x, hx, e⟩ := List.mem_map.1 hm; exact h.2 x hx (by rw [e]; exact hb)⟩, fun _ _ => rfl, rfl, rfl, rfl⟩
def Tree.den (P : Program) (n0 : Nat) (R : Ending → World → Prop) : Tree → Lv → Env → Wd → Prop
 | .ret s hp ro rw, _, ρ, W => BlksAt ρ hp W.w → BlksAt ρ ro W.w → RowsAt n0 ρ rw W.w → ((rw.Pairwise fun r q => ∀ k, ownB ρ r = some k → ownB ρ q ≠ some k) ∧ ∀ r ∈ rw, ∀ k, ownB ρ r = some k → ¬ W.I k) → R (.returned (s.den ρ)) W.w
 | .pan s, _, ρ, W => R (.panicked [{ v := s.den ρ, recovered := false }]) W.w
 | .br c a b, L, ρ, W => (c.b ρ = true → a.den P n0 R L ρ W) ∧ (c.b ρ = false → b.den P n0 R L ρ W)
 | .chk c t, L, ρ, W => c.b ρ = true ∧ t.den P n0 R L ρ W
 | .new t, L, ρ, W => ∀ m W', n0 ≤ m → Ext W W' → t.den P n0 R L (ρ.push { M := [m] }) W'
 | .wr t, L, ρ, W => ∀ W', Ext W W' → t.den P n0 R L ρ W'
 | .call f args hp rw mu res c t, L, ρ, W => BlksAt ρ hp W.w → MuApart ρ W hp mu → RowsAt n0 ρ rw W.w → CallsE P f (Sy.dens ρ args).toArray (W.but (blkNos ρ mu)) fun e w' => match e with
   | .returned v => ExE c fun d => v = res.den (ρ.push d) ∧ BlksAt (ρ.push d) mu w' ∧ ∀ W', W'.w = w' → Ext W W' → NewIn W.w.heap.size W' → t.den P n0 R L (ρ.push d) W'
   | .panicked ch => R (.panicked ch) w'
   | .outgrown => False
 | .callq f args hp rw res c t, L, ρ, W => ExE c fun d => (∀ W', Ext W W' → BlksAt ρ hp W'.w → RowsAt n0 ρ rw W'.w → CallsQ P f (Sy.dens ρ args).toArray W' (res.den (ρ.push d))) ∧ t.den P n0 R L (ρ.push d) W
 | .callr f args hp rw mr res nr c t, L, ρ, W => BlksAt ρ hp W.w → RowsAt n0 ρ rw W.w → CallsE P f (Sy.dens ρ args).toArray (W.but (rowNos ρ mr)) fun e w' => match e with
   | .returned v => ExE c fun d => v = res.den (ρ.push d) ∧ RowsNew n0 W.w.heap.size (rowNos ρ mr) (ρ.push d) nr w' ∧ ∀ W', W'.w = w' → Ext W W' → NewBut W.w.heap.size (rowNos (ρ.push d) nr) W' → t.den P n0 R L (ρ.push d) W'
   | .panicked ch => R (.panicked ch) w'
   | .outgrown => False
 | .frz bs t, L, ρ, W => ∀ W', W'.w = W.w → Ext W W' → (∀ b ∈ bs, n0 ≤ gd ρ.M b.m 0 → W'.I (gd ρ.M b.m 0)) → BlksAt ρ bs W'.w → t.den P n0 R L ρ W'
 | .pre v r k t, L, ρ, W => (∃ ad n c, r.v.den ρ = .slice ad n c ∧ v.den ρ = .slice ad (k.i ρ).toNat c ∧ (k.i ρ).toNat ≤ (r.n.i ρ).toNat) ∧ t.den P n0 R L (ρ.push { L := [(conts ρ r.xs).take ((k.i ρ).toNat * r.sz)] }) W
 | .frzr rs t, L, ρ, W => ∀ W', W'.w = W.w → Ext W W' → (∀ r ∈ rs, ∀ k, ownB ρ r = some k → W'.I k) → RowsAt n0 ρ rs W'.w → t.den P n0 R L ρ W'
 | .rclr xs lo n z zs t, L, ρ, W => ∀ W', Ext W W' → t.den P n0 R L (ρ.push { L := [setL (conts ρ xs) ((lo.i ρ).toNat * z) (Builtin.zeroCells zs ((n.i ρ).toNat - (lo.i ρ).toNat)).toList] }) W'
 | .rset xs i o z vs t, L, ρ, W => ∀ W', Ext W W' → t.den P n0 R L (ρ.push { L := [setL (conts ρ xs) ((i.i ρ).toNat * z + o) (Sy.dens ρ vs)] }) W'
 | .grow t, L, ρ, W => ∀ W', Ext W W' → t.den P n0 R L ρ W'
 | .look ty p res c t, L, ρ, W => ExE c fun d => (∀ W', Ext W W' → (Instr.loadAt ty (p.den ρ)).run P W'.w = .ok (res.den (ρ.push d)) W'.w) ∧ t.den P n0 R L (ρ.push d) W
 | .rlook ty p res r c t, L, ρ, W => ExE c fun d => (∀ w, r.at n0 ρ w → (Instr.loadAt ty (p.den ρ)).run P w = .ok (res.den (ρ.push d)) w) ∧ t.den P n0 R L (ρ.push d) W
 | .app n t, L, ρ, W => ∀ a c W', (0 < n.i ρ → a.isSome = true) → Ext W W' → t.den P n0 R L (ρ.push { A := [a], N := [c] }) W'
 | .cells a n c sz rw t, L, ρ, W => ∃ l, l.length = (n.i ρ).toNat * sz ∧ (∀ u ∈ l, u.oneCell' = true) ∧ (gd ρ.A a none = none → n.i ρ ≤ 0 ∧ c.i ρ ≤ 0) ∧
   (∀ ad, gd ρ.A a none = some ad → ∀ W', Ext W W' → RowsAt n0 ρ rw W'.w → ∀ j u, l[j]? = some u → W'.w.cell? (ad.add j) = some u) ∧ t.den P n0 R L (ρ.push { L := [l] }) W
 | .sub a lo hi c sz t, L, ρ, W => t.den P n0 R L (ρ.push { A := [subA (gd ρ.A a none) (lo.i ρ).toNat (c.i ρ).toNat sz], N := [(hi.i ρ).toNat - (lo.i ρ).toNat, (c.i ρ).toNat - (lo.i ρ).toNat] }) W
 | .adr a t, L, ρ, W => t.den P n0 R L (ρ.push { A := [some a] }) W
 | .both a b, L, ρ, W => a.den P n0 R L ρ W ∧ b.den P n0 R L ρ W
 | .newf ty cs t, L, ρ, W => ∀ m W', n0 ≤ m → Ext W W' → W'.I m → W'.w.heap[m]? = some (.cells (Sy.dens ρ cs).toArray ty) → t.den P n0 R L (ρ.push { A := [some ⟨m, 0, none⟩] }) W'
 | .loop init rin heads rhd c t, L, ρ, W => ∃ (Inv : Nat → List Value → List (List Value) → Wd → Prop) (n : Nat), Inv n (Sy.dens ρ init) (rowConts ρ rin) W ∧
   ∀ n vs ls W', Ext W W' → Inv n vs ls W' → ExE c fun d => Sy.dens (ρ.push d) heads = vs ∧ rowConts (ρ.push d) rhd = ls ∧
    (RowsAt n0 (ρ.push d) rhd W'.w → t.den P n0 R (L ++ [fun vs' ls' W'' => ∃ n', n' < n ∧ Inv n' vs' ls' W'']) (ρ.push d) W')
 | .again n vals rows, L, ρ, W => L.at n (Sy.dens ρ vals) (rowConts ρ rows) W
 | .byt e t, L, ρ, W => ∀ m c W', Ext W W' → W'.I m → m < W'.w.heap.size → (∀ j, j < (e.t ρ).size → W'.w.cell? ⟨m, j, none⟩ = some (.int .u8 ((e.t ρ).data.toList.getD j 0).toNat)) → (e.t ρ).size ≤ c →
   t.den P n0 R L (ρ.push { A := [some ⟨m, 0, none⟩], N := [c] }) W'
 | .join a heads rhd c t, L, ρ, W => ∃ J : List Value → List (List Value) → Wd → Prop, a.den P n0 R (L ++ [J]) ρ W ∧ ∀ vs ls W', Ext W W' → J vs ls W' → ExE c fun d => Sy.dens (ρ.push d) heads = vs ∧ rowConts (ρ.push d) rhd = ls ∧
    (RowsAt n0 (ρ.push d) rhd W'.w → t.den P n0 R L (ρ.push d) W')
def frzT : List Blk → Tree → Tree
 | [], t => t
 | b :: bs, t => .frz (b :: bs) t
def Wd.frz (W : Wd) (ms : List Nat) (h : ∀ m ∈ ms, m < W.w.heap.size) : Wd := ⟨W.w, fun b => W.I b ∨ b ∈ ms, fun b hb => hb.elim (W.lt b) (h b)⟩
theorem frzT_den {n0 : Nat} {R : Ending → World → Prop} {L : Lv} {ρ : Env} {W : Wd} {bs : List Blk} {t : Tree} (h : (frzT bs t).den P n0 R L ρ W) (hb : BlksAt ρ bs W.w) :
  ∃ W' : Wd, W'.w = W.w ∧ Ext W W' ∧ (∀ b, W'.I b → W.I b ∨ ∃ x ∈ bs, b = gd ρ.M x.m 0 ∧ n0 ≤ b) ∧ t.den P n0 R L ρ W' := by
 cases bs with
 | nil => exact ⟨W, rfl, Ext.refl W, fun b hb => .inl hb, h⟩
 | cons b0 bs =>
  have hlt : ∀ m ∈ ((b0 :: bs).map fun b => gd ρ.M b.m 0).filter (n0 ≤ ·), m < W.w.heap.size := fun m hm => by
   obtain ⟨x, hx, rfl⟩ := List.mem_map.1 (List.mem_filter.1 hm).1
   have := hb x hx
   unfold Blk.at at this
   exact (Array.getElem?_eq_some_iff.1 this).1
  refine ⟨W.frz _ hlt, rfl, ⟨Nat.le_refl _, fun b h => .inl h, fun _ _ => rfl, rfl, rfl, rfl⟩, fun b h => ?_, ?_⟩
  ·rcases h with h | h
   ·exact .inl h
   ·obtain ⟨h1, h2⟩ := List.mem_filter.1 h
    obtain ⟨x, hx, rfl⟩ := List.mem_map.1 h1
    exact .inr ⟨x, hx, rfl, of_decide_eq_true h2⟩
  ·refine h (W.frz _ hlt) rfl ⟨Nat.le_refl _, fun b h => .inl h, fun _ _ => rfl, rfl, rfl, rfl⟩ (fun b h1 h2 => .inr ?_) hb
   exact List.mem_filter.2 ⟨List.mem_map.2 ⟨b, h1, rfl⟩, decide_eq_true h2⟩
def frzR : List RowS → Tree → Tree
 | [], t => t
 | r :: l, t => .frzr (r :: l) t
theorem frzR_den {n0 : Nat} {R : Ending → World → Prop} {L : Lv} {ρ : Env} {W : Wd} {rs : List RowS} {t : Tree} (h : (frzR rs t).den P n0 R L ρ W) (hb : RowsAt n0 ρ rs W.w) :
  ∃ W' : Wd, W'.w = W.w ∧ Ext W W' ∧ (∀ b, W'.I b → W.I b ∨ ∃ r ∈ rs, ownB ρ r = some b ∧ n0 ≤ b) ∧ t.den P n0 R L ρ W' := by
 cases rs with
 | nil => exact ⟨W, rfl, Ext.refl W, fun b hb => .inl hb, h⟩
 | cons r0 rs =>
  have hin : ∀ r ∈ r0 :: rs, ∀ k, ownB ρ r = some k → n0 ≤ k ∧ k < W.w.heap.size := fun r hr k hk => World.ownsRow.lt (hb r hr).1 k hk
  have hlt : ∀ m ∈ rowNos ρ (r0 :: rs), m < W.w.heap.size := fun m hm => by
   obtain ⟨r, hr, e⟩ := List.mem_filterMap.1 hm
   exact (hin r hr m e).2
  refine ⟨W.frz _ hlt, rfl, ⟨Nat.le_refl _, fun b h => .inl h, fun _ _ => rfl, rfl, rfl, rfl⟩, fun b h => ?_, ?_⟩
  ·rcases h with h | h
   ·exact .inl h
   ·obtain ⟨r, hr, e⟩ := List.mem_filterMap.1 h
    exact .inr ⟨r, hr, e, (hin r hr b e).1⟩
  ·exact h (W.frz _ hlt) rfl ⟨Nat.le_refl _, fun b h => .inl h, fun _ _ => rfl, rfl, rfl, rfl⟩ (fun r hr k hk => .inr (List.mem_filterMap.2 ⟨r, hr, hk⟩)) hb
structure St where
 n : Nat
 tm : Tm
 hp : List Blk
 ro : List Blk
 rw : List RowS
 kn : Kn
 c : Cnt
 lp : Nat
def Sy.okO (c : Cnt) : Option Sy → Bool
 | none => true
 | some s => s.ok c
def Blk.ok (c : Cnt) (b : Blk) : Bool := b.m < c.M && Sy.oks c b.cs
def St.ok (s : St) : Bool := (s.tm.all (fun p => Sy.okO s.c p.2) && s.hp.all (Blk.ok s.c) && s.ro.all (Blk.ok s.c) && s.rw.all (RowS.ok s.c)) && s.kn.all (fun p => p.1.ok s.c)
structure Holds (N : Nat) (W0 : Wd) (ρ : Env) (s : St) (a : Act) (W : Wd) : Prop where
 cnt : ρ.cnt = s.c
 good : ρ.good
 tm : Tm.at ρ s.tm a.eval
 len : a.tmps.size = s.n
 df : a.defers = []
 hp : BlksAt ρ s.hp W.w
 ro : BlksAt ρ s.ro W.w
 rw : RowsAt N ρ s.rw W.w
 old : ∀ b ∈ s.ro, W0.I (gd ρ.M b.m 0)
 own : ∀ b ∈ s.hp, ¬ W.I (gd ρ.M b.m 0)
 rown : ∀ r ∈ s.rw, ∀ k, ownB ρ r = some k → ¬ W.I k ∧ ∀ b ∈ s.hp, gd ρ.M b.m 0 ≠ k
 nd : s.hp.Pairwise fun a b => gd ρ.M a.m 0 ≠ gd ρ.M b.m 0
 rnd : s.rw.Pairwise fun r q => ∀ k, ownB ρ r = some k → ownB ρ q ≠ some k
 kn : Kn.holds ρ s.kn
 sub : ∀ b, W.I b → W0.I b ∨ N ≤ b
 nle : N ≤ W0.w.heap.size
 ext : Ext W0 W
theorem Holds.nsz {N : Nat} {W0 : Wd} {ρ : Env} {s : St} {a : Act} {W : Wd} (h : Holds N W0 ρ s a W) : N ≤ W.w.heap.size := Nat.le_trans h.nle h.ext.size
theorem okO_push {ρ d : Env} {tm : Tm} {ev : Operand → Value} (h : Tm.at ρ tm ev) (ho : tm.all (fun p => Sy.okO ρ.cnt p.2) = true) : Tm.at (ρ.push d) tm ev := by
 intro x s hx
 cases x with
 | tmp t =>
  have h1 := h _ _ hx
  rw [h1]
  simp only [evS] at hx
  obtain ⟨p, hp, _, h2⟩ := getT_mem hx
  have := List.all_eq_true.1 ho _ hp
  rw [h2] at this
  exact (Sy.push ρ d s this).symm
 | const v => simp only [evS] at hx; obtain rfl := Option.some.inj hx; rw [ofVal_den]; have := h (.const v) _ rfl; rw [ofVal_den] at this; exact this
 | global g => simp only [evS] at hx; obtain rfl := Option.some.inj hx; exact h (.global g) _ rfl
 | func f => simp only [evS] at hx; obtain rfl := Option.some.inj hx; exact h (.func f) _ rfl
theorem Env.good_push {ρ d : Env} (h : ρ.good) (k : d.good) : (ρ.push d).good := by
 intro v hv
 rcases List.mem_append.1 hv with h1 | h1
 ·exact h v h1
 ·exact k v h1
theorem M_push {ρ d : Env} {m : Nat} (h : m < ρ.cnt.M) : gd (ρ.push d).M m 0 = gd ρ.M m 0 := gd_app _ _ _ _ h
theorem BlksAt.push {ρ d : Env} {hp : List Blk} {w : World} (h : BlksAt ρ hp w) (ho : hp.all (Blk.ok ρ.cnt) = true) : BlksAt (ρ.push d) hp w := by
 intro b hb
 have h1 := List.all_eq_true.1 ho b hb
 simp only [Blk.ok, Bool.and_eq_true] at h1
 have := h b hb
 unfold Blk.at at *
 rw [M_push (of_decide_eq_true h1.1), Sy.pushes ρ d b.cs h1.2]
 exact this
theorem conts_push {ρ d : Env} : ∀ {xs : List Seg}, xs.all (Seg.ok ρ.cnt) = true → conts (ρ.push d) xs = conts ρ xs
 | [], _ => rfl
 | x :: xs, h => by
  simp only [List.all_cons, Bool.and_eq_true] at h
  have ih := conts_push (d := d) h.2
  unfold conts at ih ⊢
  simp only [List.flatMap_cons, ih]
  congr 1
  cases x with
  | l k => simp only [Seg.ok] at h; exact gd_app _ _ _ _ (of_decide_eq_true h.1)
  | s y => simp only [Seg.ok] at h; simp only [Seg.den]; rw [Sy.push ρ d y h.1]
  | z n => simp only [Seg.ok] at h; simp only [Seg.den]; rw [(E.push ρ d n h.1).1]
theorem RowS.push {ρ d : Env} {r : RowS} (h : r.ok ρ.cnt = true) : r.v.den (ρ.push d) = r.v.den ρ ∧ r.n.i (ρ.push d) = r.n.i ρ ∧ conts (ρ.push d) r.xs = conts ρ r.xs := by
 simp only [RowS.ok, Bool.and_eq_true] at h
 exact ⟨Sy.push ρ d _ h.1.1, (E.push ρ d _ h.1.2).1, conts_push h.2⟩
theorem RowsAt.push {n0 : Nat} {ρ d : Env} {rw : List RowS} {w : World} (h : RowsAt n0 ρ rw w) (ho : rw.all (RowS.ok ρ.cnt) = true) : RowsAt n0 (ρ.push d) rw w := by
 intro r hr
 obtain ⟨h1, h2, h3⟩ := RowS.push (d := d) (List.all_eq_true.1 ho r hr)
 have := h r hr
 unfold RowS.at at *
 rw [h1, h2, h3]
 exact this
theorem ownB_push {ρ d : Env} {r : RowS} (h : r.ok ρ.cnt = true) : ownB (ρ.push d) r = ownB ρ r := by unfold ownB; rw [(RowS.push (d := d) h).1]
theorem Holds.push {N : Nat} {W0 : Wd} {ρ d : Env} {s : St} {a : Act} {W : Wd} (h : Holds N W0 ρ s a W) (ho : s.ok = true) (hd : d.good) : Holds N W0 (ρ.push d) { s with c := s.c.add d.cnt } a W := by
 simp only [St.ok, Bool.and_eq_true] at ho
 obtain ⟨⟨⟨⟨o1, o2⟩, o4⟩, o5⟩, o3⟩ := ho
 rw [← h.cnt] at o1 o2 o3 o4 o5
 have hm : ∀ b ∈ s.hp, b.m < ρ.cnt.M := fun b hb => by
  have := List.all_eq_true.1 o2 b hb
  simp only [Blk.ok, Bool.and_eq_true] at this
  exact of_decide_eq_true this.1
 have hm' : ∀ b ∈ s.ro, b.m < ρ.cnt.M := fun b hb => by
  have := List.all_eq_true.1 o4 b hb
  simp only [Blk.ok, Bool.and_eq_true] at this
  exact of_decide_eq_true this.1
 have hr : ∀ r ∈ s.rw, ownB (ρ.push d) r = ownB ρ r := fun r hr => ownB_push (List.all_eq_true.1 o5 r hr)
 refine ⟨by rw [Env.cnt_push, h.cnt], Env.good_push h.good hd, okO_push h.tm o1, h.len, h.df, h.hp.push o2, h.ro.push o4, h.rw.push o5, ?_, ?_, ?_, ?_, ?_, ?_, h.sub, h.nle, h.ext⟩
 ·intro b hb
  rw [M_push (hm' b hb)]
  exact h.old b hb
 ·intro b hb
  rw [M_push (hm b hb)]
  exact h.own b hb
 ·intro r hr1 k hk
  rw [hr r hr1] at hk
  obtain ⟨h1, h2⟩ := h.rown r hr1 k hk
  exact ⟨h1, fun b hb => by rw [M_push (hm b hb)]; exact h2 b hb⟩
 ·refine (List.Pairwise.and_mem.1 h.nd).imp ?_
  rintro x y ⟨hx, hy, hxy⟩
  rw [M_push (hm x hx), M_push (hm y hy)]
  exact hxy
 ·refine (List.Pairwise.and_mem.1 h.rnd).imp ?_
  rintro x y ⟨hx, hy, hxy⟩ k hk
  rw [hr x hx] at hk
  rw [hr y hy]
  exact hxy k hk
 ·intro p hp
  have := List.all_eq_true.1 o3 p hp
  rw [(E.push ρ d p.1 this).2.1]
  exact h.kn p hp
def putS (n : Nat) (tm : Tm) (d : Option Nat) (v : Option Sy) : Tm := match d with
 | some d => if Nat.ble (d + 1) n then (d, v) :: tm else tm
 | none => tm
theorem Holds.put {N : Nat} {W0 : Wd} {ρ : Env} {s : St} {a : Act} {W : Wd} (h : Holds N W0 ρ s a W) (d : Option Nat) (v : Value) (x : Option Sy) (hx : ∀ y, x = some y → v = y.den ρ) :
  Holds N W0 ρ { s with tm := putS s.n s.tm d x } (a.put d v) W := by
 cases d with
 | none => exact h
 | some d =>
  by_cases hd : Nat.ble (d + 1) s.n = true
  ·have hlt : d < a.tmps.size := by rw [h.len]; exact Nat.le_of_ble_eq_true hd
   have e : putS s.n s.tm (some d) x = (d, x) :: s.tm := by simp only [putS]; rw [if_pos hd]
   rw [e]
   refine ⟨h.cnt, h.good, ?_, by simp [Act.put, h.len], h.df, h.hp, h.ro, h.rw, h.old, h.own, h.rown, h.nd, h.rnd, h.kn, h.sub, h.nle, h.ext⟩
   intro o y ho
   cases o with
   | tmp t =>
    simp only [evS] at ho
    simp only [Act.put, Act.eval]
    by_cases ht : d = t
    ·subst ht
     rw [getT_same] at ho
     have : (a.tmps.setIfInBounds d v)[d]? = some v := by simp [hlt]
     simp only [Array.getD_eq_getD_getElem?, this, Option.getD_some]
     exact hx y ho
    ·rw [getT_other _ _ ht] at ho
     have := h.tm (.tmp t) y ho
     simp only [Act.eval, Array.getD_eq_getD_getElem?] at this ⊢
     rw [Array.getElem?_setIfInBounds_ne ht]
     exact this
   | const c => exact h.tm (.const c) y ho
   | global g => exact h.tm (.global g) y ho
   | func f => exact h.tm (.func f) y ho
  ·have e : putS s.n s.tm (some d) x = s.tm := by simp only [putS]; rw [if_neg hd]
   have hge : a.tmps.size ≤ d := by
    rw [h.len]
    rcases Nat.lt_or_ge d s.n with h1 | h1
    ·exact absurd (Nat.ble_eq_true_of_le h1) hd
    ·exact h1
   have e2 : a.put (some d) v = a := by
    simp only [Act.put]
    rw [Array.setIfInBounds_eq_of_size_le hge]
   rw [e, e2]
   exact h
theorem Holds.knows {N : Nat} {W0 : Wd} {ρ : Env} {s : St} {a : Act} {W : Wd} (h : Holds N W0 ρ s a W) {kn : Kn} (hk : Kn.holds ρ kn) : Holds N W0 ρ { s with kn := kn } a W :=
 ⟨h.cnt, h.good, h.tm, h.len, h.df, h.hp, h.ro, h.rw, h.old, h.own, h.rown, h.nd, h.rnd, hk, h.sub, h.nle, h.ext⟩
theorem Holds.learn {N : Nat} {W0 : Wd} {ρ : Env} {s : St} {a : Act} {W : Wd} (h : Holds N W0 ρ s a W) {e : E} {b : Bool} (he : e.b ρ = b) : Holds N W0 ρ { s with kn := know e b s.kn } a W := h.knows (know_ok e h.kn he)
theorem Holds.tms {N : Nat} {W0 : Wd} {ρ : Env} {s : St} {a : Act} {W : Wd} (h : Holds N W0 ρ s a W) {tm : Tm} (ht : Tm.at ρ tm a.eval) : Holds N W0 ρ { s with tm := tm } a W :=
 ⟨h.cnt, h.good, ht, h.len, h.df, h.hp, h.ro, h.rw, h.old, h.own, h.rown, h.nd, h.rnd, h.kn, h.sub, h.nle, h.ext⟩
end Go.SF
end
section
namespace Go.SF
open Go Go.RowKit
variable {P : Program}
def valSame : Value → Value → Bool
 | .pointer a, .pointer b => decide (a = b)
 | .nilIface, .nilIface => true
 | .nilFunc, .nilFunc => true
 | .map none, .map none => true
 | .tuple ⟨[]⟩, .tuple ⟨[]⟩ => true
 | _, _ => false
theorem valSame_eq {a b : Value} (h : valSame a b = true) : a = b := by
 unfold valSame at h
 split at h <;> first | rfl | (simp at h; done) | (simp at h; rw [h])
mutual
def Sy.same : Sy → Sy → Bool
 | .bool a, .bool b => E.same a b
 | .int k a, .int j b => Nat.beq (kindNo k) (kindNo j) && E.same a b
 | .str a, .str b => E.same a b
 | .ptr m o, .ptr n p => decide (m = n) && decide (o = p)
 | .elt a i z o, .elt b j y p => decide (a = b) && E.same i j && decide (z = y) && decide (o = p)
 | .slc a n c, .slc b m d => decide (a = b) && E.same n m && E.same c d
 | .slb a o n c, .slb b p m d => decide (a = b) && decide (o = p) && decide (n = m) && decide (c = d)
 | .nils, .nils => true
 | .val a, .val b => valSame a b
 | .var n, .var m => decide (n = m)
 | .agg l, .agg m => Sy.sames l m
 | .tup l, .tup m => Sy.sames l m
 | .fn f l, .fn g m => decide (f = g) && Sy.sames l m
 | .bnd f l, .bnd g m => decide (f = g) && Sy.sames l m
 | .ifc t s, .ifc u r => decide (t = u) && Sy.same s r
 | .when g w s, .when h v r => E.same g h && decide (w = v) && Sy.same s r
 | _, _ => false
def Sy.sames : List Sy → List Sy → Bool
 | [], [] => true
 | a :: l, b :: m => Sy.same a b && Sy.sames l m
 | _, _ => false
end
mutual
theorem Sy.same_eq : ∀ {a b : Sy}, Sy.same a b = true → a = b
 | .bool a, b, h => by cases b <;> simp only [Sy.same] at h <;> first | (rw [E.same_eq h]) | cases h
 | .int k a, b, h => by cases b <;> simp only [Sy.same, Bool.and_eq_true] at h <;> first | (rw [kindNo_inj (Nat.eq_of_beq_eq_true h.1), E.same_eq h.2]) | cases h
 | .str a, b, h => by cases b <;> simp only [Sy.same] at h <;> first | (rw [E.same_eq h]) | cases h
 | .ptr m o, b, h => by cases b <;> simp_all [Sy.same]
 | .elt a i z o, b, h => by cases b <;> simp only [Sy.same, Bool.and_eq_true] at h <;> first | (rw [of_decide_eq_true h.1.1.1, E.same_eq h.1.1.2, of_decide_eq_true h.1.2, of_decide_eq_true h.2]) | cases h
 | .slc a n c, b, h => by cases b <;> simp only [Sy.same, Bool.and_eq_true] at h <;> first | (rw [of_decide_eq_true h.1.1, E.same_eq h.1.2, E.same_eq h.2]) | cases h
 | .slb a o n c, b, h => by cases b <;> simp_all [Sy.same]
 | .nils, b, h => by cases b <;> simp_all [Sy.same]
 | .val a, b, h => by
  cases b <;> simp only [Sy.same] at h <;> try (cases h; done)
  rw [valSame_eq h]
 | .var n, b, h => by cases b <;> simp_all [Sy.same]
 | .agg l, b, h => by
  cases b <;> simp only [Sy.same] at h <;> try (cases h; done)
  rw [Sy.sames_eq h]
 | .tup l, b, h => by
  cases b <;> simp only [Sy.same] at h <;> try (cases h; done)
  rw [Sy.sames_eq h]
 | .fn f l, b, h => by
  cases b <;> simp only [Sy.same, Bool.and_eq_true] at h <;> try (cases h; done)
  rw [of_decide_eq_true h.1, Sy.sames_eq h.2]
 | .bnd f l, b, h => by
  cases b <;> simp only [Sy.same, Bool.and_eq_true] at h <;> try (cases h; done)
  rw [of_decide_eq_true h.1, Sy.sames_eq h.2]
 | .ifc t s, b, h => by
  cases b <;> simp only [Sy.same, Bool.and_eq_true] at h <;> try (cases h; done)
  rw [of_decide_eq_true h.1, Sy.same_eq h.2]
 | .when g w s, b, h => by
  cases b <;> simp only [Sy.same, Bool.and_eq_true] at h <;> try (cases h; done)
  rw [E.same_eq h.1.1, of_decide_eq_true h.1.2, Sy.same_eq h.2]
theorem Sy.sames_eq : ∀ {a b : List Sy}, Sy.sames a b = true → a = b
 | [], [], _ => rfl
 | [], _ :: _, h => by simp [Sy.sames] at h
 | _ :: _, [], h => by simp [Sy.sames] at h
 | a :: l, b :: m, h => by
  simp only [Sy.sames, Bool.and_eq_true] at h
  rw [Sy.same_eq h.1, Sy.sames_eq h.2]
end
mutual
def cellsT (P : Program) : Nat → TypeId → Cnt → Option (List Sy × Cnt)
 | 0, _, _ => none
 | d + 1, t, c =>
  match P.underlying t with
  | some .bool => some ([.bool (.bv c.B)], { c with B := c.B + 1 })
  | some (.int k) => some ([.int k (.iv c.I)], { c with I := c.I + 1 })
  | some .string => some ([.str (.tv c.T)], { c with T := c.T + 1 })
  | some (.slice _) => some ([.slc c.A (.nv c.N) (.nv (c.N + 1))], { c with A := c.A + 1, N := c.N + 2 })
  | some (.struct fs) => cellsFs P d fs.toList c
  | some (.array n el) => cellsN P d n el c
  | some (.pointer _) | some (.map _ _) | some (.func _ _ _) | some (.interface _) => some ([.var c.V], { c with V := c.V + 1 })
  | _ => none
def cellsN (P : Program) : Nat → Nat → TypeId → Cnt → Option (List Sy × Cnt)
 | _, 0, _, c => some ([], c)
 | 0, _ + 1, _, _ => none
 | d + 1, n + 1, t, c => match cellsT P d t c with
  | some (l, c') => match cellsN P d n t c' with
   | some (m, c'') => some (l ++ m, c'')
   | none => none
  | none => none
def cellsFs (P : Program) : Nat → List Field → Cnt → Option (List Sy × Cnt)
 | _, [], c => some ([], c)
 | 0, _ :: _, _ => none
 | d + 1, f :: fs, c => match cellsT P d f.type c with
  | some (l, c') => match cellsFs P d fs c' with
   | some (m, c'') => some (l ++ m, c'')
   | none => none
  | none => none
end
def shapeT (P : Program) (t : TypeId) (c : Cnt) : Option (Sy × Cnt) :=
 match P.underlying t, cellsT P 40 t c with
 | some (.struct _), some (l, c') => some (.agg l, c')
 | some (.array _ _), some (l, c') => some (.agg l, c')
 | _, some ([s], c') => some (s, c')
 | _, _ => none
def shapeTs (P : Program) : List TypeId → Cnt → Option (List Sy × Cnt)
 | [], c => some ([], c)
 | t :: ts, c => match shapeT P t c with
  | some (s, c') => match shapeTs P ts c' with
   | some (l, c'') => some (s :: l, c'')
   | none => none
  | none => none
def shapeR (P : Program) (t : TypeId) (c : Cnt) : Option (Sy × Cnt) :=
 match P.underlying t with
 | some (.tuple ts) => match shapeTs P ts.toList c with
  | some (l, c') => some (.tup l, c')
  | none => none
 | _ => shapeT P t c
def Cnt.less (c d : Cnt) : Cnt := ⟨c.I - d.I, c.N - d.N, c.B - d.B, c.T - d.T, c.V - d.V, c.A - d.A, c.M - d.M, c.L - d.L⟩
mutual
def Sy.refs : Sy → List Nat
 | .ptr m _ | .slb m _ _ _ => [m]
 | .agg l | .tup l | .fn _ l | .bnd _ l => Sy.refss l
 | .ifc _ s => s.refs
 | _ => []
def Sy.refss : List Sy → List Nat
 | [] => []
 | s :: l => s.refs ++ Sy.refss l
end
def near (hp : List Blk) (ms : List Nat) : List Blk := hp.filter fun b => ms.contains b.m
def reach (hp : List Blk) (args : List Sy) : List Blk :=
 let h1 := near hp (Sy.refss args)
 near hp (Sy.refss args ++ h1.flatMap fun b => Sy.refss b.cs)
theorem reach_at {ρ : Env} {hp : List Blk} {args : List Sy} {w : World} (h : BlksAt ρ hp w) : BlksAt ρ (reach hp args) w := fun b hb => h b (List.mem_filter.1 hb).1
def setB : List Blk → Nat → List Sy → List Blk
 | [], _, _ => []
 | b :: l, m, cs => if b.m = m then { b with cs := cs } :: l else b :: setB l m cs
def findR : List RowS → Sy → Option RowS
 | [], _ => none
 | r :: l, v => if Sy.same r.v v then some r else findR l v
def dropR : List RowS → Sy → List RowS
 | [], _ => []
 | r :: l, v => if Sy.same r.v v then l else r :: dropR l v
theorem findR_spec {Rel : RowS → RowS → Prop} (hs : ∀ a b, Rel a b → Rel b a) : ∀ {rw : List RowS} {v : Sy} {r : RowS}, findR rw v = some r → rw.Pairwise Rel →
  r ∈ rw ∧ r.v = v ∧ (dropR rw v).Sublist rw ∧ ∀ q ∈ dropR rw v, Rel r q
 | [], _, _, h, _ => by cases h
 | a :: l, v, r, h, hp => by
  simp only [findR] at h
  simp only [dropR]
  rw [List.pairwise_cons] at hp
  split at h
  ·rename_i e
   obtain rfl := Option.some.inj h
   rw [if_pos e]
   exact ⟨List.mem_cons_self .., Sy.same_eq e, List.sublist_cons_self .., hp.1⟩
  ·rename_i e
   rw [if_neg e]
   obtain ⟨i1, i2, i3, i4⟩ := findR_spec hs h hp.2
   refine ⟨List.mem_cons_of_mem _ i1, i2, i3.cons_cons _, fun q hq => ?_⟩
   rcases List.mem_cons.1 hq with e2 | e2
   ·subst e2; exact hs _ _ (hp.1 r i1)
   ·exact i4 q e2
def rowOf (P : Program) (rw : List RowS) (t : TypeId) (v : Sy) : Option (RowS × List RowS × TypeInfo) :=
 match P.underlying t with
 | some (.slice el) => match P.info? el with
  | some ie => match v with
   | .nils => some (⟨.nils, .il 0, el, ie.size, []⟩, rw, ie)
   | v => match findR rw v with
    | some r => if r.e = el ∧ r.sz = ie.size then some (r, dropR rw v, ie) else none
    | none => none
  | none => none
 | _ => none
def leE (a b : E) : E := match a, b with
 | .il x, .il y => .bl (decide (x ≤ y))
 | a, b => .bin .le a b
theorem leE_b {ρ : Env} (a b : E) : (leE a b).b ρ = leB (a.i ρ) (b.i ρ) := by
 unfold leE; split <;> rfl
def most (bytes : Nat) : Nat := if bytes = 0 then maxLen else min maxLen (140737488355328 / bytes)
theorem most_le {bytes n : Nat} (h : n ≤ most bytes) : n ≤ maxLen ∧ n * bytes ≤ 140737488355328 := by
 unfold most at h
 split at h
 ·rename_i e; subst e; exact ⟨h, by simp⟩
 ·rename_i e
  refine ⟨by omega, ?_⟩
  have h1 : n ≤ 140737488355328 / bytes := by omega
  exact (Nat.le_div_iff_mul_le (by omega)).1 h1
inductive Pos where
 | tm (t : Nat)
 | cell (m off : Nat)
 | row (t : Nat) (ty : TypeId)
 | rowc (m off : Nat) (ty : TypeId)
structure LoopCfg where
 key : Nat
 ps : List Pos
structure Cfg where
 ex : Bool := false
 fuel : Nat := 400
 loops : List LoopCfg := []
 unroll : List (Nat × Nat) := []
 inl : List FuncId := []
 mu : List (FuncId × List Nat) := []
 mus : List Nat := []
 stays : List TypeId := []
 rowT : List TypeId := []
 rwx : Bool := false
 rws : List (FuncId × (List Nat × List (Nat × TypeId × Nat))) := []
 nilR : List FuncId := []
 musR : List (Nat × List Nat) := []
 joins : List LoopCfg := []
 depth : Nat := 6
def Cfg.find : List LoopCfg → Nat → List Pos
 | [], _ => []
 | l :: ls, k => if l.key = k then l.ps else Cfg.find ls k
def Cfg.findJ : List LoopCfg → Nat → Option (List Pos)
 | [], _ => none
 | l :: ls, k => if l.key = k then some l.ps else Cfg.findJ ls k
def Cfg.lookN {α : Type} : List (Nat × α) → Nat → Option α
 | [], _ => none
 | (k, x) :: ls, f => if k = f then some x else Cfg.lookN ls f
def muOf (P : Program) (hp : List Blk) (args : List Sy) : List Nat → Cnt → Option (List Blk × Cnt)
 | [], c => some ([], c)
 | p :: ps, c => match args[p]? with
  | some (.ptr m _) => match findB hp m with
   | some b => match cellsT P 40 b.ty c with
    | some (cs, c') => match muOf P hp args ps c' with
     | some (l, c'') => some (⟨m, b.ty, cs⟩ :: l, c'')
     | none => none
    | none => none
   | none => none
  | _ => none
inductive Eff where
 | new (ty : TypeId) (cs : List Sy) (s : Sy)
 | upd (m : Nat) (cs : List Sy)
 | call (f : FuncId) (args : List Sy)
 | look (t : TypeId) (p : Sy)
 | rlook (t : TypeId) (p : Sy) (r : RowS)
 | app (r : RowS) (rest : List RowS) (k : E) (xs : List Seg) (b : Nat)
 | appf (r : RowS) (rest : List RowS) (a : Nat) (k c : E) (b : Nat)
 | sub (a : Nat) (lo hi c n : E) (sz : Nat)
 | adr (a : Addr) (n c : Nat)
 | adrE (a : Addr) (i : E) (n z : Nat)
 | rset (r : RowS) (rest : List RowS) (i : E) (o z : Nat) (vs : List Sy)
 | pan (s : Sy)
 | byt (e : E)
def rowAt : List RowS → Nat → Option RowS
 | [], _ => none
 | r :: l, a => match r.v with
  | .slc b _ _ => if b = a then some r else rowAt l a
  | _ => rowAt l a
theorem rowAt_mem : ∀ {l : List RowS} {a : Nat} {r : RowS}, rowAt l a = some r → r ∈ l
 | [], _, _, h => by cases h
 | q :: l, a, r, h => by
  simp only [rowAt] at h
  split at h
  ·split at h
   ·obtain rfl := Option.some.inj h; exact List.mem_cons_self ..
   ·exact List.mem_cons_of_mem _ (rowAt_mem h)
  ·exact List.mem_cons_of_mem _ (rowAt_mem h)
def xslice (P : Program) (s : St) (t : TypeId) (x : Operand) (lo hi mx : Option Operand) : Option Eff :=
 match mx with
 | some _ => none
 | none => match P.underlying t, evS s.tm x with
  | some (.slice el), some (.slc a n c) => match sizeT P el, optI s.tm lo, optI s.tm hi with
   | some z, some l, some h => if isNat n && isNat c then some (.sub a (bdE l (.il 0)) (bdE h n) c (match h with | some _ => c | none => n) z) else none
   | _, _, _ => none
  | some (.array n el), some (.val (.pointer (some a))) => match sizeT P el, litO (optI s.tm lo) 0, litO (optI s.tm hi) n with
   | some z, some l, some h => if l ≤ h ∧ h ≤ n then some (.adr (if n = l then a else a.add (l * z)) (h - l) (n - l)) else none
   | _, _, _ => none
  | _, _ => none
def xappend (P : Program) (s : St) (args : List Operand) (ts : List TypeId) : Option Eff :=
 match ts, args with
 | [t, t'], [x, y] => if t = t' then (match evS s.tm x, evS s.tm y with
  | some v, some u => match rowOf P s.rw t v with
   | some (r, rest, ie) => match ie.zero with
    | some z => if z.cells.size = ie.size ∧ 0 < ie.size then (match u with
     | .slb m o k _ => match findB s.hp m with
      | some b => if ((b.cs.drop o).take (k * ie.size)).length = k * ie.size ∧ ((b.cs.drop o).take (k * ie.size)).all Sy.cell then some (.app r rest (.il k) (((b.cs.drop o).take (k * ie.size)).map .s) ie.bytes) else none
      | none => none
     | .slc a k c => match findR s.rw (.slc a k c) with
      | some q => if q.e = r.e ∧ q.sz = r.sz ∧ isNat q.n && E.same q.n k then some (.app r rest k q.xs ie.bytes) else none
      | none => if isNat k && isNat c then some (.appf r rest a k c ie.bytes) else none
     | _ => none) else none
    | none => none
   | none => none
  | _, _ => none) else none
 | _, _ => none
def xcallv (P : Program) (s : St) (f : Operand) (args : List Operand) : Option Eff :=
 match evS s.tm f, evsS s.tm args with
 | some (.fn g caps), some l => match P.funcs[g]? with
  | some fn => if fn.body.isSome ∧ (fn.name == "runtime.NumGoroutine") = false then some (.call g (l ++ caps)) else none
  | none => none
 | some (.bnd g bs), some l => match P.funcs[g]? with
  | some fn => if fn.body.isSome ∧ (fn.name == "runtime.NumGoroutine") = false then some (.call g (bs ++ l)) else none
  | none => none
 | _, _ => none
def xcallE (P : Program) (s : St) (c : Call) : Option Eff :=
 match c.callee with
 | .value f => xcallv P s f c.args.toList
 | .builtin b => match b with
  | .append => xappend P s c.args.toList c.argTypes.toList
  | _ => none
 | _ => none
def nilRow (ty : TypeId) (z : Nat) : RowS := ⟨.nils, .il 0, ty, z, []⟩
def xmake (P : Program) (s : St) (t : TypeId) (l c : Operand) : Option Eff := match P.underlying t, evS s.tm l, evS s.tm c with
 | some (.slice el), some (.int _ nl), some (.int _ nc) => match P.info? el with
  | some ie => match ie.zero with
   | some (.int .i64 0) => if E.same nl nc && (isNat nl && (decide (ie.size = 1) && decide (0 < ie.bytes))) then some (.app (nilRow el 1) s.rw nl [.z nl] ie.bytes) else none
   | _ => none
  | none => none
 | _, _, _ => none
theorem xmake_is {P : Program} {s : St} {t : TypeId} {l c : Operand} {r : RowS} {rest : List RowS} {k : E} {xs : List Seg} {b : Nat} (h : xmake P s t l c = some (.app r rest k xs b)) :
  ∃ el kl nl kc ie, r = nilRow el 1 ∧ rest = s.rw ∧ k = nl ∧ xs = [.z nl] ∧ P.underlying t = some (.slice el) ∧ evS s.tm l = some (.int kl nl) ∧ evS s.tm c = some (.int kc nl) ∧ P.info? el = some ie ∧ ie.zero = some (.int .i64 0) ∧ ie.size = 1 ∧ b = ie.bytes := by
 unfold xmake at h
 split at h
 ·rename_i el kl nl kc nc hu hl hc
  split at h
  ·rename_i ie hie
   split at h
   ·rename_i hz
    split at h
    ·rename_i e
     simp only [Bool.and_eq_true, decide_eq_true_eq] at e
     have e0 := E.same_eq e.1
     subst e0
     have e := Option.some.inj h
     injection e with e1 e2 e3 e4 e5
     exact ⟨el, kl, nl, kc, ie, e1.symm, e2.symm, e3.symm, e4.symm, hu, hl, hc, hie, hz, by simp_all, e5.symm⟩
    ·cases h
   ·cases h
  ·cases h
 ·cases h
theorem xmake_app {P : Program} {s : St} {t : TypeId} {l c : Operand} {e : Eff} (h : xmake P s t l c = some e) : ∃ r rest k xs b, e = .app r rest k xs b := by
 unfold xmake at h
 (repeat' split at h) <;> first | (cases h; done) | (obtain rfl := (Option.some.inj h).symm; exact ⟨_, _, _, _, _, rfl⟩)
def xeff (P : Program) (s : St) (o : Op) : Option Eff :=
 match o with
 | .alloc t => match (P.info? t).bind (·.zero) with
  | some z => some (.new t (z.cells.toList.map ofCell) (.ptr s.c.M 0))
  | none => none
 | .box t x => match (evS s.tm x).bind Sy.cells with
  | some l => some (.new t l (.ptr s.c.M 0))
  | none => none
 | .buildSlice t len ps => match P.underlying t, evParts s.tm ps.toList with
  | some (.slice el), some l => match P.info? el with
   | some ie => match ie.zero with
    | some z => if len * ie.size ≤ 16777216 then (fillS (fun i => some (i * ie.size, ie.size)) (((Array.range (len * ie.size)).map (z.cells[· % z.cells.size]!)).toList.map ofCell) l).map fun cs => .new el cs (.slb s.c.M 0 len len) else none
    | none => none
   | none => none
  | _, _ => none
 | .makeSlice t l c => match P.underlying t, litO (optI s.tm (some l)) 0, litO (optI s.tm (some c)) 0 with
  | some (.slice el), some n, some n' => match P.info? el with
   | some ie => match ie.zero with
    | some z => if n = n' ∧ n ≤ 100000 ∧ ie.bytes * n ≤ 100000 then some (.new el ((madeCells z.cells (n * ie.size)).toList.map ofCell) (.slb s.c.M 0 n n)) else none
    | none => none
   | none => none
  | _, _, _ => xmake P s t l c
 | .convert src dst x => match P.underlying src, P.underlying dst, evS s.tm x with
  | some .string, some (.slice el), some (.str e) => (match P.underlying el with
   | some (.int .u8) => some (.byt e)
   | _ => none)
  | _, _, _ => none
 | .store t p x => match evS s.tm p, (evS s.tm x).bind Sy.cells, sizeT P t with
  | some (.ptr m o), some vs, some n => match findB s.hp m with
   | some b => if vs.length = n ∧ o + n ≤ b.cs.length then some (.upd m (over b.cs o vs)) else none
   | none => none
  | some (.elt a i z o), some vs, some n => match rowAt s.rw a with
   | some r => match findR s.rw r.v with
    | some q => if vs.length = n ∧ o + n ≤ z ∧ q.sz = z then some (.rset q (dropR s.rw r.v) i o z vs) else none
    | none => none
   | none => none
  | _, _, _ => none
 | .load t p => match evS s.tm p with
  | some (.elt a i z o) => match rowAt s.rw a with
   | some r => some (.rlook t (.elt a i z o) r)
   | none => some (.look t (.elt a i z o))
  | some (.val (.pointer (some a))) => some (.look t (.val (.pointer (some a))))
  | some (.var n) => some (.look t (.var n))
  | _ => none
 | .slice t x lo hi mx => xslice P s t x lo hi mx
 | .indexAddr t x i => match P.underlying t, evS s.tm x, evS s.tm i with
  | some (.array n el), some (.val (.pointer (some a))), some (.int _ e) => match sizeT P el with
   | some z => some (.adrE a e n z)
   | none => none
  | _, _, _ => none
 | .panic x => match evS s.tm x with
  | some (.ifc t v) => some (.pan (.ifc t v))
  | _ => none
 | .call c => xcallE P s c
 | _ => none
def gdE (ops : Array Oper) (s : St) (o : Oper) : Option E :=
 match o.guard with
 | none => some (.bl true)
 | some (j, want) => match (ops[j]?).bind (·.dst) with
  | some d => match getT s.tm d with
   | some (.bool e) => some (litE e want)
   | some (.when g w (.bool e)) => some (bandE (litE g w) (litE e want))
   | some (.val (.tuple ⟨[]⟩)) => some (.bl false)
   | _ => none
  | none => none
def chks (kn : Kn) : List E → Tree → Tree
 | [], t => t
 | e :: l, t => if dec kn e = some true then chks kn l t else .chk e (chks kn l t)
def learns (kn : Kn) : List E → Kn
 | [] => kn
 | e :: l => learns (know e true kn) l
def undefS : Sy := .val (.tuple #[])
abbrev Inl := FuncId → List Sy → List Blk → Cnt → Option Tree
def pureT (c : Cnt) : Tree → Bool
 | .ret v _ _ _ => v.ok c
 | .br e a b => e.ok c && pureT c a && pureT c b
 | .chk e t => e.ok c && pureT c t
 | .new t | .wr t | .grow t => pureT c t
 | _ => false
def splice : Tree → St → (Sy → St → Option Tree) → Option Tree
 | .ret v _ _ _, s, k => k v s
 | .br e a b, s, k => match dec s.kn e with
  | some true => splice a s k
  | some false => splice b s k
  | none => match splice a { s with kn := know e true s.kn } k, splice b { s with kn := know e false s.kn } k with
   | some t, some u => some (.br e t u)
   | _, _ => none
 | .chk e t, s, k => (splice t { s with kn := learns s.kn [e] } k).map (chks s.kn [e])
 | .new t, s, k | .wr t, s, k | .grow t, s, k => splice t s k
 | _, _, _ => none
def useInl (inl : Inl) (f : FuncId) (args : List Sy) (s : St) : Option Tree :=
 match inl f args (s.hp ++ s.ro) s.c with
 | some t => if pureT s.c t then some t else none
 | none => none
def appSt (s : St) (d : Option Nat) (r : RowS) (rest : List RowS) (k : E) (xs : List Seg) : St :=
 let v : Sy := .slc s.c.A (addE r.n k) (.nv s.c.N)
 { s with tm := putS s.n s.tm d (some v), rw := ⟨v, addE r.n k, r.e, r.sz, r.xs ++ xs⟩ :: rest, c := s.c.add { A := 1, N := 1 } }
def subN (s : St) (lo hi : E) : E := match lo with
 | .il 0 => if isNat hi then hi else .nv s.c.N
 | _ => .nv s.c.N
def subC (s : St) (lo c : E) : E := match lo with
 | .il 0 => if isNat c then c else .nv (s.c.N + 1)
 | _ => .nv (s.c.N + 1)
def subSt (s : St) (d : Option Nat) (lo hi c : E) : St := { s with tm := putS s.n s.tm d (some (.slc s.c.A (subN s lo hi) (subC s lo c))), c := s.c.add { A := 1, N := 2 } }
def subChk (lo hi n : E) : List E := [leE (.il 0) lo, leE lo hi] ++ (if E.same hi n then [] else [leE hi n])
def replB (mu : List Blk) (b : Blk) : Blk := match findB mu b.m with
 | some b' => b'
 | none => b
def muIn (hp mu : List Blk) : Bool := mu.all fun b => match findB hp b.m with
 | some b' => decide (b'.ty = b.ty)
 | none => false
mutual
def Sy.flat : Sy → List Sy
 | .agg l | .tup l => Sy.flats l
 | s => [s]
def Sy.flats : List Sy → List Sy
 | [] => []
 | s :: l => s.flat ++ Sy.flats l
end
def newRows : List Sy → List (Nat × TypeId × Nat) → Cnt → Option (List RowS × Cnt)
 | _, [], c => some ([], c)
 | l, (i, e, sz) :: ps, c => match l[i]? with
  | some (.slc a n k) => if isNat n then (match newRows l ps { c with L := c.L + 1 } with
   | some (r, c') => some (⟨.slc a n k, n, e, sz, [.l c.L]⟩ :: r, c')
   | none => none) else none
  | _ => none
def gives : List RowS → List Sy → List Nat → Option (List RowS × List RowS)
 | rw, _, [] => some ([], rw)
 | rw, args, p :: ps => match args[p]? with
  | some .nils => gives rw args ps
  | some v => match findR rw v with
   | some r => match gives (dropR rw v) args ps with
    | some (l, rest) => some (r :: l, rest)
    | none => none
   | none => none
  | none => none
def rsetSt (s : St) (d : Option Nat) (q : RowS) (rest : List RowS) : St := { s with tm := putS s.n s.tm d (some undefS), rw := { q with xs := [.l s.c.L] } :: rest, c := s.c.add { L := 1 } }
def stayN (cf : Cfg) (c : Cnt) (ty : TypeId) : Sy → Option Nat
 | .slb m o n k => if cf.stays.contains ty && (decide (m = c.M) && (decide (o = 0) && decide (n = k))) then some n else none
 | _ => none
theorem stayN_is {cf : Cfg} {c : Cnt} {ty : TypeId} {v : Sy} {n : Nat} (h : stayN cf c ty v = some n) : v = .slb c.M 0 n n := by
 unfold stayN at h
 split at h
 ·split at h
  ·rename_i e
   simp only [Bool.and_eq_true] at e
   obtain rfl := Option.some.inj h
   rw [of_decide_eq_true e.2.1, of_decide_eq_true e.2.2.1, ← of_decide_eq_true e.2.2.2]
  ·cases h
 ·cases h
def rowN (P : Program) (cf : Cfg) (c : Cnt) (ty : TypeId) (cs : List Sy) : Sy → Option (Nat × Nat)
 | .slb m o n k => if cf.rowT.contains ty && (decide (m = c.M) && (decide (o = 0) && (decide (n = k) && (decide (n ≤ 1000000) && cs.all Sy.cell)))) then (match sizeT P ty with
  | some z => if cs.length = n * z then some (n, z) else none
  | none => none) else none
 | _ => none
theorem rowN_is {P : Program} {cf : Cfg} {c : Cnt} {ty : TypeId} {cs : List Sy} {v : Sy} {n z : Nat} (h : rowN P cf c ty cs v = some (n, z)) : v = .slb c.M 0 n n ∧ n ≤ 1000000 ∧ (∀ x ∈ cs, x.cell = true) ∧ cs.length = n * z := by
 unfold rowN at h
 split at h
 ·split at h
  ·rename_i e
   simp only [Bool.and_eq_true, decide_eq_true_eq] at e
   obtain ⟨_, rfl, rfl, rfl, e4, e5⟩ := e
   split at h
   ·split at h
    ·rename_i hl
     injection h with h
     injection h with h1 h2
     subst h1 h2
     exact ⟨rfl, e4, List.all_eq_true.1 e5, hl⟩
    ·cases h
   ·cases h
  ·cases h
 ·cases h
def adrChk (i : E) (m : Nat) : List E := [leE (.il 0) i, .bin .lt i (.il m)]
def xops (P : Program) (cf : Cfg) (inl : Inl) (ops : Array Oper) : Nat → List Oper → St → (St → Option Tree) → Option Tree
 | _, [], s, K => K s
 | 0, _ :: _, _, _ => none
 | n + 1, o :: rest, s, K =>
  match gdE ops s o with
  | none => none
  | some G => match dec s.kn G with
   | some false => xops P cf inl ops n rest { s with tm := putS s.n s.tm o.dst (some undefS) } K
   | none => match xval P cf.ex (simT (know G true s.kn) s.tm) (s.hp ++ s.ro) (know G true s.kn) o.op with
    | some (cs, v) => (xops P cf inl ops n rest { s with tm := putS s.n s.tm o.dst (some (.when G true v)), kn := learns s.kn (cs.map (borE (notE G))) } K).map (chks s.kn (cs.map (borE (notE G))))
    | none => match xops P cf inl ops n (o :: rest) { s with kn := know G true s.kn } K, xops P cf inl ops n (o :: rest) { s with kn := know G false s.kn } K with
     | some a, some b => some (.br G a b)
     | _, _ => none
   | some true => match xval P cf.ex (simT s.kn s.tm) (s.hp ++ s.ro) s.kn o.op with
    | some (cs, v) => (xops P cf inl ops n rest { s with tm := putS s.n s.tm o.dst (some v), kn := learns s.kn cs } K).map (chks s.kn cs)
    | none => match xeff P { s with tm := simT s.kn s.tm } o.op with
     | some (.new ty cs v) => match stayN cf s.c ty v with
      | some m => if s.ok && Sy.oks s.c cs then (xops P cf inl ops n rest { s with tm := putS s.n s.tm o.dst (some (.slc s.c.A (.il m) (.il m))), c := s.c.add { A := 1 } } K).map (.newf ty cs) else none
      | none => match rowN P cf s.c ty cs v with
       | some (m, z) => if s.ok && Sy.oks s.c cs then (xops P cf inl ops n rest (appSt s o.dst (nilRow ty z) s.rw (.il m) (cs.map .s)) K).map (.app (.il m)) else none
       | none => if s.ok && Sy.oks s.c cs then (xops P cf inl ops n rest { s with tm := putS s.n s.tm o.dst (some v), hp := ⟨s.c.M, ty, cs⟩ :: s.hp, c := s.c.add { M := 1 } } K).map .new else none
     | some (.upd m cs) => (xops P cf inl ops n rest { s with tm := putS s.n s.tm o.dst (some undefS), hp := setB s.hp m cs } K).map .wr
     | some (.call f args) => match useInl inl f args s with
      | some t => splice t s fun v s' => (xops P cf inl ops n rest { s' with tm := putS s'.n s'.tm o.dst (some v) } K).map .grow
      | none => match Cfg.lookN cf.rws f with
      | some (ps, qs) => match shapeR P o.type s.c with
       | some (res, c1) => match newRows (res.flat ++ Sy.flats args) qs c1, gives s.rw (Sy.flats args) ps with
        | some (nr, c'), some (mr, rw') => if s.ok then (xops P cf inl ops n rest { s with tm := putS s.n s.tm o.dst (some res), rw := nr ++ rw', c := s.c.add (c'.less s.c) } K).map (.callr f args (reach (s.hp ++ s.ro) args) s.rw mr res nr (c'.less s.c)) else none
        | _, _ => none
       | none => none
      | none => match shapeR P o.type s.c with
       | some (res, c1) => match muOf P s.hp args ((Cfg.lookN cf.mu f).getD []) c1 with
        | some (mu, c') => if s.ok && muIn s.hp mu then (xops P cf inl ops n rest { s with tm := putS s.n s.tm o.dst (some res), hp := s.hp.map (replB mu), c := s.c.add (c'.less s.c) } K).map (.call f args (reach (s.hp ++ s.ro) args) s.rw mu res (c'.less s.c)) else none
        | none => none
       | none => none
     | some (.look t p) => match shapeT P t s.c with
      | some (res, c') => if s.ok then (xops P cf inl ops n rest { s with tm := putS s.n s.tm o.dst (some res), c := s.c.add (c'.less s.c) } K).map (.look t p res (c'.less s.c)) else none
      | none => none
     | some (.rlook t p r) => match shapeT P t s.c with
      | some (res, c') => if s.ok then (xops P cf inl ops n rest { s with tm := putS s.n s.tm o.dst (some res), c := s.c.add (c'.less s.c) } K).map (.rlook t p res r (c'.less s.c)) else none
      | none => none
     | some (.app r rw k xs b) => if s.ok && isNat k && isNat r.n && k.ok s.c && xs.all (Seg.ok s.c) && r.ok s.c then (xops P cf inl ops n rest (appSt s o.dst r rw k xs) K).map fun t => chks s.kn [leE (addE r.n k) (.il (most b))] (.app (addE r.n k) t) else none
     | some (.appf r rw a k c b) => if s.ok && isNat k && isNat c && isNat r.n && k.ok s.c && c.ok s.c && a < s.c.A && r.ok s.c then
       (xops P cf inl ops n rest (appSt { s with c := s.c.add { L := 1 } } o.dst r rw k [.l s.c.L]) K).map fun t => chks s.kn [leE (addE r.n k) (.il (most b))] (.cells a k c r.sz s.rw (.app (addE r.n k) t)) else none
     | some (.sub a lo hi c m z) => if s.ok && hi.ok s.c && c.ok s.c then (xops P cf inl ops n rest (subSt s o.dst lo hi c) K).map fun t => chks s.kn (subChk lo hi m) (.sub a lo hi c z t) else none
     | some (.adr a m c) => if s.ok then (xops P cf inl ops n rest { s with tm := putS s.n s.tm o.dst (some (.slc s.c.A (.il m) (.il c))), c := s.c.add { A := 1 } } K).map (.adr a) else none
     | some (.adrE ad i m z) => if s.ok && i.ok s.c then (xops P cf inl ops n rest { s with tm := putS s.n s.tm o.dst (some (.elt s.c.A i z 0)), c := s.c.add { A := 1 }, kn := learns s.kn (adrChk i m) } K).map fun t => chks s.kn (adrChk i m) (.adr ad t) else none
     | some (.rset q rw i b z vs) => if s.ok && q.ok s.c && i.ok s.c && Sy.oks s.c vs && isNat q.n then (xops P cf inl ops n rest (rsetSt s o.dst q rw) K).map fun t => chks s.kn [leE (.il 0) i, .bin .lt i q.n] (.rset q.xs i b z vs t) else none
     | some (.pan v) => some (.pan v)
     | some (.byt e) => if s.ok && e.ok s.c then (xops P cf inl ops n rest { s with tm := putS s.n s.tm o.dst (some (.slc s.c.A (.un .len e) (.nv s.c.N))), c := s.c.add { A := 1, N := 1 } } K).map (.byt e) else none
     | none => none
theorem gdE_ok {N : Nat} {W0 : Wd} {ρ : Env} {ops : Array Oper} {s : St} {a : Act} {W : Wd} {o : Oper} {G : E} (h : Holds N W0 ρ s a W) (hg : gdE ops s o = some G) : Region.wanted o (yielded ops a.tmps) = G.b ρ := by
 unfold gdE at hg
 unfold Region.wanted
 split at hg
 ·rename_i h0
  obtain rfl := Option.some.inj hg
  rw [h0]; rfl
 ·rename_i j want h0
  rw [h0]
  show (yielded ops a.tmps j == some want) = _
  split at hg
  ·rename_i d hd
   have val : ∀ x : Sy, getT s.tm d = some x → (a.tmps[d]?).getD undef = x.den ρ := fun x hx => by
    have h1 := h.tm (.tmp d) x hx
    simpa [Act.eval, Array.getD_eq_getD_getElem?] using h1
   split at hg
   ·rename_i e he
    obtain rfl := Option.some.inj hg
    have h1 := val _ he
    simp only [Sy.den] at h1
    have h2 : a.tmps[d]? = some (.bool (e.b ρ)) := by
     cases hd' : a.tmps[d]? with
     | none => rw [hd'] at h1; cases h1
     | some v => rw [hd'] at h1; simpa using h1
    simp only [yielded, hd, Option.bind_some, h2, litE_b]
    rfl
   ·rename_i g w e he
    obtain rfl := Option.some.inj hg
    have h1 := val _ he
    simp only [Sy.den] at h1
    rw [bandE_b, litE_b, litE_b]
    by_cases hgw : g.b ρ = w
    ·rw [if_pos hgw] at h1
     have h2 : a.tmps[d]? = some (.bool (e.b ρ)) := by
      cases hd' : a.tmps[d]? with
      | none => rw [hd'] at h1; cases h1
      | some v => rw [hd'] at h1; simpa using h1
     simp only [yielded, hd, Option.bind_some, h2, hgw, beq_self_eq_true, Bool.true_and]
     rfl
    ·rw [if_neg hgw] at h1
     have h2 : yielded ops a.tmps j = none := by
      simp only [yielded, hd, Option.bind_some]
      cases hd' : a.tmps[d]? with
      | none => rfl
      | some v => rw [hd'] at h1; simp only [Option.getD_some] at h1; rw [h1]; rfl
     rw [h2]
     have h3 : (g.b ρ == w) = false := by simpa using hgw
     rw [h3]; rfl
   ·rename_i he
    obtain rfl := Option.some.inj hg
    have h1 := val _ he
    simp only [Sy.den] at h1
    have h2 : yielded ops a.tmps j = none := by
     simp only [yielded, hd, Option.bind_some]
     cases hd' : a.tmps[d]? with
     | none => rfl
     | some v => rw [hd'] at h1; simp only [Option.getD_some] at h1; rw [h1]
    rw [h2]; rfl
   ·cases hg
  ·cases hg
theorem chks_den {n0 : Nat} {R : Ending → World → Prop} {L : Lv} {ρ : Env} {W : Wd} {kn : Kn} (hk : Kn.holds ρ kn) : ∀ {cs : List E} {t : Tree}, (chks kn cs t).den P n0 R L ρ W → allB ρ cs ∧ t.den P n0 R L ρ W
 | [], t, h => ⟨trivial, h⟩
 | e :: _, t, h => by
  simp only [chks] at h
  split at h
  ·rename_i hd
   have := chks_den hk h
   exact ⟨⟨dec_ok hk e hd, this.1⟩, this.2⟩
  ·have := chks_den hk h.2
   exact ⟨⟨h.1, this.1⟩, this.2⟩
theorem learns_ok {ρ : Env} : ∀ {cs : List E} {kn : Kn}, Kn.holds ρ kn → allB ρ cs → Kn.holds ρ (learns kn cs)
 | [], _, hk, _ => hk
 | e :: _, kn, hk, h => learns_ok (kn := know e true kn) (know_ok e hk h.1) h.2
theorem setB_spec (ρ : Env) : ∀ (hp : List Blk) (m : Nat) (b : Blk) (cs : List Sy), findB hp m = some b → (hp.Pairwise fun a b => gd ρ.M a.m 0 ≠ gd ρ.M b.m 0) →
  (∀ x ∈ setB hp m cs, x = { b with cs := cs } ∨ (x ∈ hp ∧ gd ρ.M x.m 0 ≠ gd ρ.M b.m 0)) ∧ (setB hp m cs).map (·.m) = hp.map (·.m)
 | [], _, _, _, h, _ => by cases h
 | a :: l, m, b, cs, h, hp => by
  simp only [findB] at h
  simp only [setB]
  rw [List.pairwise_cons] at hp
  split at h
  ·rename_i e
   obtain rfl := Option.some.inj h
   rw [if_pos e]
   refine ⟨fun x hx => ?_, by simp⟩
   rcases List.mem_cons.1 hx with h1 | h1
   ·exact .inl h1
   ·exact .inr ⟨List.mem_cons_of_mem _ h1, fun e2 => hp.1 x h1 e2.symm⟩
  ·rename_i e
   rw [if_neg e]
   obtain ⟨i1, i2⟩ := setB_spec ρ l m b cs h hp.2
   refine ⟨fun x hx => ?_, by simp [i2]⟩
   rcases List.mem_cons.1 hx with h1 | h1
   ·subst h1
    exact .inr ⟨List.mem_cons_self .., hp.1 b (findB_mem h).1⟩
   ·rcases i1 x h1 with h2 | h2
    ·exact .inl h2
    ·exact .inr ⟨List.mem_cons_of_mem _ h2.1, h2.2⟩
theorem pairwise_map_m (ρ : Env) {a b : List Blk} (h : a.map (·.m) = b.map (·.m)) (hb : b.Pairwise fun x y => gd ρ.M x.m 0 ≠ gd ρ.M y.m 0) : a.Pairwise fun x y => gd ρ.M x.m 0 ≠ gd ρ.M y.m 0 := by
 have h1 : (b.map (·.m)).Pairwise fun x y => gd ρ.M x 0 ≠ gd ρ.M y 0 := (List.pairwise_map (R := fun x y => gd ρ.M x 0 ≠ gd ρ.M y 0)).2 hb
 rw [← h] at h1
 exact (List.pairwise_map (R := fun x y => gd ρ.M x 0 ≠ gd ρ.M y 0)).1 h1
def Wd.next (W : Wd) (w' : World) (h : W.w.heap.size ≤ w'.heap.size) : Wd :=
 ⟨w', fun b => W.I b ∨ (W.w.heap.size ≤ b ∧ b < w'.heap.size), fun b hb => hb.elim (fun h1 => Nat.lt_of_lt_of_le (W.lt b h1) h) (fun h1 => h1.2)⟩
theorem Wd.next_ext (W : Wd) {w' : World} (h : Keeps W w') : Ext W (W.next w' h.size) := ⟨h.size, fun _ h1 => .inl h1, h.keep, h.os, h.tape, h.output⟩
theorem Wd.next_new (W : Wd) {w' : World} (h : W.w.heap.size ≤ w'.heap.size) : NewIn W.w.heap.size (W.next w' h) := fun _ h1 h2 => .inr ⟨h1, h2⟩
theorem BlksAt.lt {ρ : Env} {hp : List Blk} {w : World} (h : BlksAt ρ hp w) {b : Blk} (hb : b ∈ hp) : gd ρ.M b.m 0 < w.heap.size := by
 have := h b hb
 unfold Blk.at at this
 exact (Array.getElem?_eq_some_iff.1 this).1
theorem BlksAt.keep {ρ : Env} {hp : List Blk} {w w' : World} (h : BlksAt ρ hp w) (hk : ∀ b ∈ hp, w'.heap[gd ρ.M b.m 0]? = w.heap[gd ρ.M b.m 0]?) : BlksAt ρ hp w' := fun b hm => by
 have := h b hm
 unfold Blk.at at *
 rw [hk b hm]
 exact this
theorem RowS.at.lt {n0 : Nat} {ρ : Env} {r : RowS} {w : World} (h : r.at n0 ρ w) {k : Nat} (hk : ownB ρ r = some k) : n0 ≤ k ∧ k < w.heap.size := World.ownsRow.lt h.1 k hk
theorem RowS.at.keep {n0 : Nat} {ρ : Env} {r : RowS} {w w' : World} (h : r.at n0 ρ w) (hk : ∀ k, ownB ρ r = some k → w'.heap[k]? = w.heap[k]?) : r.at n0 ρ w' := by
 refine ⟨⟨h.1.1, ?_⟩, h.2⟩
 rcases h.1.2 with hn | ⟨g, cap, cur, hv, hb, hgg, rest⟩
 ·exact .inl hn
 ·refine .inr ⟨g, cap, cur, hv, hb, ?_, rest⟩
  rw [hk g (by unfold ownB; rw [hv]; rfl)]
  exact hgg
theorem Holds.move {N : Nat} {W0 : Wd} {ρ : Env} {s : St} {a : Act} {W W' : Wd} (h : Holds N W0 ρ s a W) (x : Ext W W') (hs : ∀ b, W'.I b → W.I b ∨ W.w.heap.size ≤ b)
  (hh : ∀ b ∈ s.hp, W'.w.heap[gd ρ.M b.m 0]? = W.w.heap[gd ρ.M b.m 0]?) (hr : ∀ r ∈ s.rw, ∀ k, ownB ρ r = some k → W'.w.heap[k]? = W.w.heap[k]?) : Holds N W0 ρ s a W' := by
 refine ⟨h.cnt, h.good, h.tm, h.len, h.df, h.hp.keep hh, h.ro.keep fun b hb => x.keep _ (h.ext.sub _ (h.old b hb)), fun r hr1 => (h.rw r hr1).keep (hr r hr1), h.old, fun b hb hI => ?_, fun r hr1 k hk => ⟨fun hI => ?_, (h.rown r hr1 k hk).2⟩, h.nd, h.rnd, h.kn, fun b hI => ?_, h.nle, h.ext.trans x⟩
 ·rcases hs _ hI with h1 | h1
  ·exact h.own b hb h1
  ·have := h.hp.lt hb; omega
 ·rcases hs _ hI with h1 | h1
  ·exact (h.rown r hr1 k hk).1 h1
  ·have := (h.rw r hr1).lt hk; omega
 ·rcases hs _ hI with h1 | h1
  ·exact h.sub b h1
  ·exact .inr (Nat.le_trans h.nsz h1)
theorem Keeps.all {W : Wd} {w' : World} (h : Keeps W.all w') : Keeps W w' := h.less rfl fun b hb => W.lt b hb
theorem Holds.grow {N : Nat} {W0 : Wd} {ρ : Env} {s : St} {a : Act} {W : Wd} (h : Holds N W0 ρ s a W) {w' : World} (hk : Keeps W.all w') : Holds N W0 ρ s a (W.next w' hk.size) :=
 h.move (W.next_ext hk.all) (fun _ hb => hb.elim .inl fun h1 => .inr h1.1) (fun b hb => hk.keep _ (h.hp.lt hb)) (fun r hr k hk' => hk.keep _ ((h.rw r hr).lt hk').2)
def Wd.plus (W : Wd) (o : Obj) : Wd := ⟨W.w.alloc o, W.I, fun b hb => by have := W.lt b hb; simp; omega⟩
theorem Wd.plus_ext (W : Wd) (o : Obj) : Ext W (W.plus o) := ⟨by simp [Wd.plus], fun _ h => h, fun b hb => Below.heap_alloc _ _ _ (W.lt b hb), rfl, rfl, rfl⟩
theorem gd_last {α : Type} : ∀ (l : List α) (a x : α), gd (l ++ [a]) l.length x = a
 | [], _, _ => rfl
 | _ :: l, a, x => gd_last l a x
theorem Holds.new {N : Nat} {W0 : Wd} {ρ : Env} {s : St} {a : Act} {W : Wd} (h : Holds N W0 ρ s a W) (ho : s.ok = true) (ty : TypeId) (cs : List Sy) (hcs : Sy.oks s.c cs = true) :
  Holds N W0 (ρ.push { M := [W.w.heap.size] }) { s with hp := ⟨s.c.M, ty, cs⟩ :: s.hp, c := s.c.add { M := 1 } } a (W.plus (.cells (Sy.dens ρ cs).toArray ty)) := by
 have hd : ({ M := [W.w.heap.size] } : Env).good := fun v hv => by cases hv
 have h0 := h.push ho hd
 have h1 : Holds N W0 (ρ.push { M := [W.w.heap.size] }) { s with c := s.c.add { M := 1 } } a (W.plus (.cells (Sy.dens ρ cs).toArray ty)) :=
  h0.move (W.plus_ext _) (fun b hb => .inl hb) (fun b hb => Below.heap_alloc _ _ _ (h0.hp.lt hb)) (fun r hr k hk => Below.heap_alloc _ _ _ ((h0.rw r hr).lt hk).2)
 have hM : ρ.M.length = s.c.M := by rw [← h.cnt]; rfl
 have hnew : gd (ρ.push { M := [W.w.heap.size] }).M s.c.M 0 = W.w.heap.size := by
  show gd (ρ.M ++ [W.w.heap.size]) s.c.M 0 = _
  rw [← hM]
  exact gd_last _ _ _
 have hlt : ∀ b ∈ s.hp, gd (ρ.push { M := [W.w.heap.size] }).M b.m 0 < W.w.heap.size := fun b hb => h0.hp.lt hb
 refine ⟨h1.cnt, h1.good, h1.tm, h1.len, h1.df, ?_, h1.ro, h1.rw, h1.old, ?_, ?_, ?_, h1.rnd, h1.kn, h1.sub, h1.nle, h1.ext⟩
 ·intro b hb
  rcases List.mem_cons.1 hb with e | e
  ·subst e
   unfold Blk.at
   rw [hnew, Sy.pushes ρ _ cs (by rw [h.cnt]; exact hcs)]
   show (W.w.heap.push _)[W.w.heap.size]? = _
   simp
  ·exact h1.hp b e
 ·intro b hb
  rcases List.mem_cons.1 hb with e | e
  ·subst e
   rw [hnew]
   exact fun hI => by have := W.lt _ hI; omega
  ·exact h1.own b e
 ·intro r hr k hk
  refine ⟨(h1.rown r hr k hk).1, fun b hb => ?_⟩
  rcases List.mem_cons.1 hb with e | e
  ·subst e
   rw [hnew]
   have := ((h0.rw r hr).lt hk).2
   omega
  ·exact (h1.rown r hr k hk).2 b e
 ·rw [List.pairwise_cons]
  refine ⟨fun b hb => ?_, h1.nd⟩
  rw [hnew]
  have := hlt b hb
  omega
def Wd.plusI (W : Wd) (o : Obj) : Wd := ⟨W.w.alloc o, fun b => W.I b ∨ b = W.w.heap.size, fun b hb => by
 rcases hb with h | h
 ·have := W.lt b h; simp; omega
 ·subst h; simp⟩
theorem Wd.plusI_ext (W : Wd) (o : Obj) : Ext W (W.plusI o) := ⟨by simp [Wd.plusI], fun _ h => .inl h, fun b hb => Below.heap_alloc _ _ _ (W.lt b hb), rfl, rfl, rfl⟩
theorem Holds.newf {N : Nat} {W0 : Wd} {ρ : Env} {s : St} {a : Act} {W : Wd} (h : Holds N W0 ρ s a W) (ho : s.ok = true) (ty : TypeId) (cs : List Sy) (m : Nat) (dst : Option Nat) :
  Holds N W0 (ρ.push { A := [some ⟨W.w.heap.size, 0, none⟩] }) { s with tm := putS s.n s.tm dst (some (.slc s.c.A (.il m) (.il m))), c := s.c.add { A := 1 } } (a.put dst (.slice (some ⟨W.w.heap.size, 0, none⟩) m m)) (W.plusI (.cells (Sy.dens ρ cs).toArray ty)) := by
 have h0 := h.push (d := { A := [some ⟨W.w.heap.size, 0, none⟩] }) ho (fun v hv => by cases hv)
 have hA : gd (ρ.push { A := [some ⟨W.w.heap.size, 0, none⟩] }).A s.c.A none = some ⟨W.w.heap.size, 0, none⟩ := by
  show gd (ρ.A ++ [some ⟨W.w.heap.size, 0, none⟩]) s.c.A none = _
  rw [← h.cnt]; exact gd_last _ _ _
 have h1 : Holds N W0 (ρ.push { A := [some ⟨W.w.heap.size, 0, none⟩] }) { s with c := s.c.add { A := 1 } } a (W.plusI (.cells (Sy.dens ρ cs).toArray ty)) :=
  h0.move (W.plusI_ext _) (fun b hb => hb.imp id fun e => by rw [e]; exact Nat.le_refl _) (fun b hb => Below.heap_alloc _ _ _ (h0.hp.lt hb)) (fun r hr k hk => Below.heap_alloc _ _ _ ((h0.rw r hr).lt hk).2)
 exact h1.put dst _ (some (.slc s.c.A (.il m) (.il m))) fun y hy => by
  obtain rfl := Option.some.inj hy
  simp only [Sy.den, hA, E.i, Int.toNat_natCast]
def Wd.row (W : Wd) (g : Nat) (cs : Array Value) : Wd := ⟨W.w.setRow g cs, W.I, fun b hb => by have := W.lt b hb; simpa using this⟩
theorem Holds.upd {N : Nat} {W0 : Wd} {ρ : Env} {s : St} {a : Act} {W : Wd} (h : Holds N W0 ρ s a W) {m : Nat} {b : Blk} (hf : findB s.hp m = some b) (cs : List Sy) :
  Ext W (W.row (gd ρ.M m 0) (Sy.dens ρ cs).toArray) ∧ Holds N W0 ρ { s with hp := setB s.hp m cs } a (W.row (gd ρ.M m 0) (Sy.dens ρ cs).toArray) := by
 obtain ⟨hm, rfl⟩ := findB_mem hf
 obtain ⟨s1, s2⟩ := setB_spec ρ s.hp b.m b cs hf h.nd
 have hat := h.hp b hm
 have hown := h.own b hm
 unfold Blk.at at hat
 have x : Ext W (W.row (gd ρ.M b.m 0) (Sy.dens ρ cs).toArray) := ⟨by simp [Wd.row], fun _ h => h, fun k hk => setRow_other _ _ _ _ (fun e => hown (e ▸ hk)), rfl, rfl, rfl⟩
 refine ⟨x, h.cnt, h.good, h.tm, h.len, h.df, ?_, h.ro.keep fun y hy => setRow_other _ _ _ _ fun e => hown (e ▸ h.ext.sub _ (h.old y hy)), fun r hr => (h.rw r hr).keep fun k hk => setRow_other _ _ _ _ fun e => (h.rown r hr k hk).2 b hm e.symm, h.old, fun y hy => ?_, fun r hr k hk => ⟨(h.rown r hr k hk).1, fun y hy => ?_⟩, pairwise_map_m ρ s2 h.nd, h.rnd, h.kn, h.sub, h.nle, h.ext.trans x⟩
 ·intro y hy
  unfold Blk.at
  rcases s1 y hy with e | e
  ·subst e
   exact setRow_heap W.w _ _ _ _ (0, 0) hat
  ·have := h.hp y e.1
   unfold Blk.at at this
   rw [← this]
   exact setRow_other _ _ _ _ e.2
 ·rcases s1 y hy with e | e
  ·subst e; exact hown
  ·exact h.own y e.1
 ·rcases s1 y hy with e | e
  ·subst e; exact (h.rown r hr k hk).2 b hm
  ·exact (h.rown r hr k hk).2 y e.1
def relR (ρ : Env) (r q : RowS) : Prop := ∀ k, ownB ρ r = some k → ownB ρ q ≠ some k
theorem relR_symm {ρ : Env} {a b : RowS} (h : relR ρ a b) : relR ρ b a := fun k hk hk' => h k hk' hk
theorem findR_perm : ∀ {rw : List RowS} {v : Sy} {r : RowS}, findR rw v = some r → rw.Perm (r :: dropR rw v) ∧ r.v = v
 | [], _, _, h => by cases h
 | a :: l, v, r, h => by
  simp only [findR] at h
  simp only [dropR]
  split at h
  ·rename_i e
   obtain rfl := Option.some.inj h
   rw [if_pos e]
   exact ⟨List.Perm.refl _, Sy.same_eq e⟩
  ·rename_i e
   rw [if_neg e]
   obtain ⟨h1, h2⟩ := findR_perm h
   exact ⟨(h1.cons a).trans (List.Perm.swap ..), h2⟩
theorem gives_spec : ∀ {rw : List RowS} {args : List Sy} {ps : List Nat} {l rest : List RowS}, gives rw args ps = some (l, rest) → rw.Perm (l ++ rest)
 | rw, args, [], l, rest, h => by
  have e := Option.some.inj h
  injection e with e1 e2
  subst e1 e2
  exact List.Perm.refl _
 | rw, args, p :: ps, l, rest, h => by
  simp only [gives] at h
  split at h
  ·exact gives_spec h
  ·split at h
   ·rename_i r hf
    split at h
    ·rename_i l' rest' hg
     have e := Option.some.inj h
     injection e with e1 e2
     subst e1 e2
     exact (findR_perm hf).1.trans ((gives_spec hg).cons r)
    ·cases h
   ·cases h
  ·cases h
theorem rowNos_mem {ρ : Env} {rw : List RowS} {k : Nat} : k ∈ rowNos ρ rw ↔ ∃ r ∈ rw, ownB ρ r = some k := List.mem_filterMap
theorem rowAt_v : ∀ {l : List RowS} {a : Nat} {r : RowS}, rowAt l a = some r → ∃ n c, r.v = .slc a n c
 | [], _, _, h => by cases h
 | q :: l, a, r, h => by
  simp only [rowAt] at h
  split at h
  ·rename_i b n c hq
   split at h
   ·rename_i e; obtain rfl := Option.some.inj h; subst e; exact ⟨_, _, hq⟩
   ·exact rowAt_v h
  ·exact rowAt_v h
def Wd.nextB (W : Wd) (w' : World) (h : W.w.heap.size ≤ w'.heap.size) (ks : List Nat) : Wd :=
 ⟨w', fun b => W.I b ∨ (W.w.heap.size ≤ b ∧ b < w'.heap.size ∧ b ∉ ks), fun b hb => hb.elim (fun h1 => Nat.lt_of_lt_of_le (W.lt b h1) h) (fun h1 => h1.2.1)⟩
theorem Wd.nextB_ext (W : Wd) {w' : World} (h : Keeps W w') (ks : List Nat) : Ext W (W.nextB w' h.size ks) := ⟨h.size, fun _ h1 => .inl h1, h.keep, h.os, h.tape, h.output⟩
theorem Wd.nextB_new (W : Wd) {w' : World} (h : W.w.heap.size ≤ w'.heap.size) (ks : List Nat) : NewBut W.w.heap.size ks (W.nextB w' h ks) := fun _ h1 h2 h3 => .inr ⟨h1, h2, h3⟩
theorem Holds.rowsI {N : Nat} {W0 : Wd} {ρ : Env} {s : St} {a : Act} {W : Wd} (h : Holds N W0 ρ s a W) {mr rest : List RowS} (hp : s.rw.Perm (mr ++ rest)) {b : Nat} (hI : W.I b) : b ∉ rowNos ρ mr := fun hb => by
 obtain ⟨r, hr, hk⟩ := rowNos_mem.1 hb
 exact (h.rown r (hp.mem_iff.2 (List.mem_append_left _ hr)) b hk).1 hI
theorem Holds.calledR {N : Nat} {W0 : Wd} {ρ d : Env} {s : St} {a : Act} {W : Wd} (h : Holds N W0 ρ s a W) (ho : s.ok = true) (hd : d.good) {mr rest nr : List RowS} (hp : s.rw.Perm (mr ++ rest)) {w' : World} (hk : Keeps (W.but (rowNos ρ mr)) w')
  (hn : RowsNew N W.w.heap.size (rowNos ρ mr) (ρ.push d) nr w') :
  ∃ hs : Keeps W w', Holds N W0 (ρ.push d) { s with rw := nr ++ rest, c := s.c.add d.cnt } a (W.nextB w' hs.size (rowNos (ρ.push d) nr)) := by
 have h0 := h.push ho hd
 have hs : Keeps W w' := hk.less rfl fun b hb => ⟨W.lt b hb, h.rowsI hp hb⟩
 refine ⟨hs, ?_⟩
 have x := W.nextB_ext hs (rowNos (ρ.push d) nr)
 have hmr : ∀ r ∈ mr, r ∈ s.rw := fun r hr => hp.mem_iff.2 (List.mem_append_left _ hr)
 have hre : ∀ r ∈ rest, r ∈ s.rw := fun r hr => hp.mem_iff.2 (List.mem_append_right _ hr)
 have hRR : ∀ q ∈ s.rw, ownB (ρ.push d) q = ownB ρ q := fun q hq => by
  simp only [St.ok, Bool.and_eq_true] at ho
  exact ownB_push (by rw [h.cnt]; exact List.all_eq_true.1 ho.1.2 q hq)
 have hMM : ∀ b ∈ s.hp, gd (ρ.push d).M b.m 0 = gd ρ.M b.m 0 := fun b hb => by
  simp only [St.ok, Bool.and_eq_true] at ho
  have := List.all_eq_true.1 ho.1.1.1.2 b hb
  simp only [Blk.ok, Bool.and_eq_true] at this
  exact M_push (by rw [h.cnt]; exact of_decide_eq_true this.1)
 have two : (mr ++ rest).Pairwise (relR ρ) := (hp.pairwise_iff (fun hab => relR_symm hab)).1 h.rnd
 have notmr : ∀ q ∈ rest, ∀ k, ownB ρ q = some k → k ∉ rowNos ρ mr := fun q hq k hk' hm => by
  obtain ⟨r, hr, hrk⟩ := rowNos_mem.1 hm
  exact (List.pairwise_append.1 two).2.2 r hr q hq k hrk hk'
 have newI : ∀ r ∈ nr, ∀ k, ownB (ρ.push d) r = some k → ¬ (W.nextB w' hs.size (rowNos (ρ.push d) nr)).I k ∧ ∀ b ∈ s.hp, gd (ρ.push d).M b.m 0 ≠ k := fun r hr k hrk => by
  rcases hn.new r hr k hrk with h1 | h1
  ·refine ⟨?_, fun b hb => ?_⟩
   ·rintro (hI | ⟨_, _, h4⟩)
    ·have := W.lt _ hI; omega
    ·exact h4 (rowNos_mem.2 ⟨r, hr, hrk⟩)
   ·rw [hMM b hb]; have := h.hp.lt hb; omega
  ·obtain ⟨q, hq, hqk⟩ := rowNos_mem.1 h1
   have h2 := h.rown q (hmr q hq) k hqk
   refine ⟨?_, fun b hb => by rw [hMM b hb]; exact h2.2 b hb⟩
   rintro (hI | ⟨h3, _, h4⟩)
   ·exact h2.1 hI
   ·exact h4 (rowNos_mem.2 ⟨r, hr, hrk⟩)
 refine ⟨h0.cnt, h0.good, h0.tm, h0.len, h0.df, ?_, h0.ro.keep fun b hb => x.keep _ (h0.ext.sub _ (h0.old b hb)), ?_, h0.old, ?_, ?_, h0.nd, ?_, h0.kn, fun b hI => ?_, h0.nle, h0.ext.trans x⟩
 ·refine BlksAt.keep h0.hp fun b hb => hk.keep _ ⟨h0.hp.lt hb, fun hm => ?_⟩
  obtain ⟨r, hr, hrk⟩ := rowNos_mem.1 hm
  exact (h.rown r (hmr r hr) _ hrk).2 b hb (hMM b hb).symm
 ·intro r hr
  rcases List.mem_append.1 hr with h1 | h1
  ·exact hn.at_ r h1
  ·refine (h0.rw r (hre r h1)).keep fun k hk' => hk.keep _ ⟨((h0.rw r (hre r h1)).lt hk').2, ?_⟩
   rw [hRR r (hre r h1)] at hk'
   exact notmr r h1 k hk'
 ·intro b hb
  rintro (hI | ⟨h1, _⟩)
  ·exact h0.own b hb hI
  ·have := h0.hp.lt hb; omega
 ·intro r hr k hk'
  rcases List.mem_append.1 hr with h1 | h1
  ·exact newI r h1 k hk'
  ·refine ⟨?_, (h0.rown r (hre r h1) k hk').2⟩
   rintro (hI | ⟨h2, _⟩)
   ·exact (h0.rown r (hre r h1) k hk').1 hI
   ·have := ((h0.rw r (hre r h1)).lt hk').2; omega
 ·refine List.pairwise_append.2 ⟨hn.two, ?_, fun r hr q hq k hk' hk2 => ?_⟩
  ·refine (List.Pairwise.and_mem.1 (List.pairwise_append.1 two).2.1).imp ?_
   rintro r q ⟨hr, hq, hrq⟩ k hk' hk2
   rw [hRR r (hre r hr)] at hk'
   rw [hRR q (hre q hq)] at hk2
   exact hrq k hk' hk2
  ·have hlt := ((h0.rw q (hre q hq)).lt hk2).2
   rw [hRR q (hre q hq)] at hk2
   rcases hn.new r hr k hk' with h1 | h1
   ·omega
   ·exact notmr q hq k hk2 h1
 ·rcases hI with h1 | h1
  ·exact h0.sub b h1
  ·exact .inr (Nat.le_trans h0.nsz h1.1)
theorem setL_len {l vs : List Value} {k : Nat} (h : k + vs.length ≤ l.length) : (setL l k vs).length = l.length := by simp [setL]; omega
theorem take_setL {l vs : List Value} {k m : Nat} (h : k + vs.length ≤ m) (hm : m ≤ l.length) : (setL l k vs).take m = setL (l.take m) k vs := by
 unfold setL
 rw [List.take_take, Nat.min_eq_left (by omega), List.drop_take, List.append_assoc, List.append_assoc, List.take_append, List.take_append]
 have h1 : (l.take k).take m = l.take k := by rw [List.take_take, Nat.min_eq_right (by omega)]
 have h2 : (l.take k).length = k := by rw [List.length_take]; omega
 rw [h1, h2, List.take_of_length_le (l := vs) (by omega)]
 congr 2
 rw [show m - k - vs.length = m - (k + vs.length) from by omega]
theorem setL_mem {l vs : List Value} {k : Nat} {u : Value} (h : u ∈ setL l k vs) : u ∈ l ∨ u ∈ vs := by
 unfold setL at h
 rcases List.mem_append.1 h with h | h
 ·rcases List.mem_append.1 h with h | h
  ·exact .inl (List.mem_of_mem_take h)
  ·exact .inr h
 ·exact .inl (List.mem_of_mem_drop h)
theorem Holds.rsetK {N : Nat} {W0 : Wd} {ρ : Env} {s : St} {a : Act} {W : Wd} (h : Holds N W0 ρ s a W) (ho : s.ok = true) {q : RowS} {rest : List RowS} (hperm : s.rw.Perm (q :: rest)) (hqo : q.ok s.c = true) {aa : Nat} {n c : E} (hqv : q.v = .slc aa n c) {k : Nat} {us : List Value}
  (hnil : q.v.den ρ ≠ .slice none 0 0) (hkn : k + us.length ≤ (q.n.i ρ).toNat * q.sz) (hone : ∀ u ∈ us, u.oneCell' = true) :
  ∃ g cap cur, gd ρ.A aa none = some ⟨g, 0, none⟩ ∧ W.w.heap[g]? = some (.cells cur q.e (0, 0)) ∧ cur.size = cap * q.sz ∧ k + us.length ≤ cur.size ∧
   Ext W (W.row g (setL cur.toList k us).toArray) ∧
   Holds N W0 (ρ.push { L := [setL (conts ρ q.xs) k us] }) { s with rw := { q with xs := [.l s.c.L] } :: rest, c := s.c.add { L := 1 } } a (W.row g (setL cur.toList k us).toArray) := by
 have hqm : q ∈ s.rw := hperm.mem_iff.2 (List.mem_cons_self ..)
 have hre : ∀ r ∈ rest, r ∈ s.rw := fun r hr => hperm.mem_iff.2 (List.mem_cons_of_mem _ hr)
 have two : (q :: rest).Pairwise (relR ρ) := (hperm.pairwise_iff (fun hab => relR_symm hab)).1 h.rnd
 rw [List.pairwise_cons] at two
 obtain ⟨hat, hcells⟩ := h.rw q hqm
 obtain ⟨hlen, hrow⟩ := hat
 rcases hrow with ⟨hnil', hn0⟩ | ⟨g, cap, cur, hv, hbg, hg, hnc, hcm, hcs, htake⟩
 ·exact absurd hnil' hnil
 have hA : gd ρ.A aa none = some ⟨g, 0, none⟩ := by
  rw [hqv] at hv
  simp only [Sy.den] at hv
  injection hv
 have hown : ownB ρ q = some g := by unfold ownB; rw [hv]; rfl
 have hnn : (q.n.i ρ).toNat * q.sz ≤ cur.size := by rw [hcs]; exact Nat.mul_le_mul_right _ hnc
 generalize hL : setL (conts ρ q.xs) k us = L
 refine ⟨g, cap, cur, hA, hg, hcs, by omega, ?_⟩
 generalize hcur : setL cur.toList k us = cur'
 have hgI := h.rown q hqm g hown
 have x : Ext W (W.row g cur'.toArray) := ⟨by simp [Wd.row], fun _ h => h, fun b hb => setRow_other _ _ _ _ (fun e => hgI.1 (e ▸ hb)), rfl, rfl, rfl⟩
 have hd : ({ L := [L] } : Env).good := fun v hv => by cases hv
 have hp := h.push ho hd
 have hRR : ∀ r ∈ s.rw, ownB (ρ.push { L := [L] }) r = ownB ρ r := fun r hr => by
  simp only [St.ok, Bool.and_eq_true] at ho
  exact ownB_push (by rw [h.cnt]; exact List.all_eq_true.1 ho.1.2 r hr)
 have hpush := RowS.push (d := { L := [L] }) (r := q) (by rw [h.cnt]; exact hqo)
 have hLg : gd (ρ.push { L := [L] }).L s.c.L [] = L := by
  show gd (ρ.L ++ [L]) s.c.L [] = L
  rw [← h.cnt]; exact gd_last _ _ _
 have hconts : conts (ρ.push { L := [L] }) [.l s.c.L] = L := by simp [conts, Seg.den, hLg]
 have hMM : ∀ b ∈ s.hp, gd (ρ.push { L := [L] }).M b.m 0 = gd ρ.M b.m 0 := fun b hb => by
  simp only [St.ok, Bool.and_eq_true] at ho
  have := List.all_eq_true.1 ho.1.1.1.2 b hb
  simp only [Blk.ok, Bool.and_eq_true] at this
  exact M_push (by rw [h.cnt]; exact of_decide_eq_true this.1)
 refine ⟨x, ?_⟩
 refine ⟨hp.cnt, hp.good, hp.tm, hp.len, hp.df, hp.hp.keep fun b hb => setRow_other _ _ _ _ fun e => ?_, hp.ro.keep fun b hb => x.keep _ (hp.ext.sub _ (hp.old b hb)), ?_, hp.old, hp.own, ?_, hp.nd, ?_, hp.kn, hp.sub, hp.nle, hp.ext.trans x⟩
 ·rw [hMM b hb] at e
  exact hgI.2 b hb e
 ·intro r hr
  rcases List.mem_cons.1 hr with e | e
  ·subst e
   refine ⟨?_, ?_⟩
   ·show World.ownsRow _ _ q.e q.sz (q.v.den _) (q.n.i _).toNat (conts _ [.l s.c.L])
    rw [hpush.1, hpush.2.1, hconts, ← hL]
    refine ⟨?_, .inr ⟨g, cap, cur'.toArray, hv, hbg, setRow_heap _ _ _ _ _ _ hg, hnc, hcm, ?_, ?_⟩⟩
    ·rw [setL_len (by rw [hlen]; exact hkn), hlen]
    ·rw [← hcur, List.size_toArray, setL_len (by rw [Array.length_toList]; exact Nat.le_trans hkn hnn), Array.length_toList, hcs]
    ·show cur'.take _ = _
     rw [← hcur, take_setL hkn (by rw [Array.length_toList]; exact hnn), htake]
   ·show ∀ u ∈ conts _ [.l s.c.L], _
    rw [hconts, ← hL]
    intro u hu
    rcases setL_mem hu with h5 | h5
    ·exact hcells u h5
    ·exact hone u h5
  ·refine (hp.rw r (hre r e)).keep fun k' hk' => setRow_other _ _ _ _ fun e2 => ?_
   rw [hRR r (hre r e)] at hk'
   subst e2
   exact two.1 r e _ hown hk'
 ·intro r hr k' hk'
  rcases List.mem_cons.1 hr with e | e
  ·subst e
   have e3 : ownB (ρ.push { L := [L] }) q = some k' := hk'
   exact hp.rown q hqm k' e3
  ·exact hp.rown r (hre r e) k' hk'
 ·show List.Pairwise _ (_ :: rest)
  rw [List.pairwise_cons]
  refine ⟨fun r hr k' hk' hk2 => ?_, ?_⟩
  ·have e3 : ownB (ρ.push { L := [L] }) q = some k' := hk'
   rw [hRR q hqm] at e3
   rw [hRR r (hre r hr)] at hk2
   exact two.1 r hr k' e3 hk2
  ·refine (List.Pairwise.and_mem.1 two.2).imp ?_
   rintro r r2 ⟨hr, hr2, hrq⟩ k' hk' hk2
   rw [hRR r (hre r hr)] at hk'
   rw [hRR r2 (hre r2 hr2)] at hk2
   exact hrq k' hk' hk2
theorem Holds.rset {N : Nat} {W0 : Wd} {ρ : Env} {s : St} {a : Act} {W : Wd} (h : Holds N W0 ρ s a W) (ho : s.ok = true) {q : RowS} {rest : List RowS} (hperm : s.rw.Perm (q :: rest)) (hqo : q.ok s.c = true) {aa : Nat} {n c : E} (hqv : q.v = .slc aa n c) {i : E} {o : Nat} {vs : List Sy}
  (h0 : 0 ≤ i.i ρ) (h1 : i.i ρ < q.n.i ρ) (ht : o + vs.length ≤ q.sz) (hone : ∀ u ∈ Sy.dens ρ vs, u.oneCell' = true) (d : Option Nat) :
  ∃ g cap cur, gd ρ.A aa none = some ⟨g, 0, none⟩ ∧ W.w.heap[g]? = some (.cells cur q.e (0, 0)) ∧ cur.size = cap * q.sz ∧ ((i.i ρ).toNat * q.sz + o) + vs.length ≤ cur.size ∧
   Ext W (W.row g (setL cur.toList ((i.i ρ).toNat * q.sz + o) (Sy.dens ρ vs)).toArray) ∧
   Holds N W0 (ρ.push { L := [setL (conts ρ q.xs) ((i.i ρ).toNat * q.sz + o) (Sy.dens ρ vs)] }) (rsetSt s d q rest) (a.put d undef) (W.row g (setL cur.toList ((i.i ρ).toNat * q.sz + o) (Sy.dens ρ vs)).toArray) := by
 have hdl : (Sy.dens ρ vs).length = vs.length := by simp [Sy.dens_eq]
 have hqm : q ∈ s.rw := hperm.mem_iff.2 (List.mem_cons_self ..)
 obtain ⟨g, cap, cur, k1, k2, k3, k4, k5, k6⟩ := h.rsetK ho hperm hqo hqv (k := (i.i ρ).toNat * q.sz + o) (us := Sy.dens ρ vs) (fun hnil => by
   obtain ⟨⟨_, hrow⟩, _⟩ := h.rw q hqm
   rcases hrow with ⟨_, hn0⟩ | ⟨g, cap, cur, hv, _⟩
   ·omega
   ·rw [hv] at hnil; cases hnil) (by
   have e1 : (i.i ρ).toNat + 1 ≤ (q.n.i ρ).toNat := by omega
   have e2 := Nat.mul_le_mul_right q.sz e1
   rw [Nat.add_mul, Nat.one_mul] at e2
   omega) hone
 rw [hdl] at k4
 exact ⟨g, cap, cur, k1, k2, k3, k4, k5, k6.put d undef (some undefS) (fun y hy => by obtain rfl := Option.some.inj hy; rfl)⟩
theorem findB_none : ∀ {l : List Blk} {m : Nat}, findB l m = none → ∀ b ∈ l, b.m ≠ m
 | [], _, _, _, hb => by cases hb
 | a :: l, m, h, b, hb => by
  simp only [findB] at h
  split at h
  ·cases h
  ·rename_i e
   rcases List.mem_cons.1 hb with e2 | e2
   ·subst e2; exact e
   ·exact findB_none h b e2
theorem pair_ne {ρ : Env} : ∀ {hp : List Blk}, (hp.Pairwise fun a b => gd ρ.M a.m 0 ≠ gd ρ.M b.m 0) → ∀ {a b : Blk}, a ∈ hp → b ∈ hp → a.m ≠ b.m → gd ρ.M a.m 0 ≠ gd ρ.M b.m 0
 | [], _, _, _, h, _, _ => by cases h
 | x :: l, hp, a, b, ha, hb, hne => by
  rw [List.pairwise_cons] at hp
  rcases List.mem_cons.1 ha with e | e <;> rcases List.mem_cons.1 hb with e2 | e2
  ·subst e e2; exact absurd rfl hne
  ·subst e; exact hp.1 b e2
  ·subst e2; exact fun h => hp.1 a e h.symm
  ·exact pair_ne hp.2 e e2 hne
theorem Holds.called {N : Nat} {W0 : Wd} {ρ d : Env} {s : St} {a : Act} {W : Wd} (h : Holds N W0 ρ s a W) (ho : s.ok = true) (hd : d.good) {mu : List Blk} (hmu : muIn s.hp mu = true) {w' : World} (hk : Keeps (W.but (blkNos ρ mu)) w') (hat : BlksAt (ρ.push d) mu w') :
  ∃ hs : Keeps W w', Holds N W0 (ρ.push d) { s with hp := s.hp.map (replB mu), c := s.c.add d.cnt } a (W.next w' hs.size) := by
 have h0 := h.push ho hd
 have min : ∀ b ∈ mu, ∃ b0 ∈ s.hp, b0.m = b.m := fun b hb => by
  have := List.all_eq_true.1 hmu b hb
  cases hf : findB s.hp b.m with
  | none => rw [hf] at this; cases this
  | some b0 => exact ⟨b0, (findB_mem hf).1, (findB_mem hf).2⟩
 have hMM : ∀ b ∈ s.hp, gd (ρ.push d).M b.m 0 = gd ρ.M b.m 0 := fun b hb => by
  simp only [St.ok, Bool.and_eq_true] at ho
  have := List.all_eq_true.1 ho.1.1.1.2 b hb
  simp only [Blk.ok, Bool.and_eq_true] at this
  exact M_push (by rw [h.cnt]; exact of_decide_eq_true this.1)
 have nos : ∀ k ∈ blkNos ρ mu, ∃ b0 ∈ s.hp, k = gd ρ.M b0.m 0 ∧ ∃ b ∈ mu, b.m = b0.m := fun k hk => by
  obtain ⟨b, hb, rfl⟩ := List.mem_map.1 hk
  obtain ⟨b0, h1, h2⟩ := min b hb
  exact ⟨b0, h1, by rw [h2], b, hb, h2.symm⟩
 have notI : ∀ b, W.I b → b ∉ blkNos ρ mu := fun b hI hb => by
  obtain ⟨b0, h1, rfl, _⟩ := nos b hb
  exact h.own b0 h1 hI
 have hs : Keeps W w' := hk.less rfl fun b hb => ⟨W.lt b hb, notI b hb⟩
 refine ⟨hs, ?_⟩
 have x := W.next_ext hs
 have same : ∀ b ∈ s.hp, findB mu b.m = none → w'.heap[gd ρ.M b.m 0]? = W.w.heap[gd ρ.M b.m 0]? := fun b hb hn => by
  refine hk.keep _ ⟨h.hp.lt hb, fun hin => ?_⟩
  obtain ⟨b0, h1, h2, b1, hb1, h3⟩ := nos _ hin
  exact pair_ne h.nd hb h1 (fun e => findB_none hn b1 hb1 (h3.trans e.symm)) h2
 have hm : ∀ b, (replB mu b).m = b.m := fun b => by
  unfold replB
  split
  ·rename_i b' e; exact (findB_mem e).2
  ·rfl
 refine ⟨h0.cnt, h0.good, h0.tm, h0.len, h0.df, ?_, h0.ro.keep fun b hb => x.keep _ (h0.ext.sub _ (h0.old b hb)), fun r hr => (h0.rw r hr).keep fun k hk' => ?_, h0.old, ?_, ?_, ?_, h0.rnd, h0.kn, fun b hI => ?_, h0.nle, h0.ext.trans x⟩
 ·intro y hy
  obtain ⟨b, hb, rfl⟩ := List.mem_map.1 hy
  unfold replB
  split
  ·rename_i b' e; exact hat b' (findB_mem e).1
  ·rename_i e
   have := h0.hp b hb
   unfold Blk.at at *
   rw [hMM b hb] at *
   rw [show (W.next w' hs.size).w.heap[gd ρ.M b.m 0]? = W.w.heap[gd ρ.M b.m 0]? from same b hb e]
   exact this
 ·refine hk.keep _ ⟨((h0.rw r hr).lt hk').2, fun hin => ?_⟩
  obtain ⟨b0, h1, h2, _⟩ := nos _ hin
  have := (h0.rown r hr k hk').2 b0 h1
  rw [hMM b0 h1] at this
  exact this h2.symm
 ·intro y hy
  obtain ⟨b, hb, rfl⟩ := List.mem_map.1 hy
  rw [hm]
  rintro (hI | ⟨h1, _⟩)
  ·exact h0.own b hb hI
  ·have := h0.hp.lt hb; omega
 ·intro r hr k hk'
  refine ⟨?_, fun y hy => ?_⟩
  ·rintro (hI | ⟨h1, _⟩)
   ·exact (h0.rown r hr k hk').1 hI
   ·have := ((h0.rw r hr).lt hk').2; omega
  ·obtain ⟨b, hb, rfl⟩ := List.mem_map.1 hy
   rw [hm]
   exact (h0.rown r hr k hk').2 b hb
 ·rw [List.pairwise_map]
  exact h0.nd.imp fun hab => by rw [hm, hm]; exact hab
 ·rcases hI with h1 | h1
  ·exact h0.sub b h1
  ·exact .inr (Nat.le_trans h0.nsz h1.1)
theorem mu_apart {N : Nat} {W0 : Wd} {ρ : Env} {s : St} {a : Act} {W : Wd} (h : Holds N W0 ρ s a W) {mu : List Blk} (hmu : muIn s.hp mu = true) (args : List Sy) : MuApart ρ W (reach (s.hp ++ s.ro) args) mu := by
 refine ⟨fun x hx b hb hne => ?_, fun b hb => ?_⟩
 rotate_left
 ·have hb0 := List.all_eq_true.1 hmu b hb
  cases hf : findB s.hp b.m with
  | none => rw [hf] at hb0; cases hb0
  | some b0 =>
   obtain ⟨f1, f2⟩ := findB_mem hf
   rw [← f2]; exact h.own b0 f1
 have hxm := (List.mem_filter.1 hx).1
 have hb0 := List.all_eq_true.1 hmu b hb
 cases hf : findB s.hp b.m with
 | none => rw [hf] at hb0; cases hb0
 | some b0 =>
  obtain ⟨f1, f2⟩ := findB_mem hf
  rcases List.mem_append.1 hxm with h1 | h1
  ·have := pair_ne h.nd h1 f1 (by rw [f2]; exact hne)
   rw [f2] at this; exact this
  ·intro e
   refine h.own b0 f1 ?_
   rw [f2, ← e]
   exact h.ext.sub _ (h.old x h1)
end Go.SF
end
section
namespace Go.SF
open Go Go.RowKit
variable {P : Program}
theorem xslice_is {s : St} {t : TypeId} {x : Operand} {lo hi mx : Option Operand} {e : Eff} (h : xslice P s t x lo hi mx = some e) : (∃ a lo hi c n sz, e = .sub a lo hi c n sz) ∨ ∃ a n c, e = .adr a n c := by
 unfold xslice at h
 (repeat' split at h) <;> first | (cases h; done) | (obtain rfl := (Option.some.inj h).symm; first | exact .inl ⟨_, _, _, _, _, _, rfl⟩ | exact .inr ⟨_, _, _, rfl⟩)
theorem xappend_is {s : St} {args : List Operand} {ts : List TypeId} {e : Eff} (h : xappend P s args ts = some e) : (∃ r rest k xs b, e = .app r rest k xs b) ∨ ∃ r rest a k c b, e = .appf r rest a k c b := by
 unfold xappend at h
 (repeat' split at h) <;> first | (cases h; done) | (obtain rfl := (Option.some.inj h).symm; first | exact .inl ⟨_, _, _, _, _, rfl⟩ | exact .inr ⟨_, _, _, _, _, _, rfl⟩)
theorem xcallv_is {s : St} {f : Operand} {args : List Operand} {e : Eff} (h : xcallv P s f args = some e) : ∃ g l, e = .call g l := by
 unfold xcallv at h
 (repeat' split at h) <;> first | (cases h; done) | (obtain rfl := (Option.some.inj h).symm; exact ⟨_, _, rfl⟩)
theorem xcallE_is {s : St} {c : Call} {e : Eff} (h : xcallE P s c = some e) : (∃ f, c.callee = .value f ∧ xcallv P s f c.args.toList = some e) ∨ (c.callee = .builtin .append ∧ xappend P s c.args.toList c.argTypes.toList = some e) := by
 unfold xcallE at h
 split at h
 ·rename_i f hf; exact .inl ⟨f, hf, h⟩
 ·rename_i b hb
  split at h
  ·exact .inr ⟨hb, h⟩
  ·cases h
 ·cases h
theorem xeff_new {N : Nat} {W0 : Wd} {ρ : Env} {s : St} {a : Act} {W : Wd} (h : Holds N W0 ρ s a W) {o : Oper} {ty : TypeId} {cs : List Sy} {v : Sy} (hx : xeff P s o.op = some (.new ty cs v)) {ρ' : Env} (hρ : gd ρ'.M s.c.M 0 = W.w.heap.size) :
  (execOp a.eval o).run P W.w = .ok (.value (v.den ρ')) (W.w.alloc (.cells (Sy.dens ρ cs).toArray ty)) := by
 obtain ⟨dst, op, oty, pos, after, guard⟩ := o
 dsimp only at hx
 cases op <;> simp only [xeff] at hx <;> try (cases hx; done)
 case alloc t =>
  split at hx
  ·rename_i z hz
   have e := Option.some.inj hx
   injection e with e1 e2 e3
   subst e1 e2 e3
   obtain ⟨it, hit, hz'⟩ := Option.bind_eq_some_iff.1 hz
   simp [execOp, Instr.alloc, zeroValue, typeInfo, hit, hz', newVar, newRow, dens_ofCell, Sy.den, hρ]
  ·cases hx
 case box t x =>
  split at hx
  ·rename_i l hl
   have e := Option.some.inj hx
   injection e with e1 e2 e3
   subst e1 e2 e3
   obtain ⟨y, hy, hc⟩ := Option.bind_eq_some_iff.1 hl
   have h1 := (Sy.cells_den h.good hc).1
   simp [execOp, Instr.box, newVar, newRow, h.tm _ _ hy, h1, Sy.den, hρ]
  ·cases hx
 case buildSlice t len ps =>
  split at hx
  ·rename_i el l hu hl
   split at hx
   ·rename_i ie hie
    split at hx
    ·rename_i z hz
     split at hx
     ·rename_i hlen
      obtain ⟨r, hr, e⟩ := Option.map_eq_some_iff.1 hx
      injection e with e1 e2 e3
      subst e1 e2 e3
      have h1 := fillS_den (ρ := ρ) h.good _ l _ r hr
      rw [dens_ofCell, Array.toArray_toList] at h1
      have h2 := evParts_den h.tm _ _ hl
      have h3 : (ps.map fun p => (p.1, a.eval p.2)).toList = l.map fun p => (p.1, p.2.den ρ) := by rw [Array.toList_map, h2]
      have hs : (sizeOf el).run P W.w = .ok ie.size W.w := by simp [sizeOf, typeInfo, hie]
      have hzv : (zeroValue el).run P W.w = .ok z W.w := by simp [zeroValue, typeInfo, hie, hz]
      have hno : ¬ (len * ie.size > 2 ^ 24) := by omega
      simp only [execOp, Instr.buildSlice, Sem.run_bind, run_underlying hu, Result.andThen_ok, hs, Sem.run_pure, h3]
      rw [if_neg hno]
      by_cases h0 : len * ie.size = 0
      ·simp only [h0, if_true, Sem.run_pure, Sem.run_bind, Result.andThen_ok]
       simp only [h0] at h1
       have e0 : ∀ f : Nat → Value, (Array.range 0).map f = #[] := fun f => by simp
       rw [e0] at h1
       rw [e0, h1]
       simp [newRow, Sy.den, hρ]
      ·simp only [h0, if_false, Sem.run_bind, hzv, Result.andThen_ok, Sem.run_pure]
       rw [h1]
       simp [newRow, Sy.den, hρ]
     ·cases hx
    ·cases hx
   ·cases hx
  ·cases hx
 case makeSlice t l c =>
  split at hx
  ·rename_i el n n' hu hl hc
   split at hx
   ·rename_i ie hie
    split at hx
    ·rename_i z hz
     split at hx
     ·rename_i hn
      have e := Option.some.inj hx
      injection e with e1 e2 e3
      subst e1 e2 e3
      obtain ⟨rfl, h0, h2⟩ := hn
      have key : ∀ x : Operand, litO (optI s.tm (some x)) 0 = some n → ∃ k, a.eval x = .int k (n : Int) := fun x hx => by
       unfold optI at hx
       dsimp only at hx
       split at hx
       ·rename_i k e he
        unfold litO at hx
        split at hx
        ·rename_i h5; injection h5 with h6; cases h6
        ·rename_i k' m h5
         obtain rfl := Option.some.inj hx
         injection h5 with h6
         injection h6 with h7
         injection h7 with h8 h9
         subst h8 h9
         exact ⟨_, h.tm _ _ he⟩
        ·cases hx
       ·cases hx
      obtain ⟨kl, hl'⟩ := key l hl
      obtain ⟨kc, hc'⟩ := key c hc
      have hbn : ((ie.bytes : Int) * (n : Int)) ≤ 281474976710656 := by
       have : ((ie.bytes * n : Nat) : Int) ≤ 100000 := by omega
       rw [Int.natCast_mul] at this
       omega
      have hr := run_make (P := P) W.w t el ie z hu hie hz kl kc n n (by omega) (Int.le_refl _) hbn (by omega)
      simp only [Int.toNat_natCast] at hr
      simp [execOp, hl', hc', hr, dens_ofCell, Sy.den, hρ]
     ·cases hx
    ·cases hx
   ·cases hx
  ·obtain ⟨_, _, _, _, _, e⟩ := xmake_app hx; cases e
 case slice => rcases xslice_is hx with ⟨_, _, _, _, _, _, e⟩ | ⟨_, _, _, e⟩ <;> cases e
 case call c =>
  rcases xcallE_is hx with ⟨f, _, h1⟩ | ⟨_, h1⟩
  ·obtain ⟨_, _, e⟩ := xcallv_is h1; cases e
  ·rcases xappend_is h1 with ⟨_, _, _, _, _, e⟩ | ⟨_, _, _, _, _, _, e⟩ <;> cases e
 all_goals ((repeat' split at hx) <;> first | (cases hx; done) | (obtain ⟨r, hr, e⟩ := Option.map_eq_some_iff.1 hx; cases e; done) | (obtain ⟨_, _, _, _, _, e⟩ := xmake_app hx; cases e; done) | skip)
theorem xeff_upd {N : Nat} {W0 : Wd} {ρ : Env} {s : St} {a : Act} {W : Wd} (h : Holds N W0 ρ s a W) {o : Oper} {m : Nat} {cs : List Sy} (hx : xeff P s o.op = some (.upd m cs)) :
  (∃ b, findB s.hp m = some b) ∧ (execOp a.eval o).run P W.w = .ok .skip (W.w.setRow (gd ρ.M m 0) (Sy.dens ρ cs).toArray) := by
 obtain ⟨dst, op, oty, pos, after, guard⟩ := o
 dsimp only at hx
 cases op <;> simp only [xeff] at hx <;> try (cases hx; done)
 case store t p x =>
  split at hx
  ·rename_i m' off vs n hp hv hn
   split at hx
   ·rename_i b hb
    split at hx
    ·rename_i hl
     have e := Option.some.inj hx
     injection e with e1 e2
     subst e1 e2
     obtain ⟨y, hy, hc⟩ := Option.bind_eq_some_iff.1 hv
     obtain ⟨hm, rfl⟩ := findB_mem hb
     have hat := h.hp b hm
     unfold Blk.at at hat
     refine ⟨⟨b, hb⟩, ?_⟩
     have := run_stS (P := P) h.good hc hn hl.1 hl.2 hat
     simp [execOp, Instr.storeAt, Instr.sureAddr, h.tm _ _ hp, Sy.den, h.tm _ _ hy, this]
    ·cases hx
   ·cases hx
  ·(repeat' split at hx) <;> cases hx
  ·cases hx
 case slice => rcases xslice_is hx with ⟨_, _, _, _, _, _, e⟩ | ⟨_, _, _, e⟩ <;> cases e
 case call c =>
  rcases xcallE_is hx with ⟨f, _, h1⟩ | ⟨_, h1⟩
  ·obtain ⟨_, _, e⟩ := xcallv_is h1; cases e
  ·rcases xappend_is h1 with ⟨_, _, _, _, _, e⟩ | ⟨_, _, _, _, _, _, e⟩ <;> cases e
 all_goals ((repeat' split at hx) <;> first | (cases hx; done) | (obtain ⟨r, hr, e⟩ := Option.map_eq_some_iff.1 hx; cases e; done) | (obtain ⟨_, _, _, _, _, e⟩ := xmake_app hx; cases e; done) | skip)
theorem xeff_rset' {N : Nat} {W0 : Wd} {ρ : Env} {s : St} {a : Act} {W : Wd} (h : Holds N W0 ρ s a W) (ho : s.ok = true) {o : Oper} {q : RowS} {rest : List RowS} {i : E} {b z : Nat} {vs : List Sy} (hx : xeff P s o.op = some (.rset q rest i b z vs))
  (hqo : q.ok s.c = true) (h0 : 0 ≤ i.i ρ) (h1 : i.i ρ < q.n.i ρ) :
  ∃ w' W', (execOp a.eval o).run P W.w = .ok .skip w' ∧ W'.w = w' ∧ Ext W W' ∧ Holds N W0 (ρ.push { L := [setL (conts ρ q.xs) ((i.i ρ).toNat * z + b) (Sy.dens ρ vs)] }) (rsetSt s o.dst q rest) (a.put o.dst undef) W' ∧ s.rw.Perm (q :: rest) ∧ ∃ g arr, ownB ρ q = some g ∧ W' = W.row g arr := by
 obtain ⟨dst, op, oty, pos, after, guard⟩ := o
 dsimp only at hx
 cases op <;> simp only [xeff] at hx <;> try (cases hx; done)
 case store t p x =>
  split at hx
  ·(repeat' split at hx) <;> cases hx
  ·rename_i aa i' z' o' vs' n hp hv hn
   split at hx
   ·rename_i r hr
    split at hx
    ·rename_i q' hq'
     split at hx
     ·rename_i hl
      have e := Option.some.inj hx
      injection e with e1 e2 e3 e4 e5 e6
      subst e1 e2 e3 e4 e5 e6
      obtain ⟨hl1, hl2, hl3⟩ := hl
      obtain ⟨y, hy, hc⟩ := Option.bind_eq_some_iff.1 hv
      obtain ⟨p1, p2⟩ := findR_perm hq'
      obtain ⟨nn, cc, hrv⟩ := rowAt_v hr
      obtain ⟨c1, c2⟩ := Sy.cells_den h.good hc
      have hone : ∀ u ∈ Sy.dens ρ vs', u.oneCell' = true := fun v hv => by
       rw [Sy.dens_eq] at hv
       obtain ⟨x, hx, rfl⟩ := List.mem_map.1 hv
       exact Sy.cell_den h.good _ (c2 x hx)
      obtain ⟨g, cap, cur, k1, k2, k3, k4, k5, k6⟩ := h.rset ho p1 hqo (p2.trans hrv) h0 h1 (o := o') (vs := vs') (by rw [hl3]; omega) hone dst
      rw [hl3] at k4 k5 k6
      refine ⟨_, _, ?_, rfl, k5, k6, p1, g, _, by simp [ownB, p2.trans hrv, Sy.den, k1, Value.ownBlock], rfl⟩
      have hdl : (Sy.dens ρ vs').length = vs'.length := by simp [Sy.dens_eq]
      have h3 := run_storeCells_at P g ((i'.i ρ).toNat * z' + o') q'.e (Sy.dens ρ vs') 0 cur W.w k2 (by rw [hdl]; omega) hone
      have hsz : (y.den ρ).cells.size = n := by rw [c1]; simp [Sy.dens_eq, hl1]
      have hst : (storeVar t ⟨g, (i'.i ρ).toNat * z' + o', none⟩ (y.den ρ)).run P W.w = .ok () (W.w.setRow g (setL cur.toList ((i'.i ρ).toNat * z' + o') (Sy.dens ρ vs')).toArray) := by
       simp only [storeVar, Sem.run_bind, run_sizeT hn, Result.andThen_ok]
       rw [if_neg (by rw [hsz]; simp)]
       rw [c1, h3]
       simp [setL]
      have hpp := h.tm _ _ hp
      simp only [Sy.den, k1, Option.getD_some, add_none, Nat.zero_add] at hpp
      simp [execOp, Instr.storeAt, Instr.sureAddr, hpp, h.tm _ _ hy, hst, Wd.row]
     ·cases hx
    ·cases hx
   ·cases hx
  ·cases hx
 case slice => rcases xslice_is hx with ⟨_, _, _, _, _, _, e⟩ | ⟨_, _, _, e⟩ <;> cases e
 case call c =>
  rcases xcallE_is hx with ⟨f, _, h1⟩ | ⟨_, h1⟩
  ·obtain ⟨_, _, e⟩ := xcallv_is h1; cases e
  ·rcases xappend_is h1 with ⟨_, _, _, _, _, e⟩ | ⟨_, _, _, _, _, _, e⟩ <;> cases e
 all_goals ((repeat' split at hx) <;> first | (cases hx; done) | (obtain ⟨r, hr, e⟩ := Option.map_eq_some_iff.1 hx; cases e; done) | (obtain ⟨_, _, _, _, _, e⟩ := xmake_app hx; cases e; done) | skip)
theorem xeff_rset {N : Nat} {W0 : Wd} {ρ : Env} {s : St} {a : Act} {W : Wd} (h : Holds N W0 ρ s a W) (ho : s.ok = true) {o : Oper} {q : RowS} {rest : List RowS} {i : E} {b z : Nat} {vs : List Sy} (hx : xeff P s o.op = some (.rset q rest i b z vs))
  (hqo : q.ok s.c = true) (h0 : 0 ≤ i.i ρ) (h1 : i.i ρ < q.n.i ρ) :
  ∃ w' W', (execOp a.eval o).run P W.w = .ok .skip w' ∧ W'.w = w' ∧ Ext W W' ∧ Holds N W0 (ρ.push { L := [setL (conts ρ q.xs) ((i.i ρ).toNat * z + b) (Sy.dens ρ vs)] }) (rsetSt s o.dst q rest) (a.put o.dst undef) W' := by
 obtain ⟨w', W', h1, h2, h3, h4, _⟩ := xeff_rset' h ho hx hqo h0 h1
 exact ⟨w', W', h1, h2, h3, h4⟩
theorem xeff_call {N : Nat} {W0 : Wd} {ρ : Env} {s : St} {a : Act} {W : Wd} (h : Holds N W0 ρ s a W) {o : Oper} {f : FuncId} {args : List Sy} (hx : xeff P s o.op = some (.call f args)) (w : World) :
  (execOp a.eval o).run P w = .ok (.enter f (Sy.dens ρ args).toArray) w := by
 obtain ⟨dst, op, oty, pos, after, guard⟩ := o
 dsimp only at hx
 cases op <;> simp only [xeff] at hx <;> try (cases hx; done)
 case slice => rcases xslice_is hx with ⟨_, _, _, _, _, _, e⟩ | ⟨_, _, _, e⟩ <;> cases e
 case call c =>
  rcases xcallE_is hx with ⟨fo, hc, h1⟩ | ⟨_, h1⟩
  ·obtain ⟨callee, cargs, ts⟩ := c
   dsimp only at hc h1
   subst hc
   unfold xcallv at h1
   split at h1
   ·rename_i g caps l hf hl
    split at h1
    ·rename_i fn hfn
     split at h1
     ·rename_i hb
      have e := Option.some.inj h1
      injection e with e1 e2
      subst e1 e2
      have h1 := evsS_den h.tm _ _ hl
      have h2 : cargs.map a.eval = (Sy.dens ρ l).toArray := by rw [← h1, ← Array.toList_map]
      have h3 : fn.body.isNone = false := by cases hbd : fn.body <;> simp_all
      simp only [execOp, resolve, Deferred.ofValue, h.tm _ _ hf, Sy.den, Sem.run_bind, Sem.run_pure, Result.andThen_ok, h2, invoke, callFunc, run_program, hfn]
      simp only [hb.2, Bool.false_eq_true, if_false, h3, Sem.run_pure]
      simp [Sy.dens_eq]
     ·cases h1
    ·cases h1
   ·rename_i g bs l hf hl
    split at h1
    ·rename_i fn hfn
     split at h1
     ·rename_i hb
      have e := Option.some.inj h1
      injection e with e1 e2
      subst e1 e2
      have h1 := evsS_den h.tm _ _ hl
      have h2 : cargs.map a.eval = (Sy.dens ρ l).toArray := by rw [← h1, ← Array.toList_map]
      have h3 : fn.body.isNone = false := by cases hbd : fn.body <;> simp_all
      simp only [execOp, resolve, Deferred.ofValue, h.tm _ _ hf, Sy.den, Sem.run_bind, Sem.run_pure, Result.andThen_ok, h2, invoke, callFunc, run_program, hfn]
      simp only [hb.2, Bool.false_eq_true, if_false, h3, Sem.run_pure]
      simp [Sy.dens_eq]
     ·cases h1
    ·cases h1
   ·cases h1
  ·rcases xappend_is h1 with ⟨_, _, _, _, _, e⟩ | ⟨_, _, _, _, _, _, e⟩ <;> cases e
 all_goals ((repeat' split at hx) <;> first | (cases hx; done) | (obtain ⟨r, hr, e⟩ := Option.map_eq_some_iff.1 hx; cases e; done) | (obtain ⟨_, _, _, _, _, e⟩ := xmake_app hx; cases e; done) | skip)
theorem xeff_look {N : Nat} {W0 : Wd} {ρ : Env} {s : St} {a : Act} {W : Wd} (h : Holds N W0 ρ s a W) {o : Oper} {t : TypeId} {p : Sy} (hx : xeff P s o.op = some (.look t p)) {w : World} {v : Value}
  (hl : (Instr.loadAt t (p.den ρ)).run P w = .ok v w) : (execOp a.eval o).run P w = .ok (.value v) w := by
 obtain ⟨dst, op, oty, pos, after, guard⟩ := o
 dsimp only at hx
 cases op <;> simp only [xeff] at hx <;> try (cases hx; done)
 case load t' p' =>
  (repeat' split at hx) <;> first | (cases hx; done) | skip
  all_goals
   have e := Option.some.inj hx
   injection e with e1 e2
   subst e1 e2
  ·rename_i he _ _
   simp only [execOp, h.tm _ _ he, Sem.run_bind, hl, Result.andThen_ok, Sem.run_pure]
  ·rename_i he
   simp only [execOp, h.tm _ _ he, Sem.run_bind, hl, Result.andThen_ok, Sem.run_pure]
  ·rename_i he
   simp only [execOp, h.tm _ _ he, Sem.run_bind, hl, Result.andThen_ok, Sem.run_pure]
 case slice => rcases xslice_is hx with ⟨_, _, _, _, _, _, e⟩ | ⟨_, _, _, e⟩ <;> cases e
 case call c =>
  rcases xcallE_is hx with ⟨f, _, h1⟩ | ⟨_, h1⟩
  ·obtain ⟨_, _, e⟩ := xcallv_is h1; cases e
  ·rcases xappend_is h1 with ⟨_, _, _, _, _, e⟩ | ⟨_, _, _, _, _, _, e⟩ <;> cases e
 all_goals ((repeat' split at hx) <;> first | (cases hx; done) | (obtain ⟨r, hr, e⟩ := Option.map_eq_some_iff.1 hx; cases e; done) | (obtain ⟨_, _, _, _, _, e⟩ := xmake_app hx; cases e; done) | skip)
theorem xeff_rlook {N : Nat} {W0 : Wd} {ρ : Env} {s : St} {a : Act} {W : Wd} (h : Holds N W0 ρ s a W) {o : Oper} {t : TypeId} {p : Sy} {r : RowS} (hx : xeff P s o.op = some (.rlook t p r)) {w : World} {v : Value}
  (hl : (Instr.loadAt t (p.den ρ)).run P w = .ok v w) : r ∈ s.rw ∧ (execOp a.eval o).run P w = .ok (.value v) w := by
 obtain ⟨dst, op, oty, pos, after, guard⟩ := o
 dsimp only at hx
 cases op <;> simp only [xeff] at hx <;> try (cases hx; done)
 case load t' p' =>
  (repeat' split at hx) <;> first | (cases hx; done) | skip
  rename_i he _ _ hr
  have e := Option.some.inj hx
  injection e with e1 e2 e3
  subst e1 e2 e3
  exact ⟨rowAt_mem hr, by simp only [execOp, h.tm _ _ he, Sem.run_bind, hl, Result.andThen_ok, Sem.run_pure]⟩
 case slice => rcases xslice_is hx with ⟨_, _, _, _, _, _, e⟩ | ⟨_, _, _, e⟩ <;> cases e
 case call c =>
  rcases xcallE_is hx with ⟨f, _, h1⟩ | ⟨_, h1⟩
  ·obtain ⟨_, _, e⟩ := xcallv_is h1; cases e
  ·rcases xappend_is h1 with ⟨_, _, _, _, _, e⟩ | ⟨_, _, _, _, _, _, e⟩ <;> cases e
 all_goals ((repeat' split at hx) <;> first | (cases hx; done) | (obtain ⟨r, hr, e⟩ := Option.map_eq_some_iff.1 hx; cases e; done) | (obtain ⟨_, _, _, _, _, e⟩ := xmake_app hx; cases e; done) | skip)
theorem xeff_pan {N : Nat} {W0 : Wd} {ρ : Env} {s : St} {a : Act} {W : Wd} (h : Holds N W0 ρ s a W) {o : Oper} {v : Sy} (hx : xeff P s o.op = some (.pan v)) (w : World) :
  (execOp a.eval o).run P w = .halt (.panic (v.den ρ)) w := by
 obtain ⟨dst, op, oty, pos, after, guard⟩ := o
 dsimp only at hx
 cases op <;> simp only [xeff] at hx <;> try (cases hx; done)
 case panic x =>
  split at hx
  ·rename_i t' v' he
   have e := Option.some.inj hx
   injection e with e1
   subst e1
   simp [execOp, h.tm _ _ he, Sy.den, Instr.panic, goPanic]
  ·cases hx
 case slice => rcases xslice_is hx with ⟨_, _, _, _, _, _, e⟩ | ⟨_, _, _, e⟩ <;> cases e
 case call c =>
  rcases xcallE_is hx with ⟨f, _, h1⟩ | ⟨_, h1⟩
  ·obtain ⟨_, _, e⟩ := xcallv_is h1; cases e
  ·rcases xappend_is h1 with ⟨_, _, _, _, _, e⟩ | ⟨_, _, _, _, _, _, e⟩ <;> cases e
 all_goals ((repeat' split at hx) <;> first | (cases hx; done) | (obtain ⟨r, hr, e⟩ := Option.map_eq_some_iff.1 hx; cases e; done) | (obtain ⟨_, _, _, _, _, e⟩ := xmake_app hx; cases e; done) | skip)
end Go.SF
end
section
namespace Go.SF
open Go Go.RowKit
variable {P : Program}
theorem app_any (w : World) (base : Nat) (t ty e : TypeId) (i : TypeInfo) (z : Value) (ht : P.underlying t = some (.slice e)) (hi : P.info? e = some i) (hz : i.zero = some z) (hzs : z.cells.size = i.size) (hsz : 0 < i.size)
  (v : Value) (n : Nat) (xs : List Value) (hown : w.ownsRow base e i.size v n xs) (x : Value) (m : Nat) (news : List Value)
  (hx : (x = .slice none 0 0 ∧ m = 0 ∧ news = []) ∨ ∃ ad c, x = .slice (some ad) m c ∧ news.length = m * i.size ∧ (∀ (j : Nat) u, news[j]? = some u → w.cell? (ad.add j) = some u) ∧ ∀ u ∈ news, u.oneCell' = true)
  (hm : n + m ≤ maxLen) (hb : (n + m) * i.bytes ≤ 140737488355328) (hbase : base ≤ w.heap.size) :
  ∃ a c w', (Builtin.append_ #[t, t] ty #[v, x]).run P w = .ok (.slice a (n + m) c) w' ∧ w'.ownsRow base e i.size (.slice a (n + m) c) (n + m) (xs ++ news) ∧ w.grownBy w' v.ownBlock ∧
   (∀ k, (Value.slice a (n + m) c).ownBlock = some k → v.ownBlock = some k ∨ w.heap.size ≤ k) ∧ (0 < n + m → a.isSome = true) := by
 have shape : ∀ {u : Value} {w' : World} {k : Nat} {l : List Value}, w'.ownsRow base e i.size u k l → ∃ a c, u = .slice a k c ∧ (0 < k → a.isSome = true) := fun h => by
  rcases h.2 with ⟨rfl, rfl⟩ | ⟨g, cap, cur, rfl, _⟩
  ·exact ⟨none, 0, rfl, fun h => by omega⟩
  ·exact ⟨_, _, rfl, fun _ => rfl⟩
 rcases hx with ⟨rfl, rfl, rfl⟩ | ⟨ad, c, rfl, hl, hnews, h1⟩
 ·have hr := run_append_owned_none (P := P) (w := w) base t ty e i i.size ht hi v n xs hown
  obtain ⟨a, c, rfl, hs⟩ := shape hown
  exact ⟨a, c, w, hr, by simpa using hown, ⟨rfl, rfl, rfl, Nat.le_refl _, fun _ _ _ => rfl⟩, fun k hk => .inl hk, hs⟩
 ·obtain ⟨v', w', hr, h2, h3, h4⟩ := run_append_own (P := P) w base t ty e i z i.size i.bytes ht hi hz rfl rfl hzs hsz v n xs hown ad m c news hl hnews h1 hm hb hbase
  obtain ⟨a, c', rfl, hs⟩ := shape h2
  refine ⟨a, c', w', hr, h2, h3, fun k hk => ?_, hs⟩
  rcases hown.2 with ⟨rfl, rfl⟩ | ⟨g, cap, cur, rfl, hbg, hg, hnc, hcm, hcs, htake⟩
  ·by_cases hm0 : m = 0
   ·subst hm0
    rw [(h4.2 ⟨rfl, rfl⟩ : Value.slice a (0 + 0) c' = _)] at hk
    cases hk
   ·have hr2 := run_append_nil (P := P) w t ty e i z ht hi hz ad m c news hl hnews (by omega) (by simp only [maxLen] at hm; omega) (by have hb' := hb; simp only [Nat.zero_add] at hb'; omega)
    rw [hr2] at hr
    injection hr with e1 e2
    rw [← e1] at hk
    simp only [Value.ownBlock, Option.some.injEq] at hk
    exact .inr (by omega)
  ·by_cases hroom : n + m ≤ cap
   ·obtain ⟨w2, hr2, _⟩ := run_append_fits (P := P) w base t ty e i i.size ht hi rfl g n cap xs hown ad m c news hl hnews h1 hroom
    rw [hr2] at hr
    injection hr with e1 e2
    rw [← e1] at hk
    exact .inl hk
   ·have hr2 := run_append_grow (P := P) w t ty e i z ht hi hz ⟨g, 0, none⟩ n cap xs hown.1 (hown.cells rfl) ad m c news hl hnews (by omega) (by simp only [maxLen] at hm; omega) (growslice_fits (by omega) hb)
    rw [hr2] at hr
    injection hr with e1 e2
    rw [← e1] at hk
    simp only [Value.ownBlock, Option.some.injEq] at hk
    exact .inr (by omega)
theorem rowOf_spec {N : Nat} {W0 : Wd} {ρ : Env} {s : St} {a : Act} {W : Wd} (h : Holds N W0 ρ s a W) {t : TypeId} {v : Sy} {r : RowS} {rest : List RowS} {ie : TypeInfo} (hr : rowOf P s.rw t v = some (r, rest, ie)) :
  P.underlying t = some (.slice r.e) ∧ P.info? r.e = some ie ∧ r.sz = ie.size ∧ r.v = v ∧ r.at N ρ W.w ∧ rest.Sublist s.rw ∧ (∀ q ∈ rest, ∀ k, ownB ρ r = some k → ownB ρ q ≠ some k) ∧
   ∀ k, ownB ρ r = some k → ¬ W.I k ∧ ∀ b ∈ s.hp, gd ρ.M b.m 0 ≠ k := by
 unfold rowOf at hr
 split at hr
 ·rename_i el hu
  split at hr
  ·rename_i ie' hie
   split at hr
   ·have e := Option.some.inj hr
    injection e with e1 e2
    injection e2 with e2 e3
    subst e1 e2 e3
    refine ⟨hu, hie, rfl, rfl, ⟨World.ownsRow_nil _ _ _ _, fun u hu => by cases hu⟩, List.Sublist.refl _, fun q _ k hk => ?_, fun k hk => ?_⟩
    ·simp [ownB, Sy.den, Value.ownBlock] at hk
    ·simp [ownB, Sy.den, Value.ownBlock] at hk
   ·rename_i v' _
    split at hr
    ·rename_i r' hf
     split at hr
     ·rename_i hes
      have e := Option.some.inj hr
      injection e with e1 e2
      injection e2 with e2 e3
      subst e1 e2 e3
      obtain ⟨s1, s2, s3, s4⟩ := findR_spec (Rel := fun r q => ∀ k, ownB ρ r = some k → ownB ρ q ≠ some k) (fun a b hab k hk hk' => hab k hk' hk) hf h.rnd
      exact ⟨by rw [hes.1]; exact hu, by rw [hes.1]; exact hie, hes.2, s2, h.rw _ s1, s3, s4, h.rown _ s1⟩
     ·cases hr
    ·cases hr
  ·cases hr
 ·cases hr
theorem gd_len {α : Type} (l m : List α) (x y : α) (n : Nat) (h : l.length = n) : gd (l ++ y :: m) n x = y := by
 subst h
 induction l with
 | nil => rfl
 | cons a l ih => exact ih
theorem conts_append (ρ : Env) (l m : List Seg) : conts ρ (l ++ m) = conts ρ l ++ conts ρ m := by simp [conts]
theorem conts_s (ρ : Env) : ∀ l : List Sy, conts ρ (l.map .s) = Sy.dens ρ l
 | [] => rfl
 | x :: l => by have := conts_s ρ l; unfold conts at this ⊢; simp only [List.map_cons, List.flatMap_cons, Seg.den, this, Sy.dens, List.cons_append, List.nil_append]
theorem Holds.app {N : Nat} {W0 : Wd} {ρ : Env} {s : St} {a : Act} {W : Wd} (h : Holds N W0 ρ s a W) (ho : s.ok = true) {r : RowS} {rest : List RowS} {k : E} {xs : List Seg}
  (hr : r.at N ρ W.w) (hsub : rest.Sublist s.rw) (hne : ∀ q ∈ rest, ∀ k, ownB ρ r = some k → ownB ρ q ≠ some k) (hown : ∀ k, ownB ρ r = some k → ¬ W.I k ∧ ∀ b ∈ s.hp, gd ρ.M b.m 0 ≠ k)
  (hk : isNat k = true) (hn : isNat r.n = true) (hko : k.ok s.c = true) (hxo : xs.all (Seg.ok s.c) = true) (hro : r.ok s.c = true)
  {ad : Option Addr} {c : Nat} {w' : World} (h2 : w'.ownsRow N r.e r.sz (.slice ad ((r.n.i ρ).toNat + (k.i ρ).toNat) c) ((r.n.i ρ).toNat + (k.i ρ).toNat) (conts ρ r.xs ++ conts ρ xs))
  (hone : ∀ u ∈ conts ρ xs, u.oneCell' = true) (hg : W.w.grownBy w' (r.v.den ρ).ownBlock)
  (hb : ∀ k', (Value.slice ad ((r.n.i ρ).toNat + (k.i ρ).toNat) c).ownBlock = some k' → (r.v.den ρ).ownBlock = some k' ∨ W.w.heap.size ≤ k') (d : Option Nat) :
  ∃ W' : Wd, W'.w = w' ∧ Ext W W' ∧ (Sy.slc s.c.A (addE r.n k) (.nv s.c.N)).den (ρ.push { A := [ad], N := [c] }) = .slice ad ((r.n.i ρ).toNat + (k.i ρ).toNat) c ∧
   Holds N W0 (ρ.push { A := [ad], N := [c] }) (appSt s d r rest k xs) (a.put d (.slice ad ((r.n.i ρ).toNat + (k.i ρ).toNat) c)) W' := by
 have hd : ({ A := [ad], N := [c] } : Env).good := fun v hv => by cases hv
 have h0 := h.push ho hd
 have keepW : ∀ b, b < W.w.heap.size → (∀ k, (r.v.den ρ).ownBlock = some k → b ≠ k) → w'.heap[b]? = W.w.heap[b]? := fun b h1 h3 => hg.block b h1 fun e => h3 b e.symm rfl
 let W' : Wd := ⟨w', W.I, fun b hb => Nat.lt_of_lt_of_le (W.lt b hb) hg.size⟩
 have x : Ext W W' := ⟨hg.size, fun _ hb => hb, fun b hb => keepW b (W.lt b hb) fun k hk' e => (hown k hk').1 (e ▸ hb), hg.os, hg.tape, hg.output⟩
 have hMM : ∀ b ∈ s.hp, gd (ρ.push { A := [ad], N := [c] }).M b.m 0 = gd ρ.M b.m 0 := fun b hb => by
  simp only [St.ok, Bool.and_eq_true] at ho
  have := List.all_eq_true.1 ho.1.1.1.2 b hb
  simp only [Blk.ok, Bool.and_eq_true] at this
  exact M_push (by rw [h.cnt]; exact of_decide_eq_true this.1)
 have hRR : ∀ q ∈ s.rw, ownB (ρ.push { A := [ad], N := [c] }) q = ownB ρ q := fun q hq => by
  simp only [St.ok, Bool.and_eq_true] at ho
  exact ownB_push (by rw [h.cnt]; exact List.all_eq_true.1 ho.1.2 q hq)
 have hA : gd (ρ.push { A := [ad], N := [c] }).A s.c.A none = ad := by
  show gd (ρ.A ++ [ad]) s.c.A none = ad
  rw [← h.cnt]; exact gd_last _ _ _
 have hN : gd (ρ.push { A := [ad], N := [c] }).N s.c.N 0 = c := by
  show gd (ρ.N ++ [c]) s.c.N 0 = c
  rw [← h.cnt]; exact gd_last _ _ _
 have hki := (E.push ρ { A := [ad], N := [c] } k (by rw [h.cnt]; exact hko)).1
 have hrp := RowS.push (d := { A := [ad], N := [c] }) (r := r) (by rw [h.cnt]; exact hro)
 have hxp := conts_push (d := { A := [ad], N := [c] }) (xs := xs) (by rw [h.cnt]; exact hxo)
 have p1 := isNat_i (ρ := ρ) hk
 have p2 := isNat_i (ρ := ρ) hn
 have hsum : ((addE r.n k).i (ρ.push { A := [ad], N := [c] })).toNat = (r.n.i ρ).toNat + (k.i ρ).toNat := by rw [addE_i, hki, hrp.2.1]; omega
 have hden : (Sy.slc s.c.A (addE r.n k) (.nv s.c.N)).den (ρ.push { A := [ad], N := [c] }) = .slice ad ((r.n.i ρ).toNat + (k.i ρ).toNat) c := by
  simp only [Sy.den, E.i, hA, hsum, hN, Int.toNat_natCast]
 refine ⟨W', rfl, x, hden, ?_⟩
 have h1 : Holds N W0 (ρ.push { A := [ad], N := [c] }) { s with rw := ⟨.slc s.c.A (addE r.n k) (.nv s.c.N), addE r.n k, r.e, r.sz, r.xs ++ xs⟩ :: rest, c := s.c.add { A := 1, N := 1 } } a W' := by
  refine ⟨h0.cnt, h0.good, h0.tm, h0.len, h0.df, h0.hp.keep fun b hb => ?_, h0.ro.keep fun b hb => x.keep _ (h0.ext.sub _ (h0.old b hb)), ?_, h0.old, h0.own, ?_, h0.nd, ?_, h0.kn, h0.sub, h0.nle, h0.ext.trans x⟩
  ·refine keepW _ (h0.hp.lt hb) fun k hk' e => ?_
   rw [hMM b hb] at e
   exact (hown k hk').2 b hb e
  ·intro q hq
   rcases List.mem_cons.1 hq with e | e
   ·subst e
    refine ⟨?_, ?_⟩
    ·show w'.ownsRow _ r.e r.sz (Sy.den _ _) _ (conts _ (r.xs ++ xs))
     rw [hden, conts_append, hrp.2.2, hxp]
     show w'.ownsRow _ _ _ _ ((addE r.n k).i _).toNat _
     rw [hsum]
     exact h2
    ·show ∀ u ∈ conts _ (r.xs ++ xs), _
     rw [conts_append, hrp.2.2, hxp]
     intro u hu
     rcases List.mem_append.1 hu with h3 | h3
     ·exact hr.2 u h3
     ·exact hone u h3
   ·have hqm := hsub.subset e
    refine (h0.rw q hqm).keep fun k' hk' => keepW _ ((h0.rw q hqm).lt hk').2 fun k2 hk2 e2 => ?_
    rw [hRR q hqm] at hk'
    subst e2
    exact hne q e _ hk2 hk'
  ·intro q hq k' hk'
   rcases List.mem_cons.1 hq with e | e
   ·subst e
    unfold ownB at hk'
    rw [hden] at hk'
    rcases hb k' hk' with h3 | h3
    ·exact ⟨(hown k' h3).1, fun b hb => by rw [hMM b hb]; exact (hown k' h3).2 b hb⟩
    ·refine ⟨fun hI => ?_, fun b hb => ?_⟩
     ·have := W.lt _ hI; omega
     ·have := h0.hp.lt hb; omega
   ·exact h0.rown q (hsub.subset e) k' hk'
  ·show List.Pairwise _ (_ :: rest)
   rw [List.pairwise_cons]
   refine ⟨fun q hq k' hk' hk2 => ?_, h0.rnd.sublist hsub⟩
   have hqm := hsub.subset hq
   unfold ownB at hk'
   rw [hden] at hk'
   have hlt := ((h0.rw q hqm).lt hk2).2
   rw [hRR q hqm] at hk2
   rcases hb k' hk' with h3 | h3
   ·exact hne q hq k' h3 hk2
   ·omega
 exact h1.put d _ (some _) fun y hy => by obtain rfl := Option.some.inj hy; exact hden.symm
theorem run_append_call {N : Nat} {W0 : Wd} {ρ : Env} {s : St} {a : Act} {W : Wd} (h : Holds N W0 ρ s a W) {c : Call} {dst : Option Tmp} {oty : TypeId} {pos : String} {after : Array Edge} {guard : Option (Nat × Bool)} {x y : Operand} {t : TypeId} (hc : c.callee = .builtin .append)
  (ha : c.args.toList = [x, y]) (hts : c.argTypes.toList = [t, t]) {v u : Value} {w : World} (hv : a.eval x = v) (hu : a.eval y = u) {r : Value} {w' : World} (hr : (Builtin.append_ #[t, t] oty #[v, u]).run P w = .ok r w') :
  (execOp a.eval ⟨dst, .call c, oty, pos, after, guard⟩).run P w = .ok (.value r) w' := by
 obtain ⟨callee, args, ts⟩ := c
 dsimp only at hc ha hts
 subst hc
 have e1 : args = #[x, y] := by apply Array.ext'; simpa using ha
 have e2 : ts = #[t, t] := by apply Array.ext'; simpa using hts
 subst e1 e2
 simp only [execOp, resolve, invoke, builtin, Sem.run_bind, Sem.run_pure, Result.andThen_ok, List.map_toArray, List.map_cons, List.map_nil, hv, hu, hr]
theorem oks_mem {c : Cnt} : ∀ {l : List Sy} {x : Sy}, Sy.oks c l = true → x ∈ l → x.ok c = true
 | [], _, _, h => by cases h
 | y :: l, x, h, hx => by
  simp only [Sy.oks, Bool.and_eq_true] at h
  rcases List.mem_cons.1 hx with e | e
  ·subst e; exact h.1
  ·exact oks_mem h.2 e
theorem rowOf_mem {rw : List RowS} {t : TypeId} {v : Sy} {r : RowS} {rest : List RowS} {ie : TypeInfo} (hr : rowOf P rw t v = some (r, rest, ie)) : r.v = .nils ∨ r ∈ rw := by
 unfold rowOf at hr
 split at hr
 ·split at hr
  ·split at hr
   ·have e := Option.some.inj hr
    injection e with e1 e2
    subst e1
    exact .inl rfl
   ·split at hr
    ·rename_i r' hf
     split at hr
     ·have e := Option.some.inj hr
      injection e with e1 e2
      subst e1
      exact .inr ((findR_perm hf).1.mem_iff.2 (List.mem_cons_self ..))
     ·cases hr
    ·cases hr
  ·cases hr
 ·cases hr
theorem keeps_grown {ρ : Env} {W : Wd} {rw : List RowS} {r : RowS} {w' : World} (hg : W.w.grownBy w' (r.v.den ρ).ownBlock) (hm : r.v = .nils ∨ r ∈ rw) : Keeps (W.but (rowNos ρ rw)) w' :=
 ⟨hg.os, hg.tape, hg.output, hg.size, fun b hb => hg.block b hb.1 fun e => by
  rcases hm with h | h
  ·rw [h] at e; simp [Sy.den, Value.ownBlock] at e
  ·exact hb.2 (rowNos_mem.2 ⟨r, h, e.symm⟩)⟩
theorem Holds.newr {N : Nat} {W0 : Wd} {ρ : Env} {s : St} {a : Act} {W : Wd} (h : Holds N W0 ρ s a W) (ho : s.ok = true) (ty : TypeId) (cs : List Sy) (hcs : Sy.oks s.c cs = true) {n z : Nat} (hl : cs.length = n * z) (hcell : ∀ x ∈ cs, x.cell = true) (hn : n ≤ 1000000) (dst : Option Nat) :
  ∃ W' : Wd, W'.w = W.w.alloc (.cells (Sy.dens ρ cs).toArray ty) ∧ Ext W W' ∧
   Holds N W0 (ρ.push { A := [some ⟨W.w.heap.size, 0, none⟩], N := [n] }) (appSt s dst (nilRow ty z) s.rw (.il n) (cs.map .s)) (a.put dst (.slice (some ⟨W.w.heap.size, 0, none⟩) n n)) W' := by
 have hd : (Sy.dens ρ cs).length = n * z := by rw [Sy.dens_eq, List.length_map, hl]
 have hone : ∀ u ∈ conts ρ (cs.map .s), u.oneCell' = true := by
  rw [conts_s, Sy.dens_eq]
  intro u hu
  obtain ⟨y, hy, rfl⟩ := List.mem_map.1 hu
  exact Sy.cell_den h.good _ (hcell y hy)
 have hsum : ((nilRow ty z).n.i ρ).toNat + ((E.il n).i ρ).toNat = n := by simp [nilRow, E.i]
 have key := h.app ho (r := nilRow ty z) (rest := s.rw) (k := .il n) (xs := cs.map .s) (ad := some ⟨W.w.heap.size, 0, none⟩) (c := n) (w' := W.w.alloc (.cells (Sy.dens ρ cs).toArray ty))
  ⟨World.ownsRow_nil _ _ _ _, fun u hu => by cases hu⟩ (List.Sublist.refl _) (fun q _ k hk => by simp [ownB, nilRow, Sy.den, Value.ownBlock] at hk) (fun k hk => by simp [ownB, nilRow, Sy.den, Value.ownBlock] at hk) (by simp [isNat]) (by simp [nilRow, isNat]) (by simp [E.ok])
  (by
   refine List.all_eq_true.2 fun x hx => ?_
   obtain ⟨y, hy, rfl⟩ := List.mem_map.1 hx
   exact oks_mem hcs hy)
  (by simp [nilRow, RowS.ok, Sy.ok, E.ok])
  (by
   rw [hsum, conts_s]
   show World.ownsRow _ _ ty z _ _ (Sy.dens ρ cs)
   refine ⟨hd, .inr ⟨W.w.heap.size, n, (Sy.dens ρ cs).toArray, rfl, h.nsz, by show (W.w.heap.push _)[W.w.heap.size]? = _; simp, Nat.le_refl _, by simp only [maxLen]; omega, by simp [hd], ?_⟩⟩
   rw [← hd]; simp)
  hone (World.grownBy_alloc _ _ _) (fun k' hk' => by
   simp only [Value.ownBlock, Option.some.injEq] at hk'
   exact .inr (by omega)) dst
 rw [hsum] at key
 obtain ⟨W', e1, e2, e3, e4⟩ := key
 exact ⟨W', e1, e2, e4⟩
theorem rowNos_push {N : Nat} {W0 : Wd} {ρ d : Env} {s : St} {a : Act} {W : Wd} (h : Holds N W0 ρ s a W) (ho : s.ok = true) : rowNos (ρ.push d) s.rw = rowNos ρ s.rw := by
 simp only [St.ok, Bool.and_eq_true] at ho
 have : ∀ l : List RowS, (∀ q ∈ l, q ∈ s.rw) → rowNos (ρ.push d) l = rowNos ρ l := fun l => by
  induction l with
  | nil => intro _; rfl
  | cons q l ih =>
   intro hl
   have e1 := ownB_push (d := d) (r := q) (ρ := ρ) (by rw [h.cnt]; exact List.all_eq_true.1 ho.1.2 q (hl q (List.mem_cons_self ..)))
   have e2 := ih fun x hx => hl x (List.mem_cons_of_mem _ hx)
   unfold rowNos at *
   rw [List.filterMap_cons, List.filterMap_cons, e1, e2]
 exact this s.rw fun _ h => h
theorem app_blocks {N : Nat} {W0 : Wd} {ρ : Env} {s : St} {a : Act} {W : Wd} (h : Holds N W0 ρ s a W) (ho : s.ok = true) {r : RowS} {rest : List RowS} {k : E} {xs : List Seg} {d : Option Nat} (hm : r.v = .nils ∨ r ∈ s.rw) (hsub : rest.Sublist s.rw) {ad : Option Addr} {n c : Nat}
  (hden : (Sy.slc s.c.A (addE r.n k) (.nv s.c.N)).den (ρ.push { A := [ad], N := [c] }) = .slice ad n c) (hb : ∀ k', (Value.slice ad n c).ownBlock = some k' → (r.v.den ρ).ownBlock = some k' ∨ W.w.heap.size ≤ k') :
  ∀ q ∈ (appSt s d r rest k xs).rw, ∀ k', ownB (ρ.push { A := [ad], N := [c] }) q = some k' → k' ∈ rowNos ρ s.rw ∨ W.w.heap.size ≤ k' := by
 intro q hq k' hk'
 rcases List.mem_cons.1 hq with e | e
 ·subst e
  unfold ownB at hk'
  rw [hden] at hk'
  rcases hb k' hk' with h3 | h3
  ·rcases hm with h4 | h4
   ·rw [h4] at h3; simp [Sy.den, Value.ownBlock] at h3
   ·exact .inl (rowNos_mem.2 ⟨r, h4, h3⟩)
  ·exact .inr h3
 ·have hqm := hsub.subset e
  simp only [St.ok, Bool.and_eq_true] at ho
  rw [ownB_push (by rw [h.cnt]; exact List.all_eq_true.1 ho.1.2 q hqm)] at hk'
  exact .inl (rowNos_mem.2 ⟨q, hqm, hk'⟩)
theorem xeff_app {N : Nat} {W0 : Wd} {ρ : Env} {s : St} {a : Act} {W : Wd} (h : Holds N W0 ρ s a W) (ho : s.ok = true) {o : Oper} {r : RowS} {rest : List RowS} {k : E} {xs : List Seg} {b : Nat} (hx : xeff P s o.op = some (.app r rest k xs b))
  (hk : isNat k = true) (hn : isNat r.n = true) (hko : k.ok s.c = true) (hxo : xs.all (Seg.ok s.c) = true) (hro : r.ok s.c = true) (hle : (leE (addE r.n k) (.il (most b))).b ρ = true) :
  ∃ ad c w' W', (execOp a.eval o).run P W.w = .ok (.value (.slice ad ((r.n.i ρ).toNat + (k.i ρ).toNat) c)) w' ∧ W'.w = w' ∧ Ext W W' ∧ (0 < (addE r.n k).i ρ → ad.isSome = true) ∧
   Holds N W0 (ρ.push { A := [ad], N := [c] }) (appSt s o.dst r rest k xs) (a.put o.dst (.slice ad ((r.n.i ρ).toNat + (k.i ρ).toNat) c)) W' ∧ Keeps (W.but (rowNos ρ s.rw)) w' ∧ (∀ q ∈ (appSt s o.dst r rest k xs).rw, ∀ k', ownB (ρ.push { A := [ad], N := [c] }) q = some k' → k' ∈ rowNos ρ s.rw ∨ W.w.heap.size ≤ k') := by
 have p1 := isNat_i (ρ := ρ) hk
 have p2 := isNat_i (ρ := ρ) hn
 have hle' : (r.n.i ρ).toNat + (k.i ρ).toNat ≤ most b := by
  rw [leE_b, addE_i] at hle
  have := of_decide_eq_true hle
  simp only [E.i] at this
  omega
 obtain ⟨hm1, hm2⟩ := most_le hle'
 obtain ⟨dst, op, oty, pos, after, guard⟩ := o
 dsimp only at hx ⊢
 cases op <;> simp only [xeff] at hx <;> try (cases hx; done)
 case slice => rcases xslice_is hx with ⟨_, _, _, _, _, _, e⟩ | ⟨_, _, _, e⟩ <;> cases e
 case makeSlice t l c =>
  split at hx
  ·(repeat' split at hx) <;> first | (cases hx; done) | skip
  ·obtain ⟨el, kl, nl, kc, ie, rfl, rfl, rfl, rfl, hu, hl, hcc, hie, hz, hsz, hbytes⟩ := xmake_is hx
   subst hbytes
   have hel := h.tm _ _ hl
   have hec := h.tm _ _ hcc
   simp only [nilRow, E.i, Int.toNat_zero, Nat.zero_add] at hm1 hm2 ⊢
   have hr := run_make (P := P) W.w t el ie (.int .i64 0) hu hie hz kl kc (k.i ρ) (k.i ρ) p1 (Int.le_refl _) (by
    have : (((k.i ρ).toNat * ie.bytes : Nat) : Int) ≤ 140737488355328 := by omega
    rw [Int.natCast_mul, Int.toNat_of_nonneg p1, Int.mul_comm] at this
    omega) (by simp only [maxLen] at hm1; omega)
   have hmc : (madeCells (Value.int .i64 0).cells ((k.i ρ).toNat * ie.size)).toList = List.replicate (k.i ρ).toNat (.int .i64 0) := by
    rw [hsz, Nat.mul_one]
    refine List.ext_getElem (by simp [size_madeCells]) fun j h1 h2 => ?_
    simp [madeCells, Value.cells, Nat.mod_one]
   have hconts : conts ρ [Seg.z k] = List.replicate (k.i ρ).toNat (.int .i64 0) := by simp [conts, Seg.den]
   have key := h.app ho (r := nilRow el 1) (rest := s.rw) (k := k) (xs := [.z k]) (ad := some ⟨W.w.heap.size, 0, none⟩) (c := (k.i ρ).toNat) (w' := W.w.alloc (.cells (madeCells (Value.int .i64 0).cells ((k.i ρ).toNat * ie.size)) el))
    ⟨World.ownsRow_nil _ _ _ _, fun u hu => by cases hu⟩ (List.Sublist.refl _) (fun q _ k hk => by simp [ownB, nilRow, Sy.den, Value.ownBlock] at hk) (fun k hk => by simp [ownB, nilRow, Sy.den, Value.ownBlock] at hk) hk (by simp [nilRow, isNat]) hko hxo hro
    (by
     simp only [nilRow, E.i, Int.toNat_zero, Nat.zero_add]
     rw [hconts]
     show World.ownsRow _ _ el 1 _ _ (List.replicate (k.i ρ).toNat (.int .i64 0))
     refine ⟨by simp, .inr ⟨W.w.heap.size, (k.i ρ).toNat, madeCells (Value.int .i64 0).cells ((k.i ρ).toNat * ie.size), rfl, h.nsz, by show (W.w.heap.push _)[W.w.heap.size]? = _; simp, Nat.le_refl _, hm1, by rw [size_madeCells, hsz], ?_⟩⟩
     rw [hmc]; simp)
    (by rw [hconts]; intro u hu; rw [(List.mem_replicate.1 hu).2]; rfl) (World.grownBy_alloc _ _ _) (fun k' hk' => by
     simp only [Value.ownBlock, Option.some.injEq] at hk'
     exact .inr (by omega)) dst
   simp only [nilRow, E.i, Int.toNat_zero, Nat.zero_add] at key
   obtain ⟨W', e1, e2, e3, e4⟩ := key
   refine ⟨some ⟨W.w.heap.size, 0, none⟩, (k.i ρ).toNat, _, W', ?_, e1, e2, fun _ => rfl, e4, keeps_grown (r := nilRow el 1) (World.grownBy_alloc _ _ _) (.inl rfl), ?_⟩
   ·simp [execOp, hel, hec, Sy.den, hr]
   ·exact app_blocks h ho (r := nilRow el 1) (k := k) (xs := [.z k]) (.inl rfl) (List.Sublist.refl _) e3 (fun k' hk' => by
     simp only [Value.ownBlock, Option.some.injEq] at hk'
     exact .inr (by omega))
 case call c =>
  rcases xcallE_is hx with ⟨f, _, h1⟩ | ⟨hc, h1⟩
  ·obtain ⟨_, _, e⟩ := xcallv_is h1; cases e
  ·unfold xappend at h1
   split at h1
   ·rename_i t t' x y hts has
    split at h1
    ·rename_i htt; subst htt
     split at h1
     ·rename_i v u hv hu
      split at h1
      ·rename_i r' rest' ie hro'
       split at h1
       ·rename_i z hz
        split at h1
        ·rename_i hzz
         obtain ⟨g1, g2, g3, g4, g5, g6, g7, g8⟩ := rowOf_spec h hro'
         have key : ∀ (x' : Value) (news : List Value), r = r' → rest = rest' → b = ie.bytes → conts ρ xs = news → a.eval y = x' →
           ((x' = .slice none 0 0 ∧ (k.i ρ).toNat = 0 ∧ news = []) ∨ ∃ ad c, x' = .slice (some ad) (k.i ρ).toNat c ∧ news.length = (k.i ρ).toNat * ie.size ∧ (∀ (j : Nat) u, news[j]? = some u → W.w.cell? (ad.add j) = some u) ∧ ∀ u ∈ news, u.oneCell' = true) →
           ∃ ad c' w' W', (execOp a.eval ⟨dst, .call c, oty, pos, after, guard⟩).run P W.w = .ok (.value (.slice ad ((r.n.i ρ).toNat + (k.i ρ).toNat) c')) w' ∧ W'.w = w' ∧ Ext W W' ∧ (0 < (addE r.n k).i ρ → ad.isSome = true) ∧
            Holds N W0 (ρ.push { A := [ad], N := [c'] }) (appSt s dst r rest k xs) (a.put dst (.slice ad ((r.n.i ρ).toNat + (k.i ρ).toNat) c')) W' ∧ Keeps (W.but (rowNos ρ s.rw)) w' ∧ (∀ q ∈ (appSt s dst r rest k xs).rw, ∀ k', ownB (ρ.push { A := [ad], N := [c'] }) q = some k' → k' ∈ rowNos ρ s.rw ∨ W.w.heap.size ≤ k') := by
          rintro x' news rfl rfl rfl hcx hex hsrc
          have hown := g5.1
          rw [g3] at hown
          obtain ⟨ad, c', w', hr, q2, q3, q4, q5⟩ := app_any (P := P) W.w N t oty r.e ie z g1 g2 hz hzz.1 hzz.2 (r.v.den ρ) (r.n.i ρ).toNat (conts ρ r.xs) hown x' (k.i ρ).toNat news hsrc hm1 hm2 h.nsz
          rw [← hcx] at q2
          have hone : ∀ u ∈ conts ρ xs, u.oneCell' = true := by
           rw [hcx]
           rcases hsrc with ⟨_, _, rfl⟩ | ⟨_, _, _, _, _, h1⟩
           ·intro u hu; cases hu
           ·exact h1
          rw [← g3] at q2
          obtain ⟨W', e1, e2, e3, e4⟩ := h.app ho g5 g6 g7 g8 hk hn hko hxo hro q2 hone q3 q4 dst
          have hrv : a.eval x = r.v.den ρ := by rw [g4]; exact h.tm _ _ hv
          refine ⟨ad, c', w', W', run_append_call h hc has hts hrv hex hr, e1, e2, fun h0 => q5 ?_, e4, keeps_grown q3 (rowOf_mem hro'), app_blocks h ho (rowOf_mem hro') g6 e3 q4⟩
          rw [addE_i] at h0
          omega
         split at h1
         ·rename_i m o k' cc
          split at h1
          ·rename_i bk hbk
           split at h1
           ·rename_i hl
            have e := Option.some.inj h1
            injection e with e1 e2 e3 e4 e5
            subst e3 e4
            obtain ⟨hmem, rfl⟩ := findB_mem hbk
            have hat := h.hp bk hmem
            unfold Blk.at at hat
            refine key _ _ e1.symm e2.symm e5.symm (conts_s ρ _) (h.tm _ _ hu) (.inr ⟨⟨gd ρ.M bk.m 0, o, none⟩, cc, by simp [Sy.den, E.i], by simp [E.i, Sy.dens_eq]; simpa using hl.1, fun j u hj => ?_, fun u hu' => ?_⟩)
            ·rw [add_none]
             rw [dens_getElem?] at hj
             have hj' : (List.take (k' * ie.size) (List.drop o bk.cs))[j]? = bk.cs[o + j]? := by
              rw [List.getElem?_take]
              split
              ·rw [List.getElem?_drop]
              ·rename_i hlt
               rw [List.getElem?_eq_none (by rw [hl.1]; omega)] at hj
               cases hj
             rw [hj'] at hj
             simp [World.cell?, hat, dens_getElem?, hj]
            ·rw [Sy.dens_eq] at hu'
             obtain ⟨y', hy', rfl⟩ := List.mem_map.1 hu'
             exact Sy.cell_den h.good _ (by have := List.all_eq_true.1 hl.2 y' hy'; exact this)
           ·cases h1
          ·cases h1
         ·rename_i aa kk cc
          split at h1
          ·rename_i q hq
           split at h1
           ·rename_i hqq
            have e := Option.some.inj h1
            injection e with e1 e2 e3 e4 e5
            subst e3 e4
            obtain ⟨s1, s2, s3, s4⟩ := findR_spec (Rel := fun r q => ∀ k, ownB ρ r = some k → ownB ρ q ≠ some k) (fun a b hab k hk hk' => hab k hk' hk) hq h.rnd
            have hq5 := h.rw q s1
            simp only [Bool.and_eq_true, decide_eq_true_eq] at hqq
            have hqn := E.same_eq hqq.2.2.2
            have hqv : a.eval y = q.v.den ρ := by rw [s2]; exact h.tm _ _ hu
            refine key _ _ e1.symm e2.symm e5.symm rfl hqv ?_
            have hq1 := hq5.1
            rw [hqn] at hq1
            rcases hq1.2 with ⟨f1, f2⟩ | ⟨g, cap, cur, f1, _⟩
            ·left
             refine ⟨f1, f2, ?_⟩
             have := hq1.1
             rw [f2] at this
             exact List.eq_nil_of_length_eq_zero (by simpa using this)
            ·right
             refine ⟨⟨g, 0, none⟩, cap, f1, ?_, fun j u hj => ?_, hq5.2⟩
             ·rw [hq1.1, hqq.2.1, g3]
             ·exact hq1.cells (g := g) (by rw [f1]; rfl) j u hj
           ·cases h1
          ·split at h1 <;> cases h1
         ·cases h1
        ·cases h1
       ·cases h1
      ·cases h1
     ·cases h1
    ·cases h1
   ·cases h1
 all_goals ((repeat' split at hx) <;> first | (cases hx; done) | (obtain ⟨r, hr, e⟩ := Option.map_eq_some_iff.1 hx; cases e; done) | (obtain ⟨_, _, _, _, _, e⟩ := xmake_app hx; cases e; done) | skip)
def Cnt.le (c d : Cnt) : Prop := c.I ≤ d.I ∧ c.N ≤ d.N ∧ c.B ≤ d.B ∧ c.T ≤ d.T ∧ c.V ≤ d.V ∧ c.A ≤ d.A ∧ c.M ≤ d.M ∧ c.L ≤ d.L
theorem Cnt.le_add (c d : Cnt) : c.le (c.add d) := by simp [Cnt.le, Cnt.add]
theorem E.ok_le {c d : Cnt} (hl : c.le d) (e : E) : e.ok c = true → e.ok d = true := by
 obtain ⟨h1, h2, h3, h4, h5, h6, h7, h8⟩ := hl
 induction e with
 | bin o a b iha ihb => intro h; simp only [E.ok, Bool.and_eq_true] at h ⊢; exact ⟨iha h.1, ihb h.2⟩
 | un o a ih => exact ih
 | cut a b d i1 i2 i3 => intro h; simp only [E.ok, Bool.and_eq_true] at h ⊢; exact ⟨⟨i1 h.1.1, i2 h.1.2⟩, i3 h.2⟩
 | iv | nv | bv | tv | il | bl | tl | sm | vn | vk => intro h; simp only [E.ok, decide_eq_true_eq] at h ⊢ <;> omega
mutual
theorem Sy.ok_le {c d : Cnt} (hl : c.le d) : ∀ s : Sy, s.ok c = true → s.ok d = true
 | .bool e, h | .int _ e, h | .str e, h => E.ok_le hl e h
 | .ptr m _, h => by simp only [Sy.ok, decide_eq_true_eq] at h ⊢; have := hl.2.2.2.2.2.2.1; omega
 | .elt a i _ _, h => by
  simp only [Sy.ok, Bool.and_eq_true, decide_eq_true_eq] at h ⊢
  have := hl.2.2.2.2.2.1
  exact ⟨by omega, E.ok_le hl _ h.2⟩
 | .slc a n k, h => by
  simp only [Sy.ok, Bool.and_eq_true, decide_eq_true_eq] at h ⊢
  have := hl.2.2.2.2.2.1
  exact ⟨⟨by omega, E.ok_le hl _ h.1.2⟩, E.ok_le hl _ h.2⟩
 | .slb m _ _ _, h => by simp only [Sy.ok, decide_eq_true_eq] at h ⊢; have := hl.2.2.2.2.2.2.1; omega
 | .nils, _ => rfl
 | .val _, _ => rfl
 | .var n, h => by simp only [Sy.ok, decide_eq_true_eq] at h ⊢; have := hl.2.2.2.2.1; omega
 | .agg l, h | .tup l, h | .fn _ l, h | .bnd _ l, h => Sy.oks_le hl l h
 | .ifc _ s, h => Sy.ok_le hl s h
 | .when g _ s, h => by
  simp only [Sy.ok, Bool.and_eq_true] at h ⊢
  exact ⟨E.ok_le hl _ h.1, Sy.ok_le hl s h.2⟩
theorem Sy.oks_le {c d : Cnt} (hl : c.le d) : ∀ l : List Sy, Sy.oks c l = true → Sy.oks d l = true
 | [], _ => rfl
 | s :: l, h => by simp only [Sy.oks, Bool.and_eq_true] at h ⊢; exact ⟨Sy.ok_le hl s h.1, Sy.oks_le hl l h.2⟩
end
theorem Seg.ok_le {c d : Cnt} (hl : c.le d) (x : Seg) (h : x.ok c = true) : x.ok d = true := by
 cases x with
 | l k => simp only [Seg.ok, decide_eq_true_eq] at h ⊢; have := hl.2.2.2.2.2.2.2; omega
 | s y => exact Sy.ok_le hl y h
 | z n => exact E.ok_le hl n h
theorem RowS.ok_le {c d : Cnt} (hl : c.le d) {r : RowS} (h : r.ok c = true) : r.ok d = true := by
 simp only [RowS.ok, Bool.and_eq_true] at h ⊢
 exact ⟨⟨Sy.ok_le hl _ h.1.1, E.ok_le hl _ h.1.2⟩, List.all_eq_true.2 fun x hx => Seg.ok_le hl x (List.all_eq_true.1 h.2 x hx)⟩
theorem Blk.ok_le {c d : Cnt} (hl : c.le d) {b : Blk} (h : b.ok c = true) : b.ok d = true := by
 simp only [Blk.ok, Bool.and_eq_true, decide_eq_true_eq] at h ⊢
 have := hl.2.2.2.2.2.2.1
 exact ⟨by omega, Sy.oks_le hl _ h.2⟩
theorem St.ok_le {s : St} {d : Cnt} (hl : s.c.le d) (h : s.ok = true) : St.ok { s with c := d } = true := by
 simp only [St.ok, Bool.and_eq_true] at h ⊢
 refine ⟨⟨⟨⟨?_, ?_⟩, ?_⟩, ?_⟩, ?_⟩
 ·refine List.all_eq_true.2 fun p hp => ?_
  have := List.all_eq_true.1 h.1.1.1.1 p hp
  revert this
  cases p.2 with
  | none => exact fun _ => rfl
  | some y => exact Sy.ok_le hl y
 ·exact List.all_eq_true.2 fun b hb => Blk.ok_le hl (List.all_eq_true.1 h.1.1.1.2 b hb)
 ·exact List.all_eq_true.2 fun b hb => Blk.ok_le hl (List.all_eq_true.1 h.1.1.2 b hb)
 ·exact List.all_eq_true.2 fun b hb => RowS.ok_le hl (List.all_eq_true.1 h.1.2 b hb)
 ·exact List.all_eq_true.2 fun p hp => E.ok_le hl _ (List.all_eq_true.1 h.2 p hp)
theorem xeff_appf {N : Nat} {W0 : Wd} {ρ : Env} {s : St} {a : Act} {W : Wd} (h : Holds N W0 ρ s a W) (ho : s.ok = true) {o : Oper} {r : RowS} {rest : List RowS} {aa : Nat} {k c : E} {b : Nat} (hx : xeff P s o.op = some (.appf r rest aa k c b))
  (hk : isNat k = true) (hn : isNat r.n = true) (hko : k.ok s.c = true) (hro : r.ok s.c = true) (hc0 : isNat c = true) (hle : (leE (addE r.n k) (.il (most b))).b ρ = true)
  {l : List Value} (hl : l.length = (k.i ρ).toNat * r.sz) (hl1 : ∀ u ∈ l, u.oneCell' = true) (hl2 : gd ρ.A aa none = none → k.i ρ ≤ 0 ∧ c.i ρ ≤ 0) (hl3 : ∀ ad, gd ρ.A aa none = some ad → ∀ (j : Nat) u, l[j]? = some u → W.w.cell? (ad.add j) = some u) :
  ∃ ad c' w' W', (execOp a.eval o).run P W.w = .ok (.value (.slice ad ((r.n.i ρ).toNat + (k.i ρ).toNat) c')) w' ∧ W'.w = w' ∧ Ext W W' ∧ (0 < (addE r.n k).i ρ → ad.isSome = true) ∧
   Holds N W0 ((ρ.push { L := [l] }).push { A := [ad], N := [c'] }) (appSt { s with c := s.c.add { L := 1 } } o.dst r rest k [.l s.c.L]) (a.put o.dst (.slice ad ((r.n.i ρ).toNat + (k.i ρ).toNat) c')) W' ∧ Keeps (W.but (rowNos ρ s.rw)) w' ∧ (∀ q ∈ (appSt { s with c := s.c.add { L := 1 } } o.dst r rest k [.l s.c.L]).rw, ∀ k', ownB ((ρ.push { L := [l] }).push { A := [ad], N := [c'] }) q = some k' → k' ∈ rowNos ρ s.rw ∨ W.w.heap.size ≤ k') := by
 have p1 := isNat_i (ρ := ρ) hk
 have p2 := isNat_i (ρ := ρ) hn
 have hle' : (r.n.i ρ).toNat + (k.i ρ).toNat ≤ most b := by
  rw [leE_b, addE_i] at hle
  have := of_decide_eq_true hle
  simp only [E.i] at this
  omega
 obtain ⟨hm1, hm2⟩ := most_le hle'
 have hd : ({ L := [l] } : Env).good := fun v hv => by cases hv
 have h0 := h.push ho hd
 have hcl : ({ L := [l] } : Env).cnt = { L := 1 } := rfl
 rw [hcl] at h0
 have hoL : s.c.L < (s.c.add { L := 1 }).L := by simp [Cnt.add]
 have hL := Cnt.le_add s.c { L := 1 }
 obtain ⟨dst, op, oty, pos, after, guard⟩ := o
 dsimp only at hx ⊢
 cases op <;> simp only [xeff] at hx <;> try (cases hx; done)
 case slice => rcases xslice_is hx with ⟨_, _, _, _, _, _, e⟩ | ⟨_, _, _, e⟩ <;> cases e
 case call cl =>
  rcases xcallE_is hx with ⟨f, _, h1⟩ | ⟨hc, h1⟩
  ·obtain ⟨_, _, e⟩ := xcallv_is h1; cases e
  ·unfold xappend at h1
   split at h1
   ·rename_i t t' x y hts has
    split at h1
    ·rename_i htt; subst htt
     split at h1
     ·rename_i v u hv hu
      split at h1
      ·rename_i r' rest' ie hro'
       split at h1
       ·rename_i z hz
        split at h1
        ·rename_i hzz
         split at h1
         ·split at h1
          ·split at h1 <;> cases h1
          ·cases h1
         ·rename_i a2 kk cc
          split at h1
          ·split at h1 <;> cases h1
          ·split at h1
           ·have e := Option.some.inj h1
            injection e with e1 e2 e3 e4 e5 e6
            subst e1 e2 e3 e4 e5 e6
            have hx0 := hro'
            obtain ⟨g1, g2, g3, g4, g5, g6, g7, g8⟩ := rowOf_spec h hro'
            have hsrc : ((Value.slice (gd ρ.A a2 none) (kk.i ρ).toNat (cc.i ρ).toNat = .slice none 0 0 ∧ (kk.i ρ).toNat = 0 ∧ l = []) ∨ ∃ ad c, Value.slice (gd ρ.A a2 none) (kk.i ρ).toNat (cc.i ρ).toNat = .slice (some ad) (kk.i ρ).toNat c ∧ l.length = (kk.i ρ).toNat * ie.size ∧ (∀ (j : Nat) u, l[j]? = some u → W.w.cell? (ad.add j) = some u) ∧ ∀ u ∈ l, u.oneCell' = true) := by
             cases hA : gd ρ.A a2 none with
             | none =>
              obtain ⟨q1, q2⟩ := hl2 hA
              have z1 : (kk.i ρ).toNat = 0 := by omega
              have z2 : (cc.i ρ).toNat = 0 := by omega
              left
              refine ⟨by rw [z1, z2], z1, ?_⟩
              rw [z1] at hl
              exact List.eq_nil_of_length_eq_zero (by simpa using hl)
             | some ad => exact .inr ⟨ad, _, rfl, by rw [hl, g3], hl3 ad hA, hl1⟩
            have hown := g5.1
            rw [g3] at hown
            obtain ⟨ad, c', w', hr, q2, q3, q4, q5⟩ := app_any (P := P) W.w N t oty r'.e ie z g1 g2 hz hzz.1 hzz.2 (r'.v.den ρ) (r'.n.i ρ).toNat (conts ρ r'.xs) hown _ (kk.i ρ).toNat l hsrc hm1 hm2 h.nsz
            have hLg : conts (ρ.push { L := [l] }) [.l s.c.L] = l := by
             show gd (ρ.L ++ [l]) s.c.L [] ++ [] = l
             rw [← h.cnt, List.append_nil]
             exact gd_last _ _ _
            have hrp := RowS.push (d := { L := [l] }) (r := r') (by rw [h.cnt]; exact hro)
            have hkp := (E.push ρ { L := [l] } kk (by rw [h.cnt]; exact hko)).1
            have ok1 : St.ok { s with c := s.c.add { L := 1 } } = true := St.ok_le hL ho
            rw [← g3] at q2
            have q2' : w'.ownsRow N r'.e r'.sz (.slice ad ((r'.n.i (ρ.push { L := [l] })).toNat + (kk.i (ρ.push { L := [l] })).toNat) c') ((r'.n.i (ρ.push { L := [l] })).toNat + (kk.i (ρ.push { L := [l] })).toNat) (conts (ρ.push { L := [l] }) r'.xs ++ conts (ρ.push { L := [l] }) [.l s.c.L]) := by
             rw [hrp.2.1, hkp, hrp.2.2, hLg]; exact q2
            have g5' : r'.at N (ρ.push { L := [l] }) W.w := by
             unfold RowS.at at *
             rw [hrp.1, hrp.2.1, hrp.2.2]; exact g5
            have hne' : ∀ q ∈ rest', ∀ k, ownB (ρ.push { L := [l] }) r' = some k → ownB (ρ.push { L := [l] }) q ≠ some k := fun q hq k hk1 hk2 => by
             have hqm := g6.subset hq
             simp only [St.ok, Bool.and_eq_true] at ho
             rw [ownB_push (by rw [h.cnt]; exact hro)] at hk1
             rw [ownB_push (by rw [h.cnt]; exact List.all_eq_true.1 ho.1.2 q hqm)] at hk2
             exact g7 q hq k hk1 hk2
            have hown' : ∀ k, ownB (ρ.push { L := [l] }) r' = some k → ¬ W.I k ∧ ∀ b ∈ s.hp, gd (ρ.push { L := [l] }).M b.m 0 ≠ k := fun k hk1 => by
             rw [ownB_push (by rw [h.cnt]; exact hro)] at hk1
             refine ⟨(g8 k hk1).1, fun b hb => ?_⟩
             simp only [St.ok, Bool.and_eq_true] at ho
             have := List.all_eq_true.1 ho.1.1.1.2 b hb
             simp only [Blk.ok, Bool.and_eq_true] at this
             rw [M_push (by rw [h.cnt]; exact of_decide_eq_true this.1)]
             exact (g8 k hk1).2 b hb
            obtain ⟨W', e1, e2, e3, e4⟩ := h0.app ok1 g5' g6 hne' hown' hk hn (E.ok_le hL _ hko) (by simp [Seg.ok, Cnt.add]) (RowS.ok_le hL hro) q2' (by rw [hLg]; exact hl1) (by rw [hrp.1]; exact q3) (by rw [hrp.1, hrp.2.1, hkp]; exact q4) dst
            rw [hrp.2.1, hkp] at e4
            refine ⟨ad, c', w', W', run_append_call h hc has hts (by rw [g4]; exact h.tm _ _ hv) (h.tm _ _ hu) hr, e1, e2, fun hp => q5 ?_, e4, keeps_grown q3 (rowOf_mem hx0), fun q hq k' hk' => (app_blocks h0 ok1 (rowOf_mem hx0) g6 e3 (by rw [hrp.1, hrp.2.1, hkp]; exact q4) q hq k' hk').imp (fun hm => by rwa [rowNos_push h ho] at hm) id⟩
            rw [addE_i] at hp
            omega
           ·cases h1
         ·cases h1
        ·cases h1
       ·cases h1
      ·cases h1
     ·cases h1
    ·cases h1
   ·cases h1
 all_goals ((repeat' split at hx) <;> first | (cases hx; done) | (obtain ⟨r, hr, e⟩ := Option.map_eq_some_iff.1 hx; cases e; done) | (obtain ⟨_, _, _, _, _, e⟩ := xmake_app hx; cases e; done) | skip)
theorem xeff_sub {N : Nat} {W0 : Wd} {ρ : Env} {s : St} {a : Act} {W : Wd} (h : Holds N W0 ρ s a W) {o : Oper} {aa : Nat} {lo hi c m : E} {sz : Nat} (hx : xeff P s o.op = some (.sub aa lo hi c m sz)) (hc : allB ρ (subChk lo hi m)) (w : World) :
  (execOp a.eval o).run P w = .ok (.value (.slice (subA (gd ρ.A aa none) (lo.i ρ).toNat (c.i ρ).toNat sz) ((hi.i ρ).toNat - (lo.i ρ).toNat) ((c.i ρ).toNat - (lo.i ρ).toNat))) w ∧ 0 ≤ c.i ρ := by
 have c1 : 0 ≤ lo.i ρ := by have := hc.1; rw [leE_b] at this; have := of_decide_eq_true this; simpa [E.i] using this
 have c2 : lo.i ρ ≤ hi.i ρ := by have := hc.2.1; rw [leE_b] at this; exact of_decide_eq_true this
 have c3 : hi.i ρ ≤ m.i ρ := by
  have := hc.2.2
  split at this
  ·rename_i e; rw [E.same_eq e]; exact Int.le_refl _
  ·have := this.1; rw [leE_b] at this; exact of_decide_eq_true this
 obtain ⟨dst, op, oty, pos, after, guard⟩ := o
 dsimp only at hx
 cases op <;> simp only [xeff] at hx <;> try (cases hx; done)
 case slice t x l0 h0 mx =>
  unfold xslice at hx
  split at hx
  ·cases hx
  ·split at hx
   ·rename_i el a2 n2 c2' hu he
    split at hx
    ·rename_i z l' h' hz hl hh
     split at hx
     ·rename_i hnn
      simp only [Bool.and_eq_true] at hnn
      have e := Option.some.inj hx
      injection e with e1 e2 e3 e4 e5 e6
      subst e1 e2 e3 e4 e6
      have q1 := isNat_i (ρ := ρ) hnn.1
      have q2 := isNat_i (ρ := ρ) hnn.2
      have el1 := optI_den h.tm hl
      have eh1 := optI_den h.tm hh
      refine ⟨?_, q2⟩
      have he0 : P.elem t = el := by simp [Program.elem, hu]
      have hel : P.underlying t = some (.slice (P.elem t)) := by rw [he0]; exact hu
      have hez : sizeT P (P.elem t) = some z := by rw [he0]; exact hz
      have key : (Instr.slice t (.slice (gd ρ.A a2 none) (n2.i ρ).toNat (c2'.i ρ).toNat) (l0.map a.eval) (h0.map a.eval) none).run P w = .ok (.slice (subA (gd ρ.A a2 none) ((bdE l' (.il 0)).i ρ).toNat (c2'.i ρ).toNat z) (((bdE h' n2).i ρ).toNat - ((bdE l' (.il 0)).i ρ).toNat) ((c2'.i ρ).toNat - ((bdE l' (.il 0)).i ρ).toNat)) w := by
       rw [el1, eh1]
       rcases l' with _ | ⟨kl, le⟩ <;> rcases h' with _ | ⟨kh, he'⟩ <;> simp only [bdE, E.i] at c1 c2 c3 ⊢ <;> subst e5 <;> dsimp only at c3 <;> simp only [Option.map_none, Option.map_some]
       ·rw [run_slice_all w t _ _ _ hel, run_sizeT hez]; simp [Result.andThen, sliced, subA]
       ·rw [run_slice_h w t _ _ _ hel kh _ (by omega) (by omega), run_sizeT hez]; simp [Result.andThen, sliced, subA]
       ·rw [run_slice_l w t _ _ _ hel kl _ (by omega) (by omega), run_sizeT hez]; simp [Result.andThen, sliced, subA]
       ·rw [run_slice_lh w t _ _ _ hel kl kh _ _ (by omega) (by omega) (by omega), run_sizeT hez]; simp [Result.andThen, sliced, subA]
      simp only [execOp, h.tm _ _ he, Sy.den, Option.map_none, Sem.run_bind, run_sliceAt_slice w t _ _ _ _ hel, key, Result.andThen_ok, Sem.run_pure]
     ·cases hx
    ·cases hx
   ·(repeat' split at hx) <;> cases hx
   ·cases hx
 case call cl =>
  rcases xcallE_is hx with ⟨f, _, h1⟩ | ⟨_, h1⟩
  ·obtain ⟨_, _, e⟩ := xcallv_is h1; cases e
  ·rcases xappend_is h1 with ⟨_, _, _, _, _, e⟩ | ⟨_, _, _, _, _, _, e⟩ <;> cases e
 all_goals ((repeat' split at hx) <;> first | (cases hx; done) | (obtain ⟨r, hr, e⟩ := Option.map_eq_some_iff.1 hx; cases e; done) | (obtain ⟨_, _, _, _, _, e⟩ := xmake_app hx; cases e; done) | skip)
theorem xeff_adrE {N : Nat} {W0 : Wd} {ρ : Env} {s : St} {a : Act} {W : Wd} (h : Holds N W0 ρ s a W) {o : Oper} {ad : Addr} {i : E} {n z : Nat} (hx : xeff P s o.op = some (.adrE ad i n z)) (hc : allB ρ (adrChk i n)) (w : World) :
  (execOp a.eval o).run P w = .ok (.value (.pointer (some (ad.add ((i.i ρ).toNat * z + 0))))) w := by
 obtain ⟨c1, c2, _⟩ := hc
 rw [leE_b] at c1
 have c1 : 0 ≤ i.i ρ := by have := of_decide_eq_true c1; simpa [E.i] using this
 have c2 : i.i ρ < (n : Int) := by have := of_decide_eq_true c2; simpa [E.i] using this
 obtain ⟨dst, op, oty, pos, after, guard⟩ := o
 dsimp only at hx
 cases op <;> simp only [xeff] at hx <;> try (cases hx; done)
 case indexAddr t x j =>
  split at hx
  ·rename_i m el a2 k e hu he hi
   split at hx
   ·rename_i z' hz
    have e0 := Option.some.inj hx
    injection e0 with e1 e2 e3 e4
    subst e1 e2 e3 e4
    have c3 : (e.i ρ).toNat < m := by omega
    simp [execOp, h.tm _ _ he, h.tm _ _ hi, Sy.den, Instr.indexAt, asIntOf, run_underlying hu, run_sizeT hz, Instr.sureAddr, c1, c2, c3]
    try omega
   ·cases hx
  ·cases hx
 case slice => rcases xslice_is hx with ⟨_, _, _, _, _, _, e⟩ | ⟨_, _, _, e⟩ <;> cases e
 case call cl =>
  rcases xcallE_is hx with ⟨f, _, h1⟩ | ⟨_, h1⟩
  ·obtain ⟨_, _, e⟩ := xcallv_is h1; cases e
  ·rcases xappend_is h1 with ⟨_, _, _, _, _, e⟩ | ⟨_, _, _, _, _, _, e⟩ <;> cases e
 all_goals ((repeat' split at hx) <;> first | (cases hx; done) | (obtain ⟨r, hr, e⟩ := Option.map_eq_some_iff.1 hx; cases e; done) | (obtain ⟨_, _, _, _, _, e⟩ := xmake_app hx; cases e; done) | skip)
theorem xeff_adr {N : Nat} {W0 : Wd} {ρ : Env} {s : St} {a : Act} {W : Wd} (h : Holds N W0 ρ s a W) {o : Oper} {ad : Addr} {n c : Nat} (hx : xeff P s o.op = some (.adr ad n c)) (w : World) :
  (execOp a.eval o).run P w = .ok (.value (.slice (some ad) n c)) w := by
 obtain ⟨dst, op, oty, pos, after, guard⟩ := o
 dsimp only at hx
 cases op <;> simp only [xeff] at hx <;> try (cases hx; done)
 case slice t x l0 h0 mx =>
  unfold xslice at hx
  split at hx
  ·cases hx
  ·split at hx
   ·(repeat' split at hx) <;> cases hx
   ·rename_i m el a2 hu he
    split at hx
    ·rename_i z l' h' hz hl hh
     split at hx
     ·rename_i hlh
      have e := Option.some.inj hx
      injection e with e1 e2 e3
      subst e1 e2 e3
      have hm : P.arrayLen t = m := by simp [Program.arrayLen, hu]
      have he0 : P.elem t = el := by simp [Program.elem, hu]
      have hel : P.underlying t = some (.array (P.arrayLen t) (P.elem t)) := by rw [he0, hm]; exact hu
      have hez : sizeT P (P.elem t) = some z := by rw [he0]; exact hz
      have key : (Instr.sliceAt t (.pointer (some a2)) (l0.map a.eval) (h0.map a.eval) none).run P w = .ok (.slice (some (if m = l' then a2 else a2.add (l' * z))) (h' - l') (m - l')) w := by
       rcases litO_ev h.tm hl with ⟨rfl, rfl⟩ | ⟨kl, el⟩ <;> rcases litO_ev h.tm hh with ⟨rfl, rfl⟩ | ⟨kh, eh⟩
       ·rw [Option.map_none, run_sliceAt_array_all w t a2 hel, run_sizeT hez]; simp [Result.andThen, slicedAt, hm]
       ·rw [Option.map_none, eh, run_sliceAt_array_h w t a2 hel kh _ (by omega) (by rw [hm]; omega), run_sizeT hez]; simp [Result.andThen, slicedAt, hm]
       ·rw [Option.map_none, el, run_sliceAt_array_l w t a2 hel kl _ (by omega) (by rw [hm]; omega), run_sizeT hez]; simp [Result.andThen, slicedAt, hm]
       ·rw [el, eh, run_sliceAt_array_lh w t a2 hel kl kh _ _ (by omega) (by omega) (by rw [hm]; omega), run_sizeT hez]; simp [Result.andThen, slicedAt, hm]
      simp only [execOp, h.tm _ _ he, Sy.den, Option.map_none, Sem.run_bind, key, Result.andThen_ok, Sem.run_pure]
     ·cases hx
    ·cases hx
   ·cases hx
 case call cl =>
  rcases xcallE_is hx with ⟨f, _, h1⟩ | ⟨_, h1⟩
  ·obtain ⟨_, _, e⟩ := xcallv_is h1; cases e
  ·rcases xappend_is h1 with ⟨_, _, _, _, _, e⟩ | ⟨_, _, _, _, _, _, e⟩ <;> cases e
 all_goals ((repeat' split at hx) <;> first | (cases hx; done) | (obtain ⟨r, hr, e⟩ := Option.map_eq_some_iff.1 hx; cases e; done) | (obtain ⟨_, _, _, _, _, e⟩ := xmake_app hx; cases e; done) | skip)
end Go.SF
end
section
namespace Go.SF
open Go Go.RowKit
variable {P : Program}
def maskOf : List Nat → Nat
 | [] => 0
 | t :: l => 2 ^ t ||| maskOf l
theorem maskOf_bit : ∀ (l : List Nat) (t : Nat), (maskOf l).testBit t = l.contains t
 | [], t => by simp [maskOf]
 | a :: l, t => by
  simp only [maskOf, Nat.testBit_or, maskOf_bit l t, List.contains_cons, Nat.testBit_two_pow]
  by_cases h : a = t
  ·subst h; simp
  ·have h1 : (t == a) = false := by rw [beq_eq_false_iff_ne]; exact fun e => h e.symm
   rw [h1, decide_eq_false h]
structure Sum where
 d : Nat
 l : Nat
 p : Nat
def sumOf (ops : Array Oper) (o : Oper) : Sum := ⟨maskOf o.dst.toList, maskOf (o.looksAt ops), maskOf (o.after.toList.filterMap fun e => if Region.binds .any e then some e.on else none)⟩
def apartM (x y : Sum) : Bool := Nat.beq (Nat.land x.d y.l) 0 && (Nat.beq (Nat.land x.d y.d) 0 && Nat.beq (Nat.land y.d x.l) 0)
theorem land_zero {a b t : Nat} (h : Nat.beq (Nat.land a b) 0 = true) (ha : a.testBit t = true) : b.testBit t = false := by
 have h := Nat.eq_of_beq_eq_true h
 have h2 : (a &&& b).testBit t = false := by
  show (Nat.land a b).testBit t = false
  rw [h]; simp
 rw [Nat.testBit_and, ha, Bool.true_and] at h2
 exact h2
theorem apartM_ok {ops : Array Oper} {x y : Oper} (h : apartM (sumOf ops x) (sumOf ops y) = true) : x.apart ops y = true := by
 simp only [apartM, sumOf, Bool.and_eq_true] at h
 obtain ⟨h1, h2, h3⟩ := h
 unfold Oper.apart
 rw [Bool.and_eq_true]
 constructor
 ·cases hx : x.dst with
  | none => rfl
  | some d =>
   have e1 := land_zero h1 (t := d) (by rw [maskOf_bit, hx]; simp)
   have e2 := land_zero h2 (t := d) (by rw [maskOf_bit, hx]; simp)
   rw [maskOf_bit] at e1 e2
   simp only [Bool.and_eq_true, Bool.not_eq_true', bne_iff_ne]
   refine ⟨e1, fun e => ?_⟩
   rw [e] at e2
   simp at e2
 ·cases hy : y.dst with
  | none => rfl
  | some d =>
   have e3 := land_zero h3 (t := d) (by rw [maskOf_bit, hy]; simp)
   rw [maskOf_bit] at e3
   show (!(x.looksAt ops).contains d) = true
   rw [e3]; rfl
theorem bit_pred {ops : Array Oper} {o : Oper} {k : Nat} : (sumOf ops o).p.testBit k = true ↔ ∃ e ∈ o.after, Region.binds .any e = true ∧ e.on = k := by
 simp only [sumOf, maskOf_bit]
 rw [List.contains_iff_mem, List.mem_filterMap]
 constructor
 ·rintro ⟨e, he, hk⟩
  split at hk
  ·rename_i hb
   exact ⟨e, by simpa using he, hb, Option.some.inj hk⟩
  ·cases hk
 ·rintro ⟨e, he, hb, rfl⟩
  exact ⟨e, by simpa using he, by rw [if_pos hb]⟩
def Lst (ops : Array Oper) (mask : Nat) (listed : Array Bool) : Prop := listed.size = ops.size ∧ ∀ j, j < ops.size → listed[j]? = some (mask.testBit j)
theorem Lst.getD {ops : Array Oper} {mask : Nat} {listed : Array Bool} (h : Lst ops mask listed) {j : Nat} (hj : j < ops.size) (b : Bool) : listed.getD j b = mask.testBit j := by
 rw [Array.getD_eq_getD_getElem?, h.2 j hj]; rfl
theorem Lst.set {ops : Array Oper} {mask : Nat} {listed : Array Bool} (h : Lst ops mask listed) {i : Nat} (hi : i < ops.size) : Lst ops (mask ||| 2 ^ i) (listed.setIfInBounds i true) := by
 refine ⟨by simp [h.1], fun j hj => ?_⟩
 rw [Nat.testBit_or, Nat.testBit_two_pow]
 by_cases e : i = j
 ·subst e
  rw [Array.getElem?_setIfInBounds_self_of_lt (by rw [h.1]; exact hi)]
  simp
 ·rw [Array.getElem?_setIfInBounds_ne e, h.2 j hj, decide_eq_false e]
  simp
def isReady (mask : Nat) (x : Sum) : Bool := Nat.beq (Nat.land x.p mask) x.p
theorem isReady_iff {ops : Array Oper} {mask : Nat} {listed : Array Bool} (h : Lst ops mask listed) {i : Nat} {o : Oper} (hi : ops[i]? = some o) (hw : ∀ e ∈ o.after, Region.binds .any e = true → e.on < ops.size) :
  i ∈ Region.ready .any ops listed ↔ mask.testBit i = false ∧ isReady mask (sumOf ops o) = true := by
 have hlt : i < ops.size := (Array.getElem?_eq_some_iff.1 hi).1
 rw [mem_ready, h.getD hlt]
 refine and_congr_right fun _ => ?_
 constructor
 ·rintro ⟨o', ho', hall⟩
  obtain rfl : o = o' := Option.some.inj (hi.symm.trans ho')
  unfold isReady
  have : Nat.land (sumOf ops o).p mask = (sumOf ops o).p := by
   apply Nat.eq_of_testBit_eq
   intro k
   show ((sumOf ops o).p &&& mask).testBit k = _
   rw [Nat.testBit_and]
   cases hp : (sumOf ops o).p.testBit k
   ·rfl
   ·obtain ⟨e, he, hb, rfl⟩ := bit_pred.1 hp
    have := hall e he hb
    rw [h.getD (hw e he hb)] at this
    rw [this]; rfl
  rw [this]
  exact Nat.beq_refl _
 ·intro hr
  refine ⟨o, hi, fun e he hb => ?_⟩
  rw [h.getD (hw e he hb)]
  have hp : (sumOf ops o).p.testBit e.on = true := bit_pred.2 ⟨e, he, hb, rfl⟩
  have := Nat.eq_of_beq_eq_true hr
  have h2 : ((sumOf ops o).p &&& mask).testBit e.on = true := by
   show (Nat.land (sumOf ops o).p mask).testBit e.on = true
   rw [this]; exact hp
  rw [Nat.testBit_and, hp, Bool.true_and] at h2
  exact h2
abbrev Gr (w w' : World) : Prop := Below w.heap.size w w'
theorem Gr.refl (w : World) : Gr w w := Below.refl _ _
theorem Gr.trans {a b c : World} (h : Gr a b) (k : Gr b c) : Gr a c := Below.trans h (Below.mono k h.size)
def freeB : Op → Bool
 | .move _ | .assign _ | .binOp .. | .unOp .. | .convert .. | .indexAddr .. | .field .. => true
 | _ => false
def Bar (ops : Array Oper) (i : Nat) (listed : Array Bool) : Prop := ∃ oi, ops[i]? = some oi ∧ ∀ k, listed.getD k false = true → (∃ e ∈ oi.after, Region.binds .any e = true ∧ e.on = k) ∨ ∃ ok, ops[k]? = some ok ∧ freeB ok.op = true
def wpGo (P : Program) (ops : Array Oper) (Q : Exit → Act → World → Prop) (n g : Nat) : Nat → (World → Prop) → Array Bool → Act → World → Prop
 | 0, _, listed, a, w => (∀ j, j < n → listed.getD j true = true) ∧ ∀ w', Gr w w' → wpAny P .any ops Q g listed a w'
 | f + 1, C, listed, a, w => Region.ready .any ops listed ≠ [] ∧ ∀ i ∈ Region.ready .any ops listed, i < n ∧ ∀ w', Gr w w' → wpOp P ops Q i (fun a' w'' => (C w'' ∧ wpGo P ops Q n g f C (listed.setIfInBounds i true) a' w'') ∨ (Bar ops i listed ∧ ∃ C' : World → Prop, C' w'' ∧ (∀ w w', C' w → Gr w w' → C' w') ∧ wpGo P ops Q n g f C' (listed.setIfInBounds i true) a' w'')) a w'
@[reducible] def wpG (P : Program) (ops : Array Oper) (Q : Exit → Act → World → Prop) (C : World → Prop) (n g f : Nat) (listed : Array Bool) (a : Act) (w : World) : Prop := wpGo P ops Q n g f C listed a w
theorem wpG_mono {ops : Array Oper} {Q : Exit → Act → World → Prop} {C C' : World → Prop} {n g : Nat} (hC : ∀ w, C w → C' w) : ∀ (f : Nat) (listed : Array Bool) (a : Act) (w : World), wpG P ops Q C n g f listed a w → wpG P ops Q C' n g f listed a w
 | 0, _, _, _, h => h
 | f + 1, _, _, _, h => ⟨h.1, fun i hi => ⟨(h.2 i hi).1, fun w' hw' => wpOp_mono (fun a' w'' h => h.imp (fun ⟨h1, h2⟩ => ⟨hC _ h1, wpG_mono hC f _ _ _ h2⟩) id) ((h.2 i hi).2 w' hw')⟩⟩
theorem wpG_gr {ops : Array Oper} {Q : Exit → Act → World → Prop} {C : World → Prop} {n g : Nat} : ∀ (f : Nat) (listed : Array Bool) (a : Act) (w w' : World), Gr w w' → wpG P ops Q C n g f listed a w → wpG P ops Q C n g f listed a w'
 | 0, _, _, _, _, hw, h => ⟨h.1, fun w2 h2 => h.2 w2 (hw.trans h2)⟩
 | f + 1, _, _, _, _, hw, h => ⟨h.1, fun i hi => ⟨(h.2 i hi).1, fun w2 h2 => (h.2 i hi).2 w2 (hw.trans h2)⟩⟩
theorem wpAny_of_G {ops : Array Oper} {Q : Exit → Act → World → Prop} {n g : Nat} : ∀ (f : Nat) {C : World → Prop} (listed : Array Bool) (a : Act) (w : World), wpG P ops Q C n g f listed a w → wpAny P .any ops Q (f + g) listed a w
 | 0, _, listed, a, w, h => by rw [Nat.zero_add]; exact h.2 w (Gr.refl w)
 | f + 1, _, listed, a, w, h => by
  rw [show f + 1 + g = (f + g) + 1 by omega]
  exact ⟨fun h0 => absurd h0 h.1, fun i hi => wpOp_mono (fun a' w' h' => by
   rcases h' with h' | ⟨_, C', _, _, h'⟩
   ·exact wpAny_of_G f _ _ _ h'.2
   ·exact wpAny_of_G f _ _ _ h') ((h.2 i hi).2 w (Gr.refl w))⟩
def YieldsG (P : Program) (ops : Array Oper) (C : World → Prop) (o : Oper) (v : Value) (a : Act) : Prop :=
 (Region.wanted o (yielded ops a.tmps) = true ∧ ∀ w, C w → o.quietAt P a (fun w' => Gr w w') w v) ∨ (Region.wanted o (yielded ops a.tmps) = false ∧ v = undef)
theorem YieldsG.of_same {ops : Array Oper} {C : World → Prop} {o : Oper} {v : Value} {a a' : Act} (hy : YieldsG P ops C o v a) (he : execOp a'.eval o = execOp a.eval o)
  (hw : Region.wanted o (yielded ops a'.tmps) = Region.wanted o (yielded ops a.tmps)) : YieldsG P ops C o v a' := by
 unfold YieldsG Oper.quietAt at *
 rw [he, hw]
 exact hy
theorem YieldsG.wpOp {ops : Array Oper} {Q : Exit → Act → World → Prop} {C : World → Prop} {i : Nat} {o : Oper} {v : Value} {a : Act} (hi : ops[i]? = some o) (hy : YieldsG P ops C o v a) {w : World} (hC : C w) {K : Act → World → Prop}
  (h : ∀ w', Gr w w' → K (a.put o.dst v) w') : wpOp P ops Q i K a w := by
 unfold Go.wpOp
 simp only [hi]
 rcases hy with ⟨hw, hv⟩ | ⟨hw, rfl⟩
 ·simp only [hw, if_true]
  refine .inl ?_
  have h3 := hv w hC
  unfold Oper.quietAt at h3
  unfold Oper.wp
  generalize (execOp a.eval o).run P w = r at *
  cases r with
  | ok n w' =>
   cases n <;> simp only [Oper.quietUpon] at h3 <;> simp only [Oper.upon]
   case value u => obtain ⟨rfl, rfl⟩ := h3; exact h _ (Gr.refl _)
   case skip => obtain ⟨rfl, rfl⟩ := h3; exact h _ (Gr.refl _)
   case enter f args =>
    obtain ⟨rfl, hc⟩ := h3
    exact hc.mono fun e w'' ⟨he, hw''⟩ => by subst he; exact h _ hw''
  | halt x w' => simp only [Oper.quietUpon] at h3
 ·simp only [hw, Bool.false_eq_true, if_false]; exact h _ (Gr.refl _)
theorem wpOp_putG {ops : Array Oper} {Q : Exit → Act → World → Prop} {C : World → Prop} {j : Nat} {oi oj : Oper} {v : Value} (hj : ops[j]? = some oj) (hap : oi.apart ops oj = true)
  (hsi : ∀ cs b, oi.op ≠ .select cs b) (hsj : ∀ cs b, oj.op ≠ .select cs b)
  (hQ : ∀ c a w, Q (.panic c) (a.put oi.dst v) w → Q (.panic c) a w) {K : Act → World → Prop} {a : Act} {w : World}
  (hy : YieldsG P ops C oi v a) (h : wpOp P ops Q j K (a.put oi.dst v) w) : wpOp P ops Q j (fun a' w' => YieldsG P ops C oi v a' ∧ K (a'.put oi.dst v) w') a w := by
 obtain ⟨h1, h2, h3⟩ := Oper.apart_spec hap
 have keep : ∀ (a : Act), YieldsG P ops C oi v a → ∀ u, YieldsG P ops C oi v (a.put oj.dst u) := fun a hy u =>
  hy.of_same (execOp_put oi hsi a oj.dst u h3) (wanted_put oi a oj.dst u h3)
 have keepD : ∀ d, YieldsG P ops C oi v { a with defers := d :: a.defers } := fun d => hy.of_same rfl rfl
 unfold Go.wpOp at *
 simp only [hj] at *
 rw [wanted_put oj a oi.dst v h1] at h
 by_cases hw : Region.wanted oj (yielded ops a.tmps) = true
 ·simp only [hw, if_true] at h ⊢
  rcases h with h | ⟨hasks, hlets⟩
  ·left
   unfold Oper.wp at *
   rw [execOp_put oj hsj a oi.dst v h1] at h
   cases hr : (execOp a.eval oj).run P w with
   | ok nx w' =>
    rw [hr] at h
    cases nx with
    | value u => exact ⟨keep a hy u, by rw [← Act.put_comm a v u h2]; exact h⟩
    | skip => exact ⟨keep a hy _, by rw [← Act.put_comm a v undef h2]; exact h⟩
    | defer d =>
     simp only [Oper.upon] at h ⊢
     refine ⟨keep _ (keepD d) _, ?_⟩
     rw [← Act.put_comm _ v undef h2, ← Act.put_defers]
     exact h
    | enter f args =>
     simp only [Oper.upon] at h ⊢
     refine Calls.mono h fun e w'' he => ?_
     cases e with
     | returned u => exact ⟨keep a hy u, by rw [← Act.put_comm a v u h2]; exact he⟩
     | panicked c => exact hQ _ _ _ he
     | outgrown => exact he
    | row rw args =>
     simp only [Oper.upon] at h ⊢
     exact Rows.mono h fun u w'' he => ⟨keep a hy u, by rw [← Act.put_comm a v u h2]; exact he⟩
    | _ => simp only [Oper.upon] at h
   | halt x w' =>
    rw [hr] at h
    cases x with
    | panic u => exact hQ _ _ _ h
    | _ => simp only [Oper.upon] at h
  ·right
   unfold Oper.asks at *
   rw [execOp_put oj hsj a oi.dst v h1] at hasks
   exact ⟨hasks, hlets⟩
 ·simp only [hw] at h ⊢
  exact ⟨keep a hy _, by rw [← Act.put_comm a v undef h2]; exact h⟩
def Tail (ops : Array Oper) (n : Nat) : Prop := ∀ j oj, ops[j]? = some oj → n ≤ j → (∀ i, i < n → j = n → ∃ e ∈ oj.after, Region.binds .any e = true ∧ e.on = i) ∧ (n < j → ∃ e ∈ oj.after, Region.binds .any e = true ∧ e.on = n)
theorem tail_late {ops : Array Oper} {n : Nat} (hT : Tail ops n) {mask : Nat} {listed : Array Bool} (hl : Lst ops mask listed) (hb : ∀ j, n ≤ j → mask.testBit j = false) {i : Nat} (hi : i < n) (hin : i < ops.size) (hun : mask.testBit i = false) {j : Nat} (hj : j ∈ Region.ready .any ops listed) : j < n := by
 rcases Nat.lt_or_ge j n with h | h
 ·exact h
 exfalso
 obtain ⟨_, oj, hoj, hall⟩ := mem_ready.1 hj
 have hjn : j < ops.size := (Array.getElem?_eq_some_iff.1 hoj).1
 obtain ⟨t1, t2⟩ := hT j oj hoj h
 by_cases e : j = n
 ·obtain ⟨x, hx, hxb, hxi⟩ := t1 i hi e
  have := hall x hx hxb
  rw [hxi, hl.getD hin, hun] at this
  cases this
 ·obtain ⟨x, hx, hxb, hxi⟩ := t2 (by omega)
  have := hall x hx hxb
  rw [hxi, hl.getD (by omega), hb n (Nat.le_refl _)] at this
  cases this
theorem YieldsG.of_sub {ops : Array Oper} {C C' : World → Prop} {o : Oper} {v : Value} {a : Act} (hy : YieldsG P ops C o v a) (h : ∀ w, C' w → C w) : YieldsG P ops C' o v a :=
 hy.imp (fun ⟨h1, h2⟩ => ⟨h1, fun w hw => h2 w (h w hw)⟩) id
theorem wpG_first {ops : Array Oper} {Q : Exit → Act → World → Prop} {n g : Nat} {i : Nat} {oi : Oper} {v : Value} (hi : ops[i]? = some oi) (hin : i < n) (hsel : ∀ (j : Nat) (o : Oper) cs b, ops[j]? = some o → o.op ≠ .select cs b)
  (hT : Tail ops n) (hQ : ∀ c a w, Q (.panic c) (a.put oi.dst v) w → Q (.panic c) a w) :
  ∀ (f : Nat) (C : World → Prop) (_ : ∀ w w', C w → Gr w w' → C w') (mask : Nat) (listed : Array Bool) (a : Act) (w : World), Lst ops mask listed → (∀ j, n ≤ j → mask.testBit j = false) →
   (∀ j oj, ops[j]? = some oj → j ≠ i → listed.getD j true = false → (∀ e ∈ oj.after, Region.binds .any e = true → e.on ≠ i) → oi.apart ops oj = true) →
   i ∈ Region.ready .any ops listed → YieldsG P ops (fun w => freeB oi.op = true ∨ C w) oi v a → C w →
   wpG P ops Q C n g f (listed.setIfInBounds i true) (a.put oi.dst v) w → wpG P ops Q C n g (f + 1) listed a w := by
 have hilt : i < ops.size := (Array.getElem?_eq_some_iff.1 hi).1
 intro f
 induction f with
 | zero =>
  intro C hCG mask listed a w hl hb hfree hr hy hC H
  have hun : mask.testBit i = false := by have := (mem_ready.1 hr).1; rwa [hl.getD hilt] at this
  refine ⟨fun h => (by rw [h] at hr; cases hr), fun j hj => ?_⟩
  have hjn := tail_late hT hl hb hin hilt hun hj
  refine ⟨hjn, fun w' hw' => ?_⟩
  by_cases hji : j = i
  ·subst hji
   exact hy.wpOp hi (.inr (hCG _ _ hC hw')) fun w2 h2 => .inl ⟨hCG _ _ (hCG _ _ hC hw') h2, H.1, fun w3 h3 => H.2 w3 (hw'.trans (h2.trans h3))⟩
  ·exfalso
   have h1 := H.1 j hjn
   obtain ⟨hjun, oj, hoj, _⟩ := mem_ready.1 hj
   rw [getD_set_ne true (Ne.symm hji)] at h1
   rw [hjun] at h1
   cases h1
 | succ f ih =>
  intro C hCG mask listed a w hl hb hfree hr hy hC H
  have hun : mask.testBit i = false := by have := (mem_ready.1 hr).1; rwa [hl.getD hilt] at this
  refine ⟨fun h => (by rw [h] at hr; cases hr), fun j hj => ?_⟩
  have hjn := tail_late hT hl hb hin hilt hun hj
  refine ⟨hjn, fun w' hw' => ?_⟩
  by_cases hji : j = i
  ·subst hji
   exact hy.wpOp hi (.inr (hCG _ _ hC hw')) fun w2 h2 => .inl ⟨hCG _ _ (hCG _ _ hC hw') h2, wpG_gr _ _ _ _ _ (hw'.trans h2) H⟩
  ·have h1 := (H.2 j (ready_mono hj hji)).2 w' hw'
   obtain ⟨hjun, oj, hoj, hall⟩ := mem_ready.1 hj
   have hjlt : j < ops.size := (Array.getElem?_eq_some_iff.1 hoj).1
   have hnot : ∀ e ∈ oj.after, Region.binds .any e = true → e.on ≠ i := fun e he hb' heq => by
    have h1 := hall e he hb'
    rw [heq, hl.getD hilt, hun] at h1
    cases h1
   have h2 := wpOp_putG hoj (hfree j oj hoj hji hjun hnot) (fun cs b => hsel i oi cs b hi) (fun cs b => hsel j oj cs b hoj) hQ hy h1
   have hfree' : ∀ k ok, ops[k]? = some ok → k ≠ i → (listed.setIfInBounds j true).getD k true = false →
     (∀ e ∈ ok.after, Region.binds .any e = true → e.on ≠ i) → oi.apart ops ok = true := fun k ok hk hki hun hno => by
    refine hfree k ok hk hki ?_ hno
    by_cases hjk : j = k
    ·subst hjk; exact hjun
    ·rw [getD_set_ne true hjk] at hun; exact hun
   have hb' : ∀ k, n ≤ k → (mask ||| 2 ^ j).testBit k = false := fun k hk => by
    rw [Nat.testBit_or, hb k hk, Nat.testBit_two_pow, decide_eq_false (by omega)]; rfl
   have hilt2 : i < listed.size := by rw [hl.1]; exact hilt
   refine wpOp_mono (fun a' w2 h3 => ?_) h2
   rcases h3 with ⟨h3, h4 | ⟨⟨oj', hoj', hbar⟩, C', hC', hCG', h4⟩⟩
   ·refine .inl ⟨h4.1, ih C hCG _ (listed.setIfInBounds j true) a' w2 (hl.set hjlt) hb' hfree' (ready_mono hr (Ne.symm hji)) h3 h4.1 ?_⟩
    rw [Array.setIfInBounds_comm _ _ hji]
    exact h4.2
   ·obtain rfl : oj' = oj := Option.some.inj (hoj'.symm.trans hoj)
    refine .inr ⟨⟨oj', hoj', fun k hk => ?_⟩, C', hC', hCG', ?_⟩
    ·refine hbar k ?_
     by_cases hik : i = k
     ·subst hik; simp [Array.getD_eq_getD_getElem?, hilt2]
     ·rw [getD_set_ne false hik]; exact hk
    ·rcases hbar i (by simp [Array.getD_eq_getD_getElem?, hilt2]) with ⟨e, he, hb1, hon⟩ | ⟨ok, hok, hfr⟩
     ·exact absurd hon (hnot e he hb1)
     ·obtain rfl : oi = ok := Option.some.inj (hi.symm.trans hok)
      refine ih C' hCG' _ (listed.setIfInBounds j true) a' w2 (hl.set hjlt) hb' hfree' (ready_mono hr (Ne.symm hji)) (h3.of_sub fun w _ => .inl hfr) hC' ?_
      rw [Array.setIfInBounds_comm _ _ hji]
      exact h4
theorem wpG_sole {ops : Array Oper} {Q : Exit → Act → World → Prop} {C : World → Prop} {n g f : Nat} {i : Nat} {listed : Array Bool} {a : Act} {w : World} (hr : ∀ j, j ∈ Region.ready .any ops listed ↔ j = i) (hin : i < n)
  (h : ∀ w', Gr w w' → wpOp P ops Q i (fun a' w'' => C w'' ∧ wpG P ops Q C n g f (listed.setIfInBounds i true) a' w'') a w') : wpG P ops Q C n g (f + 1) listed a w :=
 ⟨fun h0 => (by have := (hr i).2 rfl; rw [h0] at this; cases this), fun j hj => by obtain rfl := (hr j).1 hj; exact ⟨hin, fun w' hw' => wpOp_mono (fun _ _ h => .inl h) (h w' hw')⟩⟩
theorem wpG_bar {ops : Array Oper} {Q : Exit → Act → World → Prop} {C : World → Prop} {n g f : Nat} {i : Nat} {listed : Array Bool} {a : Act} {w : World} (hr : ∀ j, j ∈ Region.ready .any ops listed ↔ j = i) (hin : i < n) (hb : Bar ops i listed)
  (h : ∀ w', Gr w w' → wpOp P ops Q i (fun a' w'' => ∃ C' : World → Prop, C' w'' ∧ (∀ w w', C' w → Gr w w' → C' w') ∧ wpG P ops Q C' n g f (listed.setIfInBounds i true) a' w'') a w') : wpG P ops Q C n g (f + 1) listed a w :=
 ⟨fun h0 => (by have := (hr i).2 rfl; rw [h0] at this; cases this), fun j hj => by obtain rfl := (hr j).1 hj; exact ⟨hin, fun w' hw' => wpOp_mono (fun _ _ h => .inr ⟨hb, h⟩) (h w' hw')⟩⟩
end Go.SF
end
namespace Go.SF
theorem zP : type_of% (And.intro @Env.push.eq_1 (And.intro @z_a (And.intro @z_b (@z_c)))) := And.intro @Env.push.eq_1 (And.intro @z_a (And.intro @z_b (@z_c)))
theorem zE : type_of% (And.intro @Sy.den.eq_1 (And.intro @Sy.den.eq_2 (And.intro @Sy.den.eq_3 (And.intro @Sy.den.eq_4 (And.intro @Sy.den.eq_5 (And.intro @Sy.den.eq_6 (And.intro @Sy.den.eq_7 (And.intro @Sy.den.eq_8 (And.intro @Sy.den.eq_9 (And.intro @Sy.den.eq_10 (And.intro @Sy.den.eq_11 (And.intro @Sy.den.eq_12 (And.intro @Sy.den.eq_13 (And.intro @Sy.den.eq_14 (And.intro @Sy.den.eq_15 (And.intro @Sy.den.eq_16 (And.intro @Sy.dens.eq_1 (And.intro @Sy.dens.eq_2 (And.intro @E.i.eq_1 (And.intro @E.i.eq_2 (And.intro @E.i.eq_3 (And.intro @E.i.eq_4 (And.intro @E.i.eq_5 (And.intro @E.i.eq_6 (And.intro @E.i.eq_7 (And.intro @E.i.eq_8 (And.intro @E.i.eq_9 (And.intro @E.i.eq_10 (And.intro @E.i.eq_11 (And.intro @E.i.eq_12 (And.intro @E.i.eq_13 (And.intro @E.i.eq_14 (And.intro @E.b.eq_1 (And.intro @E.b.eq_2 (And.intro @E.b.eq_3 (And.intro @E.b.eq_4 (And.intro @E.b.eq_5 (And.intro @E.b.eq_6 (And.intro @E.b.eq_7 (And.intro @E.b.eq_8 (And.intro @E.b.eq_9 (And.intro @E.b.eq_10 (And.intro @E.b.eq_11 (And.intro @E.b.eq_12 (And.intro @E.b.eq_13 (And.intro @E.b.eq_14 (And.intro @E.b.eq_15 (And.intro @E.t.eq_1 (And.intro @E.t.eq_2 (And.intro @E.t.eq_3 (And.intro @E.t.eq_4 (And.intro @E.t.eq_5 (And.intro @E.t.eq_6 (And.intro @gd.eq_1 (And.intro @gd.eq_2 (And.intro @gd.eq_3 (And.intro zP (@z_d)))))))))))))))))))))))))))))))))))))))))))))))))))))))))) := And.intro @Sy.den.eq_1 (And.intro @Sy.den.eq_2 (And.intro @Sy.den.eq_3 (And.intro @Sy.den.eq_4 (And.intro @Sy.den.eq_5 (And.intro @Sy.den.eq_6 (And.intro @Sy.den.eq_7 (And.intro @Sy.den.eq_8 (And.intro @Sy.den.eq_9 (And.intro @Sy.den.eq_10 (And.intro @Sy.den.eq_11 (And.intro @Sy.den.eq_12 (And.intro @Sy.den.eq_13 (And.intro @Sy.den.eq_14 (And.intro @Sy.den.eq_15 (And.intro @Sy.den.eq_16 (And.intro @Sy.dens.eq_1 (And.intro @Sy.dens.eq_2 (And.intro @E.i.eq_1 (And.intro @E.i.eq_2 (And.intro @E.i.eq_3 (And.intro @E.i.eq_4 (And.intro @E.i.eq_5 (And.intro @E.i.eq_6 (And.intro @E.i.eq_7 (And.intro @E.i.eq_8 (And.intro @E.i.eq_9 (And.intro @E.i.eq_10 (And.intro @E.i.eq_11 (And.intro @E.i.eq_12 (And.intro @E.i.eq_13 (And.intro @E.i.eq_14 (And.intro @E.b.eq_1 (And.intro @E.b.eq_2 (And.intro @E.b.eq_3 (And.intro @E.b.eq_4 (And.intro @E.b.eq_5 (And.intro @E.b.eq_6 (And.intro @E.b.eq_7 (And.intro @E.b.eq_8 (And.intro @E.b.eq_9 (And.intro @E.b.eq_10 (And.intro @E.b.eq_11 (And.intro @E.b.eq_12 (And.intro @E.b.eq_13 (And.intro @E.b.eq_14 (And.intro @E.b.eq_15 (And.intro @E.t.eq_1 (And.intro @E.t.eq_2 (And.intro @E.t.eq_3 (And.intro @E.t.eq_4 (And.intro @E.t.eq_5 (And.intro @E.t.eq_6 (And.intro @gd.eq_1 (And.intro @gd.eq_2 (And.intro @gd.eq_3 (And.intro zP (@z_d)))))))))))))))))))))))))))))))))))))))))))))))))))))))))
theorem zR : type_of% (And.intro @conts.eq_1 (And.intro @rowConts.eq_1 (And.intro @Seg.den.eq_1 (And.intro @Seg.den.eq_2 (And.intro @Seg.den.eq_3 (And.intro @gd.eq_1 (And.intro @gd.eq_2 (And.intro @gd.eq_3 (And.intro zP (And.intro @z_e (And.intro @z_f (And.intro @z_g (@z_h))))))))))))) := And.intro @conts.eq_1 (And.intro @rowConts.eq_1 (And.intro @Seg.den.eq_1 (And.intro @Seg.den.eq_2 (And.intro @Seg.den.eq_3 (And.intro @gd.eq_1 (And.intro @gd.eq_2 (And.intro @gd.eq_3 (And.intro zP (And.intro @z_e (And.intro @z_f (And.intro @z_g (@z_h))))))))))))
end Go.SF
end
