/- Parts of expressions in plain Lean: what may be, the first part of a text, all parts, how they stand there. No program in sight. -/
import Derived.Lib.ParseIntB
import Derived.Lib.IndexMore
import Derived.Lib.Join
namespace Lx
open Go
set_option linter.unusedVariables false
set_option linter.unusedSimpArgs false
abbrev Bs := List UInt8
def digit (c : UInt8) : Bool := decide (48 ≤ (c.toNat : Int)) && decide ((c.toNat : Int) ≤ 57)
def letter (c : UInt8) : Bool := decide (97 ≤ (c.toNat : Int)) && decide ((c.toNat : Int) ≤ 122)
def behind (c : UInt8) : Bool := (digit c || letter c) || ((c.toNat : Int) == 95)
def quoted (c : UInt8) : Bool := (decide (32 ≤ (c.toNat : Int)) && decide ((c.toNat : Int) ≤ 126)) && !((c.toNat : Int) == 39)
def run (p : UInt8 → Bool) (l : Bs) : Nat := (l.takeWhile p).length
def signs : List Bs := [[60, 61], [61, 61], [33, 61], [124], [38], [60], [43], [45], [42], [47], [37], [33], [40], [41]]
def parsed : Lib.NumEnd Int → Bool
  | .ok _ => true
  | _ => false
def numOk (l : Bs) : Bool := parsed (Lib.parseIntB 64 l) && ((run digit l == l.length) && ((l.length == 1) || !(l.head? == some 48)))
def wordOk (l : Bs) : Bool := match l with
  | [] => false
  | c :: _ => letter c && ((run behind l == l.length) && decide (l.length ≤ 12))
def quoteOk (l : Bs) : Bool := (run quoted l == l.length) && decide (l.length ≤ 40)
def may (k : Int) (l : Bs) : Bool := if k = 1 then numOk l else if k = 2 then wordOk l else if k = 3 then quoteOk l else if k = 4 then signs.contains l else false
structure Tok where
  k : Int
  t : Bs
  deriving DecidableEq
def none : Tok × Nat := (⟨0, []⟩, 0)
def cutQ (l : Bs) : Option Bs := if (l.takeWhile (· != 39)).length < l.length then some (l.takeWhile (· != 39)) else Option.none
/-- the first part of a text that is not empty -/
def first : Bs → Tok × Nat
  | [] => none
  | c :: r =>
    if digit c then (⟨1, (c :: r).take (run digit (c :: r))⟩, run digit (c :: r))
    else if letter c then (⟨2, (c :: r).take (run behind (c :: r))⟩, run behind (c :: r))
    else if c = 39 then (match cutQ r with
      | some q => (⟨3, q⟩, q.length + 2)
      | Option.none => none)
    else match signs.find? fun x => x.isPrefixOf (c :: r) with
      | some x => (⟨4, x⟩, x.length)
      | Option.none => none
def trim (l : Bs) : Bs := l.dropWhile (· == 32)
/-- the parts of a text without spaces ahead -/
def lexT : Nat → Bs → Option (List Tok)
  | 0, _ => Option.none
  | _ + 1, [] => some []
  | n + 1, c :: r => if (first (c :: r)).2 = 0 || !(may (first (c :: r)).1.k (first (c :: r)).1.t) then Option.none else (lexT n (trim ((c :: r).drop (first (c :: r)).2))).map ((first (c :: r)).1 :: ·)
def lex (l : Bs) : List Tok × Int := if 100 < l.length then ([], 40) else match lexT (l.length + 1) (trim l) with
  | some ts => (ts, 0)
  | Option.none => ([], 4)
def text (t : Tok) : Bs := if t.k = 3 then 39 :: (t.t ++ [39]) else t.t
def shown (ts : List Tok) : Bs := Lib.join (ts.map text) [32]
def show_ (ts : List Tok) : Bs × Int := if !(ts.all fun t => may t.k t.t) then ([], 4) else if 100 < (shown ts).length then ([], 40) else (shown ts, 0)

/-! ### small laws -/
theorem run_le (p : UInt8 → Bool) (l : Bs) : run p l ≤ l.length := by unfold run; exact (List.takeWhile_sublist _).length_le
theorem run_cons_t {p : UInt8 → Bool} {c : UInt8} {l : Bs} (h : p c = true) : run p (c :: l) = run p l + 1 := by simp [run, List.takeWhile_cons, h]
theorem run_cons_f {p : UInt8 → Bool} {c : UInt8} {l : Bs} (h : p c = false) : run p (c :: l) = 0 := by simp [run, List.takeWhile_cons, h]
theorem run_nil (p : UInt8 → Bool) : run p [] = 0 := rfl
theorem trim_le (l : Bs) : (trim l).length ≤ l.length := (List.dropWhile_sublist _).length_le
theorem index39 : ∀ l : Bs, Lib.index l [39] = if (l.takeWhile (· != 39)).length < l.length then ((l.takeWhile (· != 39)).length : Int) else -1
  | [] => rfl
  | b :: r => by
    have ih := index39 r
    unfold Lib.index
    by_cases h : b = 39
    · subst h; simp [List.takeWhile_cons]
    · have h1 : (b != 39) = true := by simpa using h
      have h2 : ([39] : Bs).isPrefixOf (b :: r) = false := by simp [List.isPrefixOf]; exact fun e => h e.symm
      rw [h2, ih]
      simp only [List.takeWhile_cons, h1, if_true, List.length_cons, Bool.false_eq_true, if_false]
      by_cases hl : (r.takeWhile (· != 39)).length < r.length
      · have h3 : (((r.takeWhile (· != 39)).length : Int) == -1) = false := by rw [beq_eq_false_iff_ne]; omega
        simp [hl, h3]
      · simp [hl]
theorem take_tw (p : UInt8 → Bool) (l : Bs) : l.take (l.takeWhile p).length = l.takeWhile p := by
  induction l with
  | nil => rfl
  | cons c r ih => by_cases h : p c = true <;> simp [List.takeWhile_cons, h, ih]
theorem cut39 (l : Bs) : (Lib.cut l [39]).2.2 = (cutQ l).isSome ∧ ((cutQ l).isSome = true → cutQ l = some (Lib.cut l [39]).1) := by
  unfold Lib.cut cutQ
  rw [index39]
  by_cases h : (l.takeWhile (· != 39)).length < l.length
  · simp only [h, if_true]
    have h0 : (0 : Int) ≤ ((l.takeWhile (· != 39)).length : Int) := by omega
    simp [h0, take_tw]
  · simp [h]
theorem cutQ_len {l q : Bs} (h : cutQ l = some q) : q.length < l.length := by
  unfold cutQ at h
  split at h
  · rename_i hl; obtain rfl := Option.some.inj h; exact hl
  · cases h
end Lx
