/- Values in plain Lean: what each operator comes to. No program in sight. -/
import Derived.Lib.Bytealg
namespace Va
structure V where
  k : Int
  n : Int
  t : ByteArray
def none : V := ⟨0, 0, ⟨#[]⟩⟩
def num (n : Int) : V := ⟨1, n, ⟨#[]⟩⟩
def truth (b : Bool) : V := ⟨2, if b then 1 else 0, ⟨#[]⟩⟩
def text (s : ByteArray) : V := ⟨3, 0, s⟩
def inR (x : Int) : Bool := decide (-9223372036854775808 ≤ x) && decide (x ≤ 9223372036854775807)
def told (x : Int) : V × Int := if inR x then (num x, 0) else (none, 20)
def numbers (op a b : Int) : V × Int :=
  if op = 5 then told (a * b)
  else if op = 6 then (if b = 0 then (none, 21) else told (a.tdiv b))
  else if op = 7 then (if b = 0 then (none, 21) else if inR (a.tdiv b) then (num (a.tmod b), 0) else (none, 20))
  else if op = 8 then told (a + b)
  else told (a - b)
def cmpi (a b : Int) : Int := if a < b then -1 else if b < a then 1 else 0
theorem cmpi_lt {a b : Int} (h : a < b) : cmpi a b = -1 := by simp [cmpi, h]
theorem cmpi_gt {a b : Int} (h : b < a) : cmpi a b = 1 := by unfold cmpi; rw [if_neg (by omega), if_pos h]
theorem cmpi_eq {a b : Int} (h : ¬ a < b) (k : ¬ b < a) : cmpi a b = 0 := by simp [cmpi, h, k]
def cmp (a b : V) : Int := if a.k = 3 then Go.Lib.compareBytes a.t.data.toList b.t.data.toList else cmpi a.n b.n
def yes (a : V) : Bool := (a.k == 2) && (a.n != 0)
def equal (a b : V) : Bool := if a.k = 2 then yes a == yes b else cmp a b == 0
def fits (op ak bk : Int) : Bool :=
  (ak == bk) && (((ak == 1) && (op != 13) && (op != 14)) || ((ak == 2) && ((op == 11) || (op == 12) || (op == 13) || (op == 14))) || ((ak == 3) && ((op == 8) || (op == 9) || (op == 10) || (op == 11) || (op == 12))))
def sum (s t : ByteArray) : V × Int := if 40 < s.size + t.size then (none, 20) else (text (s ++ t), 0)
def two (op : Int) (a b : V) : V × Int :=
  if op < 5 ∨ 15 < op then (none, 4)
  else if fits op a.k b.k = false then (none, 23)
  else if op = 9 then (truth (decide (cmp a b < 0)), 0)
  else if op = 10 then (truth (decide (cmp a b ≤ 0)), 0)
  else if op = 11 then (truth (equal a b), 0)
  else if op = 12 then (truth (!equal a b), 0)
  else if op = 13 then (truth (yes a && yes b), 0)
  else if op = 14 then (truth (yes a || yes b), 0)
  else if a.k = 3 then sum a.t b.t
  else numbers op a.n b.n
def one (op : Int) (v : V) : V × Int :=
  if op = 3 then (if v.k = 1 then told (0 - v.n) else (none, 23))
  else if op = 4 then (if v.k = 2 then (truth (!yes v), 0) else (none, 23))
  else if op = 16 then (if v.k = 3 then (num v.t.size, 0) else (none, 23))
  else (none, 4)
end Va
namespace Va
theorem big_1 {s t : ByteArray} (h : (40 : Int) < s.size) : sum s t = (none, 20) := by unfold sum; rw [if_pos (by omega)]
theorem big_2 {s t : ByteArray} (k : (40 - s.size : Int) < t.size) : sum s t = (none, 20) := by unfold sum; rw [if_pos (by omega)]
theorem big_3 {s t : ByteArray} (k : ¬ (40 - s.size : Int) < t.size) : sum s t = (text (s ++ t), 0) := by unfold sum; rw [if_neg (by omega)]
theorem wrap_in {p : Int} (h : inR p = true) : -9223372036854775808 ≤ p ∧ p ≤ 9223372036854775807 := by simpa [inR] using h
end Va
