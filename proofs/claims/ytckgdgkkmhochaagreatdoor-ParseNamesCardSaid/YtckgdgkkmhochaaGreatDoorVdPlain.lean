/- Values in plain Lean, second part: what may be, what an operator of one comes to, a value's text. -/
import Derived.Test.YtckgdgkkmhochaaGreatDoorVaRefPlain
import Derived.Lib.ItoaNum
namespace Va
open Go
/-- may a byte be in a value? -/
def okc (c : UInt8) : Bool := !(((c.toNat : Int) < 32 : Bool) || ((126 < (c.toNat : Int) : Bool)) || ((c.toNat : Int) == 39))
def plain (t : ByteArray) : Bool := t.data.toList.all okc && decide ((t.size : Int) ≤ 40)
def may (v : V) : Bool :=
  if v.k = 0 then (v.n == 0) && (v.t.data.toList == [])
  else if v.k = 1 then v.t.data.toList == []
  else if v.k = 2 then ((v.n == 0) || (v.n == 1)) && (v.t.data.toList == [])
  else if v.k = 3 then (v.n == 0) && plain v.t
  else false
def shown (v : V) : ByteArray :=
  if v.k = 1 then ⟨(Lib.itoa v.n).toArray⟩
  else if v.k = 2 then (if v.n = 0 then ⟨#[110, 111]⟩ else ⟨#[121, 101, 115]⟩)
  else if v.k = 3 then ⟨#[39]⟩ ++ v.t ++ ⟨#[39]⟩
  else ⟨#[110, 111, 110, 101]⟩
end Va
