/- What a state's variables become, plainly. -/
import Derived.Test.YtamnfdmmjjekhaaVrP2
set_option linter.unusedSimpArgs false
namespace Vr
open Go
/-- a variable: its name, its first value -/
structure Va where
  nm : Bs
  v : Val
  deriving DecidableEq, Inhabited
def Va.enc (x : Va) : List Value := [.string ⟨x.nm.toArray⟩, .int .u8 x.v.k, .int .i64 x.v.n, .string ⟨x.v.t.toArray⟩]
theorem Va.enc_len (x : Va) : x.enc.length = 4 := rfl
def Va.ce (sc : Int) (x : Va) : Ce := ⟨sc, x.nm, x.v⟩
/-- the cells that a scope's variables give it -/
def ownS (sc : Int) : List Ce → List Va → List Ce
  | own, [] => own
  | own, v :: l => ownS sc (if own.any (isCe sc v.nm) then own else own ++ [v.ce sc]) l
/-- and the others' -/
def ownR (sc : Int) : List Ce → List Ce → List Ce
  | own, [] => own
  | own, c :: l => ownR sc (if c.sc ≠ sc ∨ own.any (isCe sc c.nm) = false then own ++ [c] else own) l
def opened (sc : Int) (vs : List Va) (l : List Ce) : List Ce := ownR sc (ownS sc [] vs) l
theorem ownS_snoc (sc : Int) : ∀ (vs : List Va) (own : List Ce) (v : Va), ownS sc own (vs ++ [v]) = (if (ownS sc own vs).any (isCe sc v.nm) then ownS sc own vs else ownS sc own vs ++ [v.ce sc])
  | [], _, _ => rfl
  | _ :: vs, own, v => by simp only [List.cons_append, ownS]; exact ownS_snoc sc vs _ v
theorem ownR_snoc (sc : Int) : ∀ (l : List Ce) (own : List Ce) (c : Ce), ownR sc own (l ++ [c]) = (if c.sc ≠ sc ∨ (ownR sc own l).any (isCe sc c.nm) = false then ownR sc own l ++ [c] else ownR sc own l)
  | [], _, _ => rfl
  | _ :: l, own, c => by simp only [List.cons_append, ownR]; exact ownR_snoc sc l _ c
theorem ownS_len (sc : Int) : ∀ (vs : List Va) (own : List Ce), (ownS sc own vs).length ≤ own.length + vs.length
  | [], _ => by simp [ownS]
  | v :: vs, own => by
    simp only [ownS]
    refine Nat.le_trans (ownS_len sc vs _) ?_
    split <;> simp <;> omega
theorem ownR_len (sc : Int) : ∀ (l : List Ce) (own : List Ce), (ownR sc own l).length ≤ own.length + l.length
  | [], _ => by simp [ownR]
  | c :: l, own => by
    simp only [ownR]
    refine Nat.le_trans (ownR_len sc l _) ?_
    split <;> simp <;> omega
end Vr
