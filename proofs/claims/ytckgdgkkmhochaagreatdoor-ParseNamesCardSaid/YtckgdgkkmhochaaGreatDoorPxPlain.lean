/- Trees of expressions in plain Lean: what parts in a row are. No program in sight. -/
import Derived.Test.YtckgdgkkmhochaaGreatDoorLxPlain
namespace Px
open Go
open Lx hiding none run first
set_option linter.unusedVariables false
set_option linter.unusedSimpArgs false
/-- a tree: its operator, its value's three parts, its name, what it is of -/
inductive Ex where
  | mk (op k n : Int) (t name : Bs) (args : List Ex)
def Ex.args : Ex → List Ex
  | .mk _ _ _ _ _ l => l
def leaf (k n : Int) (t : Bs) : Ex := .mk 1 k n t [] []
def name (t : Bs) : Ex := .mk 2 0 0 [] t []
def op1 (o : Int) (a : Ex) : Ex := .mk o 0 0 [] [] [a]
def op2 (o : Int) (a b : Ex) : Ex := .mk o 0 0 [] [] [a, b]
def binds : List (Bs × Int × Int) := [([124], 14, 1), ([38], 13, 2), ([60], 9, 3), ([60, 61], 10, 3), ([61, 61], 11, 3), ([33, 61], 12, 3), ([43], 8, 4), ([45], 15, 4), ([42], 5, 5), ([47], 6, 5), ([37], 7, 5)]
def by_ (s : Bs) (o : Int) : Option (Bs × Int × Int) := binds.find? fun b => b.1 == s || b.2.1 == o
def sign (s : Bs) : List Tok → Option (List Tok)
  | [] => none
  | t :: r => if t.k = 4 ∧ t.t = s then some r else none
def numOf (l : Bs) : Int := match Lib.parseIntB 64 l with
  | .ok n => n
  | _ => 0
/- a prefix or an atom; what is put together by operators that bind so much; the rest of it. Nothing: it is no expression. -/
mutual
def one : Nat → List Tok → Option (Ex × List Tok)
  | 0, _ => none
  | _ + 1, [] => none
  | n + 1, t :: r =>
    if t.k = 4 then
      (if t.t = [45] then (one n r).map fun p => (op1 3 p.1, p.2)
      else if t.t = [33] then (one n r).map fun p => (op1 4 p.1, p.2)
      else if t.t = [40] then (two n 1 r).bind fun p => (sign [41] p.2).map fun q => (p.1, q)
      else none)
    else if t.k = 1 then some (leaf 1 (numOf t.t) [], r)
    else if t.k = 3 then some (leaf 3 0 t.t, r)
    else if t.t = [121, 101, 115] then some (leaf 2 1 [], r)
    else if t.t = [110, 111] then some (leaf 2 0 [], r)
    else if t.t = [108, 101, 110] then (sign [40] r).bind fun r1 => (two n 1 r1).bind fun p => (sign [41] p.2).map fun q => (op1 16 p.1, q)
    else some (name t.t, r)
def two : Nat → Int → List Tok → Option (Ex × List Tok)
  | 0, _, _ => none
  | n + 1, much, ts => (one n ts).bind fun p => loop n much 7 p.1 p.2
def loop : Nat → Int → Int → Ex → List Tok → Option (Ex × List Tok)
  | 0, _, _, _, _ => none
  | _ + 1, _, _, left, [] => some (left, [])
  | n + 1, much, limit, left, t :: r =>
    if t.k = 4 then
      (match by_ t.t 0 with
      | none => some (left, t :: r)
      | some b => if b.2.2 < much ∨ limit < b.2.2 then some (left, t :: r) else (two n (b.2.2 + 1) r).bind fun p => loop n much (if b.2.2 = 3 then 2 else b.2.2) (op2 b.2.1 left p.1) p.2)
    else some (left, t :: r)
end
mutual
def deep : Ex → Nat
  | .mk _ _ _ _ _ l => deeps l + 1
def deeps : List Ex → Nat
  | [] => 0
  | e :: l => max (deep e) (deeps l)
end
def none_ : Ex := .mk 0 0 0 [] [] []
/-- all of it -/
def whole (ts : List Tok) : Option Ex := match two (3 * ts.length + 2) 1 ts with
  | some (e, []) => some e
  | _ => none
def parse (s : Bs) : Ex × Int := if (lex s).2 = 0 then
    (match whole (lex s).1 with
    | none => (none_, 4)
    | some e => if 16 < deep e then (none_, 40) else (e, 0))
  else (none_, (lex s).2)

/-! ### what is read gets shorter -/
theorem sign_len {s : Bs} {ts r : List Tok} (h : sign s ts = some r) : r.length < ts.length ∧ ∃ k, r = ts.drop k := by
  cases ts with
  | nil => cases h
  | cons t l =>
    simp only [sign] at h
    split at h
    · obtain rfl := Option.some.inj h; exact ⟨by simp, 1, rfl⟩
    · cases h
def Less (ts r : List Tok) : Prop := r.length < ts.length ∧ ∃ k, r = ts.drop k
theorem Less.trans {a b c : List Tok} (h : Less a b) (k : Less b c) : Less a c := by
  obtain ⟨h1, i, rfl⟩ := h
  obtain ⟨k1, j, rfl⟩ := k
  exact ⟨Nat.lt_trans k1 h1, i + j, by rw [List.drop_drop]⟩
theorem Less.cons (t : Tok) (r : List Tok) : Less (t :: r) r := ⟨by simp, 1, rfl⟩
theorem Less.more {t : Tok} {r s : List Tok} (h : Less r s) : Less (t :: r) s := (Less.cons t r).trans h
theorem map_some {α β : Type} {x : Option α} {f : α → β} {y : β} (h : x.map f = some y) : ∃ a, x = some a ∧ f a = y := by simpa using h
theorem bind_some {α β : Type} {x : Option α} {f : α → Option β} {y : β} (h : x.bind f = some y) : ∃ a, x = some a ∧ f a = some y := by simpa [Option.bind_eq_some_iff] using h
theorem less_all : ∀ n : Nat, (∀ ts e r, one n ts = some (e, r) → Less ts r) ∧ (∀ m ts e r, two n m ts = some (e, r) → Less ts r) ∧ (∀ m l x ts e r, loop n m l x ts = some (e, r) → Less ts r ∨ r = ts)
  | 0 => ⟨fun _ _ _ h => by simp [one] at h, fun _ _ _ _ h => by simp [two] at h, fun _ _ _ _ _ _ h => by simp [loop] at h⟩
  | n + 1 => by
    obtain ⟨h1, h2, h3⟩ := less_all n
    refine ⟨fun ts e r h => ?_, fun m ts e r h => ?_, fun m l x ts e r h => ?_⟩
    · cases ts with
      | nil => simp [one] at h
      | cons t s =>
        simp only [one] at h
        split at h
        · split at h
          · obtain ⟨p, hp, he⟩ := map_some h
            obtain ⟨_, rfl⟩ := Prod.mk.inj he
            exact (h1 _ _ _ hp).more
          · split at h
            · obtain ⟨p, hp, he⟩ := map_some h
              obtain ⟨_, rfl⟩ := Prod.mk.inj he
              exact (h1 _ _ _ hp).more
            · split at h
              · obtain ⟨p, hp, he⟩ := bind_some h
                obtain ⟨q, hq, he⟩ := map_some he
                obtain ⟨_, rfl⟩ := Prod.mk.inj he
                exact (Less.trans (h2 _ _ _ _ hp) (sign_len hq)).more
              · cases h
        · split at h
          · obtain ⟨_, rfl⟩ := Prod.mk.inj (Option.some.inj h); exact Less.cons _ _
          · split at h
            · obtain ⟨_, rfl⟩ := Prod.mk.inj (Option.some.inj h); exact Less.cons _ _
            · split at h
              · obtain ⟨_, rfl⟩ := Prod.mk.inj (Option.some.inj h); exact Less.cons _ _
              · split at h
                · obtain ⟨_, rfl⟩ := Prod.mk.inj (Option.some.inj h); exact Less.cons _ _
                · split at h
                  · obtain ⟨r1, hr, he⟩ := bind_some h
                    obtain ⟨p, hp, he⟩ := bind_some he
                    obtain ⟨q, hq, he⟩ := map_some he
                    obtain ⟨_, rfl⟩ := Prod.mk.inj he
                    exact (Less.trans (Less.trans (sign_len hr) (h2 _ _ _ _ hp)) (sign_len hq)).more
                  · obtain ⟨_, rfl⟩ := Prod.mk.inj (Option.some.inj h); exact Less.cons _ _
    · simp only [two] at h
      obtain ⟨p, hp, he⟩ := bind_some h
      have := h1 _ _ _ hp
      rcases h3 _ _ _ _ _ _ he with k | rfl
      · exact this.trans k
      · exact this
    · cases ts with
      | nil => simp only [loop] at h; obtain ⟨_, rfl⟩ := Prod.mk.inj (Option.some.inj h); exact .inr rfl
      | cons t s =>
        simp only [loop] at h
        split at h
        · split at h
          · obtain ⟨_, rfl⟩ := Prod.mk.inj (Option.some.inj h); exact .inr rfl
          · split at h
            · obtain ⟨_, rfl⟩ := Prod.mk.inj (Option.some.inj h); exact .inr rfl
            · obtain ⟨p, hp, he⟩ := bind_some h
              have := (h2 _ _ _ _ hp).more (t := t)
              rcases h3 _ _ _ _ _ _ he with k | rfl
              · exact .inl (this.trans k)
              · exact .inl this
        · obtain ⟨_, rfl⟩ := Prod.mk.inj (Option.some.inj h); exact .inr rfl
theorem one_less {n : Nat} {ts r : List Tok} {e : Ex} (h : one n ts = some (e, r)) : Less ts r := (less_all n).1 _ _ _ h
theorem two_less {n : Nat} {m : Int} {ts r : List Tok} {e : Ex} (h : two n m ts = some (e, r)) : Less ts r := (less_all n).2.1 _ _ _ _ h
end Px
