/- Reading level by level (as the document does) against reading by how much an operator binds. No program in sight. -/
import Derived.Test.YtckgdgkkmhochaaGreatDoorPxPlain
namespace Px
open Go
open Lx hiding none run first
set_option linter.unusedVariables false
set_option linter.unusedSimpArgs false
theorem bind_congr' {α β : Type} {o o' : Option α} {f g : α → Option β} (h : o = o') (k : ∀ a, o' = some a → f a = g a) : o.bind f = o'.bind g := by
  subst h
  cases o with
  | none => rfl
  | some a => exact k a rfl
theorem stab : ∀ n : Nat, (∀ ts, 3 * ts.length + 1 ≤ n → one (n + 1) ts = one n ts) ∧ (∀ m ts, 3 * ts.length + 2 ≤ n → two (n + 1) m ts = two n m ts) ∧ (∀ m l x ts, 3 * ts.length + 1 ≤ n → loop (n + 1) m l x ts = loop n m l x ts)
  | 0 => ⟨fun _ h => by omega, fun _ _ h => by omega, fun _ _ _ _ h => by omega⟩
  | n + 1 => by
    obtain ⟨h1, h2, h3⟩ := stab n
    refine ⟨fun ts hl => ?_, fun m ts hl => ?_, fun m l x ts hl => ?_⟩
    · cases ts with
      | nil => simp only [one]
      | cons t r =>
        simp only [List.length_cons] at hl
        have e1 := h1 r (by omega)
        have e2 := h2 1 r (by omega)
        rw [one, one, e1, e2]
        have e3 : ((sign [40] r).bind fun r1 => (two (n + 1) 1 r1).bind fun p => (sign [41] p.2).map fun q => (op1 16 p.1, q)) = (sign [40] r).bind fun r1 => (two n 1 r1).bind fun p => (sign [41] p.2).map fun q => (op1 16 p.1, q) :=
          bind_congr' rfl fun r1 hr => by rw [h2 1 r1 (by have := (sign_len hr).1; omega)]
        rw [e3]
    · rw [two, two, h1 ts (by omega)]
      refine bind_congr' rfl fun p hp => ?_
      obtain ⟨e, r⟩ := p
      have := (one_less hp).1
      exact h3 _ _ _ _ (by show 3 * r.length + 1 ≤ n; omega)
    · cases ts with
      | nil => simp only [loop]
      | cons t r =>
        simp only [List.length_cons] at hl
        rw [loop, loop]
        by_cases hk : t.k = 4
        · rw [if_pos hk, if_pos hk]
          cases hb : by_ t.t 0 with
          | none => rfl
          | some b =>
            dsimp only
            by_cases hc : b.2.2 < m ∨ l < b.2.2
            · rw [if_pos hc, if_pos hc]
            · rw [if_neg hc, if_neg hc, h2 _ r (by omega)]
              refine bind_congr' rfl fun p hp => ?_
              obtain ⟨e, r'⟩ := p
              have := (two_less hp).1
              exact h3 _ _ _ _ (by show 3 * r'.length + 1 ≤ n; omega)
        · rw [if_neg hk, if_neg hk]
theorem one_at {n : Nat} {ts : List Tok} (h : 3 * ts.length + 1 ≤ n) : one n ts = one (3 * ts.length + 1) ts := by
  induction n with
  | zero => omega
  | succ n ih =>
    by_cases e : n + 1 = 3 * ts.length + 1
    · rw [e]
    · rw [(stab n).1 ts (by omega), ih (by omega)]
theorem two_at {n : Nat} {m : Int} {ts : List Tok} (h : 3 * ts.length + 2 ≤ n) : two n m ts = two (3 * ts.length + 2) m ts := by
  induction n with
  | zero => omega
  | succ n ih =>
    by_cases e : n + 1 = 3 * ts.length + 2
    · rw [e]
    · rw [(stab n).2.1 m ts (by omega), ih (by omega)]
theorem loop_at {n : Nat} {m l : Int} {x : Ex} {ts : List Tok} (h : 3 * ts.length + 1 ≤ n) : loop n m l x ts = loop (3 * ts.length + 1) m l x ts := by
  induction n with
  | zero => omega
  | succ n ih =>
    by_cases e : n + 1 = 3 * ts.length + 1
    · rw [e]
    · rw [(stab n).2.2 m l x ts (by omega), ih (by omega)]
/-- with as much fuel as is asked for -/
def One (ts : List Tok) : Option (Ex × List Tok) := one (3 * ts.length + 1) ts
def Two (m : Int) (ts : List Tok) : Option (Ex × List Tok) := two (3 * ts.length + 2) m ts
def Loop (m l : Int) (x : Ex) (ts : List Tok) : Option (Ex × List Tok) := loop (3 * ts.length + 1) m l x ts
/-- an operator of two, and how much it binds -/
def lv (t : Tok) : Option (Int × Int) := if t.k = 4 then (by_ t.t 0).map (·.2) else none
theorem One_nil : One [] = none := rfl
theorem One_cons (t : Tok) (r : List Tok) : One (t :: r) =
    if t.k = 4 then
      (if t.t = [45] then (One r).map fun p => (op1 3 p.1, p.2)
      else if t.t = [33] then (One r).map fun p => (op1 4 p.1, p.2)
      else if t.t = [40] then (Two 1 r).bind fun p => (sign [41] p.2).map fun q => (p.1, q)
      else none)
    else if t.k = 1 then some (leaf 1 (numOf t.t) [], r)
    else if t.k = 3 then some (leaf 3 0 t.t, r)
    else if t.t = [121, 101, 115] then some (leaf 2 1 [], r)
    else if t.t = [110, 111] then some (leaf 2 0 [], r)
    else if t.t = [108, 101, 110] then (sign [40] r).bind fun r1 => (Two 1 r1).bind fun p => (sign [41] p.2).map fun q => (op1 16 p.1, q)
    else some (name t.t, r) := by
  unfold One Two
  rw [show 3 * (t :: r).length + 1 = (3 * r.length + 3) + 1 from by simp only [List.length_cons]; omega, one, one_at (n := 3 * r.length + 3) (ts := r) (by omega), two_at (n := 3 * r.length + 3) (ts := r) (by omega)]
  have e3 : ((sign [40] r).bind fun r1 => (two (3 * r.length + 3) 1 r1).bind fun p => (sign [41] p.2).map fun q => (op1 16 p.1, q)) = (sign [40] r).bind fun r1 => (two (3 * r1.length + 2) 1 r1).bind fun p => (sign [41] p.2).map fun q => (op1 16 p.1, q) :=
    bind_congr' rfl fun r1 hr => by rw [two_at (n := 3 * r.length + 3) (ts := r1) (by have := (sign_len hr).1; omega)]
  rw [e3]
theorem Two_eq (m : Int) (ts : List Tok) : Two m ts = (One ts).bind fun p => Loop m 7 p.1 p.2 := by
  unfold One Two Loop
  rw [two]
  refine bind_congr' rfl fun p hp => ?_
  obtain ⟨e, r⟩ := p
  have := (one_less hp).1
  exact loop_at (by show 3 * r.length + 1 ≤ _; omega)
theorem Loop_nil (m l : Int) (x : Ex) : Loop m l x [] = some (x, []) := rfl
theorem Loop_cons (m l : Int) (x : Ex) (t : Tok) (r : List Tok) : Loop m l x (t :: r) = match lv t with
    | none => some (x, t :: r)
    | some b => if b.2 < m ∨ l < b.2 then some (x, t :: r) else (Two (b.2 + 1) r).bind fun p => Loop m (if b.2 = 3 then 2 else b.2) (op2 b.1 x p.1) p.2 := by
  unfold Loop Two lv
  rw [show 3 * (t :: r).length + 1 = (3 * r.length + 3) + 1 from by simp only [List.length_cons]; omega, loop]
  by_cases hk : t.k = 4
  · rw [if_pos hk, if_pos hk]
    cases hb : by_ t.t 0 with
    | none => rfl
    | some b =>
      dsimp only [Option.map_some]
      by_cases hc : b.2.2 < m ∨ l < b.2.2
      · rw [if_pos hc, if_pos hc]
      · rw [if_neg hc, if_neg hc, two_at (n := 3 * r.length + 3) (ts := r) (by omega)]
        refine bind_congr' rfl fun p hp => ?_
        obtain ⟨e, r'⟩ := p
        have := (two_less hp).1
        exact loop_at (by show 3 * r'.length + 1 ≤ _; omega)
  · rw [if_neg hk, if_neg hk]
theorem One_less {ts r : List Tok} {e : Ex} (h : One ts = some (e, r)) : Less ts r := one_less h
theorem Two_less {m : Int} {ts r : List Tok} {e : Ex} (h : Two m ts = some (e, r)) : Less ts r := two_less h
theorem Loop_less {m l : Int} {x : Ex} {ts r : List Tok} {e : Ex} (h : Loop m l x ts = some (e, r)) : Less ts r ∨ r = ts := (less_all _).2.2 _ _ _ _ _ _ h
theorem lv_much {t : Tok} {b : Int × Int} (h : lv t = some b) : t.k = 4 ∧ 1 ≤ b.2 ∧ b.2 ≤ 5 := by
  unfold lv at h
  split at h
  · rename_i hk
    obtain ⟨c, hc, rfl⟩ := Option.map_eq_some_iff.1 h
    have hm := List.mem_of_find?_eq_some hc
    have ht : ∀ b ∈ binds, 1 ≤ b.2.2 ∧ b.2.2 ≤ 5 := by decide
    exact ⟨hk, ht c hm⟩
  · cases h
/-- no operator that binds so much comes next -/
def Stops (m : Int) : List Tok → Prop
  | [] => True
  | t :: _ => ∀ b, lv t = some b → b.2 < m
/-- one that compares comes next -/
def BadH : List Tok → Prop
  | [] => False
  | t :: _ => ∃ b, lv t = some b ∧ b.2 = 3
/-- what is read level by level, against what is read by how much it binds: the same, or it is refused, where the other stops ahead of a second one that compares -/
def Rel (m : Int) (o o' : Option (Ex × List Tok)) : Prop := match o with
  | some p => o' = some p ∧ Stops m p.2
  | none => o' = none ∨ (m ≤ 3 ∧ ∃ x r, o' = some (x, r) ∧ BadH r)
theorem Stops.up {m n : Int} (h : m ≤ n) : ∀ {r : List Tok}, Stops m r → Stops n r
  | [], _ => trivial
  | t :: r, k => fun b hb => by have := k b hb; omega
/-- a loop's last limit -/
theorem loop_split (m : Int) (hm : 1 ≤ m) (hm5 : m ≤ 5) : ∀ (n : Nat) (l : Int) (x : Ex) (ts : List Tok), ts.length ≤ n → (m ≤ l) →
    (Loop (m + 1) l x ts = none → Loop m l x ts = none) ∧ ∀ y r, Loop (m + 1) l x ts = some (y, r) → ∃ l', m ≤ l' ∧ Loop m l x ts = Loop m l' y r ∧ (∀ t s, r = t :: s → ∀ b, lv t = some b → b.2 < m + 1 ∨ l' < b.2) := by
  intro n
  induction n with
  | zero =>
    intro l x ts hl hml
    obtain rfl : ts = [] := List.length_eq_zero_iff.1 (by omega)
    refine ⟨fun h => by simp [Loop_nil] at h, fun y r h => ?_⟩
    rw [Loop_nil] at h
    obtain ⟨rfl, rfl⟩ := Prod.mk.inj (Option.some.inj h)
    exact ⟨l, hml, rfl, fun t s h => by cases h⟩
  | succ n ih =>
    intro l x ts hl hml
    cases ts with
    | nil =>
      refine ⟨fun h => by simp [Loop_nil] at h, fun y r h => ?_⟩
      rw [Loop_nil] at h
      obtain ⟨rfl, rfl⟩ := Prod.mk.inj (Option.some.inj h)
      exact ⟨l, hml, rfl, fun t s h => by cases h⟩
    | cons t r =>
      simp only [List.length_cons] at hl
      rw [Loop_cons (m + 1)]
      cases hb : lv t with
      | none =>
        refine ⟨fun h => (by cases h), fun y r' h => ?_⟩
        obtain ⟨rfl, rfl⟩ := Prod.mk.inj (Option.some.inj h)
        refine ⟨l, hml, rfl, fun t' s' h b hb' => ?_⟩
        obtain ⟨rfl, rfl⟩ := List.cons.inj h
        rw [hb] at hb'; cases hb'
      | some b =>
        dsimp only
        by_cases hc : b.2 < m + 1 ∨ l < b.2
        · rw [if_pos hc]
          refine ⟨fun h => (by cases h), fun y r' h => ?_⟩
          obtain ⟨rfl, rfl⟩ := Prod.mk.inj (Option.some.inj h)
          refine ⟨l, hml, rfl, fun t' s' h b' hb' => ?_⟩
          obtain ⟨rfl, rfl⟩ := List.cons.inj h
          rw [hb] at hb'
          obtain rfl := Option.some.inj hb'
          exact hc
        · rw [if_neg hc]
          have e : Loop m l x (t :: r) = (Two (b.2 + 1) r).bind fun p => Loop m (if b.2 = 3 then 2 else b.2) (op2 b.1 x p.1) p.2 := by
            rw [Loop_cons m, hb]; dsimp only; rw [if_neg (by omega)]
          rw [e]
          cases hp : Two (b.2 + 1) r with
          | none => exact ⟨fun _ => rfl, fun y r' h => by cases h⟩
          | some p =>
            have hl2 : p.2.length < r.length := (Two_less (e := p.1) (r := p.2) hp).1
            simp only [Option.bind_some]
            exact ih _ _ _ (by omega) (by split <;> omega)
/-- from a level to the next lower one -/
theorem rel_down {m : Int} (hm : 1 ≤ m) (hm5 : m ≤ 5) {ts : List Tok} {o : Option (Ex × List Tok)} (h : Rel (m + 1) o (Two (m + 1) ts)) : match o with
    | some p => Stops (m + 1) p.2 ∧ ∃ l, m ≤ l ∧ Two m ts = Loop m l p.1 p.2
    | none => Rel m none (Two m ts) := by
  have key : (Two (m + 1) ts = none → Two m ts = none) ∧ ∀ y r, Two (m + 1) ts = some (y, r) → ∃ l', m ≤ l' ∧ Two m ts = Loop m l' y r ∧ (∀ t s, r = t :: s → ∀ b, lv t = some b → b.2 < m + 1 ∨ l' < b.2) := by
    rw [Two_eq m, Two_eq (m + 1)]
    cases One ts with
    | none => exact ⟨fun _ => rfl, fun y r h => by cases h⟩
    | some p => exact loop_split m hm hm5 _ 7 p.1 p.2 (Nat.le_refl _) (by omega)
  cases o with
  | some p =>
    obtain ⟨h1, h2⟩ := h
    obtain ⟨l, hl, e, _⟩ := key.2 p.1 p.2 h1
    exact ⟨h2, l, hl, e⟩
  | none =>
    rcases h with h | ⟨h3, x, r, h, hbad⟩
    · exact .inl (key.1 h)
    · obtain ⟨l, hl, e, hst⟩ := key.2 x r h
      refine .inr ⟨by omega, x, r, ?_, hbad⟩
      cases r with
      | nil => cases hbad
      | cons t s =>
        obtain ⟨b, hb, hb3⟩ := hbad
        rw [e, Loop_cons, hb]
        have := hst t s rfl b hb
        dsimp only
        rw [if_pos (by omega)]
/-- one stops -/
theorem loop_stop {m l : Int} {x : Ex} {r : List Tok} (hs : Stops m r) : Loop m l x r = some (x, r) := by
  cases r with
  | nil => rfl
  | cons t s =>
    rw [Loop_cons]
    cases hb : lv t with
    | none => rfl
    | some b => dsimp only; rw [if_pos (.inl (hs b hb))]
theorem loop_go {m l : Int} {x : Ex} {t : Tok} {r : List Tok} {b : Int × Int} (hb : lv t = some b) (h1 : b.2 = m) (h2 : m ≤ l) : Loop m l x (t :: r) = (Two (m + 1) r).bind fun p => Loop m (if m = 3 then 2 else m) (op2 b.1 x p.1) p.2 := by
  rw [Loop_cons, hb]
  dsimp only
  rw [if_neg (by omega), h1]
/-- a second one that compares -/
theorem loop_bad {l : Int} {x : Ex} {t : Tok} {r : List Tok} {b : Int × Int} (hb : lv t = some b) (h1 : b.2 = 3) (h2 : l = 2) : Rel 3 none (Loop 3 l x (t :: r)) := by
  refine .inr ⟨by omega, x, t :: r, ?_, b, hb, h1⟩
  rw [Loop_cons, hb]
  dsimp only
  rw [if_pos (by omega)]
/-- the right side is refused -/
theorem loop_none {m l : Int} {x : Ex} {t : Tok} {r : List Tok} {b : Int × Int} (hm : 1 ≤ m) (hb : lv t = some b) (h1 : b.2 = m) (h2 : m ≤ l) (h : Rel (m + 1) none (Two (m + 1) r)) : Rel m none (Loop m l x (t :: r)) := by
  rw [loop_go hb h1 h2]
  rcases h with h | ⟨h3, y, s, h, hbad⟩
  · rw [h]; exact .inl rfl
  · rw [h]
    refine .inr ⟨by omega, op2 b.1 x y, s, ?_, hbad⟩
    cases s with
    | nil => cases hbad
    | cons t' s' =>
      obtain ⟨c, hc, hc3⟩ := hbad
      simp only [Option.bind_some]
      rw [Loop_cons, hc]
      dsimp only
      rw [if_pos (by right; rw [if_neg (by omega)]; omega)]
/-- one that compares is no closing bracket -/
theorem bad_sign {r : List Tok} (h : BadH r) : sign [41] r = none := by
  cases r with
  | nil => cases h
  | cons t s =>
    obtain ⟨b, hb, h3⟩ := h
    unfold lv at hb
    split at hb
    · rename_i hk
      simp only [sign]
      rw [if_neg]
      rintro ⟨_, e⟩
      rw [e] at hb
      have : by_ [41] 0 = none := by decide
      rw [this] at hb
      cases hb
    · cases hb
/-- in brackets -/
theorem rel_close {α : Type} {o : Option (Ex × List Tok)} {ts : List Tok} (h : Rel 1 o (Two 1 ts)) (f : Ex → List Tok → α) : ((Two 1 ts).bind fun p => (sign [41] p.2).map fun q => f p.1 q) = o.bind fun p => (sign [41] p.2).map fun q => f p.1 q := by
  cases o with
  | some p => rw [h.1]
  | none =>
    rcases h with h | ⟨_, x, r, h, hb⟩
    · rw [h]
    · rw [h]; simp [bad_sign hb]
/-- all of it -/
def ofO : Option (Ex × List Tok) → Option Ex
  | some (e, []) => some e
  | _ => none
theorem whole_eq (ts : List Tok) : whole ts = ofO (Two 1 ts) := by
  unfold whole Two ofO
  rfl
theorem ofO_rel {m : Int} {o o' : Option (Ex × List Tok)} (h : Rel m o o') : ofO o' = ofO o := by
  cases o with
  | some p => rw [h.1]
  | none =>
    rcases h with h | ⟨_, x, r, h, hb⟩
    · rw [h]
    · rw [h]
      cases r with
      | nil => cases hb
      | cons t s => rfl
theorem rel_whole {o : Option (Ex × List Tok)} {ts : List Tok} (h : Rel 1 o (Two 1 ts)) : whole ts = ofO o := by
  rw [whole_eq, ofO_rel h]
/-- a prefix or an atom, at the level behind the last -/
theorem rel_six (ts : List Tok) (hl : ∀ p, One ts = some p → True) : Two 6 ts = One ts := by
  rw [Two_eq]
  cases One ts with
  | none => rfl
  | some p =>
    refine loop_stop ?_
    cases hp : p.2 with
    | nil => trivial
    | cons t s => exact fun b hb => by have := lv_much hb; omega
end Px
