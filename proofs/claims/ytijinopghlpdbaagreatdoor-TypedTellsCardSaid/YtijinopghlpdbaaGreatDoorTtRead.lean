/- Reading level by level (as the document does) against reading by how much an operator binds. No program in sight. -/
import Derived.Test.YtijinopghlpdbaaGreatDoorPxPlain
import Derived.Test.YtijinopghlpdbaaGreatDoorTtPlain
import Derived.Test.YtijinopghlpdbaaGreatDoorPxParse
import Derived.Test.YtijinopghlpdbaaGreatDoorTtVc
import Derived.Test.YtijinopghlpdbaaGreatDoorTtLex
namespace Px
open Go
open Lx hiding none run first
set_option linter.unusedVariables false
set_option linter.unusedSimpArgs false
theorem bind_congr' {α β : Type} {o o' : Option α} {f g : α → Option β} (h : o = o') (k : ∀ a, o' = some a → f a = g a) : o.bind f = o'.bind g := by
  subst h
  cases o with
  | none => rfl
  | some a => exact k a rfl
theorem stab : ∀ n : Nat, (∀ ts, 3 * ts.length + 1 ≤ n → one (n + 1) ts = one n ts) ∧ (∀ m ts, 3 * ts.length + 2 ≤ n → two (n + 1) m ts = two n m ts) ∧ (∀ m l x ts, 3 * ts.length + 1 ≤ n → loop (n + 1) m l x ts = loop n m l x ts)
  | 0 => ⟨fun _ h => by omega, fun _ _ h => by omega, fun _ _ _ _ h => by omega⟩
  | n + 1 => by
    obtain ⟨h1, h2, h3⟩ := stab n
    refine ⟨fun ts hl => ?_, fun m ts hl => ?_, fun m l x ts hl => ?_⟩
    · cases ts with
      | nil => simp only [one]
      | cons t r =>
        simp only [List.length_cons] at hl
        have e1 := h1 r (by omega)
        have e2 := h2 1 r (by omega)
        rw [one, one, e1, e2]
        have e3 : ((sign [40] r).bind fun r1 => (two (n + 1) 1 r1).bind fun p => (sign [41] p.2).map fun q => (op1 16 p.1, q)) = (sign [40] r).bind fun r1 => (two n 1 r1).bind fun p => (sign [41] p.2).map fun q => (op1 16 p.1, q) :=
          bind_congr' rfl fun r1 hr => by rw [h2 1 r1 (by have := (sign_len hr).1; omega)]
        rw [e3]
    · rw [two, two, h1 ts (by omega)]
      refine bind_congr' rfl fun p hp => ?_
      obtain ⟨e, r⟩ := p
      have := (one_less hp).1
      exact h3 _ _ _ _ (by show 3 * r.length + 1 ≤ n; omega)
    · cases ts with
      | nil => simp only [loop]
      | cons t r =>
        simp only [List.length_cons] at hl
        rw [loop, loop]
        by_cases hk : t.k = 4
        · rw [if_pos hk, if_pos hk]
          cases hb : by_ t.t 0 with
          | none => rfl
          | some b =>
            dsimp only
            by_cases hc : b.2.2 < m ∨ l < b.2.2
            · rw [if_pos hc, if_pos hc]
            · rw [if_neg hc, if_neg hc, h2 _ r (by omega)]
              refine bind_congr' rfl fun p hp => ?_
              obtain ⟨e, r'⟩ := p
              have := (two_less hp).1
              exact h3 _ _ _ _ (by show 3 * r'.length + 1 ≤ n; omega)
        · rw [if_neg hk, if_neg hk]
theorem one_at {n : Nat} {ts : List Tok} (h : 3 * ts.length + 1 ≤ n) : one n ts = one (3 * ts.length + 1) ts := by
  induction n with
  | zero => omega
  | succ n ih =>
    by_cases e : n + 1 = 3 * ts.length + 1
    · rw [e]
    · rw [(stab n).1 ts (by omega), ih (by omega)]
theorem two_at {n : Nat} {m : Int} {ts : List Tok} (h : 3 * ts.length + 2 ≤ n) : two n m ts = two (3 * ts.length + 2) m ts := by
  induction n with
  | zero => omega
  | succ n ih =>
    by_cases e : n + 1 = 3 * ts.length + 2
    · rw [e]
    · rw [(stab n).2.1 m ts (by omega), ih (by omega)]
theorem loop_at {n : Nat} {m l : Int} {x : Ex} {ts : List Tok} (h : 3 * ts.length + 1 ≤ n) : loop n m l x ts = loop (3 * ts.length + 1) m l x ts := by
  induction n with
  | zero => omega
  | succ n ih =>
    by_cases e : n + 1 = 3 * ts.length + 1
    · rw [e]
    · rw [(stab n).2.2 m l x ts (by omega), ih (by omega)]
/-- with as much fuel as is asked for -/
def One (ts : List Tok) : Option (Ex × List Tok) := one (3 * ts.length + 1) ts
def Two (m : Int) (ts : List Tok) : Option (Ex × List Tok) := two (3 * ts.length + 2) m ts
def Loop (m l : Int) (x : Ex) (ts : List Tok) : Option (Ex × List Tok) := loop (3 * ts.length + 1) m l x ts
/-- an operator of two, and how much it binds -/
def lv (t : Tok) : Option (Int × Int) := if t.k = 4 then (by_ t.t 0).map (·.2) else none
theorem One_nil : One [] = none := rfl
theorem One_cons (t : Tok) (r : List Tok) : One (t :: r) =
    if t.k = 4 then
      (if t.t = [45] then (One r).map fun p => (op1 3 p.1, p.2)
      else if t.t = [33] then (One r).map fun p => (op1 4 p.1, p.2)
      else if t.t = [40] then (Two 1 r).bind fun p => (sign [41] p.2).map fun q => (p.1, q)
      else none)
    else if t.k = 1 then some (leaf 1 (numOf t.t) [], r)
    else if t.k = 3 then some (leaf 3 0 t.t, r)
    else if t.t = [121, 101, 115] then some (leaf 2 1 [], r)
    else if t.t = [110, 111] then some (leaf 2 0 [], r)
    else if t.t = [108, 101, 110] then (sign [40] r).bind fun r1 => (Two 1 r1).bind fun p => (sign [41] p.2).map fun q => (op1 16 p.1, q)
    else some (name t.t, r) := by
  unfold One Two
  rw [show 3 * (t :: r).length + 1 = (3 * r.length + 3) + 1 from by simp only [List.length_cons]; omega, one, one_at (n := 3 * r.length + 3) (ts := r) (by omega), two_at (n := 3 * r.length + 3) (ts := r) (by omega)]
  have e3 : ((sign [40] r).bind fun r1 => (two (3 * r.length + 3) 1 r1).bind fun p => (sign [41] p.2).map fun q => (op1 16 p.1, q)) = (sign [40] r).bind fun r1 => (two (3 * r1.length + 2) 1 r1).bind fun p => (sign [41] p.2).map fun q => (op1 16 p.1, q) :=
    bind_congr' rfl fun r1 hr => by rw [two_at (n := 3 * r.length + 3) (ts := r1) (by have := (sign_len hr).1; omega)]
  rw [e3]
theorem Two_eq (m : Int) (ts : List Tok) : Two m ts = (One ts).bind fun p => Loop m 7 p.1 p.2 := by
  unfold One Two Loop
  rw [two]
  refine bind_congr' rfl fun p hp => ?_
  obtain ⟨e, r⟩ := p
  have := (one_less hp).1
  exact loop_at (by show 3 * r.length + 1 ≤ _; omega)
theorem Loop_nil (m l : Int) (x : Ex) : Loop m l x [] = some (x, []) := rfl
theorem Loop_cons (m l : Int) (x : Ex) (t : Tok) (r : List Tok) : Loop m l x (t :: r) = match lv t with
    | none => some (x, t :: r)
    | some b => if b.2 < m ∨ l < b.2 then some (x, t :: r) else (Two (b.2 + 1) r).bind fun p => Loop m (if b.2 = 3 then 2 else b.2) (op2 b.1 x p.1) p.2 := by
  unfold Loop Two lv
  rw [show 3 * (t :: r).length + 1 = (3 * r.length + 3) + 1 from by simp only [List.length_cons]; omega, loop]
  by_cases hk : t.k = 4
  · rw [if_pos hk, if_pos hk]
    cases hb : by_ t.t 0 with
    | none => rfl
    | some b =>
      dsimp only [Option.map_some]
      by_cases hc : b.2.2 < m ∨ l < b.2.2
      · rw [if_pos hc, if_pos hc]
      · rw [if_neg hc, if_neg hc, two_at (n := 3 * r.length + 3) (ts := r) (by omega)]
        refine bind_congr' rfl fun p hp => ?_
        obtain ⟨e, r'⟩ := p
        have := (two_less hp).1
        exact loop_at (by show 3 * r'.length + 1 ≤ _; omega)
  · rw [if_neg hk, if_neg hk]
theorem One_less {ts r : List Tok} {e : Ex} (h : One ts = some (e, r)) : Less ts r := one_less h
theorem Two_less {m : Int} {ts r : List Tok} {e : Ex} (h : Two m ts = some (e, r)) : Less ts r := two_less h
theorem Loop_less {m l : Int} {x : Ex} {ts r : List Tok} {e : Ex} (h : Loop m l x ts = some (e, r)) : Less ts r ∨ r = ts := (less_all _).2.2 _ _ _ _ _ _ h
theorem lv_much {t : Tok} {b : Int × Int} (h : lv t = some b) : t.k = 4 ∧ 1 ≤ b.2 ∧ b.2 ≤ 5 := by
  unfold lv at h
  split at h
  · rename_i hk
    obtain ⟨c, hc, rfl⟩ := Option.map_eq_some_iff.1 h
    have hm := List.mem_of_find?_eq_some hc
    have ht : ∀ b ∈ binds, 1 ≤ b.2.2 ∧ b.2.2 ≤ 5 := by decide
    exact ⟨hk, ht c hm⟩
  · cases h
/-- no operator that binds so much comes next -/
def Stops (m : Int) : List Tok → Prop
  | [] => True
  | t :: _ => ∀ b, lv t = some b → b.2 < m
/-- one that compares comes next -/
def BadH : List Tok → Prop
  | [] => False
  | t :: _ => ∃ b, lv t = some b ∧ b.2 = 3
/-- what is read level by level, against what is read by how much it binds: the same, or it is refused, where the other stops ahead of a second one that compares -/
def Rel (m : Int) (o o' : Option (Ex × List Tok)) : Prop := match o with
  | some p => o' = some p ∧ Stops m p.2
  | none => o' = none ∨ (m ≤ 3 ∧ ∃ x r, o' = some (x, r) ∧ BadH r)
theorem Stops.up {m n : Int} (h : m ≤ n) : ∀ {r : List Tok}, Stops m r → Stops n r
  | [], _ => trivial
  | t :: r, k => fun b hb => by have := k b hb; omega
/-- a loop's last limit -/
theorem loop_split (m : Int) (hm : 1 ≤ m) (hm5 : m ≤ 5) : ∀ (n : Nat) (l : Int) (x : Ex) (ts : List Tok), ts.length ≤ n → (m ≤ l) →
    (Loop (m + 1) l x ts = none → Loop m l x ts = none) ∧ ∀ y r, Loop (m + 1) l x ts = some (y, r) → ∃ l', m ≤ l' ∧ Loop m l x ts = Loop m l' y r ∧ (∀ t s, r = t :: s → ∀ b, lv t = some b → b.2 < m + 1 ∨ l' < b.2) := by
  intro n
  induction n with
  | zero =>
    intro l x ts hl hml
    obtain rfl : ts = [] := List.length_eq_zero_iff.1 (by omega)
    refine ⟨fun h => by simp [Loop_nil] at h, fun y r h => ?_⟩
    rw [Loop_nil] at h
    obtain ⟨rfl, rfl⟩ := Prod.mk.inj (Option.some.inj h)
    exact ⟨l, hml, rfl, fun t s h => by cases h⟩
  | succ n ih =>
    intro l x ts hl hml
    cases ts with
    | nil =>
      refine ⟨fun h => by simp [Loop_nil] at h, fun y r h => ?_⟩
      rw [Loop_nil] at h
      obtain ⟨rfl, rfl⟩ := Prod.mk.inj (Option.some.inj h)
      exact ⟨l, hml, rfl, fun t s h => by cases h⟩
    | cons t r =>
      simp only [List.length_cons] at hl
      rw [Loop_cons (m + 1)]
      cases hb : lv t with
      | none =>
        refine ⟨fun h => (by cases h), fun y r' h => ?_⟩
        obtain ⟨rfl, rfl⟩ := Prod.mk.inj (Option.some.inj h)
        refine ⟨l, hml, rfl, fun t' s' h b hb' => ?_⟩
        obtain ⟨rfl, rfl⟩ := List.cons.inj h
        rw [hb] at hb'; cases hb'
      | some b =>
        dsimp only
        by_cases hc : b.2 < m + 1 ∨ l < b.2
        · rw [if_pos hc]
          refine ⟨fun h => (by cases h), fun y r' h => ?_⟩
          obtain ⟨rfl, rfl⟩ := Prod.mk.inj (Option.some.inj h)
          refine ⟨l, hml, rfl, fun t' s' h b' hb' => ?_⟩
          obtain ⟨rfl, rfl⟩ := List.cons.inj h
          rw [hb] at hb'
          obtain rfl := Option.some.inj hb'
          exact hc
        · rw [if_neg hc]
          have e : Loop m l x (t :: r) = (Two (b.2 + 1) r).bind fun p => Loop m (if b.2 = 3 then 2 else b.2) (op2 b.1 x p.1) p.2 := by
            rw [Loop_cons m, hb]; dsimp only; rw [if_neg (by omega)]
          rw [e]
          cases hp : Two (b.2 + 1) r with
          | none => exact ⟨fun _ => rfl, fun y r' h => by cases h⟩
          | some p =>
            have hl2 : p.2.length < r.length := (Two_less (e := p.1) (r := p.2) hp).1
            simp only [Option.bind_some]
            exact ih _ _ _ (by omega) (by split <;> omega)
/-- from a level to the next lower one -/
theorem rel_down {m : Int} (hm : 1 ≤ m) (hm5 : m ≤ 5) {ts : List Tok} {o : Option (Ex × List Tok)} (h : Rel (m + 1) o (Two (m + 1) ts)) : match o with
    | some p => Stops (m + 1) p.2 ∧ ∃ l, m ≤ l ∧ Two m ts = Loop m l p.1 p.2
    | none => Rel m none (Two m ts) := by
  have key : (Two (m + 1) ts = none → Two m ts = none) ∧ ∀ y r, Two (m + 1) ts = some (y, r) → ∃ l', m ≤ l' ∧ Two m ts = Loop m l' y r ∧ (∀ t s, r = t :: s → ∀ b, lv t = some b → b.2 < m + 1 ∨ l' < b.2) := by
    rw [Two_eq m, Two_eq (m + 1)]
    cases One ts with
    | none => exact ⟨fun _ => rfl, fun y r h => by cases h⟩
    | some p => exact loop_split m hm hm5 _ 7 p.1 p.2 (Nat.le_refl _) (by omega)
  cases o with
  | some p =>
    obtain ⟨h1, h2⟩ := h
    obtain ⟨l, hl, e, _⟩ := key.2 p.1 p.2 h1
    exact ⟨h2, l, hl, e⟩
  | none =>
    rcases h with h | ⟨h3, x, r, h, hbad⟩
    · exact .inl (key.1 h)
    · obtain ⟨l, hl, e, hst⟩ := key.2 x r h
      refine .inr ⟨by omega, x, r, ?_, hbad⟩
      cases r with
      | nil => cases hbad
      | cons t s =>
        obtain ⟨b, hb, hb3⟩ := hbad
        rw [e, Loop_cons, hb]
        have := hst t s rfl b hb
        dsimp only
        rw [if_pos (by omega)]
/-- one stops -/
theorem loop_stop {m l : Int} {x : Ex} {r : List Tok} (hs : Stops m r) : Loop m l x r = some (x, r) := by
  cases r with
  | nil => rfl
  | cons t s =>
    rw [Loop_cons]
    cases hb : lv t with
    | none => rfl
    | some b => dsimp only; rw [if_pos (.inl (hs b hb))]
theorem loop_go {m l : Int} {x : Ex} {t : Tok} {r : List Tok} {b : Int × Int} (hb : lv t = some b) (h1 : b.2 = m) (h2 : m ≤ l) : Loop m l x (t :: r) = (Two (m + 1) r).bind fun p => Loop m (if m = 3 then 2 else m) (op2 b.1 x p.1) p.2 := by
  rw [Loop_cons, hb]
  dsimp only
  rw [if_neg (by omega), h1]
/-- a second one that compares -/
theorem loop_bad {l : Int} {x : Ex} {t : Tok} {r : List Tok} {b : Int × Int} (hb : lv t = some b) (h1 : b.2 = 3) (h2 : l = 2) : Rel 3 none (Loop 3 l x (t :: r)) := by
  refine .inr ⟨by omega, x, t :: r, ?_, b, hb, h1⟩
  rw [Loop_cons, hb]
  dsimp only
  rw [if_pos (by omega)]
/-- the right side is refused -/
theorem loop_none {m l : Int} {x : Ex} {t : Tok} {r : List Tok} {b : Int × Int} (hm : 1 ≤ m) (hb : lv t = some b) (h1 : b.2 = m) (h2 : m ≤ l) (h : Rel (m + 1) none (Two (m + 1) r)) : Rel m none (Loop m l x (t :: r)) := by
  rw [loop_go hb h1 h2]
  rcases h with h | ⟨h3, y, s, h, hbad⟩
  · rw [h]; exact .inl rfl
  · rw [h]
    refine .inr ⟨by omega, op2 b.1 x y, s, ?_, hbad⟩
    cases s with
    | nil => cases hbad
    | cons t' s' =>
      obtain ⟨c, hc, hc3⟩ := hbad
      simp only [Option.bind_some]
      rw [Loop_cons, hc]
      dsimp only
      rw [if_pos (by right; rw [if_neg (by omega)]; omega)]
/-- one that compares is no closing bracket -/
theorem bad_sign {r : List Tok} (h : BadH r) : sign [41] r = none := by
  cases r with
  | nil => cases h
  | cons t s =>
    obtain ⟨b, hb, h3⟩ := h
    unfold lv at hb
    split at hb
    · rename_i hk
      simp only [sign]
      rw [if_neg]
      rintro ⟨_, e⟩
      rw [e] at hb
      have : by_ [41] 0 = none := by decide
      rw [this] at hb
      cases hb
    · cases hb
/-- in brackets -/
theorem rel_close {α : Type} {o : Option (Ex × List Tok)} {ts : List Tok} (h : Rel 1 o (Two 1 ts)) (f : Ex → List Tok → α) : ((Two 1 ts).bind fun p => (sign [41] p.2).map fun q => f p.1 q) = o.bind fun p => (sign [41] p.2).map fun q => f p.1 q := by
  cases o with
  | some p => rw [h.1]
  | none =>
    rcases h with h | ⟨_, x, r, h, hb⟩
    · rw [h]
    · rw [h]; simp [bad_sign hb]
/-- all of it -/
def ofO : Option (Ex × List Tok) → Option Ex
  | some (e, []) => some e
  | _ => none
theorem whole_eq (ts : List Tok) : whole ts = ofO (Two 1 ts) := by
  unfold whole Two ofO
  rfl
theorem ofO_rel {m : Int} {o o' : Option (Ex × List Tok)} (h : Rel m o o') : ofO o' = ofO o := by
  cases o with
  | some p => rw [h.1]
  | none =>
    rcases h with h | ⟨_, x, r, h, hb⟩
    · rw [h]
    · rw [h]
      cases r with
      | nil => cases hb
      | cons t s => rfl
theorem rel_whole {o : Option (Ex × List Tok)} {ts : List Tok} (h : Rel 1 o (Two 1 ts)) : whole ts = ofO o := by
  rw [whole_eq, ofO_rel h]
/-- a prefix or an atom, at the level behind the last -/
theorem rel_six (ts : List Tok) (hl : ∀ p, One ts = some p → True) : Two 6 ts = One ts := by
  rw [Two_eq]
  cases One ts with
  | none => rfl
  | some p =>
    refine loop_stop ?_
    cases hp : p.2 with
    | nil => trivial
    | cons t s => exact fun b hb => by have := lv_much hb; omega
end Px

/- The document's reader: what its parts do. -/
namespace Px
open Go
open Lx hiding none run first
theorem num_val {l : Bs} (h : numOk l = true) : numOf l = (val 0 l : Nat) ∧ val 0 l < 2 ^ 63 ∧ ∀ c ∈ l, digit c = true := by
  have h0 : l ≠ [] := by rintro rfl; rw [num_no0] at h; cases h
  have hd : ∀ c ∈ l, digit c = true := by
    unfold numOk at h
    simp only [Bool.and_eq_true, beq_iff_eq] at h
    exact run_iff.1 h.2.1
  have hp : val 0 l < 2 ^ 63 := by
    unfold numOk at h
    simp only [Bool.and_eq_true] at h
    have := h.1
    rw [parsed_val h0 hd] at this
    exact of_decide_eq_true this
  refine ⟨?_, hp, hd⟩
  cases l with
  | nil => exact absurd rfl h0
  | cons c r =>
    have hc := digit_iff.1 (hd c (List.mem_cons_self ..))
    have h43 : ¬ c.toNat = 43 := by omega
    have h45 : ¬ c.toNat = 45 := by omega
    simp only [numOf, Lib.parseIntB, h43, h45, or_self, if_false, Lib.parseUintB, reduceCtorEq, not_false_eq_true, true_and, false_and]
    rcases uint_val (c :: r) 0 hd with e | ⟨e, hv⟩
    · rw [e]
      simp only
      rw [if_neg (by omega)]
    · omega
def sgs : List (List Bs) := [[[124]], [[38]], [[60], [60, 61], [61, 61], [33, 61]], [[43], [45]], [[42], [47], [37]]]
def sgsAt (l : Nat) : List Bs := sgs.getD l []
def opX (s : Bs) : Int := match by_ s 0 with
  | some b => b.2.1
  | none => 0
theorem sg_lv : ∀ l, l < 5 → ∀ s ∈ sgsAt l, s ≠ [] ∧ by_ s 0 = some (s, opX s, (l : Int) + 1) := by decide
theorem lv_sg : ∀ b ∈ binds, b.1 ∈ sgsAt (b.2.2 - 1).toNat ∧ ¬ b.2.1 = 0 := by decide
theorem by_none {l : Bs} (h : ∀ b ∈ binds, ¬ l = b.1) : by_ l 0 = Option.none := List.find?_eq_none.2 fun b hb => by
  have h1 := h b hb
  have h2 := (lv_sg b hb).2
  simp only [Bool.or_eq_true, beq_iff_eq, not_or]
  exact ⟨fun e => h1 e.symm, h2⟩
theorem sign_lv {l : Nat} (hl : l < 5) {s : Bs} (hs : s ∈ sgsAt l) {q r : List Tok} (h : sign s q = some r) : ∃ t, q = t :: r ∧ lv t = some (opX s, (l : Int) + 1) := by
  cases q with
  | nil => cases h
  | cons t q =>
    simp only [sign] at h
    split at h
    · rename_i hk
      obtain rfl := Option.some.inj h
      refine ⟨t, rfl, ?_⟩
      unfold lv
      rw [if_pos hk.1, hk.2, (sg_lv l hl s hs).2]; rfl
    · cases h
/-- no sign of a level is next: it stops there -/
theorem stops_sg {l : Nat} (hl : l < 5) {q : List Tok} (h : Stops ((l : Int) + 2) q) (hn : ∀ s ∈ sgsAt l, sign s q = none) : Stops ((l : Int) + 1) q := by
  cases q with
  | nil => trivial
  | cons t q =>
    intro b hb
    have h2 := h b hb
    have hm := lv_much hb
    rcases Int.lt_or_le b.2 ((l : Int) + 1) with h3 | h3
    · exact h3
    · exfalso
      have h4 : b.2 = (l : Int) + 1 := by omega
      unfold lv at hb
      rw [if_pos hm.1] at hb
      obtain ⟨c, hc, rfl⟩ := Option.map_eq_some_iff.1 hb
      have hmem := List.mem_of_find?_eq_some hc
      have hp := List.find?_some hc
      obtain ⟨k1, k2⟩ := lv_sg c hmem
      have e : c.1 = t.t := by
        simp only [Bool.or_eq_true, beq_iff_eq] at hp
        exact hp.resolve_right k2
      rw [show (c.2.2 - 1).toNat = l from by omega, e] at k1
      have := hn _ k1
      simp [sign, hm.1] at this
end Px
namespace Go.Proofs.YtijinopghlpdbaaGreatDoor
open Go Go.RowKit Go.SF
set_option linter.unusedSimpArgs false
set_option linter.unusedVariables false
def NxEnd (m : Nat) (bd : Bool) (a : Option Addr) (c : Nat) (ts : List Lx.Tok) (s : Lx.Bs) (e : Ending) (w' : World) : Prop := ∃ a' c' r b, e = .returned (.bool b) ∧ w'.heap[m]? = some (.cells #[.slice a' r.length c', .bool bd] 81) ∧ TokSub a c ts a' c' r ∧
  ((b = true ∧ Px.sign s ts = some r) ∨ (b = false ∧ Px.sign s ts = none ∧ r = ts ∧ a' = a ∧ c' = c))
theorem xu8_agg : aggT Tryz.prog 5 = some false := by kernel_rfl
theorem xstr_agg : aggT Tryz.prog 9 = some false := by kernel_rfl
theorem nx_e (m : Nat) (bd : Bool) (a : Option Addr) (c : Nat) (ts : List Lx.Tok) (s : ByteArray) (W : Wd) (hm : W.w.heap[m]? = some (.cells #[.slice a ts.length c, .bool bd] 81)) (hI : ¬ W.I m) (hT : ts ≠ [] → Toks W a c ts) :
    CallsE Tryz.prog 62 #[.pointer (some ⟨m, 0, none⟩), .string s] W (NxEnd m bd a c ts s.data.toList) := by
  refine vc_xnext ts.length c bd s a m W _ hm hI ?_
  cases ts with
  | nil =>
    refine den_chk rfl (den_chk rfl (den_chk rfl (den_br (fun c0 => ?_) fun _ => den_ret fun hb _ _ => ?_)))
    · cases c0
    · exact ⟨a, c, [], false, rfl, hb _ (List.mem_singleton.2 rfl), TokSub.refl _ _ _, .inr ⟨rfl, rfl, rfl, rfl, rfl⟩⟩
  | cons t r =>
    have hT := hT (by simp)
    have hx : (t :: r)[0]? = some t := rfl
    have hS := SlI.some_of hT (by simp)
    refine den_chk ?_ (den_chk ?_ (den_chk ?_ (den_br (fun _ => den_look ⟨t.k, fun W' x => ?_, ?_⟩) fun c0 => ?_)))
    · simp only [Sy.dens, Sy.den, E.i, E.b, E.t, gd, Env.push, List.cons_append, List.nil_append, List.append_nil, Int.toNat_natCast]; rw [hS]; simp
    · simp [Sy.dens, Sy.den, E.i, E.b, E.t, gd, Env.push, List.cons_append, List.nil_append, List.append_nil, Int.toNat_natCast, leB]
    · simp only [Sy.dens, Sy.den, E.i, E.b, E.t, gd, Env.push, List.cons_append, List.nil_append, List.append_nil, Int.toNat_natCast]; rw [ltB_t (by simp only [List.length_cons]; omega)]; simp
    · exact sl_look_f (P := Tryz.prog) tokC_len hT xu8_agg (k := 0) hx (by decide) (u := .int .u8 t.k) rfl x
    · simp only [Env.push, List.cons_append, List.nil_append, List.append_nil]
      refine den_br (fun c1 => den_look ⟨⟨t.t.toArray⟩, fun W' x => ?_, ?_⟩) fun c1 => den_ret fun hb _ _ => ?_
      · exact sl_look_f (P := Tryz.prog) tokC_len hT xstr_agg (k := 1) hx (by decide) (u := .string ⟨t.t.toArray⟩) rfl x
      · simp only [Env.push, List.cons_append, List.nil_append, List.append_nil]
        have hk : t.k = 4 := by simpa [Sy.dens, Sy.den, E.i, E.b, E.t, gd, Env.push, List.cons_append, List.nil_append, List.append_nil, Int.toNat_natCast] using c1
        refine den_br (fun c2 => ?_) fun c2 => den_ret fun hb _ _ => ?_
        · have he : t.t = s.data.toList := by simpa [Sy.dens, Sy.den, E.i, E.b, E.t, gd, Env.push, List.cons_append, List.nil_append, List.append_nil, Int.toNat_natCast] using c2
          refine den_chk ?_ (den_sub (den_wr fun _ _ => den_ret fun hb _ _ => ?_))
          · simp only [Sy.dens, Sy.den, E.i, E.b, E.t, gd, Env.push, List.cons_append, List.nil_append, List.append_nil, Int.toNat_natCast]; exact leB_t (by simp only [List.length_cons]; omega)
          · refine ⟨subA a 1 c 2, c - 1, r, true, rfl, ?_, toks_tail a c t r, .inl ⟨rfl, by simp [Px.sign, he, hk]⟩⟩
            have := hb _ (List.mem_singleton.2 rfl)
            simpa [Sy.dens, Sy.den, E.i, E.b, E.t, gd, Env.push, List.cons_append, List.nil_append, List.append_nil, Int.toNat_natCast, Blk.at] using this
        · have hne : ¬ t.t = s.data.toList := by simpa [Sy.dens, Sy.den, E.i, E.b, E.t, gd, Env.push, List.cons_append, List.nil_append, List.append_nil, Int.toNat_natCast] using c2
          exact ⟨a, c, t :: r, false, rfl, hb _ (List.mem_singleton.2 rfl), TokSub.refl _ _ _, .inr ⟨rfl, by simp [Px.sign, hne], rfl, rfl, rfl⟩⟩
      · have hk : ¬ t.k = 4 := by simpa [Sy.dens, Sy.den, E.i, E.b, E.t, gd, Env.push, List.cons_append, List.nil_append, List.append_nil, Int.toNat_natCast] using c1
        exact ⟨a, c, t :: r, false, rfl, hb _ (List.mem_singleton.2 rfl), TokSub.refl _ _ _, .inr ⟨rfl, by simp [Px.sign, hk], rfl, rfl, rfl⟩⟩
    · simp only [Sy.dens, Sy.den, E.i, E.b, E.t, gd, Env.push, List.cons_append, List.nil_append, List.append_nil, Int.toNat_natCast, ltB_false, List.length_cons] at c0
      omega
theorem xnumber_q (t : ByteArray) (h : Lx.numOk t.data.toList = true) (W : Wd) (ht : t.size ≤ 1000000) : CallsQ Tryz.prog 87 #[.string t] W (.int .i64 (Px.numOf t.data.toList)) := by
  obtain ⟨h1, h2, h3⟩ := Px.num_val h
  have hs := size_len t
  refine vc_xnumber t W.all _ ?_
  refine den_loop (fun j vs ls _ => ∃ i n : Nat, vs = [.int .i64 (n : Int), .int .i64 (i : Int)] ∧ ls = [] ∧ i ≤ t.size ∧ j = t.size - i ∧ Lx.val n (t.data.toList.drop i) = Lx.val 0 t.data.toList) t.size ⟨0, 0, rfl, rfl, Nat.zero_le _, rfl, rfl⟩ ?_
  rintro j vs ls W' x ⟨i, n, rfl, rfl, hi, rfl, hv⟩
  refine ⟨(n : Int), (i : Int), rfl, rfl, fun _ => den_br (fun c => ?_) fun c => den_ret fun _ _ _ => ⟨_, rfl, ?_⟩⟩
  · simp only [Sy.dens, Sy.den, E.i, E.b, E.t, gd, Env.push, List.cons_append, List.nil_append, List.append_nil, Int.toNat_natCast, ltB_true] at c
    have hl : i < t.data.toList.length := by omega
    have hdr := gd_drop t.data.toList i hl
    have hmem : gd t.data.toList i 0 ∈ t.data.toList := List.mem_of_mem_drop (i := i) (by rw [hdr]; exact List.mem_cons_self ..)
    have hc := Lx.digit_iff.1 (h3 _ hmem)
    rw [hdr, Lx.val_cons] at hv
    generalize hch : gd t.data.toList i 0 = ch at *
    have hb := Lx.val_ge (t.data.toList.drop (i + 1)) (n * 10 + Lx.dig ch)
    have hp : 0 < 10 ^ (t.data.toList.drop (i + 1)).length := Nat.pow_pos (by decide)
    have hle : n * 10 + Lx.dig ch ≤ Lx.val 0 t.data.toList := by rw [← hv]; exact Nat.le_trans (Nat.le_mul_of_pos_right _ hp) hb
    refine den_chk ?_ (den_again ⟨t.size - (i + 1), by omega, i + 1, n * 10 + Lx.dig ch, ?_, rfl, by omega, rfl, hv⟩)
    · simp only [Sy.dens, Sy.den, E.i, E.b, E.t, gd, Env.push, List.cons_append, List.nil_append, List.append_nil, Int.toNat_natCast]; exact leB_t (by omega)
    · simp only [Sy.dens, Sy.den, E.i, E.b, E.t, gd, Env.push, List.cons_append, List.nil_append, List.append_nil, Int.toNat_natCast]
      rw [hch]
      have hd : Lx.dig ch = ch.toNat - 48 := rfl
      have e1 : IntKind.u8.wrap ((ch.toNat : Int) - 48) = (Lx.dig ch : Nat) := by
        rw [hd]; simp [IntKind.wrap, IntKind.bits, IntKind.signed]; omega
      have hdl : Lx.dig ch ≤ 9 := by omega
      rw [e1, w64i (x := ((Lx.dig ch : Nat) : Int)) (by omega) (by omega), w64i (x := (n : Int) * 10) (by omega) (by omega), w64i (by omega) (by omega), w64i (by omega) (by omega)]
      congr 2
  · simp only [Sy.dens, Sy.den, E.i, E.b, E.t, gd, Env.push, List.cons_append, List.nil_append, List.append_nil, Int.toNat_natCast, ltB_false] at c
    rw [List.drop_eq_nil_of_le (by omega), Lx.val_nil] at hv
    simp only [Sy.dens, Sy.den, E.i, E.b, E.t, gd, Env.push, List.cons_append, List.nil_append, List.append_nil, Int.toNat_natCast]
    rw [h1, hv]
theorem xop_q (s : ByteArray) (W : Wd) : CallsQ Tryz.prog 63 #[.string s] W (.int .u8 (Px.opX s.data.toList)) := by
  refine vc_xop s W.all _ ?_
  repeat' (first | (with_reducible refine den_br (fun _ => ?_) (fun _ => ?_)) | (with_reducible refine den_new fun _ _ _ _ => ?_) | (with_reducible refine den_wr fun _ _ => ?_) | (with_reducible refine den_grow fun _ _ => ?_) | (with_reducible refine den_ret fun _ _ _ => ?_))
  all_goals refine ⟨_, rfl, ?_⟩
  all_goals simp only [Sy.dens, Sy.den, E.i, E.b, E.t, gd, Env.push, List.cons_append, List.nil_append, List.append_nil, Int.toNat_natCast] at *
  all_goals generalize s.data.toList = l at *
  all_goals simp only [beq_iff_eq, beq_eq_false_iff_ne, ne_eq] at *
  all_goals (try (subst_vars; rfl))
  unfold Px.opX
  rw [Px.by_none fun b hb => by
    simp only [Px.binds, List.mem_cons, List.not_mem_nil, or_false] at hb
    rcases hb with rfl | rfl | rfl | rfl | rfl | rfl | rfl | rfl | rfl | rfl | rfl <;> exact fun e => absurd e.symm (by assumption)]
end Go.Proofs.YtijinopghlpdbaaGreatDoor

/- The document's reader: a prefix or an atom. -/
namespace Go.Proofs.YtijinopghlpdbaaGreatDoor
open Go Go.RowKit Go.SF
set_option linter.unusedSimpArgs false
set_option linter.unusedVariables false
/-- what a reading leaves: the tree, or that it is bad -/
def XEnd (n0 m : Nat) (a : Option Addr) (c : Nat) (ts : List Lx.Tok) (o : Option (Px.Ex × List Lx.Tok)) (e : Ending) (w' : World) : Prop :=
  ∃ (op k n : Int) (t nm : ByteArray) (al : Option Addr) (len cl : Nat) (a' : Option Addr) (c' : Nat) (r : List Lx.Tok) (b : Bool),
    e = .returned (.agg #[.int .u8 op, .int .u8 k, .int .i64 n, .string t, .string nm, .slice al len cl]) ∧ w'.heap[m]? = some (.cells #[.slice a' r.length c', .bool b] 81) ∧ TokSub a c ts a' c' r ∧
    ((o = none ∧ b = true) ∨ ∃ x, o = some (x, r) ∧ b = false ∧ ExAt w' (fun b => n0 ≤ b) x [.int .u8 op, .int .u8 k, .int .i64 n, .string t, .string nm, .slice al len cl])
def XPre (n : Nat) : Prop := ∀ (m : Nat) (a : Option Addr) (c : Nat) (ts : List Lx.Tok) (W : Wd), W.w.heap[m]? = some (.cells #[.slice a ts.length c, .bool false] 81) → ¬ W.I m → (ts ≠ [] → Toks W a c ts) → TsOk ts → ts.length ≤ 100 → 8 * ts.length + 1 ≤ n →
  CallsE Tryz.prog 60 #[.pointer (some ⟨m, 0, none⟩)] W (XEnd W.w.heap.size m a c ts (Px.One ts))
def XWay (n : Nat) : Prop := ∀ (l : Nat) (m : Nat) (a : Option Addr) (c : Nat) (ts : List Lx.Tok) (W : Wd), l ≤ 5 → W.w.heap[m]? = some (.cells #[.slice a ts.length c, .bool false] 81) → ¬ W.I m → (ts ≠ [] → Toks W a c ts) → TsOk ts → ts.length ≤ 100 → 8 * ts.length + (7 - l) ≤ n →
  CallsE Tryz.prog 44 #[.pointer (some ⟨m, 0, none⟩), .int .i64 (l : Nat)] W (fun e w' => ∃ o, Px.Rel ((l : Int) + 1) o (Px.Two ((l : Int) + 1) ts) ∧ XEnd W.w.heap.size m a c ts o e w')
theorem tok_may {t : Lx.Tok} (h : Lx.may t.k t.t = true) : t.k = 1 ∨ t.k = 2 ∨ t.k = 3 ∨ t.k = 4 := by
  unfold Lx.may at h
  by_cases h1 : t.k = 1
  · exact .inl h1
  by_cases h2 : t.k = 2
  · exact .inr (.inl h2)
  by_cases h3 : t.k = 3
  · exact .inr (.inr (.inl h3))
  by_cases h4 : t.k = 4
  · exact .inr (.inr (.inr h4))
  rw [if_neg h1, if_neg h2, if_neg h3, if_neg h4] at h
  cases h
theorem tok_agg : aggT Tryz.prog 99 = some true := by kernel_rfl
theorem tok_size : sizeT Tryz.prog 99 = some 2 := by kernel_rfl
theorem xpre_ok (n : Nat) (ih : XPre n) (ih2 : XWay n) : XPre (n + 1) := by
  intro m a c ts W hm hI hT hts hts1 hn
  refine vc_xprefix ts.length c false a m W _ hm hI ?_
  cases ts with
  | nil =>
    refine den_new fun m1 W1 _ x1 => den_br_t rfl (den_wr fun _ _ => den_wr fun W2 x2 => den_ret fun hb _ _ => ?_)
    exact ⟨0, 0, 0, ⟨#[]⟩, ⟨#[]⟩, none, 0, 0, a, c, [], true, rfl, hb _ (List.mem_singleton.2 rfl), TokSub.refl _ _ _, .inl ⟨Px.One_nil, rfl⟩⟩
  | cons t r =>
  have hT := hT (by simp)
  have hlen : 8 * r.length + 9 ≤ n + 1 := by simp only [List.length_cons] at hn; omega
  have hrl : r.length ≤ 100 := by simp only [List.length_cons] at hts1; omega
  have hone := Px.One_cons t r
  refine den_new fun m1 W1 _ x1 => den_br_f (by simp [Sy.dens, Sy.den, E.i, E.b, E.t, gd, Env.push, List.cons_append, List.nil_append, List.append_nil, Int.toNat_natCast]; omega) (den_call fun hb _ => CallsE.mono (nx_e m false a c (t :: r) ⟨#[45]⟩ (W1.but [m]) (hb _ (List.mem_singleton.2 rfl)) (but_not W1 m) (fun _ => hT.ext (ext_but x1 hI))) fun e w' hk ⟨a1, c1, r1, b1, he, hh, hs1, hc1⟩ => ?_)
  subst he
  refine ⟨r1.length, c1, b1, false, a1, rfl, fun b hb => by obtain rfl := List.mem_singleton.1 hb; exact hh, fun W2 e2 y2 n2 => ?_⟩
  have x2 := ext_trans x1 y2
  simp only [Env.push, List.cons_append, List.nil_append, List.append_nil]
  refine den_br (fun cb1 => ?_) fun cb1 => ?_
  · -- '-'
    have hc : Px.sign [45] (t :: r) = some r1 := by
      rcases hc1 with ⟨_, h⟩ | ⟨h, _⟩
      · exact h
      · rw [show b1 = true from cb1] at h; cases h
    obtain ⟨h4, ht, rfl⟩ := sign_cons hc
    have hP : Px.One (t :: r1) = (Px.One r1).map fun p => (Px.op1 3 p.1, p.2) := by rw [hone, if_pos h4, if_pos ht]
    refine den_call fun hb _ => CallsE.mono (ih m a1 c1 r1 (W2.but [m]) (hb _ (List.mem_singleton.2 rfl)) (but_not W2 m) (fun _ => (hs1 W hT).ext (ext_but x2 hI)) hts.tail hrl (by omega)) fun e w' hk ⟨op, k, nn, t', nm, al, len, cl, a', c', q, bd, he, hh, hs, ho⟩ => ?_
    subst he
    refine ⟨op, k, nn, len, cl, q.length, c', bd, t', nm, al, a', rfl, fun b hb => by obtain rfl := List.mem_singleton.1 hb; exact hh, fun W3 e3 y3 n3 => ?_⟩
    have x3 := ext_trans x2 y3
    simp only [Env.push, List.cons_append, List.nil_append, List.append_nil]
    refine den_new fun m2 W4 hm2 x4 => den_wr fun W5 x5 => den_ret fun hb _ _ => ?_
    have h1 := hb _ (List.mem_cons_self ..)
    have h2 := hb _ (List.mem_cons_of_mem _ (List.mem_cons_self ..))
    refine ⟨3, 0, 0, ⟨#[]⟩, ⟨#[]⟩, some ⟨m2, 0, none⟩, 1, 1, a', c', q, bd, rfl, h2, hs1.trans hs, ?_⟩
    rcases ho with ⟨ho, hbd⟩ | ⟨x, ho, hbd, hx⟩
    · exact .inl ⟨by rw [hP, ho]; rfl, hbd⟩
    · have hX := ExAt.stay hx e3 n3 (by exact x2.size)
      exact .inr ⟨Px.op1 3 x, by rw [hP, ho]; rfl, hbd, ExAt.one h1 hm2 ((hX.ext x4).ext x5).new 3⟩
  have hn1 : Px.sign [45] (t :: r) = none ∧ r1 = t :: r ∧ a1 = a ∧ c1 = c := by
    rcases hc1 with ⟨h, _⟩ | ⟨_, h⟩
    · rw [show b1 = false from cb1] at h; cases h
    · exact h
  obtain ⟨hn1, rfl, rfl, rfl⟩ := hn1
  refine den_call fun hb _ => CallsE.mono (nx_e m false a1 c1 (t :: r) ⟨#[33]⟩ (W2.but [m]) (hb _ (List.mem_singleton.2 rfl)) (but_not W2 m) (fun _ => hT.ext (ext_but x2 hI))) fun e w' hk ⟨a2, c2, r2, b2, he, hh, hs2, hc2⟩ => ?_
  subst he
  refine ⟨r2.length, c2, b2, false, a2, rfl, fun b hb => by obtain rfl := List.mem_singleton.1 hb; exact hh, fun W3 e3 y3 n3 => ?_⟩
  have x3 := ext_trans x2 y3
  simp only [Env.push, List.cons_append, List.nil_append, List.append_nil]
  refine den_br (fun cb2 => ?_) fun cb2 => ?_
  · -- '!'
    have hc : Px.sign [33] (t :: r) = some r2 := by
      rcases hc2 with ⟨_, h⟩ | ⟨h, _⟩
      · exact h
      · rw [show b2 = true from cb2] at h; cases h
    obtain ⟨h4, ht, rfl⟩ := sign_cons hc
    have hP : Px.One (t :: r2) = (Px.One r2).map fun p => (Px.op1 4 p.1, p.2) := by rw [hone, if_pos h4, if_neg (by rw [ht]; decide), if_pos ht]
    refine den_call fun hb _ => CallsE.mono (ih m a2 c2 r2 (W3.but [m]) (hb _ (List.mem_singleton.2 rfl)) (but_not W3 m) (fun _ => (hs2 W hT).ext (ext_but x3 hI)) hts.tail hrl (by omega)) fun e w' hk ⟨op, k, nn, t', nm, al, len, cl, a', c', q, bd, he, hh, hs, ho⟩ => ?_
    subst he
    refine ⟨op, k, nn, len, cl, q.length, c', bd, t', nm, al, a', rfl, fun b hb => by obtain rfl := List.mem_singleton.1 hb; exact hh, fun W4 e4 y4 n4 => ?_⟩
    have x4 := ext_trans x3 y4
    simp only [Env.push, List.cons_append, List.nil_append, List.append_nil]
    refine den_new fun m2 W5 hm2 x5 => den_wr fun W6 x6 => den_ret fun hb _ _ => ?_
    have h1 := hb _ (List.mem_cons_self ..)
    have h2 := hb _ (List.mem_cons_of_mem _ (List.mem_cons_self ..))
    refine ⟨4, 0, 0, ⟨#[]⟩, ⟨#[]⟩, some ⟨m2, 0, none⟩, 1, 1, a', c', q, bd, rfl, h2, hs2.trans hs, ?_⟩
    rcases ho with ⟨ho, hbd⟩ | ⟨x, ho, hbd, hx⟩
    · exact .inl ⟨by rw [hP, ho]; rfl, hbd⟩
    · have hX := ExAt.stay hx e4 n4 (by exact x3.size)
      exact .inr ⟨Px.op1 4 x, by rw [hP, ho]; rfl, hbd, ExAt.one h1 hm2 ((hX.ext x5).ext x6).new 4⟩
  have hn2 : Px.sign [33] (t :: r) = none ∧ r2 = t :: r ∧ a2 = a1 ∧ c2 = c1 := by
    rcases hc2 with ⟨h, _⟩ | ⟨_, h⟩
    · rw [show b2 = false from cb2] at h; cases h
    · exact h
  obtain ⟨hn2, rfl, rfl, rfl⟩ := hn2
  have hTs : ∀ V, Ext W3 V → _ := fun V xV => sl_look_at (W := W) hT tok_agg tok_size (i := 0) (vs := [.int .u8 t.k, .string ⟨t.t.toArray⟩]) rfl (by decide) (fun j hj => by
    match j, hj with
    | 0, _ => rfl
    | 1, _ => rfl) (ext_trans x3 xV)
  refine den_chk ?_ (den_chk rfl (den_chk ?_ (den_look ⟨t.k, ⟨t.t.toArray⟩, fun V xV => ?_, ?_⟩)))
  · simp only [E.b, gd, Env.push]; exact SlI.some_of hT (by simp)
  · simp only [Sy.dens, Sy.den, E.i, E.b, E.t, gd, Env.push, List.cons_append, List.nil_append, List.append_nil, Int.toNat_natCast]; exact ltB_t (by simp only [List.length_cons]; omega)
  · have := hTs V xV
    simp only [Sy.dens, Sy.den, E.i, E.b, E.t, gd, Env.push, List.cons_append, List.nil_append, List.append_nil, Int.toNat_natCast] at this ⊢
    exact this
  simp only [Env.push, List.cons_append, List.nil_append, List.append_nil]
  refine den_new fun m4 W4 _ y4 => den_wr fun W5 y5 => ?_
  have x5 := ext_trans x3 (ext_trans y4 y5)
  have hsub := toks_tail a2 c2 t r
  have tbl : (⟨t.t.toArray⟩ : ByteArray).data.toList = t.t := by simp
  refine den_br (fun c3 => ?_) fun c3 => den_br (fun c4 => ?_) fun c4 => ?_
  · -- len
    have c3 : t.k = 2 ∧ t.t = [108, 101, 110] := by simpa [Sy.dens, Sy.den, E.i, E.b, E.t, gd, Env.push, List.cons_append, List.nil_append, List.append_nil, Int.toNat_natCast] using c3
    have hP : Px.One (t :: r) = (Px.sign [40] r).bind fun r1 => (Px.Two 1 r1).bind fun p => (Px.sign [41] p.2).map fun q => (Px.op1 16 p.1, q) := by
      rw [hone, if_neg (by omega), if_neg (by omega), if_neg (by omega), if_neg (by rw [c3.2]; decide), if_neg (by rw [c3.2]; decide), if_pos c3.2]
    refine den_chk ?_ (den_sub (den_wr fun W6 y6 => ?_))
    · simp only [Sy.dens, Sy.den, E.i, E.b, E.t, gd, Env.push, List.cons_append, List.nil_append, List.append_nil, Int.toNat_natCast]; exact leB_t (by simp only [List.length_cons]; omega)
    have x6 := ext_trans x5 y6
    refine den_call fun hb _ => CallsE.mono (nx_e m false (subA a2 1 c2 2) (c2 - 1) r ⟨#[40]⟩ (W6.but [m]) (by have := hb _ (List.mem_singleton.2 rfl); show W6.w.heap[m]? = _; simpa [Sy.dens, Sy.den, E.i, E.b, E.t, gd, Env.push, List.cons_append, List.nil_append, List.append_nil, Int.toNat_natCast, Blk.at] using this) (but_not W6 m) (fun _ => (hsub W hT).ext (ext_but x6 hI))) fun e w' hk ⟨a3, c3', r3, b3, he, hh, hs3, hc3⟩ => ?_
    subst he
    refine ⟨r3.length, c3', b3, false, a3, rfl, fun b hb => by obtain rfl := List.mem_singleton.1 hb; exact hh, fun W7 e7 y7 n7 => ?_⟩
    have x7 := ext_trans x6 y7
    simp only [Env.push, List.cons_append, List.nil_append, List.append_nil]
    refine den_br (fun cb => den_wr fun _ _ => den_wr fun W8 y8 => den_ret fun hb _ _ => ?_) fun cb => ?_
    · have cb : b3 = false := by simpa [Sy.dens, Sy.den, E.i, E.b, E.t, gd, Env.push, List.cons_append, List.nil_append, List.append_nil, Int.toNat_natCast] using cb
      have hno : Px.sign [40] r = none := by
        rcases hc3 with ⟨h, _⟩ | ⟨_, h, _⟩
        · rw [cb] at h; cases h
        · exact h
      exact ⟨0, 0, 0, ⟨#[]⟩, ⟨#[]⟩, none, 0, 0, a3, c3', r3, true, rfl, hb _ (List.mem_singleton.2 rfl), hsub.trans hs3, .inl ⟨by rw [hP, hno]; rfl, rfl⟩⟩
    have cb : b3 = true := by simpa [Sy.dens, Sy.den, E.i, E.b, E.t, gd, Env.push, List.cons_append, List.nil_append, List.append_nil, Int.toNat_natCast] using cb
    have hyes : Px.sign [40] r = some r3 := by
      rcases hc3 with ⟨_, h⟩ | ⟨h, _⟩
      · exact h
      · rw [cb] at h; cases h
    have hl3 := Px.sign_len hyes
    refine den_call fun hb _ => CallsE.mono (ih2 0 m a3 c3' r3 (W7.but [m]) (by omega) (hb _ (List.mem_singleton.2 rfl)) (but_not W7 m) (fun _ => ((hsub.trans hs3) W hT).ext (ext_but x7 hI)) (hts.tail.less hl3.2) (by omega) (by omega)) fun e w' hk ⟨o, hrel, op, k, nn, t', nm, al, len, cl, a', c', q, bd, he, hh, hs, ho⟩ => ?_
    subst he
    refine ⟨op, k, nn, len, cl, q.length, c', bd, t', nm, al, a', rfl, fun b hb => by obtain rfl := List.mem_singleton.1 hb; exact hh, fun W8 e8 y8 n8 => ?_⟩
    have x8 := ext_trans x7 y8
    have hrel : Px.Rel 1 o (Px.Two 1 r3) := hrel
    have hP2 : Px.One (t :: r) = o.bind fun p => (Px.sign [41] p.2).map fun q => (Px.op1 16 p.1, q) := by
      rw [hP, hyes, Option.bind_some]
      exact Px.rel_close hrel fun e q => (Px.op1 16 e, q)
    simp only [Env.push, List.cons_append, List.nil_append, List.append_nil]
    have hTq := (((hsub.trans hs3).trans hs) W hT)
    refine den_new fun m5 W9 hm5 y9 => den_wr fun W10 y10 => ?_
    have x10 := ext_trans x8 (ext_trans y9 y10)
    refine den_call fun hb _ => CallsE.mono (nx_e m bd a' c' q ⟨#[41]⟩ (W10.but [m]) (hb _ (List.mem_singleton.2 rfl)) (but_not W10 m) (fun _ => hTq.ext (ext_but x10 hI))) fun e w' hk ⟨a9, c9, r9, b9, he, hh9, hs9, hc9⟩ => ?_
    subst he
    refine ⟨r9.length, c9, b9, bd, a9, rfl, fun b hb => by obtain rfl := List.mem_singleton.1 hb; exact hh9, fun W11 e11 y11 n11 => ?_⟩
    have x11 := ext_trans x10 y11
    simp only [Env.push, List.cons_append, List.nil_append, List.append_nil]
    refine den_br (fun cb9 => den_wr fun W12 y12 => den_new fun m6 W13 hm6 y13 => den_wr fun W14 y14 => den_ret fun hb _ _ => ?_) fun cb9 => den_new fun m6 W13 hm6 y13 => den_wr fun W14 y14 => den_ret fun hb _ _ => ?_
    · have cb9 : b9 = false := by simpa [Sy.dens, Sy.den, E.i, E.b, E.t, gd, Env.push, List.cons_append, List.nil_append, List.append_nil, Int.toNat_natCast] using cb9
      have hno : Px.sign [41] q = none := by
        rcases hc9 with ⟨h, _⟩ | ⟨_, h, _⟩
        · rw [cb9] at h; cases h
        · exact h
      refine ⟨16, 0, 0, ⟨#[]⟩, ⟨#[]⟩, some ⟨m6, 0, none⟩, 1, 1, a9, c9, r9, true, rfl, hb _ (List.mem_cons_of_mem _ (List.mem_cons_self ..)), ((hsub.trans hs3).trans hs).trans hs9, .inl ⟨?_, rfl⟩⟩
      rw [hP2]
      rcases ho with ⟨ho, _⟩ | ⟨x, ho, _⟩
      · rw [ho]; rfl
      · rw [ho, Option.bind_some, hno]; rfl
    · have cb9 : b9 = true := by simpa [Sy.dens, Sy.den, E.i, E.b, E.t, gd, Env.push, List.cons_append, List.nil_append, List.append_nil, Int.toNat_natCast] using cb9
      have hyes9 : Px.sign [41] q = some r9 := by
        rcases hc9 with ⟨_, h⟩ | ⟨h, _⟩
        · exact h
        · rw [cb9] at h; cases h
      have h1 := hb _ (List.mem_cons_self ..)
      have h2 := hb _ (List.mem_cons_of_mem _ (List.mem_cons_self ..))
      refine ⟨16, 0, 0, ⟨#[]⟩, ⟨#[]⟩, some ⟨m6, 0, none⟩, 1, 1, a9, c9, r9, bd, rfl, h2, ((hsub.trans hs3).trans hs).trans hs9, ?_⟩
      rcases ho with ⟨ho, hbd⟩ | ⟨x, ho, hbd, hx⟩
      · exact .inl ⟨by rw [hP2, ho]; rfl, hbd⟩
      · have hX := ExAt.stay hx e8 n8 (by exact x7.size)
        exact .inr ⟨Px.op1 16 x, by rw [hP2, ho, Option.bind_some, hyes9]; rfl, hbd, ExAt.one h1 hm6 (hX.ext (ext_trans y9 (ext_trans y10 (ext_trans y11 (ext_trans y13 y14))))).new 16⟩
  · -- '('
    have c4 : t.k = 4 := by simpa [Sy.dens, Sy.den, E.i, E.b, E.t, gd, Env.push, List.cons_append, List.nil_append, List.append_nil, Int.toNat_natCast] using c4
    have hn45 := sign_not hn1 c4
    have hn33 := sign_not hn2 c4
    have hP : Px.One (t :: r) = if t.t = [40] then (Px.Two 1 r).bind fun p => (Px.sign [41] p.2).map fun q => (p.1, q) else none := by
      rw [hone, if_pos c4, if_neg hn45, if_neg hn33]
    refine den_call fun hb _ => CallsE.mono (nx_e m false a2 c2 (t :: r) ⟨#[40]⟩ (W5.but [m]) (hb _ (List.mem_singleton.2 rfl)) (but_not W5 m) (fun _ => hT.ext (ext_but x5 hI))) fun e w' hk ⟨a3, c3', r3, b3, he, hh, hs3, hc3⟩ => ?_
    subst he
    refine ⟨r3.length, c3', b3, false, a3, rfl, fun b hb => by obtain rfl := List.mem_singleton.1 hb; exact hh, fun W7 e7 y7 n7 => ?_⟩
    have x7 := ext_trans x5 y7
    simp only [Env.push, List.cons_append, List.nil_append, List.append_nil]
    refine den_br (fun cb => den_wr fun _ _ => den_wr fun W8 y8 => den_ret fun hb _ _ => ?_) fun cb => ?_
    · have cb : b3 = false := by simpa [Sy.dens, Sy.den, E.i, E.b, E.t, gd, Env.push, List.cons_append, List.nil_append, List.append_nil, Int.toNat_natCast] using cb
      have hno : Px.sign [40] (t :: r) = none := by
        rcases hc3 with ⟨h, _⟩ | ⟨_, h, _⟩
        · rw [cb] at h; cases h
        · exact h
      exact ⟨0, 0, 0, ⟨#[]⟩, ⟨#[]⟩, none, 0, 0, a3, c3', r3, true, rfl, hb _ (List.mem_singleton.2 rfl), hs3, .inl ⟨by rw [hP, if_neg (sign_not hno c4)], rfl⟩⟩
    have cb : b3 = true := by simpa [Sy.dens, Sy.den, E.i, E.b, E.t, gd, Env.push, List.cons_append, List.nil_append, List.append_nil, Int.toNat_natCast] using cb
    have hyes : Px.sign [40] (t :: r) = some r3 := by
      rcases hc3 with ⟨_, h⟩ | ⟨h, _⟩
      · exact h
      · rw [cb] at h; cases h
    obtain ⟨_, ht, rfl⟩ := sign_cons hyes
    rw [if_pos ht] at hP
    refine den_call fun hb _ => CallsE.mono (ih2 0 m a3 c3' r3 (W7.but [m]) (by omega) (hb _ (List.mem_singleton.2 rfl)) (but_not W7 m) (fun _ => (hs3 W hT).ext (ext_but x7 hI)) hts.tail hrl (by omega)) fun e w' hk ⟨o, hrel, op, k, nn, t', nm, al, len, cl, a', c', q, bd, he, hh, hs, ho⟩ => ?_
    subst he
    refine ⟨op, k, nn, len, cl, q.length, c', bd, t', nm, al, a', rfl, fun b hb => by obtain rfl := List.mem_singleton.1 hb; exact hh, fun W8 e8 y8 n8 => ?_⟩
    have x8 := ext_trans x7 y8
    have hrel : Px.Rel 1 o (Px.Two 1 r3) := hrel
    have hP2 : Px.One (t :: r3) = o.bind fun p => (Px.sign [41] p.2).map fun q => (p.1, q) := by
      rw [hP]
      exact Px.rel_close hrel fun e q => (e, q)
    simp only [Env.push, List.cons_append, List.nil_append, List.append_nil]
    have hTq := ((hs3.trans hs) W hT)
    refine den_new fun m5 W9 hm5 y9 => den_wr fun W10 y10 => ?_
    have x10 := ext_trans x8 (ext_trans y9 y10)
    refine den_call fun hb _ => CallsE.mono (nx_e m bd a' c' q ⟨#[41]⟩ (W10.but [m]) (hb _ (List.mem_singleton.2 rfl)) (but_not W10 m) (fun _ => hTq.ext (ext_but x10 hI))) fun e w' hk ⟨a9, c9, r9, b9, he, hh9, hs9, hc9⟩ => ?_
    subst he
    refine ⟨r9.length, c9, b9, bd, a9, rfl, fun b hb => by obtain rfl := List.mem_singleton.1 hb; exact hh9, fun W11 e11 y11 n11 => ?_⟩
    simp only [Env.push, List.cons_append, List.nil_append, List.append_nil]
    refine den_br (fun cb9 => den_wr fun W12 y12 => den_wr fun W13 y13 => den_ret fun hb _ _ => ?_) fun cb9 => den_wr fun W13 y13 => den_ret fun hb _ _ => ?_
    · have cb9 : b9 = false := by simpa [Sy.dens, Sy.den, E.i, E.b, E.t, gd, Env.push, List.cons_append, List.nil_append, List.append_nil, Int.toNat_natCast] using cb9
      have hno : Px.sign [41] q = none := by
        rcases hc9 with ⟨h, _⟩ | ⟨_, h, _⟩
        · rw [cb9] at h; cases h
        · exact h
      refine ⟨op, k, nn, t', nm, al, len, cl, a9, c9, r9, true, rfl, hb _ (List.mem_cons_self ..), (hs3.trans hs).trans hs9, .inl ⟨?_, rfl⟩⟩
      rw [hP2]
      rcases ho with ⟨ho, _⟩ | ⟨x, ho, _⟩
      · rw [ho]; rfl
      · rw [ho, Option.bind_some, hno]; rfl
    · have cb9 : b9 = true := by simpa [Sy.dens, Sy.den, E.i, E.b, E.t, gd, Env.push, List.cons_append, List.nil_append, List.append_nil, Int.toNat_natCast] using cb9
      have hyes9 : Px.sign [41] q = some r9 := by
        rcases hc9 with ⟨_, h⟩ | ⟨h, _⟩
        · exact h
        · rw [cb9] at h; cases h
      refine ⟨op, k, nn, t', nm, al, len, cl, a9, c9, r9, bd, rfl, hb _ (List.mem_cons_self ..), (hs3.trans hs).trans hs9, ?_⟩
      rcases ho with ⟨ho, hbd⟩ | ⟨x, ho, hbd, hx⟩
      · exact .inl ⟨by rw [hP2, ho]; rfl, hbd⟩
      · have hX := ExAt.stay hx e8 n8 (by exact x7.size)
        exact .inr ⟨x, by rw [hP2, ho, Option.bind_some, hyes9]; rfl, hbd, (hX.ext (ext_trans y9 (ext_trans y10 (ext_trans y11 y13)))).new⟩
  · -- an atom
    have c3 : ¬ (t.k = 2 ∧ t.t = [108, 101, 110]) := by
      intro h
      simp [Sy.dens, Sy.den, E.i, E.b, E.t, gd, Env.push, List.cons_append, List.nil_append, List.append_nil, Int.toNat_natCast, h.1, h.2] at c3
    have c4 : ¬ t.k = 4 := by simpa [Sy.dens, Sy.den, E.i, E.b, E.t, gd, Env.push, List.cons_append, List.nil_append, List.append_nil, Int.toNat_natCast] using c4
    have hmay := hts t (List.mem_cons_self ..)
    rw [if_neg c4] at hone
    refine den_chk ?_ (den_sub (den_wr fun W6 y6 => ?_))
    · simp only [Sy.dens, Sy.den, E.i, E.b, E.t, gd, Env.push, List.cons_append, List.nil_append, List.append_nil, Int.toNat_natCast]; exact leB_t (by simp only [List.length_cons]; omega)
    have fin : ∀ (op k nn : Int) (t' nm : Lx.Bs) (V : Wd), V.w.heap[m]? = some (.cells #[.slice (subA a2 1 c2 2) r.length (c2 - 1), .bool false] 81) → Px.One (t :: r) = some (.mk op k nn t' nm [], r) → XEnd W.w.heap.size m a2 c2 (t :: r) (Px.One (t :: r)) (.returned (.agg #[.int .u8 op, .int .u8 k, .int .i64 nn, .string ⟨t'.toArray⟩, .string ⟨nm.toArray⟩, .slice none 0 0])) V.w := fun op k nn t' nm V hh he =>
      ⟨op, k, nn, ⟨t'.toArray⟩, ⟨nm.toArray⟩, none, 0, 0, subA a2 1 c2 2, c2 - 1, r, false, rfl, hh, hsub, .inr ⟨_, he, rfl, ExAt.leaf _ _ op k nn t' nm⟩⟩
    have blk : ∀ {V : Wd} {ρ : Env} {b : Blk} , b.at ρ V.w → b.at ρ V.w := fun h => h
    refine den_br (fun c5 => ?_) fun c5 => den_br (fun c6 => den_wr fun W7 y7 => den_ret fun hb _ _ => ?_) fun c6 => den_br (fun c7 => den_br (fun c8 => den_grow fun W7 y7 => den_wr fun W8 y8 => den_ret fun hb _ _ => ?_) fun c8 => den_grow fun W7 y7 => den_wr fun W8 y8 => den_ret fun hb _ _ => ?_) fun c7 => den_wr fun W7 y7 => den_ret fun hb _ _ => ?_
    · have c5 : t.k = 1 := by simpa [Sy.dens, Sy.den, E.i, E.b, E.t, gd, Env.push, List.cons_append, List.nil_append, List.append_nil, Int.toNat_natCast] using c5
      have hnum : Lx.numOk t.t = true := by have := hmay.1; unfold Lx.may at this; rw [if_pos c5] at this; exact this
      have hq := xnumber_q ⟨t.t.toArray⟩ (by rw [tbl]; exact hnum) W6 (by rw [← size_len, tbl]; have := hmay.2; omega)
      rw [tbl] at hq
      refine den_call_q (fun _ _ => hq) ⟨Px.numOf t.t, rfl, fun W7 y7 => den_grow fun W8 y8 => den_wr fun W9 y9 => den_ret fun hb _ _ => ?_⟩
      refine fin 1 1 (Px.numOf t.t) [] [] W9 ?_ (by rw [hone, if_pos c5]; rfl)
      have := hb _ (List.mem_singleton.2 rfl)
      simpa [Sy.dens, Sy.den, E.i, E.b, E.t, gd, Env.push, List.cons_append, List.nil_append, List.append_nil, Int.toNat_natCast, Blk.at] using this
    · have c5 : ¬ t.k = 1 := by simpa [Sy.dens, Sy.den, E.i, E.b, E.t, gd, Env.push, List.cons_append, List.nil_append, List.append_nil, Int.toNat_natCast] using c5
      have c6 : t.k = 3 := by simpa [Sy.dens, Sy.den, E.i, E.b, E.t, gd, Env.push, List.cons_append, List.nil_append, List.append_nil, Int.toNat_natCast] using c6
      refine fin 1 3 0 t.t [] W7 ?_ (by rw [hone, if_neg c5, if_pos c6]; rfl)
      have := hb _ (List.mem_singleton.2 rfl)
      simpa [Sy.dens, Sy.den, E.i, E.b, E.t, gd, Env.push, List.cons_append, List.nil_append, List.append_nil, Int.toNat_natCast, Blk.at] using this
    · have c5 : ¬ t.k = 1 := by simpa [Sy.dens, Sy.den, E.i, E.b, E.t, gd, Env.push, List.cons_append, List.nil_append, List.append_nil, Int.toNat_natCast] using c5
      have c6 : ¬ t.k = 3 := by simpa [Sy.dens, Sy.den, E.i, E.b, E.t, gd, Env.push, List.cons_append, List.nil_append, List.append_nil, Int.toNat_natCast] using c6
      have c8 : t.t = [121, 101, 115] := by simpa [Sy.dens, Sy.den, E.i, E.b, E.t, gd, Env.push, List.cons_append, List.nil_append, List.append_nil, Int.toNat_natCast] using c8
      refine fin 1 2 1 [] [] W8 ?_ (by rw [hone, if_neg c5, if_neg c6, if_pos c8]; rfl)
      have := hb _ (List.mem_singleton.2 rfl)
      simpa [Sy.dens, Sy.den, E.i, E.b, E.t, gd, Env.push, List.cons_append, List.nil_append, List.append_nil, Int.toNat_natCast, Blk.at] using this
    · have c5 : ¬ t.k = 1 := by simpa [Sy.dens, Sy.den, E.i, E.b, E.t, gd, Env.push, List.cons_append, List.nil_append, List.append_nil, Int.toNat_natCast] using c5
      have c6 : ¬ t.k = 3 := by simpa [Sy.dens, Sy.den, E.i, E.b, E.t, gd, Env.push, List.cons_append, List.nil_append, List.append_nil, Int.toNat_natCast] using c6
      have c8 : ¬ t.t = [121, 101, 115] := by simpa [Sy.dens, Sy.den, E.i, E.b, E.t, gd, Env.push, List.cons_append, List.nil_append, List.append_nil, Int.toNat_natCast] using c8
      have c7 : t.t = [110, 111] := by
        have : t.t = [121, 101, 115] ∨ t.t = [110, 111] := by simpa [Sy.dens, Sy.den, E.i, E.b, E.t, gd, Env.push, List.cons_append, List.nil_append, List.append_nil, Int.toNat_natCast] using c7
        exact this.resolve_left c8
      refine fin 1 2 0 [] [] W8 ?_ (by rw [hone, if_neg c5, if_neg c6, if_neg c8, if_pos c7]; rfl)
      have := hb _ (List.mem_singleton.2 rfl)
      simpa [Sy.dens, Sy.den, E.i, E.b, E.t, gd, Env.push, List.cons_append, List.nil_append, List.append_nil, Int.toNat_natCast, Blk.at] using this
    · have c5 : ¬ t.k = 1 := by simpa [Sy.dens, Sy.den, E.i, E.b, E.t, gd, Env.push, List.cons_append, List.nil_append, List.append_nil, Int.toNat_natCast] using c5
      have c6 : ¬ t.k = 3 := by simpa [Sy.dens, Sy.den, E.i, E.b, E.t, gd, Env.push, List.cons_append, List.nil_append, List.append_nil, Int.toNat_natCast] using c6
      have c7 : ¬ t.t = [121, 101, 115] ∧ ¬ t.t = [110, 111] := by simpa [Sy.dens, Sy.den, E.i, E.b, E.t, gd, Env.push, List.cons_append, List.nil_append, List.append_nil, Int.toNat_natCast] using c7
      have hk : t.k = 2 := by rcases tok_may hmay.1 with h | h | h | h <;> omega
      refine fin 2 0 0 [] t.t W7 ?_ (by rw [hone, if_neg c5, if_neg c6, if_neg c7.1, if_neg c7.2, if_neg fun e => c3 ⟨hk, e⟩]; rfl)
      have := hb _ (List.mem_singleton.2 rfl)
      simpa [Sy.dens, Sy.den, E.i, E.b, E.t, gd, Env.push, List.cons_append, List.nil_append, List.append_nil, Int.toNat_natCast, Blk.at] using this
end Go.Proofs.YtijinopghlpdbaaGreatDoor

/- The document's reader: its ways. -/
namespace Go.Proofs.YtijinopghlpdbaaGreatDoor
open Go Go.RowKit Go.SF
set_option linter.unusedSimpArgs false
set_option linter.unusedVariables false
def waysC (p : Nat → Option Addr) : List Value := [.slice (p 0) 1 1, .slice (p 1) 1 1, .slice (p 2) 4 4, .slice (p 3) 2 2, .slice (p 4) 3 3]
def strV (s : Lx.Bs) : List Value := [.string ⟨s.toArray⟩]
def pAt (a b c d e : Option Addr) : Nat → Option Addr
  | 0 => a
  | 1 => b
  | 2 => c
  | 3 => d
  | _ => e
theorem xways_i (W : Wd) : CallsI Tryz.prog 61 #[] W.all fun v w' => ∃ (a : Option Addr) (p : Nat → Option Addr), v = .slice a 5 5 ∧ SlAt w' (fun b => W.w.heap.size ≤ b) a 5 5 1 (waysC p) ∧
    ∀ l, l < 5 → SlAt w' (fun b => W.w.heap.size ≤ b) (p l) (Px.sgsAt l).length (Px.sgsAt l).length 1 ((Px.sgsAt l).flatMap strV) := by
  refine vc_xways W.all _ ?_
  refine den_new fun m0 W1 h0 _ => den_new fun m1 W2 h1 _ => den_new fun m2 W3 h2 _ => den_new fun m3 W4 h3 _ => den_new fun m4 W5 h4 _ => den_new fun m5 W6 h5 _ => den_ret fun hb _ _ => ?_
  have b5 : W6.w.heap[m5]? = some (.cells (waysC (pAt (some ⟨m0, 0, none⟩) (some ⟨m1, 0, none⟩) (some ⟨m2, 0, none⟩) (some ⟨m3, 0, none⟩) (some ⟨m4, 0, none⟩))).toArray 102) := hb _ (List.mem_cons_self ..)
  have b4 : W6.w.heap[m4]? = some (.cells ((Px.sgsAt 4).flatMap strV).toArray 9) := hb _ (List.mem_cons_of_mem _ (List.mem_cons_self ..))
  have b3 : W6.w.heap[m3]? = some (.cells ((Px.sgsAt 3).flatMap strV).toArray 9) := hb _ (List.mem_cons_of_mem _ (List.mem_cons_of_mem _ (List.mem_cons_self ..)))
  have b2 : W6.w.heap[m2]? = some (.cells ((Px.sgsAt 2).flatMap strV).toArray 9) := hb _ (List.mem_cons_of_mem _ (List.mem_cons_of_mem _ (List.mem_cons_of_mem _ (List.mem_cons_self ..))))
  have b1 : W6.w.heap[m1]? = some (.cells ((Px.sgsAt 1).flatMap strV).toArray 9) := hb _ (List.mem_cons_of_mem _ (List.mem_cons_of_mem _ (List.mem_cons_of_mem _ (List.mem_cons_of_mem _ (List.mem_cons_self ..)))))
  have b0 : W6.w.heap[m0]? = some (.cells ((Px.sgsAt 0).flatMap strV).toArray 9) := hb _ (List.mem_cons_of_mem _ (List.mem_cons_of_mem _ (List.mem_cons_of_mem _ (List.mem_cons_of_mem _ (List.mem_cons_of_mem _ (List.mem_cons_self ..))))))
  refine ⟨_, rfl, some ⟨m5, 0, none⟩, (pAt (some ⟨m0, 0, none⟩) (some ⟨m1, 0, none⟩) (some ⟨m2, 0, none⟩) (some ⟨m3, 0, none⟩) (some ⟨m4, 0, none⟩)), rfl, blk_slJ b5 h5 rfl, fun l hl => ?_⟩
  match l, hl with
  | 0, _ => exact blk_slJ b0 h0 rfl
  | 1, _ => exact blk_slJ b1 h1 rfl
  | 2, _ => exact blk_slJ b2 h2 rfl
  | 3, _ => exact blk_slJ b3 h3 rfl
  | 4, _ => exact blk_slJ b4 h4 rfl
theorem stops_six (r : List Lx.Tok) : Px.Stops 6 r := by
  cases r with
  | nil => trivial
  | cons t s => exact fun b hb => by have := Px.lv_much hb; omega
theorem rel_six' (ts : List Lx.Tok) : Px.Rel 6 (Px.One ts) (Px.Two 6 ts) := by
  rw [Px.rel_six ts fun _ _ => trivial]
  cases Px.One ts with
  | none => exact .inl rfl
  | some p => exact ⟨rfl, stops_six _⟩
/-- what is known where a way goes round -/
def WInv (n0 : Nat) (M : Int) (ts : List Lx.Tok) (V : Wd) (times : Nat) (q : List Lx.Tok) (b : Bool) (vs : List Value) : Prop :=
  (b = true ∧ Px.Rel M none (Px.Two M ts)) ∨ (b = false ∧ ∃ x lim, ExS V n0 x vs ∧ Px.Stops (M + 1) q ∧ (times = 0 → M ≤ lim) ∧ (0 < times → lim = if M = 3 then 2 else M) ∧ Px.Two M ts = Px.Loop M lim x q ∧ TsOk q ∧ times + q.length ≤ ts.length)
theorem ways_at (p : Nat → Option Addr) : ∀ l, l < 5 → (waysC p)[l]? = some (.slice (p l) (Px.sgsAt l).length (Px.sgsAt l).length)
  | 0, _ => rfl
  | 1, _ => rfl
  | 2, _ => rfl
  | 3, _ => rfl
  | 4, _ => rfl
  | n + 5, h => by omega
theorem sl_agg60 : aggT Tryz.prog 102 = some false := by kernel_rfl
set_option maxHeartbeats 1000000 in
theorem xway_ok (n : Nat) (ihp : XPre n) (ih : XWay n) : XWay (n + 1) := by
  intro l m a c ts W hl hm hI hT hts hts1 hn
  refine vc_xway (l : Int) ts.length c false a m W _ hm hI ?_
  refine den_new fun m1 W1 _ x1 => ?_
  by_cases hl5 : l = 5
  · subst hl5
    refine den_br_t rfl (den_call fun hb _ => CallsE.mono (ihp m a c ts (W1.but [m]) (hb _ (List.mem_singleton.2 rfl)) (but_not W1 m) (fun h => (hT h).ext (ext_but x1 hI)) hts hts1 (by omega)) fun e w' hk ⟨op, k, nn, t', nm, al, len, cl, a', c', q, bd, he, hh, hs, ho⟩ => ?_)
    subst he
    refine ⟨op, k, nn, len, cl, q.length, c', bd, t', nm, al, a', rfl, fun b hb => by obtain rfl := List.mem_singleton.1 hb; exact hh, fun W2 e2 y2 n2 => ?_⟩
    simp only [Env.push, List.cons_append, List.nil_append, List.append_nil]
    refine den_wr fun W3 y3 => den_ret fun hb _ _ => ⟨Px.One ts, rel_six' ts, op, k, nn, t', nm, al, len, cl, a', c', q, bd, rfl, hb _ (List.mem_singleton.2 rfl), hs, ?_⟩
    rcases ho with ho | ⟨x, ho, hbd, hx⟩
    · exact .inl ho
    · exact .inr ⟨x, ho, hbd, ((ExAt.stay hx e2 n2 (by exact x1.size)).ext y3).new⟩
  have hl4 : l < 5 := by omega
  have hw : IntKind.i64.wrap ((l : Int) + 1) = ((l + 1 : Nat) : Int) := by rw [w64i (by omega) (by omega)]; rfl
  obtain ⟨M, hM⟩ : ∃ M : Int, M = (l : Int) + 1 := ⟨_, rfl⟩
  have hM2 : (((l + 1 : Nat) : Int) + 1) = M + 1 := by omega
  have hM1 : 1 ≤ M ∧ M ≤ 5 := by omega
  have hsl : (Px.sgsAt l).length ≤ 4 := (show ∀ l, l < 5 → (Px.sgsAt l).length ≤ 4 by decide) l hl4
  have hway : ∀ (V : Wd) (a' : Option Addr) (c' : Nat) (q : List Lx.Tok), Ext W V → V.w.heap[m]? = some (.cells #[.slice a' q.length c', .bool false] 81) → TokSub a c ts a' c' q → TsOk q → q.length ≤ ts.length →
      CallsE Tryz.prog 44 #[.pointer (some ⟨m, 0, none⟩), .int .i64 (IntKind.i64.wrap ((l : Int) + 1))] (V.but [m]) (fun e w' => ∃ o, Px.Rel (M + 1) o (Px.Two (M + 1) q) ∧ XEnd V.w.heap.size m a' c' q o e w') := fun V a' c' q xV hh hs hq hlq => by
    rw [hw, ← hM2]
    exact ih (l + 1) m a' c' q (V.but [m]) (by omega) hh (but_not V m) (fun h => (hs W (hT fun e => h (List.length_eq_zero_iff.1 (by rw [e] at hlq; simpa using hlq)))).ext (ext_but xV hI)) hq (by omega) (by omega)
  rw [show ((l : Int) + 1) = M from hM.symm]
  refine den_br_f (by simp only [Sy.dens, Sy.den, E.i, E.b, E.t, gd, Env.push, List.cons_append, List.nil_append, List.append_nil, Int.toNat_natCast, Bool.false_or, ltB_false]; omega) (den_call fun hb _ => CallsE.mono (hway W1 a c ts x1 (hb _ (List.mem_singleton.2 rfl)) (TokSub.refl _ _ _) hts (Nat.le_refl _)) fun e w' hk ⟨o, hrel, op, k, nn, t', nm, al, len, cl, a', c', q, bd, he, hh, hs, ho⟩ => ?_)
  subst he
  refine ⟨op, k, nn, len, cl, q.length, c', bd, t', nm, al, a', rfl, fun b hb => by obtain rfl := List.mem_singleton.1 hb; exact hh, fun W2 e2 y2 n2 => ?_⟩
  have x2 := ext_trans x1 y2
  simp only [Env.push, List.cons_append, List.nil_append, List.append_nil]
  refine den_new fun m2 W3 hm2 y3 => den_wr fun W4 y4 => ?_
  have x4 := ext_trans (ext_trans x2 y3) y4
  have hdown := Px.rel_down hM1.1 hM1.2 hrel
  have first : WInv W.w.heap.size M ts W4 0 q bd [.int .u8 op, .int .u8 k, .int .i64 nn, .string t', .string nm, .slice al len cl] := by
    rcases ho with ⟨ho, hbd⟩ | ⟨x, ho, hbd, hx⟩
    · subst ho
      exact .inl ⟨hbd, hdown⟩
    · subst ho
      obtain ⟨h1, lim, h2, h3⟩ := hdown
      have hless := Px.Two_less (m := M + 1) (ts := ts) (e := x) (r := q) hrel.1
      have hX := ExAt.stay hx e2 n2 (by exact x1.size)
      exact .inr ⟨hbd, x, lim, (hX.ext y3).ext y4, h1, fun _ => h2, fun h => absurd h (by decide), h3, hts.less hless.2, by have := hless.1; omega⟩
  refine den_loop (fun j vs ls V => ∃ (times : Nat) (op k nn : Int) (t nm : ByteArray) (al : Option Addr) (len cl : Nat) (q : List Lx.Tok) (aq : Option Addr) (cq : Nat) (bd : Bool), vs = [.int .i64 (times : Nat), .slice aq q.length cq, .bool bd, .int .u8 op, .int .u8 k, .int .i64 nn, .string t, .string nm, .slice al len cl] ∧ ls = [] ∧ j = (if bd = true then 0 else q.length + 1) ∧
    TokSub a c ts aq cq q ∧ WInv W.w.heap.size M ts V times q bd [.int .u8 op, .int .u8 k, .int .i64 nn, .string t, .string nm, .slice al len cl]) (if bd = true then 0 else q.length + 1) ⟨0, op, k, nn, t', nm, al, len, cl, q, a', c', bd, rfl, rfl, rfl, hs, first⟩ ?_
  clear first hdown ho hs hh hrel
  rintro j vs ls V xV ⟨times, op, k, nn, t, nm, al, len, cl, q, aq, cq, bd, rfl, rfl, rfl, hs, hinv⟩
  have xV' := ext_trans x4 xV
  refine ⟨(times : Int), op, k, nn, q.length, cq, len, cl, bd, t, nm, aq, al, rfl, rfl, fun _ => ?_⟩
  simp only [Env.push, List.cons_append, List.nil_append, List.append_nil]
  refine den_br (fun c0 => ?_) fun c0 => ?_
  rotate_left
  · -- it ends
    have hbd : bd = true := by
      rcases hinv with ⟨h, _⟩ | ⟨h, x, lim, _, _, _, _, _, _, h2⟩
      · exact h
      · subst h
        simp only [Sy.dens, Sy.den, E.i, E.b, E.t, gd, Env.push, List.cons_append, List.nil_append, List.append_nil, Int.toNat_natCast, Bool.not_false, Bool.and_true, ltB_false] at c0
        omega
    refine den_wr fun V1 y1 => den_ret fun hb _ _ => ⟨none, ?_, op, k, nn, t, nm, al, len, cl, aq, cq, q, bd, rfl, hb _ (List.mem_singleton.2 rfl), hs, .inl ⟨rfl, hbd⟩⟩
    rcases hinv with ⟨_, h⟩ | ⟨h, _⟩
    · exact h
    · rw [hbd] at h; cases h
  have hbd : bd = false := by
    simp only [Sy.dens, Sy.den, E.i, E.b, E.t, gd, Env.push, List.cons_append, List.nil_append, List.append_nil, Int.toNat_natCast, Bool.and_eq_true, Bool.not_eq_true'] at c0
    exact c0.2
  subst hbd
  rcases hinv with ⟨h, _⟩ | ⟨_, x, lim, hX, hst, ht0, ht1, hTwo, hq, hlq⟩
  · cases h
  refine den_call_i (fun _ _ => xways_i V) fun v w' _ ⟨aw, p, hv, hA, hP⟩ => ⟨5, 5, aw, hv, fun V1 e1 y1 n1 => ?_⟩
  have hA1 : SlI V1 aw 5 5 1 (waysC p) := SlAt.stay hA e1 n1
  have hP1 : SlI V1 (p l) (Px.sgsAt l).length (Px.sgsAt l).length 1 ((Px.sgsAt l).flatMap strV) := SlAt.stay (hP l hl4) e1 n1
  simp only [Env.push, List.cons_append, List.nil_append, List.append_nil]
  refine den_chk ?_ (den_chk ?_ (den_chk ?_ (den_look ⟨(Px.sgsAt l).length, (Px.sgsAt l).length, p l, fun U xU => ?_, ?_⟩)))
  · simp only [E.b, gd, Env.push]; exact SlI.some_of hA1 (by omega)
  · simp only [Sy.dens, Sy.den, E.i, E.b, E.t, gd, Env.push, List.cons_append, List.nil_append, List.append_nil, Int.toNat_natCast]; exact leB_t (by omega)
  · simp only [Sy.dens, Sy.den, E.i, E.b, E.t, gd, Env.push, List.cons_append, List.nil_append, List.append_nil, Int.toNat_natCast]; exact ltB_t (by omega)
  · have hA2 : SlI V1 aw 5 5 1 ((waysC p).flatMap fun v => [v]) := by
      have e : (waysC p).flatMap (fun v => [v]) = waysC p := rfl
      rw [e]; exact hA1
    have hx := ways_at p l hl4
    have := sl_look_f (P := Tryz.prog) (f := fun v : Value => [v]) (fun _ => rfl) hA2 sl_agg60 (k := 0) hx (by decide) (u := .slice (p l) (Px.sgsAt l).length (Px.sgsAt l).length) rfl xU
    simp only [Sy.dens, Sy.den, E.i, E.b, E.t, gd, Env.push, List.cons_append, List.nil_append, List.append_nil, Int.toNat_natCast] at this ⊢
    exact this
  simp only [Env.push, List.cons_append, List.nil_append, List.append_nil]
  refine den_loop (fun j vs ls _ => ∃ (i : Nat) (sg : Lx.Bs) (q' : List Lx.Tok) (aq' : Option Addr) (cq' : Nat), vs = [.string ⟨sg.toArray⟩, .int .i64 (i : Nat), .slice aq' q'.length cq', .bool false] ∧ ls = [] ∧ j = (Px.sgsAt l).length - i ∧ i ≤ (Px.sgsAt l).length ∧ TokSub a c ts aq' cq' q' ∧
    ((sg = [] ∧ q' = q ∧ ∀ s ∈ (Px.sgsAt l).take i, Px.sign s q = none) ∨ (sg ∈ Px.sgsAt l ∧ Px.sign sg q = some q'))) (Px.sgsAt l).length ⟨0, [], q, aq, cq, rfl, rfl, rfl, Nat.zero_le _, hs, .inl ⟨rfl, rfl, fun s hs => by simp at hs⟩⟩ ?_
  rintro j vs ls V2 y2' ⟨i, sg, q', aq', cq', rfl, rfl, rfl, hi, hs', hsg⟩
  have xV2 := ext_trans xV' (ext_trans y1 y2')
  refine ⟨(i : Int), q'.length, cq', false, ⟨sg.toArray⟩, aq', rfl, rfl, fun _ => ?_⟩
  simp only [Env.push, List.cons_append, List.nil_append, List.append_nil]
  have tbl : (⟨sg.toArray⟩ : ByteArray).data.toList = sg := by simp
  refine den_br (fun c1 => ?_) fun c1 => ?_
  · -- the next sign
    have c1 : i < (Px.sgsAt l).length ∧ sg = [] := by
      simp only [Sy.dens, Sy.den, E.i, E.b, E.t, gd, Env.push, List.cons_append, List.nil_append, List.append_nil, Int.toNat_natCast, Bool.and_eq_true, ltB_true, tbl, beq_iff_eq] at c1
      exact ⟨by omega, c1.2⟩
    obtain ⟨hil, rfl⟩ := c1
    have hsn : q' = q ∧ ∀ s ∈ (Px.sgsAt l).take i, Px.sign s q = none := by
      rcases hsg with ⟨_, h⟩ | ⟨h, _⟩
      · exact h
      · exact absurd rfl (Px.sg_lv l hl4 _ h).1
    obtain ⟨rfl, hno⟩ := hsn
    have hgx : (Px.sgsAt l)[i]? = some (Px.sgsAt l)[i] := List.getElem?_eq_getElem hil
    have hmem : (Px.sgsAt l)[i] ∈ Px.sgsAt l := List.getElem_mem hil
    have tbl2 : (⟨(Px.sgsAt l)[i].toArray⟩ : ByteArray).data.toList = (Px.sgsAt l)[i] := by simp
    have lk : ∀ U, Ext V2 U → _ := fun U xU => sl_look_f (P := Tryz.prog) (f := strV) (fun _ => rfl) hP1 xstr_agg (k := 0) hgx (by decide) (u := .string ⟨(Px.sgsAt l)[i].toArray⟩) rfl (ext_trans y2' xU)
    refine den_chk ?_ (den_chk ?_ (den_look ⟨⟨(Px.sgsAt l)[i].toArray⟩, fun U xU => ?_, ?_⟩))
    · simp only [E.b, gd, Env.push]; exact SlI.some_of hP1 (by omega)
    · simp only [Sy.dens, Sy.den, E.i, E.b, E.t, gd, Env.push, List.cons_append, List.nil_append, List.append_nil, Int.toNat_natCast]; exact leB_t (by omega)
    · have := lk U xU
      simp only [Sy.dens, Sy.den, E.i, E.b, E.t, gd, Env.push, List.cons_append, List.nil_append, List.append_nil, Int.toNat_natCast] at this ⊢
      exact this
    simp only [Env.push, List.cons_append, List.nil_append, List.append_nil]
    refine den_call fun hb _ => CallsE.mono (nx_e m false aq' cq' q' ⟨(Px.sgsAt l)[i].toArray⟩ (V2.but [m]) (hb _ (List.mem_singleton.2 rfl)) (but_not V2 m) (fun h => (hs' W (hT fun e => h (List.length_eq_zero_iff.1 (by rw [e] at hlq; simp only [List.length_nil] at hlq; omega)))).ext (ext_but xV2 hI))) fun e w' hk ⟨a3, c3, r3, b3, he, hh, hs3, hc3⟩ => ?_
    subst he
    rw [tbl2] at hc3
    refine ⟨r3.length, c3, b3, false, a3, rfl, fun b hb => by obtain rfl := List.mem_singleton.1 hb; exact hh, fun V3 e3 y3' n3 => ?_⟩
    simp only [Env.push, List.cons_append, List.nil_append, List.append_nil]
    refine den_br (fun cb => den_look ⟨⟨(Px.sgsAt l)[i].toArray⟩, fun U xU => ?_, ?_⟩) fun cb => den_again ⟨(Px.sgsAt l).length - (i + 1), by omega, i + 1, [], r3, a3, c3, ?_, rfl, rfl, by omega, hs'.trans hs3, .inl ⟨rfl, ?_, ?_⟩⟩
    · have := lk U (ext_trans y3' xU)
      simp only [Sy.dens, Sy.den, E.i, E.b, E.t, gd, Env.push, List.cons_append, List.nil_append, List.append_nil, Int.toNat_natCast] at this ⊢
      exact this
    · simp only [Env.push, List.cons_append, List.nil_append, List.append_nil]
      have cb : b3 = true := cb
      refine den_again ⟨(Px.sgsAt l).length - (i + 1), by omega, i + 1, (Px.sgsAt l)[i], r3, a3, c3, ?_, rfl, rfl, by omega, hs'.trans hs3, .inr ⟨hmem, ?_⟩⟩
      · simp only [Sy.dens, Sy.den, E.i, E.b, E.t, gd, Env.push, List.cons_append, List.nil_append, List.append_nil, Int.toNat_natCast]; rw [w64i (by omega) (by omega)]; rfl
      · rcases hc3 with ⟨_, h⟩ | ⟨h, _⟩
        · exact h
        · rw [cb] at h; cases h
    · simp only [Sy.dens, Sy.den, E.i, E.b, E.t, gd, Env.push, List.cons_append, List.nil_append, List.append_nil, Int.toNat_natCast]; rw [w64i (by omega) (by omega)]; rfl
    · have cb : b3 = false := cb
      rcases hc3 with ⟨h, _⟩ | ⟨_, _, h, _⟩
      · rw [cb] at h; cases h
      · exact h
    · have cb : b3 = false := cb
      intro s hs
      rw [List.take_add_one, hgx] at hs
      rcases List.mem_append.1 hs with h | h
      · exact hno s h
      · obtain rfl : s = (Px.sgsAt l)[i] := by simpa using h
        rcases hc3 with ⟨h, _⟩ | ⟨_, h, _⟩
        · rw [cb] at h; cases h
        · exact h
  · -- all signs are tried, or one is found
    have c1' : sg = [] → i = (Px.sgsAt l).length := by
      rintro rfl
      simp only [Sy.dens, Sy.den, E.i, E.b, E.t, gd, Env.push, List.cons_append, List.nil_append, List.append_nil, Int.toNat_natCast, Bool.and_eq_false_iff, ltB_false] at c1
      rcases c1 with h | h
      · omega
      · cases h
    have hMM : M = (l : Int) + 1 := hM
    refine den_br (fun c2 => den_wr fun V3 y3' => den_wr fun V4 y4' => den_ret fun hb _ _ => ?_) fun c2 => ?_
    · rcases hsg with ⟨rfl, rfl, hno⟩ | ⟨hmem, hsign⟩
      · rw [c1' rfl, List.take_length] at hno
        have hstop : Px.Stops M q' := by
          rw [hMM]
          exact Px.stops_sg hl4 (by rw [show (l : Int) + 2 = M + 1 from by omega]; exact hst) hno
        refine ⟨some (x, q'), ⟨by rw [hTwo]; exact Px.loop_stop hstop, hstop⟩, op, k, nn, t, nm, al, len, cl, aq', cq', q', false, rfl, hb _ (List.mem_singleton.2 rfl), hs', .inr ⟨x, rfl, rfl, (hX.ext (ext_trans y1 (ext_trans y2' (ext_trans y3' y4')))).new⟩⟩
      · obtain ⟨t1, rfl, hlv⟩ := Px.sign_lv hl4 hmem hsign
        have hne := (Px.sg_lv l hl4 _ hmem).1
        have c2 : l = 2 ∧ 0 < times := by
          simp only [Sy.dens, Sy.den, E.i, E.b, E.t, gd, Env.push, List.cons_append, List.nil_append, List.append_nil, Int.toNat_natCast, tbl, Bool.or_eq_true, Bool.and_eq_true, beq_iff_eq, ltB_true] at c2
          rcases c2 with h | h
          · exact absurd h hne
          · exact ⟨by omega, by omega⟩
        have hM3 : M = 3 := by omega
        have hlim := ht1 c2.2
        rw [if_pos hM3] at hlim
        refine ⟨none, ?_, op, k, nn, t, nm, al, len, cl, aq', cq', q', true, rfl, ?_, hs', .inl ⟨rfl, rfl⟩⟩
        · rw [hTwo, hM3]
          exact Px.loop_bad hlv (by show (l : Int) + 1 = 3; omega) hlim
        · have := hb _ (List.mem_singleton.2 rfl)
          have e : (sg == []) = false := by rw [beq_eq_false_iff_ne]; exact hne
          simpa [Sy.dens, Sy.den, E.i, E.b, E.t, gd, Env.push, List.cons_append, List.nil_append, List.append_nil, Int.toNat_natCast, Blk.at, e, hne] using this
    · rcases hsg with ⟨rfl, rfl, hno⟩ | ⟨hmem, hsign⟩
      · simp [Sy.dens, Sy.den, E.i, E.b, E.t, gd, Env.push, List.cons_append, List.nil_append, List.append_nil, Int.toNat_natCast] at c2
      obtain ⟨t1, rfl, hlv⟩ := Px.sign_lv hl4 hmem hsign
      have c2 : ¬ (l = 2 ∧ 0 < times) := by
        rintro ⟨h1, h2⟩
        have e1 : ltB 0 (times : Int) = true := ltB_t (by omega)
        simp [Sy.dens, Sy.den, E.i, E.b, E.t, gd, Env.push, List.cons_append, List.nil_append, List.append_nil, Int.toNat_natCast, h1, e1] at c2
      have hlim : M ≤ lim := by
        rcases Nat.eq_zero_or_pos times with h | h
        · exact ht0 h
        · rw [ht1 h]
          by_cases h3 : M = 3
          · exact absurd ⟨by omega, h⟩ c2
          · rw [if_neg h3]; omega
      have hbM : ((Px.opX sg, (l : Int) + 1) : Int × Int).2 = M := hMM.symm
      have hgo := Px.loop_go (x := x) (l := lim) (r := q') hlv hbM hlim
      simp only [List.length_cons] at hlq
      rw [show ((l : Int) + 1) = M from hMM.symm] at *
      refine den_call fun hb _ => CallsE.mono (hway V2 aq' cq' q' xV2 (hb _ (List.mem_singleton.2 rfl)) hs' hq.tail (by omega)) fun e w' hk ⟨o, hrel, op', k', nn', t', nm', al', len', cl', a', c', r', bd', he, hh, hs3, ho⟩ => ?_
      subst he
      refine ⟨op', k', nn', len', cl', r'.length, c', bd', t', nm', al', a', rfl, fun b hb => by obtain rfl := List.mem_singleton.1 hb; exact hh, fun V3 e3 y3' n3 => ?_⟩
      simp only [Env.push, List.cons_append, List.nil_append, List.append_nil]
      refine den_new fun m3 V4 hm3 y4' => den_wr fun V5 y5' => ?_
      refine den_callq ⟨Px.opX sg, fun U _ _ _ => by have := xop_q ⟨sg.toArray⟩ U; rw [tbl] at this; exact this, ?_⟩
      refine den_grow fun V7 y7 => den_new fun m4 V8 hm4 y8 => den_grow fun V9 y9 => den_wr fun V10 y10 => den_frz fun V11 e11 y11 hI11 hb11 => den_again ?_
      have z3 := ext_trans y1 (ext_trans y2' y3')
      have z11 := ext_trans y4' (ext_trans y5' (ext_trans y7 (ext_trans y8 (ext_trans y9 (ext_trans y10 y11)))))
      have hv : ∀ b : Bool, [Value.int .i64 (IntKind.i64.wrap ((times : Int) + 1)), .slice a' r'.length c', .bool b, .int .u8 (Px.opX sg), .int .u8 0, .int .i64 0, .string ⟨#[]⟩, .string ⟨#[]⟩, .slice (some ⟨m4, 0, none⟩) 2 2] = [.int .i64 ((times + 1 : Nat) : Int), .slice a' r'.length c', .bool b, .int .u8 (Px.opX sg), .int .u8 0, .int .i64 0, .string ⟨#[]⟩, .string ⟨#[]⟩, .slice (some ⟨m4, 0, none⟩) 2 2] := fun b => by
        rw [w64i (by omega) (by omega)]; rfl
      rcases ho with ⟨ho, hbd⟩ | ⟨y, ho, hbd, hy⟩
      · subst ho hbd
        refine ⟨0, by simp, times + 1, Px.opX sg, 0, 0, ⟨#[]⟩, ⟨#[]⟩, some ⟨m4, 0, none⟩, 2, 2, r', a', c', true, hv true, rfl, rfl, hs'.trans hs3, .inl ⟨rfl, ?_⟩⟩
        rw [hTwo]
        exact Px.loop_none hM1.1 hlv hbM hlim hrel
      · subst ho hbd
        have hlt := Px.Two_less (m := M + 1) (ts := q') (e := y) (r := r') hrel.1
        have hlt1 := hlt.1
        have hY := ExAt.stay hy e3 n3 (by exact xV2.size)
        refine ⟨r'.length + 1, by simp only [List.length_cons]; simp; omega, times + 1, Px.opX sg, 0, 0, ⟨#[]⟩, ⟨#[]⟩, some ⟨m4, 0, none⟩, 2, 2, r', a', c', false, hv false, rfl, by simp, hs'.trans hs3, .inr ⟨rfl, Px.op2 (Px.opX sg) x y, if M = 3 then 2 else M, ?_, hrel.2, fun h => absurd h (by omega), fun _ => rfl, ?_, hq.tail.less hlt.2, by omega⟩⟩
        · have hbm : V11.w.heap[m4]? = some (.cells ([.int .u8 op, .int .u8 k, .int .i64 nn, .string t, .string nm, .slice al len cl] ++ [.int .u8 op', .int .u8 k', .int .i64 nn', .string t', .string nm', .slice al' len' cl'] : List Value).toArray 26) := hb11 _ (List.mem_cons_self ..)
          exact ExAt.two hbm ⟨hI11 _ (List.mem_cons_self ..) hm4, hm4⟩ (hX.ext (ext_trans z3 z11)) (hY.ext z11) (Px.opX sg)
        · rw [hTwo, hgo, hrel.1]; rfl
theorem xread_ok : ∀ n : Nat, XPre n ∧ XWay n := by
  intro n
  induction n with
  | zero => exact ⟨fun m a c ts W _ _ _ _ _ h => by omega, fun l m a c ts W hl _ _ _ _ _ h => by omega⟩
  | succ n ih => exact ⟨xpre_ok n ih.1 ih.2, xway_ok n ih.1 ih.2⟩
end Go.Proofs.YtijinopghlpdbaaGreatDoor

/- The document's Parse: the walk. -/
namespace Go.Proofs.YtijinopghlpdbaaGreatDoor
open Go Go.RowKit Go.SF
set_option linter.unusedSimpArgs false
set_option linter.unusedVariables false
theorem xdeep_q (n : Nat) : ∀ (x : Px.Ex) (vs : List Value) (W : Wd), Px.deep x ≤ n → n ≤ 1000000 → Px.thin x = true → ExI W x vs → CallsQ Tryz.prog 45 #[.agg vs.toArray] W (.int .i64 (Px.deep x : Nat)) := by
  induction n with
  | zero => intro x vs W h; cases x; simp [Px.deep] at h
  | succ n ih =>
    intro x vs W hd hn hth hx
    obtain ⟨op, k, nn, t, nm, args⟩ := x
    have hx := hx.ext W.all_ext
    simp only [ExI, ExAt] at hx
    obtain ⟨a, c, ls, rfl, hS, hE⟩ := hx
    simp only [Px.deep] at hd
    simp only [Px.thin, Bool.and_eq_true, decide_eq_true_eq] at hth
    refine vc_xdeep op k nn args.length c ⟨t.toArray⟩ ⟨nm.toArray⟩ a W.all _ ?_
    refine den_new fun m W1 _ x1 => den_loop (fun j vs ls _ => ∃ i : Nat, vs = [.int .i64 (Px.deeps (args.take i) : Nat), .int .i64 (i : Nat)] ∧ ls = [] ∧ i ≤ args.length ∧ j = args.length - i) args.length ⟨0, by simp [Px.deeps, Sy.dens, Sy.den, E.i, E.b, E.t, gd, Env.push, List.cons_append, List.nil_append, List.append_nil, Int.toNat_natCast], rfl, Nat.zero_le _, rfl⟩ ?_
    rintro j vs ls' W2 x2 ⟨i, rfl, rfl, hi, rfl⟩
    have x2' := ext_trans x1 x2
    refine ⟨((Px.deeps (args.take i) : Nat) : Int), (i : Int), rfl, rfl, fun _ => ?_⟩
    have hle := Px.deeps_take args i
    refine den_br (fun c1 => ?_) fun c1 => ?_
    · simp only [Sy.dens, Sy.den, E.i, E.b, E.t, gd, Env.push, List.cons_append, List.nil_append, List.append_nil, Int.toNat_natCast, ltB_true] at c1
      have hil : i < args.length := by omega
      have hx : args[i]? = some args[i] := List.getElem?_eq_getElem hil
      obtain ⟨us, hu, hg⟩ := exs_get hE hx
      obtain ⟨op', k', nn', t', nm', al', len', cl', rfl⟩ := hu.shape
      have hs := Px.deep_mem (List.getElem_mem hil)
      refine den_chk ?_ (den_chk ?_ (den_look ⟨op', k', nn', len', cl', t', nm', al', fun W3 x3 => ?_, ?_⟩))
      · simp only [E.b, gd, Env.push]; exact SlI.some_of hS (by omega)
      · simp only [Sy.dens, Sy.den, E.i, E.b, E.t, gd, Env.push, List.cons_append, List.nil_append, List.append_nil, Int.toNat_natCast]; exact leB_t (by omega)
      · have := sl_look_at (W := W.all) hS ex_agg ex_size rfl (by decide) hg (ext_trans x2' x3)
        simp only [Sy.dens, Sy.den, E.i, E.b, E.t, gd, Env.push, List.cons_append, List.nil_append, List.append_nil, Int.toNat_natCast] at this ⊢
        exact this
      · simp only [Env.push, List.cons_append, List.nil_append, List.append_nil]
        have hu2 : ExI W.all args[i] _ := hu
        have hq : ∀ V, Ext W2 V → _ := fun V xV => ih args[i] _ V (by omega) (by omega) (Px.thin_mem hth.2 (List.getElem_mem hil)) (hu2.ext (ext_trans x2' xV))
        refine den_call_q (fun _ _ => hq W2 (Ext.refl _)) ⟨((Px.deep args[i] : Nat) : Int), rfl, fun W5 x5 => ?_⟩
        simp only [Env.push, List.cons_append, List.nil_append, List.append_nil]
        refine den_again ⟨args.length - (i + 1), by omega, i + 1, ?_, rfl, by omega, rfl⟩
        simp only [Sy.dens, Sy.den, E.i, E.b, E.t, gd, Env.push, List.cons_append, List.nil_append, List.append_nil, Int.toNat_natCast]
        have ht : args.take (i + 1) = args.take i ++ [args[i]] := by rw [List.take_add_one, hx]; rfl
        rw [ht, Px.deeps_snoc, w64i (by omega) (by omega)]
        congr 2
        · congr 1; omega
    · simp only [Sy.dens, Sy.den, E.i, E.b, E.t, gd, Env.push, List.cons_append, List.nil_append, List.append_nil, Int.toNat_natCast, ltB_false] at c1
      obtain rfl : i = args.length := by omega
      refine den_ret fun _ _ _ => ⟨_, rfl, ?_⟩
      simp only [Sy.dens, Sy.den, E.i, E.b, E.t, gd, Env.push, List.cons_append, List.nil_append, List.append_nil, Int.toNat_natCast, List.take_length, Px.deep] at hle ⊢
      rw [w64i (by omega) (by omega)]
      rfl
theorem zero_ex' (w : World) (J : Nat → Prop) : ExAt w J Px.none_ [.int .u8 0, .int .u8 0, .int .i64 0, .string ⟨#[]⟩, .string ⟨#[]⟩, .slice none 0 0] := ExAt.leaf w J 0 0 0 [] []
theorem xparse_i (t : ByteArray) (W : Wd) (ht : t.size ≤ 1000000) : CallsI Tryz.prog 23 #[.string t] W.all fun v w' => ∃ op k n tt nm al len cl, v = .tuple #[.agg #[.int .u8 op, .int .u8 k, .int .i64 n, .string tt, .string nm, .slice al len cl], .int .i64 (Px.parse t.data.toList).2] ∧
    ExAt w' (fun b => W.w.heap.size ≤ b) (Px.parse t.data.toList).1 [.int .u8 op, .int .u8 k, .int .i64 n, .string tt, .string nm, .slice al len cl] := by
  refine vc_xParse t W.all _ ?_
  refine den_new fun m W1 _ x1 => den_call_i (fun _ _ => rlex_i t W1) fun v w' _ ⟨a, c, hv, hT⟩ => ⟨(Lx.lex t.data.toList).2, (Lx.lex t.data.toList).1.length, c, a, hv, fun W2 e2 y2 n2 => ?_⟩
  have x2 := ext_trans x1 y2
  have hT2 : Toks W2 a c (Lx.lex t.data.toList).1 := SlAt.stay hT e2 n2
  simp only [Env.push, List.cons_append, List.nil_append, List.append_nil]
  refine den_br (fun c0 => den_wr fun _ _ => den_ret fun _ _ _ => ⟨_, rfl, 0, 0, 0, ⟨#[]⟩, ⟨#[]⟩, none, 0, 0, ?_, ?_⟩) fun c0 => ?_
  · have c0 : ¬ (Lx.lex t.data.toList).2 = 0 := by simpa [Sy.dens, Sy.den, E.i, E.b, E.t, gd, Env.push, List.cons_append, List.nil_append, List.append_nil, Int.toNat_natCast] using c0
    simp only [Px.parse, c0, if_false]; rfl
  · have c0 : ¬ (Lx.lex t.data.toList).2 = 0 := by simpa [Sy.dens, Sy.den, E.i, E.b, E.t, gd, Env.push, List.cons_append, List.nil_append, List.append_nil, Int.toNat_natCast] using c0
    simp only [Px.parse, c0, if_false]
    exact zero_ex' _ _
  · have c00 : (Lx.lex t.data.toList).2 = 0 := by simpa [Sy.dens, Sy.den, E.i, E.b, E.t, gd, Env.push, List.cons_append, List.nil_append, List.append_nil, Int.toNat_natCast] using c0
    have hlen := lex_len t.data.toList
    have htok := lex_ok t.data.toList
    generalize hL : (Lx.lex t.data.toList).1 = ts at *
    refine den_new fun mr W3 hmr x3 => ?_
    refine den_call fun hb _ => ?_
    have hbm : W3.w.heap[mr]? = some (.cells #[.slice a ts.length c, .bool false] 81) := hb _ (List.mem_singleton.2 rfl)
    have hT3 : ts ≠ [] → Toks (W3.but [mr]) a c ts := fun hne => by
      have h := hT2.ext x3
      obtain ⟨h1, h2, h3⟩ := h
      refine ⟨h1, h2, h3.imp id ?_⟩
      rintro ⟨b, o, e, hI, hbl, hc⟩
      refine ⟨b, o, e, ⟨hbl, fun hm => ?_⟩, hbl, hc⟩
      rw [List.mem_singleton] at hm
      subst hm
      cases ts with
      | nil => exact hne rfl
      | cons t r =>
        have h0 := hc 0 (.int .u8 t.k) rfl
        simp only [World.cell?, hbm] at h0
        match o, h0 with
        | 0, h0 => simp at h0
        | 1, h0 => simp at h0
        | o + 2, h0 => simp at h0
    refine CallsE.mono ((xread_ok (8 * ts.length + 7)).2 0 mr a c ts (W3.but [mr]) (by omega) hbm (but_not W3 mr) hT3 htok hlen (by omega)) fun e w' hk ⟨o, hrel, op, k, nn, t', nm, al, len, cl, a', c', q, bd, he, hh, hs, ho⟩ => ?_
    subst he
    refine ⟨op, k, nn, len, cl, q.length, c', bd, t', nm, al, a', rfl, fun b hb => by obtain rfl := List.mem_singleton.1 hb; exact hh, fun W4 e4 y4 n4 => ?_⟩
    have hrel : Px.Rel 1 o (Px.Two 1 ts) := hrel
    have hwhole := Px.rel_whole hrel
    have e0 : Px.parse t.data.toList = match Px.whole ts with
        | none => (Px.none_, 4)
        | some e => if 16 < Px.deep e then (Px.none_, 40) else (e, 0) := by
      unfold Px.parse
      rw [if_pos c00, hL]
      cases Px.whole ts <;> rfl
    have x4 := ext_trans x2 (ext_trans x3 y4)
    simp only [Env.push, List.cons_append, List.nil_append, List.append_nil]
    refine den_new fun m2 W5 _ x5 => den_wr fun W6 x6 => den_br (fun c1 => den_wr fun _ _ => den_ret fun _ _ _ => ⟨_, rfl, 0, 0, 0, ⟨#[]⟩, ⟨#[]⟩, none, 0, 0, ?_, ?_⟩) fun c1 => ?_
    · have c1 : bd = true ∨ 0 < q.length := by
        simp only [Sy.dens, Sy.den, E.i, E.b, E.t, gd, Env.push, List.cons_append, List.nil_append, List.append_nil, Int.toNat_natCast, Bool.or_eq_true, ltB_true] at c1
        exact c1.imp id (by omega)
      have hno : Px.whole ts = none := by
        rw [hwhole]
        rcases ho with ⟨rfl, _⟩ | ⟨x, rfl, hbd, _⟩
        · rfl
        · cases q with
          | nil => rw [hbd] at c1; simp at c1
          | cons t r => rfl
      rw [e0, hno]; rfl
    · have c1 : bd = true ∨ 0 < q.length := by
        simp only [Sy.dens, Sy.den, E.i, E.b, E.t, gd, Env.push, List.cons_append, List.nil_append, List.append_nil, Int.toNat_natCast, Bool.or_eq_true, ltB_true] at c1
        exact c1.imp id (by omega)
      have hno : Px.whole ts = none := by
        rw [hwhole]
        rcases ho with ⟨rfl, _⟩ | ⟨x, rfl, hbd, _⟩
        · rfl
        · cases q with
          | nil => rw [hbd] at c1; simp at c1
          | cons t r => rfl
      rw [e0, hno]
      exact zero_ex' _ _
    have c1 : bd = false ∧ q = [] := by
      simp only [Sy.dens, Sy.den, E.i, E.b, E.t, gd, Env.push, List.cons_append, List.nil_append, List.append_nil, Int.toNat_natCast, Bool.or_eq_false_iff, ltB_false] at c1
      exact ⟨c1.1, List.length_eq_zero_iff.1 (by omega)⟩
    obtain ⟨rfl, rfl⟩ := c1
    rcases ho with ⟨_, h⟩ | ⟨x, rfl, _, hx⟩
    · cases h
    have hyes : Px.whole ts = some x := by rw [hwhole]; rfl
    obtain ⟨hth, hdp⟩ := whole_fine htok hyes
    have hX := ExAt.stay hx e4 n4 (by exact (ext_trans x2 x3).size)
    have hX6 := (hX.ext x5).ext x6
    rw [hyes] at e0
    refine den_call_q (fun _ _ => xdeep_q 1000000 x _ W6 (by omega) (Nat.le_refl _) hth hX6.i) ⟨((Px.deep x : Nat) : Int), rfl, fun W7 x7 => ?_⟩
    simp only [Env.push, List.cons_append, List.nil_append, List.append_nil]
    refine den_br (fun c2 => den_wr fun _ _ => den_ret fun _ _ _ => ⟨_, rfl, 0, 0, 0, ⟨#[]⟩, ⟨#[]⟩, none, 0, 0, ?_, ?_⟩) fun c2 => den_wr fun W8 x8 => den_ret fun _ _ _ => ⟨_, rfl, op, k, nn, t', nm, al, len, cl, ?_, ?_⟩
    · have c2 : 16 < Px.deep x := by simp only [Sy.dens, Sy.den, E.i, E.b, E.t, gd, Env.push, List.cons_append, List.nil_append, List.append_nil, Int.toNat_natCast, ltB_true] at c2; omega
      rw [e0]; dsimp only; rw [if_pos c2]; rfl
    · have c2 : 16 < Px.deep x := by simp only [Sy.dens, Sy.den, E.i, E.b, E.t, gd, Env.push, List.cons_append, List.nil_append, List.append_nil, Int.toNat_natCast, ltB_true] at c2; omega
      rw [e0]; dsimp only; rw [if_pos c2]; exact zero_ex' _ _
    · have c2 : ¬ 16 < Px.deep x := by simp only [Sy.dens, Sy.den, E.i, E.b, E.t, gd, Env.push, List.cons_append, List.nil_append, List.append_nil, Int.toNat_natCast, ltB_false] at c2; omega
      rw [e0]; dsimp only; rw [if_neg c2]; rfl
    · have c2 : ¬ 16 < Px.deep x := by simp only [Sy.dens, Sy.den, E.i, E.b, E.t, gd, Env.push, List.cons_append, List.nil_append, List.append_nil, Int.toNat_natCast, ltB_false] at c2; omega
      rw [e0]; dsimp only; rw [if_neg c2]; exact ((hX6.ext x7).ext x8).new
theorem parse_fine (t : Lx.Bs) : Px.thin (Px.parse t).1 = true ∧ Px.deep (Px.parse t).1 ≤ 200 := by
  unfold Px.parse
  split
  · cases h : Px.whole (Lx.lex t).1 with
    | none => exact ⟨by simp [Px.none_, Px.thin, Px.thins], by simp [Px.none_, Px.deep, Px.deeps]⟩
    | some x =>
      obtain ⟨h1, h2⟩ := whole_fine (lex_ok t) h
      have := lex_len t
      dsimp only
      split
      · exact ⟨by simp [Px.none_, Px.thin, Px.thins], by simp [Px.none_, Px.deep, Px.deeps]⟩
      · exact ⟨h1, by show Px.deep x ≤ 200; omega⟩
  · exact ⟨by simp [Px.none_, Px.thin, Px.thins], by simp [Px.none_, Px.deep, Px.deeps]⟩
end Go.Proofs.YtijinopghlpdbaaGreatDoor
