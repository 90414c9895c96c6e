/- Cells of variables, and how they are ordered, plainly. -/
import Derived.WalkKit
import Derived.Test.YtamnfdmmjjekhaaStP
set_option linter.unusedSimpArgs false
namespace Vr
open Go
abbrev Bs := List UInt8
/-- a value -/
structure Val where
  k : Int
  n : Int
  t : Bs
  deriving DecidableEq, Inhabited
/-- a cell: its scope, its name, its value -/
structure Ce where
  sc : Int
  nm : Bs
  v : Val
  deriving DecidableEq, Inhabited
def lt (x y : Ce) : Bool := decide (x.sc < y.sc) || (decide (x.sc = y.sc) && decide (x.nm < y.nm))
theorem blt_tri {a b : Bs} (h1 : ¬ a < b) (h2 : ¬ b < a) : a = b := List.le_antisymm (List.not_lt.1 h2) (List.not_lt.1 h1)
theorem blt_nt {a b c : Bs} (h1 : ¬ a < b) (h2 : ¬ b < c) : ¬ a < c := fun h => by
  have := List.le_trans (List.not_lt.1 h2) (List.not_lt.1 h1)
  exact absurd h (List.not_lt.2 this)
theorem wo : St.Wo lt := by
  refine ⟨fun x => ?_, fun x y h => ?_, fun x y z h1 h2 => ?_⟩
  · simp [lt, List.lt_irrefl]
  · simp only [lt, Bool.or_eq_true, Bool.and_eq_true, decide_eq_true_eq, Bool.or_eq_false_iff, Bool.and_eq_false_iff, decide_eq_false_iff_not] at h ⊢
    rcases h with h | ⟨h, k⟩
    · exact ⟨by omega, .inl (by omega)⟩
    · exact ⟨by omega, .inr (List.lt_asymm k)⟩
  · simp only [lt, Bool.or_eq_false_iff, Bool.and_eq_false_iff, decide_eq_false_iff_not] at h1 h2 ⊢
    refine ⟨by omega, ?_⟩
    by_cases e : x.sc = z.sc
    · right
      have e1 : x.sc = y.sc := by omega
      have e2 : y.sc = z.sc := by omega
      have k1 := h1.2.resolve_left (fun h => h e1)
      have k2 := h2.2.resolve_left (fun h => h e2)
      exact blt_nt k1 k2
    · exact .inl e
theorem eqv_eq (x y : Ce) : St.eqv lt x y = (decide (x.sc = y.sc) && decide (x.nm = y.nm)) := by
  rw [Bool.eq_iff_iff]
  simp only [St.eqv, lt, Bool.and_eq_true, Bool.not_eq_true', Bool.or_eq_false_iff, Bool.and_eq_false_iff, decide_eq_false_iff_not, decide_eq_true_eq]
  constructor
  · rintro ⟨⟨a1, a2⟩, b1, b2⟩
    have e : x.sc = y.sc := by omega
    refine ⟨e, blt_tri (a2.resolve_left fun h => h e) (b2.resolve_left fun h => h e.symm)⟩
  · rintro ⟨e1, e2⟩
    rw [e1, e2]
    exact ⟨⟨by omega, .inr (List.lt_irrefl _)⟩, by omega, .inr (List.lt_irrefl _)⟩
/-- how two are compared, as a number -/
def cmpI (a b : Int) : Int := if a < b then -1 else if b < a then 1 else 0
def cmpB (a b : Bs) : Int := if a < b then -1 else if b < a then 1 else 0
def cmp (x y : Ce) : Int := if cmpI x.sc y.sc ≠ 0 then cmpI x.sc y.sc else cmpB x.nm y.nm
theorem cmp_lt (x y : Ce) : decide (cmp x y < 0) = lt x y := by
  unfold cmp cmpI cmpB lt
  by_cases h1 : x.sc < y.sc
  · simp [h1]
  · by_cases h2 : y.sc < x.sc
    · have : ¬ x.sc = y.sc := by omega
      simp [h1, h2, this]
    · have : x.sc = y.sc := by omega
      by_cases h3 : x.nm < y.nm
      · simp [h1, h2, h3, this]
      · by_cases h4 : y.nm < x.nm <;> simp [h1, h2, h3, h4, this]
theorem bless_eq : ∀ (x y : Bs), Op.bytesLess x y = decide (x < y)
  | [], [] => by simp [Op.bytesLess]
  | [], _ :: _ => by simp [Op.bytesLess]
  | _ :: _, [] => by simp [Op.bytesLess]
  | a :: x, b :: y => by
    have ih := bless_eq x y
    simp only [Op.bytesLess, ih, List.cons_lt_cons_iff]
    by_cases h : a < b
    · simp [h]
    · by_cases h2 : a = b
      · simp [h2]
      · simp [h, h2]
/-- its cells -/
def Val.enc (v : Val) : List Value := [.int .u8 v.k, .int .i64 v.n, .string ⟨v.t.toArray⟩]
def Ce.enc (c : Ce) : List Value := [.int .i64 c.sc, .string ⟨c.nm.toArray⟩, .int .u8 c.v.k, .int .i64 c.v.n, .string ⟨c.v.t.toArray⟩]
theorem Ce.enc_len (c : Ce) : c.enc.length = 5 := rfl
theorem Ce.enc_one (c : Ce) : ∀ u ∈ c.enc, u.oneCell' = true := by simp [Ce.enc, Value.oneCell']
theorem encs_one (l : List Ce) : ∀ u ∈ l.flatMap Ce.enc, u.oneCell' = true := fun u hu => by
  obtain ⟨c, _, h⟩ := List.mem_flatMap.1 hu
  exact c.enc_one u h
theorem encs_len (l : List Ce) : (l.flatMap Ce.enc).length = l.length * 5 := by
  induction l with
  | nil => rfl
  | cons c l ih => rw [List.flatMap_cons, List.length_append, ih, c.enc_len, List.length_cons]; omega
end Vr
