/- Plain facts on the two numbers of a sum: no program in sight. -/
namespace Sm
def st (p : Nat × Nat) (x : UInt8) : Nat × Nat := ((p.1 + x.toNat) % 65521, (p.2 + (p.1 + x.toNat) % 65521) % 65521)
def run (p : Nat × Nat) (l : List UInt8) : Nat × Nat := l.foldl st p
def val (p : Nat × Nat) : Nat := p.2 * 65536 + p.1
theorem run_nil (p : Nat × Nat) : run p [] = p := rfl
theorem run_snoc (p : Nat × Nat) (l : List UInt8) (x : UInt8) : run p (l ++ [x]) = st (run p l) x := by
  unfold run; rw [List.foldl_append]; rfl
theorem run_append (p : Nat × Nat) (l m : List UInt8) : run p (l ++ m) = run (run p l) m := by
  unfold run; rw [List.foldl_append]
theorem st_lt (p : Nat × Nat) (x : UInt8) : (st p x).1 < 65536 ∧ (st p x).2 < 65536 := by
  unfold st; constructor <;> simp only <;> omega
theorem run_lt (p : Nat × Nat) (l : List UInt8) (h : p.1 < 65536 ∧ p.2 < 65536) : (run p l).1 < 65536 ∧ (run p l).2 < 65536 := by
  induction l generalizing p with
  | nil => exact h
  | cons x l ih => exact ih _ (st_lt p x)
theorem run_lt' (p : Nat × Nat) (l : List UInt8) (h : p.1 < 65521 ∧ p.2 < 65521) : (run p l).1 < 65521 ∧ (run p l).2 < 65521 := by
  induction l generalizing p with
  | nil => exact h
  | cons x l ih => exact ih _ (by unfold st; constructor <;> simp only <;> omega)
theorem take_snoc (s : ByteArray) (k : Nat) (h : k < s.size) : s.data.toList.take (k + 1) = s.data.toList.take k ++ [s[k]] := by
  rw [List.take_succ_eq_append_getElem (by simpa using h)]; rfl
theorem run_take (p : Nat × Nat) (s : ByteArray) (k : Nat) (h : k < s.size) : run p (s.data.toList.take (k + 1)) = st (run p (s.data.toList.take k)) s[k] := by
  rw [take_snoc s k h, run_snoc]
def tot (l : List UInt8) : Nat := (l.map (·.toNat)).sum
theorem run_fst (p : Nat × Nat) (l : List UInt8) (h : p.1 < 65521) : (run p l).1 = (p.1 + tot l) % 65521 := by
  induction l generalizing p with
  | nil => simp [run, tot]; omega
  | cons x l ih =>
    have := ih (st p x) (by unfold st; simp only; omega)
    simp only [run, List.foldl_cons] at this ⊢
    rw [this]
    simp [st, tot]; omega
theorem tot_append (l m : List UInt8) : tot (l ++ m) = tot l + tot m := by simp [tot]
theorem tot_turn (l : List UInt8) (k : Nat) : tot (l.drop k ++ l.take k) = tot l := by
  have h : tot (l.take k ++ l.drop k) = tot l := by rw [List.take_append_drop]
  rw [tot_append] at h ⊢; omega
theorem run_zeros (x y n : Nat) (hx : x < 65521) (hy : y < 65521) : run (x, y) (List.replicate n 0) = (x, (y + n * x) % 65521) := by
  induction n generalizing y with
  | zero => simp [run]; omega
  | succ n ih =>
    rw [List.replicate_succ]
    show run (st (x, y) 0) _ = _
    have e : st (x, y) 0 = (x, (y + x) % 65521) := by simp [st]; omega
    rw [e, ih _ (by omega)]
    simp only [Prod.mk.injEq, true_and]
    rw [Nat.succ_mul]
    omega
def gap : Nat → List UInt8 → Nat
  | _, [] => 0
  | a, x :: l => (a + x.toNat) % 65521 + gap ((a + x.toNat) % 65521) l
theorem run_snd (p : Nat × Nat) (l : List UInt8) (h : p.2 < 65521) : (run p l).2 = (p.2 + gap p.1 l) % 65521 := by
  induction l generalizing p with
  | nil => simp [run, gap]; omega
  | cons x l ih =>
    have := ih (st p x) (by unfold st; simp only; omega)
    simp only [run, List.foldl_cons] at this ⊢
    rw [this]
    simp [st, gap]; omega
theorem val_inj (p q : Nat × Nat) (hp : p.1 < 65521 ∧ p.2 < 65521) (hq : q.1 < 65521 ∧ q.2 < 65521) (h : val p = val q) : p = q := by
  obtain ⟨a, b⟩ := p; obtain ⟨c, d⟩ := q
  simp only [val] at *
  have h1 : a = c := by omega
  have h2 : b = d := by omega
  rw [h1, h2]
theorem byte_ne {x y : UInt8} (h : x ≠ y) : x.toNat ≠ y.toNat := fun e => h (UInt8.toNat_inj.1 e)
theorem mid_ne (p : Nat × Nat) (hp : p.1 < 65521 ∧ p.2 < 65521) (a b : List UInt8) (x y : UInt8) (h : x ≠ y) : val (run p (a ++ x :: b)) ≠ val (run p (a ++ y :: b)) := by
  intro e
  have e := val_inj _ _ (run_lt' p _ hp) (run_lt' p _ hp) e
  have e1 : (run p (a ++ x :: b)).1 = (run p (a ++ y :: b)).1 := by rw [e]
  rw [run_fst _ _ hp.1, run_fst _ _ hp.1, tot_append, tot_append] at e1
  have hx := x.toNat_lt
  have hy := y.toNat_lt
  have := byte_ne h
  simp only [tot, List.map_cons, List.sum_cons] at e1
  omega
theorem swap_ne (p : Nat × Nat) (hp : p.1 < 65521 ∧ p.2 < 65521) (a b : List UInt8) (x y : UInt8) (h : x ≠ y) : val (run p (a ++ x :: y :: b)) ≠ val (run p (a ++ y :: x :: b)) := by
  intro e
  have e := val_inj _ _ (run_lt' p _ hp) (run_lt' p _ hp) e
  have e1 : (run p (a ++ x :: y :: b)).2 = (run p (a ++ y :: x :: b)).2 := by rw [e]
  have hq := run_lt' p a hp
  rw [run_append, run_append] at e1
  generalize run p a = q at *
  obtain ⟨u, v⟩ := q
  have f1 : ∀ c d : UInt8, run (u, v) (c :: d :: b) = run (st (st (u, v) c) d) b := fun _ _ => rfl
  rw [f1, f1, run_snd _ _ (by unfold st; simp only; omega), run_snd _ _ (by unfold st; simp only; omega)] at e1
  have hx := x.toNat_lt
  have hy := y.toNat_lt
  have := byte_ne h
  have g : (st (st (u, v) x) y).1 = (st (st (u, v) y) x).1 := by simp only [st]; omega
  rw [g] at e1
  generalize gap _ b = G at e1
  simp only [st] at e1 hq
  omega
theorem set_mid (l : List UInt8) (K : Nat) (hK : K < l.length) (x : UInt8) : l.set K x = l.take K ++ x :: l.drop (K + 1) := by
  rw [List.set_eq_take_append_cons_drop]; simp [hK]
theorem set_ne (l : List UInt8) (K : Nat) (hK : K < l.length) (x : UInt8) (h : l[K] ≠ x) : val (run (1, 0) (l.set K x)) ≠ val (run (1, 0) l) := by
  have e : l = l.take K ++ l[K] :: l.drop (K + 1) := by simp
  rw [set_mid l K hK]
  exact fun c => mid_ne (1, 0) (by decide) (l.take K) (l.drop (K + 1)) x l[K] (fun e => h e.symm) (c.trans (by rw [← e]))
def swap (l : List UInt8) (K : Nat) : List UInt8 := (l.set K l[K + 1]!).set (K + 1) l[K]!
theorem swap_mid (a b : List UInt8) (x y : UInt8) : swap (a ++ x :: y :: b) a.length = a ++ y :: x :: b := by
  unfold swap
  simp
theorem parts (l : List UInt8) (K : Nat) (hK : K + 1 < l.length) : l = l.take K ++ l[K] :: l[K + 1] :: l.drop (K + 2) := by
  simp
theorem swap_iff (l : List UInt8) (K : Nat) (hK : K + 1 < l.length) : swap l K = l ↔ val (run (1, 0) (swap l K)) = val (run (1, 0) l) := by
  have e := parts l K hK
  generalize l[K] = x at e
  generalize l[K + 1] = y at e
  have hl : (l.take K).length = K := by simp; omega
  generalize l.take K = a at *
  generalize l.drop (K + 2) = b at *
  subst e
  rw [← hl, swap_mid]
  by_cases h : x = y
  · subst h; simp
  · constructor
    · intro c; simp at c; exact absurd c.1.symm h
    · intro c; exact absurd c (swap_ne (1, 0) (by decide) a b y x (fun e => h e.symm))
theorem set_iff (l : List UInt8) (K : Nat) (hK : K < l.length) (x : UInt8) : l.set K x = l ↔ val (run (1, 0) (l.set K x)) = val (run (1, 0) l) := by
  by_cases h : l[K] = x
  · subst h; simp
  · constructor
    · intro c
      have : (l.set K x)[K]'(by simpa using hK) = l[K] := by simp only [c]
      simp at this
      exact absurd this.symm h
    · intro c; exact absurd c (set_ne l K hK x h)
theorem take_all (s : ByteArray) : s.data.toList.take s.size = s.data.toList := List.take_of_length_le (by simp)
end Sm
