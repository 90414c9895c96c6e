/- A stable sort, said of lists: what is sorted, and that equals keep their order. -/
namespace St
variable {α : Type}
/-- a strict weak order -/
structure Wo (lt : α → α → Bool) : Prop where
  irr : ∀ x, lt x x = false
  asy : ∀ x y, lt x y = true → lt y x = false
  nt : ∀ x y z, lt x y = false → lt y z = false → lt x z = false
def eqv (lt : α → α → Bool) (x y : α) : Bool := !lt x y && !lt y x
def Srt (lt : α → α → Bool) (l : List α) : Prop := l.Pairwise fun x y => lt y x = false
/-- r is l, sorted, equals in their order -/
structure Of (lt : α → α → Bool) (l r : List α) : Prop where
  srt : Srt lt r
  perm : r.Perm l
  flt : ∀ z, r.filter (eqv lt z) = l.filter (eqv lt z)
theorem Of.refl {lt : α → α → Bool} {l : List α} (h : Srt lt l) : Of lt l l := ⟨h, List.Perm.refl _, fun _ => rfl⟩
theorem Of.len {lt : α → α → Bool} {l r : List α} (h : Of lt l r) : r.length = l.length := h.perm.length_eq
theorem Of.mem {lt : α → α → Bool} {l r : List α} (h : Of lt l r) {x : α} : x ∈ r ↔ x ∈ l := h.perm.mem_iff
theorem Of.trans {lt : α → α → Bool} {l m r : List α} (h : Of lt l m) (k : Of lt m r) : Of lt l r := ⟨k.srt, k.perm.trans h.perm, fun z => (k.flt z).trans (h.flt z)⟩
theorem eqv_lt {lt : α → α → Bool} (w : Wo lt) {x y z : α} (hx : eqv lt z x = true) (hy : eqv lt z y = true) : lt x y = false := by
  simp only [eqv, Bool.and_eq_true, Bool.not_eq_true'] at hx hy
  exact w.nt _ _ _ hx.2 hy.1
/-- lists of unlike ones may change places in each class -/
theorem swap_flt {lt : α → α → Bool} (w : Wo lt) {X Y : List α} (h : ∀ y ∈ Y, ∀ x ∈ X, lt y x = true) (z : α) : Y.filter (eqv lt z) ++ X.filter (eqv lt z) = X.filter (eqv lt z) ++ Y.filter (eqv lt z) := by
  by_cases hy : ∃ y ∈ Y, eqv lt z y = true
  · obtain ⟨y, hy, e⟩ := hy
    have : X.filter (eqv lt z) = [] := by
      rw [List.filter_eq_nil_iff]
      intro x hx hz
      have := eqv_lt w e hz
      rw [h y hy x hx] at this
      cases this
    rw [this]; simp
  · have : Y.filter (eqv lt z) = [] := by
      rw [List.filter_eq_nil_iff]
      intro y hy1 hz
      exact hy ⟨y, hy1, hz⟩
    rw [this]; simp
theorem merge_of {lt : α → α → Bool} (w : Wo lt) {X1 X2 Y1 Y2 R1 R2 : List α} (hX : Srt lt (X1 ++ X2)) (hY : Srt lt (Y1 ++ Y2)) (h1 : ∀ y ∈ Y1, ∀ x ∈ X2, lt y x = true) (h2 : ∀ x ∈ X1, ∀ y ∈ Y2, lt y x = false)
    (k1 : Of lt (X1 ++ Y1) R1) (k2 : Of lt (X2 ++ Y2) R2) : Of lt (X1 ++ X2 ++ (Y1 ++ Y2)) (R1 ++ R2) := by
  refine ⟨?_, ?_, fun z => ?_⟩
  · refine List.pairwise_append.2 ⟨k1.srt, k2.srt, fun u hu v hv => ?_⟩
    rcases List.mem_append.1 (k1.mem.1 hu) with hu | hu <;> rcases List.mem_append.1 (k2.mem.1 hv) with hv | hv
    · exact (List.pairwise_append.1 hX).2.2 u hu v hv
    · exact h2 u hu v hv
    · exact w.asy _ _ (h1 u hu v hv)
    · exact (List.pairwise_append.1 hY).2.2 u hu v hv
  · refine (k1.perm.append k2.perm).trans ?_
    rw [List.append_assoc, List.append_assoc]
    refine List.Perm.append_left X1 ?_
    rw [← List.append_assoc, ← List.append_assoc]
    exact List.perm_append_comm.append_right Y2
  · simp only [List.filter_append, k1.flt, k2.flt]
    rw [List.append_assoc, List.append_assoc]
    congr 1
    rw [← List.append_assoc, ← List.append_assoc, swap_flt w h1 z]
/-- one put into a sorted list, from the left -/
theorem insL {lt : α → α → Bool} (w : Wo lt) {x : α} {Y1 Y2 : List α} (hY : Srt lt (Y1 ++ Y2)) (h1 : ∀ y ∈ Y1, lt y x = true) (h2 : ∀ y ∈ Y2, lt y x = false) : Of lt (x :: (Y1 ++ Y2)) (Y1 ++ x :: Y2) := by
  have := merge_of w (X1 := []) (X2 := [x]) (Y1 := Y1) (Y2 := Y2) (R1 := Y1) (R2 := x :: Y2) (by simp [Srt]) hY (fun y hy z hz => by obtain rfl := List.mem_singleton.1 hz; exact h1 y hy) (fun x hx => by cases hx)
    (by simpa using Of.refl (List.pairwise_append.1 hY).1) (by simpa using Of.refl (show Srt lt (x :: Y2) from List.pairwise_cons.2 ⟨h2, (List.pairwise_append.1 hY).2.1⟩))
  simpa using this
/-- .. from the right -/
theorem insR {lt : α → α → Bool} (w : Wo lt) {y : α} {X1 X2 : List α} (hX : Srt lt (X1 ++ X2)) (h1 : ∀ x ∈ X1, lt y x = false) (h2 : ∀ x ∈ X2, lt y x = true) : Of lt (X1 ++ X2 ++ [y]) (X1 ++ y :: X2) := by
  have := merge_of w (X1 := X1) (X2 := X2) (Y1 := [y]) (Y2 := []) (R1 := X1 ++ [y]) (R2 := X2) hX (by simp [Srt]) (fun z hz x hx => by obtain rfl := List.mem_singleton.1 hz; exact h2 x hx) (fun x _ y hy => by cases hy)
    (Of.refl (List.pairwise_append.2 ⟨(List.pairwise_append.1 hX).1, by simp, fun x hx z hz => by obtain rfl := List.mem_singleton.1 hz; exact h1 x hx⟩)) (by simpa using Of.refl (List.pairwise_append.1 hX).2.1)
  simpa using this
/-- two sorted lists with the same classes are equal -/
theorem srt_ext {lt : α → α → Bool} (w : Wo lt) : ∀ {l r : List α}, Srt lt l → Srt lt r → (∀ z, l.filter (eqv lt z) = r.filter (eqv lt z)) → l = r
  | [], [], _, _, _ => rfl
  | [], y :: r, _, _, h => by
    have := h y
    rw [List.filter_cons_of_pos (by simp [eqv, w.irr])] at this
    simp at this
  | x :: l, [], _, _, h => by
    have := h x
    rw [List.filter_cons_of_pos (by simp [eqv, w.irr])] at this
    simp at this
  | x :: l, y :: r, hl, hr, h => by
    have hl' := List.pairwise_cons.1 hl
    have hr' := List.pairwise_cons.1 hr
    have ex : eqv lt x y = true := by
      have hx := h x
      rw [List.filter_cons_of_pos (by simp [eqv, w.irr])] at hx
      have hy := h y
      rw [List.filter_cons_of_pos (l := r) (by simp [eqv, w.irr])] at hy
      have mx : x ∈ (y :: r).filter (eqv lt x) := by rw [← hx]; exact List.mem_cons_self ..
      have my : y ∈ (x :: l).filter (eqv lt y) := by rw [hy]; exact List.mem_cons_self ..
      have a1 : lt x y = false := by
        rcases List.mem_cons.1 (List.mem_filter.1 mx).1 with rfl | m
        · exact w.irr _
        · exact hr'.1 x m
      have a2 : lt y x = false := by
        rcases List.mem_cons.1 (List.mem_filter.1 my).1 with rfl | m
        · exact w.irr _
        · exact hl'.1 y m
      simp [eqv, a1, a2]
    have hx := h x
    rw [List.filter_cons_of_pos (by simp [eqv, w.irr]), List.filter_cons_of_pos ex] at hx
    injection hx with e1 _
    subst e1
    refine congrArg _ (srt_ext w hl'.2 hr'.2 fun z => ?_)
    have := h z
    by_cases hz : eqv lt z x = true
    · rw [List.filter_cons_of_pos hz, List.filter_cons_of_pos hz] at this
      injection this
    · rw [List.filter_cons_of_neg hz, List.filter_cons_of_neg hz] at this
      exact this
theorem Of.eq {lt : α → α → Bool} (w : Wo lt) {l r s : List α} (h : Of lt l r) (k : Of lt l s) : r = s := srt_ext w h.srt k.srt fun z => (h.flt z).trans (k.flt z).symm
theorem Srt.filter {lt : α → α → Bool} {l : List α} (h : Srt lt l) (p : α → Bool) : Srt lt (l.filter p) := List.Pairwise.filter p h
/-- a filter of what is sorted is what is filtered, sorted -/
theorem Of.filter {lt : α → α → Bool} {l r : List α} (h : Of lt l r) (p : α → Bool) : Of lt (l.filter p) (r.filter p) := by
  refine ⟨h.srt.filter p, h.perm.filter p, fun z => ?_⟩
  rw [List.filter_filter, List.filter_filter]
  have e : ∀ m : List α, m.filter (fun a => eqv lt z a && p a) = (m.filter (eqv lt z)).filter p := fun m => by rw [List.filter_filter]; congr 1; funext a; exact Bool.and_comm _ _
  rw [e, e, h.flt z]
theorem Of.self {lt : α → α → Bool} (w : Wo lt) {l r : List α} (h : Of lt l r) (hs : Srt lt l) : r = l := h.eq w (Of.refl hs)

/-! ### pieces of a list -/
theorem set_at (A : List α) (x y : α) (B : List α) : (A ++ x :: B).set A.length y = A ++ y :: B := by simp
/-- two that change places -/
theorem swap_at (A M B : List α) (x y : α) {i j : Nat} (hi : i = A.length) (hj : j = A.length + 1 + M.length) : ((A ++ x :: (M ++ y :: B)).set i y).set j x = A ++ y :: (M ++ x :: B) := by
  subst hi hj
  rw [set_at]
  have : A ++ y :: (M ++ y :: B) = (A ++ y :: M) ++ y :: B := by simp
  rw [this, show A.length + 1 + M.length = (A ++ y :: M).length from by simp; omega, set_at]
  simp
/-- .. the right one ahead -/
theorem swap_at' (A M B : List α) (x y : α) {i j : Nat} (hi : i = A.length) (hj : j = A.length + 1 + M.length) : ((A ++ x :: (M ++ y :: B)).set j x).set i y = A ++ y :: (M ++ x :: B) := by
  rw [List.set_comm _ _ (by omega), swap_at A M B x y hi hj]
/-- from a up to b -/
def seg (l : List α) (a b : Nat) : List α := (l.take b).drop a
/-- with other ones from a up to b -/
def put (l : List α) (a b : Nat) (R : List α) : List α := l.take a ++ R ++ l.drop b
theorem seg_get {l : List α} {a b i : Nat} : (seg l a b)[i]? = if a + i < b then l[a + i]? else none := by
  unfold seg
  rw [List.getElem?_drop, List.getElem?_take]
theorem mem_seg {l : List α} {a b : Nat} {x : α} : x ∈ seg l a b ↔ ∃ i, a ≤ i ∧ i < b ∧ l[i]? = some x := by
  rw [List.mem_iff_getElem?]
  constructor
  · rintro ⟨i, h⟩
    rw [seg_get] at h
    split at h
    · exact ⟨a + i, by omega, by omega, h⟩
    · cases h
  · rintro ⟨i, h1, h2, h3⟩
    refine ⟨i - a, ?_⟩
    rw [seg_get, if_pos (by omega), show a + (i - a) = i from by omega, h3]
theorem seg_len {l : List α} {a b : Nat} (h : b ≤ l.length) : (seg l a b).length = b - a := by simp [seg]; omega
theorem take_seg {l : List α} {a b : Nat} (h : a ≤ b) : l.take b = l.take a ++ seg l a b := by
  have := List.take_append_drop a (l.take b)
  rw [List.take_take, Nat.min_eq_left h] at this
  exact this.symm
theorem seg_app {l : List α} {a m b : Nat} (h1 : a ≤ m) (h2 : m ≤ b) : seg l a b = seg l a m ++ seg l m b := by
  have e := take_seg (l := l) (Nat.le_trans h1 h2)
  rw [take_seg h2, take_seg (l := l) h1, List.append_assoc] at e
  exact (List.append_cancel_left e).symm
theorem seg_nil {l : List α} {a b : Nat} (h : b ≤ a) : seg l a b = [] := by
  refine List.eq_nil_of_length_eq_zero ?_
  simp [seg]; omega
theorem seg_one {l : List α} {a : Nat} {x : α} (h : l[a]? = some x) : seg l a (a + 1) = [x] := by
  refine List.ext_getElem? fun i => ?_
  rw [seg_get]
  rcases i with _ | i
  · simp [h]
  · simp
theorem put_self {l : List α} {a b : Nat} (h : a ≤ b) : put l a b (seg l a b) = l := by
  unfold put
  rw [← take_seg h]; exact List.take_append_drop _ _
theorem put_len {l : List α} {a b : Nat} {R : List α} (h1 : a ≤ b) (h2 : b ≤ l.length) (hR : R.length = b - a) : (put l a b R).length = l.length := by simp [put]; omega
theorem put_get {l : List α} {a b : Nat} {R : List α} (h1 : a ≤ b) (h2 : b ≤ l.length) (hR : R.length = b - a) (i : Nat) : (put l a b R)[i]? = if a ≤ i ∧ i < b then R[i - a]? else l[i]? := by
  unfold put
  rw [List.append_assoc, List.getElem?_append, List.getElem?_append, List.getElem?_take, List.getElem?_drop, List.length_take, Nat.min_eq_left (by omega)]
  by_cases c1 : i < a
  · rw [if_pos c1, if_pos c1, if_neg (by omega)]
  · rw [if_neg c1]
    by_cases c2 : i < b
    · rw [if_pos (by omega), if_pos (by omega)]
    · rw [if_neg (by omega), if_neg (by omega), hR]
      congr 1; omega
theorem seg_put_in {l : List α} {a b : Nat} {R : List α} (h1 : a ≤ b) (h2 : b ≤ l.length) (hR : R.length = b - a) {c d : Nat} (hc : a ≤ c) (hd : d ≤ b) : seg (put l a b R) c d = seg R (c - a) (d - a) := by
  refine List.ext_getElem? fun i => ?_
  rw [seg_get, seg_get, put_get h1 h2 hR]
  by_cases h : c + i < d
  · rw [if_pos h, if_pos (by omega), if_pos (by omega)]
    congr 1; omega
  · rw [if_neg h, if_neg (by omega)]
theorem seg_all {l : List α} {b : Nat} (h : b = l.length) : seg l 0 b = l := by simp [seg, h]
theorem seg_put {l : List α} {a b : Nat} {R : List α} (h1 : a ≤ b) (h2 : b ≤ l.length) (hR : R.length = b - a) : seg (put l a b R) a b = R := by
  rw [seg_put_in h1 h2 hR (Nat.le_refl _) (Nat.le_refl _), Nat.sub_self, seg_all (by omega)]
theorem seg_put_out {l : List α} {a b : Nat} {R : List α} (h1 : a ≤ b) (h2 : b ≤ l.length) (hR : R.length = b - a) {c d : Nat} (h : d ≤ a ∨ b ≤ c) : seg (put l a b R) c d = seg l c d := by
  refine List.ext_getElem? fun i => ?_
  rw [seg_get, seg_get, put_get h1 h2 hR]
  by_cases hd : c + i < d
  · rw [if_pos hd, if_pos hd, if_neg (by omega)]
  · rw [if_neg hd, if_neg hd]
theorem put_put {l : List α} {a b c d : Nat} {R S : List α} (h1 : a ≤ b) (h2 : b ≤ l.length) (hR : R.length = b - a) (h3 : a ≤ c) (h4 : d ≤ b) (h5 : c ≤ d) (hS : S.length = d - c) : put (put l a b R) c d S = put l a b (put R (c - a) (d - a) S) := by
  have hl := put_len h1 h2 hR
  have hR2 : (put R (c - a) (d - a) S).length = b - a := by rw [put_len (by omega) (by omega) (by omega), hR]
  refine List.ext_getElem? fun i => ?_
  rw [put_get h5 (by omega) hS, put_get h1 h2 hR, put_get h1 h2 hR2]
  by_cases c1 : a ≤ i ∧ i < b
  · rw [if_pos c1, if_pos c1, put_get (by omega) (by omega) (by omega)]
    by_cases c2 : c ≤ i ∧ i < d
    · rw [if_pos c2, if_pos (by omega)]; congr 1; omega
    · rw [if_neg c2, if_neg (by omega)]
  · rw [if_neg c1, if_neg c1, if_neg (by omega)]
theorem put_over {l : List α} {a b : Nat} {R S : List α} (h1 : a ≤ b) (h2 : b ≤ l.length) (hR : R.length = b - a) (hS : S.length = b - a) : put (put l a b R) a b S = put l a b S := by
  rw [put_put h1 h2 hR (Nat.le_refl _) (Nat.le_refl _) h1 hS, Nat.sub_self]
  congr 1
  unfold put
  rw [List.drop_eq_nil_of_le (by omega)]; simp
theorem get_of {l : List α} {i : Nat} (h : i < l.length) : ∃ x, l[i]? = some x := ⟨l[i], List.getElem?_eq_getElem h⟩
theorem srt_seg {lt : α → α → Bool} {l : List α} {a b : Nat} : Srt lt (seg l a b) ↔ ∀ i j x y, a ≤ i → i < j → j < b → l[i]? = some x → l[j]? = some y → lt y x = false := by
  unfold Srt
  rw [List.pairwise_iff_getElem]
  constructor
  · intro h i j x y h1 h2 h3 hx hy
    have e : ∀ k z, a ≤ k → k < b → l[k]? = some z → (seg l a b)[k - a]? = some z := fun k z k1 k2 hz => by
      rw [seg_get, if_pos (by omega), show a + (k - a) = k from by omega, hz]
    have ex := e i x h1 (by omega) hx
    have ey := e j y (by omega) h3 hy
    obtain ⟨b1, e1⟩ := List.getElem?_eq_some_iff.1 ex
    obtain ⟨b2, e2⟩ := List.getElem?_eq_some_iff.1 ey
    have := h (i - a) (j - a) b1 b2 (by omega)
    rw [e1, e2] at this
    exact this
  · intro h i j hi hj hij
    have e : ∀ k (hk : k < (seg l a b).length), a + k < b ∧ l[a + k]? = some (seg l a b)[k] := fun k hk => by
      have := List.getElem?_eq_getElem hk
      rw [seg_get] at this
      split at this
      · rename_i hb; exact ⟨hb, this⟩
      · cases this
    obtain ⟨b1, e1⟩ := e i hi
    obtain ⟨b2, e2⟩ := e j hj
    exact h (a + i) (a + j) _ _ (by omega) (by omega) b2 e1 e2
/-- what the middle search of a symmetric merge shows -/
theorem sym_split {lt : α → α → Bool} (w : Wo lt) {l : List α} {a s m e b : Nat} (ham : a ≤ s) (hsm : s ≤ m) (hme : m ≤ e) (heb : e ≤ b) (hb : b ≤ l.length) (hX : Srt lt (seg l a m)) (hY : Srt lt (seg l m b))
    (h1 : s < m → m < e → ∀ x y, l[s]? = some x → l[e - 1]? = some y → lt y x = true) (h2 : a < s → e < b → ∀ x y, l[s - 1]? = some x → l[e]? = some y → lt y x = false) :
    (∀ y ∈ seg l m e, ∀ x ∈ seg l s m, lt y x = true) ∧ ∀ x ∈ seg l a s, ∀ y ∈ seg l e b, lt y x = false := by
  rw [srt_seg] at hX hY
  constructor
  · intro y hy x hx
    obtain ⟨j, j1, j2, gy⟩ := mem_seg.1 hy
    obtain ⟨i, i1, i2, gx⟩ := mem_seg.1 hx
    obtain ⟨u, hu⟩ := get_of (l := l) (i := s) (by omega)
    obtain ⟨v, hv⟩ := get_of (l := l) (i := e - 1) (by omega)
    have huv := h1 (by omega) (by omega) u v hu hv
    rcases h : lt y x with _ | _
    · exfalso
      have a1 : lt v y = false := by
        by_cases e1 : j = e - 1
        · subst e1; rw [gy] at hv; obtain rfl := Option.some.inj hv; exact w.irr _
        · exact hY j (e - 1) y v j1 (by omega) (by omega) gy hv
      have a2 : lt x u = false := by
        by_cases e1 : i = s
        · subst e1; rw [gx] at hu; obtain rfl := Option.some.inj hu; exact w.irr _
        · exact hX s i u x ham (by omega) i2 hu gx
      have := w.nt _ _ _ (w.nt _ _ _ a1 h) a2
      rw [huv] at this
      cases this
    · rfl
  · intro x hx y hy
    obtain ⟨j, j1, j2, gy⟩ := mem_seg.1 hy
    obtain ⟨i, i1, i2, gx⟩ := mem_seg.1 hx
    obtain ⟨u, hu⟩ := get_of (l := l) (i := s - 1) (by omega)
    obtain ⟨v, hv⟩ := get_of (l := l) (i := e) (by omega)
    have huv := h2 (by omega) (by omega) u v hu hv
    have a1 : lt y v = false := by
      by_cases e1 : j = e
      · subst e1; rw [gy] at hv; obtain rfl := Option.some.inj hv; exact w.irr _
      · exact hY e j v y (by omega) (by omega) j2 hv gy
    have a2 : lt u x = false := by
      by_cases e1 : i = s - 1
      · subst e1; rw [gx] at hu; obtain rfl := Option.some.inj hu; exact w.irr _
      · exact hX i (s - 1) x u i1 (by omega) (by omega) gx hu
    exact w.nt _ _ _ a1 (w.nt _ _ _ huv a2)
/-- the same elements, equals in their order -/
structure Cls (lt : α → α → Bool) (l r : List α) : Prop where
  perm : r.Perm l
  flt : ∀ z, r.filter (eqv lt z) = l.filter (eqv lt z)
theorem Cls.refl {lt : α → α → Bool} (l : List α) : Cls lt l l := ⟨List.Perm.refl _, fun _ => rfl⟩
theorem Cls.len {lt : α → α → Bool} {l r : List α} (h : Cls lt l r) : r.length = l.length := h.perm.length_eq
theorem Cls.put {lt : α → α → Bool} {l0 l R : List α} (h : Cls lt l0 l) {a b : Nat} (hab : a ≤ b) (k : Of lt (seg l a b) R) : Cls lt l0 (St.put l a b R) := by
  have e := put_self (l := l) hab
  refine ⟨?_, fun z => ?_⟩
  · refine List.Perm.trans ?_ h.perm
    conv => rhs; rw [← e]
    unfold St.put
    exact (k.perm.append_left _).append_right _
  · rw [← h.flt z]
    conv => rhs; rw [← e]
    unfold St.put
    simp only [List.filter_append, k.flt z]
/-- two rows that change places, element by element -/
def sw (A U M V B : List α) (i : Nat) : List α := A ++ V.take i ++ (U.drop i ++ M ++ (U.take i ++ (V.drop i ++ B)))
theorem sw_zero (A U M V B : List α) : sw A U M V B 0 = A ++ U ++ M ++ V ++ B := by simp [sw]
theorem sw_all (A U M V B : List α) (h : U.length = V.length) : sw A U M V B U.length = A ++ V ++ M ++ U ++ B := by
  simp only [sw]
  rw [List.drop_of_length_le (Nat.le_refl _), List.take_of_length_le (Nat.le_refl _), List.take_of_length_le (by omega), List.drop_of_length_le (by omega)]
  simp only [List.append_assoc, List.nil_append]
theorem sw_at {A U M V B : List α} {i : Nat} (h : U.length = V.length) (hi : i < U.length) : ∃ x y, U[i]? = some x ∧ V[i]? = some y ∧
    sw A U M V B i = (A ++ V.take i) ++ x :: ((U.drop (i + 1) ++ M ++ U.take i) ++ y :: (V.drop (i + 1) ++ B)) ∧
    sw A U M V B (i + 1) = (A ++ V.take i) ++ y :: ((U.drop (i + 1) ++ M ++ U.take i) ++ x :: (V.drop (i + 1) ++ B)) := by
  have hv : i < V.length := by omega
  refine ⟨U[i], V[i], List.getElem?_eq_getElem hi, List.getElem?_eq_getElem hv, ?_, ?_⟩
  · simp only [sw]
    rw [List.drop_eq_getElem_cons hi, List.drop_eq_getElem_cons hv]
    simp only [List.append_assoc, List.cons_append]
  · simp only [sw]
    rw [List.take_succ_eq_append_getElem hi, List.take_succ_eq_append_getElem hv]
    simp only [List.append_assoc, List.cons_append, List.nil_append]
/-- elements at their places -/
theorem at_fst (A : List α) (x : α) (B : List α) {i : Nat} (h : i = A.length) : (A ++ x :: B)[i]? = some x := by subst h; simp
theorem at_snd (A M : List α) (x y : α) (B : List α) {i : Nat} (h : i = A.length + 1 + M.length) : (A ++ x :: (M ++ y :: B))[i]? = some y := by
  rw [show A ++ x :: (M ++ y :: B) = (A ++ x :: M) ++ y :: B from by simp]
  exact at_fst _ _ _ (by simp; omega)
theorem sw_len (A U M V B : List α) (i : Nat) (h : U.length = V.length) : (sw A U M V B i).length = A.length + U.length + M.length + V.length + B.length := by
  simp [sw]; omega
theorem Of.snoc {lt : α → α → Bool} {P R S : List α} {x : α} (h : Of lt P R) (k : Of lt (R ++ [x]) S) : Of lt (P ++ [x]) S :=
  ⟨k.srt, k.perm.trans (h.perm.append_right _), fun z => by rw [k.flt z, List.filter_append, List.filter_append, h.flt z]⟩
/-- one more, put in from the right, behind the last one that is no less -/
theorem ins_at {lt : α → α → Bool} (w : Wo lt) {P R1 R2 : List α} {x : α} (h : Of lt P (R1 ++ R2)) (h2 : ∀ r ∈ R2, lt x r = true) (h1 : ∀ y, R1.getLast? = some y → lt x y = false) : Of lt (P ++ [x]) (R1 ++ x :: R2) := by
  refine h.snoc (insR w h.srt (fun r hr => ?_) h2)
  rcases List.eq_nil_or_concat R1 with rfl | ⟨R, y, rfl⟩
  · cases hr
  · have hy := h1 y (by simp)
    rw [List.concat_eq_append] at hr
    rcases List.mem_append.1 hr with m | m
    · have hs := (List.pairwise_append.1 h.srt).1
      rw [List.concat_eq_append] at hs
      exact w.nt _ _ _ hy ((List.pairwise_append.1 hs).2.2 r m y (List.mem_singleton.2 rfl))
    · obtain rfl := List.mem_singleton.1 m; exact hy
theorem split_lt {lt : α → α → Bool} (w : Wo lt) {Y : List α} {x : α} {p : Nat} (hs : Srt lt Y) (hp : p ≤ Y.length) (h1 : 0 < p → ∀ y, Y[p - 1]? = some y → lt y x = true) (h2 : ∀ y, Y[p]? = some y → lt y x = false) : (∀ y ∈ Y.take p, lt y x = true) ∧ ∀ y ∈ Y.drop p, lt y x = false := by
  have hg := fun i j hi hj hij => List.pairwise_iff_getElem.1 hs i j hi hj hij
  constructor
  · intro y hy
    obtain ⟨i, hi, e⟩ := List.mem_iff_getElem.1 hy
    simp only [List.length_take] at hi
    rw [List.getElem_take] at e
    have hv := h1 (by omega) Y[p - 1] (List.getElem?_eq_getElem (by omega))
    rcases h : lt y x with _ | _
    · exfalso
      have : lt Y[p - 1] y = false := by
        by_cases c : i = p - 1
        · subst e; simp only [c]; exact w.irr _
        · subst e; exact hg i (p - 1) (by omega) (by omega) (by omega)
      rw [w.nt _ _ _ this h] at hv
      cases hv
    · rfl
  · intro y hy
    obtain ⟨i, hi, e⟩ := List.mem_iff_getElem.1 hy
    simp only [List.length_drop] at hi
    rw [List.getElem_drop] at e
    have hv := h2 Y[p] (List.getElem?_eq_getElem (by omega))
    have : lt y Y[p] = false := by
      by_cases c : i = 0
      · subst e; simp only [c, Nat.add_zero]; exact w.irr _
      · subst e; exact hg p (p + i) (by omega) (by omega) (by omega)
    exact w.nt _ _ _ this hv
theorem split_ge {lt : α → α → Bool} (w : Wo lt) {X : List α} {y : α} {p : Nat} (hs : Srt lt X) (hp : p ≤ X.length) (h1 : 0 < p → ∀ x, X[p - 1]? = some x → lt y x = false) (h2 : ∀ x, X[p]? = some x → lt y x = true) : (∀ x ∈ X.take p, lt y x = false) ∧ ∀ x ∈ X.drop p, lt y x = true := by
  have hg := fun i j hi hj hij => List.pairwise_iff_getElem.1 hs i j hi hj hij
  constructor
  · intro x hx
    obtain ⟨i, hi, e⟩ := List.mem_iff_getElem.1 hx
    simp only [List.length_take] at hi
    rw [List.getElem_take] at e
    have hv := h1 (by omega) X[p - 1] (List.getElem?_eq_getElem (by omega))
    have : lt X[p - 1] x = false := by
      by_cases c : i = p - 1
      · subst e; simp only [c]; exact w.irr _
      · subst e; exact hg i (p - 1) (by omega) (by omega) (by omega)
    exact w.nt _ _ _ hv this
  · intro x hx
    obtain ⟨i, hi, e⟩ := List.mem_iff_getElem.1 hx
    simp only [List.length_drop] at hi
    rw [List.getElem_drop] at e
    have hv := h2 X[p] (List.getElem?_eq_getElem (by omega))
    rcases h : lt y x with _ | _
    · exfalso
      have : lt x X[p] = false := by
        by_cases c : i = 0
        · subst e; simp only [c, Nat.add_zero]; exact w.irr _
        · subst e; exact hg p (p + i) (by omega) (by omega) (by omega)
      rw [w.nt _ _ _ h this] at hv
      cases hv
    · rfl
theorem sym_split' {lt : α → α → Bool} (w : Wo lt) {X Y : List α} {u v : Nat} (hu : u ≤ X.length) (hv : v ≤ Y.length) (hX : Srt lt X) (hY : Srt lt Y)
    (h1 : u < X.length → 0 < v → ∀ x y, X[u]? = some x → Y[v - 1]? = some y → lt y x = true) (h2 : 0 < u → v < Y.length → ∀ x y, X[u - 1]? = some x → Y[v]? = some y → lt y x = false) :
    (∀ y ∈ Y.take v, ∀ x ∈ X.drop u, lt y x = true) ∧ ∀ x ∈ X.take u, ∀ y ∈ Y.drop v, lt y x = false := by
  have gX := fun i j hi hj hij => List.pairwise_iff_getElem.1 hX i j hi hj hij
  have gY := fun i j hi hj hij => List.pairwise_iff_getElem.1 hY i j hi hj hij
  constructor
  · intro y hy x hx
    obtain ⟨j, hj, ey⟩ := List.mem_iff_getElem.1 hy
    obtain ⟨i, hi, ex⟩ := List.mem_iff_getElem.1 hx
    simp only [List.length_take] at hj
    simp only [List.length_drop] at hi
    rw [List.getElem_take] at ey
    rw [List.getElem_drop] at ex
    have huv := h1 (by omega) (by omega) X[u] Y[v - 1] (List.getElem?_eq_getElem (by omega)) (List.getElem?_eq_getElem (by omega))
    rcases h : lt y x with _ | _
    · exfalso
      have a1 : lt Y[v - 1] y = false := by
        by_cases c : j = v - 1
        · subst ey; simp only [c]; exact w.irr _
        · subst ey; exact gY j (v - 1) (by omega) (by omega) (by omega)
      have a2 : lt x X[u] = false := by
        by_cases c : i = 0
        · subst ex; simp only [c, Nat.add_zero]; exact w.irr _
        · subst ex; exact gX u (u + i) (by omega) (by omega) (by omega)
      rw [w.nt _ _ _ (w.nt _ _ _ a1 h) a2] at huv
      cases huv
    · rfl
  · intro x hx y hy
    obtain ⟨j, hj, ey⟩ := List.mem_iff_getElem.1 hy
    obtain ⟨i, hi, ex⟩ := List.mem_iff_getElem.1 hx
    simp only [List.length_drop] at hj
    simp only [List.length_take] at hi
    rw [List.getElem_drop] at ey
    rw [List.getElem_take] at ex
    have huv := h2 (by omega) (by omega) X[u - 1] Y[v] (List.getElem?_eq_getElem (by omega)) (List.getElem?_eq_getElem (by omega))
    have a1 : lt y Y[v] = false := by
      by_cases c : j = 0
      · subst ey; simp only [c, Nat.add_zero]; exact w.irr _
      · subst ey; exact gY v (v + j) (by omega) (by omega) (by omega)
    have a2 : lt X[u - 1] x = false := by
      by_cases c : i = u - 1
      · subst ex; simp only [c]; exact w.irr _
      · subst ex; exact gX i (u - 1) (by omega) (by omega) (by omega)
    exact w.nt _ _ _ a1 (w.nt _ _ _ huv a2)
theorem at_X (A X Y B : List α) {i : Nat} (h : i < X.length) : (A ++ X ++ Y ++ B)[A.length + i]? = X[i]? := by
  rw [List.append_assoc, List.append_assoc, List.getElem?_append_right (by omega), Nat.add_sub_cancel_left, List.getElem?_append_left h]
theorem at_Y (A X Y B : List α) {i : Nat} (h : i < Y.length) : (A ++ X ++ Y ++ B)[A.length + X.length + i]? = Y[i]? := by
  rw [List.append_assoc, List.getElem?_append_right (by simp), List.length_append, Nat.add_sub_cancel_left, List.getElem?_append_left h]
theorem seg_sat {l : List α} {a b b' : Nat} (h : l.length ≤ b) (h' : l.length ≤ b') : seg l a b = seg l a b' := by
  unfold seg; rw [List.take_of_length_le h, List.take_of_length_le h']
theorem take_len {l : List α} {a : Nat} (h : a ≤ l.length) : (l.take a).length = a := by simp; omega
theorem put_eq {l : List α} {a b : Nat} (h : a ≤ b) : l.take a ++ seg l a b ++ l.drop b = l := put_self h
theorem put_eq3 {l : List α} {a m b : Nat} (h : a ≤ m) (h' : m ≤ b) : l.take a ++ seg l a m ++ seg l m b ++ l.drop b = l := by
  rw [List.append_assoc (l.take a), ← seg_app h h', put_eq (Nat.le_trans h h')]
theorem seg_srt_nil {lt : α → α → Bool} {l : List α} {a b : Nat} (h : l.length ≤ a) : Srt lt (seg l a b) := by
  have : seg l a b = [] := List.eq_nil_of_length_eq_zero (by simp [seg]; omega)
  rw [this]; exact List.Pairwise.nil
/-- each block of so many is sorted -/
def Blks (lt : α → α → Bool) (bs : Nat) (l : List α) : Prop := ∀ j, Srt lt (seg l (bs * j) (bs * (j + 1)))
theorem Blks.all {lt : α → α → Bool} {bs : Nat} {l : List α} (h : Blks lt bs l) (hb : l.length ≤ bs) : Srt lt l := by
  have := h 0
  rw [Nat.mul_zero, Nat.zero_add, Nat.mul_one] at this
  unfold seg at this
  rwa [List.take_of_length_le hb, List.drop_zero] at this
theorem Cls.of {lt : α → α → Bool} {l r : List α} (h : Cls lt l r) (hs : Srt lt r) : Of lt l r := ⟨hs, h.perm, h.flt⟩
/-- one block more is sorted -/
theorem blks_put {lt : α → α → Bool} {bs k : Nat} {l R : List α} (hk : ∀ j, j < k → Srt lt (seg l (bs * j) (bs * (j + 1)))) {a b : Nat} (ha : a = bs * k) (hab : a ≤ b) (hb : b ≤ l.length) (hb2 : b = bs * (k + 1) ∨ (b = l.length ∧ b ≤ bs * (k + 1))) (hR : Of lt (seg l a b) R) :
    (∀ j, j < k + 1 → Srt lt (seg (put l a b R) (bs * j) (bs * (j + 1)))) ∧ ∀ c d, b ≤ c → seg (put l a b R) c d = seg l c d := by
  have hl : R.length = b - a := by rw [hR.len, seg_len hb]
  refine ⟨fun j hj => ?_, fun c d h => seg_put_out hab hb hl (.inr h)⟩
  by_cases e : j = k
  · subst e
    have : seg (put l a b R) (bs * j) (bs * (j + 1)) = R := by
      rw [← ha]
      rcases hb2 with rfl | ⟨e1, e2⟩
      · exact seg_put hab hb hl
      · rw [seg_sat (b' := b) (by rw [put_len hab hb hl]; omega) (by rw [put_len hab hb hl]; omega)]
        exact seg_put hab hb hl
    rw [this]; exact hR.srt
  · have hjk : j < k := by omega
    rw [seg_put_out hab hb hl (.inl (by rw [ha]; exact Nat.mul_le_mul_left _ (by omega)))]
    exact hk j hjk
end St
