/- slices.SortStableFunc at cells: the symmetric merge, whole. -/
import Derived.Test.YtamnfdmmjjekhaaVrSym
namespace Go.Proofs.Ytamnfdmmjjekhaa
open Go Go.RowKit Go.SF
set_option linter.unusedSimpArgs false
set_option linter.unusedVariables false
/-- it merges fewer than so many -/
def SymOk (N : Nat) : Prop := ∀ (A X Y B : List Vr.Ce), X.length + Y.length < N → X ≠ [] → Y ≠ [] → St.Srt Vr.lt X → St.Srt Vr.lt Y → A.length + X.length + Y.length + B.length ≤ 1000000 → ∀ (ad : Option Addr) (n c : Nat) (W : Wd), Own W.w ad n c (A ++ X ++ Y ++ B) → Free W ad n c →
  ∀ i j k : Int, i = (A.length : Nat) → j = (A.length + X.length : Nat) → k = (A.length + X.length + Y.length : Nat) →
  Turns 55 #[.slice ad n c, .int .i64 i, .int .i64 j, .int .i64 k, .func (.func 29) #[] #[]] W ad n c fun xs => ∃ R, St.Of Vr.lt (X ++ Y) R ∧ xs = A ++ R ++ B
def T3 (K : Nat) : Tree := (.br (.bin .band (.bin .lt (.un (.wrap .i64) (.bin .quo (.un (.wrap .u64) (.bin .add (.iv 0) (.iv 2))) (.il 2))) (.bin .sub (.bin .add (.un (.wrap .i64) (.bin .quo (.un (.wrap .u64) (.bin .add (.iv 0) (.iv 2))) (.il 2))) (.iv 1)) (.iv 3))) (.bin .lt (.bin .sub (.bin .add (.un (.wrap .i64) (.bin .quo (.un (.wrap .u64) (.bin .add (.iv 0) (.iv 2))) (.il 2))) (.iv 1)) (.iv 3)) (.iv 2))) (.callr 55 [(.slc 0 (.nv 0) (.nv 1)), (.int .i64 (.un (.wrap .i64) (.bin .quo (.un (.wrap .u64) (.bin .add (.iv 0) (.iv 2))) (.il 2)))), (.int .i64 (.bin .sub (.bin .add (.un (.wrap .i64) (.bin .quo (.un (.wrap .u64) (.bin .add (.iv 0) (.iv 2))) (.il 2))) (.iv 1)) (.iv 3))), (.int .i64 (.iv 2)), (.fn 29 [])] [] [⟨(.slc 0 (.nv 0) (.nv 1)), (.nv 0), 39, 5, [(.l K)]⟩] [⟨(.slc 0 (.nv 0) (.nv 1)), (.nv 0), 39, 5, [(.l K)]⟩] (.tup []) [⟨(.slc 0 (.nv 0) (.nv 1)), (.nv 0), 39, 5, [(.l (K + 1))]⟩] ⟨0, 0, 0, 0, 0, 0, 0, 1⟩ (.ret (.tup []) [] [] [⟨(.slc 0 (.nv 0) (.nv 1)), (.nv 0), 39, 5, [(.l (K + 1))]⟩])) (.ret (.tup []) [] [] [⟨(.slc 0 (.nv 0) (.nv 1)), (.nv 0), 39, 5, [(.l K)]⟩]))
theorem ne_len {l : List Vr.Ce} (h : l ≠ []) : 0 < l.length := List.length_pos_iff.2 h
theorem len_ne {l : List Vr.Ce} (h : 0 < l.length) : l ≠ [] := List.length_pos_iff.1 h
theorem own_ret {ad : Option Addr} {n c : Nat} {xs : List Vr.Ce} {w : World} {ρ : Env} {K n0 : Nat} (hA : gd ρ.A 0 none = ad) (hN : gd ρ.N 0 0 = n) (hC : gd ρ.N 1 0 = c) (hL : gd ρ.L K [] = xs.flatMap Vr.Ce.enc) (hr : RowsAt 0 ρ [⟨(.slc 0 (.nv 0) (.nv 1)), (.nv 0), 39, 5, [(.l K)]⟩] w) : Own w ad n c xs := by
  have h1 := (hr _ (List.mem_cons_self ..)).1
  simp only [conts, Seg.den, List.flatMap_cons, List.flatMap_nil, List.append_nil, Sy.den, E.i, Int.toNat_natCast, hA, hN, hC, hL] at h1
  exact h1
theorem gd_push {α : Type} (l : List α) (x y : α) {K : Nat} (h : l.length = K) : gd (l ++ [x]) K y = x := by subst h; exact gd_last _ _ _
/-- the right halves -/
theorem sym_3 {N : Nat} (ih : SymOk N) (A X1 X2 Y1 Y2 B R1 : List Vr.Ce) (hN : X1.length + X2.length + (Y1.length + Y2.length) ≤ N) (hX : St.Srt Vr.lt (X1 ++ X2)) (hY : St.Srt Vr.lt (Y1 ++ Y2)) (d1 : ∀ y ∈ Y1, ∀ x ∈ X2, Vr.lt y x = true) (d2 : ∀ x ∈ X1, ∀ y ∈ Y2, Vr.lt y x = false) (h1 : St.Of Vr.lt (X1 ++ Y1) R1)
    (hlen : A.length + (X1.length + X2.length) + (Y1.length + Y2.length) + B.length ≤ 1000000) (ad : Option Addr) (n c a m b s mid : Nat) (ha : a = A.length) (hm : m = a + (X1.length + X2.length)) (hb : b = m + (Y1.length + Y2.length)) (hs : s = a + X1.length) (hmid : mid = (a + b) / 2) (hy1 : mid = s + Y1.length) (hpos : 0 < X1.length + Y1.length)
    (K : Nat) (Ls : List (List Value)) (hL : Ls.length = K + 1) (hK : gd Ls K [] = (A ++ R1 ++ X2 ++ Y2 ++ B).flatMap Vr.Ce.enc) (W : Wd) (r : Int) :
    (T3 K).den Try.prog 0 (Mer ad n c A (X1 ++ X2) (Y1 ++ Y2) B) [] { I := [(a : Int), (m : Int), (b : Int), (s : Int), r], N := [n, c], A := [ad], L := Ls } W := by
  have hh := half (x := a) (y := b) (by omega)
  rw [← hmid] at hh
  have fin : ∀ R2, St.Of Vr.lt (X2 ++ Y2) R2 → ∃ R, St.Of Vr.lt (X1 ++ X2 ++ (Y1 ++ Y2)) R ∧ A ++ (R1 ++ R2) ++ B = A ++ R ++ B := fun R2 h2 => ⟨R1 ++ R2, St.merge_of Vr.wo hX hY d1 d2 h1 h2, rfl⟩
  refine den_br (fun c1 => ?_) fun c1 => ?_
  · simp only [Sy.dens, Sy.den, E.i, E.b, E.t, gd, Env.push, List.cons_append, List.nil_append, List.append_nil, Int.toNat_natCast, hh, Bool.and_eq_true, ltB_true] at c1
    refine den_row (xs := A ++ R1 ++ X2 ++ Y2 ++ B) (a := ad) (n := n) (c := c) (fun xs => ∃ R, St.Of Vr.lt (X2 ++ Y2) R ∧ xs = A ++ R1 ++ R ++ B) (Nat.zero_le _) rfl rfl rfl hK hL (Nat.le_of_ble_eq_true rfl) (Nat.le_of_ble_eq_true rfl) (Nat.le_of_ble_eq_true rfl) (fun W2 _ ho2 hf2 => ?_) fun xs' W2 hx2 x2 => ?_
    · have hr1 : R1.length = X1.length + Y1.length := by rw [h1.len, List.length_append]
      have := ih (A ++ R1) X2 Y2 B (by omega) (len_ne (by omega)) (len_ne (by omega)) (List.pairwise_append.1 hX).2.1 (List.pairwise_append.1 hY).2.1 (by rw [List.length_append]; omega) ad n c W2 ho2 hf2 (mid : Nat) ((mid : Nat) + (m : Nat) - (s : Nat)) (b : Nat) (by rw [List.length_append]; omega) (by rw [List.length_append]; omega) (by rw [List.length_append]; omega)
      simp only [Sy.dens, Sy.den, E.i, E.b, E.t, gd, Env.push, List.cons_append, List.nil_append, List.append_nil, Int.toNat_natCast, hh]
      exact this
    · obtain ⟨R, hR, rfl⟩ := hx2
      obtain ⟨Q, hQ, e⟩ := fin R hR
      refine den_ret fun _ _ hr => ⟨rfl, _, ⟨Q, hQ, rfl⟩, ?_⟩
      rw [← e]
      refine own_ret (n0 := 0) (K := K + 1) rfl rfl rfl ?_ hr
      simp only [Env.push]
      rw [gd_push _ _ _ hL, List.append_assoc A R1 R]
  · simp only [Sy.dens, Sy.den, E.i, E.b, E.t, gd, Env.push, List.cons_append, List.nil_append, List.append_nil, Int.toNat_natCast, hh, Bool.and_eq_false_iff, ltB_false] at c1
    have h0 : X2 = [] ∨ Y2 = [] := by
      rcases c1 with c1 | c1
      · left; exact List.eq_nil_of_length_eq_zero (by omega)
      · right; exact List.eq_nil_of_length_eq_zero (by omega)
    have h2 : St.Of Vr.lt (X2 ++ Y2) (X2 ++ Y2) := by
      refine St.Of.refl ?_
      rcases h0 with rfl | rfl
      · rw [List.nil_append]; exact (List.pairwise_append.1 hY).2.1
      · rw [List.append_nil]; exact (List.pairwise_append.1 hX).2.1
    obtain ⟨Q, hQ, e⟩ := fin _ h2
    refine den_ret fun _ _ hr => ⟨rfl, _, ⟨Q, hQ, rfl⟩, ?_⟩
    rw [← e]
    refine own_ret (n0 := 0) (K := K) rfl rfl rfl ?_ hr
    show gd Ls K [] = _
    rw [hK]; simp only [List.append_assoc]
def T2 (K : Nat) : Tree := (.br (.bin .band (.bin .lt (.iv 0) (.iv 3)) (.bin .lt (.iv 3) (.un (.wrap .i64) (.bin .quo (.un (.wrap .u64) (.bin .add (.iv 0) (.iv 2))) (.il 2))))) (.callr 55 [(.slc 0 (.nv 0) (.nv 1)), (.int .i64 (.iv 0)), (.int .i64 (.iv 3)), (.int .i64 (.un (.wrap .i64) (.bin .quo (.un (.wrap .u64) (.bin .add (.iv 0) (.iv 2))) (.il 2)))), (.fn 29 [])] [] [⟨(.slc 0 (.nv 0) (.nv 1)), (.nv 0), 39, 5, [(.l K)]⟩] [⟨(.slc 0 (.nv 0) (.nv 1)), (.nv 0), 39, 5, [(.l K)]⟩] (.tup []) [⟨(.slc 0 (.nv 0) (.nv 1)), (.nv 0), 39, 5, [(.l (K + 1))]⟩] ⟨0, 0, 0, 0, 0, 0, 0, 1⟩ (T3 (K + 1))) (T3 K))
/-- the left halves -/
theorem sym_2 {N : Nat} (ih : SymOk N) (A X1 X2 Y1 Y2 B : List Vr.Ce) (hN : X1.length + X2.length + (Y1.length + Y2.length) ≤ N) (hX : St.Srt Vr.lt (X1 ++ X2)) (hY : St.Srt Vr.lt (Y1 ++ Y2)) (d1 : ∀ y ∈ Y1, ∀ x ∈ X2, Vr.lt y x = true) (d2 : ∀ x ∈ X1, ∀ y ∈ Y2, Vr.lt y x = false)
    (hlen : A.length + (X1.length + X2.length) + (Y1.length + Y2.length) + B.length ≤ 1000000) (ad : Option Addr) (n c a m b s mid : Nat) (ha : a = A.length) (hm : m = a + (X1.length + X2.length)) (hb : b = m + (Y1.length + Y2.length)) (hs : s = a + X1.length) (hmid : mid = (a + b) / 2) (hy1 : mid = s + Y1.length) (hpos : 0 < X1.length + Y1.length) (hpos2 : 0 < X2.length + Y2.length)
    (K : Nat) (Ls : List (List Value)) (hL : Ls.length = K + 1) (hK : gd Ls K [] = (A ++ X1 ++ Y1 ++ X2 ++ Y2 ++ B).flatMap Vr.Ce.enc) (W : Wd) (r : Int) :
    (T2 K).den Try.prog 0 (Mer ad n c A (X1 ++ X2) (Y1 ++ Y2) B) [] { I := [(a : Int), (m : Int), (b : Int), (s : Int), r], N := [n, c], A := [ad], L := Ls } W := by
  have hh := half (x := a) (y := b) (by omega)
  rw [← hmid] at hh
  refine den_br (fun c1 => ?_) fun c1 => ?_
  · simp only [Sy.dens, Sy.den, E.i, E.b, E.t, gd, Env.push, List.cons_append, List.nil_append, List.append_nil, Int.toNat_natCast, hh, Bool.and_eq_true, ltB_true] at c1
    refine den_row (xs := A ++ X1 ++ Y1 ++ X2 ++ Y2 ++ B) (a := ad) (n := n) (c := c) (fun xs => ∃ R, St.Of Vr.lt (X1 ++ Y1) R ∧ xs = A ++ R ++ (X2 ++ Y2 ++ B)) (Nat.zero_le _) rfl rfl rfl hK hL (Nat.le_of_ble_eq_true rfl) (Nat.le_of_ble_eq_true rfl) (Nat.le_of_ble_eq_true rfl) (fun W2 _ ho2 hf2 => ?_) fun xs' W2 hx2 x2 => ?_
    · have := ih A X1 Y1 (X2 ++ Y2 ++ B) (by omega) (len_ne (by omega)) (len_ne (by omega)) (List.pairwise_append.1 hX).1 (List.pairwise_append.1 hY).1 (by simp only [List.length_append]; omega) ad n c W2 (by simp only [List.append_assoc] at ho2 ⊢; exact ho2) hf2 (a : Nat) (s : Nat) (mid : Nat) (by omega) (by omega) (by omega)
      simp only [Sy.dens, Sy.den, E.i, E.b, E.t, gd, Env.push, List.cons_append, List.nil_append, List.append_nil, Int.toNat_natCast, hh]
      exact this
    · obtain ⟨R, hR, rfl⟩ := hx2
      simp only [Env.push, List.cons_append, List.nil_append, List.append_nil]
      exact sym_3 ih A X1 X2 Y1 Y2 B R hN hX hY d1 d2 hR hlen ad n c a m b s mid ha hm hb hs hmid hy1 hpos (K + 1) _ (by simp; omega) (by rw [gd_push _ _ _ hL]; simp only [List.append_assoc]) W2 r
  · simp only [Sy.dens, Sy.den, E.i, E.b, E.t, gd, Env.push, List.cons_append, List.nil_append, List.append_nil, Int.toNat_natCast, hh, Bool.and_eq_false_iff, ltB_false] at c1
    have h0 : X1 = [] ∨ Y1 = [] := by
      rcases c1 with c1 | c1
      · left; exact List.eq_nil_of_length_eq_zero (by omega)
      · right; exact List.eq_nil_of_length_eq_zero (by omega)
    have h1 : St.Of Vr.lt (X1 ++ Y1) (X1 ++ Y1) := by
      refine St.Of.refl ?_
      rcases h0 with rfl | rfl
      · rw [List.nil_append]; exact (List.pairwise_append.1 hY).1
      · rw [List.append_nil]; exact (List.pairwise_append.1 hX).1
    exact sym_3 ih A X1 X2 Y1 Y2 B (X1 ++ Y1) hN hX hY d1 d2 h1 hlen ad n c a m b s mid ha hm hb hs hmid hy1 hpos K Ls hL (by rw [hK]; simp only [List.append_assoc]) W r
/-- behind the search -/
theorem sym_1 {N : Nat} (ih : SymOk N) (A X Y B : List Vr.Ce) (u v : Nat) (hu : u ≤ X.length) (hv : v ≤ Y.length) (hN : X.length + Y.length ≤ N) (hX : St.Srt Vr.lt X) (hY : St.Srt Vr.lt Y) (d1 : ∀ y ∈ Y.take v, ∀ x ∈ X.drop u, Vr.lt y x = true) (d2 : ∀ x ∈ X.take u, ∀ y ∈ Y.drop v, Vr.lt y x = false)
    (hlen : A.length + X.length + Y.length + B.length ≤ 1000000) (ad : Option Addr) (n c a m b s mid : Nat) (ha : a = A.length) (hm : m = a + X.length) (hb : b = m + Y.length) (hs : s = a + u) (hmid : mid = (a + b) / 2) (hy1 : mid = s + v) (hxy : 2 ≤ X.length + Y.length)
    (W : Wd) (r : Int) : t_sym_29.den Try.prog 0 (Mer ad n c A X Y B) [] { I := [(a : Int), (m : Int), (b : Int), (s : Int), r], N := [n, c], A := [ad], L := [(A ++ X ++ Y ++ B).flatMap Vr.Ce.enc] } W := by
  have hh := half (x := a) (y := b) (by omega)
  rw [← hmid] at hh
  have lX : (X.take u).length + (X.drop u).length = X.length := by simp; omega
  have lY : (Y.take v).length + (Y.drop v).length = Y.length := by simp; omega
  have lu : (X.take u).length = u := by simp; omega
  have lv : (Y.take v).length = v := by simp; omega
  have eX : X.take u ++ X.drop u = X := List.take_append_drop _ _
  have eY : Y.take v ++ Y.drop v = Y := List.take_append_drop _ _
  have hEq : Mer ad n c A X Y B = Mer ad n c A (X.take u ++ X.drop u) (Y.take v ++ Y.drop v) B := by rw [eX, eY]
  rw [hEq]
  refine den_chk (chk_le ?_) (den_chk (chk_le ?_) (den_br (fun c1 => ?_) fun c1 => ?_))
  · simp only [Sy.dens, Sy.den, E.i, E.b, E.t, gd, Env.push, List.cons_append, List.nil_append, List.append_nil, Int.toNat_natCast, hh]; omega
  · simp only [Sy.dens, Sy.den, E.i, E.b, E.t, gd, Env.push, List.cons_append, List.nil_append, List.append_nil, Int.toNat_natCast, hh]; omega
  · simp only [Sy.dens, Sy.den, E.i, E.b, E.t, gd, Env.push, List.cons_append, List.nil_append, List.append_nil, Int.toNat_natCast, hh, Bool.and_eq_true, ltB_true] at c1
    refine den_row (xs := A ++ X ++ Y ++ B) (a := ad) (n := n) (c := c) (fun xs => xs = A ++ X.take u ++ Y.take v ++ X.drop u ++ (Y.drop v ++ B)) (Nat.zero_le _) rfl rfl rfl rfl rfl (Nat.le_of_ble_eq_true rfl) (Nat.le_of_ble_eq_true rfl) (Nat.le_of_ble_eq_true rfl) (fun W2 _ ho2 hf2 => ?_) fun xs' W2 hx2 x2 => ?_
    · have := rot_t (A ++ X.take u) (X.drop u) (Y.take v) (Y.drop v ++ B) (len_ne (by omega)) (len_ne (by omega)) (by simp only [List.length_append]; omega) ad n c W2 (by
          have e : A ++ X.take u ++ X.drop u ++ Y.take v ++ (Y.drop v ++ B) = A ++ X ++ Y ++ B := by
            rw [List.append_assoc A, eX, List.append_assoc (A ++ X), ← List.append_assoc (Y.take v), eY, ← List.append_assoc]
          rw [e]; exact ho2) hf2 (s : Nat) (m : Nat) ((mid : Nat) + (m : Nat) - (s : Nat)) (by rw [List.length_append]; omega) (by rw [List.length_append]; omega) (by rw [List.length_append]; omega)
      simp only [Sy.dens, Sy.den, E.i, E.b, E.t, gd, Env.push, List.cons_append, List.nil_append, List.append_nil, Int.toNat_natCast, hh]
      exact this
    · subst hx2
      simp only [Env.push, List.cons_append, List.nil_append, List.append_nil]
      exact sym_2 ih A (X.take u) (X.drop u) (Y.take v) (Y.drop v) B (by omega) (by rw [eX]; exact hX) (by rw [eY]; exact hY) d1 d2 (by omega) ad n c a m b s mid ha (by omega) (by omega) (by omega) hmid (by omega) (by omega) (by omega) 1 _ rfl (by simp only [gd]; simp only [List.append_assoc]) W2 r
  · simp only [Sy.dens, Sy.den, E.i, E.b, E.t, gd, Env.push, List.cons_append, List.nil_append, List.append_nil, Int.toNat_natCast, hh, Bool.and_eq_false_iff, ltB_false] at c1
    refine sym_2 ih A (X.take u) (X.drop u) (Y.take v) (Y.drop v) B (by omega) (by rw [eX]; exact hX) (by rw [eY]; exact hY) d1 d2 (by omega) ad n c a m b s mid ha (by omega) (by omega) (by omega) hmid (by omega) (by omega) (by omega) 0 _ rfl ?_ W r
    have h0 : X.drop u = [] ∨ Y.take v = [] := by
      rcases c1 with c1 | c1
      · left; exact List.eq_nil_of_length_eq_zero (by omega)
      · right; exact List.eq_nil_of_length_eq_zero (by omega)
    have e : A ++ X.take u ++ Y.take v ++ X.drop u ++ Y.drop v ++ B = A ++ X ++ Y ++ B := by
      have e2 : X.take u ++ (X.drop u ++ (Y.take v ++ (Y.drop v ++ B))) = X ++ (Y ++ B) := by rw [← List.append_assoc, eX, ← List.append_assoc (Y.take v), eY]
      rcases h0 with h0 | h0
      · rw [h0] at e2 ⊢
        simp only [List.append_assoc, List.nil_append] at e2 ⊢
        rw [e2]
      · rw [h0] at e2 ⊢
        simp only [List.append_assoc, List.nil_append] at e2 ⊢
        rw [e2]
    rw [e]; rfl
end Go.Proofs.Ytamnfdmmjjekhaa
