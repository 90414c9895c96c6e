/- slices.SortStableFunc at cells: the symmetric merge's search, and all of it. -/
import Derived.Test.YtamnfdmmjjekhaaVrSym2
namespace Go.Proofs.Ytamnfdmmjjekhaa
open Go Go.RowKit Go.SF
set_option linter.unusedSimpArgs false
set_option linter.unusedVariables false
theorem sym_0 {N : Nat} (ih : SymOk N) (A X Y B : List Vr.Ce) (hN : X.length + Y.length ≤ N) (hX : St.Srt Vr.lt X) (hY : St.Srt Vr.lt Y) (hx1 : 0 < X.length) (hy1 : 0 < Y.length)
    (hlen : A.length + X.length + Y.length + B.length ≤ 1000000) (ad : Option Addr) (n c a m b mid st0 r0 : Nat) (ha : a = A.length) (hm : m = a + X.length) (hb : b = m + Y.length) (hmid : mid = (a + b) / 2) (hcase : (mid < m ∧ st0 + b = mid + m ∧ r0 = mid) ∨ (m ≤ mid ∧ st0 = a ∧ r0 = m))
    (W : Wd) (ho : Own W.w ad n c (A ++ X ++ Y ++ B)) (e1 e2 : E) (he1 : e1.i { I := [(a : Int), (m : Int), (b : Int)], N := [n, c], A := [ad], L := [(A ++ X ++ Y ++ B).flatMap Vr.Ce.enc] } = (st0 : Nat)) (he2 : e2.i { I := [(a : Int), (m : Int), (b : Int)], N := [n, c], A := [ad], L := [(A ++ X ++ Y ++ B).flatMap Vr.Ce.enc] } = (r0 : Nat)) :
    (Tree.loop [.int .i64 e1, .int .i64 e2] [] [(.int .i64 (.iv 3)), (.int .i64 (.iv 4))] [] ⟨2, 0, 0, 0, 0, 0, 0, 0⟩ (.br (.bin .lt (.iv 3) (.iv 4)) t_sym_17 t_sym_29)).den Try.prog 0 (Mer ad n c A X Y B) [] { I := [(a : Int), (m : Int), (b : Int)], N := [n, c], A := [ad], L := [(A ++ X ++ Y ++ B).flatMap Vr.Ce.enc] } W := by
  have hh := half (x := a) (y := b) (by omega)
  rw [← hmid] at hh
  have hn : n = b + B.length := by have := ho.len; simp at this; omega
  have le0 : st0 ≤ r0 := by omega
  refine den_loop (fun g vs ls _ => ∃ p q : Nat, vs = [.int .i64 (p : Int), .int .i64 (q : Int)] ∧ ls = [] ∧ st0 ≤ p ∧ p ≤ q ∧ q ≤ r0 ∧ (st0 < p → ∀ x y, (A ++ X ++ Y ++ B)[p - 1]? = some x → (A ++ X ++ Y ++ B)[mid + m - p]? = some y → Vr.lt y x = false) ∧ (q < r0 → ∀ x y, (A ++ X ++ Y ++ B)[q]? = some x → (A ++ X ++ Y ++ B)[mid + m - 1 - q]? = some y → Vr.lt y x = true) ∧ g = q - p) (r0 - st0) ⟨st0, r0, ?_, rfl, Nat.le_refl _, le0, Nat.le_refl _, fun h => absurd h (by omega), fun h => absurd h (by omega), rfl⟩ ?_
  · simp only [Sy.dens, Sy.den, he1, he2]
  rintro g vs ls W1 x1 ⟨p, q, rfl, rfl, hp, hpq, hq, h1, h2, rfl⟩
  refine ⟨(p : Int), (q : Int), rfl, rfl, fun _ => ?_⟩
  simp only [Env.push, List.cons_append, List.nil_append, List.append_nil]
  refine den_br (fun c1 => ?_) fun c1 => ?_
  · simp only [Sy.dens, Sy.den, E.i, E.b, E.t, gd, Env.push, List.cons_append, List.nil_append, List.append_nil, Int.toNat_natCast, ltB_true] at c1
    have hh2 := half (x := p) (y := q) (by omega)
    obtain ⟨r, hr1, hr2, hr⟩ : ∃ r, p ≤ r ∧ r < q ∧ (p + q) / 2 = r := ⟨(p + q) / 2, by omega, by omega, rfl⟩
    rw [hr] at hh2
    have hrm : a ≤ r ∧ r < m := by omega
    have hpr : m ≤ mid + m - 1 - r ∧ mid + m - 1 - r < b := by omega
    have hall : (A ++ X ++ Y ++ B).length = n := by simp; omega
    obtain ⟨x, hx⟩ := St.get_of (l := A ++ X ++ Y ++ B) (i := r) (by omega)
    obtain ⟨y, hy⟩ := St.get_of (l := A ++ X ++ Y ++ B) (i := mid + m - 1 - r) (by omega)
    refine den_chk (chk_le ?_) (den_chk (chk_le ?_) (den_chk (chk_le ?_) (den_chk (chk_le ?_) (den_chk (chk_le ?_) (den_chk ?_ (den_chk (chk_le ?_) (den_chk (chk_lt ?_) (den_rlook_row y (xs := A ++ X ++ Y ++ B) (j := mid + m - 1 - r) rfl ?_ hy rfl ?_))))))))
    · simp only [Sy.dens, Sy.den, E.i, E.b, E.t, gd, Env.push, List.cons_append, List.nil_append, List.append_nil, Int.toNat_natCast]; omega
    · simp only [Sy.dens, Sy.den, E.i, E.b, E.t, gd, Env.push, List.cons_append, List.nil_append, List.append_nil, Int.toNat_natCast]; omega
    · simp only [Sy.dens, Sy.den, E.i, E.b, E.t, gd, Env.push, List.cons_append, List.nil_append, List.append_nil, Int.toNat_natCast]; rw [wu_of (by omega) (by omega)]; omega
    · simp only [Sy.dens, Sy.den, E.i, E.b, E.t, gd, Env.push, List.cons_append, List.nil_append, List.append_nil, Int.toNat_natCast, hh, hh2]; omega
    · simp only [Sy.dens, Sy.den, E.i, E.b, E.t, gd, Env.push, List.cons_append, List.nil_append, List.append_nil, Int.toNat_natCast, hh, hh2]; omega
    · simp only [E.b, gd]; exact ho.isSome (by omega)
    · simp only [Sy.dens, Sy.den, E.i, E.b, E.t, gd, Env.push, List.cons_append, List.nil_append, List.append_nil, Int.toNat_natCast, hh, hh2]; omega
    · simp only [Sy.dens, Sy.den, E.i, E.b, E.t, gd, Env.push, List.cons_append, List.nil_append, List.append_nil, Int.toNat_natCast, hh, hh2]; omega
    · simp only [Sy.dens, Sy.den, E.i, E.b, E.t, gd, Env.push, List.cons_append, List.nil_append, List.append_nil, Int.toNat_natCast, hh, hh2]; omega
    simp only [Env.push, List.cons_append, List.nil_append, List.append_nil]
    refine den_chk (chk_le ?_) (den_chk (chk_lt ?_) (den_rlook_row x (xs := A ++ X ++ Y ++ B) (j := r) rfl ?_ hx rfl ?_))
    · simp only [Sy.dens, Sy.den, E.i, E.b, E.t, gd, Env.push, List.cons_append, List.nil_append, List.append_nil, Int.toNat_natCast, hh2]; omega
    · simp only [Sy.dens, Sy.den, E.i, E.b, E.t, gd, Env.push, List.cons_append, List.nil_append, List.append_nil, Int.toNat_natCast, hh2]; omega
    · simp only [Sy.dens, Sy.den, E.i, E.b, E.t, gd, Env.push, List.cons_append, List.nil_append, List.append_nil, Int.toNat_natCast, hh2]
    simp only [Env.push, List.cons_append, List.nil_append, List.append_nil]
    refine den_callq ⟨Vr.cmp y x, fun V _ _ _ => ocmp_q y x V, ?_⟩
    simp only [Env.push, List.cons_append, List.nil_append, List.append_nil]
    have hcmp := Vr.cmp_lt y x
    refine den_grow fun W3 x3 => den_br (fun c3 => ?_) fun c3 => ?_
    · have c3 : Vr.lt y x = false := by rw [← hcmp]; simp only [Sy.dens, Sy.den, E.i, E.b, E.t, gd, Env.push, List.cons_append, List.nil_append, List.append_nil, Int.toNat_natCast, Bool.not_eq_true'] at c3; exact c3
      refine den_chk (chk_le ?_) (den_chk (chk_le ?_) (den_again ⟨q - (r + 1), by omega, r + 1, q, ?_, rfl, by omega, by omega, hq, fun _ u v hu hv => ?_, h2, rfl⟩))
      · simp only [Sy.dens, Sy.den, E.i, E.b, E.t, gd, Env.push, List.cons_append, List.nil_append, List.append_nil, Int.toNat_natCast, hh2]; omega
      · simp only [Sy.dens, Sy.den, E.i, E.b, E.t, gd, Env.push, List.cons_append, List.nil_append, List.append_nil, Int.toNat_natCast, hh2]; omega
      · simp only [Sy.dens, Sy.den, E.i, E.b, E.t, gd, Env.push, List.cons_append, List.nil_append, List.append_nil, Int.toNat_natCast, hh2]; exact vs_two (by omega) rfl
      · rw [Nat.add_sub_cancel, hx] at hu
        rw [show mid + m - (r + 1) = mid + m - 1 - r from by omega, hy] at hv
        obtain rfl := Option.some.inj hu
        obtain rfl := Option.some.inj hv
        exact c3
    · have c3 : Vr.lt y x = true := by rw [← hcmp]; simp only [Sy.dens, Sy.den, E.i, E.b, E.t, gd, Env.push, List.cons_append, List.nil_append, List.append_nil, Int.toNat_natCast, Bool.not_eq_false'] at c3; exact c3
      refine den_again ⟨r - p, by omega, p, r, ?_, rfl, hp, hr1, by omega, h1, fun _ u v hu hv => ?_, rfl⟩
      · simp only [Sy.dens, Sy.den, E.i, E.b, E.t, gd, Env.push, List.cons_append, List.nil_append, List.append_nil, Int.toNat_natCast, hh2]
      · rw [hx] at hu
        rw [hy] at hv
        obtain rfl := Option.some.inj hu
        obtain rfl := Option.some.inj hv
        exact c3
  · simp only [Sy.dens, Sy.den, E.i, E.b, E.t, gd, Env.push, List.cons_append, List.nil_append, List.append_nil, Int.toNat_natCast, ltB_false] at c1
    obtain rfl : p = q := by omega
    have hs1 : a ≤ p ∧ p ≤ m ∧ p ≤ mid ∧ mid + m - p ≤ b := by omega
    obtain ⟨d1, d2⟩ := St.sym_split' Vr.wo (X := X) (Y := Y) (u := p - a) (v := mid - p) (by omega) (by omega) hX hY (fun hu hv x y hx hy => by
        refine h2 (by omega) x y ?_ ?_
        · rw [← hx, ← St.at_X A X Y B hu]; congr 1; omega
        · rw [← hy, ← St.at_Y A X Y B (i := mid - p - 1) (by omega)]; congr 1; omega) fun hu hv x y hx hy => by
        refine h1 (by omega) x y ?_ ?_
        · rw [← hx, ← St.at_X A X Y B (i := p - a - 1) (by omega)]; congr 1; omega
        · rw [← hy, ← St.at_Y A X Y B hv]; congr 1; omega
    have := sym_1 ih A X Y B (p - a) (mid - p) (by omega) (by omega) hN hX hY d1 d2 hlen ad n c a m b p mid ha hm hb (by omega) hmid (by omega) (by omega) W1 (p : Int)
    exact this
theorem sym_ok : ∀ N, SymOk N := by
  intro N
  induction N with
  | zero => intro A X Y B h; omega
  | succ N ih =>
    intro A X Y B hN hXn hYn hX hY hlen ad n c W ho hf i j k hi hj hk
    have hn : n = A.length + X.length + Y.length + B.length := by have := ho.len; simp at this; omega
    have hx1 := ne_len hXn
    have hy1 := ne_len hYn
    obtain ⟨a, ha⟩ : ∃ a, a = A.length := ⟨_, rfl⟩
    obtain ⟨m, hm⟩ : ∃ m, m = a + X.length := ⟨_, rfl⟩
    obtain ⟨b, hb⟩ : ∃ b, b = m + Y.length := ⟨_, rfl⟩
    obtain rfl : i = (a : Int) := by omega
    obtain rfl : j = (m : Int) := by omega
    obtain rfl : k = (b : Int) := by omega
    refine vc_sym (a : Int) (m : Int) (b : Int) n c ad _ W (Mer ad n c A X Y B) ho (Vr.encs_one _) hf ?_
    refine den_chk (chk_le ?_) (den_chk (chk_le ?_) (den_br (fun c1 => ?_) fun c1 => ?_))
    · simp only [Sy.dens, Sy.den, E.i, E.b, E.t, gd, Env.push, List.cons_append, List.nil_append, List.append_nil, Int.toNat_natCast]; omega
    · simp only [Sy.dens, Sy.den, E.i, E.b, E.t, gd, Env.push, List.cons_append, List.nil_append, List.append_nil, Int.toNat_natCast]; omega
    · have c1 : (m : Int) - a = 1 := by simpa [Sy.dens, Sy.den, E.i, E.b, E.t, gd, Env.push, List.cons_append, List.nil_append, List.append_nil, Int.toNat_natCast] using c1
      obtain ⟨x, rfl⟩ : ∃ x, X = [x] := List.length_eq_one_iff.1 (by omega)
      have e : A ++ [x] ++ Y ++ B = A ++ x :: (Y ++ B) := by simp only [List.append_assoc, List.cons_append, List.nil_append]
      rw [e] at ho ⊢
      exact sym_l A Y B x hY (by simp at hlen; omega) ad n c a m b W ho ha (by simp at hm; omega) (by simp at hm; omega)
    · have c1 : ¬ ((m : Int) - a = 1) := by simpa [Sy.dens, Sy.den, E.i, E.b, E.t, gd, Env.push, List.cons_append, List.nil_append, List.append_nil, Int.toNat_natCast] using c1
      refine den_chk (chk_le ?_) (den_chk (chk_le ?_) (den_br (fun c2 => ?_) fun c2 => ?_))
      · simp only [Sy.dens, Sy.den, E.i, E.b, E.t, gd, Env.push, List.cons_append, List.nil_append, List.append_nil, Int.toNat_natCast]; omega
      · simp only [Sy.dens, Sy.den, E.i, E.b, E.t, gd, Env.push, List.cons_append, List.nil_append, List.append_nil, Int.toNat_natCast]; omega
      · have c2 : (b : Int) - m = 1 := by simpa [Sy.dens, Sy.den, E.i, E.b, E.t, gd, Env.push, List.cons_append, List.nil_append, List.append_nil, Int.toNat_natCast] using c2
        obtain ⟨y, rfl⟩ : ∃ y, Y = [y] := List.length_eq_one_iff.1 (by omega)
        have e : A ++ X ++ [y] ++ B = A ++ X ++ y :: B := by simp only [List.append_assoc, List.cons_append, List.nil_append]
        rw [e] at ho ⊢
        exact sym_r A X B y hX (by simp at hlen; omega) ad n c a m b W ho ha (by omega) (by simp at hb; omega)
      · obtain ⟨mid, hmid⟩ : ∃ mid, mid = (a + b) / 2 := ⟨_, rfl⟩
        have hh := half (x := a) (y := b) (by omega)
        rw [← hmid] at hh
        refine den_chk (chk_le ?_) (den_chk (chk_le ?_) (den_chk (chk_le ?_) (den_chk (chk_le ?_) (den_chk (chk_le ?_) (den_br (fun c3 => ?_) fun c3 => ?_)))))
        · simp only [Sy.dens, Sy.den, E.i, E.b, E.t, gd, Env.push, List.cons_append, List.nil_append, List.append_nil, Int.toNat_natCast]; omega
        · simp only [Sy.dens, Sy.den, E.i, E.b, E.t, gd, Env.push, List.cons_append, List.nil_append, List.append_nil, Int.toNat_natCast]; omega
        · simp only [Sy.dens, Sy.den, E.i, E.b, E.t, gd, Env.push, List.cons_append, List.nil_append, List.append_nil, Int.toNat_natCast]; rw [wu_of (by omega) (by omega)]; omega
        · simp only [Sy.dens, Sy.den, E.i, E.b, E.t, gd, Env.push, List.cons_append, List.nil_append, List.append_nil, Int.toNat_natCast, hh]; omega
        · simp only [Sy.dens, Sy.den, E.i, E.b, E.t, gd, Env.push, List.cons_append, List.nil_append, List.append_nil, Int.toNat_natCast, hh]; omega
        · simp only [Sy.dens, Sy.den, E.i, E.b, E.t, gd, Env.push, List.cons_append, List.nil_append, List.append_nil, Int.toNat_natCast, hh, ltB_true] at c3
          refine den_chk (chk_le ?_) (den_chk (chk_le ?_) (den_chk (chk_le ?_) (den_chk (chk_le ?_) ?_)))
          · simp only [Sy.dens, Sy.den, E.i, E.b, E.t, gd, Env.push, List.cons_append, List.nil_append, List.append_nil, Int.toNat_natCast, hh]; omega
          · simp only [Sy.dens, Sy.den, E.i, E.b, E.t, gd, Env.push, List.cons_append, List.nil_append, List.append_nil, Int.toNat_natCast, hh]; omega
          · simp only [Sy.dens, Sy.den, E.i, E.b, E.t, gd, Env.push, List.cons_append, List.nil_append, List.append_nil, Int.toNat_natCast, hh]; omega
          · simp only [Sy.dens, Sy.den, E.i, E.b, E.t, gd, Env.push, List.cons_append, List.nil_append, List.append_nil, Int.toNat_natCast, hh]; omega
          exact sym_0 ih A X Y B (by omega) hX hY hx1 hy1 hlen ad n c a m b mid (mid + m - b) mid ha hm hb hmid (.inl ⟨by omega, by omega, rfl⟩) W ho _ _ (by simp only [Sy.dens, Sy.den, E.i, E.b, E.t, gd, Env.push, List.cons_append, List.nil_append, List.append_nil, Int.toNat_natCast, hh]; omega) (by simp only [Sy.dens, Sy.den, E.i, E.b, E.t, gd, Env.push, List.cons_append, List.nil_append, List.append_nil, Int.toNat_natCast, hh])
        · simp only [Sy.dens, Sy.den, E.i, E.b, E.t, gd, Env.push, List.cons_append, List.nil_append, List.append_nil, Int.toNat_natCast, hh, ltB_false] at c3
          refine den_chk (chk_le ?_) (den_chk (chk_le ?_) ?_)
          · simp only [Sy.dens, Sy.den, E.i, E.b, E.t, gd, Env.push, List.cons_append, List.nil_append, List.append_nil, Int.toNat_natCast, hh]; omega
          · simp only [Sy.dens, Sy.den, E.i, E.b, E.t, gd, Env.push, List.cons_append, List.nil_append, List.append_nil, Int.toNat_natCast, hh]; omega
          exact sym_0 ih A X Y B (by omega) hX hY hx1 hy1 hlen ad n c a m b mid a m ha hm hb hmid (.inr ⟨by omega, rfl, rfl⟩) W ho _ _ (by simp only [Sy.dens, Sy.den, E.i, E.b, E.t, gd, Env.push, List.cons_append, List.nil_append, List.append_nil, Int.toNat_natCast]) (by simp only [Sy.dens, Sy.den, E.i, E.b, E.t, gd, Env.push, List.cons_append, List.nil_append, List.append_nil, Int.toNat_natCast])
end Go.Proofs.Ytamnfdmmjjekhaa
