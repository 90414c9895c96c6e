/- slices.SortStableFunc at cells: the symmetric merge. -/
import Derived.Test.YtamnfdmmjjekhaaVrIns
namespace Go.Proofs.Ytamnfdmmjjekhaa
open Go Go.RowKit Go.SF
set_option linter.unusedSimpArgs false
set_option linter.unusedVariables false
theorem wu_of {x : Int} (h0 : 0 ≤ x) (h1 : x ≤ 18446744073709551615) : IntKind.u64.wrap x = x := wrap_in .u64 x (by simpa [IntKind.min, IntKind.bits, IntKind.signed] using h0) (by simpa [IntKind.max, IntKind.bits, IntKind.signed] using h1)
theorem half {x y : Nat} (h : x + y ≤ 4000000) : IntKind.i64.wrap ((IntKind.u64.wrap ((x : Int) + (y : Int))).tdiv 2) = (((x + y) / 2 : Nat) : Int) := by
  rw [wu_of (by omega) (by omega), w64i]
  · rw [Int.tdiv_eq_ediv_of_nonneg (by omega)]; omega
  · rw [Int.tdiv_eq_ediv_of_nonneg (by omega)]; omega
  · rw [Int.tdiv_eq_ediv_of_nonneg (by omega)]; omega
theorem vs_two {x y x' y' : Int} (h1 : x = x') (h2 : y = y') : [Value.int .i64 x, .int .i64 y] = [Value.int .i64 x', .int .i64 y'] := by rw [h1, h2]
/-- what is asked behind a call that merges -/
def Mer (ad : Option Addr) (n c : Nat) (A X Y B : List Vr.Ce) : Ending → World → Prop := fun e w' => e = .returned (.tuple #[]) ∧ ∃ xs, (∃ R, St.Of Vr.lt (X ++ Y) R ∧ xs = A ++ R ++ B) ∧ Own w' ad n c xs
theorem sym_l (A Y B : List Vr.Ce) (x : Vr.Ce) (hY : St.Srt Vr.lt Y) (hlen : A.length + Y.length + B.length ≤ 1000000) (ad : Option Addr) (n c a m b : Nat) (W : Wd) (ho : Own W.w ad n c (A ++ x :: (Y ++ B))) (ha : a = A.length) (hm : m = A.length + 1) (hb : b = A.length + 1 + Y.length) :
    t_sym_9.den Try.prog 0 (Mer ad n c A [x] Y B) [] { I := [(a : Int), (m : Int), (b : Int)], N := [n, c], A := [ad], L := [(A ++ x :: (Y ++ B)).flatMap Vr.Ce.enc] } W := by
  have hn : n = A.length + 1 + Y.length + B.length := by have := ho.len; simp at this; omega
  refine den_loop (fun g vs ls _ => ∃ p q : Nat, vs = [.int .i64 (m + p : Nat), .int .i64 (m + q : Nat)] ∧ ls = [] ∧ p ≤ q ∧ q ≤ Y.length ∧ (0 < p → ∀ y, Y[p - 1]? = some y → Vr.lt y x = true) ∧ (∀ y, Y[q]? = some y → Vr.lt y x = false) ∧ g = q - p) Y.length ⟨0, Y.length, ?_, rfl, Nat.zero_le _, Nat.le_refl _, fun h => absurd h (by omega), fun y hy => ?_, rfl⟩ ?_
  · simp only [Sy.dens, Sy.den, E.i, E.b, E.t, gd, Env.push, List.cons_append, List.nil_append, List.append_nil, Int.toNat_natCast]; exact vs_two (by omega) (by omega)
  · rw [List.getElem?_eq_none (Nat.le_refl _)] at hy; cases hy
  rintro g vs ls W1 x1 ⟨p, q, rfl, rfl, hpq, hq, h1, h2, rfl⟩
  refine ⟨(m + p : Nat), (m + q : Nat), rfl, rfl, fun _ => ?_⟩
  simp only [Env.push, List.cons_append, List.nil_append, List.append_nil]
  refine den_br (fun c1 => ?_) fun c1 => ?_
  · simp only [Sy.dens, Sy.den, E.i, E.b, E.t, gd, Env.push, List.cons_append, List.nil_append, List.append_nil, Int.toNat_natCast, ltB_true] at c1
    have hh := half (x := m + p) (y := m + q) (by omega)
    obtain ⟨r, hr1, hr2, hr⟩ : ∃ r, p ≤ r ∧ r < q ∧ (m + p + (m + q)) / 2 = m + r := ⟨(m + p + (m + q)) / 2 - m, by omega, by omega, by omega⟩
    rw [hr] at hh
    obtain ⟨y, hy⟩ := St.get_of (l := Y) (i := r) (by omega)
    have yat : (A ++ x :: (Y ++ B))[m + r]? = some y := by
      have := St.at_Y A [x] Y B (i := r) (by omega)
      simp only [List.append_assoc, List.cons_append, List.nil_append, List.length_cons, List.length_nil] at this
      rw [show m + r = A.length + (0 + 1) + r from by omega, this, hy]
    refine den_chk (chk_le ?_) (den_chk (chk_le ?_) (den_chk (chk_le ?_) (den_chk ?_ (den_chk (chk_le ?_) (den_chk (chk_lt ?_) (den_rlook_row y (xs := A ++ x :: (Y ++ B)) (j := m + r) rfl ?_ yat rfl ?_))))))
    · simp only [Sy.dens, Sy.den, E.i, E.b, E.t, gd, Env.push, List.cons_append, List.nil_append, List.append_nil, Int.toNat_natCast]; omega
    · simp only [Sy.dens, Sy.den, E.i, E.b, E.t, gd, Env.push, List.cons_append, List.nil_append, List.append_nil, Int.toNat_natCast]; omega
    · simp only [Sy.dens, Sy.den, E.i, E.b, E.t, gd, Env.push, List.cons_append, List.nil_append, List.append_nil, Int.toNat_natCast]; rw [wu_of (by omega) (by omega)]; omega
    · simp only [E.b, gd]; exact ho.isSome (by omega)
    · simp only [Sy.dens, Sy.den, E.i, E.b, E.t, gd, Env.push, List.cons_append, List.nil_append, List.append_nil, Int.toNat_natCast, hh]; omega
    · simp only [Sy.dens, Sy.den, E.i, E.b, E.t, gd, Env.push, List.cons_append, List.nil_append, List.append_nil, Int.toNat_natCast, hh]; omega
    · simp only [Sy.dens, Sy.den, E.i, E.b, E.t, gd, Env.push, List.cons_append, List.nil_append, List.append_nil, Int.toNat_natCast, hh]
    simp only [Env.push, List.cons_append, List.nil_append, List.append_nil]
    refine den_chk (chk_le ?_) (den_chk (chk_lt ?_) (den_rlook_row x (xs := A ++ x :: (Y ++ B)) (j := a) rfl ?_ (St.at_fst _ _ _ ha) rfl ?_))
    · simp only [Sy.dens, Sy.den, E.i, E.b, E.t, gd, Env.push, List.cons_append, List.nil_append, List.append_nil, Int.toNat_natCast]; omega
    · simp only [Sy.dens, Sy.den, E.i, E.b, E.t, gd, Env.push, List.cons_append, List.nil_append, List.append_nil, Int.toNat_natCast]; omega
    · simp only [Sy.dens, Sy.den, E.i, E.b, E.t, gd, Env.push, List.cons_append, List.nil_append, List.append_nil, Int.toNat_natCast]
    simp only [Env.push, List.cons_append, List.nil_append, List.append_nil]
    refine den_callq ⟨Vr.cmp y x, fun V _ _ _ => ocmp_q y x V, ?_⟩
    simp only [Env.push, List.cons_append, List.nil_append, List.append_nil]
    have hcmp := Vr.cmp_lt y x
    refine den_grow fun W3 x3 => den_br (fun c3 => ?_) fun c3 => ?_
    · have c3 : Vr.lt y x = true := by rw [← hcmp]; simp only [Sy.dens, Sy.den, E.i, E.b, E.t, gd, Env.push, List.cons_append, List.nil_append, List.append_nil, Int.toNat_natCast] at c3; exact c3
      refine den_chk (chk_le ?_) (den_chk (chk_le ?_) (den_again ⟨q - (r + 1), by omega, r + 1, q, ?_, rfl, by omega, hq, fun _ z hz => ?_, h2, rfl⟩))
      · simp only [Sy.dens, Sy.den, E.i, E.b, E.t, gd, Env.push, List.cons_append, List.nil_append, List.append_nil, Int.toNat_natCast, hh]; omega
      · simp only [Sy.dens, Sy.den, E.i, E.b, E.t, gd, Env.push, List.cons_append, List.nil_append, List.append_nil, Int.toNat_natCast, hh]; omega
      · simp only [Sy.dens, Sy.den, E.i, E.b, E.t, gd, Env.push, List.cons_append, List.nil_append, List.append_nil, Int.toNat_natCast, hh]; exact vs_two (by omega) rfl
      · rw [Nat.add_sub_cancel, hy] at hz; obtain rfl := Option.some.inj hz; exact c3
    · have c3 : Vr.lt y x = false := by rw [← hcmp]; simp only [Sy.dens, Sy.den, E.i, E.b, E.t, gd, Env.push, List.cons_append, List.nil_append, List.append_nil, Int.toNat_natCast] at c3; exact c3
      refine den_again ⟨r - p, by omega, p, r, ?_, rfl, hr1, by omega, h1, fun z hz => ?_, rfl⟩
      · simp only [Sy.dens, Sy.den, E.i, E.b, E.t, gd, Env.push, List.cons_append, List.nil_append, List.append_nil, Int.toNat_natCast, hh]
      · rw [hy] at hz; obtain rfl := Option.some.inj hz; exact c3
  · simp only [Sy.dens, Sy.den, E.i, E.b, E.t, gd, Env.push, List.cons_append, List.nil_append, List.append_nil, Int.toNat_natCast, ltB_false] at c1
    obtain rfl : p = q := by omega
    obtain ⟨s1, s2⟩ := St.split_lt Vr.wo hY hq h1 h2
    refine den_loop (fun g vs ls _ => ∃ t : Nat, vs = [.int .i64 (a + t : Nat), .slice ad n c] ∧ ls = [(A ++ Y.take t ++ x :: (Y.drop t ++ B)).flatMap Vr.Ce.enc] ∧ t ≤ p ∧ g = p - t) p ⟨0, ?_, ?_, Nat.zero_le _, rfl⟩ ?_
    · simp only [Sy.dens, Sy.den, E.i, E.b, E.t, gd, Env.push, List.cons_append, List.nil_append, List.append_nil, Int.toNat_natCast]; exact vs_eq1 (by omega)
    · simp only [List.take_zero, List.drop_zero, List.append_nil, rowConts, conts, Seg.den, gd, Env.push, List.map_cons, List.map_nil, List.flatMap_cons, List.flatMap_nil, List.append_nil, List.cons_append, List.nil_append]
    rintro g vs ls W2 x2 ⟨t, rfl, rfl, ht, rfl⟩
    refine ⟨(a + t : Nat), n, c, ad, (A ++ Y.take t ++ x :: (Y.drop t ++ B)).flatMap Vr.Ce.enc, rfl, by simp only [rowConts, conts, Seg.den, gd, Env.push, List.map_cons, List.map_nil, List.flatMap_cons, List.flatMap_nil, List.append_nil, List.cons_append, List.nil_append], fun hrow => ?_⟩
    simp only [Env.push, List.cons_append, List.nil_append, List.append_nil]
    refine den_chk (chk_le ?_) (den_chk (chk_le ?_) (den_br (fun c2 => ?_) fun c2 => ?_))
    · simp only [Sy.dens, Sy.den, E.i, E.b, E.t, gd, Env.push, List.cons_append, List.nil_append, List.append_nil, Int.toNat_natCast]; omega
    · simp only [Sy.dens, Sy.den, E.i, E.b, E.t, gd, Env.push, List.cons_append, List.nil_append, List.append_nil, Int.toNat_natCast]; omega
    · simp only [Sy.dens, Sy.den, E.i, E.b, E.t, gd, Env.push, List.cons_append, List.nil_append, List.append_nil, Int.toNat_natCast, ltB_true] at c2
      have htp : t < p := by omega
      have htY : t < Y.length := by omega
      have hd : Y.drop t = Y[t] :: Y.drop (t + 1) := List.drop_eq_getElem_cons htY
      have el : A ++ Y.take t ++ x :: (Y.drop t ++ B) = (A ++ Y.take t) ++ x :: ([] ++ Y[t] :: (Y.drop (t + 1) ++ B)) := by rw [hd]; simp only [List.append_assoc, List.cons_append, List.nil_append]
      have tl : (A ++ Y.take t).length = a + t := by simp; omega
      refine den_chk (chk_le ?_) (den_chk (chk_le ?_) (den_chk ?_ (den_chk (chk_le ?_) (den_chk (chk_lt ?_) (den_rlook_row Y[t] (xs := A ++ Y.take t ++ x :: (Y.drop t ++ B)) (j := a + t + 1) rfl ?_ ?_ rfl ?_)))))
      · simp only [Sy.dens, Sy.den, E.i, E.b, E.t, gd, Env.push, List.cons_append, List.nil_append, List.append_nil, Int.toNat_natCast]; omega
      · simp only [Sy.dens, Sy.den, E.i, E.b, E.t, gd, Env.push, List.cons_append, List.nil_append, List.append_nil, Int.toNat_natCast]; omega
      · simp only [E.b, gd]; exact ho.isSome (by omega)
      · simp only [Sy.dens, Sy.den, E.i, E.b, E.t, gd, Env.push, List.cons_append, List.nil_append, List.append_nil, Int.toNat_natCast]; omega
      · simp only [Sy.dens, Sy.den, E.i, E.b, E.t, gd, Env.push, List.cons_append, List.nil_append, List.append_nil, Int.toNat_natCast]; omega
      · simp only [Sy.dens, Sy.den, E.i, E.b, E.t, gd, Env.push, List.cons_append, List.nil_append, List.append_nil, Int.toNat_natCast]; omega
      · rw [el]; exact St.at_snd _ _ _ _ _ (by rw [tl]; rfl)
      simp only [Env.push, List.cons_append, List.nil_append, List.append_nil]
      refine den_chk (chk_le ?_) (den_chk (chk_lt ?_) (den_rlook_row x (xs := A ++ Y.take t ++ x :: (Y.drop t ++ B)) (j := a + t) rfl ?_ ?_ rfl ?_))
      · simp only [Sy.dens, Sy.den, E.i, E.b, E.t, gd, Env.push, List.cons_append, List.nil_append, List.append_nil, Int.toNat_natCast]; omega
      · simp only [Sy.dens, Sy.den, E.i, E.b, E.t, gd, Env.push, List.cons_append, List.nil_append, List.append_nil, Int.toNat_natCast]; omega
      · simp only [Sy.dens, Sy.den, E.i, E.b, E.t, gd, Env.push, List.cons_append, List.nil_append, List.append_nil, Int.toNat_natCast]
      · rw [el]; exact St.at_fst _ _ _ tl.symm
      simp only [Env.push, List.cons_append, List.nil_append, List.append_nil]
      have ll : (A ++ Y.take t ++ x :: (Y.drop t ++ B)).length = n := by
        simp only [List.length_append, List.length_take, List.length_cons, List.length_drop]; omega
      refine den_grow fun W4 x4 => den_rset_row Y[t] (xs := A ++ Y.take t ++ x :: (Y.drop t ++ B)) (j := a + t) rfl ?_ (by omega) rfl fun W5 x5 => ?_
      · simp only [Sy.dens, Sy.den, E.i, E.b, E.t, gd, Env.push, List.cons_append, List.nil_append, List.append_nil, Int.toNat_natCast]
      simp only [Env.push, List.cons_append, List.nil_append, List.append_nil]
      refine den_grow fun W6 x6 => den_rset_row x (xs := (A ++ Y.take t ++ x :: (Y.drop t ++ B)).set (a + t) Y[t]) (j := a + t + 1) rfl ?_ (by rw [List.length_set]; omega) rfl fun W7 x7 => ?_
      · simp only [Sy.dens, Sy.den, E.i, E.b, E.t, gd, Env.push, List.cons_append, List.nil_append, List.append_nil, Int.toNat_natCast]; omega
      simp only [Env.push, List.cons_append, List.nil_append, List.append_nil]
      have sw := St.swap_at (A ++ Y.take t) [] (Y.drop (t + 1) ++ B) x Y[t] (i := a + t) (j := a + t + 1) tl.symm (by rw [tl]; rfl)
      rw [← el] at sw
      refine den_again ⟨p - (t + 1), by omega, t + 1, ?_, ?_, by omega, rfl⟩
      · simp only [Sy.dens, Sy.den, E.i, E.b, E.t, gd, Env.push, List.cons_append, List.nil_append, List.append_nil, Int.toNat_natCast]; exact vs_eq1 (by omega)
      · rw [List.take_succ_eq_append_getElem htY]
        simp only [rowConts, conts, Seg.den, gd, Env.push, List.map_cons, List.map_nil, List.flatMap_cons, List.flatMap_nil, List.append_nil, List.cons_append, List.nil_append, sw]
        simp only [List.append_assoc, List.cons_append, List.nil_append]
    · simp only [Sy.dens, Sy.den, E.i, E.b, E.t, gd, Env.push, List.cons_append, List.nil_append, List.append_nil, Int.toNat_natCast, ltB_false] at c2
      obtain rfl : t = p := by omega
      refine den_ret fun _ _ hr => ⟨rfl, _, ⟨Y.take t ++ x :: Y.drop t, ?_, rfl⟩, ?_⟩
      · have := St.insL Vr.wo (Y1 := Y.take t) (Y2 := Y.drop t) (x := x) (by rw [List.take_append_drop]; exact hY) s1 s2
        rw [List.take_append_drop] at this
        exact this
      · have h1 := (hr _ (List.mem_cons_self ..)).1
        simp only [rowConts, conts, Seg.den, gd, Env.push, List.map_cons, List.map_nil, List.flatMap_cons, List.flatMap_nil, List.append_nil, List.cons_append, List.nil_append, Sy.den, E.i, Int.toNat_natCast] at h1
        unfold Own
        simp only [List.append_assoc, List.cons_append] at h1 ⊢
        exact h1
theorem sym_r (A X B : List Vr.Ce) (y : Vr.Ce) (hX : St.Srt Vr.lt X) (hlen : A.length + X.length + B.length ≤ 1000000) (ad : Option Addr) (n c a m b : Nat) (W : Wd) (ho : Own W.w ad n c (A ++ X ++ y :: B)) (ha : a = A.length) (hm : m = A.length + X.length) (hb : b = A.length + X.length + 1) :
    t_sym_16.den Try.prog 0 (Mer ad n c A X [y] B) [] { I := [(a : Int), (m : Int), (b : Int)], N := [n, c], A := [ad], L := [(A ++ X ++ y :: B).flatMap Vr.Ce.enc] } W := by
  have hn : n = A.length + X.length + 1 + B.length := by have := ho.len; simp at this; omega
  refine den_loop (fun g vs ls _ => ∃ p q : Nat, vs = [.int .i64 (a + p : Nat), .int .i64 (a + q : Nat)] ∧ ls = [] ∧ p ≤ q ∧ q ≤ X.length ∧ (0 < p → ∀ x, X[p - 1]? = some x → Vr.lt y x = false) ∧ (∀ x, X[q]? = some x → Vr.lt y x = true) ∧ g = q - p) X.length ⟨0, X.length, ?_, rfl, Nat.zero_le _, Nat.le_refl _, fun h => absurd h (by omega), fun y hy => ?_, rfl⟩ ?_
  · simp only [Sy.dens, Sy.den, E.i, E.b, E.t, gd, Env.push, List.cons_append, List.nil_append, List.append_nil, Int.toNat_natCast]; exact vs_two (by omega) (by omega)
  · rw [List.getElem?_eq_none (Nat.le_refl _)] at hy; cases hy
  rintro g vs ls W1 x1 ⟨p, q, rfl, rfl, hpq, hq, h1, h2, rfl⟩
  refine ⟨(a + p : Nat), (a + q : Nat), rfl, rfl, fun _ => ?_⟩
  simp only [Env.push, List.cons_append, List.nil_append, List.append_nil]
  refine den_br (fun c1 => ?_) fun c1 => ?_
  · simp only [Sy.dens, Sy.den, E.i, E.b, E.t, gd, Env.push, List.cons_append, List.nil_append, List.append_nil, Int.toNat_natCast, ltB_true] at c1
    have hh := half (x := a + p) (y := a + q) (by omega)
    obtain ⟨r, hr1, hr2, hr⟩ : ∃ r, p ≤ r ∧ r < q ∧ (a + p + (a + q)) / 2 = a + r := ⟨(a + p + (a + q)) / 2 - a, by omega, by omega, by omega⟩
    rw [hr] at hh
    obtain ⟨x, hx⟩ := St.get_of (l := X) (i := r) (by omega)
    have xat : (A ++ X ++ y :: B)[a + r]? = some x := by
      have := St.at_X A X [y] B (i := r) (by omega)
      simp only [List.append_assoc, List.cons_append, List.nil_append] at this ⊢
      rw [ha, this, hx]
    have yat : (A ++ X ++ y :: B)[m]? = some y := St.at_fst (A ++ X) _ _ (by simp; omega)
    refine den_chk (chk_le ?_) (den_chk (chk_le ?_) (den_chk (chk_le ?_) (den_chk ?_ (den_chk (chk_le ?_) (den_chk (chk_lt ?_) (den_rlook_row y (xs := A ++ X ++ y :: B) (j := m) rfl ?_ yat rfl ?_))))))
    · simp only [Sy.dens, Sy.den, E.i, E.b, E.t, gd, Env.push, List.cons_append, List.nil_append, List.append_nil, Int.toNat_natCast]; omega
    · simp only [Sy.dens, Sy.den, E.i, E.b, E.t, gd, Env.push, List.cons_append, List.nil_append, List.append_nil, Int.toNat_natCast]; omega
    · simp only [Sy.dens, Sy.den, E.i, E.b, E.t, gd, Env.push, List.cons_append, List.nil_append, List.append_nil, Int.toNat_natCast]; rw [wu_of (by omega) (by omega)]; omega
    · simp only [E.b, gd]; exact ho.isSome (by omega)
    · simp only [Sy.dens, Sy.den, E.i, E.b, E.t, gd, Env.push, List.cons_append, List.nil_append, List.append_nil, Int.toNat_natCast]; omega
    · simp only [Sy.dens, Sy.den, E.i, E.b, E.t, gd, Env.push, List.cons_append, List.nil_append, List.append_nil, Int.toNat_natCast]; omega
    · simp only [Sy.dens, Sy.den, E.i, E.b, E.t, gd, Env.push, List.cons_append, List.nil_append, List.append_nil, Int.toNat_natCast]
    simp only [Env.push, List.cons_append, List.nil_append, List.append_nil]
    refine den_chk (chk_le ?_) (den_chk (chk_lt ?_) (den_rlook_row x (xs := A ++ X ++ y :: B) (j := a + r) rfl ?_ xat rfl ?_))
    · simp only [Sy.dens, Sy.den, E.i, E.b, E.t, gd, Env.push, List.cons_append, List.nil_append, List.append_nil, Int.toNat_natCast, hh]; omega
    · simp only [Sy.dens, Sy.den, E.i, E.b, E.t, gd, Env.push, List.cons_append, List.nil_append, List.append_nil, Int.toNat_natCast, hh]; omega
    · simp only [Sy.dens, Sy.den, E.i, E.b, E.t, gd, Env.push, List.cons_append, List.nil_append, List.append_nil, Int.toNat_natCast, hh]
    simp only [Env.push, List.cons_append, List.nil_append, List.append_nil]
    refine den_callq ⟨Vr.cmp y x, fun V _ _ _ => ocmp_q y x V, ?_⟩
    simp only [Env.push, List.cons_append, List.nil_append, List.append_nil]
    have hcmp := Vr.cmp_lt y x
    refine den_grow fun W3 x3 => den_br (fun c3 => ?_) fun c3 => ?_
    · have c3 : Vr.lt y x = false := by rw [← hcmp]; simp only [Sy.dens, Sy.den, E.i, E.b, E.t, gd, Env.push, List.cons_append, List.nil_append, List.append_nil, Int.toNat_natCast, Bool.not_eq_true'] at c3; exact c3
      refine den_chk (chk_le ?_) (den_chk (chk_le ?_) (den_again ⟨q - (r + 1), by omega, r + 1, q, ?_, rfl, by omega, hq, fun _ z hz => ?_, h2, rfl⟩))
      · simp only [Sy.dens, Sy.den, E.i, E.b, E.t, gd, Env.push, List.cons_append, List.nil_append, List.append_nil, Int.toNat_natCast, hh]; omega
      · simp only [Sy.dens, Sy.den, E.i, E.b, E.t, gd, Env.push, List.cons_append, List.nil_append, List.append_nil, Int.toNat_natCast, hh]; omega
      · simp only [Sy.dens, Sy.den, E.i, E.b, E.t, gd, Env.push, List.cons_append, List.nil_append, List.append_nil, Int.toNat_natCast, hh]; exact vs_two (by omega) rfl
      · rw [Nat.add_sub_cancel, hx] at hz; obtain rfl := Option.some.inj hz; exact c3
    · have c3 : Vr.lt y x = true := by rw [← hcmp]; simp only [Sy.dens, Sy.den, E.i, E.b, E.t, gd, Env.push, List.cons_append, List.nil_append, List.append_nil, Int.toNat_natCast, Bool.not_eq_false'] at c3; exact c3
      refine den_again ⟨r - p, by omega, p, r, ?_, rfl, hr1, by omega, h1, fun z hz => ?_, rfl⟩
      · simp only [Sy.dens, Sy.den, E.i, E.b, E.t, gd, Env.push, List.cons_append, List.nil_append, List.append_nil, Int.toNat_natCast, hh]
      · rw [hx] at hz; obtain rfl := Option.some.inj hz; exact c3
  · simp only [Sy.dens, Sy.den, E.i, E.b, E.t, gd, Env.push, List.cons_append, List.nil_append, List.append_nil, Int.toNat_natCast, ltB_false] at c1
    obtain rfl : p = q := by omega
    obtain ⟨s1, s2⟩ := St.split_ge Vr.wo hX hq h1 h2
    refine den_loop (fun g vs ls _ => ∃ t : Nat, vs = [.int .i64 (a + t : Nat), .slice ad n c] ∧ ls = [(A ++ X.take t ++ y :: (X.drop t ++ B)).flatMap Vr.Ce.enc] ∧ p ≤ t ∧ t ≤ X.length ∧ g = t - p) (X.length - p) ⟨X.length, ?_, ?_, hq, Nat.le_refl _, rfl⟩ ?_
    · simp only [Sy.dens, Sy.den, E.i, E.b, E.t, gd, Env.push, List.cons_append, List.nil_append, List.append_nil, Int.toNat_natCast]; exact vs_eq1 (by omega)
    · simp only [List.take_length, List.drop_length, List.nil_append, rowConts, conts, Seg.den, gd, Env.push, List.map_cons, List.map_nil, List.flatMap_cons, List.flatMap_nil, List.append_nil, List.cons_append, List.nil_append]
    rintro g vs ls W2 x2 ⟨t, rfl, rfl, ht, htX, rfl⟩
    refine ⟨(a + t : Nat), n, c, ad, (A ++ X.take t ++ y :: (X.drop t ++ B)).flatMap Vr.Ce.enc, rfl, by simp only [rowConts, conts, Seg.den, gd, Env.push, List.map_cons, List.map_nil, List.flatMap_cons, List.flatMap_nil, List.append_nil, List.cons_append, List.nil_append], fun hrow => ?_⟩
    simp only [Env.push, List.cons_append, List.nil_append, List.append_nil]
    refine den_br (fun c2 => ?_) fun c2 => ?_
    · simp only [Sy.dens, Sy.den, E.i, E.b, E.t, gd, Env.push, List.cons_append, List.nil_append, List.append_nil, Int.toNat_natCast, ltB_true] at c2
      obtain ⟨t, rfl⟩ : ∃ k, t = k + 1 := ⟨t - 1, by omega⟩
      have htY : t < X.length := by omega
      have hd : X.take (t + 1) = X.take t ++ [X[t]] := List.take_succ_eq_append_getElem htY
      have el : A ++ X.take (t + 1) ++ y :: (X.drop (t + 1) ++ B) = (A ++ X.take t) ++ X[t] :: ([] ++ y :: (X.drop (t + 1) ++ B)) := by rw [hd]; simp only [List.append_assoc, List.cons_append, List.nil_append]
      have tl : (A ++ X.take t).length = a + t := by simp; omega
      refine den_chk (chk_le ?_) (den_chk (chk_le ?_) (den_chk ?_ (den_chk (chk_le ?_) (den_chk (chk_lt ?_) (den_rlook_row X[t] (xs := A ++ X.take (t + 1) ++ y :: (X.drop (t + 1) ++ B)) (j := a + t) rfl ?_ ?_ rfl ?_)))))
      · simp only [Sy.dens, Sy.den, E.i, E.b, E.t, gd, Env.push, List.cons_append, List.nil_append, List.append_nil, Int.toNat_natCast]; omega
      · simp only [Sy.dens, Sy.den, E.i, E.b, E.t, gd, Env.push, List.cons_append, List.nil_append, List.append_nil, Int.toNat_natCast]; omega
      · simp only [E.b, gd]; exact ho.isSome (by omega)
      · simp only [Sy.dens, Sy.den, E.i, E.b, E.t, gd, Env.push, List.cons_append, List.nil_append, List.append_nil, Int.toNat_natCast]; omega
      · simp only [Sy.dens, Sy.den, E.i, E.b, E.t, gd, Env.push, List.cons_append, List.nil_append, List.append_nil, Int.toNat_natCast]; omega
      · simp only [Sy.dens, Sy.den, E.i, E.b, E.t, gd, Env.push, List.cons_append, List.nil_append, List.append_nil, Int.toNat_natCast]; omega
      · rw [el]; exact St.at_fst _ _ _ tl.symm
      simp only [Env.push, List.cons_append, List.nil_append, List.append_nil]
      refine den_chk (chk_le ?_) (den_chk (chk_lt ?_) (den_rlook_row y (xs := A ++ X.take (t + 1) ++ y :: (X.drop (t + 1) ++ B)) (j := a + (t + 1)) rfl ?_ ?_ rfl ?_))
      · simp only [Sy.dens, Sy.den, E.i, E.b, E.t, gd, Env.push, List.cons_append, List.nil_append, List.append_nil, Int.toNat_natCast]; omega
      · simp only [Sy.dens, Sy.den, E.i, E.b, E.t, gd, Env.push, List.cons_append, List.nil_append, List.append_nil, Int.toNat_natCast]; omega
      · simp only [Sy.dens, Sy.den, E.i, E.b, E.t, gd, Env.push, List.cons_append, List.nil_append, List.append_nil, Int.toNat_natCast]
      · rw [el]; exact St.at_snd _ _ _ _ _ (by rw [tl]; rfl)
      simp only [Env.push, List.cons_append, List.nil_append, List.append_nil]
      have ll : (A ++ X.take (t + 1) ++ y :: (X.drop (t + 1) ++ B)).length = n := by
        simp only [List.length_append, List.length_take, List.length_cons, List.length_drop]; omega
      refine den_grow fun W4 x4 => den_rset_row X[t] (xs := A ++ X.take (t + 1) ++ y :: (X.drop (t + 1) ++ B)) (j := a + (t + 1)) rfl ?_ (by omega) rfl fun W5 x5 => ?_
      · simp only [Sy.dens, Sy.den, E.i, E.b, E.t, gd, Env.push, List.cons_append, List.nil_append, List.append_nil, Int.toNat_natCast]
      simp only [Env.push, List.cons_append, List.nil_append, List.append_nil]
      refine den_grow fun W6 x6 => den_rset_row y (xs := (A ++ X.take (t + 1) ++ y :: (X.drop (t + 1) ++ B)).set (a + (t + 1)) X[t]) (j := a + t) rfl ?_ (by rw [List.length_set]; omega) rfl fun W7 x7 => ?_
      · simp only [Sy.dens, Sy.den, E.i, E.b, E.t, gd, Env.push, List.cons_append, List.nil_append, List.append_nil, Int.toNat_natCast]; omega
      simp only [Env.push, List.cons_append, List.nil_append, List.append_nil]
      have sw := St.swap_at' (A ++ X.take t) [] (X.drop (t + 1) ++ B) X[t] y (i := a + t) (j := a + (t + 1)) tl.symm (by rw [tl]; rfl)
      rw [← el] at sw
      refine den_again ⟨t - p, by omega, t, ?_, ?_, by omega, by omega, rfl⟩
      · simp only [Sy.dens, Sy.den, E.i, E.b, E.t, gd, Env.push, List.cons_append, List.nil_append, List.append_nil, Int.toNat_natCast]; exact vs_eq1 (by omega)
      · rw [List.drop_eq_getElem_cons htY]
        simp only [rowConts, conts, Seg.den, gd, Env.push, List.map_cons, List.map_nil, List.flatMap_cons, List.flatMap_nil, List.append_nil, List.cons_append, List.nil_append, sw]
    · simp only [Sy.dens, Sy.den, E.i, E.b, E.t, gd, Env.push, List.cons_append, List.nil_append, List.append_nil, Int.toNat_natCast, ltB_false] at c2
      obtain rfl : t = p := by omega
      refine den_ret fun _ _ hr => ⟨rfl, _, ⟨X.take t ++ y :: X.drop t, ?_, rfl⟩, ?_⟩
      · have := St.insR Vr.wo (X1 := X.take t) (X2 := X.drop t) (y := y) (by rw [List.take_append_drop]; exact hX) s1 s2
        rw [List.take_append_drop] at this
        exact this
      · have h1 := (hr _ (List.mem_cons_self ..)).1
        simp only [rowConts, conts, Seg.den, gd, Env.push, List.map_cons, List.map_nil, List.flatMap_cons, List.flatMap_nil, List.append_nil, List.cons_append, List.nil_append, Sy.den, E.i, Int.toNat_natCast] at h1
        unfold Own
        simp only [List.append_assoc, List.cons_append] at h1 ⊢
        exact h1
end Go.Proofs.Ytamnfdmmjjekhaa
