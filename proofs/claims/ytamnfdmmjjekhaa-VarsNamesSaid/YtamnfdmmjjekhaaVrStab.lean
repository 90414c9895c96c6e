/- slices.SortStableFunc at cells. -/
import Derived.Test.YtamnfdmmjjekhaaVrSym3
namespace Go.Proofs.Ytamnfdmmjjekhaa
open Go Go.RowKit Go.SF
set_option linter.unusedSimpArgs false
set_option linter.unusedVariables false
theorem vs_eq3 {x y z x' y' z' : Int} (h1 : x = x') (h2 : y = y') (h3 : z = z') {s : Value} : [Value.int .i64 x, .int .i64 y, .int .i64 z, s] = [Value.int .i64 x', .int .i64 y', .int .i64 z', s] := by rw [h1, h2, h3]
/-- the insertion sort of a piece -/
theorem ins_s (l : List Vr.Ce) (a b : Nat) (hab : a ≤ b) (hb : b ≤ l.length) (hlen : l.length ≤ 1000000) (ad : Option Addr) (n c : Nat) (W : Wd) (ho : Own W.w ad n c l) (hf : Free W ad n c) (i j : Int) (hi : i = (a : Nat)) (hj : j = (b : Nat)) :
    Turns 54 #[.slice ad n c, .int .i64 i, .int .i64 j, .func (.func 29) #[] #[]] W ad n c fun xs => ∃ R, St.Of Vr.lt (St.seg l a b) R ∧ xs = St.put l a b R := by
  have h1 := St.take_len (l := l) (a := a) (by omega)
  have h2 := St.seg_len (l := l) (a := a) (b := b) hb
  exact ins_t (l.take a) (St.seg l a b) (l.drop b) (by rw [h1, h2, List.length_drop]; omega) ad n c W (by rw [St.put_eq hab]; exact ho) hf i j (by rw [h1]; exact hi) (by rw [h1, h2]; omega)
/-- the merge of two pieces -/
theorem sym_s (l : List Vr.Ce) (a m b : Nat) (ham : a < m) (hmb : m < b) (hb : b ≤ l.length) (hlen : l.length ≤ 1000000) (hX : St.Srt Vr.lt (St.seg l a m)) (hY : St.Srt Vr.lt (St.seg l m b)) (ad : Option Addr) (n c : Nat) (W : Wd) (ho : Own W.w ad n c l) (hf : Free W ad n c) (i j k : Int) (hi : i = (a : Nat)) (hj : j = (m : Nat)) (hk : k = (b : Nat)) :
    Turns 55 #[.slice ad n c, .int .i64 i, .int .i64 j, .int .i64 k, .func (.func 29) #[] #[]] W ad n c fun xs => ∃ R, St.Of Vr.lt (St.seg l a b) R ∧ xs = St.put l a b R := by
  have h1 := St.take_len (l := l) (a := a) (by omega)
  have h2 := St.seg_len (l := l) (a := a) (b := m) (by omega)
  have h3 := St.seg_len (l := l) (a := m) (b := b) hb
  rw [St.seg_app (Nat.le_of_lt ham) (Nat.le_of_lt hmb)]
  exact sym_ok (b - a + 1) (l.take a) (St.seg l a m) (St.seg l m b) (l.drop b) (by omega) (len_ne (by omega)) (len_ne (by omega)) hX hY (by rw [h1, h2, h3, List.length_drop]; omega) ad n c W (by rw [St.put_eq3 (Nat.le_of_lt ham) (Nat.le_of_lt hmb)]; exact ho) hf i j k (by rw [h1]; exact hi) (by rw [h1, h2]; omega) (by rw [h1, h2, h3]; omega)
theorem stab_t (xs : List Vr.Ce) (hlen : xs.length ≤ 1000000) (ad : Option Addr) (n c : Nat) (W : Wd) (ho : Own W.w ad n c xs) (hf : Free W ad n c) :
    Turns 43 #[.slice ad n c, .int .i64 (n : Nat), .func (.func 29) #[] #[]] W ad n c fun l => St.Of Vr.lt xs l := by
  have hn := ho.len
  refine vc_stab (n : Nat) n c ad _ W _ ho (Vr.encs_one _) hf ?_
  refine den_loop (fun g vs ls _ => ∃ (k : Nat) (l : List Vr.Ce), vs = [.int .i64 (20 * k : Nat), .int .i64 (20 * (k + 1) : Nat), .slice ad n c] ∧ ls = [l.flatMap Vr.Ce.enc] ∧ St.Cls Vr.lt xs l ∧ (∀ j, j < k → St.Srt Vr.lt (St.seg l (20 * j) (20 * (j + 1)))) ∧ 20 * k ≤ n ∧ g = n - 20 * k) n ⟨0, xs, ?_, by simp only [rowConts, conts, Seg.den, gd, Env.push, List.map_cons, List.map_nil, List.flatMap_cons, List.flatMap_nil, List.append_nil, List.cons_append, List.nil_append], St.Cls.refl _, fun j h => absurd h (by omega), by omega, rfl⟩ ?_
  · simp only [Sy.dens, Sy.den, E.i, E.b, E.t, gd, Env.push, List.cons_append, List.nil_append, List.append_nil, Int.toNat_natCast]; exact vs_eq2 (by omega) (by omega)
  rintro g vs ls W1 x1 ⟨k, l, rfl, rfl, hC, hS, hk, rfl⟩
  refine ⟨(20 * k : Nat), (20 * (k + 1) : Nat), n, c, ad, l.flatMap Vr.Ce.enc, rfl, by simp only [rowConts, conts, Seg.den, gd, Env.push, List.map_cons, List.map_nil, List.flatMap_cons, List.flatMap_nil, List.append_nil, List.cons_append, List.nil_append], fun hrow => ?_⟩
  simp only [Env.push, List.cons_append, List.nil_append, List.append_nil]
  have hll : l.length = n := by rw [hC.len, hn]
  refine den_br (fun c1 => ?_) fun c1 => ?_
  · simp only [Sy.dens, Sy.den, E.i, E.b, E.t, gd, Env.push, List.cons_append, List.nil_append, List.append_nil, Int.toNat_natCast, leB_true] at c1
    refine den_row (xs := l) (a := ad) (n := n) (c := c) _ (Nat.zero_le _) rfl rfl rfl rfl rfl (Nat.le_of_ble_eq_true rfl) (Nat.le_of_ble_eq_true rfl) (Nat.le_of_ble_eq_true rfl) (fun W2 _ ho2 hf2 => ins_s l (20 * k) (20 * (k + 1)) (by omega) (by omega) (by omega) ad n c W2 ho2 hf2 _ _ rfl rfl) fun xs' W2 hx2 x2 => ?_
    obtain ⟨R, hR, rfl⟩ := hx2
    obtain ⟨q1, q2⟩ := St.blks_put (k := k) hS rfl (by omega) (by omega) (.inl rfl) hR
    simp only [Env.push, List.cons_append, List.nil_append, List.append_nil]
    refine den_chk (chk_le ?_) (den_chk (chk_le ?_) (den_again ⟨n - 20 * (k + 1), by omega, k + 1, St.put l (20 * k) (20 * (k + 1)) R, ?_, by simp only [rowConts, conts, Seg.den, gd, Env.push, List.map_cons, List.map_nil, List.flatMap_cons, List.flatMap_nil, List.append_nil, List.cons_append, List.nil_append], hC.put (by omega) hR, q1, by omega, rfl⟩))
    · simp only [Sy.dens, Sy.den, E.i, E.b, E.t, gd, Env.push, List.cons_append, List.nil_append, List.append_nil, Int.toNat_natCast]; omega
    · simp only [Sy.dens, Sy.den, E.i, E.b, E.t, gd, Env.push, List.cons_append, List.nil_append, List.append_nil, Int.toNat_natCast]; omega
    · simp only [Sy.dens, Sy.den, E.i, E.b, E.t, gd, Env.push, List.cons_append, List.nil_append, List.append_nil, Int.toNat_natCast]; exact vs_eq2 rfl (by omega)
  · simp only [Sy.dens, Sy.den, E.i, E.b, E.t, gd, Env.push, List.cons_append, List.nil_append, List.append_nil, Int.toNat_natCast, leB_false] at c1
    refine den_row (xs := l) (a := ad) (n := n) (c := c) _ (Nat.zero_le _) rfl rfl rfl rfl rfl (Nat.le_of_ble_eq_true rfl) (Nat.le_of_ble_eq_true rfl) (Nat.le_of_ble_eq_true rfl) (fun W2 _ ho2 hf2 => ins_s l (20 * k) n (by omega) (by omega) (by omega) ad n c W2 ho2 hf2 _ _ rfl rfl) fun xs' W2 hx2 x2 => ?_
    obtain ⟨R, hR, rfl⟩ := hx2
    obtain ⟨q1, q2⟩ := St.blks_put (k := k) hS rfl (by omega) (by omega) (.inr ⟨hll.symm, by omega⟩) hR
    have hC2 := hC.put (a := 20 * k) (b := n) (by omega) hR
    have hB2 : St.Blks Vr.lt 20 (St.put l (20 * k) n R) := fun j => by
      rcases Nat.lt_or_ge j (k + 1) with h | h
      · exact q1 j h
      · refine St.seg_srt_nil ?_
        rw [hC2.len, hn]; omega
    generalize St.put l (20 * k) n R = l2 at hC2 hB2
    clear q1 q2 hR hC hS hll
    simp only [Env.push, List.cons_append, List.nil_append, List.append_nil]
    refine den_loop (fun g vs ls _ => ∃ (bs : Nat) (u v : Int) (l : List Vr.Ce), vs = [.int .i64 (bs : Nat), .int .i64 u, .int .i64 v, .slice ad n c] ∧ ls = [l.flatMap Vr.Ce.enc] ∧ St.Cls Vr.lt xs l ∧ St.Blks Vr.lt bs l ∧ 0 < bs ∧ bs ≤ 4000000 ∧ g = n - bs) (n - 20) ⟨20, ((20 * k : Nat) : Int), ((20 * (k + 1) : Nat) : Int), l2, ?_, by simp only [rowConts, conts, Seg.den, gd, Env.push, List.map_cons, List.map_nil, List.flatMap_cons, List.flatMap_nil, List.append_nil, List.cons_append, List.nil_append], hC2, hB2, by omega, by omega, rfl⟩ ?_
    · simp only [Sy.dens, Sy.den, E.i, E.b, E.t, gd, Env.push, List.cons_append, List.nil_append, List.append_nil, Int.toNat_natCast]; rfl
    rintro g vs ls W3 x3 ⟨bs, u, v, l, rfl, rfl, hC, hB, hb0, hbx, rfl⟩
    refine ⟨(bs : Nat), u, v, n, c, ad, l.flatMap Vr.Ce.enc, rfl, by simp only [rowConts, conts, Seg.den, gd, Env.push, List.map_cons, List.map_nil, List.flatMap_cons, List.flatMap_nil, List.append_nil, List.cons_append, List.nil_append], fun hrow => ?_⟩
    simp only [Env.push, List.cons_append, List.nil_append, List.append_nil]
    have hll : l.length = n := by rw [hC.len, hn]
    refine den_br (fun c2 => ?_) fun c2 => ?_
    · simp only [Sy.dens, Sy.den, E.i, E.b, E.t, gd, Env.push, List.cons_append, List.nil_append, List.append_nil, Int.toNat_natCast, ltB_true] at c2
      refine den_chk (chk_le ?_) (den_chk (chk_le ?_) ?_)
      · simp only [Sy.dens, Sy.den, E.i, E.b, E.t, gd, Env.push, List.cons_append, List.nil_append, List.append_nil, Int.toNat_natCast]; omega
      · simp only [Sy.dens, Sy.den, E.i, E.b, E.t, gd, Env.push, List.cons_append, List.nil_append, List.append_nil, Int.toNat_natCast]; omega
      refine den_loop (fun g vs ls _ => ∃ (k : Nat) (l : List Vr.Ce), vs = [.int .i64 (2 * bs * k : Nat), .int .i64 (2 * bs * (k + 1) : Nat), .slice ad n c] ∧ ls = [l.flatMap Vr.Ce.enc] ∧ St.Cls Vr.lt xs l ∧ (∀ j, j < k → St.Srt Vr.lt (St.seg l (2 * bs * j) (2 * bs * (j + 1)))) ∧ (∀ j, 2 * k ≤ j → St.Srt Vr.lt (St.seg l (bs * j) (bs * (j + 1)))) ∧ 2 * bs * k ≤ n ∧ g = n - 2 * bs * k) n ⟨0, l, ?_, by simp only [rowConts, conts, Seg.den, gd, Env.push, List.map_cons, List.map_nil, List.flatMap_cons, List.flatMap_nil, List.append_nil, List.cons_append, List.nil_append], hC, fun j h => absurd h (by omega), fun j _ => hB j, by simp, by simp⟩ ?_
      · simp only [Sy.dens, Sy.den, E.i, E.b, E.t, gd, Env.push, List.cons_append, List.nil_append, List.append_nil, Int.toNat_natCast]; exact vs_eq2 (by simp) (by simp)
      rintro g vs ls W4 x4 ⟨k2, l4, rfl, rfl, hC4, hS4, hB4, hk4, rfl⟩
      refine ⟨(2 * bs * k2 : Nat), (2 * bs * (k2 + 1) : Nat), n, c, ad, l4.flatMap Vr.Ce.enc, rfl, by simp only [rowConts, conts, Seg.den, gd, Env.push, List.map_cons, List.map_nil, List.flatMap_cons, List.flatMap_nil, List.append_nil, List.cons_append, List.nil_append], fun hrow => ?_⟩
      simp only [Env.push, List.cons_append, List.nil_append, List.append_nil]
      have hl4 : l4.length = n := by rw [hC4.len, hn]
      obtain ⟨a, ha⟩ : ∃ a, a = 2 * bs * k2 := ⟨_, rfl⟩
      have ea : bs * (2 * k2) = a := by rw [ha, Nat.mul_assoc, Nat.mul_left_comm]
      have ea1 : bs * (2 * k2 + 1) = a + bs := by rw [Nat.mul_add, ea, Nat.mul_one]
      have ea2 : bs * (2 * k2 + 1 + 1) = a + 2 * bs := by rw [Nat.mul_add, ea1, Nat.mul_one]; omega
      have eb : 2 * bs * (k2 + 1) = a + 2 * bs := by rw [Nat.mul_add, ← ha, Nat.mul_one]
      have b1 := hB4 (2 * k2) (Nat.le_refl _)
      have b2 := hB4 (2 * k2 + 1) (by omega)
      rw [ea, ea1] at b1
      rw [ea1, ea2] at b2
      rw [eb, ← ha]
      rw [← ha] at hk4
      refine den_br (fun c3 => ?_) fun c3 => ?_
      · simp only [Sy.dens, Sy.den, E.i, E.b, E.t, gd, Env.push, List.cons_append, List.nil_append, List.append_nil, Int.toNat_natCast, leB_true] at c3
        refine den_chk (chk_le ?_) (den_chk (chk_le ?_) (den_row (xs := l4) (a := ad) (n := n) (c := c) _ (Nat.zero_le _) rfl rfl rfl rfl rfl (Nat.le_of_ble_eq_true rfl) (Nat.le_of_ble_eq_true rfl) (Nat.le_of_ble_eq_true rfl) (fun W2 _ ho2 hf2 => sym_s l4 a (a + bs) (a + 2 * bs) (by omega) (by omega) (by omega) (by omega) b1 b2 ad n c W2 ho2 hf2 _ _ _ rfl (by simp only [Sy.dens, Sy.den, E.i, E.b, E.t, gd, Env.push, List.cons_append, List.nil_append, List.append_nil, Int.toNat_natCast]; omega) rfl) fun xs' W5 hx5 x5 => ?_))
        · simp only [Sy.dens, Sy.den, E.i, E.b, E.t, gd, Env.push, List.cons_append, List.nil_append, List.append_nil, Int.toNat_natCast]; omega
        · simp only [Sy.dens, Sy.den, E.i, E.b, E.t, gd, Env.push, List.cons_append, List.nil_append, List.append_nil, Int.toNat_natCast]; omega
        obtain ⟨R, hR, rfl⟩ := hx5
        obtain ⟨q1, q2⟩ := St.blks_put (bs := 2 * bs) (k := k2) hS4 ha (by omega) (by omega) (.inl eb.symm) hR
        simp only [Env.push, List.cons_append, List.nil_append, List.append_nil]
        refine den_chk (chk_le ?_) (den_chk (chk_le ?_) (den_again ⟨n - 2 * bs * (k2 + 1), by omega, k2 + 1, St.put l4 a (a + 2 * bs) R, ?_, by simp only [rowConts, conts, Seg.den, gd, Env.push, List.map_cons, List.map_nil, List.flatMap_cons, List.flatMap_nil, List.append_nil, List.cons_append, List.nil_append], hC4.put (by omega) hR, q1, fun j hj => ?_, by omega, rfl⟩))
        · simp only [Sy.dens, Sy.den, E.i, E.b, E.t, gd, Env.push, List.cons_append, List.nil_append, List.append_nil, Int.toNat_natCast]; omega
        · simp only [Sy.dens, Sy.den, E.i, E.b, E.t, gd, Env.push, List.cons_append, List.nil_append, List.append_nil, Int.toNat_natCast]; omega
        · have e3 : 2 * bs * (k2 + 1 + 1) = a + 2 * bs + 2 * bs := by rw [Nat.mul_add, eb, Nat.mul_one]
          simp only [Sy.dens, Sy.den, E.i, E.b, E.t, gd, Env.push, List.cons_append, List.nil_append, List.append_nil, Int.toNat_natCast]; exact vs_eq2 (by omega) (by omega)
        · rw [q2 _ _ (by rw [← ea2]; exact Nat.mul_le_mul_left _ (by omega))]
          exact hB4 j (by omega)
      · simp only [Sy.dens, Sy.den, E.i, E.b, E.t, gd, Env.push, List.cons_append, List.nil_append, List.append_nil, Int.toNat_natCast, leB_false] at c3
        refine den_chk (chk_le ?_) (den_chk (chk_le ?_) (den_br (fun c4 => ?_) fun c4 => ?_))
        · simp only [Sy.dens, Sy.den, E.i, E.b, E.t, gd, Env.push, List.cons_append, List.nil_append, List.append_nil, Int.toNat_natCast]; omega
        · simp only [Sy.dens, Sy.den, E.i, E.b, E.t, gd, Env.push, List.cons_append, List.nil_append, List.append_nil, Int.toNat_natCast]; omega
        · simp only [Sy.dens, Sy.den, E.i, E.b, E.t, gd, Env.push, List.cons_append, List.nil_append, List.append_nil, Int.toNat_natCast, ltB_true] at c4
          have b2' : St.Srt Vr.lt (St.seg l4 (a + bs) n) := by
            rw [St.seg_sat (b' := a + 2 * bs) (by omega) (by omega)]; exact b2
          refine den_row (xs := l4) (a := ad) (n := n) (c := c) _ (Nat.zero_le _) rfl rfl rfl rfl rfl (Nat.le_of_ble_eq_true rfl) (Nat.le_of_ble_eq_true rfl) (Nat.le_of_ble_eq_true rfl) (fun W2 _ ho2 hf2 => sym_s l4 a (a + bs) n (by omega) (by omega) (by omega) (by omega) b1 b2' ad n c W2 ho2 hf2 _ _ _ rfl (by simp only [Sy.dens, Sy.den, E.i, E.b, E.t, gd, Env.push, List.cons_append, List.nil_append, List.append_nil, Int.toNat_natCast]; omega) rfl) fun xs' W5 hx5 x5 => ?_
          obtain ⟨R, hR, rfl⟩ := hx5
          obtain ⟨q1, q2⟩ := St.blks_put (bs := 2 * bs) (k := k2) hS4 ha (by omega) (by omega) (.inr ⟨hl4.symm, by omega⟩) hR
          have hC5 := hC4.put (a := a) (b := n) (by omega) hR
          simp only [Env.push, List.cons_append, List.nil_append, List.append_nil]
          refine den_chk (chk_le ?_) (den_chk (chk_le ?_) (den_again ⟨n - 2 * bs, by omega, 2 * bs, ((a : Nat) : Int), ((a + 2 * bs : Nat) : Int), St.put l4 a n R, ?_, by simp only [rowConts, conts, Seg.den, gd, Env.push, List.map_cons, List.map_nil, List.flatMap_cons, List.flatMap_nil, List.append_nil, List.cons_append, List.nil_append], hC5, fun j => ?_, by omega, by omega, rfl⟩))
          · simp only [Sy.dens, Sy.den, E.i, E.b, E.t, gd, Env.push, List.cons_append, List.nil_append, List.append_nil, Int.toNat_natCast]; omega
          · simp only [Sy.dens, Sy.den, E.i, E.b, E.t, gd, Env.push, List.cons_append, List.nil_append, List.append_nil, Int.toNat_natCast]; omega
          · simp only [Sy.dens, Sy.den, E.i, E.b, E.t, gd, Env.push, List.cons_append, List.nil_append, List.append_nil, Int.toNat_natCast]; exact vs_eq3 (by omega) rfl rfl
          · rcases Nat.lt_or_ge j (k2 + 1) with h | h
            · exact q1 j h
            · refine St.seg_srt_nil ?_
              rw [hC5.len, hn]
              have := Nat.mul_le_mul_left (2 * bs) h
              omega
        · simp only [Sy.dens, Sy.den, E.i, E.b, E.t, gd, Env.push, List.cons_append, List.nil_append, List.append_nil, Int.toNat_natCast, ltB_false] at c4
          refine den_chk (chk_le ?_) (den_chk (chk_le ?_) (den_again ⟨n - 2 * bs, by omega, 2 * bs, ((a : Nat) : Int), ((a + 2 * bs : Nat) : Int), l4, ?_, by simp only [rowConts, conts, Seg.den, gd, Env.push, List.map_cons, List.map_nil, List.flatMap_cons, List.flatMap_nil, List.append_nil, List.cons_append, List.nil_append], hC4, fun j => ?_, by omega, by omega, rfl⟩))
          · simp only [Sy.dens, Sy.den, E.i, E.b, E.t, gd, Env.push, List.cons_append, List.nil_append, List.append_nil, Int.toNat_natCast]; omega
          · simp only [Sy.dens, Sy.den, E.i, E.b, E.t, gd, Env.push, List.cons_append, List.nil_append, List.append_nil, Int.toNat_natCast]; omega
          · simp only [Sy.dens, Sy.den, E.i, E.b, E.t, gd, Env.push, List.cons_append, List.nil_append, List.append_nil, Int.toNat_natCast]; exact vs_eq3 (by omega) rfl rfl
          · rcases Nat.lt_or_ge j k2 with h | h
            · exact hS4 j h
            · by_cases e : j = k2
              · subst e
                rw [← ha, eb, St.seg_sat (b' := a + bs) (by omega) (by omega)]
                exact b1
              · refine St.seg_srt_nil ?_
                have := Nat.mul_le_mul_left (2 * bs) (show k2 + 1 ≤ j by omega)
                omega
    · simp only [Sy.dens, Sy.den, E.i, E.b, E.t, gd, Env.push, List.cons_append, List.nil_append, List.append_nil, Int.toNat_natCast, ltB_false] at c2
      refine den_ret fun _ _ hr => ⟨rfl, l, hC.of (hB.all (by omega)), ?_⟩
      have h1 := (hr _ (List.mem_cons_self ..)).1
      simp only [rowConts, conts, Seg.den, gd, Env.push, List.map_cons, List.map_nil, List.flatMap_cons, List.flatMap_nil, List.append_nil, List.cons_append, List.nil_append, Sy.den, E.i, Int.toNat_natCast] at h1
      exact h1
/-- slices.SortStableFunc -/
theorem srt_t (xs : List Vr.Ce) (hlen : xs.length ≤ 1000000) (ad : Option Addr) (n c : Nat) (W : Wd) (ho : Own W.w ad n c xs) (hf : Free W ad n c) :
    Turns 28 #[.slice ad n c, .func (.func 29) #[] #[]] W ad n c fun l => St.Of Vr.lt xs l := by
  refine vc_srt n c ad _ W _ ho (Vr.encs_one _) hf ?_
  refine den_row (xs := xs) (a := ad) (n := n) (c := c) _ (Nat.zero_le _) rfl rfl rfl rfl rfl (Nat.le_of_ble_eq_true rfl) (Nat.le_of_ble_eq_true rfl) (Nat.le_of_ble_eq_true rfl) (fun W2 _ ho2 hf2 => stab_t xs hlen ad n c W2 ho2 hf2) fun xs' W2 hx2 x2 => ?_
  simp only [Env.push, List.cons_append, List.nil_append, List.append_nil]
  refine den_ret fun _ _ hr => ⟨rfl, xs', hx2, ?_⟩
  have h1 := (hr _ (List.mem_cons_self ..)).1
  simp only [rowConts, conts, Seg.den, gd, Env.push, List.map_cons, List.map_nil, List.flatMap_cons, List.flatMap_nil, List.append_nil, List.cons_append, List.nil_append, Sy.den, E.i, Int.toNat_natCast] at h1
  exact h1
end Go.Proofs.Ytamnfdmmjjekhaa
