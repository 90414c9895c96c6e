/- slices.SortStableFunc at cells: the insertion sort. -/
import Derived.Test.YtamnfdmmjjekhaaVrSort
namespace Go.Proofs.Ytamnfdmmjjekhaa
open Go Go.RowKit Go.SF
set_option linter.unusedSimpArgs false
set_option linter.unusedVariables false
theorem vs_eq1 {x x' : Int} (h1 : x = x') {s : Value} : [Value.int .i64 x, s] = [Value.int .i64 x', s] := by rw [h1]
theorem ins_t (A X B : List Vr.Ce) (hlen : A.length + X.length + B.length ≤ 1000000) (ad : Option Addr) (n c : Nat) (W : Wd) (ho : Own W.w ad n c (A ++ X ++ B)) (hf : Free W ad n c) (i j : Int) (hi : i = (A.length : Nat)) (hj : j = (A.length + X.length : Nat)) :
    Turns 54 #[.slice ad n c, .int .i64 i, .int .i64 j, .func (.func 29) #[] #[]] W ad n c fun xs => ∃ R, St.Of Vr.lt X R ∧ xs = A ++ R ++ B := by
  have hn := ho.len
  simp only [List.length_append] at hn
  refine vc_ins i j n c ad _ W _ ho (Vr.encs_one _) hf ?_
  subst hi hj
  refine den_chk (chk_le ?_) (den_chk (chk_le ?_) ?_)
  · simp only [Sy.dens, Sy.den, E.i, E.b, E.t, gd, Env.push, List.cons_append, List.nil_append, List.append_nil, Int.toNat_natCast]; omega
  · simp only [Sy.dens, Sy.den, E.i, E.b, E.t, gd, Env.push, List.cons_append, List.nil_append, List.append_nil, Int.toNat_natCast]; omega
  refine den_loop (fun g vs ls _ => ∃ (t : Nat) (R : List Vr.Ce), vs = [.int .i64 (A.length + t : Nat), .slice ad n c] ∧ ls = [(A ++ R ++ X.drop t ++ B).flatMap Vr.Ce.enc] ∧ St.Of Vr.lt (X.take t) R ∧ 1 ≤ t ∧ (t ≤ X.length ∨ X = []) ∧ g = X.length - t) (X.length - 1) ⟨1, X.take 1, ?_, ?_, ?_, Nat.le_refl _, ?_, ?_⟩ ?_
  · simp only [Sy.dens, Sy.den, E.i, E.b, E.t, gd, Env.push, List.cons_append, List.nil_append, List.append_nil, Int.toNat_natCast]; exact vs_eq1 (by omega)
  · rw [show A ++ X.take 1 ++ X.drop 1 ++ B = A ++ X ++ B from by rw [List.append_assoc A, List.take_append_drop]]; simp only [rowConts, conts, Seg.den, gd, Env.push, List.map_cons, List.map_nil, List.flatMap_cons, List.flatMap_nil, List.append_nil, List.cons_append, List.nil_append]
  · refine St.Of.refl ?_
    rcases X with _ | ⟨x, X⟩ <;> simp [St.Srt]
  · rcases X with _ | ⟨x, X⟩
    · exact .inr rfl
    · simp
  · rfl
  rintro g vs ls W1 x1 ⟨t, R, rfl, rfl, hR, ht, htX, rfl⟩
  refine ⟨(A.length + t : Nat), n, c, ad, (A ++ R ++ X.drop t ++ B).flatMap Vr.Ce.enc, rfl, by simp only [rowConts, conts, Seg.den, gd, Env.push, List.map_cons, List.map_nil, List.flatMap_cons, List.flatMap_nil, List.append_nil, List.cons_append, List.nil_append], fun hrow => ?_⟩
  simp only [Env.push, List.cons_append, List.nil_append, List.append_nil]
  refine den_br (fun c1 => ?_) fun c1 => ?_
  · simp only [Sy.dens, Sy.den, E.i, E.b, E.t, gd, Env.push, List.cons_append, List.nil_append, List.append_nil, Int.toNat_natCast, ltB_true] at c1
    have hlt : t < X.length := by omega
    have hRl : R.length = t := by rw [hR.len, List.length_take]; omega
    have hX : X.drop t = X[t] :: X.drop (t + 1) := List.drop_eq_getElem_cons hlt
    refine den_loop (fun g' vs ls _ => ∃ R1 R2 : List Vr.Ce, R = R1 ++ R2 ∧ vs = [.int .i64 (A.length + R1.length : Nat), .slice ad n c] ∧ ls = [(A ++ R1 ++ X[t] :: (R2 ++ X.drop (t + 1) ++ B)).flatMap Vr.Ce.enc] ∧ (∀ r ∈ R2, Vr.lt X[t] r = true) ∧ g' = R1.length) R.length ⟨R, [], by simp, ?_, ?_, by simp, rfl⟩ ?_
    · simp only [Sy.dens, Sy.den, E.i, E.b, E.t, gd, Env.push, List.cons_append, List.nil_append, List.append_nil, Int.toNat_natCast]; exact vs_eq1 (by omega)
    · rw [hX]; simp only [List.append_assoc, List.cons_append, List.nil_append, rowConts, conts, Seg.den, gd, Env.push, List.map_cons, List.map_nil, List.flatMap_cons, List.flatMap_nil, List.append_nil, List.cons_append, List.nil_append]
    rintro g' vs ls W2 x2 ⟨R1, R2, rfl, rfl, rfl, hR2, rfl⟩
    simp only [List.length_append] at hRl
    refine ⟨(A.length + R1.length : Nat), n, c, ad, (A ++ R1 ++ X[t] :: (R2 ++ X.drop (t + 1) ++ B)).flatMap Vr.Ce.enc, rfl, by simp only [rowConts, conts, Seg.den, gd, Env.push, List.map_cons, List.map_nil, List.flatMap_cons, List.flatMap_nil, List.append_nil, List.cons_append, List.nil_append], fun hrow => ?_⟩
    simp only [Env.push, List.cons_append, List.nil_append, List.append_nil]
    have hpre : ∀ p : Prop, ∀ b : Bool, (A.length < A.length + R1.length → b = true) → (E.bin .bor (.un .not (.bin .lt (.iv 0) (.iv 3))) (.bl b)).b { I := [(A.length : Nat), (A.length + X.length : Nat), (A.length + t : Nat), (A.length + R1.length : Nat)] } = true := fun p b h => by
      simp only [Sy.dens, Sy.den, E.i, E.b, E.t, gd, Env.push, List.cons_append, List.nil_append, List.append_nil, Int.toNat_natCast, Bool.or_eq_true, Bool.not_eq_true']
      rcases Nat.lt_or_ge A.length (A.length + R1.length) with h1 | h1
      · right; exact h h1
      · left; exact ltB_f (by omega)
    have done : ∀ y : Unit, (∀ y, R1.getLast? = some y → Vr.lt X[t] y = false) → ∃ n', n' < X.length - t ∧ ∃ (t' : Nat) (R' : List Vr.Ce), [Value.int .i64 ((A.length + t : Nat) + 1 : Int), .slice ad n c] = [.int .i64 (A.length + t' : Nat), .slice ad n c] ∧ [(A ++ R1 ++ X[t] :: (R2 ++ X.drop (t + 1) ++ B)).flatMap Vr.Ce.enc] = [(A ++ R' ++ X.drop t' ++ B).flatMap Vr.Ce.enc] ∧ St.Of Vr.lt (X.take t') R' ∧ 1 ≤ t' ∧ (t' ≤ X.length ∨ X = []) ∧ n' = X.length - t' := fun _ hl => by
      refine ⟨X.length - (t + 1), by omega, t + 1, R1 ++ X[t] :: R2, vs_eq1 (by omega), ?_, ?_, by omega, .inl hlt, rfl⟩
      · simp only [List.append_assoc, List.cons_append]
      · rw [List.take_succ_eq_append_getElem hlt]
        exact St.ins_at Vr.wo hR hR2 hl
    have hnl : n = A.length + X.length + B.length := hn.symm
    refine den_chk ?_ (den_chk ?_ (den_chk ?_ (den_br (fun c2 => ?_) fun c2 => ?_)))
    · simp only [Sy.dens, Sy.den, E.i, E.b, E.t, gd, Env.push, List.cons_append, List.nil_append, List.append_nil, Int.toNat_natCast, Bool.or_eq_true, Bool.not_eq_true']
      right
      have : 0 < n := by omega
      exact ho.isSome this
    · simp only [Sy.dens, Sy.den, E.i, E.b, E.t, gd, Env.push, List.cons_append, List.nil_append, List.append_nil, Int.toNat_natCast, Bool.or_eq_true, Bool.not_eq_true']
      exact .inr (leB_t (by omega))
    · simp only [Sy.dens, Sy.den, E.i, E.b, E.t, gd, Env.push, List.cons_append, List.nil_append, List.append_nil, Int.toNat_natCast, Bool.or_eq_true, Bool.not_eq_true']
      exact .inr (ltB_t (by omega))
    · simp only [Sy.dens, Sy.den, E.i, E.b, E.t, gd, Env.push, List.cons_append, List.nil_append, List.append_nil, Int.toNat_natCast, ltB_true] at c2
      obtain ⟨Q, y, rfl⟩ : ∃ Q y, R1 = Q ++ [y] := by
        rcases List.eq_nil_or_concat R1 with rfl | ⟨Q, y, h⟩
        · simp at c2
        · exact ⟨Q, y, by rw [h, List.concat_eq_append]⟩
      have el : A ++ (Q ++ [y]) ++ X[t] :: (R2 ++ X.drop (t + 1) ++ B) = (A ++ Q) ++ y :: ([] ++ X[t] :: (R2 ++ X.drop (t + 1) ++ B)) := by simp only [List.append_assoc, List.cons_append, List.nil_append]
      have ql : (Q ++ [y]).length = Q.length + 1 := by simp
      refine den_rlook_row X[t] (xs := A ++ (Q ++ [y]) ++ X[t] :: (R2 ++ X.drop (t + 1) ++ B)) (j := A.length + (Q.length + 1)) rfl ?_ ?_ rfl ?_
      · simp only [Sy.dens, Sy.den, E.i, E.b, E.t, gd, Env.push, List.cons_append, List.nil_append, List.append_nil, Int.toNat_natCast]; omega
      · rw [el]; exact St.at_snd _ _ _ _ _ (by simp; omega)
      simp only [Env.push, List.cons_append, List.nil_append, List.append_nil]
      refine den_chk (chk_le ?_) (den_chk (chk_le ?_) (den_chk (chk_le ?_) (den_chk (chk_lt ?_) (den_rlook_row y (xs := A ++ (Q ++ [y]) ++ X[t] :: (R2 ++ X.drop (t + 1) ++ B)) (j := A.length + Q.length) rfl ?_ ?_ rfl ?_))))
      · simp only [Sy.dens, Sy.den, E.i, E.b, E.t, gd, Env.push, List.cons_append, List.nil_append, List.append_nil, Int.toNat_natCast]; omega
      · simp only [Sy.dens, Sy.den, E.i, E.b, E.t, gd, Env.push, List.cons_append, List.nil_append, List.append_nil, Int.toNat_natCast]; omega
      · simp only [Sy.dens, Sy.den, E.i, E.b, E.t, gd, Env.push, List.cons_append, List.nil_append, List.append_nil, Int.toNat_natCast]; omega
      · simp only [Sy.dens, Sy.den, E.i, E.b, E.t, gd, Env.push, List.cons_append, List.nil_append, List.append_nil, Int.toNat_natCast]; omega
      · simp only [Sy.dens, Sy.den, E.i, E.b, E.t, gd, Env.push, List.cons_append, List.nil_append, List.append_nil, Int.toNat_natCast]; omega
      · rw [el]; exact St.at_fst _ _ _ (by simp)
      simp only [Env.push, List.cons_append, List.nil_append, List.append_nil]
      refine den_callq ⟨Vr.cmp X[t] y, fun V _ _ _ => ocmp_q X[t] y V, ?_⟩
      simp only [Env.push, List.cons_append, List.nil_append, List.append_nil]
      have hcmp := Vr.cmp_lt X[t] y
      refine den_grow fun W3 x3 => den_br (fun c3 => ?_) fun c3 => ?_
      · have c3 : Vr.lt X[t] y = true := by rw [← hcmp]; simp only [Sy.dens, Sy.den, E.i, E.b, E.t, gd, Env.push, List.cons_append, List.nil_append, List.append_nil, Int.toNat_natCast] at c3; exact c3
        refine den_rlook_row y (xs := A ++ (Q ++ [y]) ++ X[t] :: (R2 ++ X.drop (t + 1) ++ B)) (j := A.length + Q.length) rfl ?_ ?_ rfl ?_
        · simp only [Sy.dens, Sy.den, E.i, E.b, E.t, gd, Env.push, List.cons_append, List.nil_append, List.append_nil, Int.toNat_natCast]; omega
        · rw [el]; exact St.at_fst _ _ _ (by simp)
        simp only [Env.push, List.cons_append, List.nil_append, List.append_nil]
        refine den_rlook_row X[t] (xs := A ++ (Q ++ [y]) ++ X[t] :: (R2 ++ X.drop (t + 1) ++ B)) (j := A.length + (Q.length + 1)) rfl ?_ ?_ rfl ?_
        · simp only [Sy.dens, Sy.den, E.i, E.b, E.t, gd, Env.push, List.cons_append, List.nil_append, List.append_nil, Int.toNat_natCast]; omega
        · rw [el]; exact St.at_snd _ _ _ _ _ (by simp; omega)
        simp only [Env.push, List.cons_append, List.nil_append, List.append_nil]
        refine den_grow fun W4 x4 => den_rset_row y (xs := A ++ (Q ++ [y]) ++ X[t] :: (R2 ++ X.drop (t + 1) ++ B)) (j := A.length + (Q.length + 1)) rfl ?_ (by simp only [List.length_append, List.length_cons]; omega) rfl fun W5 x5 => ?_
        · simp only [Sy.dens, Sy.den, E.i, E.b, E.t, gd, Env.push, List.cons_append, List.nil_append, List.append_nil, Int.toNat_natCast]; omega
        simp only [Env.push, List.cons_append, List.nil_append, List.append_nil]
        refine den_grow fun W6 x6 => den_rset_row X[t] (xs := (A ++ (Q ++ [y]) ++ X[t] :: (R2 ++ X.drop (t + 1) ++ B)).set (A.length + (Q.length + 1)) y) (j := A.length + Q.length) rfl ?_ (by simp only [List.length_set, List.length_append, List.length_cons]; omega) rfl fun W7 x7 => ?_
        · simp only [Sy.dens, Sy.den, E.i, E.b, E.t, gd, Env.push, List.cons_append, List.nil_append, List.append_nil, Int.toNat_natCast]; omega
        simp only [Env.push, List.cons_append, List.nil_append, List.append_nil]
        have sw := St.swap_at' (A ++ Q) [] (R2 ++ X.drop (t + 1) ++ B) y X[t] (i := A.length + Q.length) (j := A.length + (Q.length + 1)) (by simp) (by simp; omega)
        rw [← el] at sw
        refine den_again ⟨Q.length, by omega, Q, y :: R2, by simp, ?_, ?_, fun r hr => ?_, rfl⟩
        · simp only [Sy.dens, Sy.den, E.i, E.b, E.t, gd, Env.push, List.cons_append, List.nil_append, List.append_nil, Int.toNat_natCast]; exact vs_eq1 (by omega)
        · simp only [rowConts, conts, Seg.den, gd, Env.push, List.map_cons, List.map_nil, List.flatMap_cons, List.flatMap_nil, List.append_nil, List.cons_append, List.nil_append, sw]
        · rcases List.mem_cons.1 hr with rfl | h
          · exact c3
          · exact hR2 r h
      · have c3 : Vr.lt X[t] y = false := by rw [← hcmp]; simp only [Sy.dens, Sy.den, E.i, E.b, E.t, gd, Env.push, List.cons_append, List.nil_append, List.append_nil, Int.toNat_natCast] at c3; exact c3
        refine den_chk (chk_le ?_) (den_chk (chk_le ?_) (den_again ?_))
        · simp only [Sy.dens, Sy.den, E.i, E.b, E.t, gd, Env.push, List.cons_append, List.nil_append, List.append_nil, Int.toNat_natCast]; omega
        · simp only [Sy.dens, Sy.den, E.i, E.b, E.t, gd, Env.push, List.cons_append, List.nil_append, List.append_nil, Int.toNat_natCast]; omega
        · have := done () fun z hz => by
            simp at hz; subst hz; exact c3
          simp only [Sy.dens, Sy.den, E.i, E.b, E.t, gd, Env.push, List.cons_append, List.nil_append, List.append_nil, Int.toNat_natCast, rowConts, conts, Seg.den, gd, Env.push, List.map_cons, List.map_nil, List.flatMap_cons, List.flatMap_nil, List.append_nil, List.cons_append, List.nil_append]
          exact this
    · simp only [Sy.dens, Sy.den, E.i, E.b, E.t, gd, Env.push, List.cons_append, List.nil_append, List.append_nil, Int.toNat_natCast, ltB_false] at c2
      have h0 : R1 = [] := List.eq_nil_of_length_eq_zero (by omega)
      refine den_grow fun W3 x3 => den_chk (chk_le ?_) (den_chk (chk_le ?_) (den_again ?_))
      · simp only [Sy.dens, Sy.den, E.i, E.b, E.t, gd, Env.push, List.cons_append, List.nil_append, List.append_nil, Int.toNat_natCast]; omega
      · simp only [Sy.dens, Sy.den, E.i, E.b, E.t, gd, Env.push, List.cons_append, List.nil_append, List.append_nil, Int.toNat_natCast]; omega
      · have := done () fun z hz => by rw [h0] at hz; cases hz
        simp only [Sy.dens, Sy.den, E.i, E.b, E.t, gd, Env.push, List.cons_append, List.nil_append, List.append_nil, Int.toNat_natCast, rowConts, conts, Seg.den, gd, Env.push, List.map_cons, List.map_nil, List.flatMap_cons, List.flatMap_nil, List.append_nil, List.cons_append, List.nil_append]
        exact this
  · simp only [Sy.dens, Sy.den, E.i, E.b, E.t, gd, Env.push, List.cons_append, List.nil_append, List.append_nil, Int.toNat_natCast, ltB_false] at c1
    refine den_ret fun _ _ hr => ⟨rfl, _, ⟨R, ?_, rfl⟩, ?_⟩
    · have : X.take t = X := List.take_of_length_le (by omega)
      rw [this] at hR; exact hR
    · have h1 := (hr _ (List.mem_cons_self ..)).1
      rw [List.drop_of_length_le (by omega), List.append_nil] at h1
      simp only [rowConts, conts, Seg.den, gd, Env.push, List.map_cons, List.map_nil, List.flatMap_cons, List.flatMap_nil, List.append_nil, List.cons_append, List.nil_append, Sy.den, E.i, Int.toNat_natCast] at h1
      exact h1
end Go.Proofs.Ytamnfdmmjjekhaa
