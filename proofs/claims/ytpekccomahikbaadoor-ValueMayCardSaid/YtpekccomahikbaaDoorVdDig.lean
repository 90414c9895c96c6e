/- The digits of a number by the document's answer are the library's numeral. -/
import Derived.Test.YtpekccomahikbaaDoorVdShow
namespace Va
open Go Go.Lib
/-- what stands between two rounds: the digits that are still to come, and those that there are -/
def DInv (D : List UInt8) (u0 u : Nat) (s : List UInt8) : Prop :=
  (u = 0 ∧ s = D ∧ s ≠ [] ∧ 2 * s.length ≤ u0 + 2) ∨ (decDigits u ++ s = D ∧ (u = 0 → s = [] ∧ u0 = 0) ∧ 2 * s.length + u ≤ u0)
theorem DInv.start (u : Nat) : DInv (decDigits u) u u [] := .inr ⟨List.append_nil _, fun h => ⟨rfl, h⟩, by simp⟩
theorem DInv.step {D : List UInt8} {u0 u : Nat} {s : List UInt8} (h : DInv D u0 u s) (hc : 0 < u ∨ s = []) : DInv D u0 (u / 10) (UInt8.ofNat (48 + u % 10) :: s) := by
  rcases h with ⟨rfl, _, hs, _⟩ | ⟨h1, h2, h3⟩
  · rcases hc with hc | hc
    · omega
    · exact absurd hc hs
  · by_cases hu : u < 10
    · left
      rw [decDigits, dif_pos hu] at h1
      refine ⟨by omega, ?_, by simp, by simp; omega⟩
      rw [Nat.mod_eq_of_lt hu]; exact h1
    · right
      rw [decDigits, dif_neg hu, List.append_assoc] at h1
      exact ⟨h1, fun h => by omega, by simp; omega⟩
theorem app1 (c : UInt8) (l : List UInt8) : (⟨#[c]⟩ : ByteArray) ++ (⟨l.toArray⟩ : ByteArray) = ⟨(c :: l).toArray⟩ := by
  apply ByteArray.ext; simp [ByteArray.data_append]
end Va
namespace Go.Proofs.YtpekccomahikbaaDoor
open Go Go.RowKit Go.SE
set_option linter.unusedSimpArgs false
set_option linter.unusedVariables false
theorem lsize (l : List UInt8) : (⟨l.toArray⟩ : ByteArray).size = l.length := by simp [ByteArray.size]
theorem u8w (a : Int) (h : 0 ≤ a) (h2 : a < 256) : IntKind.u8.wrap a = a := by
  have e : IntKind.u8.wrap a = a % 256 := by
    unfold IntKind.wrap
    simp [IntKind.bits, IntKind.signed]
  rw [e]; omega
theorem chr_neg (u : Nat) : (IntKind.u8.wrap (IntKind.i64.wrap (48 - (-(u : Int)).tmod 10))).toNat = 48 + u % 10 := by
  have h : (u : Int).tmod 10 = ((u % 10 : Nat) : Int) := rfl
  rw [Int.neg_tmod, h, w64, Va.Fit.wrap (by unfold Va.Fit; omega), u8w _ (by omega) (by omega)]
  omega
theorem chr_pos (u : Nat) : (IntKind.u8.wrap (IntKind.i64.wrap (48 + (u : Int).tmod 10))).toNat = 48 + u % 10 := by
  have h : (u : Int).tmod 10 = ((u % 10 : Nat) : Int) := rfl
  rw [h, w64, Va.Fit.wrap (by unfold Va.Fit; omega), u8w _ (by omega) (by omega)]
  omega
theorem digits_q (n : Int) (hn : Va.Fit n) (W : Wd) : CallsQ Tryd.prog 32 #[.int .i64 n] W (.string ⟨(Lib.itoa n).toArray⟩) :=
  .of_i (by
    refine vc_digits n W _ ?_
    unfold Va.Fit at hn
    refine den_br (fun c => ?_) fun c => ?_
    · simp only [Sy.dens, Sy.den, E.i, E.b, E.t, gd, Env.push, List.cons_append, List.nil_append, List.append_nil, Int.toNat_natCast, ltB_true] at c
      refine den_loop (fun j vs _ => ∃ (u : Nat) (s : List UInt8), vs = [.string ⟨s.toArray⟩, .int .i64 (-(u : Int))] ∧ j = u ∧ u ≤ n.natAbs ∧ Va.DInv (Lib.decDigits n.natAbs) n.natAbs u s) n.natAbs ⟨n.natAbs, [], by simp only [Sy.dens, Sy.den, E.i, E.b, E.t, gd, Env.push, List.cons_append, List.nil_append, List.append_nil, Int.toNat_natCast]; rw [show -(n.natAbs : Int) = n by omega], rfl, Nat.le_refl _, Va.DInv.start _⟩ ?_
      rintro j vs W' x ⟨u, s, rfl, rfl, hu, hd⟩
      refine ⟨-(j : Int), ⟨s.toArray⟩, rfl, den_br (fun c => ?_) fun c => ?_⟩
      · simp only [Sy.dens, Sy.den, E.i, E.b, E.t, gd, Env.push, List.cons_append, List.nil_append, List.append_nil, Int.toNat_natCast, Bool.not_eq_true', beq_eq_false_iff_ne, ne_eq] at c
        have hl : 2 * s.length + j ≤ n.natAbs := by
          rcases hd with ⟨h, _⟩ | ⟨_, _, h⟩
          · omega
          · exact h
        refine den_new fun m W' x => den_chk ?_ (den_again ⟨j / 10, by omega, j / 10, _, ?_, rfl, by omega, hd.step (.inl (by omega))⟩)
        · simp only [Sy.dens, Sy.den, E.i, E.b, E.t, gd, Env.push, List.cons_append, List.nil_append, List.append_nil, Int.toNat_natCast, leB_true, lsize]
          show (1 : Int) + _ ≤ _
          omega
        · simp only [Sy.dens, Sy.den, E.i, E.b, E.t, gd, Env.push, List.cons_append, List.nil_append, List.append_nil, Int.toNat_natCast]
          rw [chr_neg, Va.app1, Int.neg_tdiv, w64, Va.Fit.wrap (by unfold Va.Fit; have : (j : Int).tdiv 10 = ((j / 10 : Nat) : Int) := rfl; omega)]
          rfl
      · simp only [Sy.dens, Sy.den, E.i, E.b, E.t, gd, Env.push, List.cons_append, List.nil_append, List.append_nil, Int.toNat_natCast, Bool.not_eq_false', beq_iff_eq] at c
        have hj : j = 0 := by omega
        subst hj
        rcases hd with ⟨_, h2, _, h4⟩ | ⟨_, h2, _⟩
        · refine den_chk ?_ (den_ret fun _ _ _ _ _ => ?_)
          · simp only [Sy.dens, Sy.den, E.i, E.b, E.t, gd, Env.push, List.cons_append, List.nil_append, List.append_nil, Int.toNat_natCast, leB_true, lsize]
            show (1 : Int) + _ ≤ _
            omega
          · simp only [Sy.dens, Sy.den, E.i, E.b, E.t, gd, Env.push, List.cons_append, List.nil_append, List.append_nil, Int.toNat_natCast]
            rw [h2]
            show Value.string ((⟨#[45]⟩ : ByteArray) ++ _) = _
            rw [Va.app1, Lib.itoa, if_pos (by omega)]
        · have := (h2 rfl).2
          omega
    · simp only [Sy.dens, Sy.den, E.i, E.b, E.t, gd, Env.push, List.cons_append, List.nil_append, List.append_nil, Int.toNat_natCast, ltB_false] at c
      refine den_loop (fun j vs _ => ∃ (u : Nat) (s : List UInt8), vs = [.string ⟨s.toArray⟩, .int .i64 (u : Int)] ∧ j = u + (if s = [] then 1 else 0) ∧ u ≤ n.toNat ∧ Va.DInv (Lib.decDigits n.toNat) n.toNat u s) (n.toNat + 1) ⟨n.toNat, [], by simp only [Sy.dens, Sy.den, E.i, E.b, E.t, gd, Env.push, List.cons_append, List.nil_append, List.append_nil, Int.toNat_natCast]; rw [show (n.toNat : Int) = n by omega], rfl, Nat.le_refl _, Va.DInv.start _⟩ ?_
      rintro j vs W' x ⟨u, s, rfl, rfl, hu, hd⟩
      refine ⟨(u : Int), ⟨s.toArray⟩, rfl, den_br (fun c => ?_) fun c => ?_⟩
      · have c : 0 < u ∨ s = [] := by simpa [E.i, E.b, E.t, gd, Env.push, ltB] using c
        have hl : 2 * s.length + u ≤ n.toNat := by
          rcases hd with ⟨h, _, h2, _⟩ | ⟨_, _, h⟩
          · rcases c with c | c
            · omega
            · exact absurd c h2
          · exact h
        refine den_new fun m W' x => den_chk ?_ (den_again ⟨u / 10, ?_, u / 10, _, ?_, rfl, by omega, hd.step c⟩)
        · simp only [Sy.dens, Sy.den, E.i, E.b, E.t, gd, Env.push, List.cons_append, List.nil_append, List.append_nil, Int.toNat_natCast, leB_true, lsize]
          show (1 : Int) + _ ≤ _
          omega
        · rcases c with c | c
          · omega
          · rw [if_pos c]; omega
        · simp only [Sy.dens, Sy.den, E.i, E.b, E.t, gd, Env.push, List.cons_append, List.nil_append, List.append_nil, Int.toNat_natCast]
          rw [chr_pos, Va.app1, w64, Va.Fit.wrap (by unfold Va.Fit; have : (u : Int).tdiv 10 = ((u / 10 : Nat) : Int) := rfl; omega)]
          rfl
      · have c : ¬ (0 < u ∨ s = []) := by simpa [E.i, E.b, E.t, gd, Env.push, ltB] using c
        refine den_ret fun _ _ _ _ _ => ?_
        rcases hd with ⟨_, h2, _, h4⟩ | ⟨_, h2, _⟩
        · simp only [Sy.dens, Sy.den, E.i, E.b, E.t, gd, Env.push, List.cons_append, List.nil_append, List.append_nil, Int.toNat_natCast]
          rw [h2, Lib.itoa, if_neg (by omega)]
        · exact absurd (.inr (h2 (by omega)).1) c)
theorem rshow_q (k n : Int) (t : ByteArray) (hn : Va.Fit n) (ht : t.size ≤ 2000) (W : Wd) : CallsQ Tryd.prog 15 #[.agg #[.int .u8 k, .int .i64 n, .string t]] W (.string (Va.shown ⟨k, n, t⟩)) :=
  .of_i (by
    refine vc_rshow k n t W _ ?_
    refine den_new fun m W' x => den_br (fun c => ?_) fun c => ?_
    · refine den_call fun _ => .of_q (digits_q n hn W') fun W' x => ⟨⟨(Lib.itoa n).toArray⟩, rfl, ?_⟩
      repeat' (first | (with_reducible refine den_br (fun _ => ?_) (fun _ => ?_)) | (with_reducible refine den_new fun _ _ _ => ?_) | (with_reducible refine den_wr fun _ _ => ?_) | (with_reducible refine den_grow fun _ _ => ?_) | (with_reducible refine den_ret fun _ _ _ _ _ => ?_))
      simp only [Sy.dens, Sy.den, E.i, E.b, E.t, gd, Env.push, List.cons_append, List.nil_append, List.append_nil, Int.toNat_natCast] at *
      simp_all [Va.shown]
    · repeat' (first | (with_reducible refine den_br (fun _ => ?_) (fun _ => ?_)) | (with_reducible refine den_new fun _ _ _ => ?_) | (with_reducible refine den_wr fun _ _ => ?_) | (with_reducible refine den_grow fun _ _ => ?_) | (with_reducible refine den_ret fun _ _ _ _ _ => ?_))
      all_goals try ((with_reducible refine den_chk ?_ (den_chk ?_ (den_ret fun _ _ _ _ _ => ?_))))
      all_goals simp only [Sy.dens, Sy.den, E.i, E.b, E.t, gd, Env.push, List.cons_append, List.nil_append, List.append_nil, Int.toNat_natCast] at *
      all_goals simp_all [Va.shown, leB, ByteArray.size_append]
      all_goals (have e1 : (⟨#[39]⟩ : ByteArray).size = 1 := rfl; rw [e1]; omega))
end Go.Proofs.YtpekccomahikbaaDoor
