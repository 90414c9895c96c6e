/- The walks of the statements' own small functions of layer 9: num, text, is, no, works. -/
import Derived.Test.YtpekccomahikbaaVaTwoAny
namespace Go.Proofs.Ytpekccomahikbaa
open Go.RowKit Go.Own

/-- a block of three cells -/
def Box3 (B : Nat) (x y z : Value) (w : World) : Prop := B < w.heap.size ∧ w.cell? ⟨B, 0, none⟩ = some x ∧ w.cell? ⟨B, 1, none⟩ = some y ∧ w.cell? ⟨B, 2, none⟩ = some z
theorem Box3.up {B : Nat} {x y z : Value} {w w' : World} (h : Box3 B x y z w) (u : Up w w') : Box3 B x y z w' :=
  ⟨Nat.lt_of_lt_of_le h.1 u.size, u.keeps h.2.1 h.1, u.keeps h.2.2.1 h.1, u.keeps h.2.2.2 h.1⟩
theorem Box3.updrew {B : Nat} {x y z : Value} {w w' : World} (h : Box3 B x y z w) (u : Up w.drew w') : Box3 B x y z w' := h.up (Up.trans (Up.drew (Up.refl _)) u)
theorem Box3.new (x y z : Value) (w : World) (t : TypeId) : Box3 w.heap.size x y z (w.alloc (.cells #[x, y, z] t)) := by
  refine ⟨by simp, ?_, ?_, ?_⟩ <;> simp

theorem Box3.put {B : Nat} {x0 y0 z0 x y z : Value} {w : World} (h : Box3 B x0 y0 z0 w) : Box3 B x y z (((w.setCell ⟨B, 0, none⟩ x).setCell ⟨B, 1, none⟩ y).setCell ⟨B, 2, none⟩ z) := by
  obtain ⟨h0, h1, h2, h3⟩ := h
  have e1 : ((w.setCell ⟨B, 0, none⟩ x).setCell ⟨B, 1, none⟩ y).cell? ⟨B, 2, none⟩ = some z0 := by
    rw [World.cell?_setCell_other _ _ _ _ (fun c => by injection c with _ c; exact absurd c (by decide)), World.cell?_setCell_other _ _ _ _ (fun c => by injection c with _ c; exact absurd c (by decide)), h3]
  have e2 : (w.setCell ⟨B, 0, none⟩ x).cell? ⟨B, 1, none⟩ = some y0 := by
    rw [World.cell?_setCell_other _ _ _ _ (fun c => by injection c with _ c; exact absurd c (by decide)), h2]
  refine ⟨by simpa using h0, ?_, ?_, World.cell?_setCell_same _ _ _ e1⟩
  · rw [World.cell?_setCell_other _ _ _ _ (fun c => by injection c with _ c; exact absurd c (by decide)), World.cell?_setCell_other _ _ _ _ (fun c => by injection c with _ c; exact absurd c (by decide)), World.cell?_setCell_same _ _ _ h1]
  · rw [World.cell?_setCell_other _ _ _ _ (fun c => by injection c with _ c; exact absurd c (by decide)), World.cell?_setCell_same _ _ _ e2]

theorem lnum_any (n : Int) (w : World) :
    Calls Try.prog 11 #[.int .i64 n] w fun e w' => e = .returned (.agg #[.int .u8 1, .int .i64 n, .string ⟨#[]⟩]) ∧ Up w w' := by
  go_enter Try.func11, Try.ntmps11
  go_wp2
  exact bodyPost_ret (v := .agg #[.int .u8 1, .int .i64 n, .string ⟨#[]⟩]) (by simp [results, Try.results11, go_sem]) rfl ⟨rfl, by (repeat (first | exact Up.refl _ | assumption | refine Up.drew ?_ | refine Up.drewN ?_ _ | refine Up.alloc ?_ _ | refine Up.setCell ?_ (by simp <;> omega) _ | refine Up.trans ?_ (by assumption)))⟩

theorem ltext_any (s : ByteArray) (w : World) :
    Calls Try.prog 17 #[.string s] w fun e w' => e = .returned (.agg #[.int .u8 3, .int .i64 0, .string s]) ∧ Up w w' := by
  go_enter Try.func17, Try.ntmps17
  go_wp2
  exact bodyPost_ret (v := .agg #[.int .u8 3, .int .i64 0, .string s]) (by simp [results, Try.results17, go_sem]) rfl ⟨rfl, by (repeat (first | exact Up.refl _ | assumption | refine Up.drew ?_ | refine Up.drewN ?_ _ | refine Up.alloc ?_ _ | refine Up.setCell ?_ (by simp <;> omega) _ | refine Up.trans ?_ (by assumption)))⟩

/-- what Two comes to is told: one equation of plain Lean -/
theorem two_is (op ak an bk bn : Int) (at_ bt : ByteArray) (rk rn : Int) (rt : ByteArray) (re : Int) (h : Va.two op ⟨ak, an, at_⟩ ⟨bk, bn, bt⟩ = (⟨rk, rn, rt⟩, re)) (ha : Va.Fit an) (hb : Va.Fit bn) (hs : at_.size ≤ maxLen) (ht : bt.size ≤ maxLen) (w : World) :
    Calls Try.prog 8 #[.int .u8 op, .agg #[.int .u8 ak, .int .i64 an, .string at_], .agg #[.int .u8 bk, .int .i64 bn, .string bt]] w fun e w' => e = .returned (.tuple #[.agg #[.int .u8 rk, .int .i64 rn, .string rt], .int .i64 re]) ∧ Up w w' := by
  have := two_any op ak an bk bn at_ bt w ha hb hs ht
  rwa [h] at this

theorem no_yes (op ak an bk bn : Int) (at_ bt : ByteArray) (want : Int) (w : World) (h : Va.two op ⟨ak, an, at_⟩ ⟨bk, bn, bt⟩ = (⟨0, 0, ⟨#[]⟩⟩, want)) (ha : Va.Fit an) (hb : Va.Fit bn) (hs : at_.size ≤ maxLen) (ht : bt.size ≤ maxLen) :
    Calls Try.prog 31 #[.int .u8 op, .agg #[.int .u8 ak, .int .i64 an, .string at_], .agg #[.int .u8 bk, .int .i64 bn, .string bt], .int .i64 want] w fun e w' => e = .returned (.bool true) ∧ Up w w' := by
  have hm := Lib.hid (two_is op ak an bk bn at_ bt 0 0 ⟨#[]⟩ want h ha hb hs ht)
  clear h ha hb hs ht
  go_enter Try.func31, Try.ntmps31
  go_wp2_with fail
  refine (hm.out _).mono ?_; rintro e w1 ⟨rfl, u1⟩
  go_wp2_with fail
  go_ret
  exact ⟨rfl, by (repeat (first | exact Up.refl _ | assumption | refine Up.drew ?_ | refine Up.drewN ?_ _ | refine Up.alloc ?_ _ | refine Up.setCell ?_ (by simp <;> omega) _ | refine Up.trans ?_ (by assumption)))⟩

theorem is_yes (op ak an bk bn : Int) (at_ bt : ByteArray) (rk rn : Int) (rt : ByteArray) (w : World) (h : Va.two op ⟨ak, an, at_⟩ ⟨bk, bn, bt⟩ = (⟨rk, rn, rt⟩, 0)) (ha : Va.Fit an) (hb : Va.Fit bn) (hs : at_.size ≤ maxLen) (ht : bt.size ≤ maxLen) :
    Calls Try.prog 32 #[.int .u8 op, .agg #[.int .u8 ak, .int .i64 an, .string at_], .agg #[.int .u8 bk, .int .i64 bn, .string bt], .agg #[.int .u8 rk, .int .i64 rn, .string rt]] w fun e w' => e = .returned (.bool true) ∧ Up w w' := by
  have hm := Lib.hid (two_is op ak an bk bn at_ bt rk rn rt 0 h ha hb hs ht)
  clear h ha hb hs ht
  go_enter Try.func32, Try.ntmps32
  go_wp2_with fail
  refine (hm.out _).mono ?_; rintro e w1 ⟨rfl, u1⟩
  have hc1 := u1.cells
  have hz1 := u1.size
  simp at hz1
  have hl : w.heap.size + 1 + 1 < w1.heap.size := by omega
  go_wp2_with fail
  go_ret
  exact ⟨rfl, by (repeat (first | exact Up.refl _ | assumption | refine Up.drew ?_ | refine Up.drewN ?_ _ | refine Up.alloc ?_ _ | refine Up.setCell ?_ (by simp <;> omega) _ | refine Up.trans ?_ (by assumption)))⟩

theorem fit_lit {a : Int} (h : Va.inR a = true) : Va.Fit a := Va.Fit.iff.2 h

set_option maxRecDepth 100000 in
set_option maxHeartbeats 1600000 in
theorem works_any (w : World) :
    Calls Try.prog 10 #[] w fun e w' => e = .returned (.bool true) ∧ Up w w' := by
  go_enter Try.func10, Try.ntmps10
  go_wp2_with fail
  refine (lnum_any _ _).mono ?_; rintro e w1 ⟨rfl, u1⟩
  go_wp2_with fail
  refine (lnum_any _ _).mono ?_; rintro e w2 ⟨rfl, u2⟩
  go_wp2_with fail
  refine (no_yes 8 1 (9223372036854775807) 1 (1) ⟨#[]⟩ ⟨#[]⟩ 20 _ (by kernel_rfl) (fit_lit (by decide +kernel)) (fit_lit (by decide +kernel)) (by decide) (by decide)).mono ?_; rintro e w3 ⟨rfl, u3⟩
  go_wp2_with fail
  refine (lnum_any _ _).mono ?_; rintro e w4 ⟨rfl, u4⟩
  go_wp2_with fail
  refine (lnum_any _ _).mono ?_; rintro e w5 ⟨rfl, u5⟩
  go_wp2_with fail
  refine (lnum_any _ _).mono ?_; rintro e w6 ⟨rfl, u6⟩
  go_wp2_with fail
  refine (is_yes 6 1 (-7) 1 (2) ⟨#[]⟩ ⟨#[]⟩ 1 (-3) ⟨#[]⟩ _ (by kernel_rfl) (fit_lit (by decide +kernel)) (fit_lit (by decide +kernel)) (by decide) (by decide)).mono ?_; rintro e w7 ⟨rfl, u7⟩
  go_wp2_with fail
  refine (lnum_any _ _).mono ?_; rintro e w8 ⟨rfl, u8⟩
  go_wp2_with fail
  refine (lnum_any _ _).mono ?_; rintro e w9 ⟨rfl, u9⟩
  go_wp2_with fail
  refine (lnum_any _ _).mono ?_; rintro e w10 ⟨rfl, u10⟩
  go_wp2_with fail
  refine (is_yes 7 1 (-7) 1 (2) ⟨#[]⟩ ⟨#[]⟩ 1 (-1) ⟨#[]⟩ _ (by kernel_rfl) (fit_lit (by decide +kernel)) (fit_lit (by decide +kernel)) (by decide) (by decide)).mono ?_; rintro e w11 ⟨rfl, u11⟩
  go_wp2_with fail
  refine (lnum_any _ _).mono ?_; rintro e w12 ⟨rfl, u12⟩
  go_wp2_with fail
  refine (lnum_any _ _).mono ?_; rintro e w13 ⟨rfl, u13⟩
  go_wp2_with fail
  refine (no_yes 6 1 (-9223372036854775808) 1 (-1) ⟨#[]⟩ ⟨#[]⟩ 20 _ (by kernel_rfl) (fit_lit (by decide +kernel)) (fit_lit (by decide +kernel)) (by decide) (by decide)).mono ?_; rintro e w14 ⟨rfl, u14⟩
  go_wp2_with fail
  refine (lnum_any _ _).mono ?_; rintro e w15 ⟨rfl, u15⟩
  go_wp2_with fail
  refine (lnum_any _ _).mono ?_; rintro e w16 ⟨rfl, u16⟩
  go_wp2_with fail
  refine (no_yes 6 1 (1) 1 (0) ⟨#[]⟩ ⟨#[]⟩ 21 _ (by kernel_rfl) (fit_lit (by decide +kernel)) (fit_lit (by decide +kernel)) (by decide) (by decide)).mono ?_; rintro e w17 ⟨rfl, u17⟩
  go_wp2_with fail
  refine (ltext_any _ _).mono ?_; rintro e w18 ⟨rfl, u18⟩
  go_wp2_with fail
  refine (ltext_any _ _).mono ?_; rintro e w19 ⟨rfl, u19⟩
  go_wp2_with fail
  refine (ltext_any _ _).mono ?_; rintro e w20 ⟨rfl, u20⟩
  go_wp2_with fail
  refine (is_yes 8 3 (0) 3 (0) ⟨#[97]⟩ ⟨#[98]⟩ 3 (0) ⟨#[97, 98]⟩ _ (by kernel_rfl) (fit_lit (by decide +kernel)) (fit_lit (by decide +kernel)) (by decide) (by decide)).mono ?_; rintro e w21 ⟨rfl, u21⟩
  go_wp2_with fail
  refine (lnum_any _ _).mono ?_; rintro e w22 ⟨rfl, u22⟩
  go_wp2_with fail
  refine (ltext_any _ _).mono ?_; rintro e w23 ⟨rfl, u23⟩
  go_wp2_with fail
  refine (no_yes 9 1 (1) 3 (0) ⟨#[]⟩ ⟨#[97]⟩ 23 _ (by kernel_rfl) (fit_lit (by decide +kernel)) (fit_lit (by decide +kernel)) (by decide) (by decide)).mono ?_; rintro e w24 ⟨rfl, u24⟩
  go_wp2_with fail
  go_ret
  exact ⟨rfl, by (repeat (first | exact Up.refl _ | assumption | refine Up.drew ?_ | refine Up.drewN ?_ _ | refine Up.alloc ?_ _ | refine Up.setCell ?_ (by simp <;> omega) _ | refine Up.trans ?_ (by assumption)))⟩
end Go.Proofs.Ytpekccomahikbaa
