/- The document's text of a tree, and whether it may be (written by wip/gen_pxtrb.py). -/
import Derived.Test.YtckgdgkkmhochaaGreatDoorPxTrA
namespace Va
open Go Go.Lib
/-- what stands between two rounds: the digits that are still to come, and those that there are -/
def DInv (D : List UInt8) (u0 u : Nat) (s : List UInt8) : Prop :=
  (u = 0 ∧ s = D ∧ s ≠ [] ∧ 2 * s.length ≤ u0 + 2) ∨ (decDigits u ++ s = D ∧ (u = 0 → s = [] ∧ u0 = 0) ∧ 2 * s.length + u ≤ u0)
theorem DInv.start (u : Nat) : DInv (decDigits u) u u [] := .inr ⟨List.append_nil _, fun h => ⟨rfl, h⟩, by simp⟩
theorem DInv.step {D : List UInt8} {u0 u : Nat} {s : List UInt8} (h : DInv D u0 u s) (hc : 0 < u ∨ s = []) : DInv D u0 (u / 10) (UInt8.ofNat (48 + u % 10) :: s) := by
  rcases h with ⟨rfl, _, hs, _⟩ | ⟨h1, h2, h3⟩
  · rcases hc with hc | hc
    · omega
    · exact absurd hc hs
  · by_cases hu : u < 10
    · left
      rw [decDigits, dif_pos hu] at h1
      refine ⟨by omega, ?_, by simp, by simp; omega⟩
      rw [Nat.mod_eq_of_lt hu]; exact h1
    · right
      rw [decDigits, dif_neg hu, List.append_assoc] at h1
      exact ⟨h1, fun h => by omega, by simp; omega⟩
theorem app1 (c : UInt8) (l : List UInt8) : (⟨#[c]⟩ : ByteArray) ++ (⟨l.toArray⟩ : ByteArray) = ⟨(c :: l).toArray⟩ := by
  apply ByteArray.ext; simp [ByteArray.data_append]
end Va
set_option linter.unusedVariables false
namespace Px
open Go
open Lx hiding none run first may
def levelX (o : Int) : Int × Bs := match by_ [110, 111, 110, 101] o with
  | some b => (b.2.2 - 1, b.1)
  | none => if o = 3 then (5, [45]) else if o = 4 then (5, [33]) else (6, [])
theorem level_sg : ∀ l, l < 5 → ∀ s ∈ sgsAt l, levelX (opX s) = ((l : Int), s) := by decide
theorem sg_level {o : Int} (h : ∀ l, l < 5 → ∀ s ∈ sgsAt l, ¬ opX s = o) : by_ [110, 111, 110, 101] o = none := by
  refine List.find?_eq_none.2 fun b hb => ?_
  have h1 : ∀ b ∈ binds, b.1 ∈ sgsAt (b.2.2 - 1).toNat ∧ (b.2.2 - 1).toNat < 5 ∧ opX b.1 = b.2.1 ∧ ¬ b.1 = [110, 111, 110, 101] := by decide
  obtain ⟨k1, k2, k3, k4⟩ := h1 b hb
  have := h _ k2 _ k1
  rw [k3] at this
  simp [this, k4]
theorem level_much (e : Ex) : (levelX (opOf e)).1 = much e - 1 := by
  unfold levelX much
  cases by_ [110, 111, 110, 101] (opOf e) with
  | some b => rfl
  | none =>
    simp only
    by_cases h3 : opOf e = 3
    · simp [h3]
    · by_cases h4 : opOf e = 4 <;> simp [h3, h4]
/-- what a tree that is no leaf is refused for -/
def refuses (o k n : Int) (t nm : Bs) (len : Nat) : Bool := ((((decide (o < 1) || decide (16 < o)) || !((len : Int) == (argsOf o : Nat))) || !((k == 0) && ((n == 0) && (t == [])))) || !(nm == []))
theorem word_nil : word [] = false := by decide
theorem head_no {o k n : Int} {t nm : Bs} {l : List Ex} (h1 : ¬ o = 1) (h2 : ¬ o = 2) : head (.mk o k n t nm l) = !refuses o k n t nm l.length := by
  have e1 : (o == 1) = false := by simpa using h1
  have e2 : (o == 2) = false := by simpa using h2
  simp only [head]
  unfold refuses
  rw [e1, e2]
  have e3 : (l.length == argsOf o) = ((l.length : Int) == (argsOf o : Nat)) := by rw [Bool.eq_iff_iff]; simp only [beq_iff_eq]; omega
  have e4 : decide (o < 1) = !decide (1 ≤ o) := by rw [← decide_not]; exact decide_eq_decide.2 (by omega)
  have e5 : decide (16 < o) = !decide (o ≤ 16) := by rw [← decide_not]; exact decide_eq_decide.2 (by omega)
  rw [e3, e4, e5]
  by_cases hn : nm = []
  · subst hn
    rw [word_nil]
    cases decide (1 ≤ o) <;> cases decide (o ≤ 16) <;> cases ((l.length : Int) == (argsOf o : Nat)) <;> cases k == 0 <;> cases n == 0 <;> cases t == [] <;> rfl
  · have e6 : (nm == []) = false := by simpa using hn
    rw [e6]
    simp
theorem may_no' {n : Nat} {o k m : Int} {t nm : Bs} {l : List Ex} (h1 : ¬ o = 1) (h2 : ¬ o = 2) (h : refuses o k m t nm l.length = true) : may (n + 1) (.mk o k m t nm l) = false := by
  show (head _ && _) = false
  rw [head_no h1 h2, h]; rfl
/-- a literal -/
theorem may_lit (n : Nat) (k m : Int) (t nm : Bs) (l : List Ex) : may (n + 1) (.mk 1 k m t nm l) = ((!(((!Va.may ⟨k, m, ⟨t.toArray⟩⟩ || (k == 0)) || decide (m < 0)) || !(nm == []))) && ((l.length : Int) == 0)) := by
  show (head _ && l.all (may n)) = _
  have e3 : (l.length == argsOf 1) = ((l.length : Int) == 0) := by rw [Bool.eq_iff_iff]; simp only [beq_iff_eq]; show l.length = 0 ↔ _; omega
  simp only [head]
  rw [e3]
  by_cases hl : l = []
  · subst hl
    by_cases hn : nm = []
    · subst hn
      rw [word_nil]
      cases hm : Va.may ⟨k, m, ⟨t.toArray⟩⟩ with
      | false => simp
      | true =>
        by_cases h0 : k = 0
        · subst h0; simp
        · have e0 : (k == 0) = false := by simpa using h0
          rw [e0]
          rcases lit_ways hm h0 with ⟨rfl, _⟩ | ⟨rfl, rfl, rfl⟩ | ⟨rfl, rfl, rfl⟩ | ⟨rfl, rfl, _⟩
          · by_cases hneg : m < 0 <;> simp [hneg]
          · rfl
          · rfl
          · simp
    · have e6 : (nm == []) = false := by simpa using hn
      rw [e6]; simp
  · have e7 : ((l.length : Int) == 0) = false := by
      rw [beq_eq_false_iff_ne]
      intro h
      exact hl (List.eq_nil_of_length_eq_zero (by omega))
    rw [e7]; simp
theorem may_nm (n : Nat) (k m : Int) (t nm : Bs) (l : List Ex) : may (n + 1) (.mk 2 k m t nm l) = (((((l.length : Int) == 0) && ((k == 0) && ((m == 0) && (t == [])))) && !(nm == [121, 101, 115])) && !(nm == [110, 111]) && !(nm == [108, 101, 110]) && Lx.may 2 nm) := by
  show (head _ && l.all (may n)) = _
  have e3 : (l.length == argsOf 2) = ((l.length : Int) == 0) := by rw [Bool.eq_iff_iff]; simp only [beq_iff_eq]; show l.length = 0 ↔ _; omega
  simp only [head]
  rw [e3]
  by_cases hl : l = []
  · subst hl
    unfold word
    cases k == 0 <;> cases m == 0 <;> cases t == [] <;> cases nm == [121, 101, 115] <;> cases nm == [110, 111] <;> cases nm == [108, 101, 110] <;> cases Lx.may 2 nm <;> rfl
  · have e7 : ((l.length : Int) == 0) = false := by
      rw [beq_eq_false_iff_ne]
      intro h
      exact hl (List.eq_nil_of_length_eq_zero (by omega))
    rw [e7]; simp
end Px
namespace Go.Proofs.YtckgdgkkmhochaaGreatDoor
open Go Go.RowKit Go.SF
set_option linter.unusedSimpArgs false
theorem str_aggT : aggT Tryz.prog 9 = some false := by kernel_rfl
theorem u8w (a : Int) (h : 0 ≤ a) (h2 : a < 256) : IntKind.u8.wrap a = a := by
  have e : IntKind.u8.wrap a = a % 256 := by
    unfold IntKind.wrap
    simp [IntKind.bits, IntKind.signed]
  rw [e]; omega
theorem chr_pos (u : Nat) : (IntKind.u8.wrap (IntKind.i64.wrap (48 + (u : Int).tmod 10))).toNat = 48 + u % 10 := by
  have h : (u : Int).tmod 10 = ((u % 10 : Nat) : Int) := rfl
  rw [h, w64i (by omega) (by omega), u8w _ (by omega) (by omega)]
  omega
theorem digits_q (n : Int) (h0 : 0 ≤ n) (h1 : n ≤ 9223372036854775807) (W : Wd) : CallsQ Tryz.prog 70 #[.int .i64 n] W (.string ⟨(Lib.itoa n).toArray⟩) := by
  refine vc_rdig n W.all _ ?_
  refine den_br (fun c => (by exfalso; simp only [Sy.dens, Sy.den, E.i, E.b, E.t, gd, Env.push, List.cons_append, List.nil_append, List.append_nil, Int.toNat_natCast, ltB_true] at c; omega)) fun _ => ?_
  refine den_loop (fun j vs ls _ => ∃ (u : Nat) (s : List UInt8), vs = [.string ⟨s.toArray⟩, .int .i64 (u : Int)] ∧ ls = [] ∧ j = u + (if s = [] then 1 else 0) ∧ u ≤ n.toNat ∧ Va.DInv (Lib.decDigits n.toNat) n.toNat u s) (n.toNat + 1) ⟨n.toNat, [], (by rw [show ((n.toNat : Nat) : Int) = n from by omega]; rfl), rfl, by simp, Nat.le_refl _, Va.DInv.start _⟩ ?_
  rintro j vs ls W' x ⟨u, s, rfl, rfl, rfl, hu, hd⟩
  refine ⟨(u : Int), ⟨s.toArray⟩, rfl, rfl, fun _ => den_br (fun c => ?_) fun c => ?_⟩
  · have c : 0 < u ∨ s = [] := by simpa [E.i, E.b, E.t, gd, Env.push, ltB] using c
    have hl : 2 * s.length + u ≤ n.toNat := by
      rcases hd with ⟨h, _, h2, _⟩ | ⟨_, _, h⟩
      · rcases c with c | c
        · omega
        · exact absurd c h2
      · exact h
    refine den_new fun m W' _ x => den_chk ?_ (den_frz fun W'' _ x _ _ => den_again ⟨u / 10 + (if (UInt8.ofNat (48 + u % 10) :: s) = [] then 1 else 0), ?_, u / 10, _, ?_, rfl, rfl, by omega, hd.step c⟩)
    · simp only [Sy.dens, Sy.den, E.i, E.b, E.t, gd, Env.push, List.cons_append, List.nil_append, List.append_nil, Int.toNat_natCast, leB_true]
      rw [ba_size, ba_size]
      simp only [List.length_cons, List.length_nil]
      omega
    · rw [if_neg (by simp)]
      rcases c with c | c
      · omega
      · rw [if_pos c]; omega
    · simp only [Sy.dens, Sy.den, E.i, E.b, E.t, gd, Env.push, List.cons_append, List.nil_append, List.append_nil, Int.toNat_natCast]
      rw [chr_pos, Va.app1, w64i (by have : (u : Int).tdiv 10 = ((u / 10 : Nat) : Int) := rfl; omega) (by have : (u : Int).tdiv 10 = ((u / 10 : Nat) : Int) := rfl; omega)]
      rfl
  · have c : ¬ (0 < u ∨ s = []) := by simpa [E.i, E.b, E.t, gd, Env.push, ltB] using c
    refine den_ret fun _ _ _ => ⟨_, rfl, ?_⟩
    rcases hd with ⟨_, h2, _, h4⟩ | ⟨_, h2, _⟩
    · simp only [Sy.dens, Sy.den, E.i, E.b, E.t, gd, Env.push, List.cons_append, List.nil_append, List.append_nil, Int.toNat_natCast]
      rw [h2, Lib.itoa, if_neg (by omega)]
    · exact absurd (.inr (h2 (by omega)).1) c
theorem rshow9_q (k n : Int) (t : ByteArray) (hn : k = 1 → 0 ≤ n) (h1 : n ≤ 9223372036854775807) (ht : t.size ≤ 2000) (W : Wd) : CallsQ Tryz.prog 45 #[.agg #[.int .u8 k, .int .i64 n, .string t]] W (.string (Va.shown ⟨k, n, t⟩)) := by
  refine vc_rshow9 k n t W.all _ ?_
  refine den_new fun m W' _ x => den_br (fun c => ?_) fun c => ?_
  · have c : k = 1 := by simpa [Sy.dens, Sy.den, E.i, E.b, E.t, gd, Env.push, List.cons_append, List.nil_append, List.append_nil, Int.toNat_natCast] using c
    refine den_call_q (fun _ _ => digits_q n (hn c) h1 W') ⟨⟨(Lib.itoa n).toArray⟩, rfl, fun W' x => den_ret fun _ _ _ => ⟨_, rfl, ?_⟩⟩
    simp [Sy.dens, Sy.den, E.i, E.b, E.t, gd, Env.push, List.cons_append, List.nil_append, List.append_nil, Int.toNat_natCast, Va.shown, c]
  · have c : ¬ k = 1 := by simpa [Sy.dens, Sy.den, E.i, E.b, E.t, gd, Env.push, List.cons_append, List.nil_append, List.append_nil, Int.toNat_natCast] using c
    refine den_br (fun c2 => ?_) fun c2 => ?_
    · have c2 : k = 2 := by simpa [Sy.dens, Sy.den, E.i, E.b, E.t, gd, Env.push, List.cons_append, List.nil_append, List.append_nil, Int.toNat_natCast] using c2
      subst c2
      refine den_br (fun c3 => den_ret fun _ _ _ => ⟨_, rfl, ?_⟩) fun c3 => den_ret fun _ _ _ => ⟨_, rfl, ?_⟩
      · have c3 : ¬ n = 0 := by simpa [Sy.dens, Sy.den, E.i, E.b, E.t, gd, Env.push, List.cons_append, List.nil_append, List.append_nil, Int.toNat_natCast] using c3
        simp [Sy.dens, Sy.den, E.i, E.b, E.t, gd, Env.push, List.cons_append, List.nil_append, List.append_nil, Int.toNat_natCast, Va.shown, c3]
      · have c3 : n = 0 := by simpa [Sy.dens, Sy.den, E.i, E.b, E.t, gd, Env.push, List.cons_append, List.nil_append, List.append_nil, Int.toNat_natCast] using c3
        simp [Sy.dens, Sy.den, E.i, E.b, E.t, gd, Env.push, List.cons_append, List.nil_append, List.append_nil, Int.toNat_natCast, Va.shown, c3]
    · have c2 : ¬ k = 2 := by simpa [Sy.dens, Sy.den, E.i, E.b, E.t, gd, Env.push, List.cons_append, List.nil_append, List.append_nil, Int.toNat_natCast] using c2
      refine den_br (fun c3 => ?_) fun c3 => den_ret fun _ _ _ => ⟨_, rfl, ?_⟩
      · have c3 : k = 3 := by simpa [Sy.dens, Sy.den, E.i, E.b, E.t, gd, Env.push, List.cons_append, List.nil_append, List.append_nil, Int.toNat_natCast] using c3
        subst c3
        have e1 : (⟨#[39]⟩ : ByteArray).size = 1 := rfl
        refine den_chk ?_ (den_chk ?_ (den_ret fun _ _ _ => ⟨_, rfl, ?_⟩))
        · simp only [Sy.dens, Sy.den, E.i, E.b, E.t, gd, Env.push, List.cons_append, List.nil_append, List.append_nil, Int.toNat_natCast]; refine leB_t ?_; show ((⟨#[39]⟩ : ByteArray).size : Int) + _ ≤ _; rw [e1]; omega
        · simp only [Sy.dens, Sy.den, E.i, E.b, E.t, gd, Env.push, List.cons_append, List.nil_append, List.append_nil, Int.toNat_natCast]; refine leB_t ?_
          show ((((⟨#[39]⟩ : ByteArray) ++ t).size : Nat) : Int) + ((⟨#[39]⟩ : ByteArray).size : Int) ≤ _
          rw [ByteArray.size_append, e1]; omega
        · simp [Sy.dens, Sy.den, E.i, E.b, E.t, gd, Env.push, List.cons_append, List.nil_append, List.append_nil, Int.toNat_natCast, Va.shown]
      · have c3 : ¬ k = 3 := by simpa [Sy.dens, Sy.den, E.i, E.b, E.t, gd, Env.push, List.cons_append, List.nil_append, List.append_nil, Int.toNat_natCast] using c3
        simp [Sy.dens, Sy.den, E.i, E.b, E.t, gd, Env.push, List.cons_append, List.nil_append, List.append_nil, Int.toNat_natCast, Va.shown, c, c2, c3]
theorem level_q (o : Int) (W : Wd) : CallsQ Tryz.prog 44 #[.int .u8 o] W (.tuple #[.int .i64 (Px.levelX o).1, .string ⟨(Px.levelX o).2.toArray⟩]) := by
  refine vc_rlevel o W.all _ ?_
  have hwq := xways_i W.all
  refine den_call_i (fun _ _ => hwq) fun v w' _ ⟨a, p, hv, hA, hP⟩ => ⟨5, 5, a, hv, fun W1 e1 x1 n1 => ?_⟩
  have hW : SlI W1 a 5 5 1 (waysC p) := hA.stay e1 n1
  have hW' : SlI W1 a 5 5 1 ((waysC p).flatMap fun u => [u]) := by rw [show ((waysC p).flatMap fun u => [u]) = waysC p from rfl]; exact hW
  have hS : ∀ l, l < 5 → SlI W1 (p l) (Px.sgsAt l).length (Px.sgsAt l).length 1 ((Px.sgsAt l).flatMap strV) := fun l hl => (hP l hl).stay e1 n1
  simp only [Env.push, List.cons_append, List.nil_append, List.append_nil]
  refine den_loop (fun j vs ls _ => ∃ n : Nat, vs = [.int .i64 (n : Nat)] ∧ ls = [] ∧ n ≤ 5 ∧ j = 5 - n ∧ ∀ l, l < n → ∀ s ∈ Px.sgsAt l, ¬ Px.opX s = o) 5 ⟨0, rfl, rfl, by omega, rfl, fun l h => by omega⟩ ?_
  rintro j vs ls' W2 x2 ⟨n, rfl, rfl, hn, rfl, hno⟩
  refine ⟨(n : Int), rfl, rfl, fun _ => den_br (fun c1 => ?_) fun c1 => ?_⟩
  · simp only [Sy.dens, Sy.den, E.i, E.b, E.t, gd, Env.push, List.cons_append, List.nil_append, List.append_nil, Int.toNat_natCast, ltB_true] at c1
    have hn5 : n < 5 := by omega
    refine den_chk ?_ (den_chk ?_ (den_look ⟨(Px.sgsAt n).length, (Px.sgsAt n).length, p n, fun V xV => ?_, ?_⟩))
    · simp only [E.b, gd, Env.push]; exact SlI.some_of hW (by omega)
    · simp only [Sy.dens, Sy.den, E.i, E.b, E.t, gd, Env.push, List.cons_append, List.nil_append, List.append_nil, Int.toNat_natCast]; exact leB_t (by omega)
    · have := sl_look_f (f := fun u => [u]) (sz := 1) (fun _ => rfl) hW' sl_agg60 (ways_at p n hn5) (show 0 < 1 by decide) rfl (ext_trans x2 xV)
      simp only [Sy.dens, Sy.den, E.i, E.b, E.t, gd, Env.push, List.cons_append, List.nil_append, List.append_nil, Int.toNat_natCast] at this ⊢
      exact this
    · simp only [Env.push, List.cons_append, List.nil_append, List.append_nil]
      have hll : (Px.sgsAt n).length ≤ 10 := by
        have : ∀ l, l < 5 → (Px.sgsAt l).length ≤ 10 := by decide
        exact this n hn5
      refine den_loop (fun j vs ls _ => ∃ i : Nat, vs = [.int .i64 (i : Nat)] ∧ ls = [] ∧ i ≤ (Px.sgsAt n).length ∧ j = (Px.sgsAt n).length - i ∧ ∀ s ∈ (Px.sgsAt n).take i, ¬ Px.opX s = o) (Px.sgsAt n).length ⟨0, rfl, rfl, Nat.zero_le _, rfl, fun s h => by simp at h⟩ ?_
      rintro j vs ls' W3 x3 ⟨i, rfl, rfl, hi, rfl, hni⟩
      refine ⟨(i : Int), rfl, rfl, fun _ => den_br (fun c2 => ?_) fun c2 => den_again ⟨5 - (n + 1), by omega, n + 1, ?_, rfl, by omega, rfl, fun l hl => ?_⟩⟩
      · simp only [Sy.dens, Sy.den, E.i, E.b, E.t, gd, Env.push, List.cons_append, List.nil_append, List.append_nil, Int.toNat_natCast, ltB_true] at c2
        have hil : i < (Px.sgsAt n).length := by omega
        have hx : (Px.sgsAt n)[i]? = some (Px.sgsAt n)[i] := List.getElem?_eq_getElem hil
        have lk : ∀ V, Ext W3 V → _ := fun V xV => sl_look_f (f := strV) (sz := 1) (fun _ => rfl) (hS n hn5) str_aggT hx (show 0 < 1 by decide) rfl (ext_trans (ext_trans x2 x3) xV)
        refine den_chk ?_ (den_chk ?_ (den_look ⟨⟨(Px.sgsAt n)[i].toArray⟩, fun V xV => ?_, ?_⟩))
        · simp only [E.b, gd, Env.push]; exact SlI.some_of (hS n hn5) (by omega)
        · simp only [Sy.dens, Sy.den, E.i, E.b, E.t, gd, Env.push, List.cons_append, List.nil_append, List.append_nil, Int.toNat_natCast]; exact leB_t (by omega)
        · have := lk V xV
          simp only [Sy.dens, Sy.den, E.i, E.b, E.t, gd, Env.push, List.cons_append, List.nil_append, List.append_nil, Int.toNat_natCast] at this ⊢
          exact this
        · have hq := xop_q ⟨(Px.sgsAt n)[i].toArray⟩ W3
          rw [show (⟨(Px.sgsAt n)[i].toArray⟩ : ByteArray).data.toList = (Px.sgsAt n)[i] from by simp] at hq
          refine den_call_q (fun _ _ => hq) ⟨Px.opX (Px.sgsAt n)[i], rfl, fun W4 x4 => ?_⟩
          simp only [Env.push, List.cons_append, List.nil_append, List.append_nil]
          refine den_br (fun c3 => den_look ⟨⟨(Px.sgsAt n)[i].toArray⟩, fun V xV => ?_, den_grow fun W5 x5 => den_ret fun _ _ _ => ⟨_, rfl, ?_⟩⟩) fun c3 => den_again ⟨(Px.sgsAt n).length - (i + 1), by omega, i + 1, ?_, rfl, by omega, rfl, fun s hs => ?_⟩
          · have := lk V (ext_trans x4 xV)
            simp only [Sy.dens, Sy.den, E.i, E.b, E.t, gd, Env.push, List.cons_append, List.nil_append, List.append_nil, Int.toNat_natCast] at this ⊢
            exact this
          · have c3 : Px.opX (Px.sgsAt n)[i] = o := by simpa [Sy.dens, Sy.den, E.i, E.b, E.t, gd, Env.push, List.cons_append, List.nil_append, List.append_nil, Int.toNat_natCast] using c3
            have := Px.level_sg n hn5 _ (List.getElem_mem hil)
            rw [c3] at this
            rw [this]; rfl
          · simp only [Sy.dens, Sy.den, E.i, E.b, E.t, gd, Env.push, List.cons_append, List.nil_append, List.append_nil, Int.toNat_natCast]
            rw [w64i (by omega) (by omega)]; rfl
          · have c3 : ¬ Px.opX (Px.sgsAt n)[i] = o := by simpa [Sy.dens, Sy.den, E.i, E.b, E.t, gd, Env.push, List.cons_append, List.nil_append, List.append_nil, Int.toNat_natCast] using c3
            rw [List.take_succ_eq_append_getElem hil] at hs
            rcases List.mem_append.1 hs with hs | hs
            · exact hni s hs
            · rw [List.mem_singleton.1 hs]; exact c3
      · simp only [Sy.dens, Sy.den, E.i, E.b, E.t, gd, Env.push, List.cons_append, List.nil_append, List.append_nil, Int.toNat_natCast]
        rw [w64i (by omega) (by omega)]; rfl
      · simp only [Sy.dens, Sy.den, E.i, E.b, E.t, gd, Env.push, List.cons_append, List.nil_append, List.append_nil, Int.toNat_natCast, ltB_false] at c2
        intro s hs
        by_cases hln : l < n
        · exact hno l hln s hs
        · obtain rfl : l = n := by omega
          exact hni s (by rw [List.take_of_length_le (by omega)]; exact hs)
  · simp only [Sy.dens, Sy.den, E.i, E.b, E.t, gd, Env.push, List.cons_append, List.nil_append, List.append_nil, Int.toNat_natCast, ltB_false] at c1
    have hnone := Px.sg_level (o := o) fun l hl => hno l (by omega)
    refine den_br (fun c3 => den_ret fun _ _ _ => ⟨_, rfl, ?_⟩) fun c3 => den_br (fun c4 => den_ret fun _ _ _ => ⟨_, rfl, ?_⟩) fun c4 => den_ret fun _ _ _ => ⟨_, rfl, ?_⟩
    · have c3 : o = 3 := by simpa [Sy.dens, Sy.den, E.i, E.b, E.t, gd, Env.push, List.cons_append, List.nil_append, List.append_nil, Int.toNat_natCast] using c3
      simp only [Px.levelX, hnone, c3, if_true]; rfl
    · have c3 : ¬ o = 3 := by simpa [Sy.dens, Sy.den, E.i, E.b, E.t, gd, Env.push, List.cons_append, List.nil_append, List.append_nil, Int.toNat_natCast] using c3
      have c4 : o = 4 := by simpa [Sy.dens, Sy.den, E.i, E.b, E.t, gd, Env.push, List.cons_append, List.nil_append, List.append_nil, Int.toNat_natCast] using c4
      simp only [Px.levelX, hnone, c4, if_true]; rfl
    · have c3 : ¬ o = 3 := by simpa [Sy.dens, Sy.den, E.i, E.b, E.t, gd, Env.push, List.cons_append, List.nil_append, List.append_nil, Int.toNat_natCast] using c3
      have c4 : ¬ o = 4 := by simpa [Sy.dens, Sy.den, E.i, E.b, E.t, gd, Env.push, List.cons_append, List.nil_append, List.append_nil, Int.toNat_natCast] using c4
      simp only [Px.levelX, hnone, c3, c4, if_false]; rfl
def RMay (n : Nat) : Prop := ∀ (x : Px.Ex) (vs : List Value) (W : Wd), Px.thin x = true → ExI W x vs → CallsQ Tryz.prog 36 #[.agg vs.toArray, .int .i64 (n : Nat)] W (.bool (Px.may n x))
set_option maxRecDepth 100000 in
theorem rmay_ok : ∀ n : Nat, n ≤ 16 → RMay n := by
  intro n
  induction n with
  | zero =>
    intro _ x vs W hth hx
    obtain ⟨op, k, nn, t, nm, al, len, cl, rfl⟩ := hx.shape
    refine vc_rmay11 op k nn ((0 : Nat) : Int) len cl t nm al W.all _ ?_
    refine den_new fun m0 W1 _ x1 => den_br (fun c => den_ret fun _ _ _ => ⟨_, rfl, rfl⟩) fun c => (by exfalso; simp [Sy.dens, Sy.den, E.i, E.b, E.t, gd, Env.push, List.cons_append, List.nil_append, List.append_nil, Int.toNat_natCast, ltB] at c)
  | succ n ih =>
    intro hn16 x vs W hth hx
    have ih := ih (by omega)
    obtain ⟨op, k, nn, t, nm, args⟩ := x
    have hx := hx.ext W.all_ext
    simp only [ExI, ExAt] at hx
    obtain ⟨a, c, ls, rfl, hS, hE⟩ := hx
    simp only [Px.thin, Bool.and_eq_true, decide_eq_true_eq] at hth
    obtain ⟨⟨hal, htl, hnl, hf0, hf1⟩, hth'⟩ := hth
    have htz := ba_size t
    have hnz := ba_size nm
    refine vc_rmay11 op k nn ((n + 1 : Nat) : Int) args.length c ⟨t.toArray⟩ ⟨nm.toArray⟩ a W.all _ ?_
    refine den_new fun m0 W1 _ x1 => den_br (fun c => (by exfalso; simp only [Sy.dens, Sy.den, E.i, E.b, E.t, gd, Env.push, List.cons_append, List.nil_append, List.append_nil, Int.toNat_natCast, ltB_true] at c; omega)) fun _ => ?_
    refine den_br (fun c1 => ?_) fun c1 => ?_
    · have c1 : op = 1 := by simpa [Sy.dens, Sy.den, E.i, E.b, E.t, gd, Env.push, List.cons_append, List.nil_append, List.append_nil, Int.toNat_natCast] using c1
      subst c1
      rw [Px.may_lit]
      refine den_call_q (fun _ _ => xmay_q k nn ⟨t.toArray⟩ (by rw [htz]; omega) W1) ⟨Va.may ⟨k, nn, ⟨t.toArray⟩⟩, rfl, fun W2 x2 => den_br (fun c2 => den_ret fun _ _ _ => ⟨_, rfl, ?_⟩) fun c2 => den_ret fun _ _ _ => ⟨_, rfl, ?_⟩⟩
      · simp only [Sy.dens, Sy.den, E.i, E.b, E.t, gd, Env.push, List.cons_append, List.nil_append, List.append_nil, Int.toNat_natCast, teq_ba] at c2
        have c2 : ((((!Va.may ⟨k, nn, ⟨t.toArray⟩⟩ || (k == 0)) || decide (nn < 0)) || !(nm == []))) = true := c2
        rw [c2]; rfl
      · simp only [Sy.dens, Sy.den, E.i, E.b, E.t, gd, Env.push, List.cons_append, List.nil_append, List.append_nil, Int.toNat_natCast, teq_ba] at c2
        have c2 : ((((!Va.may ⟨k, nn, ⟨t.toArray⟩⟩ || (k == 0)) || decide (nn < 0)) || !(nm == []))) = false := c2
        rw [c2]; rfl
    · have c1 : ¬ op = 1 := by simpa [Sy.dens, Sy.den, E.i, E.b, E.t, gd, Env.push, List.cons_append, List.nil_append, List.append_nil, Int.toNat_natCast] using c1
      refine den_br (fun c2 => ?_) fun c2 => ?_
      · have c2 : op = 2 := by simpa [Sy.dens, Sy.den, E.i, E.b, E.t, gd, Env.push, List.cons_append, List.nil_append, List.append_nil, Int.toNat_natCast] using c2
        subst c2
        rw [Px.may_nm]
        refine den_br (fun c3 => ?_) fun c3 => den_ret fun _ _ _ => ⟨_, rfl, ?_⟩
        · simp only [Sy.dens, Sy.den, E.i, E.b, E.t, gd, Env.push, List.cons_append, List.nil_append, List.append_nil, Int.toNat_natCast, teq_ba] at c3
          have c3 : (((((args.length : Int) == 0) && ((k == 0) && ((nn == 0) && (t == [])))) && !(nm == [121, 101, 115])) && !(nm == [110, 111]) && !(nm == [108, 101, 110])) = true := c3
          have hq := rmay_q 2 ⟨nm.toArray⟩ (by rw [hnz]; omega) W1
          rw [show (⟨nm.toArray⟩ : ByteArray).data.toList = nm from by simp] at hq
          refine den_call_q (fun _ _ => hq) ⟨Lx.may 2 nm, rfl, fun W2 x2 => den_ret fun _ _ _ => ⟨_, rfl, ?_⟩⟩
          rw [c3]; rfl
        · simp only [Sy.dens, Sy.den, E.i, E.b, E.t, gd, Env.push, List.cons_append, List.nil_append, List.append_nil, Int.toNat_natCast, teq_ba] at c3
          have c3 : (((((args.length : Int) == 0) && ((k == 0) && ((nn == 0) && (t == [])))) && !(nm == [121, 101, 115])) && !(nm == [110, 111]) && !(nm == [108, 101, 110])) = false := c3
          rw [c3]; rfl
      · have c2 : ¬ op = 2 := by simpa [Sy.dens, Sy.den, E.i, E.b, E.t, gd, Env.push, List.cons_append, List.nil_append, List.append_nil, Int.toNat_natCast] using c2
        have hno : ∀ c, c = true → _ := fun (c : Bool) (hc : c = true) => hc
        refine den_br (fun c3 => ?_) fun c3 => ?_
        · have c3 : op = 3 := by simpa [Sy.dens, Sy.den, E.i, E.b, E.t, gd, Env.push, List.cons_append, List.nil_append, List.append_nil, Int.toNat_natCast] using c3
          subst c3
          refine den_br (fun c => den_ret fun _ _ _ => ⟨_, rfl, ?_⟩) fun c => ?_
          · rw [Px.may_no' (by first | decide | assumption) (by first | decide | assumption) (by
              have c := c
              simp only [Sy.dens, Sy.den, E.i, E.b, E.t, gd, Env.push, List.cons_append, List.nil_append, List.append_nil, Int.toNat_natCast] at c
              have c : Px.refuses 3 k nn t nm args.length = true := by
                (try simp only [teq_ba] at c)
                rw [← c]; unfold Px.refuses; rw [show Px.argsOf 3 = 1 from rfl]; rfl
              exact c)]; rfl
          · have hh : Px.head (.mk 3 k nn t nm args) = true := by
              rw [Px.head_no (by first | decide | assumption) (by first | decide | assumption)]
              have c := c
              simp only [Sy.dens, Sy.den, E.i, E.b, E.t, gd, Env.push, List.cons_append, List.nil_append, List.append_nil, Int.toNat_natCast] at c
              have c : Px.refuses 3 k nn t nm args.length = false := by
                (try simp only [teq_ba] at c)
                rw [← c]; unfold Px.refuses; rw [show Px.argsOf 3 = 1 from rfl]; rfl
              rw [c]; rfl
            have hgo : Px.may (n + 1) (.mk 3 k nn t nm args) = args.all (Px.may n) := by
              show (Px.head _ && _) = _
              rw [hh, Bool.true_and]; rfl
            rw [hgo]
            refine den_loop (fun j vs ls _ => ∃ i : Nat, vs = [.int .i64 (i : Nat)] ∧ ls = [] ∧ i ≤ args.length ∧ j = args.length - i ∧ args.all (Px.may n) = (args.drop i).all (Px.may n)) args.length ⟨0, rfl, rfl, Nat.zero_le _, rfl, rfl⟩ ?_
            rintro j vs ls' W2 x2 ⟨i, rfl, rfl, hi, rfl, ha⟩
            have x2' := ext_trans x1 x2
            refine ⟨(i : Int), rfl, rfl, fun _ => den_br (fun c1 => ?_) fun c1 => den_ret fun _ _ _ => ⟨_, rfl, ?_⟩⟩
            · simp only [Sy.dens, Sy.den, E.i, E.b, E.t, gd, Env.push, List.cons_append, List.nil_append, List.append_nil, Int.toNat_natCast, ltB_true] at c1
              have hil : i < args.length := by omega
              have hx : args[i]? = some args[i] := List.getElem?_eq_getElem hil
              obtain ⟨us, hu, hg⟩ := exs_get hE hx
              have hu2 : ExI W.all args[i] us := hu
              obtain ⟨op', k', nn', t', nm', al', len', cl', rfl⟩ := hu.shape
              rw [List.drop_eq_getElem_cons hil, List.all_cons] at ha
              refine den_chk ?_ (den_chk ?_ (den_look ⟨op', k', nn', len', cl', t', nm', al', fun W3 x3 => ?_, ?_⟩))
              · simp only [E.b, gd, Env.push]; exact SlI.some_of hS (by omega)
              · simp only [Sy.dens, Sy.den, E.i, E.b, E.t, gd, Env.push, List.cons_append, List.nil_append, List.append_nil, Int.toNat_natCast]; exact leB_t (by omega)
              · have := sl_look_at (W := W.all) hS ex_agg ex_size rfl (by decide) hg (ext_trans x2' x3)
                simp only [Sy.dens, Sy.den, E.i, E.b, E.t, gd, Env.push, List.cons_append, List.nil_append, List.append_nil, Int.toNat_natCast] at this ⊢
                exact this
              · simp only [Env.push, List.cons_append, List.nil_append, List.append_nil]
                have hq := ih args[i] _ W2 (Px.thin_mem hth' (List.getElem_mem hil)) (hu2.ext x2')
                have hdd : IntKind.i64.wrap (((n + 1 : Nat) : Int) - 1) = ((n : Nat) : Int) := by rw [w64i (by omega) (by omega)]; omega
                rw [← hdd] at hq
                refine den_call_q (fun _ _ => hq) ⟨Px.may n args[i], rfl, fun W3 x3 => den_br (fun c2 => den_ret fun _ _ _ => ⟨_, rfl, ?_⟩) fun c2 => den_again ⟨args.length - (i + 1), by omega, i + 1, ?_, rfl, by omega, rfl, ?_⟩⟩
                · have c2 : Px.may n args[i] = false := by simpa [Sy.dens, Sy.den, E.i, E.b, E.t, gd, Env.push, List.cons_append, List.nil_append, List.append_nil, Int.toNat_natCast] using c2
                  rw [ha, c2]; rfl
                · simp only [Sy.dens, Sy.den, E.i, E.b, E.t, gd, Env.push, List.cons_append, List.nil_append, List.append_nil, Int.toNat_natCast]
                  rw [w64i (by omega) (by omega)]; rfl
                · have c2 : Px.may n args[i] = true := by simpa [Sy.dens, Sy.den, E.i, E.b, E.t, gd, Env.push, List.cons_append, List.nil_append, List.append_nil, Int.toNat_natCast] using c2
                  rw [ha, c2, Bool.true_and]
            · simp only [Sy.dens, Sy.den, E.i, E.b, E.t, gd, Env.push, List.cons_append, List.nil_append, List.append_nil, Int.toNat_natCast, ltB_false] at c1
              rw [ha, List.drop_eq_nil_of_le (by omega)]; rfl
        · refine den_br (fun c4 => ?_) fun c4 => ?_
          · have c4 : op = 4 := by simpa [Sy.dens, Sy.den, E.i, E.b, E.t, gd, Env.push, List.cons_append, List.nil_append, List.append_nil, Int.toNat_natCast] using c4
            subst c4
            refine den_br (fun c => den_ret fun _ _ _ => ⟨_, rfl, ?_⟩) fun c => ?_
            · rw [Px.may_no' (by first | decide | assumption) (by first | decide | assumption) (by
                have c := c
                simp only [Sy.dens, Sy.den, E.i, E.b, E.t, gd, Env.push, List.cons_append, List.nil_append, List.append_nil, Int.toNat_natCast] at c
                have c : Px.refuses 4 k nn t nm args.length = true := by
                  (try simp only [teq_ba] at c)
                  rw [← c]; unfold Px.refuses; rw [show Px.argsOf 4 = 1 from rfl]; rfl
                exact c)]; rfl
            · have hh : Px.head (.mk 4 k nn t nm args) = true := by
                rw [Px.head_no (by first | decide | assumption) (by first | decide | assumption)]
                have c := c
                simp only [Sy.dens, Sy.den, E.i, E.b, E.t, gd, Env.push, List.cons_append, List.nil_append, List.append_nil, Int.toNat_natCast] at c
                have c : Px.refuses 4 k nn t nm args.length = false := by
                  (try simp only [teq_ba] at c)
                  rw [← c]; unfold Px.refuses; rw [show Px.argsOf 4 = 1 from rfl]; rfl
                rw [c]; rfl
              have hgo : Px.may (n + 1) (.mk 4 k nn t nm args) = args.all (Px.may n) := by
                show (Px.head _ && _) = _
                rw [hh, Bool.true_and]; rfl
              rw [hgo]
              refine den_loop (fun j vs ls _ => ∃ i : Nat, vs = [.int .i64 (i : Nat)] ∧ ls = [] ∧ i ≤ args.length ∧ j = args.length - i ∧ args.all (Px.may n) = (args.drop i).all (Px.may n)) args.length ⟨0, rfl, rfl, Nat.zero_le _, rfl, rfl⟩ ?_
              rintro j vs ls' W2 x2 ⟨i, rfl, rfl, hi, rfl, ha⟩
              have x2' := ext_trans x1 x2
              refine ⟨(i : Int), rfl, rfl, fun _ => den_br (fun c1 => ?_) fun c1 => den_ret fun _ _ _ => ⟨_, rfl, ?_⟩⟩
              · simp only [Sy.dens, Sy.den, E.i, E.b, E.t, gd, Env.push, List.cons_append, List.nil_append, List.append_nil, Int.toNat_natCast, ltB_true] at c1
                have hil : i < args.length := by omega
                have hx : args[i]? = some args[i] := List.getElem?_eq_getElem hil
                obtain ⟨us, hu, hg⟩ := exs_get hE hx
                have hu2 : ExI W.all args[i] us := hu
                obtain ⟨op', k', nn', t', nm', al', len', cl', rfl⟩ := hu.shape
                rw [List.drop_eq_getElem_cons hil, List.all_cons] at ha
                refine den_chk ?_ (den_chk ?_ (den_look ⟨op', k', nn', len', cl', t', nm', al', fun W3 x3 => ?_, ?_⟩))
                · simp only [E.b, gd, Env.push]; exact SlI.some_of hS (by omega)
                · simp only [Sy.dens, Sy.den, E.i, E.b, E.t, gd, Env.push, List.cons_append, List.nil_append, List.append_nil, Int.toNat_natCast]; exact leB_t (by omega)
                · have := sl_look_at (W := W.all) hS ex_agg ex_size rfl (by decide) hg (ext_trans x2' x3)
                  simp only [Sy.dens, Sy.den, E.i, E.b, E.t, gd, Env.push, List.cons_append, List.nil_append, List.append_nil, Int.toNat_natCast] at this ⊢
                  exact this
                · simp only [Env.push, List.cons_append, List.nil_append, List.append_nil]
                  have hq := ih args[i] _ W2 (Px.thin_mem hth' (List.getElem_mem hil)) (hu2.ext x2')
                  have hdd : IntKind.i64.wrap (((n + 1 : Nat) : Int) - 1) = ((n : Nat) : Int) := by rw [w64i (by omega) (by omega)]; omega
                  rw [← hdd] at hq
                  refine den_call_q (fun _ _ => hq) ⟨Px.may n args[i], rfl, fun W3 x3 => den_br (fun c2 => den_ret fun _ _ _ => ⟨_, rfl, ?_⟩) fun c2 => den_again ⟨args.length - (i + 1), by omega, i + 1, ?_, rfl, by omega, rfl, ?_⟩⟩
                  · have c2 : Px.may n args[i] = false := by simpa [Sy.dens, Sy.den, E.i, E.b, E.t, gd, Env.push, List.cons_append, List.nil_append, List.append_nil, Int.toNat_natCast] using c2
                    rw [ha, c2]; rfl
                  · simp only [Sy.dens, Sy.den, E.i, E.b, E.t, gd, Env.push, List.cons_append, List.nil_append, List.append_nil, Int.toNat_natCast]
                    rw [w64i (by omega) (by omega)]; rfl
                  · have c2 : Px.may n args[i] = true := by simpa [Sy.dens, Sy.den, E.i, E.b, E.t, gd, Env.push, List.cons_append, List.nil_append, List.append_nil, Int.toNat_natCast] using c2
                    rw [ha, c2, Bool.true_and]
              · simp only [Sy.dens, Sy.den, E.i, E.b, E.t, gd, Env.push, List.cons_append, List.nil_append, List.append_nil, Int.toNat_natCast, ltB_false] at c1
                rw [ha, List.drop_eq_nil_of_le (by omega)]; rfl
          · refine den_br (fun c5 => ?_) fun c5 => ?_
            · have c5 : op = 16 := by simpa [Sy.dens, Sy.den, E.i, E.b, E.t, gd, Env.push, List.cons_append, List.nil_append, List.append_nil, Int.toNat_natCast] using c5
              subst c5
              refine den_br (fun c => den_ret fun _ _ _ => ⟨_, rfl, ?_⟩) fun c => ?_
              · rw [Px.may_no' (by first | decide | assumption) (by first | decide | assumption) (by
                  have c := c
                  simp only [Sy.dens, Sy.den, E.i, E.b, E.t, gd, Env.push, List.cons_append, List.nil_append, List.append_nil, Int.toNat_natCast] at c
                  have c : Px.refuses 16 k nn t nm args.length = true := by
                    (try simp only [teq_ba] at c)
                    rw [← c]; unfold Px.refuses; rw [show Px.argsOf 16 = 1 from rfl]; rfl
                  exact c)]; rfl
              · have hh : Px.head (.mk 16 k nn t nm args) = true := by
                  rw [Px.head_no (by first | decide | assumption) (by first | decide | assumption)]
                  have c := c
                  simp only [Sy.dens, Sy.den, E.i, E.b, E.t, gd, Env.push, List.cons_append, List.nil_append, List.append_nil, Int.toNat_natCast] at c
                  have c : Px.refuses 16 k nn t nm args.length = false := by
                    (try simp only [teq_ba] at c)
                    rw [← c]; unfold Px.refuses; rw [show Px.argsOf 16 = 1 from rfl]; rfl
                  rw [c]; rfl
                have hgo : Px.may (n + 1) (.mk 16 k nn t nm args) = args.all (Px.may n) := by
                  show (Px.head _ && _) = _
                  rw [hh, Bool.true_and]; rfl
                rw [hgo]
                refine den_loop (fun j vs ls _ => ∃ i : Nat, vs = [.int .i64 (i : Nat)] ∧ ls = [] ∧ i ≤ args.length ∧ j = args.length - i ∧ args.all (Px.may n) = (args.drop i).all (Px.may n)) args.length ⟨0, rfl, rfl, Nat.zero_le _, rfl, rfl⟩ ?_
                rintro j vs ls' W2 x2 ⟨i, rfl, rfl, hi, rfl, ha⟩
                have x2' := ext_trans x1 x2
                refine ⟨(i : Int), rfl, rfl, fun _ => den_br (fun c1 => ?_) fun c1 => den_ret fun _ _ _ => ⟨_, rfl, ?_⟩⟩
                · simp only [Sy.dens, Sy.den, E.i, E.b, E.t, gd, Env.push, List.cons_append, List.nil_append, List.append_nil, Int.toNat_natCast, ltB_true] at c1
                  have hil : i < args.length := by omega
                  have hx : args[i]? = some args[i] := List.getElem?_eq_getElem hil
                  obtain ⟨us, hu, hg⟩ := exs_get hE hx
                  have hu2 : ExI W.all args[i] us := hu
                  obtain ⟨op', k', nn', t', nm', al', len', cl', rfl⟩ := hu.shape
                  rw [List.drop_eq_getElem_cons hil, List.all_cons] at ha
                  refine den_chk ?_ (den_chk ?_ (den_look ⟨op', k', nn', len', cl', t', nm', al', fun W3 x3 => ?_, ?_⟩))
                  · simp only [E.b, gd, Env.push]; exact SlI.some_of hS (by omega)
                  · simp only [Sy.dens, Sy.den, E.i, E.b, E.t, gd, Env.push, List.cons_append, List.nil_append, List.append_nil, Int.toNat_natCast]; exact leB_t (by omega)
                  · have := sl_look_at (W := W.all) hS ex_agg ex_size rfl (by decide) hg (ext_trans x2' x3)
                    simp only [Sy.dens, Sy.den, E.i, E.b, E.t, gd, Env.push, List.cons_append, List.nil_append, List.append_nil, Int.toNat_natCast] at this ⊢
                    exact this
                  · simp only [Env.push, List.cons_append, List.nil_append, List.append_nil]
                    have hq := ih args[i] _ W2 (Px.thin_mem hth' (List.getElem_mem hil)) (hu2.ext x2')
                    have hdd : IntKind.i64.wrap (((n + 1 : Nat) : Int) - 1) = ((n : Nat) : Int) := by rw [w64i (by omega) (by omega)]; omega
                    rw [← hdd] at hq
                    refine den_call_q (fun _ _ => hq) ⟨Px.may n args[i], rfl, fun W3 x3 => den_br (fun c2 => den_ret fun _ _ _ => ⟨_, rfl, ?_⟩) fun c2 => den_again ⟨args.length - (i + 1), by omega, i + 1, ?_, rfl, by omega, rfl, ?_⟩⟩
                    · have c2 : Px.may n args[i] = false := by simpa [Sy.dens, Sy.den, E.i, E.b, E.t, gd, Env.push, List.cons_append, List.nil_append, List.append_nil, Int.toNat_natCast] using c2
                      rw [ha, c2]; rfl
                    · simp only [Sy.dens, Sy.den, E.i, E.b, E.t, gd, Env.push, List.cons_append, List.nil_append, List.append_nil, Int.toNat_natCast]
                      rw [w64i (by omega) (by omega)]; rfl
                    · have c2 : Px.may n args[i] = true := by simpa [Sy.dens, Sy.den, E.i, E.b, E.t, gd, Env.push, List.cons_append, List.nil_append, List.append_nil, Int.toNat_natCast] using c2
                      rw [ha, c2, Bool.true_and]
                · simp only [Sy.dens, Sy.den, E.i, E.b, E.t, gd, Env.push, List.cons_append, List.nil_append, List.append_nil, Int.toNat_natCast, ltB_false] at c1
                  rw [ha, List.drop_eq_nil_of_le (by omega)]; rfl
            · have c3 : ¬ op = 3 := by simpa [Sy.dens, Sy.den, E.i, E.b, E.t, gd, Env.push, List.cons_append, List.nil_append, List.append_nil, Int.toNat_natCast] using c3
              have c4 : ¬ op = 4 := by simpa [Sy.dens, Sy.den, E.i, E.b, E.t, gd, Env.push, List.cons_append, List.nil_append, List.append_nil, Int.toNat_natCast] using c4
              have c5 : ¬ op = 16 := by simpa [Sy.dens, Sy.den, E.i, E.b, E.t, gd, Env.push, List.cons_append, List.nil_append, List.append_nil, Int.toNat_natCast] using c5
              have hwant : Px.argsOf op = 2 := by simp [Px.argsOf, c1, c2, c3, c4, c5]
              refine den_br (fun c => den_ret fun _ _ _ => ⟨_, rfl, ?_⟩) fun c => ?_
              · rw [Px.may_no' (by first | decide | assumption) (by first | decide | assumption) (by
                  have c := c
                  simp only [Sy.dens, Sy.den, E.i, E.b, E.t, gd, Env.push, List.cons_append, List.nil_append, List.append_nil, Int.toNat_natCast] at c
                  have c : Px.refuses op k nn t nm args.length = true := by
                    (try simp only [teq_ba] at c)
                    rw [← c]; unfold Px.refuses; rw [hwant]; rfl
                  exact c)]; rfl
              · have hh : Px.head (.mk op k nn t nm args) = true := by
                  rw [Px.head_no (by first | decide | assumption) (by first | decide | assumption)]
                  have c := c
                  simp only [Sy.dens, Sy.den, E.i, E.b, E.t, gd, Env.push, List.cons_append, List.nil_append, List.append_nil, Int.toNat_natCast] at c
                  have c : Px.refuses op k nn t nm args.length = false := by
                    (try simp only [teq_ba] at c)
                    rw [← c]; unfold Px.refuses; rw [hwant]; rfl
                  rw [c]; rfl
                have hgo : Px.may (n + 1) (.mk op k nn t nm args) = args.all (Px.may n) := by
                  show (Px.head _ && _) = _
                  rw [hh, Bool.true_and]; rfl
                rw [hgo]
                refine den_loop (fun j vs ls _ => ∃ i : Nat, vs = [.int .i64 (i : Nat)] ∧ ls = [] ∧ i ≤ args.length ∧ j = args.length - i ∧ args.all (Px.may n) = (args.drop i).all (Px.may n)) args.length ⟨0, rfl, rfl, Nat.zero_le _, rfl, rfl⟩ ?_
                rintro j vs ls' W2 x2 ⟨i, rfl, rfl, hi, rfl, ha⟩
                have x2' := ext_trans x1 x2
                refine ⟨(i : Int), rfl, rfl, fun _ => den_br (fun c1 => ?_) fun c1 => den_ret fun _ _ _ => ⟨_, rfl, ?_⟩⟩
                · simp only [Sy.dens, Sy.den, E.i, E.b, E.t, gd, Env.push, List.cons_append, List.nil_append, List.append_nil, Int.toNat_natCast, ltB_true] at c1
                  have hil : i < args.length := by omega
                  have hx : args[i]? = some args[i] := List.getElem?_eq_getElem hil
                  obtain ⟨us, hu, hg⟩ := exs_get hE hx
                  have hu2 : ExI W.all args[i] us := hu
                  obtain ⟨op', k', nn', t', nm', al', len', cl', rfl⟩ := hu.shape
                  rw [List.drop_eq_getElem_cons hil, List.all_cons] at ha
                  refine den_chk ?_ (den_chk ?_ (den_look ⟨op', k', nn', len', cl', t', nm', al', fun W3 x3 => ?_, ?_⟩))
                  · simp only [E.b, gd, Env.push]; exact SlI.some_of hS (by omega)
                  · simp only [Sy.dens, Sy.den, E.i, E.b, E.t, gd, Env.push, List.cons_append, List.nil_append, List.append_nil, Int.toNat_natCast]; exact leB_t (by omega)
                  · have := sl_look_at (W := W.all) hS ex_agg ex_size rfl (by decide) hg (ext_trans x2' x3)
                    simp only [Sy.dens, Sy.den, E.i, E.b, E.t, gd, Env.push, List.cons_append, List.nil_append, List.append_nil, Int.toNat_natCast] at this ⊢
                    exact this
                  · simp only [Env.push, List.cons_append, List.nil_append, List.append_nil]
                    have hq := ih args[i] _ W2 (Px.thin_mem hth' (List.getElem_mem hil)) (hu2.ext x2')
                    have hdd : IntKind.i64.wrap (((n + 1 : Nat) : Int) - 1) = ((n : Nat) : Int) := by rw [w64i (by omega) (by omega)]; omega
                    rw [← hdd] at hq
                    refine den_call_q (fun _ _ => hq) ⟨Px.may n args[i], rfl, fun W3 x3 => den_br (fun c2 => den_ret fun _ _ _ => ⟨_, rfl, ?_⟩) fun c2 => den_again ⟨args.length - (i + 1), by omega, i + 1, ?_, rfl, by omega, rfl, ?_⟩⟩
                    · have c2 : Px.may n args[i] = false := by simpa [Sy.dens, Sy.den, E.i, E.b, E.t, gd, Env.push, List.cons_append, List.nil_append, List.append_nil, Int.toNat_natCast] using c2
                      rw [ha, c2]; rfl
                    · simp only [Sy.dens, Sy.den, E.i, E.b, E.t, gd, Env.push, List.cons_append, List.nil_append, List.append_nil, Int.toNat_natCast]
                      rw [w64i (by omega) (by omega)]; rfl
                    · have c2 : Px.may n args[i] = true := by simpa [Sy.dens, Sy.den, E.i, E.b, E.t, gd, Env.push, List.cons_append, List.nil_append, List.append_nil, Int.toNat_natCast] using c2
                      rw [ha, c2, Bool.true_and]
                · simp only [Sy.dens, Sy.den, E.i, E.b, E.t, gd, Env.push, List.cons_append, List.nil_append, List.append_nil, Int.toNat_natCast, ltB_false] at c1
                  rw [ha, List.drop_eq_nil_of_le (by omega)]; rfl
end Go.Proofs.YtckgdgkkmhochaaGreatDoor
