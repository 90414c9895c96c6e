/- The document's reader: what its parts do. -/
import Derived.Test.YtckgdgkkmhochaaDoorPxRefP
import Derived.Test.YtckgdgkkmhochaaDoorLxNumP
import Derived.Test.YtckgdgkkmhochaaDoorPxParse
import Derived.Test.YtckgdgkkmhochaaDoorVcXParse
namespace Px
open Go
open Lx hiding none run first
theorem num_val {l : Bs} (h : numOk l = true) : numOf l = (val 0 l : Nat) ∧ val 0 l < 2 ^ 63 ∧ ∀ c ∈ l, digit c = true := by
  have h0 : l ≠ [] := by rintro rfl; rw [num_no0] at h; cases h
  have hd : ∀ c ∈ l, digit c = true := by
    unfold numOk at h
    simp only [Bool.and_eq_true, beq_iff_eq] at h
    exact run_iff.1 h.2.1
  have hp : val 0 l < 2 ^ 63 := by
    unfold numOk at h
    simp only [Bool.and_eq_true] at h
    have := h.1
    rw [parsed_val h0 hd] at this
    exact of_decide_eq_true this
  refine ⟨?_, hp, hd⟩
  cases l with
  | nil => exact absurd rfl h0
  | cons c r =>
    have hc := digit_iff.1 (hd c (List.mem_cons_self ..))
    have h43 : ¬ c.toNat = 43 := by omega
    have h45 : ¬ c.toNat = 45 := by omega
    simp only [numOf, Lib.parseIntB, h43, h45, or_self, if_false, Lib.parseUintB, reduceCtorEq, not_false_eq_true, true_and, false_and]
    rcases uint_val (c :: r) 0 hd with e | ⟨e, hv⟩
    · rw [e]
      simp only
      rw [if_neg (by omega)]
    · omega
def sgs : List (List Bs) := [[[124]], [[38]], [[60], [60, 61], [61, 61], [33, 61]], [[43], [45]], [[42], [47], [37]]]
def sgsAt (l : Nat) : List Bs := sgs.getD l []
def opX (s : Bs) : Int := match by_ s 0 with
  | some b => b.2.1
  | none => 0
theorem sg_lv : ∀ l, l < 5 → ∀ s ∈ sgsAt l, s ≠ [] ∧ by_ s 0 = some (s, opX s, (l : Int) + 1) := by decide
theorem lv_sg : ∀ b ∈ binds, b.1 ∈ sgsAt (b.2.2 - 1).toNat ∧ ¬ b.2.1 = 0 := by decide
theorem by_none {l : Bs} (h : ∀ b ∈ binds, ¬ l = b.1) : by_ l 0 = Option.none := List.find?_eq_none.2 fun b hb => by
  have h1 := h b hb
  have h2 := (lv_sg b hb).2
  simp only [Bool.or_eq_true, beq_iff_eq, not_or]
  exact ⟨fun e => h1 e.symm, h2⟩
theorem sign_lv {l : Nat} (hl : l < 5) {s : Bs} (hs : s ∈ sgsAt l) {q r : List Tok} (h : sign s q = some r) : ∃ t, q = t :: r ∧ lv t = some (opX s, (l : Int) + 1) := by
  cases q with
  | nil => cases h
  | cons t q =>
    simp only [sign] at h
    split at h
    · rename_i hk
      obtain rfl := Option.some.inj h
      refine ⟨t, rfl, ?_⟩
      unfold lv
      rw [if_pos hk.1, hk.2, (sg_lv l hl s hs).2]; rfl
    · cases h
/-- no sign of a level is next: it stops there -/
theorem stops_sg {l : Nat} (hl : l < 5) {q : List Tok} (h : Stops ((l : Int) + 2) q) (hn : ∀ s ∈ sgsAt l, sign s q = none) : Stops ((l : Int) + 1) q := by
  cases q with
  | nil => trivial
  | cons t q =>
    intro b hb
    have h2 := h b hb
    have hm := lv_much hb
    rcases Int.lt_or_le b.2 ((l : Int) + 1) with h3 | h3
    · exact h3
    · exfalso
      have h4 : b.2 = (l : Int) + 1 := by omega
      unfold lv at hb
      rw [if_pos hm.1] at hb
      obtain ⟨c, hc, rfl⟩ := Option.map_eq_some_iff.1 hb
      have hmem := List.mem_of_find?_eq_some hc
      have hp := List.find?_some hc
      obtain ⟨k1, k2⟩ := lv_sg c hmem
      have e : c.1 = t.t := by
        simp only [Bool.or_eq_true, beq_iff_eq] at hp
        exact hp.resolve_right k2
      rw [show (c.2.2 - 1).toNat = l from by omega, e] at k1
      have := hn _ k1
      simp [sign, hm.1] at this
end Px
namespace Go.Proofs.YtckgdgkkmhochaaDoor
open Go Go.RowKit Go.SF
set_option linter.unusedSimpArgs false
set_option linter.unusedVariables false
def NxEnd (m : Nat) (bd : Bool) (a : Option Addr) (c : Nat) (ts : List Lx.Tok) (s : Lx.Bs) (e : Ending) (w' : World) : Prop := ∃ a' c' r b, e = .returned (.bool b) ∧ w'.heap[m]? = some (.cells #[.slice a' r.length c', .bool bd] 43) ∧ TokSub a c ts a' c' r ∧
  ((b = true ∧ Px.sign s ts = some r) ∨ (b = false ∧ Px.sign s ts = none ∧ r = ts ∧ a' = a ∧ c' = c))
theorem xu8_agg : aggT Tryd.prog 5 = some false := by kernel_rfl
theorem xstr_agg : aggT Tryd.prog 9 = some false := by kernel_rfl
theorem nx_e (m : Nat) (bd : Bool) (a : Option Addr) (c : Nat) (ts : List Lx.Tok) (s : ByteArray) (W : Wd) (hm : W.w.heap[m]? = some (.cells #[.slice a ts.length c, .bool bd] 43)) (hI : ¬ W.I m) (hT : ts ≠ [] → Toks W a c ts) :
    CallsE Tryd.prog 24 #[.pointer (some ⟨m, 0, none⟩), .string s] W (NxEnd m bd a c ts s.data.toList) := by
  refine vc_xnext ts.length c bd s a m W _ hm hI ?_
  cases ts with
  | nil =>
    refine den_chk rfl (den_chk rfl (den_chk rfl (den_br (fun c0 => ?_) fun _ => den_ret fun hb _ _ => ?_)))
    · cases c0
    · exact ⟨a, c, [], false, rfl, hb _ (List.mem_singleton.2 rfl), TokSub.refl _ _ _, .inr ⟨rfl, rfl, rfl, rfl, rfl⟩⟩
  | cons t r =>
    have hT := hT (by simp)
    have hx : (t :: r)[0]? = some t := rfl
    have hS := SlI.some_of hT (by simp)
    refine den_chk ?_ (den_chk ?_ (den_chk ?_ (den_br (fun _ => den_look ⟨t.k, fun W' x => ?_, ?_⟩) fun c0 => ?_)))
    · simp only [Sy.dens, Sy.den, E.i, E.b, E.t, gd, Env.push, List.cons_append, List.nil_append, List.append_nil, Int.toNat_natCast]; rw [hS]; simp
    · simp [Sy.dens, Sy.den, E.i, E.b, E.t, gd, Env.push, List.cons_append, List.nil_append, List.append_nil, Int.toNat_natCast, leB]
    · simp only [Sy.dens, Sy.den, E.i, E.b, E.t, gd, Env.push, List.cons_append, List.nil_append, List.append_nil, Int.toNat_natCast]; rw [ltB_t (by simp only [List.length_cons]; omega)]; simp
    · exact sl_look_f (P := Tryd.prog) tokC_len hT xu8_agg (k := 0) hx (by decide) (u := .int .u8 t.k) rfl x
    · simp only [Env.push, List.cons_append, List.nil_append, List.append_nil]
      refine den_br (fun c1 => den_look ⟨⟨t.t.toArray⟩, fun W' x => ?_, ?_⟩) fun c1 => den_ret fun hb _ _ => ?_
      · exact sl_look_f (P := Tryd.prog) tokC_len hT xstr_agg (k := 1) hx (by decide) (u := .string ⟨t.t.toArray⟩) rfl x
      · simp only [Env.push, List.cons_append, List.nil_append, List.append_nil]
        have hk : t.k = 4 := by simpa [Sy.dens, Sy.den, E.i, E.b, E.t, gd, Env.push, List.cons_append, List.nil_append, List.append_nil, Int.toNat_natCast] using c1
        refine den_br (fun c2 => ?_) fun c2 => den_ret fun hb _ _ => ?_
        · have he : t.t = s.data.toList := by simpa [Sy.dens, Sy.den, E.i, E.b, E.t, gd, Env.push, List.cons_append, List.nil_append, List.append_nil, Int.toNat_natCast] using c2
          refine den_chk ?_ (den_sub (den_wr fun _ _ => den_ret fun hb _ _ => ?_))
          · simp only [Sy.dens, Sy.den, E.i, E.b, E.t, gd, Env.push, List.cons_append, List.nil_append, List.append_nil, Int.toNat_natCast]; exact leB_t (by simp only [List.length_cons]; omega)
          · refine ⟨subA a 1 c 2, c - 1, r, true, rfl, ?_, toks_tail a c t r, .inl ⟨rfl, by simp [Px.sign, he, hk]⟩⟩
            have := hb _ (List.mem_singleton.2 rfl)
            simpa [Sy.dens, Sy.den, E.i, E.b, E.t, gd, Env.push, List.cons_append, List.nil_append, List.append_nil, Int.toNat_natCast, Blk.at] using this
        · have hne : ¬ t.t = s.data.toList := by simpa [Sy.dens, Sy.den, E.i, E.b, E.t, gd, Env.push, List.cons_append, List.nil_append, List.append_nil, Int.toNat_natCast] using c2
          exact ⟨a, c, t :: r, false, rfl, hb _ (List.mem_singleton.2 rfl), TokSub.refl _ _ _, .inr ⟨rfl, by simp [Px.sign, hne], rfl, rfl, rfl⟩⟩
      · have hk : ¬ t.k = 4 := by simpa [Sy.dens, Sy.den, E.i, E.b, E.t, gd, Env.push, List.cons_append, List.nil_append, List.append_nil, Int.toNat_natCast] using c1
        exact ⟨a, c, t :: r, false, rfl, hb _ (List.mem_singleton.2 rfl), TokSub.refl _ _ _, .inr ⟨rfl, by simp [Px.sign, hk], rfl, rfl, rfl⟩⟩
    · simp only [Sy.dens, Sy.den, E.i, E.b, E.t, gd, Env.push, List.cons_append, List.nil_append, List.append_nil, Int.toNat_natCast, ltB_false, List.length_cons] at c0
      omega
theorem xnumber_q (t : ByteArray) (h : Lx.numOk t.data.toList = true) (W : Wd) (ht : t.size ≤ 1000000) : CallsQ Tryd.prog 42 #[.string t] W (.int .i64 (Px.numOf t.data.toList)) := by
  obtain ⟨h1, h2, h3⟩ := Px.num_val h
  have hs := size_len t
  refine vc_xnumber t W.all _ ?_
  refine den_loop (fun j vs ls _ => ∃ i n : Nat, vs = [.int .i64 (n : Int), .int .i64 (i : Int)] ∧ ls = [] ∧ i ≤ t.size ∧ j = t.size - i ∧ Lx.val n (t.data.toList.drop i) = Lx.val 0 t.data.toList) t.size ⟨0, 0, rfl, rfl, Nat.zero_le _, rfl, rfl⟩ ?_
  rintro j vs ls W' x ⟨i, n, rfl, rfl, hi, rfl, hv⟩
  refine ⟨(n : Int), (i : Int), rfl, rfl, fun _ => den_br (fun c => ?_) fun c => den_ret fun _ _ _ => ⟨_, rfl, ?_⟩⟩
  · simp only [Sy.dens, Sy.den, E.i, E.b, E.t, gd, Env.push, List.cons_append, List.nil_append, List.append_nil, Int.toNat_natCast, ltB_true] at c
    have hl : i < t.data.toList.length := by omega
    have hdr := gd_drop t.data.toList i hl
    have hmem : gd t.data.toList i 0 ∈ t.data.toList := List.mem_of_mem_drop (i := i) (by rw [hdr]; exact List.mem_cons_self ..)
    have hc := Lx.digit_iff.1 (h3 _ hmem)
    rw [hdr, Lx.val_cons] at hv
    generalize hch : gd t.data.toList i 0 = ch at *
    have hb := Lx.val_ge (t.data.toList.drop (i + 1)) (n * 10 + Lx.dig ch)
    have hp : 0 < 10 ^ (t.data.toList.drop (i + 1)).length := Nat.pow_pos (by decide)
    have hle : n * 10 + Lx.dig ch ≤ Lx.val 0 t.data.toList := by rw [← hv]; exact Nat.le_trans (Nat.le_mul_of_pos_right _ hp) hb
    refine den_chk ?_ (den_again ⟨t.size - (i + 1), by omega, i + 1, n * 10 + Lx.dig ch, ?_, rfl, by omega, rfl, hv⟩)
    · simp only [Sy.dens, Sy.den, E.i, E.b, E.t, gd, Env.push, List.cons_append, List.nil_append, List.append_nil, Int.toNat_natCast]; exact leB_t (by omega)
    · simp only [Sy.dens, Sy.den, E.i, E.b, E.t, gd, Env.push, List.cons_append, List.nil_append, List.append_nil, Int.toNat_natCast]
      rw [hch]
      have hd : Lx.dig ch = ch.toNat - 48 := rfl
      have e1 : IntKind.u8.wrap ((ch.toNat : Int) - 48) = (Lx.dig ch : Nat) := by
        rw [hd]; simp [IntKind.wrap, IntKind.bits, IntKind.signed]; omega
      have hdl : Lx.dig ch ≤ 9 := by omega
      rw [e1, w64i (x := ((Lx.dig ch : Nat) : Int)) (by omega) (by omega), w64i (x := (n : Int) * 10) (by omega) (by omega), w64i (by omega) (by omega), w64i (by omega) (by omega)]
      congr 2
  · simp only [Sy.dens, Sy.den, E.i, E.b, E.t, gd, Env.push, List.cons_append, List.nil_append, List.append_nil, Int.toNat_natCast, ltB_false] at c
    rw [List.drop_eq_nil_of_le (by omega), Lx.val_nil] at hv
    simp only [Sy.dens, Sy.den, E.i, E.b, E.t, gd, Env.push, List.cons_append, List.nil_append, List.append_nil, Int.toNat_natCast]
    rw [h1, hv]
theorem xop_q (s : ByteArray) (W : Wd) : CallsQ Tryd.prog 25 #[.string s] W (.int .u8 (Px.opX s.data.toList)) := by
  refine vc_xop s W.all _ ?_
  repeat' (first | (with_reducible refine den_br (fun _ => ?_) (fun _ => ?_)) | (with_reducible refine den_new fun _ _ _ _ => ?_) | (with_reducible refine den_wr fun _ _ => ?_) | (with_reducible refine den_grow fun _ _ => ?_) | (with_reducible refine den_ret fun _ _ _ => ?_))
  all_goals refine ⟨_, rfl, ?_⟩
  all_goals simp only [Sy.dens, Sy.den, E.i, E.b, E.t, gd, Env.push, List.cons_append, List.nil_append, List.append_nil, Int.toNat_natCast] at *
  all_goals generalize s.data.toList = l at *
  all_goals simp only [beq_iff_eq, beq_eq_false_iff_ne, ne_eq] at *
  all_goals (try (subst_vars; rfl))
  unfold Px.opX
  rw [Px.by_none fun b hb => by
    simp only [Px.binds, List.mem_cons, List.not_mem_nil, or_false] at hb
    rcases hb with rfl | rfl | rfl | rfl | rfl | rfl | rfl | rfl | rfl | rfl | rfl <;> exact fun e => absurd e.symm (by assumption)]
end Go.Proofs.YtckgdgkkmhochaaDoor
