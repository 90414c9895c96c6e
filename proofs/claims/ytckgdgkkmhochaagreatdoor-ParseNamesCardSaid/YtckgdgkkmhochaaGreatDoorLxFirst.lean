/- The first part of a text. -/
import Derived.Test.YtckgdgkkmhochaaGreatDoorLxSe
namespace Go.Proofs.YtckgdgkkmhochaaGreatDoor
open Go Go.RowKit Go.SF
set_option linter.unusedSimpArgs false
set_option linter.unusedVariables false

theorem prefix_q (s p : ByteArray) (W : Wd) : CallsQ Tryz.prog 91 #[.string s, .string p] W (.bool (p.data.toList.isPrefixOf s.data.toList)) :=
  .of_below (Calls.mono (Tryz.strings_HasPrefix s p W.w) fun e w' ⟨he, hw⟩ => ⟨he, hw ▸ Below.refl _ _⟩)
theorem below_drewN (w : World) (n : Nat) : Below w.heap.size w (w.drewN n) := ⟨rfl, rfl, rfl, Nat.le_refl _, fun _ _ => rfl⟩
theorem cut_q (s : ByteArray) (hs : s.size < 4294967281) (W : Wd) (hG : Glob W) : CallsQ Tryz.prog 90 #[.string s, .string ⟨#[39]⟩] W (.tuple #[.string ⟨(Lib.cut s.data.toList [39]).1.toArray⟩, .string ⟨(Lib.cut s.data.toList [39]).2.1.toArray⟩, .bool (Lib.cut s.data.toList [39]).2.2]) := by
  obtain ⟨m, hm⟩ := hG.ml
  exact .of_below (Calls.mono (Tryz.strings_Cut s ⟨#[39]⟩ m W.w hs hm) fun e w' ⟨he, n, hw⟩ => ⟨he, hw ▸ below_drewN _ _⟩)
def signL : List Sy := Lx.signs.map fun s => .str (.tl s)
theorem signs_look (W : Wd) (hG : Glob W) : (Instr.loadAt 123 (.pointer (some ⟨0, 0, none⟩))).run Tryz.prog W.w = .ok (.agg (Lx.signs.map fun s => Value.string ⟨s.toArray⟩).toArray) W.w := by
  obtain ⟨ty, h⟩ := hG.signs
  have h1 : ldS Tryz.prog 123 signL 0 = some (.agg signL) := by kernel_rfl
  have h2 := run_ldS (P := Tryz.prog) (ρ := {}) (w := W.w) (b := 0) (ty := ty) h1 (by rw [h]; rfl)
  exact h2
/-- a part, as a value -/
def vTok (t : Lx.Tok) : Value := .agg #[.int .u8 t.k, .string ⟨t.t.toArray⟩]
def vFirst (p : Lx.Tok × Nat) : Value := .tuple #[vTok p.1, .int .i64 (p.2 : Int)]
theorem extract_take (t : ByteArray) (n : Nat) (h : n ≤ t.size) : (t.extract 0 n).data.toList = t.data.toList.take n := by
  rw [ByteArray.data_extract, Array.toList_extract]; simp [List.extract_eq_take_drop]
theorem extract_drop (t : ByteArray) (n : Nat) : (t.extract n t.size).data.toList = t.data.toList.drop n := by
  rw [ByteArray.data_extract, Array.toList_extract]
  have := size_len t
  simp only [List.extract_eq_take_drop]
  rw [List.take_of_length_le]
  rw [List.length_drop]; omega
theorem ba_of {t : ByteArray} {l : List UInt8} (h : t.data.toList = l) : t = ⟨l.toArray⟩ := ba_ext (by simpa using h)
theorem first_q (t : ByteArray) (h0 : 0 < t.size) (ht : t.size ≤ 1000000) (W : Wd) (hG : Glob W) : CallsQ Tryz.prog 58 #[.string t] W (vFirst (Lx.first t.data.toList)) := by
  refine vc_first t W.all _ ?_
  have hs := size_len t
  have hG := hG.ext W.all_ext
  obtain ⟨c, r, hl⟩ : ∃ c r, t.data.toList = c :: r := by
    cases hl : t.data.toList with
    | nil => rw [hl] at hs; simp at hs; omega
    | cons c r => exact ⟨c, r, rfl⟩
  have hrl : r.length + 1 = t.size := by rw [← hs, hl]; rfl
  refine den_new fun m0 W1 _ x1 => den_new fun m1 W2 _ x2 => den_new fun m2 W3 _ x3 => den_wr fun W4 x4 => den_chk ?_ (den_chk ?_ (den_grow fun W5 x5 => ?_))
  · simp [Sy.dens, Sy.den, E.i, E.b, E.t, gd, Env.push, List.cons_append, List.nil_append, List.append_nil, Int.toNat_natCast, leB]
  · simp only [Sy.dens, Sy.den, E.i, E.b, E.t, gd, Env.push, List.cons_append, List.nil_append, List.append_nil, Int.toNat_natCast]; exact ltB_t (by omega)
  have x05 := (((x1.trans x2).trans x3).trans x4).trans x5
  refine den_br (fun c1 => ?_) fun c1 => ?_
  · have c1 : Lx.digit (gd t.data.toList 0 0) = true := c1
    rw [gd_head hl] at c1
    refine den_call_q (fun _ _ => runD_q t (by omega) W5) ⟨((Lx.run Lx.digit t.data.toList : Nat) : Int), rfl, fun W6 x6 => ?_⟩
    simp only [Env.push, List.cons_append, List.nil_append, List.append_nil]
    have hle := Lx.run_le Lx.digit t.data.toList
    refine den_chk ?_ (den_chk ?_ (den_grow fun _ _ => den_wr fun _ _ => den_grow fun _ _ => den_ret fun _ _ _ => ⟨_, rfl, ?_⟩))
    · simp only [Sy.dens, Sy.den, E.i, E.b, E.t, gd, Env.push, List.cons_append, List.nil_append, List.append_nil, Int.toNat_natCast]; exact leB_t (by omega)
    · simp only [Sy.dens, Sy.den, E.i, E.b, E.t, gd, Env.push, List.cons_append, List.nil_append, List.append_nil, Int.toNat_natCast]; exact leB_t (by omega)
    · have e : Lx.first t.data.toList = (⟨1, t.data.toList.take (Lx.run Lx.digit t.data.toList)⟩, Lx.run Lx.digit t.data.toList) := by rw [hl]; simp only [Lx.first, c1, if_true]
      rw [e, vFirst, vTok, ← ba_of (extract_take t _ (by omega))]
      rfl
  · have c1 : Lx.digit (gd t.data.toList 0 0) = false := c1
    rw [gd_head hl] at c1
    refine den_new fun m3 W6 _ x6 => den_wr fun W7 x7 => den_grow fun W8 x8 => ?_
    have x08 := ((x05.trans x6).trans x7).trans x8
    have hG8 := hG.ext x08
    refine den_br (fun c2 => ?_) fun c2 => den_br (fun c3 => ?_) fun c3 => ?_
    · have c2 : Lx.letter (gd t.data.toList 0 0) = true := c2
      rw [gd_head hl] at c2
      refine den_call_q (fun _ _ => runB_q t (by omega) W8) ⟨((Lx.run Lx.behind t.data.toList : Nat) : Int), rfl, fun W9 x9 => ?_⟩
      simp only [Env.push, List.cons_append, List.nil_append, List.append_nil]
      have hle := Lx.run_le Lx.behind t.data.toList
      refine den_chk ?_ (den_chk ?_ (den_grow fun _ _ => den_wr fun _ _ => den_grow fun _ _ => den_ret fun _ _ _ => ⟨_, rfl, ?_⟩))
      · simp only [Sy.dens, Sy.den, E.i, E.b, E.t, gd, Env.push, List.cons_append, List.nil_append, List.append_nil, Int.toNat_natCast]; exact leB_t (by omega)
      · simp only [Sy.dens, Sy.den, E.i, E.b, E.t, gd, Env.push, List.cons_append, List.nil_append, List.append_nil, Int.toNat_natCast]; exact leB_t (by omega)
      · have e : Lx.first t.data.toList = (⟨2, t.data.toList.take (Lx.run Lx.behind t.data.toList)⟩, Lx.run Lx.behind t.data.toList) := by rw [hl]; simp only [Lx.first, c1, c2, if_true, Bool.false_eq_true, if_false]
        rw [e, vFirst, vTok, ← ba_of (extract_take t _ (by omega))]
        rfl
    · have c2 : Lx.letter (gd t.data.toList 0 0) = false := c2
      rw [gd_head hl] at c2
      have c3 : (((gd t.data.toList 0 0).toNat : Int) == 39) = true := c3
      rw [gd_head hl, beq_iff_eq] at c3
      have hc : c = 39 := by apply UInt8.toNat_inj.1; have : (39 : UInt8).toNat = 39 := rfl; omega
      have hcut := cut_q (t.extract 1 t.size) (by rw [ByteArray.size_extract]; omega) W8 hG8
      have hdr : (t.extract 1 t.size).data.toList = r := by rw [extract_drop, hl]; rfl
      rw [hdr] at hcut
      obtain ⟨k1, k2⟩ := Lx.cut39 r
      refine den_chk ?_ (den_chk ?_ (den_chk ?_ (den_call_q (fun _ _ => hcut) ⟨_, _, _, rfl, fun W9 x9 => ?_⟩)))
      · simp [Sy.dens, Sy.den, E.i, E.b, E.t, gd, Env.push, List.cons_append, List.nil_append, List.append_nil, Int.toNat_natCast, leB]
      · simp only [Sy.dens, Sy.den, E.i, E.b, E.t, gd, Env.push, List.cons_append, List.nil_append, List.append_nil, Int.toNat_natCast]; exact leB_t (by omega)
      · simp only [Sy.dens, Sy.den, E.i, E.b, E.t, gd, Env.push, List.cons_append, List.nil_append, List.append_nil, Int.toNat_natCast]; exact leB_t (by omega)
      simp only [Env.push, List.cons_append, List.nil_append, List.append_nil]
      have e0 : Lx.first t.data.toList = match Lx.cutQ r with
        | some q => (⟨3, q⟩, q.length + 2)
        | none => Lx.none := by
        rw [hl, hc]; rfl
      refine den_br (fun c4 => den_wr fun _ _ => den_ret fun _ _ _ => ⟨_, rfl, ?_⟩) fun c4 => den_wr fun _ _ => den_ret fun _ _ _ => ⟨_, rfl, ?_⟩
      · have c4 : (!(Lib.cut r [39]).2.2) = true := c4
        rw [k1] at c4
        have : Lx.cutQ r = none := by cases h : Lx.cutQ r with
          | none => rfl
          | some q => rw [h] at c4; cases c4
        rw [e0, this]; rfl
      · have c4 : (!(Lib.cut r [39]).2.2) = false := c4
        rw [k1] at c4
        have hq := k2 (by simpa using c4)
        have hql := Lx.cutQ_len hq
        rw [e0, hq]
        simp only [Sy.dens, Sy.den, E.i, E.b, E.t, gd, Env.push, List.cons_append, List.nil_append, List.append_nil, Int.toNat_natCast, vFirst, vTok]
        have hsz : ((⟨(Lib.cut r [39]).1.toArray⟩ : ByteArray).size : Int) = ((Lib.cut r [39]).1.length : Int) := by rw [← size_len]
        rw [hsz, w64i (by omega) (by omega)]
        rfl
    · have c2 : Lx.letter (gd t.data.toList 0 0) = false := c2
      rw [gd_head hl] at c2
      have c3 : (((gd t.data.toList 0 0).toNat : Int) == 39) = false := c3
      rw [gd_head hl, beq_eq_false_iff_ne] at c3
      have hc : c ≠ 39 := by rintro rfl; exact c3 rfl
      have e0 : Lx.first t.data.toList = match Lx.signs.find? fun x => x.isPrefixOf t.data.toList with
        | some x => (⟨4, x⟩, x.length)
        | none => Lx.none := by
        rw [hl]; simp only [Lx.first, c1, c2, hc, if_false, Bool.false_eq_true]; rfl
      refine den_look ⟨⟨#[60, 61]⟩, ⟨#[61, 61]⟩, ⟨#[33, 61]⟩, ⟨#[124]⟩, ⟨#[38]⟩, ⟨#[60]⟩, ⟨#[43]⟩, ⟨#[45]⟩, ⟨#[42]⟩, ⟨#[47]⟩, ⟨#[37]⟩, ⟨#[33]⟩, ⟨#[40]⟩, ⟨#[41]⟩, fun W' x => signs_look W' (hG8.ext x), ?_⟩
      simp only [Env.push, List.cons_append, List.nil_append, List.append_nil]
      refine den_call_q (fun _ _ => prefix_q t _ _) ⟨_, rfl, fun _ _ => den_br (fun k0 => den_wr fun _ _ => den_ret fun _ _ _ => ⟨_, rfl, ?_⟩) fun k0 => ?_⟩
      · simp only [Sy.dens, Sy.den, E.i, E.b, E.t, gd, Env.push, List.cons_append, List.nil_append, List.append_nil, Int.toNat_natCast] at k0
        rw [e0]
        simp only [Lx.signs, List.find?, k0]
        rfl
      simp only [Env.push, List.cons_append, List.nil_append, List.append_nil]
      refine den_call_q (fun _ _ => prefix_q t _ _) ⟨_, rfl, fun _ _ => den_br (fun k1 => den_wr fun _ _ => den_ret fun _ _ _ => ⟨_, rfl, ?_⟩) fun k1 => ?_⟩
      · simp only [Sy.dens, Sy.den, E.i, E.b, E.t, gd, Env.push, List.cons_append, List.nil_append, List.append_nil, Int.toNat_natCast] at k0 k1
        rw [e0]
        simp only [Lx.signs, List.find?, k0, k1]
        rfl
      simp only [Env.push, List.cons_append, List.nil_append, List.append_nil]
      refine den_call_q (fun _ _ => prefix_q t _ _) ⟨_, rfl, fun _ _ => den_br (fun k2 => den_wr fun _ _ => den_ret fun _ _ _ => ⟨_, rfl, ?_⟩) fun k2 => ?_⟩
      · simp only [Sy.dens, Sy.den, E.i, E.b, E.t, gd, Env.push, List.cons_append, List.nil_append, List.append_nil, Int.toNat_natCast] at k0 k1 k2
        rw [e0]
        simp only [Lx.signs, List.find?, k0, k1, k2]
        rfl
      simp only [Env.push, List.cons_append, List.nil_append, List.append_nil]
      refine den_call_q (fun _ _ => prefix_q t _ _) ⟨_, rfl, fun _ _ => den_br (fun k3 => den_wr fun _ _ => den_ret fun _ _ _ => ⟨_, rfl, ?_⟩) fun k3 => ?_⟩
      · simp only [Sy.dens, Sy.den, E.i, E.b, E.t, gd, Env.push, List.cons_append, List.nil_append, List.append_nil, Int.toNat_natCast] at k0 k1 k2 k3
        rw [e0]
        simp only [Lx.signs, List.find?, k0, k1, k2, k3]
        rfl
      simp only [Env.push, List.cons_append, List.nil_append, List.append_nil]
      refine den_call_q (fun _ _ => prefix_q t _ _) ⟨_, rfl, fun _ _ => den_br (fun k4 => den_wr fun _ _ => den_ret fun _ _ _ => ⟨_, rfl, ?_⟩) fun k4 => ?_⟩
      · simp only [Sy.dens, Sy.den, E.i, E.b, E.t, gd, Env.push, List.cons_append, List.nil_append, List.append_nil, Int.toNat_natCast] at k0 k1 k2 k3 k4
        rw [e0]
        simp only [Lx.signs, List.find?, k0, k1, k2, k3, k4]
        rfl
      simp only [Env.push, List.cons_append, List.nil_append, List.append_nil]
      refine den_call_q (fun _ _ => prefix_q t _ _) ⟨_, rfl, fun _ _ => den_br (fun k5 => den_wr fun _ _ => den_ret fun _ _ _ => ⟨_, rfl, ?_⟩) fun k5 => ?_⟩
      · simp only [Sy.dens, Sy.den, E.i, E.b, E.t, gd, Env.push, List.cons_append, List.nil_append, List.append_nil, Int.toNat_natCast] at k0 k1 k2 k3 k4 k5
        rw [e0]
        simp only [Lx.signs, List.find?, k0, k1, k2, k3, k4, k5]
        rfl
      simp only [Env.push, List.cons_append, List.nil_append, List.append_nil]
      refine den_call_q (fun _ _ => prefix_q t _ _) ⟨_, rfl, fun _ _ => den_br (fun k6 => den_wr fun _ _ => den_ret fun _ _ _ => ⟨_, rfl, ?_⟩) fun k6 => ?_⟩
      · simp only [Sy.dens, Sy.den, E.i, E.b, E.t, gd, Env.push, List.cons_append, List.nil_append, List.append_nil, Int.toNat_natCast] at k0 k1 k2 k3 k4 k5 k6
        rw [e0]
        simp only [Lx.signs, List.find?, k0, k1, k2, k3, k4, k5, k6]
        rfl
      simp only [Env.push, List.cons_append, List.nil_append, List.append_nil]
      refine den_call_q (fun _ _ => prefix_q t _ _) ⟨_, rfl, fun _ _ => den_br (fun k7 => den_wr fun _ _ => den_ret fun _ _ _ => ⟨_, rfl, ?_⟩) fun k7 => ?_⟩
      · simp only [Sy.dens, Sy.den, E.i, E.b, E.t, gd, Env.push, List.cons_append, List.nil_append, List.append_nil, Int.toNat_natCast] at k0 k1 k2 k3 k4 k5 k6 k7
        rw [e0]
        simp only [Lx.signs, List.find?, k0, k1, k2, k3, k4, k5, k6, k7]
        rfl
      simp only [Env.push, List.cons_append, List.nil_append, List.append_nil]
      refine den_call_q (fun _ _ => prefix_q t _ _) ⟨_, rfl, fun _ _ => den_br (fun k8 => den_wr fun _ _ => den_ret fun _ _ _ => ⟨_, rfl, ?_⟩) fun k8 => ?_⟩
      · simp only [Sy.dens, Sy.den, E.i, E.b, E.t, gd, Env.push, List.cons_append, List.nil_append, List.append_nil, Int.toNat_natCast] at k0 k1 k2 k3 k4 k5 k6 k7 k8
        rw [e0]
        simp only [Lx.signs, List.find?, k0, k1, k2, k3, k4, k5, k6, k7, k8]
        rfl
      simp only [Env.push, List.cons_append, List.nil_append, List.append_nil]
      refine den_call_q (fun _ _ => prefix_q t _ _) ⟨_, rfl, fun _ _ => den_br (fun k9 => den_wr fun _ _ => den_ret fun _ _ _ => ⟨_, rfl, ?_⟩) fun k9 => ?_⟩
      · simp only [Sy.dens, Sy.den, E.i, E.b, E.t, gd, Env.push, List.cons_append, List.nil_append, List.append_nil, Int.toNat_natCast] at k0 k1 k2 k3 k4 k5 k6 k7 k8 k9
        rw [e0]
        simp only [Lx.signs, List.find?, k0, k1, k2, k3, k4, k5, k6, k7, k8, k9]
        rfl
      simp only [Env.push, List.cons_append, List.nil_append, List.append_nil]
      refine den_call_q (fun _ _ => prefix_q t _ _) ⟨_, rfl, fun _ _ => den_br (fun k10 => den_wr fun _ _ => den_ret fun _ _ _ => ⟨_, rfl, ?_⟩) fun k10 => ?_⟩
      · simp only [Sy.dens, Sy.den, E.i, E.b, E.t, gd, Env.push, List.cons_append, List.nil_append, List.append_nil, Int.toNat_natCast] at k0 k1 k2 k3 k4 k5 k6 k7 k8 k9 k10
        rw [e0]
        simp only [Lx.signs, List.find?, k0, k1, k2, k3, k4, k5, k6, k7, k8, k9, k10]
        rfl
      simp only [Env.push, List.cons_append, List.nil_append, List.append_nil]
      refine den_call_q (fun _ _ => prefix_q t _ _) ⟨_, rfl, fun _ _ => den_br (fun k11 => den_wr fun _ _ => den_ret fun _ _ _ => ⟨_, rfl, ?_⟩) fun k11 => ?_⟩
      · simp only [Sy.dens, Sy.den, E.i, E.b, E.t, gd, Env.push, List.cons_append, List.nil_append, List.append_nil, Int.toNat_natCast] at k0 k1 k2 k3 k4 k5 k6 k7 k8 k9 k10 k11
        rw [e0]
        simp only [Lx.signs, List.find?, k0, k1, k2, k3, k4, k5, k6, k7, k8, k9, k10, k11]
        rfl
      simp only [Env.push, List.cons_append, List.nil_append, List.append_nil]
      refine den_call_q (fun _ _ => prefix_q t _ _) ⟨_, rfl, fun _ _ => den_br (fun k12 => den_wr fun _ _ => den_ret fun _ _ _ => ⟨_, rfl, ?_⟩) fun k12 => ?_⟩
      · simp only [Sy.dens, Sy.den, E.i, E.b, E.t, gd, Env.push, List.cons_append, List.nil_append, List.append_nil, Int.toNat_natCast] at k0 k1 k2 k3 k4 k5 k6 k7 k8 k9 k10 k11 k12
        rw [e0]
        simp only [Lx.signs, List.find?, k0, k1, k2, k3, k4, k5, k6, k7, k8, k9, k10, k11, k12]
        rfl
      simp only [Env.push, List.cons_append, List.nil_append, List.append_nil]
      refine den_call_q (fun _ _ => prefix_q t _ _) ⟨_, rfl, fun _ _ => den_br (fun k13 => den_wr fun _ _ => den_ret fun _ _ _ => ⟨_, rfl, ?_⟩) fun k13 => ?_⟩
      · simp only [Sy.dens, Sy.den, E.i, E.b, E.t, gd, Env.push, List.cons_append, List.nil_append, List.append_nil, Int.toNat_natCast] at k0 k1 k2 k3 k4 k5 k6 k7 k8 k9 k10 k11 k12 k13
        rw [e0]
        simp only [Lx.signs, List.find?, k0, k1, k2, k3, k4, k5, k6, k7, k8, k9, k10, k11, k12, k13]
        rfl
      simp only [Env.push, List.cons_append, List.nil_append, List.append_nil]
      refine den_wr fun _ _ => den_ret fun _ _ _ => ⟨_, rfl, ?_⟩
      simp only [Sy.dens, Sy.den, E.i, E.b, E.t, gd, Env.push, List.cons_append, List.nil_append, List.append_nil, Int.toNat_natCast] at k0 k1 k2 k3 k4 k5 k6 k7 k8 k9 k10 k11 k12 k13
      rw [e0]
      simp only [Lx.signs, List.find?, k0, k1, k2, k3, k4, k5, k6, k7, k8, k9, k10, k11, k12, k13]
      rfl
end Go.Proofs.YtckgdgkkmhochaaGreatDoor
