/- The examples of the parts, the limits. -/
import Derived.Test.YthdoemolgobonaaDoorLxPieces
import Derived.Test.YthdoemolgobonaaDoorVcNames
namespace Go.Proofs.YthdoemolgobonaaDoor
open Go Go.RowKit Go.SF
set_option linter.unusedSimpArgs false
set_option linter.unusedVariables false

theorem nm0 : Lx.lex [61] = ([], 4) := by decide +kernel
theorem nm1 : Lx.lex [35] = ([], 4) := by decide +kernel
theorem nm2 : Lx.lex [97, 61, 98] = ([], 4) := by decide +kernel
theorem nm3 : Lx.lex [39, 97] = ([], 4) := by decide +kernel
theorem nm4 : Lx.lex [39, 39, 39, 32] = ([], 4) := by decide +kernel
theorem nm5 : Lx.lex [48, 49] = ([], 4) := by decide +kernel
theorem nm6 : Lx.lex [48, 48] = ([], 4) := by decide +kernel
theorem nm7 : Lx.lex [57, 50, 50, 51, 51, 55, 50, 48, 51, 54, 56, 53, 52, 55, 55, 53, 56, 48, 56] = ([], 4) := by decide +kernel
theorem nm8 : Lx.lex [57, 57, 57, 57, 57, 57, 57, 57, 57, 57, 57, 57, 57, 57, 57, 57, 57, 57, 57, 57] = ([], 4) := by decide +kernel
theorem nm9 : Lx.lex [97, 98, 99, 100, 101, 102, 103, 104, 105, 106, 107, 108, 109] = ([], 4) := by decide +kernel
theorem nm10 : Lx.lex [65] = ([], 4) := by decide +kernel
theorem nm11 : Lx.lex [95, 97] = ([], 4) := by decide +kernel
theorem nm12 : Lx.lex [9] = ([], 4) := by decide +kernel
theorem nm13 : Lx.lex [97, 10] = ([], 4) := by decide +kernel
theorem nm14 : Lx.lex [39, 31, 39] = ([], 4) := by decide +kernel
theorem nm15 : Lx.lex [39, 127, 39] = ([], 4) := by decide +kernel
theorem nm16 : Lx.lex [39, 0, 0, 0, 39] = ([], 4) := by decide +kernel
def ones (n : Nat) : List Lx.Tok := List.replicate n ⟨1, [49]⟩
def aas (n : Nat) : List UInt8 := (List.replicate n [97, 32]).flatten
theorem aas_succ (n : Nat) : aas (n + 1) = aas n ++ [97, 32] := by unfold aas; rw [List.replicate_succ']; simp
theorem aas_len (n : Nat) : (aas n).length = 2 * n := by
  induction n with
  | zero => rfl
  | succ n ih => rw [aas_succ, List.length_append, ih]; rfl
theorem ones_succ (n : Nat) : ones (n + 1) = ones n ++ [⟨1, [49]⟩] := by unfold ones; rw [List.replicate_succ']
theorem lexFull : Lx.lex (aas 50) = (List.replicate 50 ⟨2, [97]⟩, 0) := by decide +kernel
theorem lexLong : (Lx.lex (aas 50 ++ [32])) = ([], 40) := by decide +kernel
theorem lexSigns : Lx.lex [124, 38, 60, 60, 61, 61, 61, 33, 61, 43, 45, 42, 47, 37, 33, 40, 41] = ([⟨4, [124]⟩, ⟨4, [38]⟩, ⟨4, [60]⟩, ⟨4, [60, 61]⟩, ⟨4, [61, 61]⟩, ⟨4, [33, 61]⟩, ⟨4, [43]⟩, ⟨4, [45]⟩, ⟨4, [42]⟩, ⟨4, [47]⟩, ⟨4, [37]⟩, ⟨4, [33]⟩, ⟨4, [40]⟩, ⟨4, [41]⟩], 0) := by decide +kernel
theorem lexQ40 : Lx.lex [39, 48, 49, 50, 51, 52, 53, 54, 55, 56, 57, 48, 49, 50, 51, 52, 53, 54, 55, 56, 57, 48, 49, 50, 51, 52, 53, 54, 55, 56, 57, 48, 49, 50, 51, 52, 53, 54, 55, 56, 57, 39] = ([⟨3, [48, 49, 50, 51, 52, 53, 54, 55, 56, 57, 48, 49, 50, 51, 52, 53, 54, 55, 56, 57, 48, 49, 50, 51, 52, 53, 54, 55, 56, 57, 48, 49, 50, 51, 52, 53, 54, 55, 56, 57]⟩], 0) := by decide +kernel
theorem lexQ41 : Lx.lex [39, 48, 49, 50, 51, 52, 53, 54, 55, 56, 57, 48, 49, 50, 51, 52, 53, 54, 55, 56, 57, 48, 49, 50, 51, 52, 53, 54, 55, 56, 57, 48, 49, 50, 51, 52, 53, 54, 55, 56, 57, 48, 39] = ([], 4) := by decide +kernel
theorem lexLast : Lx.lex [57, 50, 50, 51, 51, 55, 50, 48, 51, 54, 56, 53, 52, 55, 55, 53, 56, 48, 55, 32, 48, 32, 97, 98, 99, 100, 101, 102, 103, 104, 105, 106, 107, 108] = ([⟨1, [57, 50, 50, 51, 51, 55, 50, 48, 51, 54, 56, 53, 52, 55, 55, 53, 56, 48, 55]⟩, ⟨1, [48]⟩, ⟨2, [97, 98, 99, 100, 101, 102, 103, 104, 105, 106, 107, 108]⟩], 0) := by decide +kernel
theorem show51 : Lx.show_ (ones 51) = ([], 40) := by decide +kernel
theorem show50 : (Lx.show_ (ones 50)).2 = 0 := by decide +kernel
theorem sub_sl {w : World} {J : Nat → Prop} {a : Option Addr} {n c sz m : Nat} {xs : List Value} (h : SlAt w J a n c sz xs) (hm : m ≤ n) : SlAt w J (subA a 0 c sz) m c sz (xs.take (m * sz)) := by
  obtain ⟨h1, h2, h3⟩ := h
  have hms : m * sz ≤ n * sz := Nat.mul_le_mul_right _ hm
  refine ⟨by rw [List.length_take, h1, Nat.min_eq_left hms], by omega, ?_⟩
  rcases h3 with ⟨rfl, rfl, rfl⟩ | ⟨b, o, rfl, hJ, hb, hc⟩
  · exact .inl ⟨rfl, by omega, rfl⟩
  · refine .inr ⟨b, o, ?_, hJ, hb, fun j u hu => ?_⟩
    · unfold subA
      split
      · rfl
      · rw [Option.map_some, Nat.zero_mul, add_none]; rfl
    · rw [List.getElem?_take] at hu
      split at hu
      · exact hc j u hu
      · cases hu
set_option maxRecDepth 100000 in
set_option maxHeartbeats 1000000 in
theorem lexNames_q (W : Wd) (hG : Glob W) : CallsQ Tryd.prog 7 #[] W (.bool true) := by
  refine vc_lexNames W.all _ ?_
  have hG := hG.ext W.all_ext
  refine den_new fun m0 V0 _ y0 => den_chk ?_ (den_chk ?_ (den_new fun m1 V1 _ y1 => ?_))
  · simp only [Sy.dens, Sy.den, E.i, E.b, E.t, gd, Env.push, List.cons_append, List.nil_append, List.append_nil, Int.toNat_natCast]; decide +kernel
  · simp only [Sy.dens, Sy.den, E.i, E.b, E.t, gd, Env.push, List.cons_append, List.nil_append, List.append_nil, Int.toNat_natCast]; decide +kernel
  have hG0 := (hG.ext y0).ext y1
  simp only [Env.push, List.cons_append, List.nil_append, List.append_nil]
  refine den_call_i (fun _ _ => lexC [61] [] 4 nm0 _ hG0) fun v w _ ⟨a0, c0, hv, _⟩ => ⟨4, 0, c0, a0, hv, fun W1 e1 x1 n1 => den_br_f rfl ?_⟩
  have hG1 := hG0.ext x1
  simp only [Env.push, List.cons_append, List.nil_append, List.append_nil]
  refine den_call_i (fun _ _ => lexC [35] [] 4 nm1 _ hG1) fun v w _ ⟨a1, c1, hv, _⟩ => ⟨4, 0, c1, a1, hv, fun W2 e2 x2 n2 => den_br_f rfl ?_⟩
  have hG2 := hG1.ext x2
  simp only [Env.push, List.cons_append, List.nil_append, List.append_nil]
  refine den_call_i (fun _ _ => lexC [97, 61, 98] [] 4 nm2 _ hG2) fun v w _ ⟨a2, c2, hv, _⟩ => ⟨4, 0, c2, a2, hv, fun W3 e3 x3 n3 => den_br_f rfl ?_⟩
  have hG3 := hG2.ext x3
  simp only [Env.push, List.cons_append, List.nil_append, List.append_nil]
  refine den_call_i (fun _ _ => lexC [39, 97] [] 4 nm3 _ hG3) fun v w _ ⟨a3, c3, hv, _⟩ => ⟨4, 0, c3, a3, hv, fun W4 e4 x4 n4 => den_br_f rfl ?_⟩
  have hG4 := hG3.ext x4
  simp only [Env.push, List.cons_append, List.nil_append, List.append_nil]
  refine den_call_i (fun _ _ => lexC [39, 39, 39, 32] [] 4 nm4 _ hG4) fun v w _ ⟨a4, c4, hv, _⟩ => ⟨4, 0, c4, a4, hv, fun W5 e5 x5 n5 => den_br_f rfl ?_⟩
  have hG5 := hG4.ext x5
  simp only [Env.push, List.cons_append, List.nil_append, List.append_nil]
  refine den_call_i (fun _ _ => lexC [48, 49] [] 4 nm5 _ hG5) fun v w _ ⟨a5, c5, hv, _⟩ => ⟨4, 0, c5, a5, hv, fun W6 e6 x6 n6 => den_br_f rfl ?_⟩
  have hG6 := hG5.ext x6
  simp only [Env.push, List.cons_append, List.nil_append, List.append_nil]
  refine den_call_i (fun _ _ => lexC [48, 48] [] 4 nm6 _ hG6) fun v w _ ⟨a6, c6, hv, _⟩ => ⟨4, 0, c6, a6, hv, fun W7 e7 x7 n7 => den_br_f rfl ?_⟩
  have hG7 := hG6.ext x7
  simp only [Env.push, List.cons_append, List.nil_append, List.append_nil]
  refine den_call_i (fun _ _ => lexC [57, 50, 50, 51, 51, 55, 50, 48, 51, 54, 56, 53, 52, 55, 55, 53, 56, 48, 56] [] 4 nm7 _ hG7) fun v w _ ⟨a7, c7, hv, _⟩ => ⟨4, 0, c7, a7, hv, fun W8 e8 x8 n8 => den_br_f rfl ?_⟩
  have hG8 := hG7.ext x8
  simp only [Env.push, List.cons_append, List.nil_append, List.append_nil]
  refine den_call_i (fun _ _ => lexC [57, 57, 57, 57, 57, 57, 57, 57, 57, 57, 57, 57, 57, 57, 57, 57, 57, 57, 57, 57] [] 4 nm8 _ hG8) fun v w _ ⟨a8, c8, hv, _⟩ => ⟨4, 0, c8, a8, hv, fun W9 e9 x9 n9 => den_br_f rfl ?_⟩
  have hG9 := hG8.ext x9
  simp only [Env.push, List.cons_append, List.nil_append, List.append_nil]
  refine den_call_i (fun _ _ => lexC [97, 98, 99, 100, 101, 102, 103, 104, 105, 106, 107, 108, 109] [] 4 nm9 _ hG9) fun v w _ ⟨a9, c9, hv, _⟩ => ⟨4, 0, c9, a9, hv, fun W10 e10 x10 n10 => den_br_f rfl ?_⟩
  have hG10 := hG9.ext x10
  simp only [Env.push, List.cons_append, List.nil_append, List.append_nil]
  refine den_call_i (fun _ _ => lexC [65] [] 4 nm10 _ hG10) fun v w _ ⟨a10, c10, hv, _⟩ => ⟨4, 0, c10, a10, hv, fun W11 e11 x11 n11 => den_br_f rfl ?_⟩
  have hG11 := hG10.ext x11
  simp only [Env.push, List.cons_append, List.nil_append, List.append_nil]
  refine den_call_i (fun _ _ => lexC [95, 97] [] 4 nm11 _ hG11) fun v w _ ⟨a11, c11, hv, _⟩ => ⟨4, 0, c11, a11, hv, fun W12 e12 x12 n12 => den_br_f rfl ?_⟩
  have hG12 := hG11.ext x12
  simp only [Env.push, List.cons_append, List.nil_append, List.append_nil]
  refine den_call_i (fun _ _ => lexC [9] [] 4 nm12 _ hG12) fun v w _ ⟨a12, c12, hv, _⟩ => ⟨4, 0, c12, a12, hv, fun W13 e13 x13 n13 => den_br_f rfl ?_⟩
  have hG13 := hG12.ext x13
  simp only [Env.push, List.cons_append, List.nil_append, List.append_nil]
  refine den_call_i (fun _ _ => lexC [97, 10] [] 4 nm13 _ hG13) fun v w _ ⟨a13, c13, hv, _⟩ => ⟨4, 0, c13, a13, hv, fun W14 e14 x14 n14 => den_br_f rfl ?_⟩
  have hG14 := hG13.ext x14
  simp only [Env.push, List.cons_append, List.nil_append, List.append_nil]
  refine den_call_i (fun _ _ => lexC [39, 31, 39] [] 4 nm14 _ hG14) fun v w _ ⟨a14, c14, hv, _⟩ => ⟨4, 0, c14, a14, hv, fun W15 e15 x15 n15 => den_br_f rfl ?_⟩
  have hG15 := hG14.ext x15
  simp only [Env.push, List.cons_append, List.nil_append, List.append_nil]
  refine den_call_i (fun _ _ => lexC [39, 127, 39] [] 4 nm15 _ hG15) fun v w _ ⟨a15, c15, hv, _⟩ => ⟨4, 0, c15, a15, hv, fun W16 e16 x16 n16 => den_br_f rfl ?_⟩
  have hG16 := hG15.ext x16
  simp only [Env.push, List.cons_append, List.nil_append, List.append_nil]
  refine den_call_i (fun _ _ => lexC [39, 0, 0, 0, 39] [] 4 nm16 _ hG16) fun v w _ ⟨a16, c16, hv, _⟩ => ⟨4, 0, c16, a16, hv, fun W17 e17 x17 n17 => den_br_f rfl ?_⟩
  have hG17 := hG16.ext x17
  simp only [Env.push, List.cons_append, List.nil_append, List.append_nil]
  refine den_loop (fun k vs ls _ => ∃ i : Nat, vs = [.string ⟨(aas i).toArray⟩] ∧ ls = [] ∧ i ≤ 50 ∧ k = 50 - i) 50 ⟨0, rfl, rfl, by omega, rfl⟩ ?_
  rintro k vs ls V2 y2 ⟨i, rfl, rfl, hi, rfl⟩
  refine ⟨⟨(aas i).toArray⟩, rfl, rfl, fun _ => ?_⟩
  simp only [Env.push, List.cons_append, List.nil_append, List.append_nil]
  have hsz : ((⟨(aas i).toArray⟩ : ByteArray).size : Int) = ((2 * i : Nat) : Int) := by rw [← size_len, ← aas_len]
  have hG18 := hG17.ext y2
  refine den_br (fun c1 => ?_) fun c1 => ?_
  · simp only [Sy.dens, Sy.den, E.i, E.b, E.t, gd, Env.push, List.cons_append, List.nil_append, List.append_nil, Int.toNat_natCast, ltB_true, hsz] at c1
    refine den_chk ?_ (den_again ⟨50 - (i + 1), by omega, i + 1, ?_, rfl, by omega, rfl⟩)
    · simp only [Sy.dens, Sy.den, E.i, E.b, E.t, gd, Env.push, List.cons_append, List.nil_append, List.append_nil, Int.toNat_natCast, hsz]; refine leB_t ?_; rw [show (⟨[97, 32].toArray⟩ : ByteArray).size = 2 from rfl]; omega
    · simp only [Sy.dens, Sy.den, E.i, E.b, E.t, gd, Env.push, List.cons_append, List.nil_append, List.append_nil, Int.toNat_natCast]
      rw [cat_list, aas_succ]
  simp only [Sy.dens, Sy.den, E.i, E.b, E.t, gd, Env.push, List.cons_append, List.nil_append, List.append_nil, Int.toNat_natCast, ltB_false, hsz] at c1
  obtain rfl : i = 50 := by omega
  refine den_call_i (fun _ _ => lexC (aas 50) _ _ lexFull _ hG18) fun v w _ ⟨a, c, hv, _⟩ => ⟨0, 50, c, a, hv, fun W19 e19 x19 n19 => ?_⟩
  have hG19 := hG18.ext x19
  simp only [Env.push, List.cons_append, List.nil_append, List.append_nil]
  have e32 : (⟨(aas 50).toArray⟩ : ByteArray) ++ ⟨[32].toArray⟩ = ⟨(aas 50 ++ [32]).toArray⟩ := by rw [cat_list]
  have hl := lexC (aas 50 ++ [32]) _ _ lexLong W19 hG19
  rw [← e32] at hl
  refine den_chk ?_ (den_call_i (fun _ _ => hl) fun v w _ ⟨a, c, hv, _⟩ => ⟨40, 0, c, a, hv, fun W20 e20 x20 n20 => ?_⟩)
  · simp only [Sy.dens, Sy.den, E.i, E.b, E.t, gd, Env.push, List.cons_append, List.nil_append, List.append_nil, Int.toNat_natCast, hsz]; refine leB_t ?_; rw [show (⟨[32].toArray⟩ : ByteArray).size = 1 from rfl]; omega
  have hG20 := hG19.ext x20
  simp only [Env.push, List.cons_append, List.nil_append, List.append_nil]
  refine den_call_i (fun _ _ => lexC _ _ _ lexSigns _ hG20) fun v w _ ⟨a21, c21, hv, ht21⟩ => ⟨0, 14, c21, a21, hv, fun W21 e21 x21 n21 => ?_⟩
  have T21 := ht21.stay e21 n21
  have hG21 := hG20.ext x21
  simp only [Env.push, List.cons_append, List.nil_append, List.append_nil]
  refine den_call_i (fun _ _ => lexC _ _ _ lexQ40 _ hG21) fun v w _ ⟨a22, c22, hv, _⟩ => ⟨0, 1, c22, a22, hv, fun W22 e22 x22 n22 => ?_⟩
  have T22 := T21.ext x22
  have hG22 := hG21.ext x22
  simp only [Env.push, List.cons_append, List.nil_append, List.append_nil]
  refine den_call_i (fun _ _ => lexC _ _ _ lexQ41 _ hG22) fun v w _ ⟨a23, c23, hv, _⟩ => ⟨4, 0, c23, a23, hv, fun W23 e23 x23 n23 => ?_⟩
  have T23 := T22.ext x23
  have hG23 := hG22.ext x23
  simp only [Env.push, List.cons_append, List.nil_append, List.append_nil]
  refine den_new fun m24 W24 _ x24 => den_call_q (v := .tuple #[.string ⟨#[]⟩, .int .i64 4]) (fun hb _ => ?_) ⟨4, ⟨#[]⟩, rfl, fun W25 x25 => ?_⟩
  · have hbk := hb _ (List.mem_singleton.2 rfl)
    exact show_q W24 (hG23.ext x24) (some ⟨m24, 0, none⟩) 1 [⟨9, []⟩] (blk_sl hbk rfl) (by simp) (by simp)
  have hG25 := (hG23.ext x24).ext x25
  have T25 := (T23.ext x24).ext x25
  simp only [Env.push, List.cons_append, List.nil_append, List.append_nil]
  refine den_new fun m26 W26 _ x26 => den_call_q (v := .tuple #[.string ⟨#[]⟩, .int .i64 4]) (fun hb _ => ?_) ⟨4, ⟨#[]⟩, rfl, fun W27 x27 => ?_⟩
  · have hbk := hb _ (List.mem_singleton.2 rfl)
    exact show_q W26 (hG25.ext x26) (some ⟨m26, 0, none⟩) 1 [⟨0, []⟩] (blk_sl hbk rfl) (by simp) (by simp)
  have hG27 := (hG25.ext x26).ext x27
  have T27 := (T25.ext x26).ext x27
  simp only [Env.push, List.cons_append, List.nil_append, List.append_nil]
  refine den_loop (fun k vs ls _ => ∃ (i : Nat) (a : Option Addr) (c : Nat), vs = [.int .i64 (i : Int), .slice a i c] ∧ ls = [toksC (ones i)] ∧ i ≤ 51 ∧ k = 51 - i) 51 ⟨0, none, 0, rfl, rfl, by omega, rfl⟩ ?_
  rintro k vs ls W28 x28 ⟨i, a28, c28, rfl, rfl, hi, rfl⟩
  refine ⟨(i : Int), i, c28, a28, toksC (ones i), rfl, (by simp [rowConts, conts, Seg.den, gd, Env.push]), fun hrow => ?_⟩
  have hG28 := hG27.ext x28
  have T28 := T27.ext x28
  simp only [Env.push, List.cons_append, List.nil_append, List.append_nil]
  refine den_br (fun c2 => ?_) fun c2 => ?_
  · simp only [Sy.dens, Sy.den, E.i, E.b, E.t, gd, Env.push, List.cons_append, List.nil_append, List.append_nil, Int.toNat_natCast, ltB_true] at c2
    refine den_new fun m29 W29 _ x29 => den_chk ?_ (den_app fun a' c' W30 ha x30 => den_again ⟨51 - (i + 1), by omega, i + 1, a', c', ?_, ?_, by omega, rfl⟩)
    · simp only [Sy.dens, Sy.den, E.i, E.b, E.t, gd, Env.push, List.cons_append, List.nil_append, List.append_nil, Int.toNat_natCast]; exact leB_t (by omega)
    · simp only [Sy.dens, Sy.den, E.i, E.b, E.t, gd, Env.push, List.cons_append, List.nil_append, List.append_nil, Int.toNat_natCast]
      rw [w64i (by omega) (by omega)]; rfl
    · simp only [rowConts, conts, List.map_cons, List.map_nil, List.flatMap_cons, List.flatMap_nil, Seg.den, Sy.dens, Sy.den, E.i, E.b, E.t, gd, Env.push, List.cons_append, List.nil_append, List.append_nil, Int.toNat_natCast]
      rw [ones_succ, toksC_app]; rfl
  simp only [Sy.dens, Sy.den, E.i, E.b, E.t, gd, Env.push, List.cons_append, List.nil_append, List.append_nil, Int.toNat_natCast, ltB_false] at c2
  obtain rfl : i = 51 := by omega
  have ho := (hrow _ (List.mem_singleton.2 rfl)).1
  simp only [conts, List.flatMap_cons, List.flatMap_nil, Seg.den, Sy.dens, Sy.den, E.i, E.b, E.t, gd, Env.push, List.cons_append, List.nil_append, List.append_nil, Int.toNat_natCast, List.append_nil] at ho
  have hc51 := (owns_sl ho).2.1
  have hlen51 : (ones 51).length = 51 := by simp [ones]
  have hlen50 : (ones 50).length = 50 := by simp [ones]
  have s51 := show_q W28 hG28 a28 c28 (ones 51) (by rw [hlen51]; exact (owns_sl ho).w) (by rw [hlen51]; decide) (by intro t ht; rw [List.eq_of_mem_replicate ht]; decide)
  rw [hlen51, show51] at s51
  refine den_call_q (fun _ _ => s51) ⟨40, ⟨#[]⟩, rfl, fun W29 x29 => ?_⟩
  have hG29 := hG28.ext x29
  have T29 := T28.ext x29
  simp only [Env.push, List.cons_append, List.nil_append, List.append_nil]
  refine den_chk ?_ (den_sub (den_call_q (v := .tuple #[.string ⟨(Lx.show_ (ones 50)).1.toArray⟩, .int .i64 0]) (fun _ hr => ?_) ⟨0, ⟨(Lx.show_ (ones 50)).1.toArray⟩, rfl, fun W30 x30 => ?_⟩))
  · simp only [Sy.dens, Sy.den, E.i, E.b, E.t, gd, Env.push, List.cons_append, List.nil_append, List.append_nil, Int.toNat_natCast]; exact leB_t (by omega)
  · have ho := (hr _ (List.mem_singleton.2 rfl)).1
    simp only [conts, List.flatMap_cons, List.flatMap_nil, Seg.den, Sy.dens, Sy.den, E.i, E.b, E.t, gd, Env.push, List.cons_append, List.nil_append, List.append_nil, Int.toNat_natCast, List.append_nil] at ho
    have hs := (sub_sl (owns_sl ho) (m := 50) (by omega)).w
    have ht50 : (toksC (ones 51)).take (50 * 2) = toksC (ones 50) := by
      rw [ones_succ, toksC_app, List.take_left' (by rw [toksC_len, hlen50])]
    rw [ht50] at hs
    have s50 := show_q W29 hG29 (subA a28 0 c28 2) c28 (ones 50) (by rw [hlen50]; exact hs) (by rw [hlen50]; decide) (by intro t ht; rw [List.eq_of_mem_replicate ht]; decide)
    rw [hlen50, show50] at s50
    exact s50
  have hG30 := hG29.ext x30
  have T30 := T29.ext x30
  simp only [Env.push, List.cons_append, List.nil_append, List.append_nil]
  refine den_call_i (fun _ _ => lexC _ _ _ lexLast _ hG30) fun v w _ ⟨a31, c31, hv, _⟩ => ⟨0, 3, c31, a31, hv, fun W31 e31 x31 n31 => ?_⟩
  have T31 := T30.ext x31
  have hG31 := hG30.ext x31
  simp only [Env.push, List.cons_append, List.nil_append, List.append_nil]
  have hsm : a21.isSome = true := T31.some_of (by decide)
  refine den_chk ?_ (den_chk rfl (den_chk rfl (den_br_t rfl (den_look ⟨⟨[60, 61].toArray⟩, fun W' x' => ?_, ?_⟩))))
  · simp only [Sy.dens, Sy.den, E.i, E.b, E.t, gd, Env.push, List.cons_append, List.nil_append, List.append_nil, Int.toNat_natCast, hsm, Bool.or_true]
  · have := sl_look_f (P := Tryd.prog) tokC_len T31 str_agg (i := 3) (k := 1) (x := ⟨4, [60, 61]⟩) rfl (by decide) (u := .string ⟨[60, 61].toArray⟩) rfl x'
    simp only [Sy.den, gd, E.i, Env.push, Int.toNat_natCast, List.nil_append, List.cons_append]
    exact this
  simp only [Env.push, List.cons_append, List.nil_append, List.append_nil]
  refine den_chk rfl (den_chk rfl (den_br_t rfl (den_look ⟨⟨[61, 61].toArray⟩, fun W' x' => ?_, ?_⟩)))
  · have := sl_look_f (P := Tryd.prog) tokC_len T31 str_agg (i := 4) (k := 1) (x := ⟨4, [61, 61]⟩) rfl (by decide) (u := .string ⟨[61, 61].toArray⟩) rfl x'
    simp only [Sy.den, gd, E.i, Env.push, Int.toNat_natCast, List.nil_append, List.cons_append]
    exact this
  simp only [Env.push, List.cons_append, List.nil_append, List.append_nil]
  refine den_chk rfl (den_chk rfl (den_br_t rfl (den_look ⟨⟨[33, 61].toArray⟩, fun W' x' => ?_, ?_⟩)))
  · have := sl_look_f (P := Tryd.prog) tokC_len T31 str_agg (i := 5) (k := 1) (x := ⟨4, [33, 61]⟩) rfl (by decide) (u := .string ⟨[33, 61].toArray⟩) rfl x'
    simp only [Sy.den, gd, E.i, Env.push, Int.toNat_natCast, List.nil_append, List.cons_append]
    exact this
  simp only [Env.push, List.cons_append, List.nil_append, List.append_nil]
  refine den_br_t rfl (den_call_q (fun _ _ => awake_q W31 hG31) ⟨true, rfl, fun W32 x32 => den_ret fun _ _ _ => ⟨_, rfl, rfl⟩⟩)
end Go.Proofs.YthdoemolgobonaaDoor
