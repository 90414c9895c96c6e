/- Texts of the claim, one behind the other: LxSe LxFirst SfE VcLaw LxLex PxPlain VcParse PxSe PxMem PxRead PxFacts PxTree PxWhole VcParse2 PxParse VcVm1 VaPlain VaNum VaRefPlain VdPlain VsMayT TyPlain VcTyped TySe TyTyped MdPlain VcVal1 MdSe MdVars. -/
import Derived.Test.YtkpjmlnhhggenaaGreatDoorPm2
import Derived.Lib.AtoiErrMem
import Derived.Test.YtkpjmlnhhggenaaGreatDoorProg
import Derived.Lib.ParseIntBTie
import Derived.Tactics
import Derived.Tactics2
import Derived.Defers
import Derived.Recover
import Derived.Handy
import Derived.StillTailTactics
import Derived.Laws.Pointers
import Derived.Lib.Bytealg
import Derived.IntWalk
import Derived.WalkLawsBesides
import Derived.Lib.ItoaNum
set_option linter.unusedSimpArgs false
set_option linter.unusedVariables false
section
/- The contracts of package lex: bytes in a row, whether a part may be. -/
namespace Go.Proofs.YtkpjmlnhhggenaaGreatDoor
open Go Go.RowKit Go.SF
structure Glob (W : Wd) : Prop where
 signs : ∃ ty, W.w.heap[3]? = some (.cells (Lx.signs.map fun s => Value.string ⟨s.toArray⟩).toArray ty)
 signsI : W.I 3
 errS : ∃ tp p, W.w.var? Tryz.prog "strconv.ErrSyntax" = some #[.iface tp p]
 errSI : W.I 8
 errR : ∃ tp p, W.w.var? Tryz.prog "strconv.ErrRange" = some #[.iface tp p]
 errRI : W.I 9
 ml : ∃ m, W.w.cell? ⟨7, 0, none⟩ = some (.int .i64 m)
 mlI : W.I 7
theorem gS : Tryz.prog.globalNamed "strconv.ErrSyntax" = some 8 := by kernel_rfl
theorem gR : Tryz.prog.globalNamed "strconv.ErrRange" = some 9 := by kernel_rfl
theorem cell_ext {W W' : Wd} (x : Ext W W') {b : Nat} (hI : W.I b) (o : Nat) (p : _) : W'.w.cell? ⟨b, o, p⟩ = W.w.cell? ⟨b, o, p⟩ := World.cell?_of_block (w := W.w) (x.keep b hI)
theorem var_ext {W W' : Wd} (x : Ext W W') {g : Nat} {n : String} (hg : Tryz.prog.globalNamed n = some g) (hI : W.I g) : W'.w.var? Tryz.prog n = W.w.var? Tryz.prog n := by
 unfold World.var?
 rw [hg]
 simp only [Option.bind_some]
 rw [x.keep g hI]
theorem Glob.ext {W W' : Wd} (h : Glob W) (x : Ext W W') : Glob W' :=
 ⟨by rw [x.keep _ h.signsI]; exact h.signs, x.sub _ h.signsI, by rw [var_ext x gS h.errSI]; exact h.errS, x.sub _ h.errSI, by rw [var_ext x gR h.errRI]; exact h.errR, x.sub _ h.errRI,
  by rw [cell_ext x h.mlI]; exact h.ml, x.sub _ h.mlI⟩
theorem gd_drop (l : List UInt8) (i : Nat) (h : i < l.length) : l.drop i = gd l i 0 :: l.drop (i + 1) := by
 rw [gd_get' h]; exact List.drop_eq_getElem_cons h
theorem size_len (t : ByteArray) : t.data.toList.length = t.size := by rw [Array.length_toList]; rfl
theorem w64i {x : Int} (h0 : -9223372036854775808 ≤ x) (h1 : x ≤ 9223372036854775807) : IntKind.i64.wrap x = x := wrap_in .i64 x (by simpa [IntKind.min, IntKind.bits, IntKind.signed] using h0) (by simpa [IntKind.max, IntKind.bits, IntKind.signed] using h1)
theorem ba_ext {s t : ByteArray} (h : s.data.toList = t.data.toList) : s = t := by
 obtain ⟨⟨l⟩⟩ := s; obtain ⟨⟨m⟩⟩ := t
 simp at h; subst h; rfl
theorem ba_list (t : ByteArray) : (⟨t.data.toList.toArray⟩ : ByteArray) = t := ba_ext (by simp)
theorem ltB_t {a b : Int} (h : a < b) : ltB a b = true := by simpa [ltB] using h
theorem leB_t {a b : Int} (h : a ≤ b) : leB a b = true := by simpa [leB] using h
theorem runD_q (t : ByteArray) (ht : t.size ≤ 9223372036854775807) (W : Wd) : CallsQ Tryz.prog 144 #[.string t, .func (.func 141) #[] #[]] W (.int .i64 (Lx.run Lx.digit t.data.toList : Nat)) := by
 refine vc_runD t W.all _ ?_
 refine den_loop (fun j vs ls _ => ∃ i : Nat, vs = [.int .i64 (i : Int)] ∧ ls = [] ∧ i ≤ t.size ∧ j = t.size - i ∧ i + Lx.run Lx.digit (t.data.toList.drop i) = Lx.run Lx.digit t.data.toList) t.size ⟨0, rfl, rfl, Nat.zero_le _, rfl, by simp⟩ ?_
 rintro n vs ls W' x ⟨i, rfl, rfl, hi, rfl, ha⟩
 have hs := size_len t
 have h1 : ∀ b : Bool, (!ltB (i : Int) (t.size : Int) || b) = true ↔ (i < t.size → b = true) := fun b => by
  cases hb : ltB (i : Int) (t.size : Int)
  ·rw [ltB_false] at hb; simp; intro h; omega
  ·rw [ltB_true] at hb; simp; left; omega
 refine ⟨(i : Int), rfl, rfl, fun _ => den_chk ?_ (den_chk ?_ (den_br (fun c => ?_) fun c => ?_))⟩
 ·simp only [zE]; exact (h1 _).2 fun _ => leB_t (by omega)
 ·simp only [zE]; exact (h1 _).2 fun h => ltB_t (by omega)
 ·simp only [zE, ltB_true] at c
  have hl : i < t.data.toList.length := by omega
  have hd := gd_drop t.data.toList i hl
  rw [hd] at ha
  refine den_grow fun _ _ => den_br (fun c2 => ?_) fun c2 => ?_
  ·have c2 : Lx.digit (gd t.data.toList i 0) = true := c2
   rw [Lx.run_cons_t c2] at ha
   refine den_again ⟨t.size - (i + 1), by omega, i + 1, ?_, rfl, by omega, rfl, by omega⟩
   simp only [zE]
   rw [w64i (by omega) (by omega)]; rfl
  ·have c2 : Lx.digit (gd t.data.toList i 0) = false := c2
   rw [Lx.run_cons_f c2] at ha
   refine den_ret fun _ _ _ => ⟨_, rfl, ?_⟩
   show Value.int .i64 (i : Int) = _
   rw [← ha]; rfl
 ·simp only [zE, ltB_false] at c
  refine den_ret fun _ _ _ => ⟨_, rfl, ?_⟩
  show Value.int .i64 (i : Int) = _
  rw [List.drop_eq_nil_of_le (by omega), Lx.run_nil] at ha
  rw [← ha]; rfl
theorem runB_q (t : ByteArray) (ht : t.size ≤ 9223372036854775807) (W : Wd) : CallsQ Tryz.prog 144 #[.string t, .func (.func 143) #[] #[]] W (.int .i64 (Lx.run Lx.behind t.data.toList : Nat)) := by
 refine vc_runB t W.all _ ?_
 refine den_loop (fun j vs ls _ => ∃ i : Nat, vs = [.int .i64 (i : Int)] ∧ ls = [] ∧ i ≤ t.size ∧ j = t.size - i ∧ i + Lx.run Lx.behind (t.data.toList.drop i) = Lx.run Lx.behind t.data.toList) t.size ⟨0, rfl, rfl, Nat.zero_le _, rfl, by simp⟩ ?_
 rintro n vs ls W' x ⟨i, rfl, rfl, hi, rfl, ha⟩
 have hs := size_len t
 have h1 : ∀ b : Bool, (!ltB (i : Int) (t.size : Int) || b) = true ↔ (i < t.size → b = true) := fun b => by
  cases hb : ltB (i : Int) (t.size : Int)
  ·rw [ltB_false] at hb; simp; intro h; omega
  ·rw [ltB_true] at hb; simp; left; omega
 refine ⟨(i : Int), rfl, rfl, fun _ => den_chk ?_ (den_chk ?_ (den_br (fun c => ?_) fun c => ?_))⟩
 ·simp only [zE]; exact (h1 _).2 fun _ => leB_t (by omega)
 ·simp only [zE]; exact (h1 _).2 fun h => ltB_t (by omega)
 ·simp only [zE, ltB_true] at c
  have hl : i < t.data.toList.length := by omega
  have hd := gd_drop t.data.toList i hl
  rw [hd] at ha
  have yes : Lx.behind (gd t.data.toList i 0) = true → ∃ n', n' < t.size - i ∧ ∃ i' : Nat, [Value.int .i64 (IntKind.i64.wrap ((i : Int) + 1))] = [.int .i64 (i' : Int)] ∧ ([] : List (List Value)) = [] ∧ i' ≤ t.size ∧ n' = t.size - i' ∧ i' + Lx.run Lx.behind (t.data.toList.drop i') = Lx.run Lx.behind t.data.toList := fun c2 => by
   rw [Lx.run_cons_t c2] at ha
   refine ⟨t.size - (i + 1), by omega, i + 1, ?_, rfl, by omega, rfl, by omega⟩
   rw [w64i (by omega) (by omega)]; rfl
  refine den_br (fun c2 => den_grow fun _ _ => den_br (fun c3 => den_again (yes ?_)) fun c3 => ?_) fun c2 => den_grow fun _ _ => den_again (yes ?_)
  ·have c2 : (!Lx.digit (gd t.data.toList i 0)) = true := c2
   have c3 : (Lx.letter (gd t.data.toList i 0) || (((gd t.data.toList i 0).toNat : Int) == 95)) = true := c3
   unfold Lx.behind
   rw [Bool.or_assoc, c3, Bool.or_true]
  ·have c2 : (!Lx.digit (gd t.data.toList i 0)) = true := c2
   have c3 : (Lx.letter (gd t.data.toList i 0) || (((gd t.data.toList i 0).toNat : Int) == 95)) = false := c3
   have c4 : Lx.behind (gd t.data.toList i 0) = false := by
    unfold Lx.behind
    rw [Bool.or_assoc, c3, Bool.or_false]; simpa using c2
   rw [Lx.run_cons_f c4] at ha
   refine den_ret fun _ _ _ => ⟨_, rfl, ?_⟩
   show Value.int .i64 (i : Int) = _
   rw [← ha]; rfl
  ·have c2 : (!Lx.digit (gd t.data.toList i 0)) = false := c2
   unfold Lx.behind
   rw [Bool.or_assoc]
   have : Lx.digit (gd t.data.toList i 0) = true := by simpa using c2
   rw [this, Bool.true_or]
 ·simp only [zE, ltB_false] at c
  refine den_ret fun _ _ _ => ⟨_, rfl, ?_⟩
  show Value.int .i64 (i : Int) = _
  rw [List.drop_eq_nil_of_le (by omega), Lx.run_nil] at ha
  rw [← ha]; rfl
theorem runQ_q (t : ByteArray) (ht : t.size ≤ 9223372036854775807) (W : Wd) : CallsQ Tryz.prog 144 #[.string t, .func (.func 148) #[] #[]] W (.int .i64 (Lx.run Lx.quoted t.data.toList : Nat)) := by
 refine vc_runQ t W.all _ ?_
 refine den_loop (fun j vs ls _ => ∃ i : Nat, vs = [.int .i64 (i : Int)] ∧ ls = [] ∧ i ≤ t.size ∧ j = t.size - i ∧ i + Lx.run Lx.quoted (t.data.toList.drop i) = Lx.run Lx.quoted t.data.toList) t.size ⟨0, rfl, rfl, Nat.zero_le _, rfl, by simp⟩ ?_
 rintro n vs ls W' x ⟨i, rfl, rfl, hi, rfl, ha⟩
 have hs := size_len t
 have h1 : ∀ b : Bool, (!ltB (i : Int) (t.size : Int) || b) = true ↔ (i < t.size → b = true) := fun b => by
  cases hb : ltB (i : Int) (t.size : Int)
  ·rw [ltB_false] at hb; simp; intro h; omega
  ·rw [ltB_true] at hb; simp; left; omega
 refine ⟨(i : Int), rfl, rfl, fun _ => den_chk ?_ (den_chk ?_ (den_br (fun c => ?_) fun c => ?_))⟩
 ·simp only [zE]; exact (h1 _).2 fun _ => leB_t (by omega)
 ·simp only [zE]; exact (h1 _).2 fun h => ltB_t (by omega)
 ·simp only [zE, ltB_true] at c
  have hl : i < t.data.toList.length := by omega
  have hd := gd_drop t.data.toList i hl
  rw [hd] at ha
  refine den_grow fun _ _ => den_br (fun c2 => ?_) fun c2 => ?_
  ·have c2 : Lx.quoted (gd t.data.toList i 0) = true := c2
   rw [Lx.run_cons_t c2] at ha
   refine den_again ⟨t.size - (i + 1), by omega, i + 1, ?_, rfl, by omega, rfl, by omega⟩
   simp only [zE]
   rw [w64i (by omega) (by omega)]; rfl
  ·have c2 : Lx.quoted (gd t.data.toList i 0) = false := c2
   rw [Lx.run_cons_f c2] at ha
   refine den_ret fun _ _ _ => ⟨_, rfl, ?_⟩
   show Value.int .i64 (i : Int) = _
   rw [← ha]; rfl
 ·simp only [zE, ltB_false] at c
  refine den_ret fun _ _ _ => ⟨_, rfl, ?_⟩
  show Value.int .i64 (i : Int) = _
  rw [List.drop_eq_nil_of_le (by omega), Lx.run_nil] at ha
  rw [← ha]; rfl
theorem below_draws (w : World) (w' : World) (h : w' = w ∨ ∃ t, w' = Lib.bytesWorld w 5 t) : Below w.heap.size w w' := by
 rcases h with rfl | ⟨t, rfl⟩
 ·exact Below.refl _ _
 ·exact Lib.bytesWorld_below _ _ _
theorem parse_i (t : ByteArray) (ht : t.size ≤ 281474976710656) (W : Wd) (hG : Glob W) : CallsI Tryz.prog 147 #[.string t, .int .i64 10, .int .i64 64] W.all
  fun v w' => ∃ n e, v = .tuple #[.int .i64 n, e] ∧ isIfcV e = true ∧ isNilV e = Lx.parsed (Lib.parseIntB 64 t.data.toList) ∧ ∀ m, Lib.parseIntB 64 t.data.toList = .ok m → n = m := by
 rcases hp : Lib.parseIntB 64 t.data.toList with m | _ | _
 ·exact Calls.mono (Tryz.strconv_ParseInt_10_at64_ok t (by omega) m hp W.w) fun e w' ⟨he, hw⟩ => ⟨Keeps.of_below (below_draws _ _ hw), _, he, m, .nilIface, rfl, rfl, rfl, fun k hk => by injection hk⟩
 ·obtain ⟨tp, p, hv⟩ := hG.errS
  exact Calls.mono (Tryz.strconv_ParseInt_10_at64_syntax_var t ht hp tp p W.w hv) fun e w' ⟨N, he, _, _, hb⟩ => ⟨Keeps.of_below hb, _, he, _, _, rfl, rfl, rfl, fun k hk => by cases hk⟩
 ·obtain ⟨tp, p, hv⟩ := hG.errR
  exact Calls.mono (Tryz.strconv_ParseInt_10_at64_range_var t ht hp tp p W.w hv) fun e w' ⟨N, he, _, _, hb⟩ => ⟨Keeps.of_below hb, _, he, _, _, rfl, rfl, rfl, fun k hk => by cases hk⟩
theorem one_ifc {v : Value} (h : isIfcV v = true) : v.oneCell' = true := by cases v <;> first | rfl | cases h
theorem parsed_ne {l : List UInt8} (h : Lx.parsed (Lib.parseIntB 64 l) = true) : 0 < l.length := by
 cases l with
 | nil => cases h
 | cons c r => simp
theorem contains_signs (t : ByteArray) : Lib.containsS (Lx.signs.map fun s => (⟨s.toArray⟩ : ByteArray)) t = Lx.signs.contains t.data.toList := by
 rw [Bool.eq_iff_iff, Lib.containsS_iff, List.contains_iff_mem, List.mem_map]
 constructor
 ·rintro ⟨s, hs, rfl⟩; simpa using hs
 ·intro h; exact ⟨_, h, ba_list t⟩
theorem gd_head {l : List UInt8} {c : UInt8} {r : List UInt8} (h : l = c :: r) : gd l 0 0 = c := by rw [h]; rfl
theorem may_q (k : Int) (t : ByteArray) (ht : t.size ≤ 281474976710656) (W : Wd) (hG : Glob W) : CallsQ Tryz.prog 107 #[.agg #[.int .u8 k, .string t]] W (.bool (Lx.may k t.data.toList)) := by
 refine vc_may k t W.all _ ?_
 have hs := size_len t
 have hG := hG.ext W.all_ext
 refine den_new fun m W1 _ x1 => ?_
 have hG1 := hG.ext x1
 refine den_br (fun c => ?_) fun c => den_br (fun c2 => ?_) fun c2 => den_br (fun c3 => ?_) fun c3 => den_br (fun c4 => ?_) fun c4 => ?_
 ·have hk : k = 1 := by simpa [Sy.dens, Sy.den, E.i, E.b, E.t, gd, Env.push, z_a, z_b, z_c, z_d] using c
  subst hk
  refine den_call_i (fun _ _ => parse_i t ht W1 hG1) fun v w' _ ⟨n, e, hv, h1, h2, h3⟩ => ⟨n, e, one_ifc h1, hv, fun W2 _ x2 _ => ?_⟩
  simp only [zP]
  refine den_chk h1 (den_br (fun c5 => ?_) fun c5 => ?_)
  ·have c5 : isNilV e = true := c5
   rw [c5] at h2
   have hpos := parsed_ne h2.symm
   refine den_call_q (fun _ _ => runD_q t (by omega) W2) ⟨_, rfl, fun W3 x3 => ?_⟩
   simp only [zP]
   obtain ⟨ch, r, hl⟩ : ∃ ch r, t.data.toList = ch :: r := by
    cases hl : t.data.toList with
    | nil => rw [hl] at hpos; simp at hpos
    | cons ch r => exact ⟨ch, r, rfl⟩
   refine den_chk ?_ (den_chk ?_ (den_ret fun _ _ _ => ⟨_, rfl, ?_⟩))
   ·simp [Sy.dens, Sy.den, E.i, E.b, E.t, gd, Env.push, z_a, z_b, z_c, z_d, leB]
   ·simp only [zE]; rw [ltB_t (by omega)]; simp
   ·show Value.bool _ = _
    simp only [zE, Lx.may, Lx.numOk, ← h2, if_true, Bool.true_and]
    have e1 : ((Lx.run Lx.digit t.data.toList : Nat) == t.data.toList.length) = (((Lx.run Lx.digit t.data.toList : Nat) : Int) == (t.size : Int)) := by
     rw [Bool.eq_iff_iff]; simp; omega
    have e2 : (t.data.toList.length == 1) = ((t.size : Int) == 1) := by rw [Bool.eq_iff_iff]; simp; omega
    have e3 : (!(t.data.toList.head? == some 48)) = !(((gd t.data.toList (0 : Int).toNat 0).toNat : Int) == 48) := by
     rw [hl]
     show (!(some ch == some 48)) = !((ch.toNat : Int) == 48)
     congr 1
     rw [Bool.eq_iff_iff]
     simp only [beq_iff_eq, Option.some.injEq]
     constructor
     ·rintro rfl; rfl
     ·intro h; apply UInt8.toNat_inj.1; have : (48 : UInt8).toNat = 48 := rfl; omega
    rw [e1, e2, e3]
  ·have c5 : isNilV e = false := c5
   rw [c5] at h2
   refine den_ret fun _ _ _ => ⟨_, rfl, ?_⟩
   show Value.bool false = _
   simp [Lx.may, Lx.numOk, ← h2]
 ·have hk : k = 2 := by simpa [Sy.dens, Sy.den, E.i, E.b, E.t, gd, Env.push, z_a, z_b, z_c, z_d] using c2
  subst hk
  have hle : (t.data.toList == []) = true ↔ t.size = 0 := by rw [beq_iff_eq, ← List.length_eq_zero_iff]; omega
  refine den_chk ?_ (den_chk ?_ (den_br (fun c5 => ?_) fun c5 => ?_))
  ·simp [Sy.dens, Sy.den, E.i, E.b, E.t, gd, Env.push, z_a, z_b, z_c, z_d, leB]
  ·simp only [zE]
   cases hz : (t.data.toList == ([] : List UInt8).toArray.toList)
   ·have : ¬ t.size = 0 := fun h => by rw [(show (t.data.toList == ([] : List UInt8).toArray.toList) = true from hle.2 h)] at hz; cases hz
    rw [ltB_t (by omega)]; rfl
   ·rfl
  ·obtain ⟨ch, r, hl⟩ : ∃ ch r, t.data.toList = ch :: r := by
    cases hl : t.data.toList with
    | nil => simp [Sy.dens, Sy.den, E.i, E.b, E.t, gd, Env.push, z_a, z_b, z_c, z_d, hl] at c5
    | cons ch r => exact ⟨ch, r, rfl⟩
   refine den_grow fun W2 x2 => den_br (fun c6 => ?_) fun c6 => ?_
   ·have c6 : Lx.letter (gd t.data.toList 0 0) = true := c6
    rw [gd_head hl] at c6
    refine den_call_q (fun _ _ => runB_q t (by omega) W2) ⟨_, rfl, fun W3 x3 => ?_⟩
    simp only [zP]
    refine den_ret fun _ _ _ => ⟨_, rfl, ?_⟩
    show Value.bool _ = _
    have e1 : ((Lx.run Lx.behind t.data.toList : Nat) == t.data.toList.length) = (((Lx.run Lx.behind t.data.toList : Nat) : Int) == (t.size : Int)) := by
     rw [Bool.eq_iff_iff]; simp; omega
    have e2 : decide (t.data.toList.length ≤ 12) = leB (t.size : Int) 12 := by rw [Bool.eq_iff_iff]; simp [leB]; omega
    have e3 : Lx.may 2 t.data.toList = (Lx.letter ch && ((Lx.run Lx.behind t.data.toList == t.data.toList.length) && decide (t.data.toList.length ≤ 12))) := by
     simp only [Lx.may]; rw [hl]; rfl
    rw [e3, c6, e1, e2]
    rfl
   ·have c6 : Lx.letter (gd t.data.toList 0 0) = false := c6
    rw [gd_head hl] at c6
    refine den_ret fun _ _ _ => ⟨_, rfl, ?_⟩
    show Value.bool false = _
    simp only [Lx.may]; rw [hl]; simp [Lx.wordOk, c6]
  ·refine den_ret fun _ _ _ => ⟨_, rfl, ?_⟩
   show Value.bool false = _
   have hl : t.data.toList = [] := by simpa [Sy.dens, Sy.den, E.i, E.b, E.t, gd, Env.push, z_a, z_b, z_c, z_d] using c5
   simp only [Lx.may]; rw [hl]; rfl
 ·have hk : k = 3 := by simpa [Sy.dens, Sy.den, E.i, E.b, E.t, gd, Env.push, z_a, z_b, z_c, z_d] using c3
  subst hk
  refine den_call_q (fun _ _ => runQ_q t (by omega) W1) ⟨_, rfl, fun W3 x3 => ?_⟩
  simp only [zP]
  refine den_ret fun _ _ _ => ⟨_, rfl, ?_⟩
  show Value.bool _ = _
  have e1 : ((Lx.run Lx.quoted t.data.toList : Nat) == t.data.toList.length) = (((Lx.run Lx.quoted t.data.toList : Nat) : Int) == (t.size : Int)) := by
   rw [Bool.eq_iff_iff]; simp; omega
  have e2 : decide (t.data.toList.length ≤ 40) = leB (t.size : Int) 40 := by rw [Bool.eq_iff_iff]; simp [leB]; omega
  have e3 : Lx.may 3 t.data.toList = ((Lx.run Lx.quoted t.data.toList == t.data.toList.length) && decide (t.data.toList.length ≤ 40)) := rfl
  rw [e3, e1, e2]
  rfl
 ·have hk : k = 4 := by simpa [Sy.dens, Sy.den, E.i, E.b, E.t, gd, Env.push, z_a, z_b, z_c, z_d] using c4
  subst hk
  refine den_adr (den_call_q (v := .bool (Lx.signs.contains t.data.toList)) (fun _ _ => ?_) ⟨_, rfl, fun W3 x3 => ?_⟩)
  ·obtain ⟨ty, hsg⟩ := hG1.signs
   refine CallsQ.of_below ?_
   have h1 := Tryz.slices_Contains_string 3 0 14 14 (Lx.signs.map fun s => (⟨s.toArray⟩ : ByteArray)) t W1.w (by decide) (by decide) (fun j hj => by
    simp only [World.cell?, hsg]
    have hj' : j < 14 := hj
    have : (Lx.signs.map fun s => Value.string ⟨s.toArray⟩).toArray[0 + j]? = some (.string ((Lx.signs.map fun s => (⟨s.toArray⟩ : ByteArray)).getD j ByteArray.empty)) := by
     rw [Nat.zero_add, List.getElem?_toArray, List.getElem?_map, List.getD_eq_getElem?_getD, List.getElem?_map]
     cases h : Lx.signs[j]? with
     | none => rw [List.getElem?_eq_none_iff] at h; have : Lx.signs.length = 14 := rfl; omega
     | some s => rfl
    simpa using this)
   rw [show (Lx.signs.map fun s => (⟨s.toArray⟩ : ByteArray)).take 14 = Lx.signs.map fun s => (⟨s.toArray⟩ : ByteArray) from rfl, contains_signs] at h1
   exact Calls.mono h1 fun e w' ⟨he, hw⟩ => ⟨he, hw ▸ Below.refl _ _⟩
  ·refine den_ret fun _ _ _ => ⟨_, rfl, rfl⟩
 ·refine den_ret fun _ _ _ => ⟨_, rfl, ?_⟩
  show Value.bool false = _
  have h1 : ¬ k = 1 := by simpa [Sy.dens, Sy.den, E.i, E.b, E.t, gd, Env.push, z_a, z_b, z_c, z_d] using c
  have h2 : ¬ k = 2 := by simpa [Sy.dens, Sy.den, E.i, E.b, E.t, gd, Env.push, z_a, z_b, z_c, z_d] using c2
  have h3 : ¬ k = 3 := by simpa [Sy.dens, Sy.den, E.i, E.b, E.t, gd, Env.push, z_a, z_b, z_c, z_d] using c3
  have h4 : ¬ k = 4 := by simpa [Sy.dens, Sy.den, E.i, E.b, E.t, gd, Env.push, z_a, z_b, z_c, z_d] using c4
  simp [Lx.may, h1, h2, h3, h4]
end Go.Proofs.YtkpjmlnhhggenaaGreatDoor
end
section
/- The first part of a text. -/
namespace Go.Proofs.YtkpjmlnhhggenaaGreatDoor
open Go Go.RowKit Go.SF
theorem prefix_q (s p : ByteArray) (W : Wd) : CallsQ Tryz.prog 146 #[.string s, .string p] W (.bool (p.data.toList.isPrefixOf s.data.toList)) :=
 .of_below (Calls.mono (Tryz.strings_HasPrefix s p W.w) fun e w' ⟨he, hw⟩ => ⟨he, hw ▸ Below.refl _ _⟩)
theorem below_drewN (w : World) (n : Nat) : Below w.heap.size w (w.drewN n) := ⟨rfl, rfl, rfl, Nat.le_refl _, fun _ _ => rfl⟩
theorem cut_q (s : ByteArray) (hs : s.size < 4294967281) (W : Wd) (hG : Glob W) : CallsQ Tryz.prog 145 #[.string s, .string ⟨#[39]⟩] W (.tuple #[.string ⟨(Lib.cut s.data.toList [39]).1.toArray⟩, .string ⟨(Lib.cut s.data.toList [39]).2.1.toArray⟩, .bool (Lib.cut s.data.toList [39]).2.2]) := by
 obtain ⟨m, hm⟩ := hG.ml
 exact .of_below (Calls.mono (Tryz.strings_Cut s ⟨#[39]⟩ m W.w hs hm) fun e w' ⟨he, n, hw⟩ => ⟨he, hw ▸ below_drewN _ _⟩)
def signL : List Sy := Lx.signs.map fun s => .str (.tl s)
theorem signs_look (W : Wd) (hG : Glob W) : (Instr.loadAt 179 (.pointer (some ⟨3, 0, none⟩))).run Tryz.prog W.w = .ok (.agg (Lx.signs.map fun s => Value.string ⟨s.toArray⟩).toArray) W.w := by
 obtain ⟨ty, h⟩ := hG.signs
 have h1 : ldS Tryz.prog 179 signL 0 = some (.agg signL) := by kernel_rfl
 have h2 := run_ldS (P := Tryz.prog) (ρ := {}) (w := W.w) (b := 3) (ty := ty) h1 (by rw [h]; rfl)
 exact h2
def vTok (t : Lx.Tok) : Value := .agg #[.int .u8 t.k, .string ⟨t.t.toArray⟩]
def vFirst (p : Lx.Tok × Nat) : Value := .tuple #[vTok p.1, .int .i64 (p.2 : Int)]
theorem extract_take (t : ByteArray) (n : Nat) (h : n ≤ t.size) : (t.extract 0 n).data.toList = t.data.toList.take n := by
 rw [ByteArray.data_extract, Array.toList_extract]; simp [List.extract_eq_take_drop]
theorem extract_drop (t : ByteArray) (n : Nat) : (t.extract n t.size).data.toList = t.data.toList.drop n := by
 rw [ByteArray.data_extract, Array.toList_extract]
 have := size_len t
 simp only [List.extract_eq_take_drop]
 rw [List.take_of_length_le]
 rw [List.length_drop]; omega
theorem ba_of {t : ByteArray} {l : List UInt8} (h : t.data.toList = l) : t = ⟨l.toArray⟩ := ba_ext (by simpa using h)
theorem first_q (t : ByteArray) (h0 : 0 < t.size) (ht : t.size ≤ 1000000) (W : Wd) (hG : Glob W) : CallsQ Tryz.prog 106 #[.string t] W (vFirst (Lx.first t.data.toList)) := by
 refine vc_first t W.all _ ?_
 have hs := size_len t
 have hG := hG.ext W.all_ext
 obtain ⟨c, r, hl⟩ : ∃ c r, t.data.toList = c :: r := by
  cases hl : t.data.toList with
  | nil => rw [hl] at hs; simp at hs; omega
  | cons c r => exact ⟨c, r, rfl⟩
 have hrl : r.length + 1 = t.size := by rw [← hs, hl]; rfl
 refine den_new fun m0 W1 _ x1 => den_new fun m1 W2 _ x2 => den_new fun m2 W3 _ x3 => den_wr fun W4 x4 => den_chk ?_ (den_chk ?_ (den_grow fun W5 x5 => ?_))
 ·simp [Sy.dens, Sy.den, E.i, E.b, E.t, gd, Env.push, z_a, z_b, z_c, z_d, leB]
 ·simp only [zE]; exact ltB_t (by omega)
 have x05 := (((x1.trans x2).trans x3).trans x4).trans x5
 refine den_br (fun c1 => ?_) fun c1 => ?_
 ·have c1 : Lx.digit (gd t.data.toList 0 0) = true := c1
  rw [gd_head hl] at c1
  refine den_call_q (fun _ _ => runD_q t (by omega) W5) ⟨((Lx.run Lx.digit t.data.toList : Nat) : Int), rfl, fun W6 x6 => ?_⟩
  simp only [zP]
  have hle := Lx.run_le Lx.digit t.data.toList
  refine den_chk ?_ (den_chk ?_ (den_grow fun _ _ => den_wr fun _ _ => den_grow fun _ _ => den_ret fun _ _ _ => ⟨_, rfl, ?_⟩))
  ·simp only [zE]; exact leB_t (by omega)
  ·simp only [zE]; exact leB_t (by omega)
  ·have e : Lx.first t.data.toList = (⟨1, t.data.toList.take (Lx.run Lx.digit t.data.toList)⟩, Lx.run Lx.digit t.data.toList) := by rw [hl]; simp only [Lx.first, c1, if_true]
   rw [e, vFirst, vTok, ← ba_of (extract_take t _ (by omega))]
   rfl
 ·have c1 : Lx.digit (gd t.data.toList 0 0) = false := c1
  rw [gd_head hl] at c1
  refine den_new fun m3 W6 _ x6 => den_wr fun W7 x7 => den_grow fun W8 x8 => ?_
  have x08 := ((x05.trans x6).trans x7).trans x8
  have hG8 := hG.ext x08
  refine den_br (fun c2 => ?_) fun c2 => den_br (fun c3 => ?_) fun c3 => ?_
  ·have c2 : Lx.letter (gd t.data.toList 0 0) = true := c2
   rw [gd_head hl] at c2
   refine den_call_q (fun _ _ => runB_q t (by omega) W8) ⟨((Lx.run Lx.behind t.data.toList : Nat) : Int), rfl, fun W9 x9 => ?_⟩
   simp only [zP]
   have hle := Lx.run_le Lx.behind t.data.toList
   refine den_chk ?_ (den_chk ?_ (den_grow fun _ _ => den_wr fun _ _ => den_grow fun _ _ => den_ret fun _ _ _ => ⟨_, rfl, ?_⟩))
   ·simp only [zE]; exact leB_t (by omega)
   ·simp only [zE]; exact leB_t (by omega)
   ·have e : Lx.first t.data.toList = (⟨2, t.data.toList.take (Lx.run Lx.behind t.data.toList)⟩, Lx.run Lx.behind t.data.toList) := by rw [hl]; simp only [Lx.first, c1, c2, if_true, Bool.false_eq_true, if_false]
    rw [e, vFirst, vTok, ← ba_of (extract_take t _ (by omega))]
    rfl
  ·have c2 : Lx.letter (gd t.data.toList 0 0) = false := c2
   rw [gd_head hl] at c2
   have c3 : (((gd t.data.toList 0 0).toNat : Int) == 39) = true := c3
   rw [gd_head hl, beq_iff_eq] at c3
   have hc : c = 39 := by apply UInt8.toNat_inj.1; have : (39 : UInt8).toNat = 39 := rfl; omega
   have hcut := cut_q (t.extract 1 t.size) (by rw [ByteArray.size_extract]; omega) W8 hG8
   have hdr : (t.extract 1 t.size).data.toList = r := by rw [extract_drop, hl]; rfl
   rw [hdr] at hcut
   obtain ⟨k1, k2⟩ := Lx.cut39 r
   refine den_chk ?_ (den_chk ?_ (den_chk ?_ (den_call_q (fun _ _ => hcut) ⟨_, _, _, rfl, fun W9 x9 => ?_⟩)))
   ·simp [Sy.dens, Sy.den, E.i, E.b, E.t, gd, Env.push, z_a, z_b, z_c, z_d, leB]
   ·simp only [zE]; exact leB_t (by omega)
   ·simp only [zE]; exact leB_t (by omega)
   simp only [zP]
   have e0 : Lx.first t.data.toList = match Lx.cutQ r with
    | some q => (⟨3, q⟩, q.length + 2)
    | none => Lx.none := by
    rw [hl, hc]; rfl
   refine den_br (fun c4 => den_wr fun _ _ => den_ret fun _ _ _ => ⟨_, rfl, ?_⟩) fun c4 => den_wr fun _ _ => den_ret fun _ _ _ => ⟨_, rfl, ?_⟩
   ·have c4 : (!(Lib.cut r [39]).2.2) = true := c4
    rw [k1] at c4
    have : Lx.cutQ r = none := by cases h : Lx.cutQ r with
     | none => rfl
     | some q => rw [h] at c4; cases c4
    rw [e0, this]; rfl
   ·have c4 : (!(Lib.cut r [39]).2.2) = false := c4
    rw [k1] at c4
    have hq := k2 (by simpa using c4)
    have hql := Lx.cutQ_len hq
    rw [e0, hq]
    simp only [zE, vFirst, vTok]
    have hsz : ((⟨(Lib.cut r [39]).1.toArray⟩ : ByteArray).size : Int) = ((Lib.cut r [39]).1.length : Int) := by rw [← size_len]
    rw [hsz, w64i (by omega) (by omega)]
    rfl
  ·have c2 : Lx.letter (gd t.data.toList 0 0) = false := c2
   rw [gd_head hl] at c2
   have c3 : (((gd t.data.toList 0 0).toNat : Int) == 39) = false := c3
   rw [gd_head hl, beq_eq_false_iff_ne] at c3
   have hc : c ≠ 39 := by rintro rfl; exact c3 rfl
   have e0 : Lx.first t.data.toList = match Lx.signs.find? fun x => x.isPrefixOf t.data.toList with
    | some x => (⟨4, x⟩, x.length)
    | none => Lx.none := by
    rw [hl]; simp only [Lx.first, c1, c2, hc, if_false, Bool.false_eq_true]; rfl
   refine den_look ⟨⟨#[60, 61]⟩, ⟨#[61, 61]⟩, ⟨#[33, 61]⟩, ⟨#[124]⟩, ⟨#[38]⟩, ⟨#[60]⟩, ⟨#[43]⟩, ⟨#[45]⟩, ⟨#[42]⟩, ⟨#[47]⟩, ⟨#[37]⟩, ⟨#[33]⟩, ⟨#[40]⟩, ⟨#[41]⟩, fun W' x => signs_look W' (hG8.ext x), ?_⟩
   simp only [zP]
   refine den_call_q (fun _ _ => prefix_q t _ _) ⟨_, rfl, fun _ _ => den_br (fun k0 => den_wr fun _ _ => den_ret fun _ _ _ => ⟨_, rfl, ?_⟩) fun k0 => ?_⟩
   ·simp only [zE] at k0
    rw [e0]
    simp only [Lx.signs, List.find?, k0]
    rfl
   simp only [zP]
   refine den_call_q (fun _ _ => prefix_q t _ _) ⟨_, rfl, fun _ _ => den_br (fun k1 => den_wr fun _ _ => den_ret fun _ _ _ => ⟨_, rfl, ?_⟩) fun k1 => ?_⟩
   ·simp only [zE] at k0 k1
    rw [e0]
    simp only [Lx.signs, List.find?, k0, k1]
    rfl
   simp only [zP]
   refine den_call_q (fun _ _ => prefix_q t _ _) ⟨_, rfl, fun _ _ => den_br (fun k2 => den_wr fun _ _ => den_ret fun _ _ _ => ⟨_, rfl, ?_⟩) fun k2 => ?_⟩
   ·simp only [zE] at k0 k1 k2
    rw [e0]
    simp only [Lx.signs, List.find?, k0, k1, k2]
    rfl
   simp only [zP]
   refine den_call_q (fun _ _ => prefix_q t _ _) ⟨_, rfl, fun _ _ => den_br (fun k3 => den_wr fun _ _ => den_ret fun _ _ _ => ⟨_, rfl, ?_⟩) fun k3 => ?_⟩
   ·simp only [zE] at k0 k1 k2 k3
    rw [e0]
    simp only [Lx.signs, List.find?, k0, k1, k2, k3]
    rfl
   simp only [zP]
   refine den_call_q (fun _ _ => prefix_q t _ _) ⟨_, rfl, fun _ _ => den_br (fun k4 => den_wr fun _ _ => den_ret fun _ _ _ => ⟨_, rfl, ?_⟩) fun k4 => ?_⟩
   ·simp only [zE] at k0 k1 k2 k3 k4
    rw [e0]
    simp only [Lx.signs, List.find?, k0, k1, k2, k3, k4]
    rfl
   simp only [zP]
   refine den_call_q (fun _ _ => prefix_q t _ _) ⟨_, rfl, fun _ _ => den_br (fun k5 => den_wr fun _ _ => den_ret fun _ _ _ => ⟨_, rfl, ?_⟩) fun k5 => ?_⟩
   ·simp only [zE] at k0 k1 k2 k3 k4 k5
    rw [e0]
    simp only [Lx.signs, List.find?, k0, k1, k2, k3, k4, k5]
    rfl
   simp only [zP]
   refine den_call_q (fun _ _ => prefix_q t _ _) ⟨_, rfl, fun _ _ => den_br (fun k6 => den_wr fun _ _ => den_ret fun _ _ _ => ⟨_, rfl, ?_⟩) fun k6 => ?_⟩
   ·simp only [zE] at k0 k1 k2 k3 k4 k5 k6
    rw [e0]
    simp only [Lx.signs, List.find?, k0, k1, k2, k3, k4, k5, k6]
    rfl
   simp only [zP]
   refine den_call_q (fun _ _ => prefix_q t _ _) ⟨_, rfl, fun _ _ => den_br (fun k7 => den_wr fun _ _ => den_ret fun _ _ _ => ⟨_, rfl, ?_⟩) fun k7 => ?_⟩
   ·simp only [zE] at k0 k1 k2 k3 k4 k5 k6 k7
    rw [e0]
    simp only [Lx.signs, List.find?, k0, k1, k2, k3, k4, k5, k6, k7]
    rfl
   simp only [zP]
   refine den_call_q (fun _ _ => prefix_q t _ _) ⟨_, rfl, fun _ _ => den_br (fun k8 => den_wr fun _ _ => den_ret fun _ _ _ => ⟨_, rfl, ?_⟩) fun k8 => ?_⟩
   ·simp only [zE] at k0 k1 k2 k3 k4 k5 k6 k7 k8
    rw [e0]
    simp only [Lx.signs, List.find?, k0, k1, k2, k3, k4, k5, k6, k7, k8]
    rfl
   simp only [zP]
   refine den_call_q (fun _ _ => prefix_q t _ _) ⟨_, rfl, fun _ _ => den_br (fun k9 => den_wr fun _ _ => den_ret fun _ _ _ => ⟨_, rfl, ?_⟩) fun k9 => ?_⟩
   ·simp only [zE] at k0 k1 k2 k3 k4 k5 k6 k7 k8 k9
    rw [e0]
    simp only [Lx.signs, List.find?, k0, k1, k2, k3, k4, k5, k6, k7, k8, k9]
    rfl
   simp only [zP]
   refine den_call_q (fun _ _ => prefix_q t _ _) ⟨_, rfl, fun _ _ => den_br (fun k10 => den_wr fun _ _ => den_ret fun _ _ _ => ⟨_, rfl, ?_⟩) fun k10 => ?_⟩
   ·simp only [zE] at k0 k1 k2 k3 k4 k5 k6 k7 k8 k9 k10
    rw [e0]
    simp only [Lx.signs, List.find?, k0, k1, k2, k3, k4, k5, k6, k7, k8, k9, k10]
    rfl
   simp only [zP]
   refine den_call_q (fun _ _ => prefix_q t _ _) ⟨_, rfl, fun _ _ => den_br (fun k11 => den_wr fun _ _ => den_ret fun _ _ _ => ⟨_, rfl, ?_⟩) fun k11 => ?_⟩
   ·simp only [zE] at k0 k1 k2 k3 k4 k5 k6 k7 k8 k9 k10 k11
    rw [e0]
    simp only [Lx.signs, List.find?, k0, k1, k2, k3, k4, k5, k6, k7, k8, k9, k10, k11]
    rfl
   simp only [zP]
   refine den_call_q (fun _ _ => prefix_q t _ _) ⟨_, rfl, fun _ _ => den_br (fun k12 => den_wr fun _ _ => den_ret fun _ _ _ => ⟨_, rfl, ?_⟩) fun k12 => ?_⟩
   ·simp only [zE] at k0 k1 k2 k3 k4 k5 k6 k7 k8 k9 k10 k11 k12
    rw [e0]
    simp only [Lx.signs, List.find?, k0, k1, k2, k3, k4, k5, k6, k7, k8, k9, k10, k11, k12]
    rfl
   simp only [zP]
   refine den_call_q (fun _ _ => prefix_q t _ _) ⟨_, rfl, fun _ _ => den_br (fun k13 => den_wr fun _ _ => den_ret fun _ _ _ => ⟨_, rfl, ?_⟩) fun k13 => ?_⟩
   ·simp only [zE] at k0 k1 k2 k3 k4 k5 k6 k7 k8 k9 k10 k11 k12 k13
    rw [e0]
    simp only [Lx.signs, List.find?, k0, k1, k2, k3, k4, k5, k6, k7, k8, k9, k10, k11, k12, k13]
    rfl
   simp only [zP]
   refine den_wr fun _ _ => den_ret fun _ _ _ => ⟨_, rfl, ?_⟩
   simp only [zE] at k0 k1 k2 k3 k4 k5 k6 k7 k8 k9 k10 k11 k12 k13
   rw [e0]
   simp only [Lx.signs, List.find?, k0, k1, k2, k3, k4, k5, k6, k7, k8, k9, k10, k11, k12, k13]
   rfl
end Go.Proofs.YtkpjmlnhhggenaaGreatDoor
end
section
/- The walk that the kernel computes: symbolic values and worlds, and that they are sound. -/
section
namespace Go.SF
open Go Go.RowKit
variable {P : Program}
def SlAt (w : World) (J : Nat → Prop) (a : Option Addr) (n c sz : Nat) (xs : List Value) : Prop :=
 xs.length = n * sz ∧ n ≤ c ∧ ((True ∧ n = 0 ∧ c = 0) ∨ ∃ b o, a = some ⟨b, o, none⟩ ∧ J b ∧ b < w.heap.size ∧ ∀ (j : Nat) u, xs[j]? = some u → w.cell? ⟨b, o + j, none⟩ = some u)
def SlI (W : Wd) (a : Option Addr) (n c sz : Nat) (xs : List Value) : Prop := SlAt W.w W.I a n c sz xs
theorem cell_ext' {W W' : Wd} (x : Ext W W') {b : Nat} (hI : W.I b) (o : Nat) : W'.w.cell? ⟨b, o, none⟩ = W.w.cell? ⟨b, o, none⟩ := World.cell?_of_block (w := W.w) (x.keep b hI)
theorem SlI.ext {W W' : Wd} {a : Option Addr} {n c sz : Nat} {xs : List Value} (h : SlI W a n c sz xs) (x : Ext W W') : SlI W' a n c sz xs := by
 obtain ⟨h1, h2, h3⟩ := h
 refine ⟨h1, h2, h3.imp id ?_⟩
 rintro ⟨b, o, e, hI, hb, hc⟩
 exact ⟨b, o, e, x.sub b hI, Nat.lt_of_lt_of_le hb x.size, fun j u hu => by rw [cell_ext' x hI]; exact hc j u hu⟩
theorem SlAt.stay {W : Wd} {w : World} {n0 : Nat} {a : Option Addr} {n c sz : Nat} {xs : List Value} (h : SlAt w (fun b => n0 ≤ b) a n c sz xs) (e : W.w = w) (hn : NewIn n0 W) : SlI W a n c sz xs := by
 subst e
 obtain ⟨h1, h2, h3⟩ := h
 refine ⟨h1, h2, h3.imp id ?_⟩
 rintro ⟨b, o, e, hI, hb, hc⟩
 exact ⟨b, o, e, hn b hI hb, hb, hc⟩
theorem SlAt.mono {w : World} {J J' : Nat → Prop} {a : Option Addr} {n c sz : Nat} {xs : List Value} (h : SlAt w J a n c sz xs) (hJ : ∀ b, J b → J' b) : SlAt w J' a n c sz xs := by
 obtain ⟨h1, h2, h3⟩ := h
 refine ⟨h1, h2, h3.imp id ?_⟩
 rintro ⟨b, o, e, hI, hb, hc⟩
 exact ⟨b, o, e, hJ b hI, hb, hc⟩
theorem SlAt.nil (w : World) (J : Nat → Prop) (sz : Nat) : SlAt w J none 0 0 sz [] := ⟨by simp, Nat.le_refl _, .inl ⟨trivial, rfl, rfl⟩⟩
theorem owns_sl {w : World} {n0 : Nat} {e : TypeId} {sz : Nat} {a : Option Addr} {n c k : Nat} {xs : List Value} (h : w.ownsRow n0 e sz (.slice a n c) k xs) : SlAt w (fun b => n0 ≤ b) a n c sz xs := by
 obtain ⟨h1, h2⟩ := h
 rcases h2 with ⟨hv, hn⟩ | ⟨g, cap, cur, hv, hb, hg, hnc, hcm, hcs, ht⟩
 ·injection hv with e1 e2 e3
  subst e1 e2 e3 hn
  exact ⟨h1, Nat.le_refl _, .inl ⟨trivial, rfl, rfl⟩⟩
 ·injection hv with e1 e2 e3
  subst e1 e2 e3
  refine ⟨h1, hnc, .inr ⟨g, 0, rfl, hb, (Array.getElem?_eq_some_iff.1 hg).1, fun j u hu => ?_⟩⟩
  rw [cell_of_row w g (0 + j) cur e (0, 0) hg, Nat.zero_add]
  rw [← ht, List.getElem?_take] at hu
  split at hu
  ·simpa using hu
  ·cases hu
theorem look_agg {w : World} {t : TypeId} {k : Nat} (hA : aggT P t = some true) (hS : sizeT P t = some k) {ad : Addr} {vs : List Value} (hl : vs.length = k) (hc : ∀ (j : Nat) u, vs[j]? = some u → w.cell? (ad.add j) = some u) : (Instr.loadAt t (.pointer (some ad))).run P w = .ok (.agg vs.toArray) w := by
 have hcs := run_loadCells_list (P := P) w ad vs hc
 rw [hl] at hcs
 simp [Instr.loadAt, Instr.sureAddr, loadVar, run_aggT hA, run_sizeT hS, hcs]
theorem look_one {w : World} {t : TypeId} (hA : aggT P t = some false) {ad : Addr} {u : Value} (hc : w.cell? ad = some u) : (Instr.loadAt t (.pointer (some ad))).run P w = .ok u w := by
 simp [Instr.loadAt, Instr.sureAddr, loadVar, run_aggT hA, hc]
theorem flat_get {α : Type} {f : α → List Value} {sz : Nat} (hf : ∀ x, (f x).length = sz) : ∀ {l : List α} {i : Nat} {x : α} (j : Nat), l[i]? = some x → j < sz → (l.flatMap f)[i * sz + j]? = (f x)[j]?
 | [], i, x, j, h, _ => by simp at h
 | y :: l, 0, x, j, h, hj => by
  simp only [List.getElem?_cons_zero, Option.some.injEq] at h
  subst h
  rw [List.flatMap_cons, Nat.zero_mul, Nat.zero_add, List.getElem?_append_left (by rw [hf]; exact hj)]
 | y :: l, i + 1, x, j, h, hj => by
  rw [List.getElem?_cons_succ] at h
  rw [List.flatMap_cons, List.getElem?_append_right (by rw [hf, Nat.add_mul, Nat.one_mul]; omega), hf, show (i + 1) * sz + j - sz = i * sz + j from by rw [Nat.add_mul, Nat.one_mul]; omega]
  exact flat_get hf j h hj
theorem flat_len {α : Type} {f : α → List Value} {sz : Nat} (hf : ∀ x, (f x).length = sz) (l : List α) : (l.flatMap f).length = l.length * sz := by
 induction l with
 | nil => simp
 | cons x l ih => rw [List.flatMap_cons, List.length_append, ih, hf, List.length_cons, Nat.add_mul, Nat.one_mul, Nat.add_comm]
theorem sl_look {α : Type} {f : α → List Value} {sz : Nat} (hf : ∀ x, (f x).length = sz) (hz : 0 < sz) {W : Wd} {a : Option Addr} {n c : Nat} {l : List α} (h : SlI W a n c sz (l.flatMap f)) {t : TypeId} (hA : aggT P t = some true) (hS : sizeT P t = some sz) {i : Nat} {x : α} (hx : l[i]? = some x)
  {W' : Wd} (hW : Ext W W') : (Instr.loadAt t (.pointer (some ((a.getD default).add (i * sz + 0))))).run P W'.w = .ok (.agg (f x).toArray) W'.w := by
 obtain ⟨h1, h2, h3⟩ := h.ext hW
 have hl := flat_len hf l
 rcases h3 with ⟨_, rfl, rfl⟩ | ⟨b, o, rfl, hI, hb, hc⟩
 ·exfalso
  have hi := (List.getElem?_eq_some_iff.1 hx).1
  rw [hl] at h1
  have := Nat.eq_of_mul_eq_mul_right hz h1
  omega
 ·refine look_agg hA hS (hf x) fun j u hu => ?_
  have hj : j < sz := by rw [← hf x]; exact (List.getElem?_eq_some_iff.1 hu).1
  have := hc (i * sz + j) u (by rw [flat_get hf j hx hj]; exact hu)
  simp only [Option.getD_some, Nat.add_zero]
  rw [add_none, add_none, show o + i * sz + j = o + (i * sz + j) from by omega]
  exact this
theorem sl_look_f {α : Type} {f : α → List Value} {sz : Nat} (hf : ∀ x, (f x).length = sz) {W : Wd} {a : Option Addr} {n c : Nat} {l : List α} (h : SlI W a n c sz (l.flatMap f)) {t : TypeId} (hA : aggT P t = some false) {i k : Nat} {x : α} (hx : l[i]? = some x) (hk : k < sz) {u : Value} (hu : (f x)[k]? = some u)
  {W' : Wd} (hW : Ext W W') : (Instr.loadAt t (.pointer (some ((a.getD default).add (i * sz + k))))).run P W'.w = .ok u W'.w := by
 obtain ⟨h1, h2, h3⟩ := h.ext hW
 have hl := flat_len hf l
 rcases h3 with ⟨_, rfl, rfl⟩ | ⟨b, o, rfl, hI, hb, hc⟩
 ·exfalso
  have hi := (List.getElem?_eq_some_iff.1 hx).1
  rw [hl] at h1
  have := Nat.eq_of_mul_eq_mul_right (by omega) h1
  omega
 ·refine look_one hA ?_
  have := hc (i * sz + k) u (by rw [flat_get hf k hx hk]; exact hu)
  simp only [Option.getD_some]
  rw [add_none]
  exact this
theorem SlI.some_of {W : Wd} {a : Option Addr} {n c sz : Nat} {xs : List Value} (h : SlI W a n c sz xs) (hn : 0 < n) : a.isSome = true := by
 rcases h.2.2 with ⟨_, rfl, _⟩ | ⟨b, o, rfl, _⟩
 ·omega
 ·rfl
def SlW (w : World) (a : Option Addr) (n c sz : Nat) (xs : List Value) : Prop := SlAt w (fun _ => True) a n c sz xs
theorem SlAt.w {w : World} {J : Nat → Prop} {a : Option Addr} {n c sz : Nat} {xs : List Value} (h : SlAt w J a n c sz xs) : SlW w a n c sz xs := h.mono fun _ _ => trivial
theorem SlW.all {W : Wd} {a : Option Addr} {n c sz : Nat} {xs : List Value} (h : SlW W.w a n c sz xs) : SlI W.all a n c sz xs := by
 obtain ⟨h1, h2, h3⟩ := h
 refine ⟨h1, h2, h3.imp id ?_⟩
 rintro ⟨b, o, e, _, hb, hc⟩
 exact ⟨b, o, e, hb, hb, hc⟩
theorem blk_sl {w : World} {b : Nat} {cs : List Value} {ty : TypeId} (h : w.heap[b]? = some (.cells cs.toArray ty)) {n sz : Nat} (hl : cs.length = n * sz) : SlW w (some ⟨b, 0, none⟩) n n sz cs := by
 refine ⟨hl, Nat.le_refl _, .inr ⟨b, 0, rfl, trivial, (Array.getElem?_eq_some_iff.1 h).1, fun j u hu => ?_⟩⟩
 simp [World.cell?, h, hu]
end Go.SF
end
end
section
/- What is left to show of functions, as the walk that the kernel computes finds it (written by wip/vc2.py). -/
namespace Go.Proofs.YtkpjmlnhhggenaaGreatDoor
open Go Go.RowKit Go.SF
set_option maxRecDepth 100000
end Go.Proofs.YtkpjmlnhhggenaaGreatDoor
end
section
/- All parts of a text; how parts stand there. -/
namespace Go.Proofs.YtkpjmlnhhggenaaGreatDoor
open Go Go.RowKit Go.SF
def tokC (t : Lx.Tok) : List Value := [.int .u8 t.k, .string ⟨t.t.toArray⟩]
theorem tokC_len (t : Lx.Tok) : (tokC t).length = 2 := rfl
def toksC (l : List Lx.Tok) : List Value := l.flatMap tokC
theorem toksC_app (l m : List Lx.Tok) : toksC (l ++ m) = toksC l ++ toksC m := by simp [toksC]
theorem toksC_len (l : List Lx.Tok) : (toksC l).length = l.length * 2 := flat_len tokC_len l
def Toks (W : Wd) (a : Option Addr) (c : Nat) (l : List Lx.Tok) : Prop := SlI W a l.length c 2 (toksC l)
def ToksN (n0 : Nat) (w : World) (a : Option Addr) (c : Nat) (l : List Lx.Tok) : Prop := SlAt w (fun b => n0 ≤ b) a l.length c 2 (toksC l)
theorem trim_q (t : ByteArray) (W : Wd) : CallsQ Tryz.prog 105 #[.string t, .string ⟨#[32]⟩] W (.string ⟨(Lx.trim t.data.toList).toArray⟩) :=
 .of_below (Calls.mono (Tryz.strings_TrimLeft_one t 32 (by decide) W.w) fun e w' ⟨he, hw⟩ => ⟨he, hw ▸ Below.refl _ _⟩)
theorem first_pos {l : List UInt8} : (Lx.first l).2 ≤ l.length := by
 cases l with
 | nil => simp [Lx.first, Lx.none]
 | cons c r =>
  simp only [Lx.first]
  split
  ·exact Lx.run_le _ _
  ·split
   ·exact Lx.run_le _ _
   ·split
    ·cases h : Lx.cutQ r with
     | none => simp [Lx.none]
     | some q => have := Lx.cutQ_len h; simp; omega
    ·cases h : Lx.signs.find? fun x => x.isPrefixOf (c :: r) with
     | none => simp [Lx.none]
     | some x =>
      have := List.find?_some h
      exact (List.isPrefixOf_iff_prefix.1 this).length_le
theorem first_text {l : List UInt8} : (Lx.first l).1.t.length ≤ l.length ∨ (Lx.first l).1.t.length ≤ 2 := by
 cases l with
 | nil => simp [Lx.first, Lx.none]
 | cons c r =>
  simp only [Lx.first]
  split
  ·left; simp; omega
  ·split
   ·left; simp; omega
   ·split
    ·cases h : Lx.cutQ r with
     | none => simp [Lx.none]
     | some q => have := Lx.cutQ_len h; left; simp; omega
    ·cases h : Lx.signs.find? fun x => x.isPrefixOf (c :: r) with
     | none => simp [Lx.none]
     | some x =>
      have := List.find?_some h
      left
      exact (List.isPrefixOf_iff_prefix.1 this).length_le
theorem lex_r (t : ByteArray) (W : Wd) (hG : Glob W) : CallsI Tryz.prog 50 #[.string t] W.all fun v w' => ∃ a c, v = .tuple #[.slice a (Lx.lex t.data.toList).1.length c, .int .i64 (Lx.lex t.data.toList).2] ∧ w'.ownsRow W.w.heap.size 135 2 (.slice a (Lx.lex t.data.toList).1.length c) (Lx.lex t.data.toList).1.length (toksC (Lx.lex t.data.toList).1) := by
 refine vc_lex t W.all _ ?_
 have hs := size_len t
 have hG := hG.ext W.all_ext
 refine den_br (fun c => ?_) fun c => ?_
 ·simp only [zE, ltB_true] at c
  have e : Lx.lex t.data.toList = ([], 40) := by unfold Lx.lex; rw [if_pos (by omega)]
  rw [e]
  exact den_ret fun _ _ _ => ⟨_, rfl, none, 0, rfl, World.ownsRow_nil _ _ _ _⟩
 ·simp only [zE, ltB_false] at c
  have e : Lx.lex t.data.toList = match Lx.lexT (t.data.toList.length + 1) (Lx.trim t.data.toList) with
   | some ts => (ts, 0)
   | none => ([], 4) := by unfold Lx.lex; rw [if_neg (by omega)]; rfl
  rw [e]
  refine den_call_q (fun _ _ => trim_q t _) ⟨⟨(Lx.trim t.data.toList).toArray⟩, rfl, fun W1 x1 => ?_⟩
  simp only [zP]
  have htl := Lx.trim_le t.data.toList
  refine den_loop (fun k vs ls _ => ∃ (m : Lx.Bs) (ts : List Lx.Tok) (a : Option Addr) (c : Nat), vs = [.string ⟨m.toArray⟩, .slice a ts.length c] ∧ ls = [toksC ts] ∧ m.length < k ∧ ts.length + m.length ≤ 100 ∧
   Lx.lexT (t.data.toList.length + 1) (Lx.trim t.data.toList) = (Lx.lexT k m).map (ts ++ ·)) (t.data.toList.length + 1) ⟨Lx.trim t.data.toList, [], none, 0, rfl, rfl, by omega, by simp; omega, by simp⟩ ?_
  rintro k vs ls W2 x2 ⟨m, ts, a, ca, rfl, rfl, hk, hlen, hT⟩
  refine ⟨ts.length, ca, ⟨m.toArray⟩, a, toksC ts, rfl, (by simp [rowConts, conts, Seg.den, gd, Env.push]), fun hrow => ?_⟩
  simp only [zP]
  have hG2 := (hG.ext x1).ext x2
  have hms : (⟨m.toArray⟩ : ByteArray).data.toList = m := by simp
  have hmz : (⟨m.toArray⟩ : ByteArray).size = m.length := by rw [← size_len, hms]
  obtain ⟨k, rfl⟩ : ∃ j, k = j + 1 := ⟨k - 1, by omega⟩
  refine den_br (fun c1 => ?_) fun c1 => ?_
  ·obtain ⟨ch, r, rfl⟩ : ∃ ch r, m = ch :: r := by
    cases m with
    | nil => simp [Sy.dens, Sy.den, E.i, E.b, E.t, gd, Env.push, z_a, z_b, z_c, z_d] at c1
    | cons ch r => exact ⟨ch, r, rfl⟩
   have hf := first_q ⟨(ch :: r).toArray⟩ (by rw [hmz]; simp) (by rw [hmz]; omega) W2 hG2
   rw [hms] at hf
   refine den_call_q (fun _ _ => hf) ⟨(Lx.first (ch :: r)).1.k, ((Lx.first (ch :: r)).2 : Int), ⟨(Lx.first (ch :: r)).1.t.toArray⟩, rfl, fun W3 x3 => ?_⟩
   simp only [zP]
   have hft := @first_text (ch :: r)
   have hfp := @first_pos (ch :: r)
   have hT' : ∀ b : Bool, (Lx.first (ch :: r)).2 = 0 ∨ Lx.may (Lx.first (ch :: r)).1.k (Lx.first (ch :: r)).1.t = false → Lx.lexT (t.data.toList.length + 1) (Lx.trim t.data.toList) = (none : Option (List Lx.Tok)) := fun _ h => by
    rw [hT]
    simp only [Lx.lexT]
    rw [if_pos (by rcases h with h | h <;> simp [h])]
    rfl
   refine den_new fun m1 W4 _ x4 => den_wr fun W5 x5 => den_br (fun c2 => ?_) fun c2 => ?_
   ·simp only [zE] at c2
    have hn0 : ¬ (Lx.first (ch :: r)).2 = 0 := by simpa using c2
    have hG5 := ((hG2.ext x3).ext x4).ext x5
    have hm := may_q (Lx.first (ch :: r)).1.k ⟨(Lx.first (ch :: r)).1.t.toArray⟩ (by rw [← size_len]; simp only [List.length_cons] at *; omega) W5 hG5
    refine den_call_q (fun _ _ => hm) ⟨Lx.may (Lx.first (ch :: r)).1.k (Lx.first (ch :: r)).1.t, rfl, fun W6 x6 => ?_⟩
    simp only [zP]
    refine den_br (fun c3 => ?_) fun c3 => ?_
    ·have c3 : (!Lx.may (Lx.first (ch :: r)).1.k (Lx.first (ch :: r)).1.t) = true := c3
     rw [hT' true (.inr (by simpa using c3))]
     exact den_ret fun _ _ _ => ⟨_, rfl, none, 0, rfl, World.ownsRow_nil _ _ _ _⟩
    ·have c3 : (!Lx.may (Lx.first (ch :: r)).1.k (Lx.first (ch :: r)).1.t) = false := c3
     have c3 : Lx.may (Lx.first (ch :: r)).1.k (Lx.first (ch :: r)).1.t = true := by simpa using c3
     have hcut : ((⟨(ch :: r).toArray⟩ : ByteArray).extract (Lx.first (ch :: r)).2 (⟨(ch :: r).toArray⟩ : ByteArray).size).data.toList = (ch :: r).drop (Lx.first (ch :: r)).2 := by rw [extract_drop]
     have htq := trim_q ((⟨(ch :: r).toArray⟩ : ByteArray).extract (Lx.first (ch :: r)).2 (⟨(ch :: r).toArray⟩ : ByteArray).size)
     rw [hcut] at htq
     refine den_new fun m2 W7 _ x7 => den_chk ?_ (den_app fun a' c' W8 ha' x8 => den_chk ?_ (den_chk ?_ (den_chk ?_ (den_call_q (fun _ _ => htq W8) ⟨_, rfl, fun W9 x9 => ?_⟩))))
     ·simp only [zE]; exact leB_t (by omega)
     ·simp only [zE]; exact leB_t (by omega)
     ·simp only [zE]; exact leB_t (by omega)
     ·simp only [zE]; exact leB_t (by omega)
     ·simp only [zP]
      have hd : (Lx.trim ((ch :: r).drop (Lx.first (ch :: r)).2)).length ≤ (ch :: r).length - (Lx.first (ch :: r)).2 := by
       have := Lx.trim_le ((ch :: r).drop (Lx.first (ch :: r)).2)
       rw [List.length_drop] at this; exact this
      try (with_reducible refine den_frz fun _ _ _ _ _ => ?_)
      refine den_again ⟨k, by omega, Lx.trim ((ch :: r).drop (Lx.first (ch :: r)).2), ts ++ [(Lx.first (ch :: r)).1], a', c', ?_, ?_, by omega, ?_, ?_⟩
      ·simp only [zE, List.length_append, List.length_cons, List.length_nil]
       rfl
      ·simp only [rowConts, conts, z_e, z_f, z_g, z_h, Seg.den, zE, toksC_app]
       rfl
      ·simp only [List.length_append, List.length_cons, List.length_nil] at *; omega
      ·rw [hT]
       simp only [Lx.lexT]
       rw [if_neg (by simp [hn0, c3]), Option.map_map]
       congr 1
       funext l
       simp
   ·simp only [zE] at c2
    have hn0 : (Lx.first (ch :: r)).2 = 0 := by simpa using c2
    rw [hT' true (.inl hn0)]
    exact den_ret fun _ _ _ => ⟨_, rfl, none, 0, rfl, World.ownsRow_nil _ _ _ _⟩
  ·have hm0 : m = [] := by simpa [Sy.dens, Sy.den, E.i, E.b, E.t, gd, Env.push, z_a, z_b, z_c, z_d] using c1
   subst hm0
   have hT2 : Lx.lexT (t.data.toList.length + 1) (Lx.trim t.data.toList) = some ts := by rw [hT]; simp [Lx.lexT]
   rw [hT2]
   refine den_ret fun _ _ hr => ⟨_, rfl, a, ca, rfl, ?_⟩
   have := (hr _ (List.mem_singleton.2 rfl)).1
   simp only [conts, z_g, z_h, Seg.den, zE] at this
   exact this
theorem lex_i (t : ByteArray) (W : Wd) (hG : Glob W) : CallsI Tryz.prog 50 #[.string t] W.all fun v w' => ∃ a c, v = .tuple #[.slice a (Lx.lex t.data.toList).1.length c, .int .i64 (Lx.lex t.data.toList).2] ∧ ToksN W.w.heap.size w' a c (Lx.lex t.data.toList).1 :=
 CallsI.mono (lex_r t W hG) fun v w' _ ⟨a, c, hv, ho⟩ => ⟨a, c, hv, owns_sl ho⟩
end Go.Proofs.YtkpjmlnhhggenaaGreatDoor
end
section
/- Trees of expressions in plain Lean: what parts in a row are. No program in sight. -/
namespace Px
open Go
open Lx hiding none run first
inductive Ex where
 | mk (op k n : Int) (t name : Bs) (args : List Ex)
def Ex.args : Ex → List Ex
 | .mk _ _ _ _ _ l => l
def leaf (k n : Int) (t : Bs) : Ex := .mk 1 k n t [] []
def name (t : Bs) : Ex := .mk 2 0 0 [] t []
def op1 (o : Int) (a : Ex) : Ex := .mk o 0 0 [] [] [a]
def op2 (o : Int) (a b : Ex) : Ex := .mk o 0 0 [] [] [a, b]
def binds : List (Bs × Int × Int) := [([124], 14, 1), ([38], 13, 2), ([60], 9, 3), ([60, 61], 10, 3), ([61, 61], 11, 3), ([33, 61], 12, 3), ([43], 8, 4), ([45], 15, 4), ([42], 5, 5), ([47], 6, 5), ([37], 7, 5)]
def by_ (s : Bs) (o : Int) : Option (Bs × Int × Int) := binds.find? fun b => b.1 == s || b.2.1 == o
def sign (s : Bs) : List Tok → Option (List Tok)
 | [] => none
 | t :: r => if t.k = 4 ∧ t.t = s then some r else none
def numOf (l : Bs) : Int := match Lib.parseIntB 64 l with
 | .ok n => n
 | _ => 0
/- a prefix or an atom; what is put together by operators that bind so much; the rest of it. Nothing: it is no expression. -/
mutual
def one : Nat → List Tok → Option (Ex × List Tok)
 | 0, _ => none
 | _ + 1, [] => none
 | n + 1, t :: r =>
  if t.k = 4 then
   (if t.t = [45] then (one n r).map fun p => (op1 3 p.1, p.2)
   else if t.t = [33] then (one n r).map fun p => (op1 4 p.1, p.2)
   else if t.t = [40] then (two n 1 r).bind fun p => (sign [41] p.2).map fun q => (p.1, q)
   else none)
  else if t.k = 1 then some (leaf 1 (numOf t.t) [], r)
  else if t.k = 3 then some (leaf 3 0 t.t, r)
  else if t.t = [121, 101, 115] then some (leaf 2 1 [], r)
  else if t.t = [110, 111] then some (leaf 2 0 [], r)
  else if t.t = [108, 101, 110] then (sign [40] r).bind fun r1 => (two n 1 r1).bind fun p => (sign [41] p.2).map fun q => (op1 16 p.1, q)
  else some (name t.t, r)
def two : Nat → Int → List Tok → Option (Ex × List Tok)
 | 0, _, _ => none
 | n + 1, much, ts => (one n ts).bind fun p => loop n much 7 p.1 p.2
def loop : Nat → Int → Int → Ex → List Tok → Option (Ex × List Tok)
 | 0, _, _, _, _ => none
 | _ + 1, _, _, left, [] => some (left, [])
 | n + 1, much, limit, left, t :: r =>
  if t.k = 4 then
   (match by_ t.t 0 with
   | none => some (left, t :: r)
   | some b => if b.2.2 < much ∨ limit < b.2.2 then some (left, t :: r) else (two n (b.2.2 + 1) r).bind fun p => loop n much (if b.2.2 = 3 then 2 else b.2.2) (op2 b.2.1 left p.1) p.2)
  else some (left, t :: r)
end
mutual
def deep : Ex → Nat
 | .mk _ _ _ _ _ l => deeps l + 1
def deeps : List Ex → Nat
 | [] => 0
 | e :: l => max (deep e) (deeps l)
end
def none_ : Ex := .mk 0 0 0 [] [] []
def whole (ts : List Tok) : Option Ex := match two (3 * ts.length + 2) 1 ts with
 | some (e, []) => some e
 | _ => none
def parse (s : Bs) : Ex × Int := if (lex s).2 = 0 then
  (match whole (lex s).1 with
  | none => (none_, 4)
  | some e => if 16 < deep e then (none_, 40) else (e, 0))
 else (none_, (lex s).2)
theorem sign_len {s : Bs} {ts r : List Tok} (h : sign s ts = some r) : r.length < ts.length ∧ ∃ k, r = ts.drop k := by
 cases ts with
 | nil => cases h
 | cons t l =>
  simp only [sign] at h
  split at h
  ·obtain rfl := Option.some.inj h; exact ⟨by simp, 1, rfl⟩
  ·cases h
def Less (ts r : List Tok) : Prop := r.length < ts.length ∧ ∃ k, r = ts.drop k
theorem Less.trans {a b c : List Tok} (h : Less a b) (k : Less b c) : Less a c := by
 obtain ⟨h1, i, rfl⟩ := h
 obtain ⟨k1, j, rfl⟩ := k
 exact ⟨Nat.lt_trans k1 h1, i + j, by rw [List.drop_drop]⟩
theorem Less.cons (t : Tok) (r : List Tok) : Less (t :: r) r := ⟨by simp, 1, rfl⟩
theorem Less.more {t : Tok} {r s : List Tok} (h : Less r s) : Less (t :: r) s := (Less.cons t r).trans h
theorem map_some {α β : Type} {x : Option α} {f : α → β} {y : β} (h : x.map f = some y) : ∃ a, x = some a ∧ f a = y := by simpa using h
theorem bind_some {α β : Type} {x : Option α} {f : α → Option β} {y : β} (h : x.bind f = some y) : ∃ a, x = some a ∧ f a = some y := by simpa [Option.bind_eq_some_iff] using h
theorem less_all : ∀ n : Nat, (∀ ts e r, one n ts = some (e, r) → Less ts r) ∧ (∀ m ts e r, two n m ts = some (e, r) → Less ts r) ∧ (∀ m l x ts e r, loop n m l x ts = some (e, r) → Less ts r ∨ r = ts)
 | 0 => ⟨fun _ _ _ h => by simp [one] at h, fun _ _ _ _ h => by simp [two] at h, fun _ _ _ _ _ _ h => by simp [loop] at h⟩
 | n + 1 => by
  obtain ⟨h1, h2, h3⟩ := less_all n
  refine ⟨fun ts e r h => ?_, fun m ts e r h => ?_, fun m l x ts e r h => ?_⟩
  ·cases ts with
   | nil => simp [one] at h
   | cons t s =>
    simp only [one] at h
    split at h
    ·split at h
     ·obtain ⟨p, hp, he⟩ := map_some h
      obtain ⟨_, rfl⟩ := Prod.mk.inj he
      exact (h1 _ _ _ hp).more
     ·split at h
      ·obtain ⟨p, hp, he⟩ := map_some h
       obtain ⟨_, rfl⟩ := Prod.mk.inj he
       exact (h1 _ _ _ hp).more
      ·split at h
       ·obtain ⟨p, hp, he⟩ := bind_some h
        obtain ⟨q, hq, he⟩ := map_some he
        obtain ⟨_, rfl⟩ := Prod.mk.inj he
        exact (Less.trans (h2 _ _ _ _ hp) (sign_len hq)).more
       ·cases h
    ·split at h
     ·obtain ⟨_, rfl⟩ := Prod.mk.inj (Option.some.inj h); exact Less.cons _ _
     ·split at h
      ·obtain ⟨_, rfl⟩ := Prod.mk.inj (Option.some.inj h); exact Less.cons _ _
      ·split at h
       ·obtain ⟨_, rfl⟩ := Prod.mk.inj (Option.some.inj h); exact Less.cons _ _
       ·split at h
        ·obtain ⟨_, rfl⟩ := Prod.mk.inj (Option.some.inj h); exact Less.cons _ _
        ·split at h
         ·obtain ⟨r1, hr, he⟩ := bind_some h
          obtain ⟨p, hp, he⟩ := bind_some he
          obtain ⟨q, hq, he⟩ := map_some he
          obtain ⟨_, rfl⟩ := Prod.mk.inj he
          exact (Less.trans (Less.trans (sign_len hr) (h2 _ _ _ _ hp)) (sign_len hq)).more
         ·obtain ⟨_, rfl⟩ := Prod.mk.inj (Option.some.inj h); exact Less.cons _ _
  ·simp only [two] at h
   obtain ⟨p, hp, he⟩ := bind_some h
   have := h1 _ _ _ hp
   rcases h3 _ _ _ _ _ _ he with k | rfl
   ·exact this.trans k
   ·exact this
  ·cases ts with
   | nil => simp only [loop] at h; obtain ⟨_, rfl⟩ := Prod.mk.inj (Option.some.inj h); exact .inr rfl
   | cons t s =>
    simp only [loop] at h
    split at h
    ·split at h
     ·obtain ⟨_, rfl⟩ := Prod.mk.inj (Option.some.inj h); exact .inr rfl
     ·split at h
      ·obtain ⟨_, rfl⟩ := Prod.mk.inj (Option.some.inj h); exact .inr rfl
      ·obtain ⟨p, hp, he⟩ := bind_some h
       have := (h2 _ _ _ _ hp).more (t := t)
       rcases h3 _ _ _ _ _ _ he with k | rfl
       ·exact .inl (this.trans k)
       ·exact .inl this
    ·obtain ⟨_, rfl⟩ := Prod.mk.inj (Option.some.inj h); exact .inr rfl
theorem one_less {n : Nat} {ts r : List Tok} {e : Ex} (h : one n ts = some (e, r)) : Less ts r := (less_all n).1 _ _ _ h
theorem two_less {n : Nat} {m : Int} {ts r : List Tok} {e : Ex} (h : two n m ts = some (e, r)) : Less ts r := (less_all n).2.1 _ _ _ _ h
end Px
end
section
/- What is left to show of functions, as the walk that the kernel computes finds it (written by wip/vc2.py). -/
namespace Go.Proofs.YtkpjmlnhhggenaaGreatDoor
open Go Go.RowKit Go.SF
set_option maxRecDepth 100000
@[reducible] def dd2_0_0 : Blk := ⟨4, 56, [(.int .u8 (.iv 5)), (.int .u8 (.iv 6)), (.int .i64 (.iv 7)), (.str (.tv 2)), (.str (.tv 3)), (.slc 3 (.nv 6) (.nv 7)), (.int .u8 (.iv 11)), (.int .u8 (.iv 12)), (.int .i64 (.iv 13)), (.str (.tv 6)), (.str (.tv 7)), (.slc 6 (.nv 12) (.nv 13))]⟩
@[reducible] def dd2_0_1 : Sy := (.agg [(.int .u8 (.iv 0)), (.int .u8 (.iv 1)), (.int .i64 (.iv 2)), (.str (.tv 0)), (.str (.tv 1)), (.slc 4 (.nv 8) (.nv 9))])
@[reducible] def dd2_0_2 : Sy := (.agg [(.int .u8 (.iv 5)), (.int .u8 (.iv 6)), (.int .i64 (.iv 7)), (.str (.tv 2)), (.str (.tv 3)), (.slc 1 (.nv 2) (.nv 3))])
@[reducible] def t_by_1 : Tree := (.grow (.wr (.ret (.tup [(.agg [(.str (.tl [124])), (.int .u8 (.il 14)), (.int .i64 (.il 1))]), (.bool (.bl true))]) [] [] [])))
@[reducible] def t_by_2 : Tree := (.grow (.wr (.ret (.tup [(.agg [(.str (.tl [38])), (.int .u8 (.il 13)), (.int .i64 (.il 2))]), (.bool (.bl true))]) [] [] [])))
@[reducible] def t_by_3 : Tree := (.grow (.wr (.ret (.tup [(.agg [(.str (.tl [60])), (.int .u8 (.il 9)), (.int .i64 (.il 3))]), (.bool (.bl true))]) [] [] [])))
@[reducible] def t_by_4 : Tree := (.grow (.wr (.ret (.tup [(.agg [(.str (.tl [60, 61])), (.int .u8 (.il 10)), (.int .i64 (.il 3))]), (.bool (.bl true))]) [] [] [])))
@[reducible] def t_by_5 : Tree := (.grow (.wr (.ret (.tup [(.agg [(.str (.tl [61, 61])), (.int .u8 (.il 11)), (.int .i64 (.il 3))]), (.bool (.bl true))]) [] [] [])))
@[reducible] def t_by_6 : Tree := (.grow (.wr (.ret (.tup [(.agg [(.str (.tl [33, 61])), (.int .u8 (.il 12)), (.int .i64 (.il 3))]), (.bool (.bl true))]) [] [] [])))
@[reducible] def t_by_7 : Tree := (.grow (.wr (.ret (.tup [(.agg [(.str (.tl [43])), (.int .u8 (.il 8)), (.int .i64 (.il 4))]), (.bool (.bl true))]) [] [] [])))
@[reducible] def t_by_8 : Tree := (.grow (.wr (.ret (.tup [(.agg [(.str (.tl [45])), (.int .u8 (.il 15)), (.int .i64 (.il 4))]), (.bool (.bl true))]) [] [] [])))
@[reducible] def t_by_9 : Tree := (.grow (.wr (.ret (.tup [(.agg [(.str (.tl [42])), (.int .u8 (.il 5)), (.int .i64 (.il 5))]), (.bool (.bl true))]) [] [] [])))
@[reducible] def t_by_10 : Tree := (.grow (.wr (.ret (.tup [(.agg [(.str (.tl [47])), (.int .u8 (.il 6)), (.int .i64 (.il 5))]), (.bool (.bl true))]) [] [] [])))
@[reducible] def t_by_11 : Tree := (.grow (.wr (.ret (.tup [(.agg [(.str (.tl [37])), (.int .u8 (.il 7)), (.int .i64 (.il 5))]), (.bool (.bl true))]) [] [] [])))
@[reducible] def t_by_12 : Tree := (.grow (.wr (.ret (.tup [(.agg [(.str (.tl [])), (.int .u8 (.il 0)), (.int .i64 (.il 0))]), (.bool (.bl false))]) [] [] [])))
@[reducible] def t_by_13 : Tree := (.br (.bin .bor (.bin .teq (.tl [37]) (.tv 0)) (.bin .ieq (.il 7) (.iv 0))) t_by_11 t_by_12)
@[reducible] def t_by_14 : Tree := (.br (.bin .bor (.bin .teq (.tl [47]) (.tv 0)) (.bin .ieq (.il 6) (.iv 0))) t_by_10 t_by_13)
@[reducible] def t_by_15 : Tree := (.br (.bin .bor (.bin .teq (.tl [42]) (.tv 0)) (.bin .ieq (.il 5) (.iv 0))) t_by_9 t_by_14)
@[reducible] def t_by_16 : Tree := (.br (.bin .bor (.bin .teq (.tl [45]) (.tv 0)) (.bin .ieq (.il 15) (.iv 0))) t_by_8 t_by_15)
@[reducible] def t_by_17 : Tree := (.br (.bin .bor (.bin .teq (.tl [43]) (.tv 0)) (.bin .ieq (.il 8) (.iv 0))) t_by_7 t_by_16)
@[reducible] def t_by_18 : Tree := (.br (.bin .bor (.bin .teq (.tl [33, 61]) (.tv 0)) (.bin .ieq (.il 12) (.iv 0))) t_by_6 t_by_17)
@[reducible] def t_by_19 : Tree := (.br (.bin .bor (.bin .teq (.tl [61, 61]) (.tv 0)) (.bin .ieq (.il 11) (.iv 0))) t_by_5 t_by_18)
@[reducible] def t_by_20 : Tree := (.br (.bin .bor (.bin .teq (.tl [60, 61]) (.tv 0)) (.bin .ieq (.il 10) (.iv 0))) t_by_4 t_by_19)
@[reducible] def t_by_21 : Tree := (.br (.bin .bor (.bin .teq (.tl [60]) (.tv 0)) (.bin .ieq (.il 9) (.iv 0))) t_by_3 t_by_20)
@[reducible] def t_by_22 : Tree := (.br (.bin .bor (.bin .teq (.tl [38]) (.tv 0)) (.bin .ieq (.il 13) (.iv 0))) t_by_2 t_by_21)
@[reducible] def t_by : Tree :=
(.new (.new (.new (.grow (.new (.wr (.br (.bin .bor (.bin .teq (.tl [124]) (.tv 0)) (.bin .ieq (.il 14) (.iv 0))) t_by_1 t_by_22)))))))
theorem x_by : xfn Tryz.prog { kc with inl := [55, 56, 57, 173, 175, 174], unroll := [(2, 13)] } Tryz.f150 [(.str (.tv 0)), (.int .u8 (.iv 0))] [] [] ⟨1, 0, 0, 1, 0, 0, 0, 0⟩ = some t_by := by kernel_rfl
theorem vc_by (i0 : Int) (t0 : ByteArray) (W : Wd) (R : Ending → World → Prop) (h : t_by.den Tryz.prog W.w.heap.size R [] { I := [i0], T := [t0] } W) : CallsE Tryz.prog 150 #[.string t0, .int .u8 i0] W R :=
 fn_calls Tryz.func150 _ _ { I := [i0], T := [t0] } _ x_by (fun v hv => by cases hv) h
@[reducible] def t_sign_1 : Tree := (.chk (.bin .le (.il 1) (.nv 0)) (.sub 0 (.il 1) (.nv 0) (.nv 1) 2 (.wr (.ret (.bool (.bl true)) [⟨0, 142, [(.slc 1 (.nv 2) (.nv 3))]⟩] [] []))))
@[reducible] def t_sign_2 : Tree := (.br (.un .not (.bin .teq (.tv 1) (.tv 0))) (.ret (.bool (.bl false)) [⟨0, 142, [(.slc 0 (.nv 0) (.nv 1))]⟩] [] []) t_sign_1)
@[reducible] def t_sign_3 : Tree := (.br (.bin .ieq (.iv 0) (.il 4)) (.look 9 (.elt 0 (.il 0) 2 1) (.str (.tv 1)) kk6 t_sign_2) (.ret (.bool (.bl false)) [⟨0, 142, [(.slc 0 (.nv 0) (.nv 1))]⟩] [] []))
@[reducible] def t_sign : Tree :=
(.chk (.bin .bor (.bin .ieq (.nv 0) (.il 0)) (.sm 0)) (.chk (.bin .bor (.bin .ieq (.nv 0) (.il 0)) (.bin .le (.il 0) (.il 0))) (.chk (.bin .bor (.bin .ieq (.nv 0) (.il 0)) (.bin .lt (.il 0) (.nv 0))) (.br (.un .not (.bin .ieq (.nv 0) (.il 0))) (.look 5 (.elt 0 (.il 0) 2 0) (.int .u8 (.iv 0)) kk0 t_sign_3) (.ret (.bool (.bl false)) [⟨0, 142, [(.slc 0 (.nv 0) (.nv 1))]⟩] [] [])))))
theorem x_sign : xfn Tryz.prog { kc with inl := [55, 56, 57, 173, 175, 174] } Tryz.f171 [(.ptr 0 0), (.str (.tv 0))] [⟨0, 142, [(.slc 0 (.nv 0) (.nv 1))]⟩] [] kk17 = some t_sign := by kernel_rfl
theorem vc_sign (n0 n1 : Nat) (t0 : ByteArray) (a0 : Option Addr) (m0 : Nat) (W : Wd) (R : Ending → World → Prop) (hm : W.w.heap[m0]? = some (.cells #[.slice a0 n0 n1] 142)) (hI : ¬ W.I m0) (h : t_sign.den Tryz.prog W.w.heap.size R [] { N := [n0, n1], T := [t0], A := [a0], M := [m0] } W) : CallsE Tryz.prog 171 #[.pointer (some ⟨m0, 0, none⟩), .string t0] W R :=
 fn_calls_mu Tryz.func171 _ _ [⟨0, 142, [(.slc 0 (.nv 0) (.nv 1))]⟩] { N := [n0, n1], T := [t0], A := [a0], M := [m0] } _ x_sign (fun v hv => by cases hv) (fun b hb => by simp only [List.mem_singleton] at hb; subst hb; exact hm) (fun b hb => by simp only [List.mem_singleton] at hb; subst hb; exact hI) (List.pairwise_singleton _ _) h
@[reducible] def t_must_1 : Tree := (.br (.un .not (.bv 0)) (.pan (.ifc 139 (.agg []))) (.ret (.tup []) [⟨0, 142, [(.slc 1 (.nv 2) (.nv 3))]⟩] [] []))
@[reducible] def t_must : Tree :=
(.call 171 [(.ptr 0 0), (.str (.tv 0))] [⟨0, 142, [(.slc 0 (.nv 0) (.nv 1))]⟩] [] [⟨0, 142, [(.slc 1 (.nv 2) (.nv 3))]⟩] (.bool (.bv 0)) kk18 t_must_1)
theorem x_must : xfn Tryz.prog { kc with inl := [55, 56, 57, 173, 175, 174], mu := [(171, [0])] } Tryz.f172 [(.ptr 0 0), (.str (.tv 0))] [⟨0, 142, [(.slc 0 (.nv 0) (.nv 1))]⟩] [] kk17 = some t_must := by kernel_rfl
theorem vc_must (n0 n1 : Nat) (t0 : ByteArray) (a0 : Option Addr) (m0 : Nat) (W : Wd) (R : Ending → World → Prop) (hm : W.w.heap[m0]? = some (.cells #[.slice a0 n0 n1] 142)) (hI : ¬ W.I m0) (h : t_must.den Tryz.prog W.w.heap.size R [] { N := [n0, n1], T := [t0], A := [a0], M := [m0] } W) : CallsE Tryz.prog 172 #[.pointer (some ⟨m0, 0, none⟩), .string t0] W R :=
 fn_calls_mu Tryz.func172 _ _ [⟨0, 142, [(.slc 0 (.nv 0) (.nv 1))]⟩] { N := [n0, n1], T := [t0], A := [a0], M := [m0] } _ x_must (fun v hv => by cases hv) (fun b hb => by simp only [List.mem_singleton] at hb; subst hb; exact hm) (fun b hb => by simp only [List.mem_singleton] at hb; subst hb; exact hI) (List.pairwise_singleton _ _) h
@[reducible] def t_one_1 : Tree := (.new (.wr (.ret (.agg [(.int .u8 (.il 3)), (.int .u8 (.il 0)), (.int .i64 (.il 0)), (.str (.tl [])), (.str (.tl [])), (.slb 2 0 1 1)]) [⟨2, 56, [(.int .u8 (.iv 0)), (.int .u8 (.iv 1)), (.int .i64 (.iv 2)), (.str (.tv 0)), (.str (.tv 1)), (.slc 2 (.nv 4) (.nv 5))]⟩, ⟨0, 142, [(.slc 3 (.nv 6) (.nv 7))]⟩] [] [])))
@[reducible] def t_one_2 : Tree := (.call 149 [(.ptr 0 0)] [⟨0, 142, [(.slc 1 (.nv 2) (.nv 3))]⟩] [] [⟨0, 142, [(.slc 3 (.nv 6) (.nv 7))]⟩] (.agg [(.int .u8 (.iv 0)), (.int .u8 (.iv 1)), (.int .i64 (.iv 2)), (.str (.tv 0)), (.str (.tv 1)), (.slc 2 (.nv 4) (.nv 5))]) kk8 t_one_1)
@[reducible] def t_one_3 : Tree := (.new (.wr (.ret (.agg [(.int .u8 (.il 4)), (.int .u8 (.il 0)), (.int .i64 (.il 0)), (.str (.tl [])), (.str (.tl [])), (.slb 2 0 1 1)]) [⟨2, 56, [(.int .u8 (.iv 0)), (.int .u8 (.iv 1)), (.int .i64 (.iv 2)), (.str (.tv 0)), (.str (.tv 1)), (.slc 3 (.nv 6) (.nv 7))]⟩, ⟨0, 142, [(.slc 4 (.nv 8) (.nv 9))]⟩] [] [])))
@[reducible] def t_one_4 : Tree := (.call 149 [(.ptr 0 0)] [⟨0, 142, [(.slc 2 (.nv 4) (.nv 5))]⟩] [] [⟨0, 142, [(.slc 4 (.nv 8) (.nv 9))]⟩] (.agg [(.int .u8 (.iv 0)), (.int .u8 (.iv 1)), (.int .i64 (.iv 2)), (.str (.tv 0)), (.str (.tv 1)), (.slc 3 (.nv 6) (.nv 7))]) kk8 t_one_3)
@[reducible] def t_one_5 : Tree := (.wr (.ret dd2_0_1 [⟨0, 142, [(.slc 6 (.nv 12) (.nv 13))]⟩] [] []))
@[reducible] def t_one_6 : Tree := (.new (.wr (.call 172 [(.ptr 0 0), (.str (.tl [41]))] [⟨0, 142, [(.slc 5 (.nv 10) (.nv 11))]⟩] [] [⟨0, 142, [(.slc 6 (.nv 12) (.nv 13))]⟩] (.tup []) kk2 t_one_5)))
@[reducible] def t_one_7 : Tree := (.call 109 [(.ptr 0 0), (.int .i64 (.il 1))] [⟨0, 142, [(.slc 3 (.nv 6) (.nv 7))]⟩] [] [⟨0, 142, [(.slc 5 (.nv 10) (.nv 11))]⟩] dd2_0_1 kk8 t_one_6)
@[reducible] def t_one_8 : Tree := (.grow (.wr (.ret (.agg [(.int .u8 (.il 1)), (.int .u8 (.il 1)), (.int .i64 (.iv 2)), (.str (.tl [])), (.str (.tl [])), .nils]) [⟨0, 142, [(.slc 4 (.nv 8) (.nv 9))]⟩] [] [])))
@[reducible] def t_one_9 : Tree := (.call 147 [(.str (.tv 0)), (.int .i64 (.il 10)), (.int .i64 (.il 64))] [] [] [] (.tup [(.int .i64 (.iv 2)), (.var 0)]) ⟨1, 0, 0, 0, 1, 0, 0, 0⟩ t_one_8)
@[reducible] def t_one_10 : Tree := (.wr (.ret (.agg [(.int .u8 (.il 1)), (.int .u8 (.il 3)), (.int .i64 (.il 0)), (.str (.tv 0)), (.str (.tl [])), .nils]) [⟨0, 142, [(.slc 4 (.nv 8) (.nv 9))]⟩] [] []))
@[reducible] def t_one_11 : Tree := (.grow (.wr (.ret (.agg [(.int .u8 (.il 1)), (.int .u8 (.il 2)), (.int .i64 (.il 1)), (.str (.tl [])), (.str (.tl [])), .nils]) [⟨0, 142, [(.slc 4 (.nv 8) (.nv 9))]⟩] [] [])))
@[reducible] def t_one_12 : Tree := (.grow (.wr (.ret (.agg [(.int .u8 (.il 1)), (.int .u8 (.il 2)), (.int .i64 (.il 0)), (.str (.tl [])), (.str (.tl [])), .nils]) [⟨0, 142, [(.slc 4 (.nv 8) (.nv 9))]⟩] [] [])))
@[reducible] def t_one_13 : Tree := (.new (.wr (.ret (.agg [(.int .u8 (.il 16)), (.int .u8 (.il 0)), (.int .i64 (.il 0)), (.str (.tl [])), (.str (.tl [])), (.slb 4 0 1 1)]) [⟨4, 56, [(.int .u8 (.iv 2)), (.int .u8 (.iv 3)), (.int .i64 (.iv 4)), (.str (.tv 1)), (.str (.tv 2)), (.slc 6 (.nv 12) (.nv 13))]⟩, ⟨0, 142, [(.slc 8 (.nv 16) (.nv 17))]⟩] [] [])))
@[reducible] def t_one_14 : Tree := (.new (.wr (.call 172 [(.ptr 0 0), (.str (.tl [41]))] [⟨0, 142, [(.slc 7 (.nv 14) (.nv 15))]⟩] [] [⟨0, 142, [(.slc 8 (.nv 16) (.nv 17))]⟩] (.tup []) kk2 t_one_13)))
@[reducible] def t_one_15 : Tree := (.call 109 [(.ptr 0 0), (.int .i64 (.il 1))] [⟨0, 142, [(.slc 5 (.nv 10) (.nv 11))]⟩] [] [⟨0, 142, [(.slc 7 (.nv 14) (.nv 15))]⟩] (.agg [(.int .u8 (.iv 2)), (.int .u8 (.iv 3)), (.int .i64 (.iv 4)), (.str (.tv 1)), (.str (.tv 2)), (.slc 6 (.nv 12) (.nv 13))]) kk8 t_one_14)
@[reducible] def t_one_16 : Tree := (.call 172 [(.ptr 0 0), (.str (.tl [40]))] [⟨0, 142, [(.slc 4 (.nv 8) (.nv 9))]⟩] [] [⟨0, 142, [(.slc 5 (.nv 10) (.nv 11))]⟩] (.tup []) kk2 t_one_15)
@[reducible] def t_one_17 : Tree := (.wr (.ret (.agg [(.int .u8 (.il 2)), (.int .u8 (.il 0)), (.int .i64 (.il 0)), (.str (.tl [])), (.str (.tv 0)), .nils]) [⟨0, 142, [(.slc 4 (.nv 8) (.nv 9))]⟩] [] []))
@[reducible] def t_one_18 : Tree := (.br (.bin .bor (.bin .teq (.tv 0) (.tl [121, 101, 115])) (.bin .teq (.tv 0) (.tl [110, 111]))) (.br (.bin .teq (.tv 0) (.tl [121, 101, 115])) t_one_11 t_one_12) (.br (.bin .teq (.tv 0) (.tl [108, 101, 110])) t_one_16 t_one_17))
@[reducible] def t_one_19 : Tree := (.new (.wr (.chk (.bin .le (.il 1) (.nv 6)) (.sub 3 (.il 1) (.nv 6) (.nv 7) 2 (.wr (.br (.bin .ieq (.iv 1) (.il 1)) t_one_9 (.br (.bin .ieq (.iv 1) (.il 3)) t_one_10 t_one_18)))))))
@[reducible] def t_one_20 : Tree := (.look 135 (.elt 3 (.il 0) 2 0) (.agg [(.int .u8 (.iv 1)), (.str (.tv 0))]) ⟨1, 0, 0, 1, 0, 0, 0, 0⟩ t_one_19)
@[reducible] def t_one_21 : Tree := (.look 5 (.elt 3 (.il 0) 2 0) (.int .u8 (.iv 0)) kk0 (.br (.bin .ieq (.iv 0) (.il 4)) (.pan (.ifc 139 (.agg []))) t_one_20))
@[reducible] def t_one_22 : Tree := (.chk (.bin .bor (.bin .ieq (.nv 6) (.il 0)) (.sm 3)) (.chk (.bin .bor (.bin .ieq (.nv 6) (.il 0)) (.bin .le (.il 0) (.il 0))) (.chk (.bin .bor (.bin .ieq (.nv 6) (.il 0)) (.bin .lt (.il 0) (.nv 6))) (.br (.un .not (.bin .ieq (.nv 6) (.il 0))) t_one_21 (.pan (.ifc 139 (.agg [])))))))
@[reducible] def t_one_23 : Tree := (.call 171 [(.ptr 0 0), (.str (.tl [40]))] [⟨0, 142, [(.slc 2 (.nv 4) (.nv 5))]⟩] [] [⟨0, 142, [(.slc 3 (.nv 6) (.nv 7))]⟩] (.bool (.bv 2)) kk18 (.br (.bv 2) t_one_7 t_one_22))
@[reducible] def t_one_24 : Tree := (.call 171 [(.ptr 0 0), (.str (.tl [33]))] [⟨0, 142, [(.slc 1 (.nv 2) (.nv 3))]⟩] [] [⟨0, 142, [(.slc 2 (.nv 4) (.nv 5))]⟩] (.bool (.bv 1)) kk18 (.br (.bv 1) t_one_4 t_one_23))
@[reducible] def t_one : Tree :=
(.new (.call 171 [(.ptr 0 0), (.str (.tl [45]))] [⟨0, 142, [(.slc 0 (.nv 0) (.nv 1))]⟩] [] [⟨0, 142, [(.slc 1 (.nv 2) (.nv 3))]⟩] (.bool (.bv 0)) kk18 (.br (.bv 0) t_one_2 t_one_24)))
theorem x_one : xfn Tryz.prog { kc with inl := [55, 56, 57, 173, 175, 174], mu := [(171, [0]), (172, [0]), (149, [0]), (109, [0])] } Tryz.f149 [(.ptr 0 0)] [⟨0, 142, [(.slc 0 (.nv 0) (.nv 1))]⟩] [] ⟨0, 2, 0, 0, 0, 1, 1, 0⟩ = some t_one := by kernel_rfl
theorem vc_one (n0 n1 : Nat) (a0 : Option Addr) (m0 : Nat) (W : Wd) (R : Ending → World → Prop) (hm : W.w.heap[m0]? = some (.cells #[.slice a0 n0 n1] 142)) (hI : ¬ W.I m0) (h : t_one.den Tryz.prog W.w.heap.size R [] { N := [n0, n1], A := [a0], M := [m0] } W) : CallsE Tryz.prog 149 #[.pointer (some ⟨m0, 0, none⟩)] W R :=
 fn_calls_mu Tryz.func149 _ _ [⟨0, 142, [(.slc 0 (.nv 0) (.nv 1))]⟩] { N := [n0, n1], A := [a0], M := [m0] } _ x_one (fun v hv => by cases hv) (fun b hb => by simp only [List.mem_singleton] at hb; subst hb; exact hm) (fun b hb => by simp only [List.mem_singleton] at hb; subst hb; exact hI) (List.pairwise_singleton _ _) h
@[reducible] def t_two_1 : Tree := (.wr (.ret (.agg [(.int .u8 (.iv 5)), (.int .u8 (.iv 6)), (.int .i64 (.iv 7)), (.str (.tv 2)), (.str (.tv 3)), (.slc 3 (.nv 6) (.nv 7))]) [⟨0, 142, [(.slc 4 (.nv 8) (.nv 9))]⟩] [] []))
@[reducible] def t_two_2 : Tree := (.frz [dd2_0_0, ⟨3, 186, [(.str (.tv 5)), (.int .u8 (.iv 9)), (.int .i64 (.iv 10))]⟩] (.again 0 [(.int .i64 (.un (.wrap .i64) (.bin .sub (.iv 10) (.il 1)))), (.int .u8 (.iv 9)), (.int .u8 (.il 0)), (.int .i64 (.il 0)), (.str (.tl [])), (.str (.tl [])), (.slb 4 0 2 2), (.slc 7 (.nv 14) (.nv 15))] []))
@[reducible] def t_two_3 : Tree := (.frz [dd2_0_0, ⟨3, 186, [(.str (.tv 5)), (.int .u8 (.iv 9)), (.int .i64 (.iv 10))]⟩] (.again 0 [(.int .i64 (.iv 10)), (.int .u8 (.iv 9)), (.int .u8 (.il 0)), (.int .i64 (.il 0)), (.str (.tl [])), (.str (.tl [])), (.slb 4 0 2 2), (.slc 7 (.nv 14) (.nv 15))] []))
@[reducible] def t_two_4 : Tree := (.chk (.bin .le (.il 1) (.nv 8)) (.sub 4 (.il 1) (.nv 8) (.nv 9) 2 (.wr (.grow (.call 109 [(.ptr 0 0), (.int .i64 (.un (.wrap .i64) (.bin .add (.iv 10) (.il 1))))] [⟨0, 142, [(.slc 5 (.nv 10) (.nv 11))]⟩] [] [⟨0, 142, [(.slc 7 (.nv 14) (.nv 15))]⟩] (.agg [(.int .u8 (.iv 11)), (.int .u8 (.iv 12)), (.int .i64 (.iv 13)), (.str (.tv 6)), (.str (.tv 7)), (.slc 6 (.nv 12) (.nv 13))]) kk8 (.grow (.new (.grow (.wr (.br (.bin .ieq (.iv 10) (.il 3)) t_two_2 t_two_3))))))))))
@[reducible] def t_two_5 : Tree := (.new (.wr (.br (.bin .bor (.bin .bor (.un .not (.bv 0)) (.bin .lt (.iv 10) (.iv 0))) (.bin .lt (.iv 4) (.iv 10))) t_two_1 t_two_4)))
@[reducible] def t_two_6 : Tree := (.call 150 [(.str (.tv 4)), (.int .u8 (.il 0))] [] [] [] (.tup [(.agg [(.str (.tv 5)), (.int .u8 (.iv 9)), (.int .i64 (.iv 10))]), (.bool (.bv 0))]) kk11 t_two_5)
@[reducible] def t_two_7 : Tree := (.br (.bin .ieq (.iv 8) (.il 4)) (.look 9 (.elt 4 (.il 0) 2 1) (.str (.tv 4)) kk6 t_two_6) t_two_1)
@[reducible] def t_two_8 : Tree := (.chk (.bin .bor (.un .not (.bin .lt (.il 0) (.nv 8))) (.sm 4)) (.chk (.bin .bor (.un .not (.bin .lt (.il 0) (.nv 8))) (.bin .le (.il 0) (.il 0))) (.chk (.bin .bor (.un .not (.bin .lt (.il 0) (.nv 8))) (.bin .lt (.il 0) (.nv 8))) (.br (.bin .lt (.il 0) (.nv 8)) (.look 5 (.elt 4 (.il 0) 2 0) (.int .u8 (.iv 8)) kk0 t_two_7) t_two_1))))
@[reducible] def t_two_9 : Tree := (.new (.wr (.loop [(.int .i64 (.il 7)), (.int .u8 (.iv 1)), (.int .u8 (.iv 2)), (.int .i64 (.iv 3)), (.str (.tv 0)), (.str (.tv 1)), (.slc 1 (.nv 2) (.nv 3)), (.slc 2 (.nv 4) (.nv 5))] [] [(.int .i64 (.iv 4)), (.int .u8 (.iv 5)), (.int .u8 (.iv 6)), (.int .i64 (.iv 7)), (.str (.tv 2)), (.str (.tv 3)), (.slc 3 (.nv 6) (.nv 7)), (.slc 4 (.nv 8) (.nv 9))] [] ⟨4, 4, 0, 2, 0, 2, 0, 0⟩ t_two_8)))
@[reducible] def t_two : Tree :=
(.new (.call 149 [(.ptr 0 0)] [⟨0, 142, [(.slc 0 (.nv 0) (.nv 1))]⟩] [] [⟨0, 142, [(.slc 2 (.nv 4) (.nv 5))]⟩] (.agg [(.int .u8 (.iv 1)), (.int .u8 (.iv 2)), (.int .i64 (.iv 3)), (.str (.tv 0)), (.str (.tv 1)), (.slc 1 (.nv 2) (.nv 3))]) kk8 t_two_9))
theorem x_two : xfn Tryz.prog { kc with inl := [55, 56, 57, 173, 175, 174], loops := [⟨3, [.tm 6, .cell 2 0, .cell 2 1, .cell 2 2, .cell 2 3, .cell 2 4, .cell 2 5, .cell 0 0]⟩], mu := [(171, [0]), (172, [0]), (149, [0]), (109, [0])], mus := [0] } Tryz.f109 [(.ptr 0 0), (.int .i64 (.iv 0))] [⟨0, 142, [(.slc 0 (.nv 0) (.nv 1))]⟩] [] kk14 = some t_two := by kernel_rfl
theorem vc_two (i0 : Int) (n0 n1 : Nat) (a0 : Option Addr) (m0 : Nat) (W : Wd) (R : Ending → World → Prop) (hm : W.w.heap[m0]? = some (.cells #[.slice a0 n0 n1] 142)) (hI : ¬ W.I m0) (h : t_two.den Tryz.prog W.w.heap.size R [] { I := [i0], N := [n0, n1], A := [a0], M := [m0] } W) : CallsE Tryz.prog 109 #[.pointer (some ⟨m0, 0, none⟩), .int .i64 i0] W R :=
 fn_calls_mu Tryz.func109 _ _ [⟨0, 142, [(.slc 0 (.nv 0) (.nv 1))]⟩] { I := [i0], N := [n0, n1], A := [a0], M := [m0] } _ x_two (fun v hv => by cases hv) (fun b hb => by simp only [List.mem_singleton] at hb; subst hb; exact hm) (fun b hb => by simp only [List.mem_singleton] at hb; subst hb; exact hI) (List.pairwise_singleton _ _) h
@[reducible] def t_depth_1 : Tree := (.frz [⟨1, 56, [(.int .u8 (.iv 5)), (.int .u8 (.iv 6)), (.int .i64 (.iv 7)), (.str (.tv 2)), (.str (.tv 3)), (.slc 1 (.nv 2) (.nv 3))]⟩] (.again 0 [(.int .i64 (.bin .max (.iv 3) (.iv 8))), (.int .i64 (.un (.wrap .i64) (.bin .add (.iv 4) (.il 1))))] []))
@[reducible] def t_depth_2 : Tree := (.new (.wr (.call 52 [dd2_0_2] [] [] [] (.int .i64 (.iv 8)) kk0 t_depth_1)))
@[reducible] def t_depth_3 : Tree := (.chk (.sm 0) (.chk (.bin .le (.il 0) (.iv 4)) (.look 56 (.elt 0 (.iv 4) 6 0) dd2_0_2 kk15 t_depth_2)))
@[reducible] def t_depth_4 : Tree := (.br (.bin .lt (.iv 4) (.nv 0)) t_depth_3 (.ret (.int .i64 (.un (.wrap .i64) (.bin .add (.iv 3) (.il 1)))) [] [] []))
@[reducible] def t_depth : Tree :=
(.new (.loop [(.int .i64 (.il 0)), (.int .i64 (.il 0))] [] [(.int .i64 (.iv 3)), (.int .i64 (.iv 4))] [] kk7 t_depth_4))
theorem x_depth : xfn Tryz.prog { kc with inl := [55, 56, 57, 173, 175, 174], loops := [⟨3, [.tm 3, .tm 9]⟩], mu := [(171, [0]), (172, [0]), (149, [0]), (109, [0])] } Tryz.f52 [(.agg [(.int .u8 (.iv 0)), (.int .u8 (.iv 1)), (.int .i64 (.iv 2)), (.str (.tv 0)), (.str (.tv 1)), (.slc 0 (.nv 0) (.nv 1))])] [] [] kk15 = some t_depth := by kernel_rfl
theorem vc_depth (i0 i1 i2 : Int) (n0 n1 : Nat) (t0 t1 : ByteArray) (a0 : Option Addr) (W : Wd) (R : Ending → World → Prop) (h : t_depth.den Tryz.prog W.w.heap.size R [] { I := [i0, i1, i2], N := [n0, n1], T := [t0, t1], A := [a0] } W) : CallsE Tryz.prog 52 #[.agg #[.int .u8 i0, .int .u8 i1, .int .i64 i2, .string t0, .string t1, .slice a0 n0 n1]] W R :=
 fn_calls Tryz.func52 _ _ { I := [i0, i1, i2], N := [n0, n1], T := [t0, t1], A := [a0] } _ x_depth (fun v hv => by cases hv) h
end Go.Proofs.YtkpjmlnhhggenaaGreatDoor
end
section
/- The contracts of package parse: the operator of a sign, taking a sign. -/
namespace Go.Proofs.YtkpjmlnhhggenaaGreatDoor
open Go Go.RowKit Go.SF
theorem ext_but {W W' : Wd} (x : Ext W W') {m : Nat} (h : ¬ W.I m) : Ext W (W'.but [m]) :=
 ⟨x.size, fun b hb => ⟨W'.lt b (x.sub b hb), fun hm => by rw [List.mem_singleton] at hm; subst hm; exact h hb⟩, x.keep, x.os, x.tape, x.output⟩
theorem ext_trans {W W' W'' : Wd} (x : Ext W W') (y : Ext W' W'') : Ext W W'' :=
 ⟨Nat.le_trans x.size y.size, fun b hb => y.sub b (x.sub b hb), fun b hb => (y.keep b (x.sub b hb)).trans (x.keep b hb), y.os.trans x.os, y.tape.trans x.tape, y.output.trans x.output⟩
def bindV : Option (Lx.Bs × Int × Int) → Value
 | some b => .tuple #[.agg #[.string ⟨b.1.toArray⟩, .int .u8 b.2.1, .int .i64 b.2.2], .bool true]
 | none => .tuple #[.agg #[.string ⟨#[]⟩, .int .u8 0, .int .i64 0], .bool false]
theorem by_q (t : ByteArray) (o : Int) (W : Wd) : CallsQ Tryz.prog 150 #[.string t, .int .u8 o] W (bindV (Px.by_ t.data.toList o)) := by
 refine vc_by o t W.all _ ?_
 refine den_new fun _ _ _ _ => den_new fun _ _ _ _ => den_new fun _ _ _ _ => den_grow fun _ _ => den_new fun _ _ _ _ => den_wr fun _ _ => ?_
 unfold Px.by_ Px.binds
 refine den_br (fun c => den_grow fun _ _ => den_wr fun _ _ => den_ret fun _ _ _ => ⟨_, rfl, ?_⟩) fun c => ?_
 ·simp only [zE] at c
  have c : (([124] : List UInt8) == t.data.toList || ((14 : Int) == o)) = true := c
  rw [List.find?_cons, c]; rfl
 have c1 : (([124] : List UInt8) == t.data.toList || ((14 : Int) == o)) = false := c
 rw [List.find?_cons, c1]
 refine den_br (fun c => den_grow fun _ _ => den_wr fun _ _ => den_ret fun _ _ _ => ⟨_, rfl, ?_⟩) fun c => ?_
 ·have c : (([38] : List UInt8) == t.data.toList || ((13 : Int) == o)) = true := c
  rw [List.find?_cons, c]; rfl
 have c2 : (([38] : List UInt8) == t.data.toList || ((13 : Int) == o)) = false := c
 rw [List.find?_cons, c2]
 refine den_br (fun c => den_grow fun _ _ => den_wr fun _ _ => den_ret fun _ _ _ => ⟨_, rfl, ?_⟩) fun c => ?_
 ·have c : (([60] : List UInt8) == t.data.toList || ((9 : Int) == o)) = true := c
  rw [List.find?_cons, c]; rfl
 have c3 : (([60] : List UInt8) == t.data.toList || ((9 : Int) == o)) = false := c
 rw [List.find?_cons, c3]
 refine den_br (fun c => den_grow fun _ _ => den_wr fun _ _ => den_ret fun _ _ _ => ⟨_, rfl, ?_⟩) fun c => ?_
 ·have c : (([60, 61] : List UInt8) == t.data.toList || ((10 : Int) == o)) = true := c
  rw [List.find?_cons, c]; rfl
 have c4 : (([60, 61] : List UInt8) == t.data.toList || ((10 : Int) == o)) = false := c
 rw [List.find?_cons, c4]
 refine den_br (fun c => den_grow fun _ _ => den_wr fun _ _ => den_ret fun _ _ _ => ⟨_, rfl, ?_⟩) fun c => ?_
 ·have c : (([61, 61] : List UInt8) == t.data.toList || ((11 : Int) == o)) = true := c
  rw [List.find?_cons, c]; rfl
 have c5 : (([61, 61] : List UInt8) == t.data.toList || ((11 : Int) == o)) = false := c
 rw [List.find?_cons, c5]
 refine den_br (fun c => den_grow fun _ _ => den_wr fun _ _ => den_ret fun _ _ _ => ⟨_, rfl, ?_⟩) fun c => ?_
 ·have c : (([33, 61] : List UInt8) == t.data.toList || ((12 : Int) == o)) = true := c
  rw [List.find?_cons, c]; rfl
 have c6 : (([33, 61] : List UInt8) == t.data.toList || ((12 : Int) == o)) = false := c
 rw [List.find?_cons, c6]
 refine den_br (fun c => den_grow fun _ _ => den_wr fun _ _ => den_ret fun _ _ _ => ⟨_, rfl, ?_⟩) fun c => ?_
 ·have c : (([43] : List UInt8) == t.data.toList || ((8 : Int) == o)) = true := c
  rw [List.find?_cons, c]; rfl
 have c7 : (([43] : List UInt8) == t.data.toList || ((8 : Int) == o)) = false := c
 rw [List.find?_cons, c7]
 refine den_br (fun c => den_grow fun _ _ => den_wr fun _ _ => den_ret fun _ _ _ => ⟨_, rfl, ?_⟩) fun c => ?_
 ·have c : (([45] : List UInt8) == t.data.toList || ((15 : Int) == o)) = true := c
  rw [List.find?_cons, c]; rfl
 have c8 : (([45] : List UInt8) == t.data.toList || ((15 : Int) == o)) = false := c
 rw [List.find?_cons, c8]
 refine den_br (fun c => den_grow fun _ _ => den_wr fun _ _ => den_ret fun _ _ _ => ⟨_, rfl, ?_⟩) fun c => ?_
 ·have c : (([42] : List UInt8) == t.data.toList || ((5 : Int) == o)) = true := c
  rw [List.find?_cons, c]; rfl
 have c9 : (([42] : List UInt8) == t.data.toList || ((5 : Int) == o)) = false := c
 rw [List.find?_cons, c9]
 refine den_br (fun c => den_grow fun _ _ => den_wr fun _ _ => den_ret fun _ _ _ => ⟨_, rfl, ?_⟩) fun c => ?_
 ·have c : (([47] : List UInt8) == t.data.toList || ((6 : Int) == o)) = true := c
  rw [List.find?_cons, c]; rfl
 have c10 : (([47] : List UInt8) == t.data.toList || ((6 : Int) == o)) = false := c
 rw [List.find?_cons, c10]
 refine den_br (fun c => den_grow fun _ _ => den_wr fun _ _ => den_ret fun _ _ _ => ⟨_, rfl, ?_⟩) fun c => ?_
 ·have c : (([37] : List UInt8) == t.data.toList || ((7 : Int) == o)) = true := c
  rw [List.find?_cons, c]; rfl
 have c11 : (([37] : List UInt8) == t.data.toList || ((7 : Int) == o)) = false := c
 rw [List.find?_cons, c11]
 ·refine den_grow fun _ _ => den_wr fun _ _ => den_ret fun _ _ _ => ⟨_, rfl, ?_⟩
  rfl
def TokSub (a : Option Addr) (c : Nat) (ts : List Lx.Tok) (a' : Option Addr) (c' : Nat) (r : List Lx.Tok) : Prop := ∀ W : Wd, Toks W a c ts → Toks W a' c' r
theorem TokSub.refl (a : Option Addr) (c : Nat) (ts : List Lx.Tok) : TokSub a c ts a c ts := fun _ h => h
theorem TokSub.trans {a a' a'' : Option Addr} {c c' c'' : Nat} {ts r s : List Lx.Tok} (h : TokSub a c ts a' c' r) (k : TokSub a' c' r a'' c'' s) : TokSub a c ts a'' c'' s := fun W x => k W (h W x)
theorem toks_tail (a : Option Addr) (c : Nat) (t : Lx.Tok) (r : List Lx.Tok) : TokSub a c (t :: r) (subA a 1 c 2) (c - 1) r := by
 intro W h
 obtain ⟨h1, h2, h3⟩ := h
 rcases h3 with ⟨_, h, _⟩ | ⟨b, o, rfl, hI, hb, hc⟩
 ·simp at h
 ·refine ⟨toksC_len r, by simp at h2 ⊢; omega, .inr ?_⟩
  by_cases hc1 : c = 1
  ·subst hc1
   have hr : r = [] := by cases r with
    | nil => rfl
    | cons _ _ => simp at h2
   subst hr
   exact ⟨b, o, by simp [subA], hI, hb, fun j u hu => by simp [toksC] at hu⟩
  ·refine ⟨b, o + 2, by simp [subA, hc1, Addr.add], hI, hb, fun j u hu => ?_⟩
   have := hc (j + 2) u (by rw [show toksC (t :: r) = tokC t ++ toksC r from rfl, List.getElem?_append_right (by rw [tokC_len]; omega), tokC_len]; simpa using hu)
   rw [show o + 2 + j = o + (j + 2) from by omega]; exact this
theorem u8_aggP : aggT Tryz.prog 5 = some false := by kernel_rfl
theorem str_aggP : aggT Tryz.prog 9 = some false := by kernel_rfl
theorem tok_aggP : aggT Tryz.prog 135 = some true := by kernel_rfl
theorem tok_sizeP : sizeT Tryz.prog 135 = some 2 := by kernel_rfl
def bad : List PanicEntry := [{ v := .iface 139 (.agg #[]), recovered := false }]
def SignEnd (m : Nat) (a : Option Addr) (c : Nat) (ts : List Lx.Tok) (s : Lx.Bs) (e : Ending) (w' : World) : Prop :=
 ∃ a' c' r b, e = .returned (.bool b) ∧ w'.heap[m]? = some (.cells #[.slice a' r.length c'] 142) ∧ TokSub a c ts a' c' r ∧ ((b = true ∧ Px.sign s ts = some r) ∨ (b = false ∧ Px.sign s ts = none ∧ r = ts))
theorem sign_e (m : Nat) (a : Option Addr) (c : Nat) (ts : List Lx.Tok) (s : ByteArray) (W : Wd) (hm : W.w.heap[m]? = some (.cells #[.slice a ts.length c] 142)) (hI : ¬ W.I m) (hT : Toks W a c ts) :
  CallsE Tryz.prog 171 #[.pointer (some ⟨m, 0, none⟩), .string s] W (SignEnd m a c ts s.data.toList) := by
 refine vc_sign ts.length c s a m W _ hm hI ?_
 cases ts with
 | nil =>
  refine den_chk rfl (den_chk rfl (den_chk rfl (den_br (fun c0 => ?_) fun _ => den_ret fun hb _ _ => ?_)))
  ·cases c0
  ·exact ⟨a, c, [], false, rfl, hb _ (List.mem_singleton.2 rfl), TokSub.refl _ _ _, .inr ⟨rfl, rfl, rfl⟩⟩
 | cons t r =>
  have hx : (t :: r)[0]? = some t := rfl
  have hS := SlI.some_of hT (by simp)
  refine den_chk ?_ (den_chk ?_ (den_chk ?_ (den_br (fun _ => den_look ⟨t.k, fun W' x => ?_, ?_⟩) fun c0 => ?_)))
  ·simp only [zE]; rw [hS]; simp
  ·simp [Sy.dens, Sy.den, E.i, E.b, E.t, gd, Env.push, z_a, z_b, z_c, z_d, leB]
  ·simp only [zE]; rw [ltB_t (by simp only [List.length_cons]; omega)]; simp
  ·exact sl_look_f (P := Tryz.prog) tokC_len hT u8_aggP (k := 0) hx (by decide) (u := .int .u8 t.k) rfl x
  ·simp only [zP]
   refine den_br (fun c1 => den_look ⟨⟨t.t.toArray⟩, fun W' x => ?_, ?_⟩) fun c1 => den_ret fun hb _ _ => ?_
   ·exact sl_look_f (P := Tryz.prog) tokC_len hT str_aggP (k := 1) hx (by decide) (u := .string ⟨t.t.toArray⟩) rfl x
   ·simp only [zP]
    have hk : t.k = 4 := by simpa [Sy.dens, Sy.den, E.i, E.b, E.t, gd, Env.push, z_a, z_b, z_c, z_d] using c1
    refine den_br (fun c2 => den_ret fun hb _ _ => ?_) fun c2 => ?_
    ·have hne : ¬ t.t = s.data.toList := by simpa [Sy.dens, Sy.den, E.i, E.b, E.t, gd, Env.push, z_a, z_b, z_c, z_d] using c2
     exact ⟨a, c, t :: r, false, rfl, hb _ (List.mem_singleton.2 rfl), TokSub.refl _ _ _, .inr ⟨rfl, by simp [Px.sign, hne], rfl⟩⟩
    ·have he : t.t = s.data.toList := by simpa [Sy.dens, Sy.den, E.i, E.b, E.t, gd, Env.push, z_a, z_b, z_c, z_d] using c2
     refine den_chk ?_ (den_sub (den_wr fun _ _ => den_ret fun hb _ _ => ?_))
     ·simp only [zE]; exact leB_t (by simp only [List.length_cons]; omega)
     ·refine ⟨subA a 1 c 2, c - 1, r, true, rfl, ?_, toks_tail a c t r, .inl ⟨rfl, by simp [Px.sign, he, hk]⟩⟩
      have := hb _ (List.mem_singleton.2 rfl)
      simpa [Sy.dens, Sy.den, E.i, E.b, E.t, gd, Env.push, z_a, z_b, z_c, z_d, Blk.at] using this
   ·have hk : ¬ t.k = 4 := by simpa [Sy.dens, Sy.den, E.i, E.b, E.t, gd, Env.push, z_a, z_b, z_c, z_d] using c1
    exact ⟨a, c, t :: r, false, rfl, hb _ (List.mem_singleton.2 rfl), TokSub.refl _ _ _, .inr ⟨rfl, by simp [Px.sign, hk], rfl⟩⟩
  ·simp [Sy.dens, Sy.den, E.i, E.b, E.t, gd, Env.push, z_a, z_b, z_c, z_d] at c0
   omega
end Go.Proofs.YtkpjmlnhhggenaaGreatDoor
end
section
/- Trees in memory; a sign that must be there. -/
namespace Go.Proofs.YtkpjmlnhhggenaaGreatDoor
open Go Go.RowKit Go.SF
def exV (op k n : Int) (t nm : Lx.Bs) (a : Option Addr) (len c : Nat) : List Value := [.int .u8 op, .int .u8 k, .int .i64 n, .string ⟨t.toArray⟩, .string ⟨nm.toArray⟩, .slice a len c]
mutual
def ExAt (w : World) (J : Nat → Prop) : Px.Ex → List Value → Prop
 | .mk op k n t nm args, vs => ∃ a c ls, vs = exV op k n t nm a args.length c ∧ SlAt w J a args.length c 6 ls ∧ ExsAt w J args ls
def ExsAt (w : World) (J : Nat → Prop) : List Px.Ex → List Value → Prop
 | [], ls => ls = []
 | e :: l, ls => ∃ x m, ls = x ++ m ∧ ExAt w J e x ∧ ExsAt w J l m
end
theorem SlAt.move {w w' : World} {J J' : Nat → Prop} (hj : ∀ b, J b → b < w.heap.size → J' b ∧ w'.heap[b]? = w.heap[b]?) {a : Option Addr} {n c sz : Nat} {xs : List Value} (h : SlAt w J a n c sz xs) : SlAt w' J' a n c sz xs := by
 obtain ⟨h1, h2, h3⟩ := h
 refine ⟨h1, h2, h3.imp id ?_⟩
 rintro ⟨b, o, e, hI, hb, hc⟩
 obtain ⟨k1, k2⟩ := hj b hI hb
 refine ⟨b, o, e, k1, ?_, fun j u hu => by rw [World.cell?_of_block (w := w) k2]; exact hc j u hu⟩
 rw [Array.getElem?_eq_getElem hb] at k2
 exact (Array.getElem?_eq_some_iff.1 k2).1
mutual
theorem ExAt.move {w w' : World} {J J' : Nat → Prop} (hj : ∀ b, J b → b < w.heap.size → J' b ∧ w'.heap[b]? = w.heap[b]?) : ∀ {e : Px.Ex} {vs : List Value}, ExAt w J e vs → ExAt w' J' e vs
 | .mk op k n t nm args, vs, h => by
  simp only [ExAt] at h ⊢
  obtain ⟨a, c, ls, h1, h2, h3⟩ := h
  exact ⟨a, c, ls, h1, SlAt.move hj h2, ExsAt.move hj h3⟩
theorem ExsAt.move {w w' : World} {J J' : Nat → Prop} (hj : ∀ b, J b → b < w.heap.size → J' b ∧ w'.heap[b]? = w.heap[b]?) : ∀ {l : List Px.Ex} {ls : List Value}, ExsAt w J l ls → ExsAt w' J' l ls
 | [], ls, h => by simp only [ExsAt] at h ⊢; exact h
 | e :: l, ls, h => by
  simp only [ExsAt] at h ⊢
  obtain ⟨x, m, h1, h2, h3⟩ := h
  exact ⟨x, m, h1, ExAt.move hj h2, ExsAt.move hj h3⟩
end
def ExS (W : Wd) (n0 : Nat) (e : Px.Ex) (vs : List Value) : Prop := ExAt W.w (fun b => W.I b ∧ n0 ≤ b) e vs
theorem ExS.ext {W W' : Wd} {n0 : Nat} {e : Px.Ex} {vs : List Value} (h : ExS W n0 e vs) (x : Ext W W') : ExS W' n0 e vs :=
 ExAt.move (fun b hb _ => ⟨⟨x.sub b hb.1, hb.2⟩, x.keep b hb.1⟩) h
theorem ExAt.stay {W : Wd} {w : World} {n0 n1 : Nat} {e : Px.Ex} {vs : List Value} (h : ExAt w (fun b => n1 ≤ b) e vs) (hw : W.w = w) (hn : NewIn n1 W) (h0 : n0 ≤ n1) : ExS W n0 e vs := by
 subst hw
 exact ExAt.move (fun b hb hl => ⟨⟨hn b hb hl, Nat.le_trans h0 hb⟩, rfl⟩) h
theorem ExS.new {W : Wd} {n0 : Nat} {e : Px.Ex} {vs : List Value} (h : ExS W n0 e vs) : ExAt W.w (fun b => n0 ≤ b) e vs := ExAt.move (fun b hb _ => ⟨hb.2, rfl⟩) h
theorem ExAt.len {w : World} {J : Nat → Prop} {e : Px.Ex} {vs : List Value} (h : ExAt w J e vs) : vs.length = 6 := by
 cases e
 simp only [ExAt] at h
 obtain ⟨a, c, ls, rfl, _⟩ := h
 rfl
theorem ExAt.shape {w : World} {J : Nat → Prop} {e : Px.Ex} {vs : List Value} (h : ExAt w J e vs) : ∃ (op k n : Int) (t nm : ByteArray) (a : Option Addr) (len c : Nat), vs = [.int .u8 op, .int .u8 k, .int .i64 n, .string t, .string nm, .slice a len c] := by
 cases e
 simp only [ExAt] at h
 obtain ⟨a, c, ls, rfl, _⟩ := h
 exact ⟨_, _, _, _, _, _, _, _, rfl⟩
theorem ExAt.leaf (w : World) (J : Nat → Prop) (op k n : Int) (t nm : Lx.Bs) : ExAt w J (.mk op k n t nm []) (exV op k n t nm none 0 0) := by
 simp only [ExAt, ExsAt]
 exact ⟨none, 0, [], rfl, SlAt.nil _ _ _, rfl⟩
theorem blk_slJ {w : World} {J : Nat → Prop} {b : Nat} {cs : List Value} {ty : TypeId} (h : w.heap[b]? = some (.cells cs.toArray ty)) (hJ : J b) {n sz : Nat} (hl : cs.length = n * sz) : SlAt w J (some ⟨b, 0, none⟩) n n sz cs := by
 refine ⟨hl, Nat.le_refl _, .inr ⟨b, 0, rfl, hJ, (Array.getElem?_eq_some_iff.1 h).1, fun j u hu => ?_⟩⟩
 simp [World.cell?, h, hu]
theorem ExAt.one {w : World} {J : Nat → Prop} {b : Nat} {x : Px.Ex} {vs : List Value} {ty : TypeId} (h : w.heap[b]? = some (.cells vs.toArray ty)) (hJ : J b) (hx : ExAt w J x vs) (o : Int) : ExAt w J (Px.op1 o x) (exV o 0 0 [] [] (some ⟨b, 0, none⟩) 1 1) := by
 simp only [Px.op1, ExAt, ExsAt]
 exact ⟨_, 1, vs, rfl, blk_slJ h hJ (by rw [hx.len]; simp), vs, [], by simp, hx, rfl⟩
theorem ExAt.two {w : World} {J : Nat → Prop} {b : Nat} {x y : Px.Ex} {vs us : List Value} {ty : TypeId} (h : w.heap[b]? = some (.cells (vs ++ us).toArray ty)) (hJ : J b) (hx : ExAt w J x vs) (hy : ExAt w J y us) (o : Int) : ExAt w J (Px.op2 o x y) (exV o 0 0 [] [] (some ⟨b, 0, none⟩) 2 2) := by
 simp only [Px.op2, ExAt, ExsAt]
 exact ⟨_, 2, vs ++ us, rfl, blk_slJ h hJ (by rw [List.length_append, hx.len, hy.len]; simp), vs, us, rfl, hx, us, [], by simp, hy, rfl⟩
def MustEnd (m : Nat) (a : Option Addr) (c : Nat) (ts : List Lx.Tok) (s : Lx.Bs) (e : Ending) (w' : World) : Prop := match Px.sign s ts with
 | none => e = .panicked bad
 | some r => ∃ a' c', e = .returned (.tuple #[]) ∧ w'.heap[m]? = some (.cells #[.slice a' r.length c'] 142) ∧ TokSub a c ts a' c' r
theorem but_not (W : Wd) (m : Nat) : ¬ (W.but [m]).I m := fun h => h.2 (List.mem_singleton.2 rfl)
theorem must_e (m : Nat) (a : Option Addr) (c : Nat) (ts : List Lx.Tok) (s : ByteArray) (W : Wd) (hm : W.w.heap[m]? = some (.cells #[.slice a ts.length c] 142)) (hI : ¬ W.I m) (hT : Toks W a c ts) :
  CallsE Tryz.prog 172 #[.pointer (some ⟨m, 0, none⟩), .string s] W (MustEnd m a c ts s.data.toList) := by
 refine vc_must ts.length c s a m W _ hm hI ?_
 refine den_call fun hb _ => CallsE.mono (sign_e m a c ts s (W.but [m]) hm (but_not W m) (hT.ext (ext_but (Ext.refl W) hI))) fun e w' hk ⟨a1, c1, r1, b1, he, hh, hs, hc⟩ => ?_
 subst he
 refine ⟨r1.length, c1, b1, a1, rfl, fun b hb => by obtain rfl := List.mem_singleton.1 hb; exact hh, fun W2 e2 x2 n2 => ?_⟩
 simp only [zP]
 refine den_br (fun c => den_pan ?_) fun c => den_ret fun hb _ _ => ?_
 ·have c : b1 = false := by simpa [Sy.dens, Sy.den, E.i, E.b, E.t, gd, Env.push, z_a, z_b, z_c, z_d] using c
  rcases hc with ⟨hc, _⟩ | ⟨_, hc, _⟩
  ·rw [c] at hc; cases hc
  ·unfold MustEnd; rw [hc]; rfl
 ·have c : b1 = true := by simpa [Sy.dens, Sy.den, E.i, E.b, E.t, gd, Env.push, z_a, z_b, z_c, z_d] using c
  rcases hc with ⟨_, hc⟩ | ⟨hc, _⟩
  ·unfold MustEnd; rw [hc]
   exact ⟨a1, c1, rfl, hb _ (List.mem_singleton.2 rfl), hs⟩
  ·rw [c] at hc; cases hc
end Go.Proofs.YtkpjmlnhhggenaaGreatDoor
end
section
/- Reading: a prefix or an atom, what is put together by operators. -/
namespace Go.Proofs.YtkpjmlnhhggenaaGreatDoor
open Go Go.RowKit Go.SF
def TsOk (ts : List Lx.Tok) : Prop := ∀ t ∈ ts, Lx.may t.k t.t = true ∧ t.t.length ≤ 100
theorem TsOk.less {ts r : List Lx.Tok} (h : TsOk ts) (k : ∃ k, r = ts.drop k) : TsOk r := by
 obtain ⟨k, rfl⟩ := k
 exact fun t ht => h t (List.mem_of_mem_drop ht)
theorem TsOk.tail {t : Lx.Tok} {r : List Lx.Tok} (h : TsOk (t :: r)) : TsOk r := fun u hu => h u (List.mem_cons_of_mem _ hu)
def RdEnd (n0 m : Nat) (a : Option Addr) (c : Nat) (ts : List Lx.Tok) (o : Option (Px.Ex × List Lx.Tok)) (e : Ending) (w' : World) : Prop := match o with
 | none => e = .panicked bad
 | some p => ∃ a' c' vs, e = .returned (.agg vs.toArray) ∧ ExAt w' (fun b => n0 ≤ b) p.1 vs ∧ w'.heap[m]? = some (.cells #[.slice a' p.2.length c'] 142) ∧ TokSub a c ts a' c' p.2
theorem RdEnd.out {n0 m : Nat} {a : Option Addr} {c : Nat} {ts : List Lx.Tok} {o : Option (Px.Ex × List Lx.Tok)} {e : Ending} {w' : World} (h : RdEnd n0 m a c ts o e w') : (o = none ∧ e = .panicked bad) ∨
  ∃ x r a' c' op k n t nm al len cl, o = some (x, r) ∧ e = .returned (.agg #[.int .u8 op, .int .u8 k, .int .i64 n, .string t, .string nm, .slice al len cl]) ∧ ExAt w' (fun b => n0 ≤ b) x [.int .u8 op, .int .u8 k, .int .i64 n, .string t, .string nm, .slice al len cl] ∧ w'.heap[m]? = some (.cells #[.slice a' r.length c'] 142) ∧ TokSub a c ts a' c' r := by
 cases o with
 | none => exact .inl ⟨rfl, h⟩
 | some p =>
  obtain ⟨a', c', vs, he, hx, hh, hs⟩ := h
  obtain ⟨op, k, n, t, nm, al, len, cl, rfl⟩ := hx.shape
  exact .inr ⟨p.1, p.2, a', c', op, k, n, t, nm, al, len, cl, rfl, he, hx, hh, hs⟩
theorem MustEnd.out {m : Nat} {a : Option Addr} {c : Nat} {ts : List Lx.Tok} {s : Lx.Bs} {e : Ending} {w' : World} (h : MustEnd m a c ts s e w') : (Px.sign s ts = none ∧ e = .panicked bad) ∨
  ∃ r a' c', Px.sign s ts = some r ∧ e = .returned (.tuple #[]) ∧ w'.heap[m]? = some (.cells #[.slice a' r.length c'] 142) ∧ TokSub a c ts a' c' r := by
 unfold MustEnd at h
 cases hs : Px.sign s ts with
 | none => rw [hs] at h; exact .inl ⟨rfl, h⟩
 | some r => rw [hs] at h; obtain ⟨a', c', h1, h2, h3⟩ := h; exact .inr ⟨r, a', c', rfl, h1, h2, h3⟩
def OneOk (n : Nat) : Prop := ∀ (m : Nat) (a : Option Addr) (c : Nat) (ts : List Lx.Tok) (W : Wd), W.w.heap[m]? = some (.cells #[.slice a ts.length c] 142) → ¬ W.I m → Toks W a c ts → Glob W → TsOk ts → 3 * ts.length + 1 ≤ n →
 CallsE Tryz.prog 149 #[.pointer (some ⟨m, 0, none⟩)] W (RdEnd W.w.heap.size m a c ts (Px.one n ts))
def TwoOk (n : Nat) : Prop := ∀ (much : Int) (m : Nat) (a : Option Addr) (c : Nat) (ts : List Lx.Tok) (W : Wd), W.w.heap[m]? = some (.cells #[.slice a ts.length c] 142) → ¬ W.I m → Toks W a c ts → Glob W → TsOk ts → 3 * ts.length + 2 ≤ n →
 CallsE Tryz.prog 109 #[.pointer (some ⟨m, 0, none⟩), .int .i64 much] W (RdEnd W.w.heap.size m a c ts (Px.two n much ts))
theorem sign_cons {s : Lx.Bs} {t : Lx.Tok} {r q : List Lx.Tok} (h : Px.sign s (t :: r) = some q) : t.k = 4 ∧ t.t = s ∧ q = r := by
 simp only [Px.sign] at h
 split at h
 ·rename_i hk; exact ⟨hk.1, hk.2, (Option.some.inj h).symm⟩
 ·cases h
theorem sign_not {s : Lx.Bs} {t : Lx.Tok} {r : List Lx.Tok} (h : Px.sign s (t :: r) = none) (hk : t.k = 4) : ¬ t.t = s := by
 intro e
 simp [Px.sign, hk, e] at h
theorem one_ok (n : Nat) (ih : OneOk n) (ih2 : TwoOk n) : OneOk (n + 1) := by
 intro m a c ts W hm hI hT hG hts hn
 refine vc_one ts.length c a m W _ hm hI ?_
 refine den_new fun m1 W1 _ x1 => den_call fun hb _ => CallsE.mono (sign_e m a c ts ⟨#[45]⟩ (W1.but [m]) (hb _ (List.mem_singleton.2 rfl)) (but_not W1 m) (hT.ext (ext_but x1 hI))) fun e w' hk ⟨a1, c1, r1, b1, he, hh, hs1, hc1⟩ => ?_
 subst he
 refine ⟨r1.length, c1, b1, a1, rfl, fun b hb => by obtain rfl := List.mem_singleton.1 hb; exact hh, fun W2 e2 y2 n2 => ?_⟩
 have x2 := ext_trans x1 y2
 simp only [zP]
 refine den_br (fun cb1 => ?_) fun cb1 => ?_
 ·-- '-'
  have hc : Px.sign [45] ts = some r1 := by
   rcases hc1 with ⟨_, h⟩ | ⟨h, _⟩
   ·exact h
   ·rw [show b1 = true from cb1] at h; cases h
  cases ts with
  | nil => cases hc
  | cons t r =>
   obtain ⟨h4, ht, rfl⟩ := sign_cons hc
   have hP : Px.one (n + 1) (t :: r1) = (Px.one n r1).map fun p => (Px.op1 3 p.1, p.2) := by simp [Px.one, h4, ht]
   refine den_call fun hb _ => CallsE.mono (ih m a1 c1 r1 (W2.but [m]) (hb _ (List.mem_singleton.2 rfl)) (but_not W2 m) ((hs1 W hT).ext (ext_but x2 hI)) (hG.ext (ext_but x2 hI)) hts.tail (by simp only [List.length_cons] at hn; omega)) fun e w' hk hE => ?_
   rcases hE.out with ⟨ho, rfl⟩ | ⟨x, r, a', c', op, k, nn, t', nm, al, len, cl, ho, rfl, hx, hh, hs⟩
   ·rw [hP, ho]; rfl
   ·refine ⟨op, k, nn, len, cl, r.length, c', t', nm, al, a', rfl, fun b hb => by obtain rfl := List.mem_singleton.1 hb; exact hh, fun W3 e3 y3 n3 => ?_⟩
    have x3 := ext_trans x2 y3
    have hX := ExAt.stay hx e3 n3 (by exact x2.size)
    simp only [zP]
    refine den_new fun m2 W4 hm2 x4 => den_wr fun W5 x5 => den_ret fun hb _ _ => ?_
    rw [hP, ho]
    have h1 := hb _ (List.mem_cons_self ..)
    have h2 := hb _ (List.mem_cons_of_mem _ (List.mem_cons_self ..))
    exact ⟨a', c', _, rfl, ExAt.one h1 hm2 ((hX.ext x4).ext x5).new 3, h2, hs1.trans hs⟩
 have hn1 : Px.sign [45] ts = none ∧ r1 = ts := by
  rcases hc1 with ⟨h, _⟩ | ⟨_, h⟩
  ·rw [show b1 = false from cb1] at h; cases h
  ·exact h
 obtain ⟨hn1, rfl⟩ := hn1
 have hT1 := hs1 W hT
 refine den_call fun hb _ => CallsE.mono (sign_e m a1 c1 r1 ⟨#[33]⟩ (W2.but [m]) (hb _ (List.mem_singleton.2 rfl)) (but_not W2 m) (hT1.ext (ext_but x2 hI))) fun e w' hk ⟨a2, c2, r2, b2, he, hh, hs2, hc2⟩ => ?_
 subst he
 refine ⟨r2.length, c2, b2, a2, rfl, fun b hb => by obtain rfl := List.mem_singleton.1 hb; exact hh, fun W3 e3 y3 n3 => ?_⟩
 have x3 := ext_trans x2 y3
 simp only [zP]
 refine den_br (fun cb2 => ?_) fun cb2 => ?_
 ·-- '!'
  have hc : Px.sign [33] r1 = some r2 := by
   rcases hc2 with ⟨_, h⟩ | ⟨h, _⟩
   ·exact h
   ·rw [show b2 = true from cb2] at h; cases h
  cases r1 with
  | nil => cases hc
  | cons t r =>
   obtain ⟨h4, ht, rfl⟩ := sign_cons hc
   have hP : Px.one (n + 1) (t :: r2) = (Px.one n r2).map fun p => (Px.op1 4 p.1, p.2) := by simp [Px.one, h4, ht]
   refine den_call fun hb _ => CallsE.mono (ih m a2 c2 r2 (W3.but [m]) (hb _ (List.mem_singleton.2 rfl)) (but_not W3 m) ((hs2 W hT1).ext (ext_but x3 hI)) (hG.ext (ext_but x3 hI)) hts.tail (by simp only [List.length_cons] at hn; omega)) fun e w' hk hE => ?_
   rcases hE.out with ⟨ho, rfl⟩ | ⟨x, r, a', c', op, k, nn, t', nm, al, len, cl, ho, rfl, hx, hh, hs⟩
   ·rw [hP, ho]; rfl
   ·refine ⟨op, k, nn, len, cl, r.length, c', t', nm, al, a', rfl, fun b hb => by obtain rfl := List.mem_singleton.1 hb; exact hh, fun W4 e4 y4 n4 => ?_⟩
    have x4 := ext_trans x3 y4
    have hX := ExAt.stay hx e4 n4 (by exact x3.size)
    simp only [zP]
    refine den_new fun m2 W5 hm2 x5 => den_wr fun W6 x6 => den_ret fun hb _ _ => ?_
    rw [hP, ho]
    have h1 := hb _ (List.mem_cons_self ..)
    have h2 := hb _ (List.mem_cons_of_mem _ (List.mem_cons_self ..))
    exact ⟨a', c', _, rfl, ExAt.one h1 hm2 ((hX.ext x5).ext x6).new 4, h2, (hs1.trans hs2).trans hs⟩
 have hn2 : Px.sign [33] r1 = none ∧ r2 = r1 := by
  rcases hc2 with ⟨h, _⟩ | ⟨_, h⟩
  ·rw [show b2 = false from cb2] at h; cases h
  ·exact h
 obtain ⟨hn2, rfl⟩ := hn2
 have hT2 := hs2 W hT1
 refine den_call fun hb _ => CallsE.mono (sign_e m a2 c2 r2 ⟨#[40]⟩ (W3.but [m]) (hb _ (List.mem_singleton.2 rfl)) (but_not W3 m) (hT2.ext (ext_but x3 hI))) fun e w' hk ⟨a3, c3, r3, b3, he, hh, hs3, hc3⟩ => ?_
 subst he
 refine ⟨r3.length, c3, b3, a3, rfl, fun b hb => by obtain rfl := List.mem_singleton.1 hb; exact hh, fun W4 e4 y4 n4 => ?_⟩
 have x4 := ext_trans x3 y4
 simp only [zP]
 refine den_br (fun cb3 => ?_) fun cb3 => ?_
 ·-- '('
  have hc : Px.sign [40] r2 = some r3 := by
   rcases hc3 with ⟨_, h⟩ | ⟨h, _⟩
   ·exact h
   ·rw [show b3 = true from cb3] at h; cases h
  cases r2 with
  | nil => cases hc
  | cons t r =>
   obtain ⟨h4, ht, rfl⟩ := sign_cons hc
   have hP : Px.one (n + 1) (t :: r3) = (Px.two n 1 r3).bind fun p => (Px.sign [41] p.2).map fun q => (p.1, q) := by simp [Px.one, h4, ht]
   refine den_call fun hb _ => CallsE.mono (ih2 1 m a3 c3 r3 (W4.but [m]) (hb _ (List.mem_singleton.2 rfl)) (but_not W4 m) ((hs3 W hT2).ext (ext_but x4 hI)) (hG.ext (ext_but x4 hI)) hts.tail (by simp only [List.length_cons] at hn; omega)) fun e w' hk hE => ?_
   rcases hE.out with ⟨ho, rfl⟩ | ⟨x, r, a', c', op, k, nn, t', nm, al, len, cl, ho, rfl, hx, hh, hs⟩
   ·rw [hP, ho]; rfl
   ·refine ⟨op, k, nn, len, cl, r.length, c', t', nm, al, a', rfl, fun b hb => by obtain rfl := List.mem_singleton.1 hb; exact hh, fun W5 e5 y5 n5 => ?_⟩
    have x5 := ext_trans x4 y5
    have hX := ExAt.stay hx e5 n5 (by exact x4.size)
    have hs5 := hs3.trans hs
    simp only [zP]
    refine den_new fun m2 W6 hm2 x6 => den_wr fun W7 x7 => den_call fun hb _ => CallsE.mono (must_e m a' c' r ⟨#[41]⟩ (W7.but [m]) (hb _ (List.mem_singleton.2 rfl)) (but_not W7 m) ((hs5 W hT2).ext (ext_but (ext_trans (ext_trans x5 x6) x7) hI))) fun e w' hk hE => ?_
    rcases hE.out with ⟨hq, rfl⟩ | ⟨q, a6, c6, hq, rfl, hh, hs6⟩
    ·rw [hP, ho, Option.bind_some]
     have hq : Px.sign [41] r = none := hq
     simp only [hq]; rfl
    ·have hq : Px.sign [41] r = some q := hq
     refine ⟨q.length, c6, a6, rfl, fun b hb => by obtain rfl := List.mem_singleton.1 hb; exact hh, fun W8 e8 x8 n8 => den_wr fun W9 x9 => den_ret fun hb _ _ => ?_⟩
     rw [hP, ho, Option.bind_some]
     simp only [hq]
     exact ⟨a6, c6, _, rfl, ((((hX.ext x6).ext x7).ext x8).ext x9).new, hb _ (List.mem_singleton.2 rfl), ((hs1.trans hs2).trans hs5).trans hs6⟩
 have hn3 : Px.sign [40] r2 = none ∧ r3 = r2 := by
  rcases hc3 with ⟨h, _⟩ | ⟨_, h⟩
  ·rw [show b3 = false from cb3] at h; cases h
  ·exact h
 obtain ⟨hn3, rfl⟩ := hn3
 have hT3 := hs3 W hT2
 have hs123 := (hs1.trans hs2).trans hs3
 cases r3 with
 | nil =>
  refine den_chk rfl (den_chk rfl (den_chk rfl (den_br (fun c0 => ?_) fun _ => den_pan rfl)))
  cases c0
 | cons t r =>
  have hx : (t :: r)[0]? = some t := rfl
  have hS := SlI.some_of hT3 (by simp)
  have hT4 := hT3.ext x4
  refine den_chk ?_ (den_chk ?_ (den_chk ?_ (den_br (fun _ => den_look ⟨t.k, fun W' x => ?_, ?_⟩) fun c0 => ?_)))
  ·simp only [zE]; rw [hS]; simp
  ·simp [Sy.dens, Sy.den, E.i, E.b, E.t, gd, Env.push, z_a, z_b, z_c, z_d, leB]
  ·simp only [zE]; rw [ltB_t (by simp only [List.length_cons]; omega)]; simp
  ·exact sl_look_f (P := Tryz.prog) tokC_len hT4 u8_aggP (k := 0) hx (by decide) (u := .int .u8 t.k) rfl x
  ·simp only [zP]
   refine den_br (fun c1 => den_pan ?_) fun c1 => den_look ⟨t.k, ⟨t.t.toArray⟩, fun W' x => ?_, ?_⟩
   ·have hk : t.k = 4 := by simpa [Sy.dens, Sy.den, E.i, E.b, E.t, gd, Env.push, z_a, z_b, z_c, z_d] using c1
    have : Px.one (n + 1) (t :: r) = none := by
     simp only [Px.one]
     rw [if_pos hk, if_neg (sign_not hn1 hk), if_neg (sign_not hn2 hk), if_neg (sign_not hn3 hk)]
    rw [this]; rfl
   ·exact sl_look (P := Tryz.prog) tokC_len (by decide) hT4 tok_aggP tok_sizeP hx x
   ·simp only [zP]
    have hk4 : ¬ t.k = 4 := by simpa [Sy.dens, Sy.den, E.i, E.b, E.t, gd, Env.push, z_a, z_b, z_c, z_d] using c1
    have hT5 : TokSub a c (t :: r) (subA a3 1 c3 2) (c3 - 1) r := hs123.trans (toks_tail a3 c3 t r)
    have htt : (⟨t.t.toArray⟩ : ByteArray).data.toList = t.t := by simp
    have heq : ∀ l : List UInt8, ((⟨t.t.toArray⟩ : ByteArray).data.toList == (⟨l.toArray⟩ : ByteArray).data.toList) = decide (t.t = l) := fun l => by rw [Bool.eq_iff_iff]; simp
    refine den_new fun m2 W5 hm2 x5 => den_wr fun W6 x6 => den_chk ?_ (den_sub (den_wr fun W7 x7 => den_br (fun k1 => ?_) fun k1 => den_br (fun k3 => ?_) fun k3 => ?_))
    ·simp only [zE]; exact leB_t (by simp only [List.length_cons]; omega)
    ·-- a number
     have k1 : t.k = 1 := by simpa [Sy.dens, Sy.den, E.i, E.b, E.t, gd, Env.push, z_a, z_b, z_c, z_d] using k1
     have hP : Px.one (n + 1) (t :: r) = some (Px.leaf 1 (Px.numOf t.t) [], r) := by simp [Px.one, k1]
     rw [hP]
     have hok := hts t (List.mem_cons_self ..)
     refine den_call_i (fun _ _ => parse_i ⟨t.t.toArray⟩ (by rw [← size_len, htt]; omega) W7 (hG.ext (ext_trans (ext_trans (ext_trans x4 x5) x6) x7))) fun v w' _ ⟨nn, e, hv, h1, h2, h3⟩ => ⟨nn, e, one_ifc h1, hv, fun W8 _ x8 _ => ?_⟩
     simp only [zP]
     refine den_grow fun W9 x9 => den_wr fun W10 x10 => den_ret fun hb _ _ => ?_
     have hnn : nn = Px.numOf t.t := by
      rw [htt] at h3
      have hp : Lx.parsed (Lib.parseIntB 64 t.t) = true := by
       have := hok.1
       rw [k1] at this
       simp only [Lx.may, if_true, Lx.numOk, Bool.and_eq_true] at this
       exact this.1
      unfold Px.numOf
      cases hq : Lib.parseIntB 64 t.t with
      | ok v => exact h3 v hq
      | _ => rw [hq] at hp; cases hp
     subst hnn
     refine ⟨_, _, _, rfl, ExAt.leaf _ _ 1 1 (Px.numOf t.t) [] [], ?_, hT5⟩
     have := hb _ (List.mem_singleton.2 rfl)
     simpa [Sy.dens, Sy.den, E.i, E.b, E.t, gd, Env.push, z_a, z_b, z_c, z_d, Blk.at] using this
    ·-- a text
     have k3 : t.k = 3 := by simpa [Sy.dens, Sy.den, E.i, E.b, E.t, gd, Env.push, z_a, z_b, z_c, z_d] using k3
     have hP : Px.one (n + 1) (t :: r) = some (Px.leaf 3 0 t.t, r) := by simp [Px.one, k3]
     rw [hP]
     refine den_wr fun W8 x8 => den_ret fun hb _ _ => ⟨_, _, _, rfl, ExAt.leaf _ _ 1 3 0 t.t [], ?_, hT5⟩
     have := hb _ (List.mem_singleton.2 rfl)
     simpa [Sy.dens, Sy.den, E.i, E.b, E.t, gd, Env.push, z_a, z_b, z_c, z_d, Blk.at] using this
    ·have k1 : ¬ t.k = 1 := by simpa [Sy.dens, Sy.den, E.i, E.b, E.t, gd, Env.push, z_a, z_b, z_c, z_d] using k1
     have k3 : ¬ t.k = 3 := by simpa [Sy.dens, Sy.den, E.i, E.b, E.t, gd, Env.push, z_a, z_b, z_c, z_d] using k3
     refine den_br (fun ky => den_br (fun k5 => ?_) fun k5 => ?_) fun ky => den_br (fun kl => ?_) fun kl => ?_
     ·have k5 : t.t = [121, 101, 115] := by simpa [Sy.dens, Sy.den, E.i, E.b, E.t, gd, Env.push, z_a, z_b, z_c, z_d] using k5
      have hP : Px.one (n + 1) (t :: r) = some (Px.leaf 2 1 [], r) := by simp [Px.one, hk4, k1, k3, k5]
      rw [hP]
      refine den_grow fun _ _ => den_wr fun W8 x8 => den_ret fun hb _ _ => ⟨_, _, _, rfl, ExAt.leaf _ _ 1 2 1 [] [], ?_, hT5⟩
      have := hb _ (List.mem_singleton.2 rfl)
      simpa [Sy.dens, Sy.den, E.i, E.b, E.t, gd, Env.push, z_a, z_b, z_c, z_d, Blk.at] using this
     ·have k5 : ¬ t.t = [121, 101, 115] := by simpa [Sy.dens, Sy.den, E.i, E.b, E.t, gd, Env.push, z_a, z_b, z_c, z_d] using k5
      have k6 : t.t = [110, 111] := by
       simp only [zE, heq, Bool.or_eq_true, decide_eq_true_eq] at ky
       exact ky.resolve_left k5
      have hP : Px.one (n + 1) (t :: r) = some (Px.leaf 2 0 [], r) := by simp [Px.one, hk4, k1, k3, k6]
      rw [hP]
      refine den_grow fun _ _ => den_wr fun W8 x8 => den_ret fun hb _ _ => ⟨_, _, _, rfl, ExAt.leaf _ _ 1 2 0 [] [], ?_, hT5⟩
      have := hb _ (List.mem_singleton.2 rfl)
      simpa [Sy.dens, Sy.den, E.i, E.b, E.t, gd, Env.push, z_a, z_b, z_c, z_d, Blk.at] using this
     ·-- 'len'
      have kl : t.t = [108, 101, 110] := by simpa [Sy.dens, Sy.den, E.i, E.b, E.t, gd, Env.push, z_a, z_b, z_c, z_d] using kl
      have hP : Px.one (n + 1) (t :: r) = (Px.sign [40] r).bind fun r1 => (Px.two n 1 r1).bind fun p => (Px.sign [41] p.2).map fun q => (Px.op1 16 p.1, q) := by simp [Px.one, hk4, k1, k3, kl]
      have x7' := ext_trans (ext_trans (ext_trans x4 x5) x6) x7
      refine den_call fun hb _ => CallsE.mono (must_e m _ _ r ⟨#[40]⟩ (W7.but [m]) (by have := hb _ (List.mem_singleton.2 rfl); show W7.w.heap[m]? = _; simpa [Sy.dens, Sy.den, E.i, E.b, E.t, gd, Env.push, z_a, z_b, z_c, z_d, Blk.at] using this) (but_not W7 m) ((hT5 W hT).ext (ext_but x7' hI))) fun e w' hk hE => ?_
      rcases hE.out with ⟨hq, rfl⟩ | ⟨q, a6, c6, hq, rfl, hh, hs6⟩
      ·have hq : Px.sign [40] r = none := hq
       rw [hP, hq]; rfl
      ·have hq : Px.sign [40] r = some q := hq
       rw [hP, hq, Option.bind_some]
       have hql := Px.sign_len hq
       refine ⟨q.length, c6, a6, rfl, fun b hb => by obtain rfl := List.mem_singleton.1 hb; exact hh, fun W8 e8 y8 n8 => ?_⟩
       have x8 := ext_trans x7' y8
       have hT6 := hT5.trans hs6
       simp only [zP]
       refine den_call fun hb _ => CallsE.mono (ih2 1 m a6 c6 q (W8.but [m]) (hb _ (List.mem_singleton.2 rfl)) (but_not W8 m) ((hT6 W hT).ext (ext_but x8 hI)) (hG.ext (ext_but x8 hI)) (hts.tail.less hql.2) (by simp only [List.length_cons] at hn; omega)) fun e w' hk hE => ?_
       rcases hE.out with ⟨ho, rfl⟩ | ⟨x, r', a', c', op, k, nn, t', nm, al, len, cl, ho, rfl, hx, hh, hs⟩
       ·rw [ho]; rfl
       ·refine ⟨op, k, nn, len, cl, r'.length, c', t', nm, al, a', rfl, fun b hb => by obtain rfl := List.mem_singleton.1 hb; exact hh, fun W9 e9 y9 n9 => ?_⟩
        have x9 := ext_trans x8 y9
        have hX := ExAt.stay hx e9 n9 (by exact x8.size)
        have hT7 := hT6.trans hs
        rw [ho, Option.bind_some]
        simp only [zP]
        refine den_new fun m3 W10 hm3 x10 => den_wr fun W11 x11 => den_call fun hb _ => CallsE.mono (must_e m a' c' r' ⟨#[41]⟩ (W11.but [m]) (hb _ (List.mem_singleton.2 rfl)) (but_not W11 m) ((hT7 W hT).ext (ext_but (ext_trans (ext_trans x9 x10) x11) hI))) fun e w' hk hE => ?_
        rcases hE.out with ⟨hq2, rfl⟩ | ⟨q2, a8, c8, hq2, rfl, hh, hs8⟩
        ·have hq2 : Px.sign [41] r' = none := hq2
         simp only [hq2]; rfl
        ·have hq2 : Px.sign [41] r' = some q2 := hq2
         simp only [hq2]
         refine ⟨q2.length, c8, a8, rfl, fun b hb => by obtain rfl := List.mem_singleton.1 hb; exact hh, fun W12 e12 x12 n12 => ?_⟩
         simp only [zP]
         refine den_new fun m4 W13 hm4 x13 => den_wr fun W14 x14 => den_ret fun hb _ _ => ?_
         have h1 := hb _ (List.mem_cons_self ..)
         have h2 := hb _ (List.mem_cons_of_mem _ (List.mem_cons_self ..))
         exact ⟨a8, c8, _, rfl, ExAt.one h1 hm4 (((((hX.ext x10).ext x11).ext x12).ext x13).ext x14).new 16, h2, hT7.trans hs8⟩
     ·-- a name
      have kl : ¬ t.t = [108, 101, 110] := by simpa [Sy.dens, Sy.den, E.i, E.b, E.t, gd, Env.push, z_a, z_b, z_c, z_d] using kl
      have hy : ¬ t.t = [121, 101, 115] ∧ ¬ t.t = [110, 111] := by
       simp only [zE, heq, Bool.or_eq_false_iff, decide_eq_false_iff_not] at ky
       exact ky
      have hP : Px.one (n + 1) (t :: r) = some (Px.name t.t, r) := by simp [Px.one, hk4, k1, k3, kl, hy.1, hy.2]
      rw [hP]
      refine den_wr fun W8 x8 => den_ret fun hb _ _ => ⟨_, _, _, rfl, ExAt.leaf _ _ 2 0 0 [] t.t, ?_, hT5⟩
      have := hb _ (List.mem_singleton.2 rfl)
      simpa [Sy.dens, Sy.den, E.i, E.b, E.t, gd, Env.push, z_a, z_b, z_c, z_d, Blk.at] using this
  ·simp [Sy.dens, Sy.den, E.i, E.b, E.t, gd, Env.push, z_a, z_b, z_c, z_d] at c0
   omega
theorem by_much {s : Lx.Bs} {o : Int} {b : Lx.Bs × Int × Int} (h : Px.by_ s o = some b) : 1 ≤ b.2.2 ∧ b.2.2 ≤ 5 := by
 have := List.mem_of_find?_eq_some h
 simp only [Px.binds, List.mem_cons, List.not_mem_nil, or_false] at this
 rcases this with rfl | rfl | rfl | rfl | rfl | rfl | rfl | rfl | rfl | rfl | rfl <;> decide
theorem two_ok (n : Nat) (ih1 : OneOk n) (ih : ∀ k, k < n → TwoOk k) : TwoOk (n + 1) := by
 intro much m a c ts W hm hI hT hG hts hn
 refine vc_two much ts.length c a m W _ hm hI ?_
 refine den_new fun m1 W1 hm1 x1 => den_call fun hb _ => CallsE.mono (ih1 m a c ts (W1.but [m]) (hb _ (List.mem_singleton.2 rfl)) (but_not W1 m) (hT.ext (ext_but x1 hI)) (hG.ext (ext_but x1 hI)) hts (by omega)) fun e w' hk hE => ?_
 have hP : Px.two (n + 1) much ts = (Px.one n ts).bind fun p => Px.loop n much 7 p.1 p.2 := rfl
 rcases hE.out with ⟨ho, rfl⟩ | ⟨x0, r, a', c', op, k, nn, t', nm, al, len, cl, ho, rfl, hx, hh, hs⟩
 ·rw [hP, ho]; rfl
 refine ⟨op, k, nn, len, cl, r.length, c', t', nm, al, a', rfl, fun b hb => by obtain rfl := List.mem_singleton.1 hb; exact hh, fun W2 e2 y2 n2 => ?_⟩
 have x2 := ext_trans x1 y2
 have hX := ExAt.stay hx e2 n2 (by exact x1.size)
 have hrl := Px.one_less ho
 rw [hP, ho, Option.bind_some]
 simp only [zP]
 refine den_new fun m2 W3 hm2 y3 => den_wr fun W4 y4 => ?_
 have x4 := ext_trans (ext_trans x2 y3) y4
 have hX4 := (hX.ext y3).ext y4
 refine den_loop (fun j vs ls V => ∃ (f : Nat) (lim op k nn : Int) (t nm : ByteArray) (al : Option Addr) (len cl : Nat) (x : Px.Ex) (q : List Lx.Tok) (aq : Option Addr) (cq : Nat), vs = [.int .i64 lim, .int .u8 op, .int .u8 k, .int .i64 nn, .string t, .string nm, .slice al len cl, .slice aq q.length cq] ∧ ls = [] ∧ j = q.length ∧
  f ≤ n ∧ 3 * q.length + 1 ≤ f ∧ TokSub a c ts aq cq q ∧ TsOk q ∧ ExS V W.w.heap.size x [.int .u8 op, .int .u8 k, .int .i64 nn, .string t, .string nm, .slice al len cl] ∧ Px.loop n much 7 x0 r = Px.loop f much lim x q) r.length ⟨n, 7, op, k, nn, t', nm, al, len, cl, x0, r, a', c', rfl, rfl, rfl, Nat.le_refl _, by have := hrl.1; omega, hs, hts.less hrl.2, hX4, rfl⟩ ?_
 rintro j vs ls V xV ⟨f, lim, op, k, nn, t, nm, al, len, cl, x, q, aq, cq, rfl, rfl, rfl, hfn, hf, hsq, hq, hX, hL⟩
 have xV' := ext_trans x4 xV
 obtain ⟨f, rfl⟩ : ∃ g, f = g + 1 := ⟨f - 1, by omega⟩
 refine ⟨lim, op, k, nn, len, cl, q.length, cq, t, nm, al, aq, rfl, rfl, fun _ => ?_⟩
 simp only [zP]
 have out : ∀ (V' : Wd) , Ext V V' → V'.w.heap[m]? = some (.cells #[.slice aq q.length cq] 142) → Px.loop (f + 1) much lim x q = some (x, q) → RdEnd W.w.heap.size m a c ts (Px.loop n much 7 x0 r) (.returned (.agg #[.int .u8 op, .int .u8 k, .int .i64 nn, .string t, .string nm, .slice al len cl])) V'.w := fun V' y hh he => by
  rw [hL, he]
  exact ⟨aq, cq, _, rfl, (hX.ext y).new, hh, hsq⟩
 cases q with
 | nil =>
  refine den_chk rfl (den_chk rfl (den_chk rfl (den_br (fun c0 => ?_) fun _ => den_wr fun V1 y1 => den_ret fun hb _ _ => ?_)))
  ·cases c0
  ·exact out V1 y1 (hb _ (List.mem_singleton.2 rfl)) rfl
 | cons u q =>
  have hTq := (hsq W hT).ext xV'
  have hx : (u :: q)[0]? = some u := rfl
  have hS := SlI.some_of hTq (by simp)
  refine den_chk ?_ (den_chk ?_ (den_chk ?_ (den_br (fun _ => den_look ⟨u.k, fun W' x => ?_, ?_⟩) fun c0 => ?_)))
  ·simp only [zE]; rw [hS]; simp
  ·simp [Sy.dens, Sy.den, E.i, E.b, E.t, gd, Env.push, z_a, z_b, z_c, z_d, leB]
  ·simp only [zE]; rw [ltB_t (by simp only [List.length_cons]; omega)]; simp
  ·exact sl_look_f (P := Tryz.prog) tokC_len hTq u8_aggP (k := 0) hx (by decide) (u := .int .u8 u.k) rfl x
  ·simp only [zP]
   refine den_br (fun c1 => den_look ⟨⟨u.t.toArray⟩, fun W' x => ?_, ?_⟩) fun c1 => den_wr fun V1 y1 => den_ret fun hb _ _ => ?_
   ·exact sl_look_f (P := Tryz.prog) tokC_len hTq str_aggP (k := 1) hx (by decide) (u := .string ⟨u.t.toArray⟩) rfl x
   ·have hk : u.k = 4 := by simpa [Sy.dens, Sy.den, E.i, E.b, E.t, gd, Env.push, z_a, z_b, z_c, z_d] using c1
    simp only [zP]
    have hby := by_q ⟨u.t.toArray⟩ 0 V
    rw [show (⟨u.t.toArray⟩ : ByteArray).data.toList = u.t by simp] at hby
    cases hb0 : Px.by_ u.t 0 with
    | none =>
     rw [hb0] at hby
     refine den_call_q (fun _ _ => hby) ⟨0, 0, false, ⟨#[]⟩, rfl, fun V1 y1 => ?_⟩
     simp only [zP]
     refine den_new fun m3 V2 hm3 y2 => den_wr fun V3 y3 => den_br (fun _ => den_wr fun V4 y4 => den_ret fun hb _ _ => ?_) fun c2 => ?_
     ·exact out V4 (ext_trans (ext_trans (ext_trans y1 y2) y3) y4) (hb _ (List.mem_singleton.2 rfl)) (by simp [Px.loop, hk, hb0])
     ·simp [Sy.dens, Sy.den, E.i, E.b, E.t, gd, Env.push, z_a, z_b, z_c, z_d] at c2
    | some b =>
     rw [hb0] at hby
     obtain ⟨hb1, hb5⟩ := by_much hb0
     refine den_call_q (fun _ _ => hby) ⟨b.2.1, b.2.2, true, ⟨b.1.toArray⟩, rfl, fun V1 y1 => ?_⟩
     simp only [zP]
     refine den_new fun m3 V2 hm3 y2 => den_wr fun V3 y3 => den_br (fun c2 => den_wr fun V4 y4 => den_ret fun hb _ _ => ?_) fun c2 => ?_
     ·have c2 : b.2.2 < much ∨ lim < b.2.2 := by
       simp only [zE, Bool.not_true, Bool.false_or, Bool.or_eq_true, ltB_true] at c2
       exact c2
      exact out V4 (ext_trans (ext_trans (ext_trans y1 y2) y3) y4) (hb _ (List.mem_singleton.2 rfl)) (by simp only [Px.loop, hk, hb0, if_true]; rw [if_pos c2])
     ·have c2 : ¬ (b.2.2 < much ∨ lim < b.2.2) := by
       simp only [zE, Bool.not_true, Bool.false_or, Bool.or_eq_false_iff, ltB_false] at c2
       omega
      have y3' := ext_trans (ext_trans y1 y2) y3
      have hw : IntKind.i64.wrap (b.2.2 + 1) = b.2.2 + 1 := w64i (by omega) (by omega)
      have hLoop : Px.loop (f + 1) much lim x (u :: q) = (Px.two f (b.2.2 + 1) q).bind fun p => Px.loop f much (if b.2.2 = 3 then 2 else b.2.2) (Px.op2 b.2.1 x p.1) p.2 := by
       simp only [Px.loop, hk, hb0, if_true]; rw [if_neg c2]
      have hsq1 : TokSub a c ts (subA aq 1 cq 2) (cq - 1) q := hsq.trans (toks_tail aq cq u q)
      refine den_chk ?_ (den_sub (den_wr fun V4 y4 => den_grow fun V5 y5 => ?_))
      ·simp only [zE]; exact leB_t (by simp only [List.length_cons]; omega)
      have z5 := ext_trans (ext_trans y3' y4) y5
      have x5 := ext_trans xV' z5
      have htwo : V5.w.heap[m]? = some (.cells #[.slice (subA aq 1 cq 2) q.length (cq - 1)] 142) → CallsE Tryz.prog 109 #[.pointer (some ⟨m, 0, none⟩), .int .i64 (IntKind.i64.wrap (b.2.2 + 1))] (V5.but [m]) (RdEnd V5.w.heap.size m (subA aq 1 cq 2) (cq - 1) q (Px.two f (b.2.2 + 1) q)) := fun hh => by
       rw [hw]
       exact ih f (by omega) (b.2.2 + 1) m (subA aq 1 cq 2) (cq - 1) q (V5.but [m]) hh (but_not V5 m) ((hsq1 W hT).ext (ext_but x5 hI)) (hG.ext (ext_but x5 hI)) hq.tail (by simp only [List.length_cons] at hf; omega)
      refine den_call fun hb _ => CallsE.mono (htwo (by have := hb _ (List.mem_singleton.2 rfl); simpa [Sy.dens, Sy.den, E.i, E.b, E.t, gd, Env.push, z_a, z_b, z_c, z_d, Blk.at] using this)) fun e w' hk hE => ?_
      rcases hE.out with ⟨ho, rfl⟩ | ⟨x', r', a', c', op', k', nn', t', nm', al', len', cl', ho, rfl, hx', hh, hs'⟩
      ·rw [hL, hLoop, ho]; rfl
      ·refine ⟨op', k', nn', len', cl', r'.length, c', t', nm', al', a', rfl, fun b hb => by obtain rfl := List.mem_singleton.1 hb; exact hh, fun V6 e6 y6 n6 => ?_⟩
       have x6 := ext_trans x5 y6
       have hX' := ExAt.stay hx' e6 n6 (by exact x5.size)
       have hX6 := hX.ext (ext_trans z5 y6)
       have hlt := Px.two_less ho
       simp only [zP]
       refine den_grow fun V7 y7 => den_new fun m4 V8 hm4 y8 => den_grow fun V9 y9 => den_wr fun V10 y10 => ?_
       have y710 := ext_trans (ext_trans (ext_trans y7 y8) y9) y10
       have fin : ∀ (lim' : Int) (V11 : Wd), Ext V10 V11 → lim' = (if b.2.2 = 3 then 2 else b.2.2) → V11.I m4 → V11.w.heap[m4]? = some (.cells ([.int .u8 op, .int .u8 k, .int .i64 nn, .string t, .string nm, .slice al len cl] ++ [.int .u8 op', .int .u8 k', .int .i64 nn', .string t', .string nm', .slice al' len' cl'] : List Value).toArray 56) →
         ∃ n', n' < (u :: q).length ∧ ∃ (f : Nat) (lim op k nn : Int) (t nm : ByteArray) (al : Option Addr) (len cl : Nat) (x : Px.Ex) (q : List Lx.Tok) (aq : Option Addr) (cq : Nat), [Value.int .i64 lim', .int .u8 b.2.1, .int .u8 0, .int .i64 0, .string ⟨#[]⟩, .string ⟨#[]⟩, .slice (some ⟨m4, 0, none⟩) 2 2, .slice a' r'.length c'] = [.int .i64 lim, .int .u8 op, .int .u8 k, .int .i64 nn, .string t, .string nm, .slice al len cl, .slice aq q.length cq] ∧ ([] : List (List Value)) = [] ∧ n' = q.length ∧
         f ≤ n ∧ 3 * q.length + 1 ≤ f ∧ TokSub a c ts aq cq q ∧ TsOk q ∧ ExS V11 W.w.heap.size x [.int .u8 op, .int .u8 k, .int .i64 nn, .string t, .string nm, .slice al len cl] ∧ Px.loop n much 7 x0 r = Px.loop f much lim x q := fun lim' V11 y11 hl hIm hbm => by
        refine ⟨r'.length, by have := hlt.1; simp only [List.length_cons]; omega, f, lim', b.2.1, 0, 0, ⟨#[]⟩, ⟨#[]⟩, some ⟨m4, 0, none⟩, 2, 2, Px.op2 b.2.1 x x', r', a', c', rfl, rfl, rfl, by omega, by have := hlt.1; simp only [List.length_cons] at hf; omega, hsq1.trans hs', hq.tail.less hlt.2, ?_, by rw [hL, hLoop, ho, hl]; rfl⟩
        exact ExAt.two hbm ⟨hIm, hm4⟩ (hX6.ext (ext_trans y710 y11)) (hX'.ext (ext_trans y710 y11)) b.2.1
       refine den_br (fun c3 => den_frz fun V11 e11 y11 hI11 hb11 => den_again ?_) fun c3 => den_frz fun V11 e11 y11 hI11 hb11 => den_again ?_
       ·have c3 : b.2.2 = 3 := by simpa [Sy.dens, Sy.den, E.i, E.b, E.t, gd, Env.push, z_a, z_b, z_c, z_d] using c3
        refine fin (IntKind.i64.wrap (b.2.2 - 1)) V11 y11 ?_ (hI11 _ (List.mem_cons_self ..) hm4) (hb11 _ (List.mem_cons_self ..))
        rw [if_pos c3, c3]; decide
       ·have c3 : ¬ b.2.2 = 3 := by simpa [Sy.dens, Sy.den, E.i, E.b, E.t, gd, Env.push, z_a, z_b, z_c, z_d] using c3
        exact fin b.2.2 V11 y11 (by rw [if_neg c3]) (hI11 _ (List.mem_cons_self ..) hm4) (hb11 _ (List.mem_cons_self ..))
   ·have hk : ¬ u.k = 4 := by simpa [Sy.dens, Sy.den, E.i, E.b, E.t, gd, Env.push, z_a, z_b, z_c, z_d] using c1
    exact out V1 y1 (hb _ (List.mem_singleton.2 rfl)) (by simp only [Px.loop]; rw [if_neg hk])
  ·simp only [zE, ltB_false, List.length_cons] at c0
   omega
theorem read_ok : ∀ n : Nat, OneOk n ∧ TwoOk n := by
 intro n
 induction n using Nat.strongRecOn with
 | ind n ih =>
  cases n with
  | zero => exact ⟨fun m a c ts W _ _ _ _ _ h => by omega, fun mu m a c ts W _ _ _ _ _ h => by omega⟩
  | succ n => exact ⟨one_ok n (ih n (by omega)).1 (ih n (by omega)).2, two_ok n (ih n (by omega)).1 fun k hk => (ih k (by omega)).2⟩
end Go.Proofs.YtkpjmlnhhggenaaGreatDoor
end
section
/- What is read is thin, and no deeper than it has parts. No program in sight. -/
namespace Px
open Go
open Lx hiding none run first
mutual
def thin : Ex → Bool
 | .mk _ _ n t nm l => (decide (l.length ≤ 1000) && (decide (t.length ≤ 140737488351232) && (decide (nm.length ≤ 140737488351232) && (decide (-9223372036854775808 ≤ n) && decide (n ≤ 9223372036854775807))))) && thins l
def thins : List Ex → Bool
 | [] => true
 | e :: l => thin e && thins l
end
theorem thin_mem {l : List Ex} {e : Ex} (h : thins l = true) (he : e ∈ l) : thin e = true := by
 induction l with
 | nil => cases he
 | cons x l ih =>
  simp only [thins, Bool.and_eq_true] at h
  rcases List.mem_cons.1 he with rfl | he
  ·exact h.1
  ·exact ih h.2 he
theorem deeps_snoc (l : List Ex) (e : Ex) : deeps (l ++ [e]) = max (deeps l) (deep e) := by
 induction l with
 | nil => simp [deeps]
 | cons x l ih => simp only [z_a, deeps, ih]; omega
theorem deep_mem {l : List Ex} {e : Ex} (h : e ∈ l) : deep e ≤ deeps l := by
 induction l with
 | nil => cases h
 | cons x l ih =>
  simp only [deeps]
  rcases List.mem_cons.1 h with rfl | h
  ·omega
  ·have := ih h; omega
theorem deeps_take (l : List Ex) : ∀ i : Nat, deeps (l.take i) ≤ deeps l := by
 induction l with
 | nil => simp
 | cons x l ih => intro i; cases i with
  | zero => simp [deeps]
  | succ i => have := ih i; simp only [List.take_succ_cons, deeps]; omega
theorem deep_pos (e : Ex) : 1 ≤ deep e := by cases e; simp [deep]
def Fine (n : Nat) (e : Ex) (r : List Tok) : Prop := thin e = true ∧ deep e + r.length ≤ n
theorem fine_op1 {n : Nat} {o : Int} {e : Ex} {r : List Tok} (h : Fine n e r) : Fine (n + 1) (op1 o e) r := by
 obtain ⟨h1, h2⟩ := h
 refine ⟨by simp [op1, thin, thins, h1], ?_⟩
 simp only [op1, deep, deeps]; omega
theorem fine_leaf {n k m : Int} {t nm : Bs} {r : List Tok} (h1 : t.length ≤ 1000) (h2 : nm.length ≤ 1000) (h3 : -9223372036854775808 ≤ n ∧ n ≤ 9223372036854775807) : Fine (r.length + 1) (.mk k m n t nm []) r := ⟨by simp [thin, thins]; omega, by simp [deep, deeps]; omega⟩
theorem numOf_fit (l : Bs) : -9223372036854775808 ≤ numOf l ∧ numOf l ≤ 9223372036854775807 := by
 unfold numOf
 split
 ·rename_i n h
  have := Lib.parseIntB_bounds h
  omega
 ·decide
def Small (ts : List Tok) : Prop := ∀ t ∈ ts, t.t.length ≤ 1000
theorem Small.less {ts r : List Tok} (h : Small ts) (k : Less ts r) : Small r := by
 obtain ⟨_, k, rfl⟩ := k
 exact fun t ht => h t (List.mem_of_mem_drop ht)
theorem Small.tail {t : Tok} {ts : List Tok} (h : Small (t :: ts)) : Small ts := fun u hu => h u (List.mem_cons_of_mem _ hu)
theorem Fine.le {n m : Nat} {e : Ex} {r s : List Tok} (h : Fine n e r) (hl : s.length + n ≤ m + r.length) : Fine m e s := ⟨h.1, by have := h.2; omega⟩
theorem fine_all : ∀ n : Nat, (∀ ts e r, Small ts → one n ts = some (e, r) → Fine ts.length e r) ∧ (∀ m ts e r, Small ts → two n m ts = some (e, r) → Fine ts.length e r) ∧ (∀ m l x ts e r T, Small ts → loop n m l x ts = some (e, r) → Fine T x ts → Fine T e r)
 | 0 => ⟨fun _ _ _ _ h => by simp [one] at h, fun _ _ _ _ _ h => by simp [two] at h, fun _ _ _ _ _ _ _ _ h => by simp [loop] at h⟩
 | n + 1 => by
  obtain ⟨h1, h2, h3⟩ := fine_all n
  refine ⟨fun ts e r hs h => ?_, fun m ts e r hs h => ?_, fun m l x ts e r T hs h hx => ?_⟩
  ·cases ts with
   | nil => simp [one] at h
   | cons t s =>
    have ht := hs t (List.mem_cons_self ..)
    simp only [one] at h
    split at h
    ·split at h
     ·obtain ⟨p, hp, he⟩ := map_some h
      obtain ⟨rfl, rfl⟩ := Prod.mk.inj he
      exact fine_op1 (h1 _ _ _ hs.tail hp)
     ·split at h
      ·obtain ⟨p, hp, he⟩ := map_some h
       obtain ⟨rfl, rfl⟩ := Prod.mk.inj he
       exact fine_op1 (h1 _ _ _ hs.tail hp)
      ·split at h
       ·obtain ⟨p, hp, he⟩ := bind_some h
        obtain ⟨q, hq, he⟩ := map_some he
        obtain ⟨rfl, rfl⟩ := Prod.mk.inj he
        have := (sign_len hq).1
        exact (h2 _ _ _ _ hs.tail hp).le (by simp only [List.length_cons]; omega)
       ·cases h
    ·split at h
     ·obtain ⟨rfl, rfl⟩ := Prod.mk.inj (Option.some.inj h); exact fine_leaf (by simp) (by simp) (numOf_fit _)
     ·split at h
      ·obtain ⟨rfl, rfl⟩ := Prod.mk.inj (Option.some.inj h); exact fine_leaf ht (by simp) (by decide)
      ·split at h
       ·obtain ⟨rfl, rfl⟩ := Prod.mk.inj (Option.some.inj h); exact fine_leaf (by simp) (by simp) (by decide)
       ·split at h
        ·obtain ⟨rfl, rfl⟩ := Prod.mk.inj (Option.some.inj h); exact fine_leaf (by simp) (by simp) (by decide)
        ·split at h
         ·obtain ⟨r1, hr, he⟩ := bind_some h
          obtain ⟨p, hp, he⟩ := bind_some he
          obtain ⟨q, hq, he⟩ := map_some he
          obtain ⟨rfl, rfl⟩ := Prod.mk.inj he
          have hq := (sign_len hq).1
          have hr' := (sign_len hr).1
          refine (fine_op1 (h2 _ _ _ _ (hs.tail.less (sign_len hr)) hp)).le (by simp only [List.length_cons]; omega)
         ·obtain ⟨rfl, rfl⟩ := Prod.mk.inj (Option.some.inj h); exact fine_leaf (by simp) ht (by decide)
  ·simp only [two] at h
   obtain ⟨p, hp, he⟩ := bind_some h
   exact h3 _ _ _ _ _ _ _ (hs.less (one_less hp)) he (h1 _ _ _ hs hp)
  ·cases ts with
   | nil => simp only [loop] at h; obtain ⟨rfl, rfl⟩ := Prod.mk.inj (Option.some.inj h); exact hx
   | cons t s =>
    simp only [loop] at h
    split at h
    ·split at h
     ·obtain ⟨rfl, rfl⟩ := Prod.mk.inj (Option.some.inj h); exact hx
     ·split at h
      ·obtain ⟨rfl, rfl⟩ := Prod.mk.inj (Option.some.inj h); exact hx
      ·obtain ⟨p, hp, he⟩ := bind_some h
       have hf := h2 _ _ _ _ hs.tail hp
       refine h3 _ _ _ _ _ _ _ (hs.tail.less (two_less hp)) he ⟨?_, ?_⟩
       ·simp [op2, thin, thins, hx.1, hf.1]
       ·have k1 := hx.2
        have k2 := hf.2
        have k3 := (two_less hp).1
        have k4 := deep_pos p.1
        simp only [op2, deep, deeps, List.length_cons] at k1 ⊢
        omega
    ·obtain ⟨rfl, rfl⟩ := Prod.mk.inj (Option.some.inj h); exact hx
mutual
def same : Ex → Ex → Bool
 | .mk o k n t nm l, .mk o' k' n' t' nm' l' => (o == o' && ((k == k' && (n == n' && t == t')) && nm == nm')) && sames l l'
def sames : List Ex → List Ex → Bool
 | [], [] => true
 | a :: l, b :: m => same a b && sames l m
 | _, _ => false
end
mutual
theorem same_eq : ∀ {a b : Ex}, same a b = true → a = b
 | .mk o k n t nm l, .mk o' k' n' t' nm' l', h => by
  simp only [same, Bool.and_eq_true, beq_iff_eq] at h
  obtain ⟨⟨rfl, ⟨rfl, rfl, rfl⟩, rfl⟩, h⟩ := h
  rw [sames_eq h]
theorem sames_eq : ∀ {l m : List Ex}, sames l m = true → l = m
 | [], [], _ => rfl
 | a :: l, b :: m, h => by
  simp only [sames, Bool.and_eq_true] at h
  rw [same_eq h.1, sames_eq h.2]
 | [], _ :: _, h => by simp [sames] at h
 | _ :: _, [], h => by simp [sames] at h
end
theorem two_fine {n : Nat} {m : Int} {ts r : List Tok} {e : Ex} (hs : Small ts) (h : two n m ts = some (e, r)) : Fine ts.length e r := (fine_all n).2.1 _ _ _ _ hs h
end Px
end
section
/- Trees in memory, read: an argument of a tree; how deep a tree is. -/
namespace Go.Proofs.YtkpjmlnhhggenaaGreatDoor
open Go Go.RowKit Go.SF
def ExI (W : Wd) (e : Px.Ex) (vs : List Value) : Prop := ExAt W.w W.I e vs
theorem ExI.ext {W W' : Wd} {e : Px.Ex} {vs : List Value} (h : ExI W e vs) (x : Ext W W') : ExI W' e vs := ExAt.move (fun b hb _ => ⟨x.sub b hb, x.keep b hb⟩) h
theorem ExS.i {W : Wd} {n0 : Nat} {e : Px.Ex} {vs : List Value} (h : ExS W n0 e vs) : ExI W e vs := ExAt.move (fun b hb _ => ⟨hb.1, rfl⟩) h
theorem ExAt.i {W : Wd} {w : World} {n1 : Nat} {e : Px.Ex} {vs : List Value} (h : ExAt w (fun b => n1 ≤ b) e vs) (hw : W.w = w) (hn : NewIn n1 W) : ExI W e vs := (h.stay hw hn (Nat.le_refl _)).i
theorem exs_get {w : World} {J : Nat → Prop} : ∀ {l : List Px.Ex} {ls : List Value}, ExsAt w J l ls → ∀ {i : Nat} {x : Px.Ex}, l[i]? = some x → ∃ vs, ExAt w J x vs ∧ ∀ j, j < 6 → ls[i * 6 + j]? = vs[j]?
 | [], ls, h, i, x, hx => by simp at hx
 | e :: l, ls, h, i, x, hx => by
  simp only [ExsAt] at h
  obtain ⟨y, m, rfl, hy, hm⟩ := h
  cases i with
  | zero =>
   simp only [List.getElem?_cons_zero, Option.some.injEq] at hx
   subst hx
   exact ⟨y, hy, fun j hj => by rw [Nat.zero_mul, Nat.zero_add, List.getElem?_append_left (by rw [hy.len]; exact hj)]⟩
  | succ i =>
   rw [List.getElem?_cons_succ] at hx
   obtain ⟨vs, hv, hc⟩ := exs_get hm hx
   exact ⟨vs, hv, fun j hj => by
    rw [List.getElem?_append_right (by rw [hy.len]; omega), hy.len, show (i + 1) * 6 + j - 6 = i * 6 + j from by omega]
    exact hc j hj⟩
theorem sl_look_at {W : Wd} {a : Option Addr} {n c sz : Nat} {xs : List Value} (h : SlI W a n c sz xs) {t : TypeId} (hA : aggT Tryz.prog t = some true) (hS : sizeT Tryz.prog t = some sz) {i : Nat} {vs : List Value} (hv : vs.length = sz) (hz : 0 < sz) (hg : ∀ j, j < sz → xs[i * sz + j]? = vs[j]?)
  {W' : Wd} (hW : Ext W W') : (Instr.loadAt t (.pointer (some ((a.getD default).add (i * sz + 0))))).run Tryz.prog W'.w = .ok (.agg vs.toArray) W'.w := by
 obtain ⟨h1, h2, h3⟩ := h.ext hW
 rcases h3 with ⟨_, rfl, rfl⟩ | ⟨b, o, rfl, hI, hb, hc⟩
 ·exfalso
  have h0 := hg 0 hz
  have : xs = [] := List.length_eq_zero_iff.1 (by simpa using h1)
  rw [this, List.getElem?_nil, List.getElem?_eq_getElem (l := vs) (by omega)] at h0
  cases h0
 ·refine look_agg hA hS hv fun j u hu => ?_
  have hj : j < sz := by rw [← hv]; exact (List.getElem?_eq_some_iff.1 hu).1
  have := hc (i * sz + j) u (by rw [hg j hj]; exact hu)
  simp only [Option.getD_some, Nat.add_zero]
  rw [add_none, add_none, show o + i * sz + j = o + (i * sz + j) from by omega]
  exact this
theorem ex_agg : aggT Tryz.prog 56 = some true := by kernel_rfl
theorem ex_size : sizeT Tryz.prog 56 = some 6 := by kernel_rfl
theorem depth_q (n : Nat) : ∀ (x : Px.Ex) (vs : List Value) (W : Wd), Px.deep x ≤ n → n ≤ 1000000 → Px.thin x = true → ExI W x vs → CallsQ Tryz.prog 52 #[.agg vs.toArray] W (.int .i64 (Px.deep x : Nat)) := by
 induction n with
 | zero => intro x vs W h; cases x; simp [Px.deep] at h
 | succ n ih =>
  intro x vs W hd hn hth hx
  obtain ⟨op, k, nn, t, nm, args⟩ := x
  have hx := hx.ext W.all_ext
  simp only [ExI, ExAt] at hx
  obtain ⟨a, c, ls, rfl, hS, hE⟩ := hx
  simp only [Px.deep] at hd
  simp only [Px.thin, Bool.and_eq_true, decide_eq_true_eq] at hth
  refine vc_depth op k nn args.length c ⟨t.toArray⟩ ⟨nm.toArray⟩ a W.all _ ?_
  refine den_new fun m W1 _ x1 => den_loop (fun j vs ls _ => ∃ i : Nat, vs = [.int .i64 (Px.deeps (args.take i) : Nat), .int .i64 (i : Nat)] ∧ ls = [] ∧ i ≤ args.length ∧ j = args.length - i) args.length ⟨0, by simp [Px.deeps, Sy.dens, Sy.den, E.i, E.b, E.t, gd, Env.push, z_a, z_b, z_c, z_d], rfl, Nat.zero_le _, rfl⟩ ?_
  rintro j vs ls' W2 x2 ⟨i, rfl, rfl, hi, rfl⟩
  have x2' := ext_trans x1 x2
  refine ⟨((Px.deeps (args.take i) : Nat) : Int), (i : Int), rfl, rfl, fun _ => ?_⟩
  have hle := Px.deeps_take args i
  refine den_br (fun c1 => ?_) fun c1 => ?_
  ·simp only [zE, ltB_true] at c1
   have hil : i < args.length := by omega
   have hx : args[i]? = some args[i] := List.getElem?_eq_getElem hil
   obtain ⟨us, hu, hg⟩ := exs_get hE hx
   obtain ⟨op', k', nn', t', nm', al', len', cl', rfl⟩ := hu.shape
   have hs := Px.deep_mem (List.getElem_mem hil)
   refine den_chk ?_ (den_chk ?_ (den_look ⟨op', k', nn', len', cl', t', nm', al', fun W3 x3 => ?_, ?_⟩))
   ·simp only [E.b, gd, Env.push]; exact SlI.some_of hS (by omega)
   ·simp only [zE]; exact leB_t (by omega)
   ·have := sl_look_at (W := W.all) hS ex_agg ex_size rfl (by decide) hg (ext_trans x2' x3)
    simp only [zE] at this ⊢
    exact this
   ·simp only [zP]
    have hu2 : ExI W.all args[i] _ := hu
    have hq : ∀ V, Ext W2 V → _ := fun V xV => ih args[i] _ V (by omega) (by omega) (Px.thin_mem hth.2 (List.getElem_mem hil)) (hu2.ext (ext_trans x2' xV))
    refine den_new fun m2 W3 _ x3 => den_wr fun W4 x4 => den_call_q (fun _ _ => hq W4 (ext_trans x3 x4)) ⟨((Px.deep args[i] : Nat) : Int), rfl, fun W5 x5 => ?_⟩
    simp only [zP]
    refine den_frz fun _ _ _ _ _ => den_again ⟨args.length - (i + 1), by omega, i + 1, ?_, rfl, by omega, rfl⟩
    simp only [zE]
    have ht : args.take (i + 1) = args.take i ++ [args[i]] := by rw [List.take_add_one, hx]; rfl
    rw [ht, Px.deeps_snoc, w64i (by omega) (by omega)]
    congr 2
    ·congr 1; omega
  ·simp only [zE, ltB_false] at c1
   obtain rfl : i = args.length := by omega
   refine den_ret fun _ _ _ => ⟨_, rfl, ?_⟩
   simp only [zE, List.take_length, Px.deep] at hle ⊢
   rw [w64i (by omega) (by omega)]
   rfl
end Go.Proofs.YtkpjmlnhhggenaaGreatDoor
end
section
/- Reading all of it: what is thrown is caught. -/
namespace Go.Proofs.YtkpjmlnhhggenaaGreatDoor
open Go Go.RowKit Go.SF
section
variable {P : Program} {ops : Array Oper} {Q : Exit → Act → World → Prop} {a : Act} {w w' : World} {rest : List Oper} {o : Oper}
theorem st_val (v : Value) (hg : o.guard = none) (hr : (execOp a.eval o).run P w = .ok (.value v) w') (h : wpList P ops Q rest (a.put o.dst v) w') : wpList P ops Q (o :: rest) a w :=
 wpList_plain hg fun K hK => by unfold Oper.wp; rw [hr]; exact hK _ _ h
theorem st_skip (hg : o.guard = none) (hr : (execOp a.eval o).run P w = .ok .skip w') (h : wpList P ops Q rest (a.put o.dst undef) w') : wpList P ops Q (o :: rest) a w :=
 wpList_plain hg fun K hK => by unfold Oper.wp; rw [hr]; exact hK _ _ h
end
theorem stl_skip {P : Program} {ops : Array Oper} {Q : Act → Prop} {a : Act} {w : World} {rest : List Oper} {o : Oper} (hg : o.guard = none) (hr : (execOp a.eval o).run P w = .ok .skip w) (h : wpStill P ops w Q rest (a.put o.dst undef)) : wpStill P ops w Q (o :: rest) a :=
 wpStill_step fun K hK => by simp only [Region.wanted, hg, if_true]; unfold Oper.still; rw [hr]; exact ⟨rfl, hK _ h⟩
theorem setRow_same {w : World} {g : Nat} {cs : Array Value} {t : TypeId} (h : w.heap[g]? = some (.cells cs t)) : w.setRow g cs = w := by
 have e : (w.setRow g cs).heap = w.heap := by
  refine Array.ext_getElem? fun i => ?_
  by_cases hi : i = g
  ·subst hi; rw [setRow_heap _ _ _ _ _ (0, 0) h, h]
  ·exact setRow_other _ _ _ _ hi
 have e2 : w.setRow g cs = { w with heap := (w.setRow g cs).heap } := rfl
 rw [e2, e]
def zeroC : List Value := [.int .u8 0, .int .u8 0, .int .i64 0, .string ⟨#[]⟩, .string ⟨#[]⟩, .slice none 0 0]
theorem dens_val (ρ : Env) (vs : List Value) : Sy.dens ρ (vs.map .val) = vs := by
 rw [Sy.dens_eq, List.map_map]
 exact (List.map_congr_left fun v _ => rfl).trans (List.map_id vs)
theorem st_ex {w : World} {p : Nat} {vs : List Value} {a b c d e f : Value} (hp : w.heap[p]? = some (.cells vs.toArray 56)) (hl : vs.length = 6) (h1 : ∀ u ∈ [a, b, c, d, e, f], u.oneCell' = true) : (storeVar 56 ⟨p, 0, none⟩ (.agg #[a, b, c, d, e, f])).run Tryz.prog w = .ok () (w.setRow p #[a, b, c, d, e, f]) := by
 have h := run_stS (P := Tryz.prog) (ρ := { V := [a, b, c, d, e, f] }) (t := 56) (cs := vs.map .val) (vs := [.var 0, .var 1, .var 2, .var 3, .var 4, .var 5]) (off := 0) (n := 6) (s := .agg [.var 0, .var 1, .var 2, .var 3, .var 4, .var 5]) (fun v hv => h1 v hv) rfl ex_size rfl (by simp [hl]) (w := w) (b := p) (ty := 56) (by rw [dens_val]; exact hp)
 rw [over_den, dens_val, List.drop_eq_nil_of_le (by simp [hl])] at h
 exact h
theorem bo_size : sizeT Tryz.prog 4 = some 1 := by kernel_rfl
theorem st_bo {w : World} {p : Nat} {v : Value} {b : Bool} (hp : w.heap[p]? = some (.cells #[v] 4)) : (storeVar 4 ⟨p, 0, none⟩ (.bool b)).run Tryz.prog w = .ok () (w.setRow p #[.bool b]) := by
 have h := run_stS (P := Tryz.prog) (ρ := { B := [b] }) (t := 4) (cs := [v].map .val) (vs := [.bool (.bv 0)]) (off := 0) (n := 1) (s := .bool (.bv 0)) (fun v hv => by cases hv) rfl bo_size rfl (by simp) (w := w) (b := p) (ty := 4) (by rw [dens_val]; exact hp)
 rw [over_den, dens_val, List.drop_eq_nil_of_le (by simp)] at h
 exact h
set_option maxRecDepth 100000 in
theorem catch_p (p q : Nat) (vs : List Value) (ok : Value) (older : List PanicEntry) (w : World) (hp : w.heap[p]? = some (.cells vs.toArray 56)) (hl : vs.length = 6) (hq : w.heap[q]? = some (.cells #[ok] 4)) (hpq : p ≠ q) :
  CallsD Tryz.prog 108 #[.pointer (some ⟨p, 0, none⟩), .pointer (some ⟨q, 0, none⟩)] (.panicking ({ v := .iface 139 (.agg #[]), recovered := false } :: older)) w fun e u' w' =>
   e = .returned (.tuple #[]) ∧ u' = .panicking ({ v := .iface 139 (.agg #[]), recovered := true } :: older) ∧ w' = (w.setRow p zeroC.toArray).setRow q #[.bool false] := by
 refine callsD_of_wpS Tryz.func108 rfl fun c₀ cs hu => ?_
 apply wpS_seq
 apply wpS_region
 simp [wpOpsS, go_sem, recoverD, hu, Tryz.ntmps108, Exit.thenS]
 refine wpS_of_wp ?_
 apply wp_seq
 refine wp_region_list ?_
 simp [wpList, go_sem, Exit.then]
 left; left
 refine wp_cond (t := true) (by simp [Act.eval, Array.replicate]) ?_
 simp only [if_true]
 apply wp_seq
 refine wp_region_list ?_
 have hta : ∀ w, (Instr.typeAssert (.iface 139 (.agg #[])) 20 139 false).run Tryz.prog w = .ok (.agg #[]) w := fun w => by
  simp [Instr.typeAssert, run_underlying (show Tryz.prog.underlying 139 = some (.struct #[]) by kernel_rfl), go_sem, Result.andThen]
 simp [wpList, go_sem, Exit.then, hta]
 left; left
 refine wp_region_list ?_
 have hst : (storeVar 56 ⟨p, 0, none⟩ (.agg zeroC.toArray)).run Tryz.prog w = .ok () (w.setRow p zeroC.toArray) := st_ex hp hl (by simp [Value.oneCell'])
 have hst2 : (storeVar 4 ⟨q, 0, none⟩ (.bool false)).run Tryz.prog (w.setRow p zeroC.toArray) = .ok () ((w.setRow p zeroC.toArray).setRow q #[.bool false]) := st_bo (v := ok) (by rw [setRow_other _ _ _ _ (Ne.symm hpq)]; exact hq)
 refine st_val (.agg zeroC.toArray) rfl (w' := w) (by simp [execOp, Instr.build, go_sem, zeroC]) (st_skip rfl (w' := w.setRow p zeroC.toArray) (by
  simp [execOp, Instr.storeAt, Instr.sureAddr, Act.eval, Act.put, hst]) (st_skip rfl (w' := (w.setRow p zeroC.toArray).setRow q #[.bool false]) (by
  simp [execOp, Instr.storeAt, Instr.sureAddr, Act.eval, Act.put, hst2]) (wpList_nil ?_)))
 simp [bodyPostS, results, Tryz.results108, Act.put]
theorem catch_i (p q : Nat) (w : World) : CallsD Tryz.prog 108 #[.pointer (some ⟨p, 0, none⟩), .pointer (some ⟨q, 0, none⟩)] .returning w fun e u' w' => e = .returned (.tuple #[]) ∧ u' = .returning ∧ w' = w := by
 refine callsD_of_wpS Tryz.func108 rfl fun c₀ cs hu => ?_
 apply wpS_seq
 apply wpS_region
 simp [wpOpsS, go_sem, recoverD, hu, Tryz.ntmps108, Exit.thenS]
 refine wpS_of_wp ?_
 apply wp_seq
 refine wp_region_list ?_
 simp [wpList, go_sem, Exit.then]
 left; left
 refine wp_cond (t := false) (by simp [Act.eval, Array.replicate]) ?_
 simp only [Bool.false_eq_true, if_false]
 refine wp_skip ?_
 cases c₀
 simp_all [bodyPostS, results, Tryz.results108]
theorem al_heap (w : World) (o : Obj) (k : Nat) : (w.alloc o).heap[k]? = if k = w.heap.size then some o else w.heap[k]? := by
 rw [show (w.alloc o).heap = w.heap.push o from rfl, Array.getElem?_push]
theorem al_size (w : World) (o : Obj) : (w.alloc o).heap.size = w.heap.size + 1 := by
 rw [show (w.alloc o).heap = w.heap.push o from rfl, Array.size_push]
def W3 (W : Wd) (a b c : Obj) : Wd := ⟨((W.w.alloc a).alloc b).alloc c, fun k => k < W.w.heap.size + 2, fun k h => by rw [al_size, al_size, al_size]; omega⟩
theorem W3_size (W : Wd) (a b c : Obj) : (W3 W a b c).w.heap.size = W.w.heap.size + 3 := by
 show (((W.w.alloc a).alloc b).alloc c).heap.size = _
 rw [al_size, al_size, al_size]
theorem W3_heap (W : Wd) (a b c : Obj) (k : Nat) : (W3 W a b c).w.heap[k]? = if k = W.w.heap.size + 1 + 1 then some c else if k = W.w.heap.size + 1 then some b else if k = W.w.heap.size then some a else W.w.heap[k]? := by
 show (((W.w.alloc a).alloc b).alloc c).heap[k]? = _
 rw [al_heap, al_heap, al_heap, al_size, al_size]
theorem W3_ext (W : Wd) (a b c : Obj) : Ext W (W3 W a b c) :=
 ⟨by rw [W3_size]; omega, fun k h => by have := W.lt k h; show k < _; omega, fun k h => by
  have := W.lt k h
  rw [W3_heap, if_neg (by omega), if_neg (by omega), if_neg (by omega)], rfl, rfl, rfl⟩
theorem cells6 {w : World} {m : Nat} {a b c d e f : Value} {ty : TypeId} (h : w.heap[m]? = some (.cells #[a, b, c, d, e, f] ty)) : w.cell? ⟨m, 0, none⟩ = some a ∧ w.cell? ⟨m, 1, none⟩ = some b ∧ w.cell? ⟨m, 2, none⟩ = some c ∧ w.cell? ⟨m, 3, none⟩ = some d ∧ w.cell? ⟨m, 4, none⟩ = some e ∧ w.cell? ⟨m, 5, none⟩ = some f := by
 simp [World.cell?, h]
theorem cells1 {w : World} {m : Nat} {a : Value} {ty : TypeId} (h : w.heap[m]? = some (.cells #[a] ty)) : w.cell? ⟨m, 0, none⟩ = some a := by simp [World.cell?, h]
theorem keeps_row {V : Wd} {w : World} (h : Keeps V w) {g : Nat} (hg : ¬ V.I g) (cs : Array Value) : Keeps V (w.setRow g cs) :=
 ⟨h.os, h.tape, h.output, by simpa using h.size, fun b hb => by
  rw [setRow_other _ _ _ _ (show b ≠ g from fun e => hg (by rw [← e]; exact hb))]; exact h.keep b hb⟩
def WholeEnd (n0 : Nat) (ts : List Lx.Tok) (v : Value) (w' : World) : Prop := ∃ op k n t nm al len cl, v = .tuple #[.agg #[.int .u8 op, .int .u8 k, .int .i64 n, .string t, .string nm, .slice al len cl], .bool (Px.whole ts).isSome] ∧ ∀ x, Px.whole ts = some x → ExAt w' (fun b => n0 ≤ b) x [.int .u8 op, .int .u8 k, .int .i64 n, .string t, .string nm, .slice al len cl]
set_option maxRecDepth 100000 in
theorem whole_i (a : Option Addr) (c : Nat) (ts : List Lx.Tok) (W : Wd) (hT : Toks W a c ts) (hG : Glob W) (hts : TsOk ts) : CallsI Tryz.prog 51 #[.slice a ts.length c] W (WholeEnd W.w.heap.size ts) := by
 have x3 := W3_ext W (.cells #[.int .u8 0, .int .u8 0, .int .i64 0, .string ⟨#[]⟩, .string ⟨#[]⟩, .slice none 0 0] 56) (.cells #[.bool false] 4) (.cells #[.slice a ts.length c] 142)
 have two := (read_ok (3 * ts.length + 2)).2 1 (W.w.heap.size + 1 + 1) a c ts _ (by rw [W3_heap, if_pos rfl]) (fun h => by have h : W.w.heap.size + 1 + 1 < W.w.heap.size + 2 := h; omega) (hT.ext x3) (hG.ext x3) hts (Nat.le_refl _)
 have hmf : ∀ (fn : Fn) (first cap : Array Value) (w : World), (Instr.makeFunc fn first cap).run Tryz.prog w = .ok (.func fn first cap) w := fun _ _ _ _ => rfl
 have hw : Px.whole ts = match Px.two (3 * ts.length + 2) 1 ts with
  | some (e, []) => some e
  | _ => none := rfl
 unfold CallsI CallsE
 go_enter_defers Tryz.func51, Tryz.ntmps51
 go_wp2_with fail
 rename_i Q' K1 hK1 K hK
 refine Calls.mono two fun e w' ⟨hk, hE⟩ => ?_
 have h0 : w'.heap[W.w.heap.size]? = some (.cells zeroC.toArray 56) := by
  rw [hk.keep _ (by show _ < _; omega), W3_heap, if_neg (by omega), if_neg (by omega), if_pos rfl]; rfl
 have h1 : w'.heap[W.w.heap.size + 1]? = some (.cells #[.bool false] 4) := by
  rw [hk.keep _ (by show _ < _; omega), W3_heap, if_neg (by omega), if_pos rfl]
 rcases hE.out with ⟨ho, rfl⟩ | ⟨x, r, a', c', op, k, nn, t', nm, al, len, cl, ho, rfl, hx, hh, hs⟩
 ·simp only []
  refine leaves_cons (f := 108) (args := #[.pointer (some ⟨W.w.heap.size, 0, none⟩), .pointer (some ⟨W.w.heap.size + 1, 0, none⟩)]) (by simp) (by simp [go_sem]) ?_
  refine (catch_p _ _ zeroC (.bool false) [] w' h0 rfl h1 (by omega)).mono ?_
  rintro e u' w'' ⟨rfl, rfl, rfl⟩
  generalize hF : (w'.setRow W.w.heap.size zeroC.toArray).setRow (W.w.heap.size + 1) #[.bool false] = F
  have f1 : F.heap[W.w.heap.size + 1]? = some (.cells #[.bool false] 4) := by rw [← hF]; exact setRow_heap _ _ _ _ _ (0, 0) (by rw [setRow_other _ _ _ _ (by omega)]; exact h1)
  have f0 : F.heap[W.w.heap.size]? = some (.cells #[.int .u8 0, .int .u8 0, .int .i64 0, .string ⟨#[]⟩, .string ⟨#[]⟩, .slice none 0 0] 56) := by rw [← hF, setRow_other _ _ _ _ (by omega)]; exact setRow_heap _ _ _ _ _ (0, 0) h0
  obtain ⟨g0, g1, g2, g3, g4, g5⟩ := cells6 f0
  have gb := cells1 f1
  simp [Leaves, settle, results, Tryz.results51, go_sem, g0, g1, g2, g3, g4, g5, gb]
  refine ⟨?_, _, rfl, 0, 0, 0, ⟨#[]⟩, ⟨#[]⟩, none, 0, 0, ?_, fun x hx => ?_⟩
  ·rw [← hF]; exact keeps_row (keeps_row (Keeps.start x3 hk) (fun h => by have := W.lt _ h; omega) _) (fun h => by have := W.lt _ h; omega) _
  ·rw [hw, ho]; rfl
  ·rw [hw, ho] at hx; cases hx
 ·simp only []
  have hst : (storeVar 56 ⟨W.w.heap.size, 0, none⟩ (.agg #[.int .u8 op, .int .u8 k, .int .i64 nn, .string t', .string nm, .slice al len cl])).run Tryz.prog w' = .ok () (w'.setRow W.w.heap.size #[.int .u8 op, .int .u8 k, .int .i64 nn, .string t', .string nm, .slice al len cl]) := st_ex h0 rfl (by simp [Value.oneCell'])
  refine hK _ _ (st_skip rfl (w' := w'.setRow W.w.heap.size #[.int .u8 op, .int .u8 k, .int .i64 nn, .string t', .string nm, .slice al len cl]) (by
   simp [execOp, Instr.storeAt, Instr.sureAddr, Act.eval, Act.put, hst]) (wpList_nil ?_))
  generalize hF : w'.setRow W.w.heap.size #[.int .u8 op, .int .u8 k, .int .i64 nn, .string t', .string nm, .slice al len cl] = F
  have f1 : F.heap[W.w.heap.size + 1]? = some (.cells #[.bool false] 4) := by rw [← hF, setRow_other _ _ _ _ (by omega)]; exact h1
  have f0 : F.heap[W.w.heap.size]? = some (.cells #[.int .u8 op, .int .u8 k, .int .i64 nn, .string t', .string nm, .slice al len cl] 56) := by rw [← hF]; exact setRow_heap _ _ _ _ _ (0, 0) h0
  have f2 : F.heap[W.w.heap.size + 1 + 1]? = some (.cells #[.slice a' r.length c'] 142) := by rw [← hF, setRow_other _ _ _ _ (by omega)]; exact hh
  obtain ⟨g0, g1, g2, g3, g4, g5⟩ := cells6 f0
  have gb := cells1 f1
  have gr := cells1 f2
  show K1 _ _
  refine hK1 _ _ ?_
  apply wp_seq
  clear hst hK hK1 hE two hmf
  refine wp_region_still_tail 8 (by kernel_rfl) (by kernel_rfl) ?_
  simp only [List.take_succ_cons, List.take_zero, List.drop_succ_cons, List.drop_zero]
  iterate 7 still_step
  have hst : (storeVar 56 ⟨W.w.heap.size, 0, none⟩ (.agg #[.int .u8 op, .int .u8 k, .int .i64 nn, .string t', .string nm, .slice al len cl])).run Tryz.prog F.drew = .ok () F.drew := by
   rw [st_ex (w := F.drew) (vs := [.int .u8 op, .int .u8 k, .int .i64 nn, .string t', .string nm, .slice al len cl]) (show F.drew.heap[_]? = _ from f0) rfl (by simp [Value.oneCell']), setRow_same (w := F.drew) f0]
  refine stl_skip rfl (by simp [execOp, Instr.storeAt, Instr.sureAddr, Act.eval, Act.put, hst]) (wpStill_nil ?_)
  have hst2 : (storeVar 4 ⟨W.w.heap.size + 1, 0, none⟩ (.bool ((r.length : Int) == 0))).run Tryz.prog F.drew = .ok () (F.drew.setRow (W.w.heap.size + 1) #[.bool ((r.length : Int) == 0)]) := st_bo (v := .bool false) f1
  refine st_skip rfl (w' := F.drew.setRow (W.w.heap.size + 1) #[.bool ((r.length : Int) == 0)]) (by simp [execOp, Instr.storeAt, Instr.sureAddr, Act.eval, Act.put, hst2]) (wpList_nil ?_)
  generalize hG' : F.drew.setRow (W.w.heap.size + 1) #[.bool ((r.length : Int) == 0)] = G
  have k1 : G.heap[W.w.heap.size + 1]? = some (.cells #[.bool ((r.length : Int) == 0)] 4) := by rw [← hG']; exact setRow_heap _ _ _ _ _ (0, 0) f1
  have k0 : G.heap[W.w.heap.size]? = some (.cells #[.int .u8 op, .int .u8 k, .int .i64 nn, .string t', .string nm, .slice al len cl] 56) := by rw [← hG', setRow_other _ _ _ _ (by omega)]; exact f0
  show Code.wp _ _ _ _ _
  refine wp_ret ?_
  clear hst hst2
  refine leaves_cons (f := 108) (args := #[.pointer (some ⟨W.w.heap.size, 0, none⟩), .pointer (some ⟨W.w.heap.size + 1, 0, none⟩)]) (by simp [Act.put]) (by simp [go_sem]) ?_
  refine (catch_i _ _ G).mono ?_
  rintro e u' w'' ⟨rfl, rfl, rfl⟩
  obtain ⟨q0, q1, q2, q3, q4, q5⟩ := cells6 k0
  have qb := cells1 k1
  simp [Leaves, settle, results, Tryz.results51, go_sem, q0, q1, q2, q3, q4, q5, qb, Act.put]
  refine ⟨?_, _, rfl, op, k, nn, t', nm, al, len, cl, ?_, fun y hy => ?_⟩
  ·have hkF : Keeps W F := by rw [← hF]; exact keeps_row (Keeps.start x3 hk) (fun h => by have := W.lt _ h; omega) _
   have hkD : Keeps W F.drew := ⟨hkF.os, hkF.tape, hkF.output, hkF.size, hkF.keep⟩
   rw [← hG']; exact keeps_row hkD (fun h => by have := W.lt _ h; omega) _
  ·rw [hw, ho]
   cases r <;> simp
   omega
  ·rw [hw, ho] at hy
   cases r with
   | cons _ _ => cases hy
   | nil =>
    obtain rfl := Option.some.inj hy
    refine ExAt.move (fun b hb _ => ?_) hx
    have hb : W.w.heap.size + 3 ≤ b := by rw [W3_size] at hb; exact hb
    refine ⟨by omega, ?_⟩
    rw [← hG', setRow_other _ _ _ _ (by omega)]
    show F.heap[b]? = _
    rw [← hF, setRow_other _ _ _ _ (by omega)]
end Go.Proofs.YtkpjmlnhhggenaaGreatDoor
end
section
/- What is left to show of functions, as the walk that the kernel computes finds it (written by wip/vc2.py). -/
namespace Go.Proofs.YtkpjmlnhhggenaaGreatDoor
open Go Go.RowKit Go.SF
set_option maxRecDepth 100000
@[reducible] def dd3_0_0 : Sy := (.agg [(.int .u8 (.iv 1)), (.int .u8 (.iv 2)), (.int .i64 (.iv 3)), (.str (.tv 1)), (.str (.tv 2)), (.slc 1 (.nv 2) (.nv 3))])
@[reducible] def dd3_0_1 : Sy := (.agg [(.int .u8 (.il 0)), (.int .u8 (.il 0)), (.int .i64 (.il 0)), (.str (.tl [])), (.str (.tl [])), .nils])
@[reducible] def t_parse_1 : Tree := (.wr (.ret (.tup [dd3_0_1, (.int .i64 (.iv 0))]) [] [] []))
@[reducible] def t_parse_2 : Tree := (.wr (.ret (.tup [dd3_0_1, (.int .i64 (.il 4))]) [] [] []))
@[reducible] def t_parse_3 : Tree := (.wr (.ret (.tup [dd3_0_1, (.int .i64 (.il 40))]) [] [] []))
@[reducible] def t_parse_4 : Tree := (.wr (.ret (.tup [dd3_0_0, (.int .i64 (.il 0))]) [] [] []))
@[reducible] def t_parse_5 : Tree := (.call 52 [dd3_0_0] [] [] [] (.int .i64 (.iv 4)) kk0 (.br (.bin .lt (.il 16) (.iv 4)) t_parse_3 t_parse_4))
@[reducible] def t_parse_6 : Tree := (.call 51 [(.slc 0 (.nv 0) (.nv 1))] [] [] [] (.tup [dd3_0_0, (.bool (.bv 0))]) ⟨3, 2, 1, 2, 0, 1, 0, 0⟩ (.new (.wr (.br (.un .not (.bv 0)) t_parse_2 t_parse_5))))
@[reducible] def t_parse : Tree :=
(.new (.call 50 [(.str (.tv 0))] [] [] [] (.tup [(.slc 0 (.nv 0) (.nv 1)), (.int .i64 (.iv 0))]) ⟨1, 2, 0, 0, 0, 1, 0, 0⟩ (.br (.un .not (.bin .ieq (.iv 0) (.il 0))) t_parse_1 t_parse_6)))
theorem x_parse : xfn Tryz.prog kc Tryz.f23 [(.str (.tv 0))] [] [] kk6 = some t_parse := by kernel_rfl
theorem vc_parse (t0 : ByteArray) (W : Wd) (R : Ending → World → Prop) (h : t_parse.den Tryz.prog W.w.heap.size R [] { T := [t0] } W) : CallsE Tryz.prog 23 #[.string t0] W R :=
 fn_calls Tryz.func23 _ _ { T := [t0] } _ x_parse (fun v hv => by cases hv) h
end Go.Proofs.YtkpjmlnhhggenaaGreatDoor
end
section
/- The tree of a text; whether two trees are the same. -/
namespace Go.Proofs.YtkpjmlnhhggenaaGreatDoor
open Go Go.RowKit Go.SF
theorem lexT_ok : ∀ (n : Nat) (m : Lx.Bs) (ts : List Lx.Tok), m.length ≤ 100 → Lx.lexT n m = some ts → TsOk ts
 | 0, m, ts, _, h => by simp [Lx.lexT] at h
 | n + 1, [], ts, _, h => by
  simp only [Lx.lexT, Option.some.injEq] at h
  subst h
  intro t ht; cases ht
 | n + 1, c :: r, ts, hl, h => by
  simp only [Lx.lexT] at h
  split at h
  ·cases h
  ·rename_i hc
   simp only [Bool.or_eq_true, not_or, decide_eq_true_eq, Bool.not_eq_true', Bool.not_eq_false] at hc
   obtain ⟨ts', h1, rfl⟩ := Px.map_some h
   have hd := Lx.trim_le ((c :: r).drop (Lx.first (c :: r)).2)
   rw [List.length_drop] at hd
   have ih := lexT_ok n _ ts' (by omega) h1
   intro t ht
   rcases List.mem_cons.1 ht with rfl | ht
   ·refine ⟨hc.2, ?_⟩
    have := @first_text (c :: r)
    omega
   ·exact ih t ht
theorem lex_ok (s : Lx.Bs) : TsOk (Lx.lex s).1 := by
 unfold Lx.lex
 split
 ·intro t ht; cases ht
 ·split
  ·rename_i ts h
   exact lexT_ok _ _ ts (by have := Lx.trim_le s; omega) h
  ·intro t ht; cases ht
theorem zero_ex (w : World) (J : Nat → Prop) : ExAt w J Px.none_ [.int .u8 0, .int .u8 0, .int .i64 0, .string ⟨#[]⟩, .string ⟨#[]⟩, .slice none 0 0] := ExAt.leaf w J 0 0 0 [] []
theorem lexT_len : ∀ (n : Nat) (m : Lx.Bs) (ts : List Lx.Tok), Lx.lexT n m = some ts → ts.length ≤ m.length
 | 0, m, ts, h => by simp [Lx.lexT] at h
 | n + 1, [], ts, h => by
  simp only [Lx.lexT, Option.some.injEq] at h
  subst h; simp
 | n + 1, c :: r, ts, h => by
  simp only [Lx.lexT] at h
  split at h
  ·cases h
  ·rename_i hc
   simp only [Bool.or_eq_true, not_or, decide_eq_true_eq, Bool.not_eq_true', Bool.not_eq_false] at hc
   obtain ⟨ts', h1, rfl⟩ := Px.map_some h
   have ih := lexT_len n _ ts' h1
   have hd := Lx.trim_le ((c :: r).drop (Lx.first (c :: r)).2)
   rw [List.length_drop] at hd
   have h0 := hc.1
   simp only [List.length_cons] at *
   omega
theorem lex_len (s : Lx.Bs) : (Lx.lex s).1.length ≤ 100 := by
 unfold Lx.lex
 split
 ·simp
 ·split
  ·rename_i ts h
   have := lexT_len _ _ ts h
   have := Lx.trim_le s
   show ts.length ≤ 100
   omega
  ·simp
theorem TsOk.small {ts : List Lx.Tok} (h : TsOk ts) : Px.Small ts := fun t ht => Nat.le_trans (h t ht).2 (by decide)
theorem whole_fine {ts : List Lx.Tok} {x : Px.Ex} (hs : TsOk ts) (h : Px.whole ts = some x) : Px.thin x = true ∧ Px.deep x ≤ ts.length := by
 unfold Px.whole at h
 split at h
 ·rename_i e h1
  obtain rfl := Option.some.inj h
  have := Px.two_fine hs.small h1
  exact ⟨this.1, by have := this.2; simp at this; omega⟩
 ·cases h
theorem parse_i' (t : ByteArray) (W : Wd) (hG : Glob W) : CallsI Tryz.prog 23 #[.string t] W.all fun v w' => ∃ op k n tt nm al len cl, v = .tuple #[.agg #[.int .u8 op, .int .u8 k, .int .i64 n, .string tt, .string nm, .slice al len cl], .int .i64 (Px.parse t.data.toList).2] ∧
  ExAt w' (fun b => W.w.heap.size ≤ b) (Px.parse t.data.toList).1 [.int .u8 op, .int .u8 k, .int .i64 n, .string tt, .string nm, .slice al len cl] := by
 refine vc_parse t W.all _ ?_
 have hG := hG.ext W.all_ext
 refine den_new fun m W1 _ x1 => den_call_i (fun _ _ => lex_i t W1 (hG.ext x1)) fun v w' _ ⟨a, c, hv, hT⟩ => ⟨(Lx.lex t.data.toList).2, (Lx.lex t.data.toList).1.length, c, a, hv, fun W2 e2 y2 n2 => ?_⟩
 have x2 := ext_trans x1 y2
 have hT2 : Toks W2 a c (Lx.lex t.data.toList).1 := SlAt.stay hT e2 n2
 simp only [zP]
 refine den_br (fun c0 => den_wr fun _ _ => den_ret fun _ _ _ => ⟨_, rfl, 0, 0, 0, ⟨#[]⟩, ⟨#[]⟩, none, 0, 0, ?_, ?_⟩) fun c0 => ?_
 ·have c0 : ¬ (Lx.lex t.data.toList).2 = 0 := by simpa [Sy.dens, Sy.den, E.i, E.b, E.t, gd, Env.push, z_a, z_b, z_c, z_d] using c0
  simp only [Px.parse, c0, if_false]; rfl
 ·have c0 : ¬ (Lx.lex t.data.toList).2 = 0 := by simpa [Sy.dens, Sy.den, E.i, E.b, E.t, gd, Env.push, z_a, z_b, z_c, z_d] using c0
  simp only [Px.parse, c0, if_false]
  exact zero_ex _ _
 ·have c0 : (Lx.lex t.data.toList).2 = 0 := by simpa [Sy.dens, Sy.den, E.i, E.b, E.t, gd, Env.push, z_a, z_b, z_c, z_d] using c0
  have hlen := lex_len t.data.toList
  refine den_call_i (fun _ _ => whole_i a c _ W2.all (hT2.ext W2.all_ext) ((hG.ext x2).ext W2.all_ext) (lex_ok _)) fun v w' _ ⟨op, k, n, tt, nm, al, len, cl, hv, hX⟩ => ⟨op, k, n, len, cl, (Px.whole (Lx.lex t.data.toList).1).isSome, tt, nm, al, hv, fun W3 e3 y3 n3 => ?_⟩
  simp only [zP]
  refine den_new fun m2 W4 _ x4 => den_wr fun W5 x5 => den_br (fun c1 => den_wr fun _ _ => den_ret fun _ _ _ => ⟨_, rfl, 0, 0, 0, ⟨#[]⟩, ⟨#[]⟩, none, 0, 0, ?_, ?_⟩) fun c1 => ?_
  ·have c1 : Px.whole (Lx.lex t.data.toList).1 = none := by simpa [Sy.dens, Sy.den, E.i, E.b, E.t, gd, Env.push, z_a, z_b, z_c, z_d] using c1
   simp only [Px.parse, c0, if_true, c1]; rfl
  ·have c1 : Px.whole (Lx.lex t.data.toList).1 = none := by simpa [Sy.dens, Sy.den, E.i, E.b, E.t, gd, Env.push, z_a, z_b, z_c, z_d] using c1
   simp only [Px.parse, c0, if_true, c1]
   exact zero_ex _ _
  ·have c1 : (Px.whole (Lx.lex t.data.toList).1).isSome = true := by simpa [Sy.dens, Sy.den, E.i, E.b, E.t, gd, Env.push, z_a, z_b, z_c, z_d] using c1
   obtain ⟨x, hx⟩ := Option.isSome_iff_exists.1 c1
   obtain ⟨hth, hdp⟩ := whole_fine (lex_ok _) hx
   have hX3 : ExS W3 W.all.w.heap.size x _ := ExAt.stay (hX x hx) e3 n3 (by exact x2.size)
   have hX5 := (hX3.ext x4).ext x5
   have e1 : Px.parse t.data.toList = if 16 < Px.deep x then (Px.none_, 40) else (x, 0) := by simp only [Px.parse, c0, if_true, hx]
   refine den_call_q (fun _ _ => depth_q 1000000 x _ W5 (by omega) (Nat.le_refl _) hth hX5.i) ⟨((Px.deep x : Nat) : Int), rfl, fun W6 x6 => ?_⟩
   simp only [zP]
   refine den_br (fun c2 => den_wr fun _ _ => den_ret fun _ _ _ => ⟨_, rfl, 0, 0, 0, ⟨#[]⟩, ⟨#[]⟩, none, 0, 0, ?_, ?_⟩) fun c2 => den_wr fun W7 x7 => den_ret fun _ _ _ => ⟨_, rfl, op, k, n, tt, nm, al, len, cl, ?_, ?_⟩
   ·have c2 : 16 < Px.deep x := by simp only [zE, ltB_true] at c2; omega
    rw [e1, if_pos c2]; rfl
   ·have c2 : 16 < Px.deep x := by simp only [zE, ltB_true] at c2; omega
    rw [e1, if_pos c2]; exact zero_ex _ _
   ·have c2 : ¬ 16 < Px.deep x := by simp only [zE, ltB_false] at c2; omega
    rw [e1, if_neg c2]; rfl
   ·have c2 : ¬ 16 < Px.deep x := by simp only [zE, ltB_false] at c2; omega
    rw [e1, if_neg c2]; exact ((hX5.ext x6).ext x7).new
end Go.Proofs.YtkpjmlnhhggenaaGreatDoor
end
section
/- What is left to show of functions, as the walk that the kernel computes finds it (written by wip/vc2.py). -/
namespace Go.Proofs.YtkpjmlnhhggenaaGreatDoor
open Go Go.RowKit Go.SF
set_option maxRecDepth 100000
@[reducible] def t_plain_1 : Tree := (.chk (.bin .le (.il 0) (.iv 0)) (.br (.bin .bor (.bin .bor (.bin .lt (.bin .byte (.tv 0) (.iv 0)) (.il 32)) (.bin .lt (.il 126) (.bin .byte (.tv 0) (.iv 0)))) (.bin .ieq (.bin .byte (.tv 0) (.iv 0)) (.il 39))) (.ret (.bool (.bl false)) [] [] []) (.again 0 [(.int .i64 (.un (.wrap .i64) (.bin .add (.iv 0) (.il 1))))] [])))
@[reducible] def t_plain_2 : Tree := (.br (.bin .lt (.iv 0) (.un .len (.tv 0))) t_plain_1 (.ret (.bool (.bin .le (.un .len (.tv 0)) (.il 40))) [] [] []))
@[reducible] def t_plain : Tree :=
(.loop [(.int .i64 (.il 0))] [] [(.int .i64 (.iv 0))] [] kk0 t_plain_2)
theorem x_plain : xfn Tryz.prog { kc with inl := [55, 56, 57], loops := [⟨2, [.tm 6]⟩] } Tryz.f58 [(.str (.tv 0))] [] [] kk6 = some t_plain := by kernel_rfl
theorem vc_plain (t0 : ByteArray) (W : Wd) (R : Ending → World → Prop) (h : t_plain.den Tryz.prog W.w.heap.size R [] { T := [t0] } W) : CallsE Tryz.prog 58 #[.string t0] W R :=
 fn_calls Tryz.func58 _ _ { T := [t0] } _ x_plain (fun v hv => by cases hv) h
@[reducible] def t_vmay_1 : Tree := (.ret (.bool (.bin .band (.bin .ieq (.iv 0) (.il 0)) (.bin .band (.bin .ieq (.iv 1) (.il 0)) (.bin .teq (.tv 0) (.tl []))))) [] [] [])
@[reducible] def t_vmay_2 : Tree := (.grow (.ret (.bool (.bin .band (.bin .ieq (.iv 0) (.il 1)) (.bin .band (.bin .ieq (.iv 1) (.iv 1)) (.bin .teq (.tv 0) (.tl []))))) [] [] []))
@[reducible] def t_vmay_3 : Tree := (.grow (.ret (.bool (.bin .band (.bin .ieq (.iv 0) (.il 2)) (.bin .band (.bin .ieq (.iv 1) (.il 1)) (.bin .teq (.tv 0) (.tl []))))) [] [] []))
@[reducible] def t_vmay_4 : Tree := (.grow (.ret (.bool (.bin .band (.bin .ieq (.iv 0) (.il 2)) (.bin .band (.bin .ieq (.iv 1) (.il 0)) (.bin .teq (.tv 0) (.tl []))))) [] [] []))
@[reducible] def t_vmay_5 : Tree := (.callq 58 [(.str (.tv 0))] [] [] (.bool (.bv 0)) kk1 (.grow (.ret (.bool (.bv 0)) [] [] [])))
@[reducible] def t_vmay_6 : Tree := (.br (.bin .band (.bin .ieq (.iv 0) (.il 3)) (.bin .band (.bin .ieq (.iv 1) (.il 0)) (.bin .teq (.tv 0) (.tv 0)))) t_vmay_5 (.grow (.ret (.bool (.bl false)) [] [] [])))
@[reducible] def t_vmay_7 : Tree := (.br (.bin .ieq (.iv 0) (.il 2)) (.br (.un .not (.bin .ieq (.iv 1) (.il 0))) t_vmay_3 t_vmay_4) (.br (.bin .ieq (.iv 0) (.il 3)) t_vmay_6 (.ret (.bool (.bl false)) [] [] [])))
@[reducible] def t_vmay : Tree :=
(.new (.br (.bin .ieq (.iv 0) (.il 0)) t_vmay_1 (.br (.bin .ieq (.iv 0) (.il 1)) t_vmay_2 t_vmay_7)))
theorem x_vmay : xfn Tryz.prog { kc with inl := [55, 56, 57] } Tryz.f25 [(.agg [(.int .u8 (.iv 0)), (.int .i64 (.iv 1)), (.str (.tv 0))])] [] [] ⟨2, 0, 0, 1, 0, 0, 0, 0⟩ = some t_vmay := by kernel_rfl
theorem vc_vmay (i0 i1 : Int) (t0 : ByteArray) (W : Wd) (R : Ending → World → Prop) (h : t_vmay.den Tryz.prog W.w.heap.size R [] { I := [i0, i1], T := [t0] } W) : CallsE Tryz.prog 25 #[.agg #[.int .u8 i0, .int .i64 i1, .string t0]] W R :=
 fn_calls Tryz.func25 _ _ { I := [i0, i1], T := [t0] } _ x_vmay (fun v hv => by cases hv) h
end Go.Proofs.YtkpjmlnhhggenaaGreatDoor
end
section
/- Values in plain Lean: what each operator comes to. No program in sight. -/
namespace Va
structure V where
 k : Int
 n : Int
 t : ByteArray
def none : V := ⟨0, 0, ⟨#[]⟩⟩
def num (n : Int) : V := ⟨1, n, ⟨#[]⟩⟩
def truth (b : Bool) : V := ⟨2, if b then 1 else 0, ⟨#[]⟩⟩
def text (s : ByteArray) : V := ⟨3, 0, s⟩
def inR (x : Int) : Bool := decide (-9223372036854775808 ≤ x) && decide (x ≤ 9223372036854775807)
def told (x : Int) : V × Int := if inR x then (num x, 0) else (none, 20)
def numbers (op a b : Int) : V × Int :=
 if op = 5 then told (a * b)
 else if op = 6 then (if b = 0 then (none, 21) else told (a.tdiv b))
 else if op = 7 then (if b = 0 then (none, 21) else if inR (a.tdiv b) then (num (a.tmod b), 0) else (none, 20))
 else if op = 8 then told (a + b)
 else told (a - b)
def cmpi (a b : Int) : Int := if a < b then -1 else if b < a then 1 else 0
def cmp (a b : V) : Int := if a.k = 3 then Go.Lib.compareBytes a.t.data.toList b.t.data.toList else cmpi a.n b.n
def yes (a : V) : Bool := (a.k == 2) && (a.n != 0)
def equal (a b : V) : Bool := if a.k = 2 then yes a == yes b else cmp a b == 0
def fits (op ak bk : Int) : Bool :=
 (ak == bk) && (((ak == 1) && (op != 13) && (op != 14)) || ((ak == 2) && ((op == 11) || (op == 12) || (op == 13) || (op == 14))) || ((ak == 3) && ((op == 8) || (op == 9) || (op == 10) || (op == 11) || (op == 12))))
def sum (s t : ByteArray) : V × Int := if 40 < s.size + t.size then (none, 20) else (text (s ++ t), 0)
def two (op : Int) (a b : V) : V × Int :=
 if op < 5 ∨ 15 < op then (none, 4)
 else if fits op a.k b.k = false then (none, 23)
 else if op = 9 then (truth (decide (cmp a b < 0)), 0)
 else if op = 10 then (truth (decide (cmp a b ≤ 0)), 0)
 else if op = 11 then (truth (equal a b), 0)
 else if op = 12 then (truth (!equal a b), 0)
 else if op = 13 then (truth (yes a && yes b), 0)
 else if op = 14 then (truth (yes a || yes b), 0)
 else if a.k = 3 then sum a.t b.t
 else numbers op a.n b.n
def one (op : Int) (v : V) : V × Int :=
 if op = 3 then (if v.k = 1 then told (0 - v.n) else (none, 23))
 else if op = 4 then (if v.k = 2 then (truth (!yes v), 0) else (none, 23))
 else if op = 16 then (if v.k = 3 then (num v.t.size, 0) else (none, 23))
 else (none, 4)
end Va
namespace Va
theorem wrap_in {p : Int} (h : inR p = true) : -9223372036854775808 ≤ p ∧ p ≤ 9223372036854775807 := by simpa [inR] using h
end Va
end
section
/- Facts on products, sums, differences and quotients of 64 bits. -/
namespace Va
open Go Go.RowKit
def Fit (x : Int) : Prop := -9223372036854775808 ≤ x ∧ x ≤ 9223372036854775807
theorem Fit.iff {x : Int} : Fit x ↔ inR x = true := by simp [Fit, inR]
theorem Fit.wrap {x : Int} (h : Fit x) : wrap64 x = x := IntWalk.wrap64_in x ⟨h.1, by have := h.2; omega⟩
theorem abs_fit (x : Int) (h : x.natAbs ≤ 9223372036854775807) : Fit x := by unfold Fit; omega
theorem tdiv_abs (a b : Int) : (a.tdiv b).natAbs ≤ a.natAbs := by rw [Int.natAbs_tdiv]; exact Nat.div_le_self _ _
theorem tdiv_abs2 (a b : Int) (h : 2 ≤ b.natAbs) : (a.tdiv b).natAbs ≤ a.natAbs / 2 := by rw [Int.natAbs_tdiv]; exact Nat.div_le_div_left h (by omega)
theorem tdiv_fit (a b : Int) (ha : Fit a) (hb : b ≠ 0) (h : ¬ (a = -9223372036854775808 ∧ b = -1)) : Fit (a.tdiv b) := by
 have hle := tdiv_abs a b
 unfold Fit at ha
 by_cases h1 : a = -9223372036854775808
 ·by_cases hb1 : b = 1
  ·subst hb1; rw [Int.tdiv_one]; unfold Fit; omega
  ·have := tdiv_abs2 a b (by omega)
   exact abs_fit _ (by omega)
 ·exact abs_fit _ (by omega)
theorem tdiv_min : ((-9223372036854775808 : Int).tdiv (-1)) = 9223372036854775808 := by decide
theorem whole_ok (a b : Int) (ha : Fit a) (hb : b ≠ 0) : ((a != -9223372036854775808) || (b != -1)) = inR (a.tdiv b) := by
 rw [Bool.eq_iff_iff, ← Fit.iff]
 constructor
 ·intro h
  refine tdiv_fit a b ha hb fun c => ?_
  simp [c.1, c.2] at h
 ·intro h
  by_cases h1 : a = -9223372036854775808
  ·by_cases h2 : b = -1
   ·subst h1; subst h2; rw [tdiv_min] at h; unfold Fit at h; omega
   ·simp [h2]
  ·simp [h1]
end Va
end
section
/- Plain facts for the document's own answer, layer 9. -/
namespace Va
open Go Go.RowKit
end Va
end
section
/- Values in plain Lean, second part: what may be, what an operator of one comes to, a value's text. -/
namespace Va
open Go
def okc (c : UInt8) : Bool := !(((c.toNat : Int) < 32 : Bool) || ((126 < (c.toNat : Int) : Bool)) || ((c.toNat : Int) == 39))
def plain (t : ByteArray) : Bool := t.data.toList.all okc && decide ((t.size : Int) ≤ 40)
def may (v : V) : Bool :=
 if v.k = 0 then (v.n == 0) && (v.t.data.toList == [])
 else if v.k = 1 then v.t.data.toList == []
 else if v.k = 2 then ((v.n == 0) || (v.n == 1)) && (v.t.data.toList == [])
 else if v.k = 3 then (v.n == 0) && plain v.t
 else false
end Va
end
section
/- The contracts of package value: what may be. -/
namespace Go.Proofs.YtkpjmlnhhggenaaGreatDoor
open Go Go.RowKit Go.SF
namespace Vs
theorem gd_drop (l : List UInt8) (i : Nat) (h : i < l.length) : l.drop i = gd l i 0 :: l.drop (i + 1) := by
 rw [gd_get' h]; exact List.drop_eq_getElem_cons h
theorem size_len (t : ByteArray) : t.data.toList.length = t.size := by rw [Array.length_toList]; rfl
theorem leB_t {a b : Int} (h : a ≤ b) : leB a b = true := by simpa [leB] using h
theorem wrap_i {x : Int} (h0 : -9223372036854775808 ≤ x) (h1 : x ≤ 9223372036854775807) : IntKind.i64.wrap x = x := wrap_in .i64 x (by simpa [IntKind.min, IntKind.bits, IntKind.signed] using h0) (by simpa [IntKind.max, IntKind.bits, IntKind.signed] using h1)
theorem plain_q (t : ByteArray) (ht : t.size ≤ 9223372036854775807) (W : Wd) : CallsQ Tryz.prog 58 #[.string t] W (.bool (Va.plain t)) := by
 refine vc_plain t W.all _ ?_
 refine den_loop (fun n vs ls _ => ∃ i : Nat, vs = [.int .i64 (i : Int)] ∧ ls = [] ∧ i ≤ t.size ∧ n = t.size - i ∧ (t.data.toList.drop i).all Va.okc = t.data.toList.all Va.okc) t.size ⟨0, rfl, rfl, Nat.zero_le _, rfl, rfl⟩ ?_
 rintro n vs ls W' x ⟨i, rfl, rfl, hi, rfl, ha⟩
 have hs := size_len t
 refine ⟨(i : Int), rfl, rfl, fun _ => ?_⟩
 simp only [zP]
 refine den_br (fun c => ?_) fun c => ?_
 ·simp only [zE, ltB_true] at c
  have hd := gd_drop t.data.toList i (by omega)
  rw [hd, List.all_cons] at ha
  refine den_chk ?_ (den_br (fun c2 => ?_) fun c2 => ?_)
  ·simp only [zE]; exact leB_t (by omega)
  ·simp only [zE] at c2
   have hk : Va.okc (gd t.data.toList i 0) = false := by unfold Va.okc; simp only [ltB] at c2; simp [c2]
   rw [hk, Bool.false_and] at ha
   refine den_ret fun _ _ _ => ⟨_, rfl, ?_⟩
   simp [Va.plain, ← ha, Sy.den, E.b]
  ·simp only [zE] at c2
   have hk : Va.okc (gd t.data.toList i 0) = true := by unfold Va.okc; simp only [ltB] at c2; rw [c2]; rfl
   rw [hk, Bool.true_and] at ha
   refine den_again ⟨t.size - (i + 1), by omega, i + 1, ?_, rfl, by omega, rfl, ha⟩
   simp only [zE]
   rw [wrap_i (by omega) (by omega)]; rfl
 ·simp only [zE, ltB_false] at c
  refine den_ret fun _ _ _ => ⟨_, rfl, ?_⟩
  have : t.data.toList.drop i = [] := List.drop_eq_nil_of_le (by omega)
  rw [this] at ha
  simp [Va.plain, ← ha, Sy.dens, Sy.den, E.i, E.b, E.t, gd, Env.push, z_a, z_b, z_c, z_d, leB]
  try rfl
theorem may_q (k n : Int) (t : ByteArray) (ht : t.size ≤ 9223372036854775807) (W : Wd) : CallsQ Tryz.prog 25 #[.agg #[.int .u8 k, .int .i64 n, .string t]] W (.bool (Va.may ⟨k, n, t⟩)) := by
 refine vc_vmay k n t W.all _ ?_
 have h := plain_q t ht
 repeat' (first | (with_reducible refine den_br (fun _ => ?_) (fun _ => ?_)) | (with_reducible refine den_new fun _ _ _ _ => ?_) | (with_reducible refine den_wr fun _ _ => ?_) | (with_reducible refine den_grow fun _ _ => ?_) | (with_reducible refine den_ret fun _ _ _ => ?_))
 all_goals try ((with_reducible refine den_callq ?_); refine ⟨Va.plain t, fun W' x _ _ => h W', ?_⟩)
 repeat' (first | (with_reducible refine den_br (fun _ => ?_) (fun _ => ?_)) | (with_reducible refine den_new fun _ _ _ _ => ?_) | (with_reducible refine den_wr fun _ _ => ?_) | (with_reducible refine den_grow fun _ _ => ?_) | (with_reducible refine den_ret fun _ _ _ => ?_))
 all_goals (try refine ⟨_, rfl, ?_⟩)
 all_goals simp only [zE] at *
 all_goals generalize hp : Va.plain t = p at *
 all_goals first | (simp_all [Va.may]; done) | (simp only [Va.may, hp]; cases h0 : n == 0 <;> simp_all)
end Vs
end Go.Proofs.YtkpjmlnhhggenaaGreatDoor
end
section
/- Types of expressions in plain Lean. No program in sight. -/
namespace Tx
open Go
open Px
structure Var where
 name : Lx.Bs
 k : Int
 n : Int
 t : Lx.Bs
def argTab : List Int := [0, 0, 0, 1, 1, 2, 2, 2, 2, 2, 2, 2, 2, 2, 2, 2, 1]
def argN (o : Int) : Int := argTab.getD o.toNat 0
def sortTab : List (List (Int × Int)) := [[], [], [], [(1, 1)], [(2, 2)], [(1, 1)], [(1, 1)], [(1, 1)], [(1, 1), (3, 3)], [(1, 2), (3, 2)], [(1, 2), (3, 2)], [(1, 2), (2, 2), (3, 2)], [(1, 2), (2, 2), (3, 2)], [(2, 2)], [(2, 2)], [(1, 1)], [(3, 1)]]
def sortsOf (o : Int) : List (Int × Int) := sortTab.getD o.toNat []
def whole : Nat → Ex → Bool
 | 0, _ => false
 | n + 1, .mk op k m t nm l => (decide (1 ≤ op) && decide (op ≤ 16)) && (((l.length : Int) == argN op) && ((op != 1 || Va.may ⟨k, m, ⟨t.toArray⟩⟩) && l.all (whole n)))
def known (k : Int) : Int × Int := if k < 1 ∨ 3 < k then (0, 23) else (k, 0)
def sorted (o : Int) (sides : List Int) : Int × Int := match (sortsOf o).find? fun s => sides.all (· == s.1) with
 | some s => (s.2, 0)
 | none => (0, 23)
def named (vars : List Var) (nm : Lx.Bs) : Int × Int := match vars.find? fun v => v.name == nm with
 | some v => known v.k
 | none => (0, 22)
mutual
def typed (vars : List Var) : Ex → Int × Int
 | .mk op k n t nm l => if op = 1 then known k else if op = 2 then named vars nm else match typeds vars l with
  | .error f => (0, f)
  | .ok sides => sorted op sides
def typeds (vars : List Var) : List Ex → Except Int (List Int)
 | [] => .ok []
 | e :: l => if (typed vars e).2 = 0 then (match typeds vars l with
   | .error f => .error f
   | .ok r => .ok ((typed vars e).1 :: r)) else .error (typed vars e).2
end
def type (vars : List Var) (e : Ex) : Int × Int := if whole 16 e then typed vars e else (0, 4)
theorem whole_all {n : Nat} {l : List Ex} (h : l.all (whole n) = true) {e : Ex} (he : e ∈ l) : whole n e = true := List.all_eq_true.1 h e he
theorem typeds_snoc (vars : List Var) (l : List Ex) (e : Ex) : typeds vars (l ++ [e]) = match typeds vars l with
  | .error f => .error f
  | .ok r => if (typed vars e).2 = 0 then .ok (r ++ [(typed vars e).1]) else .error (typed vars e).2 := by
 induction l with
 | nil =>
  simp only [z_b, typeds]
 | cons x l ih =>
  simp only [z_a, typeds, ih]
  by_cases hx : (typed vars x).2 = 0
  ·rw [if_pos hx, if_pos hx]
   cases typeds vars l with
   | error f => rfl
   | ok r =>
    dsimp only
    by_cases he : (typed vars e).2 = 0
    ·rw [if_pos he, if_pos he]; rfl
    ·rw [if_neg he, if_neg he]
  ·rw [if_neg hx, if_neg hx]
theorem typeds_err {vars : List Var} {l : List Ex} {f : Int} (m : List Ex) (h : typeds vars l = .error f) : typeds vars (l ++ m) = .error f := by
 induction l with
 | nil => cases h
 | cons x l ih =>
  simp only [z_a, typeds] at h ⊢
  by_cases hx : (typed vars x).2 = 0
  ·rw [if_pos hx] at h ⊢
   cases hl : typeds vars l with
   | error g => rw [hl] at h ih; injection h with h; subst h; rw [ih rfl]
   | ok r => rw [hl] at h; cases h
  ·rw [if_neg hx] at h ⊢; exact h
theorem typeds_len {vars : List Var} : ∀ {l : List Ex} {r : List Int}, typeds vars l = .ok r → r.length = l.length
 | [], r, h => by injection h with h; subst h; rfl
 | e :: l, r, h => by
  simp only [typeds] at h
  split at h
  ·split at h
   ·cases h
   ·rename_i r' hr
    injection h with h
    subst h
    simp [typeds_len hr]
  ·cases h
end Tx
end
section
/- What is left to show of functions, as the walk that the kernel computes finds it (written by wip/vc2.py). -/
namespace Go.Proofs.YtkpjmlnhhggenaaGreatDoor
open Go Go.RowKit Go.SF
set_option maxRecDepth 100000
@[reducible] def dd5_0_0 : Blk := ⟨0, 56, [(.int .u8 (.iv 2)), (.int .u8 (.iv 3)), (.int .i64 (.iv 4)), (.str (.tv 2)), (.str (.tv 3)), (.slc 0 (.nv 0) (.nv 1))]⟩
@[reducible] def dd5_0_1 : Blk := ⟨0, 56, [(.int .u8 (.iv 0)), (.int .u8 (.iv 1)), (.int .i64 (.iv 2)), (.str (.tv 0)), (.str (.tv 1)), (.slc 1 (.nv 2) (.nv 3))]⟩
@[reducible] def dd5_0_2 : Sy := (.agg [(.int .u8 (.iv 0)), (.int .u8 (.iv 1)), (.int .i64 (.iv 2)), (.str (.tv 0)), (.str (.tv 1)), (.slc 0 (.nv 0) (.nv 1))])
@[reducible] def dd5_0_3 : Sy := (.agg [(.int .u8 (.iv 2)), (.int .u8 (.iv 3)), (.int .i64 (.iv 4)), (.str (.tv 0)), (.str (.tv 1)), (.slc 1 (.nv 2) (.nv 3))])
@[reducible] def dd5_0_4 : Sy := (.agg [(.int .u8 (.iv 4)), (.int .u8 (.iv 5)), (.int .i64 (.iv 6)), (.str (.tv 2)), (.str (.tv 3)), (.slc 3 (.nv 6) (.nv 7))])
@[reducible] def dd5_0_5 : Sy := (.agg [(.int .u8 (.iv 1)), (.int .u8 (.iv 2)), (.int .i64 (.iv 3)), (.str (.tv 1)), (.str (.tv 2)), (.slc 1 (.nv 2) (.nv 3))])
@[reducible] def t_whole_1 : Tree := (.call 151 [(.slc 0 (.nv 0) (.nv 1)), (.fn 152 [(.ptr 1 0)])] [⟨1, 3, [(.int .i64 (.iv 3))]⟩] [] [] (.bool (.bv 1)) kk1 (.ret (.bool (.un .not (.bv 1))) [] [] []))
@[reducible] def t_whole_2 : Tree := (.callq 25 [(.agg [(.int .u8 (.iv 1)), (.int .i64 (.iv 2)), (.str (.tv 0))])] [] [] (.bool (.bv 0)) kk1 (.grow (.br (.un .not (.bv 0)) (.ret (.bool (.bl false)) [] [] []) t_whole_1)))
@[reducible] def t_whole_3 : Tree := (.call 151 [(.slc 0 (.nv 0) (.nv 1)), (.fn 152 [(.ptr 1 0)])] [⟨1, 3, [(.int .i64 (.iv 3))]⟩] [] [] (.bool (.bv 0)) kk1 (.ret (.bool (.un .not (.bv 0))) [] [] []))
@[reducible] def t_whole_4 : Tree := (.grow (.br (.un .not (.bin .ieq (.nv 0) (.iv 4))) (.ret (.bool (.bl false)) [] [] []) t_whole_3))
@[reducible] def t_whole_5 : Tree := (.br (.bin .band (.bin .ieq (.nv 0) (.iv 4)) (.bin .ieq (.iv 0) (.il 1))) t_whole_2 t_whole_4)
@[reducible] def t_whole_6 : Tree := (.chk (.bin .le (.il 0) (.iv 0)) (.chk (.bin .lt (.iv 0) (.il 17)) (.adr ⟨4, 0, none⟩ (.look 3 (.elt 1 (.iv 0) 1 0) (.int .i64 (.iv 4)) kk0 t_whole_5))))
@[reducible] def t_whole : Tree :=
(.new (.new (.br (.un .not (.bin .bor (.bin .bor (.bin .lt (.iv 3) (.il 1)) (.bin .lt (.iv 0) (.il 1))) (.bin .lt (.il 16) (.iv 0)))) t_whole_6 (.grow (.ret (.bool (.bl false)) [] [] [])))))
theorem x_whole : xfn Tryz.prog kc Tryz.f110 [dd5_0_2, (.int .i64 (.iv 3))] [] [] ⟨4, 2, 0, 2, 0, 1, 0, 0⟩ = some t_whole := by kernel_rfl
theorem vc_whole (i0 i1 i2 i3 : Int) (n0 n1 : Nat) (t0 t1 : ByteArray) (a0 : Option Addr) (W : Wd) (R : Ending → World → Prop) (h : t_whole.den Tryz.prog W.w.heap.size R [] { I := [i0, i1, i2, i3], N := [n0, n1], T := [t0, t1], A := [a0] } W) : CallsE Tryz.prog 110 #[.agg #[.int .u8 i0, .int .u8 i1, .int .i64 i2, .string t0, .string t1, .slice a0 n0 n1], .int .i64 i3] W R :=
 fn_calls Tryz.func110 _ _ { I := [i0, i1, i2, i3], N := [n0, n1], T := [t0, t1], A := [a0] } _ x_whole (fun v hv => by cases hv) h
@[reducible] def t_wholec : Tree :=
(.new (.call 110 [dd5_0_2, (.int .i64 (.un (.wrap .i64) (.bin .sub (.iv 3) (.il 1))))] [] [] [] (.bool (.bv 0)) kk1 (.ret (.bool (.un .not (.bv 0))) [] [] [])))
theorem x_wholec : xfn Tryz.prog kc Tryz.f152 [dd5_0_2, (.ptr 0 0)] [] [⟨0, 3, [(.int .i64 (.iv 3))]⟩] ⟨4, 2, 0, 2, 0, 1, 1, 0⟩ = some t_wholec := by kernel_rfl
theorem vc_wholec (i0 i1 i2 i3 : Int) (n0 n1 : Nat) (t0 t1 : ByteArray) (a0 : Option Addr) (m0 : Nat) (W : Wd) (R : Ending → World → Prop) (hm0 : W.w.heap[m0]? = some (.cells #[.int .i64 i3] 3)) (Im0 : W.I m0) (h : t_wholec.den Tryz.prog W.w.heap.size R [] { I := [i0, i1, i2, i3], N := [n0, n1], T := [t0, t1], A := [a0], M := [m0] } W) : CallsE Tryz.prog 152 #[.agg #[.int .u8 i0, .int .u8 i1, .int .i64 i2, .string t0, .string t1, .slice a0 n0 n1], .pointer (some ⟨m0, 0, none⟩)] W R :=
 fn_calls_ro Tryz.func152 _ _ [⟨0, 3, [(.int .i64 (.iv 3))]⟩] { I := [i0, i1, i2, i3], N := [n0, n1], T := [t0, t1], A := [a0], M := [m0] } _ x_wholec (fun v hv => by cases hv) (fun b hb => by simp only [List.mem_cons, List.not_mem_nil, or_false] at hb; rcases hb with rfl <;> (first | exact hm0)) (fun b hb => by simp only [List.mem_cons, List.not_mem_nil, or_false] at hb; rcases hb with rfl <;> (first | exact Im0)) h
@[reducible] def t_widx_1 : Tree := (.br (.bv 0) (.ret (.int .i64 (.iv 1)) [] [] []) (.again 0 [(.int .i64 (.un (.wrap .i64) (.bin .add (.iv 1) (.il 1))))] []))
@[reducible] def t_widx_2 : Tree := (.call 152 [dd5_0_3, (.ptr 0 0)] [⟨0, 3, [(.int .i64 (.iv 0))]⟩] [] [] (.bool (.bv 0)) kk1 t_widx_1)
@[reducible] def t_widx_3 : Tree := (.chk (.sm 0) (.chk (.bin .le (.il 0) (.iv 1)) (.look 56 (.elt 0 (.iv 1) 6 0) dd5_0_3 kk15 t_widx_2)))
@[reducible] def t_widx : Tree :=
(.loop [(.int .i64 (.il 0))] [] [(.int .i64 (.iv 1))] [] kk0 (.br (.bin .lt (.iv 1) (.nv 0)) t_widx_3 (.ret (.int .i64 (.il (-1))) [] [] [])))
theorem x_widx : xfn Tryz.prog { kc with loops := [⟨2, [.tm 8]⟩] } Tryz.f176 [(.slc 0 (.nv 0) (.nv 1)), (.fn 152 [(.ptr 0 0)])] [] [⟨0, 3, [(.int .i64 (.iv 0))]⟩] kk14 = some t_widx := by kernel_rfl
theorem vc_widx (i0 : Int) (n0 n1 : Nat) (a0 : Option Addr) (m0 : Nat) (W : Wd) (R : Ending → World → Prop) (hm0 : W.w.heap[m0]? = some (.cells #[.int .i64 i0] 3)) (Im0 : W.I m0) (h : t_widx.den Tryz.prog W.w.heap.size R [] { I := [i0], N := [n0, n1], A := [a0], M := [m0] } W) : CallsE Tryz.prog 176 #[.slice a0 n0 n1, .func (.func 152) #[] #[.pointer (some ⟨m0, 0, none⟩)]] W R :=
 fn_calls_ro Tryz.func176 _ _ [⟨0, 3, [(.int .i64 (.iv 0))]⟩] { I := [i0], N := [n0, n1], A := [a0], M := [m0] } _ x_widx (fun v hv => by cases hv) (fun b hb => by simp only [List.mem_cons, List.not_mem_nil, or_false] at hb; rcases hb with rfl <;> (first | exact hm0)) (fun b hb => by simp only [List.mem_cons, List.not_mem_nil, or_false] at hb; rcases hb with rfl <;> (first | exact Im0)) h
@[reducible] def t_wcont : Tree :=
(.call 176 [(.slc 0 (.nv 0) (.nv 1)), (.fn 152 [(.ptr 0 0)])] [⟨0, 3, [(.int .i64 (.iv 0))]⟩] [] [] (.int .i64 (.iv 1)) kk0 (.ret (.bool (.bin .le (.il 0) (.iv 1))) [] [] []))
theorem x_wcont : xfn Tryz.prog kc Tryz.f151 [(.slc 0 (.nv 0) (.nv 1)), (.fn 152 [(.ptr 0 0)])] [] [⟨0, 3, [(.int .i64 (.iv 0))]⟩] kk14 = some t_wcont := by kernel_rfl
theorem vc_wcont (i0 : Int) (n0 n1 : Nat) (a0 : Option Addr) (m0 : Nat) (W : Wd) (R : Ending → World → Prop) (hm0 : W.w.heap[m0]? = some (.cells #[.int .i64 i0] 3)) (Im0 : W.I m0) (h : t_wcont.den Tryz.prog W.w.heap.size R [] { I := [i0], N := [n0, n1], A := [a0], M := [m0] } W) : CallsE Tryz.prog 151 #[.slice a0 n0 n1, .func (.func 152) #[] #[.pointer (some ⟨m0, 0, none⟩)]] W R :=
 fn_calls_ro Tryz.func151 _ _ [⟨0, 3, [(.int .i64 (.iv 0))]⟩] { I := [i0], N := [n0, n1], A := [a0], M := [m0] } _ x_wcont (fun v hv => by cases hv) (fun b hb => by simp only [List.mem_cons, List.not_mem_nil, or_false] at hb; rcases hb with rfl <;> (first | exact hm0)) (fun b hb => by simp only [List.mem_cons, List.not_mem_nil, or_false] at hb; rcases hb with rfl <;> (first | exact Im0)) h
@[reducible] def t_tWhole : Tree :=
(.new (.call 110 [dd5_0_2, (.int .i64 (.il 16))] [] [] [] (.bool (.bv 0)) kk1 (.ret (.bool (.bv 0)) [] [] [])))
theorem x_tWhole : xfn Tryz.prog kc Tryz.f53 [dd5_0_2] [] [] kk15 = some t_tWhole := by kernel_rfl
theorem vc_tWhole (i0 i1 i2 : Int) (n0 n1 : Nat) (t0 t1 : ByteArray) (a0 : Option Addr) (W : Wd) (R : Ending → World → Prop) (h : t_tWhole.den Tryz.prog W.w.heap.size R [] { I := [i0, i1, i2], N := [n0, n1], T := [t0, t1], A := [a0] } W) : CallsE Tryz.prog 53 #[.agg #[.int .u8 i0, .int .u8 i1, .int .i64 i2, .string t0, .string t1, .slice a0 n0 n1]] W R :=
 fn_calls Tryz.func53 _ _ { I := [i0, i1, i2], N := [n0, n1], T := [t0, t1], A := [a0] } _ x_tWhole (fun v hv => by cases hv) h
@[reducible] def t_known : Tree :=
(.br (.bin .bor (.bin .lt (.iv 0) (.il 1)) (.bin .lt (.il 3) (.iv 0))) (.ret (.tup [(.int .u8 (.il 0)), (.int .i64 (.il 23))]) [] [] []) (.ret (.tup [(.int .u8 (.iv 0)), (.int .i64 (.il 0))]) [] [] []))
theorem x_known : xfn Tryz.prog kc Tryz.f111 [(.int .u8 (.iv 0))] [] [] kk0 = some t_known := by kernel_rfl
theorem vc_known (i0 : Int) (W : Wd) (R : Ending → World → Prop) (h : t_known.den Tryz.prog W.w.heap.size R [] { I := [i0] } W) : CallsE Tryz.prog 111 #[.int .u8 i0] W R :=
 fn_calls Tryz.func111 _ _ { I := [i0] } _ x_known (fun v hv => by cases hv) h
@[reducible] def t_namec : Tree :=
(.new (.ret (.bool (.bin .teq (.tv 0) (.tv 3))) [] [] []))
theorem x_namec : xfn Tryz.prog kc Tryz.f113 [(.agg [(.str (.tv 0)), (.int .u8 (.iv 0)), (.int .i64 (.iv 1)), (.str (.tv 1))]), (.ptr 0 0)] [] [dd5_0_0] ⟨5, 2, 0, 4, 0, 1, 1, 0⟩ = some t_namec := by kernel_rfl
theorem vc_namec (i0 i1 i2 i3 i4 : Int) (n0 n1 : Nat) (t0 t1 t2 t3 : ByteArray) (a0 : Option Addr) (m0 : Nat) (W : Wd) (R : Ending → World → Prop) (hm0 : W.w.heap[m0]? = some (.cells #[.int .u8 i2, .int .u8 i3, .int .i64 i4, .string t2, .string t3, .slice a0 n0 n1] 56)) (Im0 : W.I m0) (h : t_namec.den Tryz.prog W.w.heap.size R [] { I := [i0, i1, i2, i3, i4], N := [n0, n1], T := [t0, t1, t2, t3], A := [a0], M := [m0] } W) : CallsE Tryz.prog 113 #[.agg #[.string t0, .int .u8 i0, .int .i64 i1, .string t1], .pointer (some ⟨m0, 0, none⟩)] W R :=
 fn_calls_ro Tryz.func113 _ _ [dd5_0_0] { I := [i0, i1, i2, i3, i4], N := [n0, n1], T := [t0, t1, t2, t3], A := [a0], M := [m0] } _ x_namec (fun v hv => by cases hv) (fun b hb => by simp only [List.mem_cons, List.not_mem_nil, or_false] at hb; rcases hb with rfl <;> (first | exact hm0)) (fun b hb => by simp only [List.mem_cons, List.not_mem_nil, or_false] at hb; rcases hb with rfl <;> (first | exact Im0)) h
@[reducible] def t_nidx_1 : Tree := (.br (.bv 0) (.ret (.int .i64 (.iv 3)) [] [] []) (.again 0 [(.int .i64 (.un (.wrap .i64) (.bin .add (.iv 3) (.il 1))))] []))
@[reducible] def t_nidx_2 : Tree := (.call 113 [(.agg [(.str (.tv 2)), (.int .u8 (.iv 4)), (.int .i64 (.iv 5)), (.str (.tv 3))]), (.ptr 0 0)] [dd5_0_1] [] [] (.bool (.bv 0)) kk1 t_nidx_1)
@[reducible] def t_nidx_3 : Tree := (.chk (.sm 0) (.chk (.bin .le (.il 0) (.iv 3)) (.look 41 (.elt 0 (.iv 3) 4 0) (.agg [(.str (.tv 2)), (.int .u8 (.iv 4)), (.int .i64 (.iv 5)), (.str (.tv 3))]) kk10 t_nidx_2)))
@[reducible] def t_nidx : Tree :=
(.loop [(.int .i64 (.il 0))] [] [(.int .i64 (.iv 3))] [] kk0 (.br (.bin .lt (.iv 3) (.nv 0)) t_nidx_3 (.ret (.int .i64 (.il (-1))) [] [] [])))
theorem x_nidx : xfn Tryz.prog { kc with loops := [⟨2, [.tm 8]⟩] } Tryz.f112 [(.slc 0 (.nv 0) (.nv 1)), (.fn 113 [(.ptr 0 0)])] [] [dd5_0_1] ⟨3, 4, 0, 2, 0, 2, 1, 0⟩ = some t_nidx := by kernel_rfl
theorem vc_nidx (i0 i1 i2 : Int) (n0 n1 n2 n3 : Nat) (t0 t1 : ByteArray) (a0 a1 : Option Addr) (m0 : Nat) (W : Wd) (R : Ending → World → Prop) (hm0 : W.w.heap[m0]? = some (.cells #[.int .u8 i0, .int .u8 i1, .int .i64 i2, .string t0, .string t1, .slice a1 n2 n3] 56)) (Im0 : W.I m0) (h : t_nidx.den Tryz.prog W.w.heap.size R [] { I := [i0, i1, i2], N := [n0, n1, n2, n3], T := [t0, t1], A := [a0, a1], M := [m0] } W) : CallsE Tryz.prog 112 #[.slice a0 n0 n1, .func (.func 113) #[] #[.pointer (some ⟨m0, 0, none⟩)]] W R :=
 fn_calls_ro Tryz.func112 _ _ [dd5_0_1] { I := [i0, i1, i2], N := [n0, n1, n2, n3], T := [t0, t1], A := [a0, a1], M := [m0] } _ x_nidx (fun v hv => by cases hv) (fun b hb => by simp only [List.mem_cons, List.not_mem_nil, or_false] at hb; rcases hb with rfl <;> (first | exact hm0)) (fun b hb => by simp only [List.mem_cons, List.not_mem_nil, or_false] at hb; rcases hb with rfl <;> (first | exact Im0)) h
@[reducible] def t_sortc : Tree :=
(.ret (.bool (.un .not (.bin .ieq (.iv 0) (.iv 1)))) [] [] [])
theorem x_sortc : xfn Tryz.prog kc Tryz.f115 [(.int .u8 (.iv 0)), (.ptr 0 0)] [] [⟨0, 150, [(.int .u8 (.iv 1)), (.int .u8 (.iv 2))]⟩] ⟨3, 0, 0, 0, 0, 0, 1, 0⟩ = some t_sortc := by kernel_rfl
theorem vc_sortc (i0 i1 i2 : Int) (m0 : Nat) (W : Wd) (R : Ending → World → Prop) (hm0 : W.w.heap[m0]? = some (.cells #[.int .u8 i1, .int .u8 i2] 150)) (Im0 : W.I m0) (h : t_sortc.den Tryz.prog W.w.heap.size R [] { I := [i0, i1, i2], M := [m0] } W) : CallsE Tryz.prog 115 #[.int .u8 i0, .pointer (some ⟨m0, 0, none⟩)] W R :=
 fn_calls_ro Tryz.func115 _ _ [⟨0, 150, [(.int .u8 (.iv 1)), (.int .u8 (.iv 2))]⟩] { I := [i0, i1, i2], M := [m0] } _ x_sortc (fun v hv => by cases hv) (fun b hb => by simp only [List.mem_cons, List.not_mem_nil, or_false] at hb; rcases hb with rfl <;> (first | exact hm0)) (fun b hb => by simp only [List.mem_cons, List.not_mem_nil, or_false] at hb; rcases hb with rfl <;> (first | exact Im0)) h
@[reducible] def t_sidx_1 : Tree := (.br (.bv 0) (.ret (.int .i64 (.iv 2)) [] [] []) (.again 0 [(.int .i64 (.un (.wrap .i64) (.bin .add (.iv 2) (.il 1))))] []))
@[reducible] def t_sidx_2 : Tree := (.call 115 [(.int .u8 (.iv 3)), (.ptr 0 0)] [⟨0, 150, [(.int .u8 (.iv 0)), (.int .u8 (.iv 1))]⟩] [] [] (.bool (.bv 0)) kk1 t_sidx_1)
@[reducible] def t_sidx_3 : Tree := (.chk (.sm 0) (.chk (.bin .le (.il 0) (.iv 2)) (.look 5 (.elt 0 (.iv 2) 1 0) (.int .u8 (.iv 3)) kk0 t_sidx_2)))
@[reducible] def t_sidx : Tree :=
(.loop [(.int .i64 (.il 0))] [] [(.int .i64 (.iv 2))] [] kk0 (.br (.bin .lt (.iv 2) (.nv 0)) t_sidx_3 (.ret (.int .i64 (.il (-1))) [] [] [])))
theorem x_sidx : xfn Tryz.prog { kc with loops := [⟨2, [.tm 8]⟩] } Tryz.f153 [(.slc 0 (.nv 0) (.nv 1)), (.fn 115 [(.ptr 0 0)])] [] [⟨0, 150, [(.int .u8 (.iv 0)), (.int .u8 (.iv 1))]⟩] ⟨2, 2, 0, 0, 0, 1, 1, 0⟩ = some t_sidx := by kernel_rfl
theorem vc_sidx (i0 i1 : Int) (n0 n1 : Nat) (a0 : Option Addr) (m0 : Nat) (W : Wd) (R : Ending → World → Prop) (hm0 : W.w.heap[m0]? = some (.cells #[.int .u8 i0, .int .u8 i1] 150)) (Im0 : W.I m0) (h : t_sidx.den Tryz.prog W.w.heap.size R [] { I := [i0, i1], N := [n0, n1], A := [a0], M := [m0] } W) : CallsE Tryz.prog 153 #[.slice a0 n0 n1, .func (.func 115) #[] #[.pointer (some ⟨m0, 0, none⟩)]] W R :=
 fn_calls_ro Tryz.func153 _ _ [⟨0, 150, [(.int .u8 (.iv 0)), (.int .u8 (.iv 1))]⟩] { I := [i0, i1], N := [n0, n1], A := [a0], M := [m0] } _ x_sidx (fun v hv => by cases hv) (fun b hb => by simp only [List.mem_cons, List.not_mem_nil, or_false] at hb; rcases hb with rfl <;> (first | exact hm0)) (fun b hb => by simp only [List.mem_cons, List.not_mem_nil, or_false] at hb; rcases hb with rfl <;> (first | exact Im0)) h
@[reducible] def t_scont : Tree :=
(.call 153 [(.slc 0 (.nv 0) (.nv 1)), (.fn 115 [(.ptr 0 0)])] [⟨0, 150, [(.int .u8 (.iv 0)), (.int .u8 (.iv 1))]⟩] [] [] (.int .i64 (.iv 2)) kk0 (.ret (.bool (.bin .le (.il 0) (.iv 2))) [] [] []))
theorem x_scont : xfn Tryz.prog kc Tryz.f114 [(.slc 0 (.nv 0) (.nv 1)), (.fn 115 [(.ptr 0 0)])] [] [⟨0, 150, [(.int .u8 (.iv 0)), (.int .u8 (.iv 1))]⟩] ⟨2, 2, 0, 0, 0, 1, 1, 0⟩ = some t_scont := by kernel_rfl
theorem vc_scont (i0 i1 : Int) (n0 n1 : Nat) (a0 : Option Addr) (m0 : Nat) (W : Wd) (R : Ending → World → Prop) (hm0 : W.w.heap[m0]? = some (.cells #[.int .u8 i0, .int .u8 i1] 150)) (Im0 : W.I m0) (h : t_scont.den Tryz.prog W.w.heap.size R [] { I := [i0, i1], N := [n0, n1], A := [a0], M := [m0] } W) : CallsE Tryz.prog 114 #[.slice a0 n0 n1, .func (.func 115) #[] #[.pointer (some ⟨m0, 0, none⟩)]] W R :=
 fn_calls_ro Tryz.func114 _ _ [⟨0, 150, [(.int .u8 (.iv 0)), (.int .u8 (.iv 1))]⟩] { I := [i0, i1], N := [n0, n1], A := [a0], M := [m0] } _ x_scont (fun v hv => by cases hv) (fun b hb => by simp only [List.mem_cons, List.not_mem_nil, or_false] at hb; rcases hb with rfl <;> (first | exact hm0)) (fun b hb => by simp only [List.mem_cons, List.not_mem_nil, or_false] at hb; rcases hb with rfl <;> (first | exact Im0)) h
@[reducible] def t_typed_1 : Tree := (.call 111 [(.int .u8 (.iv 1))] [] [] [] (.tup [(.int .u8 (.iv 3)), (.int .i64 (.iv 4))]) kk7 (.ret (.tup [(.int .u8 (.iv 3)), (.int .i64 (.iv 4))]) [] [] []))
@[reducible] def t_typed_2 : Tree := (.call 111 [(.int .u8 (.iv 4))] [] [] [] (.tup [(.int .u8 (.iv 5)), (.int .i64 (.iv 6))]) kk7 (.ret (.tup [(.int .u8 (.iv 5)), (.int .i64 (.iv 6))]) [] [] []))
@[reducible] def t_typed_3 : Tree := (.chk (.sm 1) (.chk (.bin .le (.il 0) (.iv 3)) (.chk (.bin .lt (.iv 3) (.nv 2)) (.look 5 (.elt 1 (.iv 3) 4 1) (.int .u8 (.iv 4)) kk0 t_typed_2))))
@[reducible] def t_typed_4 : Tree := (.br (.bin .lt (.iv 3) (.il 0)) (.ret (.tup [(.int .u8 (.il 0)), (.int .i64 (.il 22))]) [] [] []) t_typed_3)
@[reducible] def t_typed_5 : Tree := (.call 112 [(.slc 1 (.nv 2) (.nv 3)), (.fn 113 [(.ptr 0 0)])] [⟨0, 56, [(.int .u8 (.iv 0)), (.int .u8 (.iv 1)), (.int .i64 (.iv 2)), (.str (.tv 0)), (.str (.tv 1)), (.slc 0 (.nv 0) (.nv 1))]⟩] [] [] (.int .i64 (.iv 3)) kk0 t_typed_4)
@[reducible] def t_typed_6 : Tree := (.ret (.tup [(.int .u8 (.il 0)), (.int .i64 (.iv 8))]) [] [] [⟨(.slc 2 (.nv 4) (.nv 5)), (.nv 4), 5, 1, [(.l 0)]⟩])
@[reducible] def t_typed_7 : Tree := (.new (.chk (.bin .le (.bin .add (.nv 4) (.il 1)) (.il 140737488355328)) (.app (.bin .add (.nv 4) (.il 1)) (.frz [⟨2, 5, [(.int .u8 (.iv 7))]⟩, ⟨1, 56, [(.int .u8 (.iv 4)), (.int .u8 (.iv 5)), (.int .i64 (.iv 6)), (.str (.tv 2)), (.str (.tv 3)), (.slc 3 (.nv 6) (.nv 7))]⟩] (.again 0 [(.int .i64 (.un (.wrap .i64) (.bin .add (.iv 3) (.il 1)))), (.slc 4 (.bin .add (.nv 4) (.il 1)) (.nv 8))] [⟨(.slc 4 (.bin .add (.nv 4) (.il 1)) (.nv 8)), (.bin .add (.nv 4) (.il 1)), 5, 1, [(.l 0), (.s (.int .u8 (.iv 7)))]⟩])))))
@[reducible] def t_typed_8 : Tree := (.new (.wr (.call 54 [dd5_0_4, (.slc 1 (.nv 2) (.nv 3))] [] [⟨(.slc 2 (.nv 4) (.nv 5)), (.nv 4), 5, 1, [(.l 0)]⟩] [] (.tup [(.int .u8 (.iv 7)), (.int .i64 (.iv 8))]) kk7 (.br (.un .not (.bin .ieq (.iv 8) (.il 0))) t_typed_6 t_typed_7))))
@[reducible] def t_typed_9 : Tree := (.chk (.sm 0) (.chk (.bin .le (.il 0) (.iv 3)) (.look 56 (.elt 0 (.iv 3) 6 0) dd5_0_4 kk15 t_typed_8)))
@[reducible] def t_typed_10 : Tree := (.ret (.tup [(.int .u8 (.iv 6)), (.int .i64 (.il 0))]) [] [] [⟨(.slc 5 (.nv 8) (.nv 9)), (.nv 8), 5, 1, [(.l 1)]⟩])
@[reducible] def t_typed_11 : Tree := (.frz [⟨1, 150, [(.int .u8 (.iv 5)), (.int .u8 (.iv 6))]⟩] (.again 1 [(.int .i64 (.un (.wrap .i64) (.bin .add (.iv 4) (.il 1)))), (.slc 5 (.nv 8) (.nv 9))] [⟨(.slc 5 (.nv 8) (.nv 9)), (.nv 8), 5, 1, [(.l 1)]⟩]))
@[reducible] def t_typed_12 : Tree := (.new (.wr (.call 114 [(.slc 5 (.nv 8) (.nv 9)), (.fn 115 [(.ptr 1 0)])] [⟨1, 150, [(.int .u8 (.iv 5)), (.int .u8 (.iv 6))]⟩] [⟨(.slc 5 (.nv 8) (.nv 9)), (.nv 8), 5, 1, [(.l 1)]⟩] [] (.bool (.bv 0)) kk1 (.br (.un .not (.bv 0)) t_typed_10 t_typed_11))))
@[reducible] def t_typed_13 : Tree := (.chk (.sm 4) (.chk (.bin .le (.il 0) (.iv 4)) (.look 150 (.elt 4 (.iv 4) 2 0) (.agg [(.int .u8 (.iv 5)), (.int .u8 (.iv 6))]) kk7 t_typed_12)))
@[reducible] def t_typed_14 : Tree := (.ret (.tup [(.int .u8 (.il 0)), (.int .i64 (.il 23))]) [] [] [⟨(.slc 5 (.nv 8) (.nv 9)), (.nv 8), 5, 1, [(.l 1)]⟩])
@[reducible] def t_typed_15 : Tree := (.loop [(.int .i64 (.il 0)), (.slc 2 (.nv 4) (.nv 5))] [⟨(.slc 2 (.nv 4) (.nv 5)), (.nv 4), 5, 1, [(.l 0)]⟩] [(.int .i64 (.iv 4)), (.slc 5 (.nv 8) (.nv 9))] [⟨(.slc 5 (.nv 8) (.nv 9)), (.nv 8), 5, 1, [(.l 1)]⟩] kk5 (.br (.bin .lt (.iv 4) (.nv 6)) t_typed_13 t_typed_14))
@[reducible] def t_typed_16 : Tree := (.chk (.bin .le (.il 0) (.iv 0)) (.chk (.bin .lt (.iv 0) (.il 17)) (.adr ⟨1, 0, none⟩ (.look 147 (.elt 3 (.iv 0) 1 0) (.slc 4 (.nv 6) (.nv 7)) kk2 t_typed_15))))
@[reducible] def t_typed_17 : Tree := (.loop [(.int .i64 (.il 0)), .nils] [⟨.nils, (.il 0), 5, 1, []⟩] [(.int .i64 (.iv 3)), (.slc 2 (.nv 4) (.nv 5))] [⟨(.slc 2 (.nv 4) (.nv 5)), (.nv 4), 5, 1, [(.l 0)]⟩] kk5 (.br (.bin .lt (.iv 3) (.nv 0)) t_typed_9 t_typed_16))
@[reducible] def t_typed : Tree :=
(.new (.br (.bin .ieq (.iv 0) (.il 1)) t_typed_1 (.br (.bin .ieq (.iv 0) (.il 2)) t_typed_5 t_typed_17)))
theorem x_typed : xfn Tryz.prog { kc with loops := [⟨11, [.tm 43, .row 7 77]⟩, ⟨19, [.tm 66, .row 7 77]⟩] } Tryz.f54 [dd5_0_2, (.slc 1 (.nv 2) (.nv 3))] [] [] kk8 = some t_typed := by kernel_rfl
theorem vc_typed (i0 i1 i2 : Int) (n0 n1 n2 n3 : Nat) (t0 t1 : ByteArray) (a0 a1 : Option Addr) (W : Wd) (R : Ending → World → Prop) (h : t_typed.den Tryz.prog W.w.heap.size R [] { I := [i0, i1, i2], N := [n0, n1, n2, n3], T := [t0, t1], A := [a0, a1] } W) : CallsE Tryz.prog 54 #[.agg #[.int .u8 i0, .int .u8 i1, .int .i64 i2, .string t0, .string t1, .slice a0 n0 n1], .slice a1 n2 n3] W R :=
 fn_calls Tryz.func54 _ _ { I := [i0, i1, i2], N := [n0, n1, n2, n3], T := [t0, t1], A := [a0, a1] } _ x_typed (fun v hv => by cases hv) h
@[reducible] def t_tType_1 : Tree := (.call 54 [dd5_0_2, (.slc 1 (.nv 2) (.nv 3))] [] [] [] (.tup [(.int .u8 (.iv 3)), (.int .i64 (.iv 4))]) kk7 (.ret (.tup [(.int .u8 (.iv 3)), (.int .i64 (.iv 4))]) [] [] []))
@[reducible] def t_tType_2 : Tree := (.br (.un .not (.bv 0)) (.ret (.tup [(.int .u8 (.il 0)), (.int .i64 (.il 4))]) [] [] []) t_tType_1)
@[reducible] def t_tType : Tree :=
(.new (.call 53 [dd5_0_2] [] [] [] (.bool (.bv 0)) kk1 t_tType_2))
theorem x_tType : xfn Tryz.prog kc Tryz.f24 [dd5_0_2, (.slc 1 (.nv 2) (.nv 3))] [] [] kk8 = some t_tType := by kernel_rfl
theorem vc_tType (i0 i1 i2 : Int) (n0 n1 n2 n3 : Nat) (t0 t1 : ByteArray) (a0 a1 : Option Addr) (W : Wd) (R : Ending → World → Prop) (h : t_tType.den Tryz.prog W.w.heap.size R [] { I := [i0, i1, i2], N := [n0, n1, n2, n3], T := [t0, t1], A := [a0, a1] } W) : CallsE Tryz.prog 24 #[.agg #[.int .u8 i0, .int .u8 i1, .int .i64 i2, .string t0, .string t1, .slice a0 n0 n1], .slice a1 n2 n3] W R :=
 fn_calls Tryz.func24 _ _ { I := [i0, i1, i2], N := [n0, n1, n2, n3], T := [t0, t1], A := [a0, a1] } _ x_tType (fun v hv => by cases hv) h
@[reducible] def t_tCheck_1 : Tree := (.br (.bin .band (.bin .ieq (.iv 6) (.il 0)) (.un .not (.bin .ieq (.iv 5) (.iv 0)))) (.ret (.int .i64 (.il 23)) [] [] []) (.ret (.int .i64 (.iv 6)) [] [] []))
@[reducible] def t_tCheck_2 : Tree := (.call 24 [dd5_0_5, (.slc 0 (.nv 0) (.nv 1))] [] [] [] (.tup [(.int .u8 (.iv 5)), (.int .i64 (.iv 6))]) kk7 t_tCheck_1)
@[reducible] def t_tCheck_3 : Tree := (.new (.wr (.br (.un .not (.bin .ieq (.iv 4) (.il 0))) (.ret (.int .i64 (.iv 4)) [] [] []) t_tCheck_2)))
@[reducible] def t_tCheck : Tree :=
(.call 23 [(.str (.tv 0))] [] [] [] (.tup [dd5_0_5, (.int .i64 (.iv 4))]) ⟨4, 2, 0, 2, 0, 1, 0, 0⟩ t_tCheck_3)
theorem x_tCheck : xfn Tryz.prog kc Tryz.f35 [(.str (.tv 0)), (.slc 0 (.nv 0) (.nv 1)), (.int .u8 (.iv 0))] [] [] ⟨1, 2, 0, 1, 0, 1, 0, 0⟩ = some t_tCheck := by kernel_rfl
theorem vc_tCheck (i0 : Int) (n0 n1 : Nat) (t0 : ByteArray) (a0 : Option Addr) (W : Wd) (R : Ending → World → Prop) (h : t_tCheck.den Tryz.prog W.w.heap.size R [] { I := [i0], N := [n0, n1], T := [t0], A := [a0] } W) : CallsE Tryz.prog 35 #[.string t0, .slice a0 n0 n1, .int .u8 i0] W R :=
 fn_calls Tryz.func35 _ _ { I := [i0], N := [n0, n1], T := [t0], A := [a0] } _ x_tCheck (fun v hv => by cases hv) h
end Go.Proofs.YtkpjmlnhhggenaaGreatDoor
end
section
/- The walks of package typed. -/
namespace Go.Proofs.YtkpjmlnhhggenaaGreatDoor
open Go Go.RowKit Go.SF
theorem tdrop_get {α : Type} {l : List α} {i : Nat} (h : i < l.length) : l.drop i = l[i] :: l.drop (i + 1) := List.drop_eq_getElem_cons h
def sortC (s : Int × Int) : List Value := [.int .u8 s.1, .int .u8 s.2]
structure GlobT (W : Wd) : Prop where
 args : ∃ ty, W.w.heap[4]? = some (.cells (Tx.argTab.map fun n => Value.int .i64 n).toArray ty)
 argsI : W.I 4
 sorts : ∃ (sl : List (Option Addr × Nat)) (ty : TypeId), sl.length = 17 ∧ W.w.heap[1]? = some (.cells ((List.range 17).map fun i => Value.slice (sl.getD i (none, 0)).1 (Tx.sortTab.getD i []).length (sl.getD i (none, 0)).2).toArray ty) ∧
  ∀ i, i < 17 → SlI W (sl.getD i (none, 0)).1 (Tx.sortTab.getD i []).length (sl.getD i (none, 0)).2 2 ((Tx.sortTab.getD i []).flatMap sortC)
 sortsI : W.I 1
theorem GlobT.ext {W W' : Wd} (h : GlobT W) (x : Ext W W') : GlobT W' := by
 obtain ⟨ty, h1⟩ := h.args
 obtain ⟨sl, ty', h2, h3, h4⟩ := h.sorts
 exact ⟨⟨ty, by rw [x.keep _ h.argsI]; exact h1⟩, x.sub _ h.argsI, ⟨sl, ty', h2, by rw [x.keep _ h.sortsI]; exact h3, fun i hi => (h4 i hi).ext x⟩, x.sub _ h.sortsI⟩
theorem i64_aggT : aggT Tryz.prog 3 = some false := by kernel_rfl
theorem u8_aggT : aggT Tryz.prog 5 = some false := by kernel_rfl
theorem sort_aggT : aggT Tryz.prog 150 = some true := by kernel_rfl
theorem sort_sizeT : sizeT Tryz.prog 150 = some 2 := by kernel_rfl
theorem sorts_aggT : aggT Tryz.prog 147 = some false := by kernel_rfl
theorem var_aggT : aggT Tryz.prog 41 = some true := by kernel_rfl
theorem var_sizeT : sizeT Tryz.prog 41 = some 4 := by kernel_rfl
theorem glob_look {vs : List Value} {W : Wd} {g : Nat} {ty t : TypeId} (h : W.w.heap[g]? = some (.cells vs.toArray ty)) (hI : W.I g) (hA : aggT Tryz.prog t = some false) {i : Nat} {u : Value} (hx : vs[i]? = some u)
  {W' : Wd} (e : Ext W W') : (Instr.loadAt t (.pointer (some (((some ⟨g, 0, none⟩ : Option Addr).getD default).add (i * 1 + 0))))).run Tryz.prog W'.w = .ok u W'.w := by
 refine look_one hA ?_
 simp only [Option.getD_some]
 rw [add_none, cell_ext' e hI]
 simp [World.cell?, h, hx]
def WholeOk (n : Nat) : Prop := ∀ (x : Px.Ex) (vs : List Value) (W : Wd), Px.thin x = true → ExI W x vs → GlobT W → CallsQ Tryz.prog 110 #[.agg vs.toArray, .int .i64 (n : Nat)] W (.bool (Tx.whole n x))
theorem wholec_q (n : Nat) (hn : n < 1000) (ih : WholeOk n) (x : Px.Ex) (vs : List Value) (W : Wd) (hth : Px.thin x = true) (hx : ExI W x vs) (hG : GlobT W) (p : Nat) (hp : W.w.heap[p]? = some (.cells #[.int .i64 ((n + 1 : Nat) : Int)] 3)) (hI : W.I p) :
  CallsQ Tryz.prog 152 #[.agg vs.toArray, .pointer (some ⟨p, 0, none⟩)] W (.bool (!Tx.whole n x)) := by
 obtain ⟨op, k, nn, t, nm, al, len, cl, rfl⟩ := hx.shape
 refine vc_wholec op k nn ((n + 1 : Nat) : Int) len cl t nm al p W.all _ hp (W.lt p hI) ?_
 refine den_new fun m W1 _ x1 => ?_
 have x1' := ext_trans W.all_ext x1
 have hq := ih x _ W1 hth (hx.ext x1') (hG.ext x1')
 have hw : IntKind.i64.wrap (((n + 1 : Nat) : Int) - 1) = (n : Int) := by rw [w64i (by omega) (by omega)]; omega
 rw [← hw] at hq
 refine den_call_q (fun _ _ => hq) ⟨Tx.whole n x, rfl, fun W2 x2 => den_ret fun _ _ _ => ⟨_, rfl, rfl⟩⟩
theorem widx_i (n : Nat) (hn : n < 1000) (ih : WholeOk n) (args : List Px.Ex) (a : Option Addr) (c : Nat) (ls : List Value) (W : Wd) (hl : args.length ≤ 1000) (hth : Px.thins args = true) (hS : SlI W a args.length c 6 ls) (hE : ExsAt W.w W.I args ls) (hG : GlobT W) (p : Nat) (hp : W.w.heap[p]? = some (.cells #[.int .i64 ((n + 1 : Nat) : Int)] 3)) (hI : W.I p) :
  CallsI Tryz.prog 176 #[.slice a args.length c, .func (.func 152) #[] #[.pointer (some ⟨p, 0, none⟩)]] W.all fun v w' => ∃ r : Int, v = .int .i64 r ∧ leB 0 r = !args.all (Tx.whole n) := by
 refine vc_widx ((n + 1 : Nat) : Int) args.length c a p W.all _ hp (W.lt p hI) ?_
 refine den_loop (fun j vs ls _ => ∃ i : Nat, vs = [.int .i64 (i : Nat)] ∧ ls = [] ∧ i ≤ args.length ∧ j = args.length - i ∧ args.all (Tx.whole n) = (args.drop i).all (Tx.whole n)) args.length ⟨0, by simp [Sy.dens, Sy.den, E.i, E.b, E.t, gd, Env.push, z_a, z_b, z_c, z_d], rfl, Nat.zero_le _, rfl, rfl⟩ ?_
 rintro j vs ls' W2 x2 ⟨i, rfl, rfl, hi, rfl, ha⟩
 have x2' := ext_trans W.all_ext x2
 refine ⟨(i : Int), rfl, rfl, fun _ => den_br (fun c1 => ?_) fun c1 => den_ret fun _ _ _ => ⟨_, rfl, -1, rfl, ?_⟩⟩
 ·simp only [zE, ltB_true] at c1
  have hil : i < args.length := by omega
  have hx : args[i]? = some args[i] := List.getElem?_eq_getElem hil
  obtain ⟨us, hu, hg⟩ := exs_get hE hx
  have hu2 : ExI W args[i] us := hu
  obtain ⟨op', k', nn', t', nm', al', len', cl', rfl⟩ := hu.shape
  refine den_chk ?_ (den_chk ?_ (den_look ⟨op', k', nn', len', cl', t', nm', al', fun W3 x3 => ?_, ?_⟩))
  ·simp only [E.b, gd, Env.push]; exact SlI.some_of hS (by omega)
  ·simp only [zE]; exact leB_t (by omega)
  ·have := sl_look_at (W := W) hS ex_agg ex_size rfl (by decide) hg (ext_trans x2' x3)
   simp only [zE] at this ⊢
   exact this
  ·simp only [zP]
   have hq := wholec_q n hn ih args[i] _ W2 (Px.thin_mem hth (List.getElem_mem hil)) (hu2.ext x2') (hG.ext x2') p (by rw [x2'.keep p hI]; exact hp) (x2'.sub p hI)
   have ha1 : args.all (Tx.whole n) = (Tx.whole n args[i] && (args.drop (i + 1)).all (Tx.whole n)) := by rw [ha, tdrop_get hil]; rfl
   refine den_call_q (fun _ _ => hq) ⟨!Tx.whole n args[i], rfl, fun W3 x3 => den_br (fun c2 => den_ret fun _ _ _ => ⟨_, rfl, (i : Int), rfl, ?_⟩) fun c2 => den_again ⟨args.length - (i + 1), by omega, i + 1, ?_, rfl, by omega, rfl, ?_⟩⟩
   ·have c2 : Tx.whole n args[i] = false := by simpa [Sy.dens, Sy.den, E.i, E.b, E.t, gd, Env.push, z_a, z_b, z_c, z_d] using c2
    rw [ha1, c2]; exact leB_t (by omega)
   ·simp only [zE]; rw [w64i (by omega) (by omega)]; rfl
   ·have c2 : Tx.whole n args[i] = true := by simpa [Sy.dens, Sy.den, E.i, E.b, E.t, gd, Env.push, z_a, z_b, z_c, z_d] using c2
    rw [ha1, c2, Bool.true_and]
 ·simp only [zE, ltB_false] at c1
  rw [ha, List.drop_eq_nil_of_le (by omega)]; rfl
theorem wcont_q (n : Nat) (hn : n < 1000) (ih : WholeOk n) (args : List Px.Ex) (a : Option Addr) (c : Nat) (ls : List Value) (W : Wd) (hl : args.length ≤ 1000) (hth : Px.thins args = true) (hS : SlI W a args.length c 6 ls) (hE : ExsAt W.w W.I args ls) (hG : GlobT W) (p : Nat) (hp : W.w.heap[p]? = some (.cells #[.int .i64 ((n + 1 : Nat) : Int)] 3)) (hI : W.I p) :
  CallsQ Tryz.prog 151 #[.slice a args.length c, .func (.func 152) #[] #[.pointer (some ⟨p, 0, none⟩)]] W (.bool (!args.all (Tx.whole n))) := by
 refine vc_wcont ((n + 1 : Nat) : Int) args.length c a p W.all _ hp (W.lt p hI) ?_
 refine den_call_i (fun _ _ => widx_i n hn ih args a c ls W.all hl hth (SlAt.move (fun b hb _ => ⟨W.lt b hb, rfl⟩) hS) (ExsAt.move (fun b hb _ => ⟨W.lt b hb, rfl⟩) hE) (hG.ext W.all_ext) p hp (W.lt p hI)) fun v w' _ ⟨r, hv, hr⟩ => ⟨r, hv, fun W2 _ _ _ => den_ret fun _ _ _ => ⟨_, rfl, ?_⟩⟩
 show Value.bool (leB 0 r) = _
 rw [hr]
theorem arg_at {op : Int} (h : 1 ≤ op) (h2 : op ≤ 16) : (Tx.argTab.map fun n => Value.int .i64 n)[op.toNat]? = some (.int .i64 (Tx.argN op)) := by
 obtain ⟨k, rfl⟩ : ∃ k : Nat, op = k := ⟨op.toNat, by omega⟩
 have : k ≤ 16 := by omega
 simp only [z_d]
 have e : Tx.argTab[k]? = some (Tx.argN (k : Int)) := by
  unfold Tx.argN
  rw [Int.toNat_natCast, List.getD_eq_getElem?_getD, List.getElem?_eq_getElem (by simp only [Tx.argTab, List.length_cons, List.length_nil]; omega)]
  rfl
 rw [List.getElem?_map, e]; rfl
theorem whole_ok : ∀ n : Nat, n < 1000 → WholeOk n := by
 intro n
 induction n with
 | zero =>
  intro _ x vs W hth hx hG
  obtain ⟨op, k, nn, t, nm, al, len, cl, rfl⟩ := hx.shape
  refine vc_whole op k nn ((0 : Nat) : Int) len cl t nm al W.all _ ?_
  refine den_new fun _ _ _ _ => den_new fun _ _ _ _ => den_br_f ?_ (den_grow fun _ _ => den_ret fun _ _ _ => ⟨_, rfl, ?_⟩)
  ·simp [Sy.dens, Sy.den, E.i, E.b, E.t, gd, Env.push, z_a, z_b, z_c, z_d, ltB]
  ·rfl
 | succ n ih =>
  intro hn x vs W hth hx hG
  have ih := ih (by omega)
  obtain ⟨op, k, nn, t, nm, args⟩ := x
  have hx := hx.ext W.all_ext
  have hG := hG.ext W.all_ext
  simp only [ExI, ExAt] at hx
  obtain ⟨a, c, ls, rfl, hS, hE⟩ := hx
  simp only [Px.thin, Bool.and_eq_true, decide_eq_true_eq] at hth
  obtain ⟨⟨hal, htl, hnl, hf0, hf1⟩, hth⟩ := hth
  refine vc_whole op k nn ((n + 1 : Nat) : Int) args.length c ⟨t.toArray⟩ ⟨nm.toArray⟩ a W.all _ ?_
  have htz : (⟨t.toArray⟩ : ByteArray).size = t.length := by rw [← size_len]
  rw [show Tx.whole (n + 1) (.mk op k nn t nm args) = ((decide (1 ≤ op) && decide (op ≤ 16)) && (((args.length : Int) == Tx.argN op) && ((op != 1 || Va.may ⟨k, nn, ⟨t.toArray⟩⟩) && args.all (Tx.whole n)))) from rfl]
  refine den_new fun m0 W1 hm0 x1 => den_new fun m1 W2 hm1 x2 => den_br (fun c0 => ?_) fun c0 => den_grow fun _ _ => den_ret fun _ _ _ => ⟨_, rfl, ?_⟩
  ·have y2 := ext_trans x1 x2
   have hop : 1 ≤ op ∧ op ≤ 16 := by
    simp only [zE, Bool.not_eq_true', Bool.or_eq_false_iff, ltB_false] at c0
    omega
   have d1 : decide (1 ≤ op) = true := by simp [hop.1]
   have d2 : decide (op ≤ 16) = true := by simp [hop.2]
   rw [d1, d2, Bool.true_and, Bool.true_and]
   obtain ⟨ty, hga⟩ := hG.args
   refine den_chk ?_ (den_chk ?_ (den_adr (den_look ⟨Tx.argN op, fun V xV => ?_, ?_⟩)))
   ·simp only [zE]; exact leB_t (by omega)
   ·simp only [zE]; exact ltB_t (by omega)
   ·simp only [zE]
    exact glob_look hga hG.argsI i64_aggT (arg_at hop.1 hop.2) (ext_trans y2 xV)
   simp only [zP]
   have hcont : ∀ V, Ext W2 V → V.w.heap[m1]? = some (.cells #[.int .i64 ((n + 1 : Nat) : Int)] 3) → _ := fun V xV hp => wcont_q n (by omega) ih args a c ls V.all hal hth (SlAt.move (fun b hb _ => ⟨(ext_trans (ext_trans y2 xV) V.all_ext).sub b hb, (ext_trans y2 xV).keep b hb⟩) hS) (ExsAt.move (fun b hb _ => ⟨(ext_trans (ext_trans y2 xV) V.all_ext).sub b hb, (ext_trans y2 xV).keep b hb⟩) hE) (hG.ext (ext_trans (ext_trans y2 xV) V.all_ext)) m1 hp (Array.getElem?_eq_some_iff.1 hp).1
   refine den_br (fun c1 => ?_) fun c1 => den_grow fun W3 x3 => den_br (fun c2 => den_ret fun _ _ _ => ⟨_, rfl, ?_⟩) fun c2 => ?_
   ·simp only [zE, Bool.and_eq_true] at c1
    have e1 : (op != 1) = false := by have := c1.2; rw [beq_iff_eq] at this; rw [this]; rfl
    rw [c1.1, e1, Bool.true_and, Bool.false_or]
    refine den_callq ⟨Va.may ⟨k, nn, ⟨t.toArray⟩⟩, fun V xV _ _ => Vs.may_q k nn ⟨t.toArray⟩ (by rw [htz]; omega) V, den_grow fun W3 x3 => den_br (fun c2 => den_ret fun _ _ _ => ⟨_, rfl, ?_⟩) fun c2 => ?_⟩
    ·simp only [zE] at c2 ⊢
     have c2 : Va.may ⟨k, nn, ⟨t.toArray⟩⟩ = false := by simpa using c2
     rw [c2]; rfl
    ·simp only [zE] at c2
     have c2 : Va.may ⟨k, nn, ⟨t.toArray⟩⟩ = true := by simpa using c2
     rw [c2, Bool.true_and]
     refine den_call_q (fun hb _ => hcont W3 x3 (hb _ (List.mem_singleton.2 rfl))) ⟨!args.all (Tx.whole n), rfl, fun W6 x6 => den_ret fun _ _ _ => ⟨_, rfl, ?_⟩⟩
     show Value.bool (!!args.all (Tx.whole n)) = _
     rw [Bool.not_not]
   ·simp only [zE] at c2 ⊢
    have c2 : ((args.length : Int) == Tx.argN op) = false := by simpa using c2
    rw [c2]; rfl
   ·simp only [zE] at c1 c2
    have c2 : ((args.length : Int) == Tx.argN op) = true := by simpa using c2
    rw [c2, Bool.true_and] at c1
    have e1 : (op != 1) = true := by rw [bne, c1]; rfl
    rw [c2, e1, Bool.true_and, Bool.true_or, Bool.true_and]
    refine den_call_q (fun hb _ => hcont W3 x3 (hb _ (List.mem_singleton.2 rfl))) ⟨!args.all (Tx.whole n), rfl, fun W6 x6 => den_ret fun _ _ _ => ⟨_, rfl, ?_⟩⟩
    show Value.bool (!!args.all (Tx.whole n)) = _
    rw [Bool.not_not]
  ·simp only [zE] at c0 ⊢
   congr 1
   have hlt : ltB ((n + 1 : Nat) : Int) 1 = false := by rw [ltB_false]; omega
   rw [hlt] at c0
   have : ¬ (1 ≤ op) ∨ ¬ (op ≤ 16) := by
    simp only [Bool.not_eq_false', Bool.false_or, Bool.or_eq_true, ltB_true] at c0
    omega
   rcases this with h | h <;> simp [h]
theorem tWhole_q (x : Px.Ex) (vs : List Value) (W : Wd) (hth : Px.thin x = true) (hx : ExI W x vs) (hG : GlobT W) : CallsQ Tryz.prog 53 #[.agg vs.toArray] W (.bool (Tx.whole 16 x)) := by
 obtain ⟨op, k, nn, t, nm, al, len, cl, rfl⟩ := hx.shape
 refine vc_tWhole op k nn len cl t nm al W.all _ ?_
 have h := whole_ok 16 (by decide)
 refine den_new fun m0 W1 _ x1 => den_call_q (fun _ _ => h x _ W1 hth (hx.ext (ext_trans W.all_ext x1)) (hG.ext (ext_trans W.all_ext x1))) ⟨Tx.whole 16 x, rfl, fun W2 x2 => den_ret fun _ _ _ => ⟨_, rfl, rfl⟩⟩
end Go.Proofs.YtkpjmlnhhggenaaGreatDoor
end
section
/- The walks of package typed: the type. -/
namespace Go.Proofs.YtkpjmlnhhggenaaGreatDoor
open Go Go.RowKit Go.SF
def tupV (p : Int × Int) : Value := .tuple #[.int .u8 p.1, .int .i64 p.2]
theorem known_q (k : Int) (W : Wd) : CallsQ Tryz.prog 111 #[.int .u8 k] W (tupV (Tx.known k)) := by
 refine vc_known k W.all _ ?_
 refine den_br (fun c => den_ret fun _ _ _ => ⟨_, rfl, ?_⟩) fun c => den_ret fun _ _ _ => ⟨_, rfl, ?_⟩
 ·have c : k < 1 ∨ 3 < k := by simpa only [Sy.dens, Sy.den, E.i, E.b, E.t, gd, Env.push, z_a, z_b, z_c, z_d, Bool.or_eq_true, ltB_true] using c
  rw [Tx.known, if_pos c]; rfl
 ·have c : ¬ (k < 1 ∨ 3 < k) := by
   simp only [zE, Bool.or_eq_false_iff, ltB_false] at c; omega
  rw [Tx.known, if_neg c]; rfl
def varC (v : Tx.Var) : List Value := [.string ⟨v.name.toArray⟩, .int .u8 v.k, .int .i64 v.n, .string ⟨v.t.toArray⟩]
theorem varC_len (v : Tx.Var) : (varC v).length = 4 := rfl
def VarsI (W : Wd) (a : Option Addr) (c : Nat) (vars : List Tx.Var) : Prop := SlI W a vars.length c 4 (vars.flatMap varC)
theorem VarsI.ext {W W' : Wd} {a : Option Addr} {c : Nat} {vars : List Tx.Var} (h : VarsI W a c vars) (x : Ext W W') : VarsI W' a c vars := SlI.ext h x
theorem VarsI.all {W : Wd} {a : Option Addr} {c : Nat} {vars : List Tx.Var} (h : VarsI W a c vars) : VarsI W.all a c vars := SlI.ext h W.all_ext
def Found (vars : List Tx.Var) (nm : Lx.Bs) (r : Int) : Prop := (r = -1 ∧ vars.find? (fun v => v.name == nm) = none) ∨ ∃ (i : Nat) (v : Tx.Var), r = (i : Int) ∧ vars[i]? = some v ∧ vars.find? (fun v => v.name == nm) = some v
theorem tba (a b : Lx.Bs) : ((⟨a.toArray⟩ : ByteArray).data.toList == (⟨b.toArray⟩ : ByteArray).data.toList) = (a == b) := by simp
theorem nidx_i (op k n : Int) (t nm : ByteArray) (al : Option Addr) (len cl : Nat) (nml : Lx.Bs) (hnm : nm = ⟨nml.toArray⟩) (vars : List Tx.Var) (a : Option Addr) (c : Nat) (W : Wd) (hl : vars.length ≤ 1000000) (hV : VarsI W a c vars) (p : Nat) (hp : W.w.heap[p]? = some (.cells #[.int .u8 op, .int .u8 k, .int .i64 n, .string t, .string nm, .slice al len cl] 56)) (hI : W.I p) :
  CallsI Tryz.prog 112 #[.slice a vars.length c, .func (.func 113) #[] #[.pointer (some ⟨p, 0, none⟩)]] W.all fun v w' => ∃ r : Int, v = .int .i64 r ∧ Found vars nml r := by
 subst hnm
 refine vc_nidx op k n vars.length c len cl t ⟨nml.toArray⟩ a al p W.all _ hp (W.lt p hI) ?_
 refine den_loop (fun j vs ls _ => ∃ i : Nat, vs = [.int .i64 (i : Nat)] ∧ ls = [] ∧ i ≤ vars.length ∧ j = vars.length - i ∧ vars.find? (fun v => v.name == nml) = (vars.drop i).find? fun v => v.name == nml) vars.length ⟨0, by simp [Sy.dens, Sy.den, E.i, E.b, E.t, gd, Env.push, z_a, z_b, z_c, z_d], rfl, Nat.zero_le _, rfl, rfl⟩ ?_
 rintro j vs ls' W2 x2 ⟨i, rfl, rfl, hi, rfl, ha⟩
 have x2' := ext_trans W.all_ext x2
 refine ⟨(i : Int), rfl, rfl, fun _ => den_br (fun c1 => ?_) fun c1 => den_ret fun _ _ _ => ⟨_, rfl, -1, rfl, .inl ⟨rfl, ?_⟩⟩⟩
 ·simp only [zE, ltB_true] at c1
  have hil : i < vars.length := by omega
  have hx : vars[i]? = some vars[i] := List.getElem?_eq_getElem hil
  have ha1 : vars.find? (fun v => v.name == nml) = (vars[i] :: vars.drop (i + 1)).find? fun v => v.name == nml := by rw [ha, tdrop_get hil]
  refine den_chk ?_ (den_chk ?_ (den_look ⟨vars[i].k, vars[i].n, ⟨vars[i].name.toArray⟩, ⟨vars[i].t.toArray⟩, fun W3 x3 => ?_, ?_⟩))
  ·simp only [E.b, gd, Env.push]; exact SlI.some_of hV (by omega)
  ·simp only [zE]; exact leB_t (by omega)
  ·have := sl_look varC_len (by decide) hV var_aggT var_sizeT hx (ext_trans x2' x3)
   simp only [zE] at this ⊢
   exact this
  ·simp only [zP]
   have hq : ∀ V, Ext W2 V → CallsQ Tryz.prog 113 #[.agg #[.string ⟨vars[i].name.toArray⟩, .int .u8 vars[i].k, .int .i64 vars[i].n, .string ⟨vars[i].t.toArray⟩], .pointer (some ⟨p, 0, none⟩)] V (.bool (vars[i].name == nml)) := fun V xV => by
    refine vc_namec vars[i].k vars[i].n op k n len cl ⟨vars[i].name.toArray⟩ ⟨vars[i].t.toArray⟩ t ⟨nml.toArray⟩ al p V.all _ (by rw [(ext_trans (ext_trans x2' xV) V.all_ext).keep p hI]; exact hp) ((ext_trans (ext_trans x2' xV) V.all_ext).sub p hI) ?_
    refine den_new fun _ _ _ _ => den_ret fun _ _ _ => ⟨_, rfl, ?_⟩
    simp only [zE, tba]
   refine den_call_q (fun _ _ => hq W2 (Ext.refl _)) ⟨vars[i].name == nml, rfl, fun W3 x3 => den_br (fun c2 => den_ret fun _ _ _ => ⟨_, rfl, (i : Int), rfl, .inr ⟨i, vars[i], rfl, hx, ?_⟩⟩) fun c2 => den_again ⟨vars.length - (i + 1), by omega, i + 1, ?_, rfl, by omega, rfl, ?_⟩⟩
   ·have c2 : (vars[i].name == nml) = true := by simpa only [Sy.dens, Sy.den, E.i, E.b, E.t, gd, Env.push, z_a, z_b, z_c, z_d] using c2
    rw [ha1, List.find?_cons, c2]
   ·simp only [zE]; rw [w64i (by omega) (by omega)]; rfl
   ·have c2 : (vars[i].name == nml) = false := by simpa only [Sy.dens, Sy.den, E.i, E.b, E.t, gd, Env.push, z_a, z_b, z_c, z_d] using c2
    rw [ha1, List.find?_cons, c2]
 ·simp only [zE, ltB_false] at c1
  rw [ha, List.drop_eq_nil_of_le (by omega)]; rfl
def u8s (l : List Int) : List Value := l.flatMap fun t => [Value.int .u8 t]
theorem sidx_i (s : Int × Int) (sides : List Int) (a : Option Addr) (c : Nat) (W : Wd) (hl : sides.length ≤ 1000000) (hV : SlI W a sides.length c 1 (u8s sides)) (p : Nat) (hp : W.w.heap[p]? = some (.cells #[.int .u8 s.1, .int .u8 s.2] 150)) (hI : W.I p) :
  CallsI Tryz.prog 153 #[.slice a sides.length c, .func (.func 115) #[] #[.pointer (some ⟨p, 0, none⟩)]] W.all fun v w' => ∃ r : Int, v = .int .i64 r ∧ leB 0 r = !sides.all (· == s.1) := by
 refine vc_sidx s.1 s.2 sides.length c a p W.all _ hp (W.lt p hI) ?_
 refine den_loop (fun j vs ls _ => ∃ i : Nat, vs = [.int .i64 (i : Nat)] ∧ ls = [] ∧ i ≤ sides.length ∧ j = sides.length - i ∧ sides.all (· == s.1) = (sides.drop i).all (· == s.1)) sides.length ⟨0, by simp [Sy.dens, Sy.den, E.i, E.b, E.t, gd, Env.push, z_a, z_b, z_c, z_d], rfl, Nat.zero_le _, rfl, rfl⟩ ?_
 rintro j vs ls' W2 x2 ⟨i, rfl, rfl, hi, rfl, ha⟩
 have x2' := ext_trans W.all_ext x2
 refine ⟨(i : Int), rfl, rfl, fun _ => den_br (fun c1 => ?_) fun c1 => den_ret fun _ _ _ => ⟨_, rfl, -1, rfl, ?_⟩⟩
 ·simp only [zE, ltB_true] at c1
  have hil : i < sides.length := by omega
  have hx : sides[i]? = some sides[i] := List.getElem?_eq_getElem hil
  have ha1 : sides.all (· == s.1) = ((sides[i] == s.1) && (sides.drop (i + 1)).all (· == s.1)) := by rw [ha, tdrop_get hil]; rfl
  refine den_chk ?_ (den_chk ?_ (den_look ⟨sides[i], fun W3 x3 => ?_, ?_⟩))
  ·simp only [E.b, gd, Env.push]; exact SlI.some_of hV (by omega)
  ·simp only [zE]; exact leB_t (by omega)
  ·have := sl_look_f (P := Tryz.prog) (f := fun t => [Value.int .u8 t]) (sz := 1) (fun _ => rfl) hV u8_aggT (k := 0) hx (by decide) (u := .int .u8 sides[i]) rfl (ext_trans x2' x3)
   simp only [zE] at this ⊢
   exact this
  ·simp only [zP]
   have hq : ∀ V, Ext W2 V → CallsQ Tryz.prog 115 #[.int .u8 sides[i], .pointer (some ⟨p, 0, none⟩)] V (.bool (!(sides[i] == s.1))) := fun V xV => by
    refine vc_sortc sides[i] s.1 s.2 p V.all _ (by rw [(ext_trans (ext_trans x2' xV) V.all_ext).keep p hI]; exact hp) ((ext_trans (ext_trans x2' xV) V.all_ext).sub p hI) ?_
    exact den_ret fun _ _ _ => ⟨_, rfl, rfl⟩
   refine den_call_q (fun _ _ => hq W2 (Ext.refl _)) ⟨!(sides[i] == s.1), rfl, fun W3 x3 => den_br (fun c2 => den_ret fun _ _ _ => ⟨_, rfl, (i : Int), rfl, ?_⟩) fun c2 => den_again ⟨sides.length - (i + 1), by omega, i + 1, ?_, rfl, by omega, rfl, ?_⟩⟩
   ·have c2 : (sides[i] == s.1) = false := by simpa only [Sy.dens, Sy.den, E.i, E.b, E.t, gd, Env.push, z_a, z_b, z_c, z_d, Bool.not_eq_true'] using c2
    rw [ha1, c2]; exact leB_t (by omega)
   ·simp only [zE]; rw [w64i (by omega) (by omega)]; rfl
   ·have c2 : (sides[i] == s.1) = true := by simpa only [Sy.dens, Sy.den, E.i, E.b, E.t, gd, Env.push, z_a, z_b, z_c, z_d, Bool.not_eq_false'] using c2
    rw [ha1, c2, Bool.true_and]
 ·simp only [zE, ltB_false] at c1
  rw [ha, List.drop_eq_nil_of_le (by omega)]; rfl
theorem scont_q (s : Int × Int) (sides : List Int) (a : Option Addr) (c : Nat) (W : Wd) (hl : sides.length ≤ 1000000) (hV : SlW W.w a sides.length c 1 (u8s sides)) (p : Nat) (hp : W.w.heap[p]? = some (.cells #[.int .u8 s.1, .int .u8 s.2] 150)) :
  CallsQ Tryz.prog 114 #[.slice a sides.length c, .func (.func 115) #[] #[.pointer (some ⟨p, 0, none⟩)]] W (.bool (!sides.all (· == s.1))) := by
 have hI : p < W.w.heap.size := (Array.getElem?_eq_some_iff.1 hp).1
 refine vc_scont s.1 s.2 sides.length c a p W.all _ hp hI ?_
 refine den_call_i (fun _ _ => sidx_i s sides a c W.all hl hV.all p hp hI) fun v w' _ ⟨r, hv, hr⟩ => ⟨r, hv, fun W2 _ _ _ => den_ret fun _ _ _ => ⟨_, rfl, ?_⟩⟩
 show Value.bool (leB 0 r) = _
 rw [hr]
theorem sort_at {op : Int} (h : 1 ≤ op) (h2 : op ≤ 16) : ∃ i : Nat, op = (i : Int) ∧ i < 17 ∧ Tx.sortsOf op = Tx.sortTab.getD i [] := ⟨op.toNat, by omega, by omega, rfl⟩
theorem sorts_len (o : Int) : (Tx.sortsOf o).length ≤ 3 := by
 unfold Tx.sortsOf
 rw [List.getD_eq_getElem?_getD]
 cases h : Tx.sortTab[o.toNat]? with
 | none => simp
 | some l =>
  have : ∀ l ∈ Tx.sortTab, l.length ≤ 3 := by decide
  exact this l (List.mem_of_getElem? h)
def TypedOk (n : Nat) : Prop := ∀ (x : Px.Ex) (vs : List Value) (vars : List Tx.Var) (a : Option Addr) (c : Nat) (W : Wd), Px.thin x = true → Tx.whole n x = true → vars.length ≤ 1000000 → ExI W x vs → VarsI W a c vars → GlobT W →
 CallsQ Tryz.prog 54 #[.agg vs.toArray, .slice a vars.length c] W (tupV (Tx.typed vars x))
theorem typed_ok : ∀ n : Nat, TypedOk n := by
 intro n
 induction n with
 | zero => intro x vs vars a c W _ h; cases h
 | succ n ih =>
  intro x vs vars a c W hth hwh hvl hx hV hG
  obtain ⟨op, k, nn, t, nm, args⟩ := x
  have hx := hx.ext W.all_ext
  have hG := hG.ext W.all_ext
  have hV := hV.all
  simp only [ExI, ExAt] at hx
  obtain ⟨al, cl, ls, rfl, hS, hE⟩ := hx
  simp only [Px.thin, Bool.and_eq_true, decide_eq_true_eq] at hth
  obtain ⟨⟨hal, htl, hnl, hf0, hf1⟩, hth⟩ := hth
  simp only [Tx.whole, Bool.and_eq_true, decide_eq_true_eq] at hwh
  obtain ⟨⟨ho1, ho2⟩, hln, hmy, hwa⟩ := hwh
  refine vc_typed op k nn args.length cl vars.length c ⟨t.toArray⟩ ⟨nm.toArray⟩ al a W.all _ ?_
  refine den_new fun m0 W1 hm0 x1 => den_br (fun c1 => ?_) fun c1 => den_br (fun c2 => ?_) fun c2 => ?_
  ·have c1 : op = 1 := by simpa [Sy.dens, Sy.den, E.i, E.b, E.t, gd, Env.push, z_a, z_b, z_c, z_d] using c1
   refine den_call_q (fun _ _ => known_q k W1) ⟨(Tx.known k).1, (Tx.known k).2, rfl, fun _ _ => den_ret fun _ _ _ => ⟨_, rfl, ?_⟩⟩
   rw [Tx.typed, if_pos c1]; rfl
  ·have c1 : ¬ op = 1 := by simpa [Sy.dens, Sy.den, E.i, E.b, E.t, gd, Env.push, z_a, z_b, z_c, z_d] using c1
   have c2 : op = 2 := by simpa [Sy.dens, Sy.den, E.i, E.b, E.t, gd, Env.push, z_a, z_b, z_c, z_d] using c2
   have hgo : Tx.typed vars (.mk op k nn t nm args) = Tx.named vars nm := by rw [Tx.typed, if_neg c1, if_pos c2]
   rw [hgo]
   refine den_call_i (fun hb _ => nidx_i op k nn ⟨t.toArray⟩ ⟨nm.toArray⟩ al args.length cl nm rfl vars a c W1.all hvl (hV.ext (ext_trans x1 W1.all_ext)) m0 (hb _ (List.mem_singleton.2 rfl)) (Array.getElem?_eq_some_iff.1 (hb _ (List.mem_singleton.2 rfl))).1) fun v w' _ ⟨r, hv, hr⟩ => ⟨r, hv, fun W2 e2 x2 n2 => ?_⟩
   simp only [zP]
   refine den_br (fun c3 => den_ret fun _ _ _ => ⟨_, rfl, ?_⟩) fun c3 => ?_
   ·have c3 : r < 0 := by simpa only [Sy.dens, Sy.den, E.i, E.b, E.t, gd, Env.push, z_a, z_b, z_c, z_d, ltB_true] using c3
    rcases hr with ⟨_, hr⟩ | ⟨i, v, rfl, _, _⟩
    ·rw [Tx.named, hr]; rfl
    ·omega
   ·have c3 : 0 ≤ r := by simpa only [Sy.dens, Sy.den, E.i, E.b, E.t, gd, Env.push, z_a, z_b, z_c, z_d, ltB_false] using c3
    rcases hr with ⟨h, _⟩ | ⟨i, v, rfl, hiv, hfd⟩
    ·omega
    ·have hil : i < vars.length := (List.getElem?_eq_some_iff.1 hiv).1
     refine den_chk ?_ (den_chk ?_ (den_chk ?_ (den_look ⟨v.k, fun V xV => ?_, ?_⟩)))
     ·simp only [E.b, gd, Env.push]; exact SlI.some_of hV (by omega)
     ·simp only [zE]; exact leB_t (by omega)
     ·simp only [zE]; exact ltB_t (by omega)
     ·have := sl_look_f (P := Tryz.prog) varC_len hV u8_aggT (k := 1) hiv (by decide) (u := .int .u8 v.k) rfl (ext_trans (ext_trans x1 x2) xV)
      simp only [zE] at this ⊢
      exact this
     ·simp only [zP]
      refine den_call_q (fun _ _ => known_q v.k W2) ⟨(Tx.known v.k).1, (Tx.known v.k).2, rfl, fun _ _ => den_ret fun _ _ _ => ⟨_, rfl, ?_⟩⟩
      rw [Tx.named, hfd]; rfl
  ·have c1 : ¬ op = 1 := by simpa [Sy.dens, Sy.den, E.i, E.b, E.t, gd, Env.push, z_a, z_b, z_c, z_d] using c1
   have c2 : ¬ op = 2 := by simpa [Sy.dens, Sy.den, E.i, E.b, E.t, gd, Env.push, z_a, z_b, z_c, z_d] using c2
   have hgo : Tx.typed vars (.mk op k nn t nm args) = match Tx.typeds vars args with | .error f => (0, f) | .ok sides => Tx.sorted op sides := by
    rw [Tx.typed, if_neg c1, if_neg c2]
    all_goals (cases Tx.typeds vars args <;> rfl)
   rw [hgo]
   refine den_loop (fun j vs ls _ => ∃ (i : Nat) (sides : List Int) (a2 : Option Addr) (c2 : Nat), vs = [.int .i64 (i : Nat), .slice a2 sides.length c2] ∧ ls = [u8s sides] ∧ i ≤ args.length ∧ j = args.length - i ∧ Tx.typeds vars (args.take i) = .ok sides) args.length ⟨0, [], none, 0, rfl, rfl, Nat.zero_le _, rfl, rfl⟩ ?_
   rintro j vs ls' W2 x2 ⟨i, sides, a2, cc2, rfl, rfl, hi, rfl, hsd⟩
   have x2' := ext_trans x1 x2
   have hsl : sides.length = i := by rw [Tx.typeds_len hsd, List.length_take]; omega
   refine ⟨(i : Int), sides.length, cc2, a2, u8s sides, rfl, (by simp [rowConts, conts, Seg.den, gd, Env.push]), fun hR => den_br (fun c3 => ?_) fun c3 => ?_⟩
   ·simp only [zE, ltB_true] at c3
    have hil : i < args.length := by omega
    have hx : args[i]? = some args[i] := List.getElem?_eq_getElem hil
    obtain ⟨us, hu, hg⟩ := exs_get hE hx
    obtain ⟨op', k', nn', t', nm', al', len', cl', rfl⟩ := hu.shape
    have hu2 : ExI W.all args[i] _ := hu
    have htk : args.take (i + 1) = args.take i ++ [args[i]] := by rw [List.take_add_one, hx]; rfl
    have hnx := Tx.typeds_snoc vars (args.take i) args[i]
    rw [← htk, hsd] at hnx
    refine den_chk ?_ (den_chk ?_ (den_look ⟨op', k', nn', len', cl', t', nm', al', fun W3 x3 => ?_, ?_⟩))
    ·simp only [E.b, gd, Env.push]; exact SlI.some_of hS (by omega)
    ·simp only [zE]; exact leB_t (by omega)
    ·have := sl_look_at (W := W.all) hS ex_agg ex_size rfl (by decide) hg (ext_trans x2' x3)
     simp only [zE] at this ⊢
     exact this
    ·simp only [zP]
     refine den_new fun m1 W3 _ x3 => den_wr fun W4 x4 => ?_
     have y4 := ext_trans x2' (ext_trans x3 x4)
     have hq := ih args[i] _ vars a c W4 (Px.thin_mem hth (List.getElem_mem hil)) (Tx.whole_all hwa (List.getElem_mem hil)) hvl (hu2.ext y4) (hV.ext y4) (hG.ext y4)
     refine den_call_q (fun _ _ => hq) ⟨(Tx.typed vars args[i]).1, (Tx.typed vars args[i]).2, rfl, fun W5 x5 => ?_⟩
     simp only [zP]
     refine den_br (fun c4 => den_ret fun _ _ _ => ⟨_, rfl, ?_⟩) fun c4 => ?_
     ·have c4 : ¬ (Tx.typed vars args[i]).2 = 0 := by simpa [Sy.dens, Sy.den, E.i, E.b, E.t, gd, Env.push, z_a, z_b, z_c, z_d] using c4
      dsimp only at hnx
      rw [if_neg c4] at hnx
      have := Tx.typeds_err (args.drop (i + 1)) hnx
      rw [List.take_append_drop] at this
      rw [this]; rfl
     ·have c4 : (Tx.typed vars args[i]).2 = 0 := by simpa [Sy.dens, Sy.den, E.i, E.b, E.t, gd, Env.push, z_a, z_b, z_c, z_d] using c4
      dsimp only at hnx
      rw [if_pos c4] at hnx
      refine den_new fun m2 W6 _ x6 => den_chk ?_ (den_app fun a3 c3' W7 _ x7 => den_frz fun W8 _ x8 _ _ => den_again ⟨args.length - (i + 1), by omega, i + 1, sides ++ [(Tx.typed vars args[i]).1], a3, c3', ?_, ?_, by omega, rfl, hnx⟩)
      ·simp only [zE]; exact leB_t (by omega)
      ·simp only [zE]
       rw [w64i (by omega) (by omega)]
       simp only [List.length_append, List.length_cons, List.length_nil]
       congr 2
      ·simp [rowConts, conts, Seg.den, gd, Env.push, Sy.den, E.i, u8s]
   ·simp only [zE, ltB_false] at c3
    obtain rfl : i = args.length := by omega
    rw [List.take_length] at hsd
    rw [hsd]
    obtain ⟨oi, hoi, hol, hso⟩ := sort_at ho1 ho2
    obtain ⟨sl, ty, hsl17, hgs, hsls⟩ := hG.sorts
    have hsls := hsls oi hol
    rw [← hso] at hsls
    have hslen := sorts_len op
    refine den_chk ?_ (den_chk ?_ (den_adr (den_look ⟨(Tx.sortsOf op).length, (sl.getD oi (none, 0)).2, (sl.getD oi (none, 0)).1, fun V xV => ?_, ?_⟩)))
    ·simp only [zE]; exact leB_t (by omega)
    ·simp only [zE]; exact ltB_t (by omega)
    ·simp only [zE]
     refine glob_look hgs hG.sortsI sorts_aggT ?_ (ext_trans x2' xV)
     rw [hoi, Int.toNat_natCast, List.getElem?_map, List.getElem?_range hol, Option.map_some]
     rw [← hoi, hso]
    simp only [zP]
    refine den_loop (fun j vs ls _ => ∃ (i : Nat) (a2 : Option Addr) (c2 : Nat), vs = [.int .i64 (i : Nat), .slice a2 sides.length c2] ∧ ls = [u8s sides] ∧ i ≤ (Tx.sortsOf op).length ∧ j = (Tx.sortsOf op).length - i ∧ ((Tx.sortsOf op).find? fun s => sides.all (· == s.1)) = ((Tx.sortsOf op).drop i).find? fun s => sides.all (· == s.1)) (Tx.sortsOf op).length ⟨0, a2, cc2, rfl, (by simp [rowConts, conts, Seg.den, gd, Env.push]), Nat.zero_le _, rfl, rfl⟩ ?_
    rintro j vs ls'' W3 x3 ⟨i, a3, cc3, rfl, rfl, hi, rfl, hfd⟩
    have y3 := ext_trans x2' x3
    refine ⟨(i : Int), sides.length, cc3, a3, u8s sides, rfl, (by simp [rowConts, conts, Seg.den, gd, Env.push]), fun hR => den_br (fun c4 => ?_) fun c4 => den_ret fun _ _ _ => ⟨_, rfl, ?_⟩⟩
    ·simp only [zE, ltB_true] at c4
     have hil : i < (Tx.sortsOf op).length := by omega
     have hx : (Tx.sortsOf op)[i]? = some (Tx.sortsOf op)[i] := List.getElem?_eq_getElem hil
     rw [tdrop_get hil] at hfd
     refine den_chk ?_ (den_chk ?_ (den_look ⟨(Tx.sortsOf op)[i].1, (Tx.sortsOf op)[i].2, fun V xV => ?_, ?_⟩))
     ·simp only [E.b, gd, Env.push]; exact SlI.some_of hsls (by omega)
     ·simp only [zE]; exact leB_t (by omega)
     ·have := sl_look (f := sortC) (sz := 2) (fun _ => rfl) (by decide) hsls sort_aggT sort_sizeT hx (ext_trans y3 xV)
      simp only [zE] at this ⊢
      exact this
     simp only [zP]
     refine den_new fun m1 W4 _ x4 => den_wr fun W5 x5 => den_call_q (fun hb hr => ?_) ⟨!sides.all (· == (Tx.sortsOf op)[i].1), rfl, fun W6 x6 => den_br (fun c5 => den_ret fun _ _ _ => ⟨_, rfl, ?_⟩) fun c5 => den_frz fun W7 _ x7 _ _ => den_again ⟨(Tx.sortsOf op).length - (i + 1), by omega, i + 1, a3, cc3, ?_, ?_, by omega, rfl, ?_⟩⟩
     ·have hr := hr _ (List.mem_singleton.2 rfl)
      have hsl : SlAt W5.w (fun b => W.all.w.heap.size ≤ b) a3 sides.length cc3 1 (u8s sides ++ []) := owns_sl hr.1
      rw [List.append_nil] at hsl
      exact scont_q (Tx.sortsOf op)[i] sides a3 cc3 W5 (by omega) hsl.w m1 (hb _ (List.mem_singleton.2 rfl))
     ·have c5 : sides.all (· == (Tx.sortsOf op)[i].1) = true := by simpa only [Sy.dens, Sy.den, E.i, E.b, E.t, gd, Env.push, z_a, z_b, z_c, z_d, Bool.not_not] using c5
      have hs : ((Tx.sortsOf op).find? fun s => sides.all (· == s.1)) = some (Tx.sortsOf op)[i] := by rw [hfd, List.find?_cons, c5]
      simp only [Tx.sorted, hs]
      rfl
     ·simp only [zE]; rw [w64i (by omega) (by omega)]; rfl
     ·exact (by simp [rowConts, conts, Seg.den, gd, Env.push])
     ·have c5 : sides.all (· == (Tx.sortsOf op)[i].1) = false := by simpa only [Sy.dens, Sy.den, E.i, E.b, E.t, gd, Env.push, z_a, z_b, z_c, z_d, Bool.not_not] using c5
      rw [hfd, List.find?_cons, c5]
    ·simp only [zE, ltB_false] at c4
     have hs : ((Tx.sortsOf op).find? fun s => sides.all (· == s.1)) = none := by rw [hfd, List.drop_eq_nil_of_le (by omega)]; rfl
     simp only [Tx.sorted, hs]
     rfl
theorem tType_q (x : Px.Ex) (vs : List Value) (vars : List Tx.Var) (a : Option Addr) (c : Nat) (W : Wd) (hth : Px.thin x = true) (hvl : vars.length ≤ 1000000) (hx : ExI W x vs) (hV : VarsI W a c vars) (hG : GlobT W) :
  CallsQ Tryz.prog 24 #[.agg vs.toArray, .slice a vars.length c] W (tupV (Tx.type vars x)) := by
 obtain ⟨op, k, nn, t, nm, al, len, cl, rfl⟩ := hx.shape
 refine vc_tType op k nn len cl vars.length c t nm al a W.all _ ?_
 refine den_new fun m0 W1 _ x1 => ?_
 have x1 := ext_trans W.all_ext x1
 refine den_call_q (fun _ _ => tWhole_q x _ W1 hth (hx.ext x1) (hG.ext x1)) ⟨Tx.whole 16 x, rfl, fun W2 x2 => den_br (fun c1 => den_ret fun _ _ _ => ⟨_, rfl, ?_⟩) fun c1 => ?_⟩
 ·have c1 : Tx.whole 16 x = false := by simpa [Sy.dens, Sy.den, E.i, E.b, E.t, gd, Env.push, z_a, z_b, z_c, z_d] using c1
  rw [Tx.type, c1]; rfl
 ·have c1 : Tx.whole 16 x = true := by simpa [Sy.dens, Sy.den, E.i, E.b, E.t, gd, Env.push, z_a, z_b, z_c, z_d] using c1
  have x2 := ext_trans x1 x2
  refine den_call_q (fun _ _ => typed_ok 16 x _ vars a c W2 hth c1 hvl (hx.ext x2) (hV.ext x2) (hG.ext x2)) ⟨(Tx.typed vars x).1, (Tx.typed vars x).2, rfl, fun _ _ => den_ret fun _ _ _ => ⟨_, rfl, ?_⟩⟩
  rw [Tx.type, c1]; rfl
end Go.Proofs.YtkpjmlnhhggenaaGreatDoor
end
section
/- Package model in plain Lean: names, variables, nodes, flows, processes. No program in sight. -/
namespace Md
open Go
abbrev Bs := List UInt8
abbrev Var := Tx.Var
structure Nd where
 nm : Bs
 kd : Int
 inn : Int
 on : Int
 ev : Int
 key : Bs
 txt : Bs
 set : Bs
 brk : Bool
 vars : List Var
 back : List Bs
structure Fl where
 frm : Int
 to : Int
 cond : Bs
 els : Bool
structure Pr where
 nm : Bs
 vars : List Var
 nodes : List Nd
 flows : List Fl
def reserved : List Bs := [[121, 101, 115], [110, 111], [108, 101, 110]]
def low (b : UInt8) : Bool := decide ((97 : Int) ≤ (b.toNat : Int)) && decide ((b.toNat : Int) ≤ 122)
def more (b : UInt8) : Bool := (decide ((48 : Int) ≤ (b.toNat : Int)) && decide ((b.toNat : Int) ≤ 57)) || decide ((b.toNat : Int) = 95)
def nameAt : Nat → Bs → Bool
 | _, [] => true
 | i, b :: l => (low b || (decide (0 < i) && more b)) && nameAt (i + 1) l
def name (s : Bs) : Bool := !(s == [] || decide (12 < s.length)) && (!reserved.contains s && nameAt 0 s)
def evTab : List (List Int) := [[], [0, 1, 2, 3, 4, 5], [0, 1, 4, 5, 7], [0], [0], [0, 1, 5, 6], [1, 2, 3, 6], [0], [0], [0], [0], [0], [0], [0], [0], [1, 2, 3, 4, 5]]
def event (k e : Int) : Bool := decide (k < 16) && (evTab.getD k.toNat []).contains e
def act (k : Int) : Bool := ([3, 11, 12, 14] : List Int).contains k
def scope (k : Int) : Bool := ([11, 12, 13] : List Int).contains k
def unl {α : Type} (nm : α → Bs) (is : α → Bool) : List α → List α → Bool
 | _, [] => true
 | pre, x :: l => is x && (!(pre.any fun y => nm y == nm x) && unl nm is (pre ++ [x]) l)
def varOk (v : Var) : Bool := name v.name && (Va.may ⟨v.k, v.n, ⟨v.t.toArray⟩⟩ && !decide (v.k = 0))
def vars (l : List Var) : Int := if 8 < l.length then 40 else if unl (·.name) varOk [] l then 0 else 4
end Md
end
section
/- What is left to show of functions, as the walk that the kernel computes finds it (written by wip/vc2.py). -/
namespace Go.Proofs.YtkpjmlnhhggenaaGreatDoor
open Go Go.RowKit Go.SF
set_option maxRecDepth 100000
@[reducible] def dd6_0_0 : Blk := ⟨1, 41, [(.str (.tv 0)), (.int .u8 (.iv 0)), (.int .i64 (.iv 1)), (.str (.tv 1))]⟩
@[reducible] def t_ixs_1 : Tree := (.br (.bin .teq (.tv 0) (.tv 1)) (.ret (.int .i64 (.iv 0)) [] [] []) (.again 0 [(.int .i64 (.un (.wrap .i64) (.bin .add (.iv 0) (.il 1))))] []))
@[reducible] def t_ixs_2 : Tree := (.chk (.sm 0) (.chk (.bin .le (.il 0) (.iv 0)) (.look 9 (.elt 0 (.iv 0) 1 0) (.str (.tv 1)) kk6 t_ixs_1)))
@[reducible] def t_ixs : Tree :=
(.loop [(.int .i64 (.il 0))] [] [(.int .i64 (.iv 0))] [] kk0 (.br (.bin .lt (.iv 0) (.nv 0)) t_ixs_2 (.ret (.int .i64 (.il (-1))) [] [] [])))
theorem x_ixs : xfn Tryz.prog { kc with loops := [⟨2, [.tm 8]⟩] } Tryz.f116 [(.slc 0 (.nv 0) (.nv 1)), (.str (.tv 0))] [] [] ⟨0, 2, 0, 1, 0, 1, 0, 0⟩ = some t_ixs := by kernel_rfl
theorem vc_ixs (n0 n1 : Nat) (t0 : ByteArray) (a0 : Option Addr) (W : Wd) (R : Ending → World → Prop) (h : t_ixs.den Tryz.prog W.w.heap.size R [] { N := [n0, n1], T := [t0], A := [a0] } W) : CallsE Tryz.prog 116 #[.slice a0 n0 n1, .string t0] W R :=
 fn_calls Tryz.func116 _ _ { N := [n0, n1], T := [t0], A := [a0] } _ x_ixs (fun v hv => by cases hv) h
@[reducible] def t_cts : Tree :=
(.call 116 [(.slc 0 (.nv 0) (.nv 1)), (.str (.tv 0))] [] [] [] (.int .i64 (.iv 0)) kk0 (.ret (.bool (.bin .le (.il 0) (.iv 0))) [] [] []))
theorem x_cts : xfn Tryz.prog kc Tryz.f59 [(.slc 0 (.nv 0) (.nv 1)), (.str (.tv 0))] [] [] ⟨0, 2, 0, 1, 0, 1, 0, 0⟩ = some t_cts := by kernel_rfl
theorem vc_cts (n0 n1 : Nat) (t0 : ByteArray) (a0 : Option Addr) (W : Wd) (R : Ending → World → Prop) (h : t_cts.den Tryz.prog W.w.heap.size R [] { N := [n0, n1], T := [t0], A := [a0] } W) : CallsE Tryz.prog 59 #[.slice a0 n0 n1, .string t0] W R :=
 fn_calls Tryz.func59 _ _ { N := [n0, n1], T := [t0], A := [a0] } _ x_cts (fun v hv => by cases hv) h
@[reducible] def t_ixu_1 : Tree := (.br (.bin .ieq (.iv 0) (.iv 2)) (.ret (.int .i64 (.iv 1)) [] [] []) (.again 0 [(.int .i64 (.un (.wrap .i64) (.bin .add (.iv 1) (.il 1))))] []))
@[reducible] def t_ixu_2 : Tree := (.chk (.sm 0) (.chk (.bin .le (.il 0) (.iv 1)) (.look 5 (.elt 0 (.iv 1) 1 0) (.int .u8 (.iv 2)) kk0 t_ixu_1)))
@[reducible] def t_ixu : Tree :=
(.loop [(.int .i64 (.il 0))] [] [(.int .i64 (.iv 1))] [] kk0 (.br (.bin .lt (.iv 1) (.nv 0)) t_ixu_2 (.ret (.int .i64 (.il (-1))) [] [] [])))
theorem x_ixu : xfn Tryz.prog { kc with loops := [⟨2, [.tm 8]⟩] } Tryz.f85 [(.slc 0 (.nv 0) (.nv 1)), (.int .u8 (.iv 0))] [] [] ⟨1, 2, 0, 0, 0, 1, 0, 0⟩ = some t_ixu := by kernel_rfl
theorem vc_ixu (i0 : Int) (n0 n1 : Nat) (a0 : Option Addr) (W : Wd) (R : Ending → World → Prop) (h : t_ixu.den Tryz.prog W.w.heap.size R [] { I := [i0], N := [n0, n1], A := [a0] } W) : CallsE Tryz.prog 85 #[.slice a0 n0 n1, .int .u8 i0] W R :=
 fn_calls Tryz.func85 _ _ { I := [i0], N := [n0, n1], A := [a0] } _ x_ixu (fun v hv => by cases hv) h
@[reducible] def t_ctu : Tree :=
(.call 85 [(.slc 0 (.nv 0) (.nv 1)), (.int .u8 (.iv 0))] [] [] [] (.int .i64 (.iv 1)) kk0 (.ret (.bool (.bin .le (.il 0) (.iv 1))) [] [] []))
theorem x_ctu : xfn Tryz.prog kc Tryz.f44 [(.slc 0 (.nv 0) (.nv 1)), (.int .u8 (.iv 0))] [] [] ⟨1, 2, 0, 0, 0, 1, 0, 0⟩ = some t_ctu := by kernel_rfl
theorem vc_ctu (i0 : Int) (n0 n1 : Nat) (a0 : Option Addr) (W : Wd) (R : Ending → World → Prop) (h : t_ctu.den Tryz.prog W.w.heap.size R [] { I := [i0], N := [n0, n1], A := [a0] } W) : CallsE Tryz.prog 44 #[.slice a0 n0 n1, .int .u8 i0] W R :=
 fn_calls Tryz.func44 _ _ { I := [i0], N := [n0, n1], A := [a0] } _ x_ctu (fun v hv => by cases hv) h
@[reducible] def t_mname_1 : Tree := (.br (.bin .band (.bin .lt (.il 0) (.iv 0)) (.bin .bor (.bin .band (.bin .le (.il 48) (.iv 1)) (.bin .le (.iv 1) (.il 57))) (.bin .ieq (.iv 1) (.il 95)))) (.again 0 [(.int .i64 (.un (.wrap .i64) (.bin .add (.iv 0) (.il 1))))] []) (.ret (.bool (.bl false)) [] [] []))
@[reducible] def t_mname_2 : Tree := (.br (.bin .band (.bin .le (.il 97) (.iv 1)) (.bin .le (.iv 1) (.il 122))) (.again 0 [(.int .i64 (.un (.wrap .i64) (.bin .add (.iv 0) (.il 1))))] []) t_mname_1)
@[reducible] def t_mname_3 : Tree := (.chk (.sm 1) (.chk (.bin .le (.il 0) (.iv 0)) (.look 5 (.elt 1 (.iv 0) 1 0) (.int .u8 (.iv 1)) kk0 t_mname_2)))
@[reducible] def t_mname_4 : Tree := (.loop [(.int .i64 (.il 0))] [] [(.int .i64 (.iv 0))] [] kk0 (.br (.bin .lt (.iv 0) (.un .len (.tv 0))) t_mname_3 (.ret (.bool (.bl true)) [] [] [])))
@[reducible] def t_mname_5 : Tree := (.adr ⟨0, 0, none⟩ (.call 59 [(.slc 0 (.il 3) (.il 3)), (.str (.tv 0))] [] [] [] (.bool (.bv 0)) kk1 (.br (.bv 0) (.ret (.bool (.bl false)) [] [] []) (.byt (.tv 0) t_mname_4))))
@[reducible] def t_mname : Tree :=
(.br (.un .not (.bin .bor (.bin .teq (.tv 0) (.tl [])) (.bin .lt (.il 12) (.un .len (.tv 0))))) t_mname_5 (.ret (.bool (.bl false)) [] [] []))
theorem x_mname : xfn Tryz.prog { kc with loops := [⟨4, [.tm 20]⟩] } Tryz.f27 [(.str (.tv 0))] [] [] kk6 = some t_mname := by kernel_rfl
theorem vc_mname (t0 : ByteArray) (W : Wd) (R : Ending → World → Prop) (h : t_mname.den Tryz.prog W.w.heap.size R [] { T := [t0] } W) : CallsE Tryz.prog 27 #[.string t0] W R :=
 fn_calls Tryz.func27 _ _ { T := [t0] } _ x_mname (fun v hv => by cases hv) h
@[reducible] def t_mevent_1 : Tree := (.call 44 [(.slc 1 (.nv 0) (.nv 1)), (.int .u8 (.iv 1))] [] [] [] (.bool (.bv 0)) kk1 (.ret (.bool (.bv 0)) [] [] []))
@[reducible] def t_mevent_2 : Tree := (.chk (.bin .le (.il 0) (.iv 0)) (.chk (.bin .lt (.iv 0) (.il 16)) (.adr ⟨2, 0, none⟩ (.look 77 (.elt 0 (.iv 0) 1 0) (.slc 1 (.nv 0) (.nv 1)) kk2 t_mevent_1))))
@[reducible] def t_mevent : Tree :=
(.br (.bin .lt (.un (.wrap .i64) (.iv 0)) (.il 16)) t_mevent_2 (.ret (.bool (.bl false)) [] [] []))
theorem x_mevent : xfn Tryz.prog kc Tryz.f89 [(.int .u8 (.iv 0)), (.int .u8 (.iv 1))] [] [] kk7 = some t_mevent := by kernel_rfl
theorem vc_mevent (i0 i1 : Int) (W : Wd) (R : Ending → World → Prop) (h : t_mevent.den Tryz.prog W.w.heap.size R [] { I := [i0, i1] } W) : CallsE Tryz.prog 89 #[.int .u8 i0, .int .u8 i1] W R :=
 fn_calls Tryz.func89 _ _ { I := [i0, i1] } _ x_mevent (fun v hv => by cases hv) h
@[reducible] def t_mact : Tree :=
(.new (.call 44 [(.slb 0 0 4 4), (.int .u8 (.iv 0))] [⟨0, 5, [(.int .u8 (.il 3)), (.int .u8 (.il 11)), (.int .u8 (.il 12)), (.int .u8 (.il 14))]⟩] [] [] (.bool (.bv 0)) kk1 (.ret (.bool (.bv 0)) [] [] [])))
theorem x_mact : xfn Tryz.prog kc Tryz.f62 [(.int .u8 (.iv 0))] [] [] kk0 = some t_mact := by kernel_rfl
theorem vc_mact (i0 : Int) (W : Wd) (R : Ending → World → Prop) (h : t_mact.den Tryz.prog W.w.heap.size R [] { I := [i0] } W) : CallsE Tryz.prog 62 #[.int .u8 i0] W R :=
 fn_calls Tryz.func62 _ _ { I := [i0] } _ x_mact (fun v hv => by cases hv) h
@[reducible] def t_mscope : Tree :=
(.new (.call 44 [(.slb 0 0 3 3), (.int .u8 (.iv 0))] [⟨0, 5, [(.int .u8 (.il 11)), (.int .u8 (.il 12)), (.int .u8 (.il 13))]⟩] [] [] (.bool (.bv 0)) kk1 (.ret (.bool (.bv 0)) [] [] [])))
theorem x_mscope : xfn Tryz.prog kc Tryz.f17 [(.int .u8 (.iv 0))] [] [] kk0 = some t_mscope := by kernel_rfl
theorem vc_mscope (i0 : Int) (W : Wd) (R : Ending → World → Prop) (h : t_mscope.den Tryz.prog W.w.heap.size R [] { I := [i0] } W) : CallsE Tryz.prog 17 #[.int .u8 i0] W R :=
 fn_calls Tryz.func17 _ _ { I := [i0] } _ x_mscope (fun v hv => by cases hv) h
@[reducible] def t_vars1_1 : Tree := (.call 25 [(.agg [(.int .u8 (.iv 0)), (.int .i64 (.iv 1)), (.str (.tv 1))])] [] [] [] (.bool (.bv 1)) kk1 (.ret (.bool (.bin .band (.bv 1) (.un .not (.bin .ieq (.iv 0) (.il 0))))) [] [] []))
@[reducible] def t_vars1 : Tree :=
(.new (.call 27 [(.str (.tv 0))] [] [] [] (.bool (.bv 0)) kk1 (.br (.bv 0) t_vars1_1 (.ret (.bool (.bl false)) [] [] []))))
theorem x_vars1 : xfn Tryz.prog kc Tryz.f86 [(.agg [(.str (.tv 0)), (.int .u8 (.iv 0)), (.int .i64 (.iv 1)), (.str (.tv 1))])] [] [] kk10 = some t_vars1 := by kernel_rfl
theorem vc_vars1 (i0 i1 : Int) (t0 t1 : ByteArray) (W : Wd) (R : Ending → World → Prop) (h : t_vars1.den Tryz.prog W.w.heap.size R [] { I := [i0, i1], T := [t0, t1] } W) : CallsE Tryz.prog 86 #[.agg #[.string t0, .int .u8 i0, .int .i64 i1, .string t1]] W R :=
 fn_calls Tryz.func86 _ _ { I := [i0, i1], T := [t0, t1] } _ x_vars1 (fun v hv => by cases hv) h
@[reducible] def t_ixv_1 : Tree := (.grow (.br (.bin .teq (.tv 2) (.tv 0)) (.ret (.int .i64 (.iv 2)) [] [] []) (.again 0 [(.int .i64 (.un (.wrap .i64) (.bin .add (.iv 2) (.il 1))))] [])))
@[reducible] def t_ixv_2 : Tree := (.chk (.sm 0) (.chk (.bin .le (.il 0) (.iv 2)) (.look 41 (.elt 0 (.iv 2) 4 0) (.agg [(.str (.tv 2)), (.int .u8 (.iv 3)), (.int .i64 (.iv 4)), (.str (.tv 3))]) kk10 t_ixv_1)))
@[reducible] def t_ixv : Tree :=
(.loop [(.int .i64 (.il 0))] [] [(.int .i64 (.iv 2))] [] kk0 (.br (.bin .lt (.iv 2) (.nv 0)) t_ixv_2 (.ret (.int .i64 (.il (-1))) [] [] [])))
theorem x_ixv : xfn Tryz.prog { kc with inl := [88, 131], loops := [⟨2, [.tm 8]⟩] } Tryz.f112 [(.slc 0 (.nv 0) (.nv 1)), (.fn 131 [(.ptr 0 0), (.ptr 1 0)])] [] [⟨0, 114, [(.fn 88 [])]⟩, dd6_0_0] ⟨2, 2, 0, 2, 0, 1, 2, 0⟩ = some t_ixv := by kernel_rfl
theorem vc_ixv (i0 i1 : Int) (n0 n1 : Nat) (t0 t1 : ByteArray) (a0 : Option Addr) (m0 m1 : Nat) (W : Wd) (R : Ending → World → Prop) (hm0 : W.w.heap[m0]? = some (.cells #[.func (.func 88) #[] #[]] 114)) (Im0 : W.I m0) (hm1 : W.w.heap[m1]? = some (.cells #[.string t0, .int .u8 i0, .int .i64 i1, .string t1] 41)) (Im1 : W.I m1) (h : t_ixv.den Tryz.prog W.w.heap.size R [] { I := [i0, i1], N := [n0, n1], T := [t0, t1], A := [a0], M := [m0, m1] } W) : CallsE Tryz.prog 112 #[.slice a0 n0 n1, .func (.func 131) #[] #[.pointer (some ⟨m0, 0, none⟩), .pointer (some ⟨m1, 0, none⟩)]] W R :=
 fn_calls_ro Tryz.func112 _ _ [⟨0, 114, [(.fn 88 [])]⟩, dd6_0_0] { I := [i0, i1], N := [n0, n1], T := [t0, t1], A := [a0], M := [m0, m1] } _ x_ixv (fun v hv => by cases hv) (fun b hb => by simp only [List.mem_cons, List.not_mem_nil, or_false] at hb; rcases hb with rfl | rfl <;> (first | exact hm0 | exact hm1)) (fun b hb => by simp only [List.mem_cons, List.not_mem_nil, or_false] at hb; rcases hb with rfl | rfl <;> (first | exact Im0 | exact Im1)) h
@[reducible] def t_ctv : Tree :=
(.call 112 [(.slc 0 (.nv 0) (.nv 1)), (.fn 131 [(.ptr 0 0), (.ptr 1 0)])] [⟨0, 114, [(.fn 88 [])]⟩, dd6_0_0] [] [] (.int .i64 (.iv 2)) kk0 (.ret (.bool (.bin .le (.il 0) (.iv 2))) [] [] []))
theorem x_ctv : xfn Tryz.prog { kc with inl := [88, 131] } Tryz.f130 [(.slc 0 (.nv 0) (.nv 1)), (.fn 131 [(.ptr 0 0), (.ptr 1 0)])] [] [⟨0, 114, [(.fn 88 [])]⟩, dd6_0_0] ⟨2, 2, 0, 2, 0, 1, 2, 0⟩ = some t_ctv := by kernel_rfl
theorem vc_ctv (i0 i1 : Int) (n0 n1 : Nat) (t0 t1 : ByteArray) (a0 : Option Addr) (m0 m1 : Nat) (W : Wd) (R : Ending → World → Prop) (hm0 : W.w.heap[m0]? = some (.cells #[.func (.func 88) #[] #[]] 114)) (Im0 : W.I m0) (hm1 : W.w.heap[m1]? = some (.cells #[.string t0, .int .u8 i0, .int .i64 i1, .string t1] 41)) (Im1 : W.I m1) (h : t_ctv.den Tryz.prog W.w.heap.size R [] { I := [i0, i1], N := [n0, n1], T := [t0, t1], A := [a0], M := [m0, m1] } W) : CallsE Tryz.prog 130 #[.slice a0 n0 n1, .func (.func 131) #[] #[.pointer (some ⟨m0, 0, none⟩), .pointer (some ⟨m1, 0, none⟩)]] W R :=
 fn_calls_ro Tryz.func130 _ _ [⟨0, 114, [(.fn 88 [])]⟩, dd6_0_0] { I := [i0, i1], N := [n0, n1], T := [t0, t1], A := [a0], M := [m0, m1] } _ x_ctv (fun v hv => by cases hv) (fun b hb => by simp only [List.mem_cons, List.not_mem_nil, or_false] at hb; rcases hb with rfl | rfl <;> (first | exact hm0 | exact hm1)) (fun b hb => by simp only [List.mem_cons, List.not_mem_nil, or_false] at hb; rcases hb with rfl | rfl <;> (first | exact Im0 | exact Im1)) h
@[reducible] def t_ulv_1 : Tree := (.frz [⟨1, 41, [(.str (.tv 0)), (.int .u8 (.iv 1)), (.int .i64 (.iv 2)), (.str (.tv 1))]⟩] (.again 0 [(.int .i64 (.un (.wrap .i64) (.bin .add (.iv 0) (.il 1))))] []))
@[reducible] def t_ulv_2 : Tree := (.chk (.bin .le (.iv 0) (.nv 1)) (.sub 0 (.il 0) (.iv 0) (.nv 1) 4 (.call 130 [(.slc 1 (.nv 2) (.nv 1)), (.fn 131 [(.ptr 0 0), (.ptr 1 0)])] [⟨1, 41, [(.str (.tv 0)), (.int .u8 (.iv 1)), (.int .i64 (.iv 2)), (.str (.tv 1))]⟩, ⟨0, 114, [(.fn 88 [])]⟩] [] [] (.bool (.bv 1)) kk1 (.br (.bv 1) (.ret (.bool (.bl false)) [] [] []) t_ulv_1))))
@[reducible] def t_ulv_3 : Tree := (.new (.wr (.call 86 [(.agg [(.str (.tv 0)), (.int .u8 (.iv 1)), (.int .i64 (.iv 2)), (.str (.tv 1))])] [] [] [] (.bool (.bv 0)) kk1 (.br (.bv 0) t_ulv_2 (.ret (.bool (.bl false)) [] [] [])))))
@[reducible] def t_ulv_4 : Tree := (.chk (.sm 0) (.chk (.bin .le (.il 0) (.iv 0)) (.look 41 (.elt 0 (.iv 0) 4 0) (.agg [(.str (.tv 0)), (.int .u8 (.iv 1)), (.int .i64 (.iv 2)), (.str (.tv 1))]) kk10 t_ulv_3)))
@[reducible] def t_ulv : Tree :=
(.new (.loop [(.int .i64 (.il 0))] [] [(.int .i64 (.iv 0))] [] kk0 (.br (.bin .lt (.iv 0) (.nv 0)) t_ulv_4 (.ret (.bool (.bl true)) [] [] []))))
theorem x_ulv : xfn Tryz.prog { kc with loops := [⟨2, [.tm 11]⟩] } Tryz.f87 [(.slc 0 (.nv 0) (.nv 1)), (.fn 88 []), (.fn 86 [])] [] [] kk2 = some t_ulv := by kernel_rfl
theorem vc_ulv (n0 n1 : Nat) (a0 : Option Addr) (W : Wd) (R : Ending → World → Prop) (h : t_ulv.den Tryz.prog W.w.heap.size R [] { N := [n0, n1], A := [a0] } W) : CallsE Tryz.prog 87 #[.slice a0 n0 n1, .func (.func 88) #[] #[], .func (.func 86) #[] #[]] W R :=
 fn_calls Tryz.func87 _ _ { N := [n0, n1], A := [a0] } _ x_ulv (fun v hv => by cases hv) h
@[reducible] def t_mvars_1 : Tree := (.br (.un .not (.bv 0)) (.ret (.int .i64 (.il 4)) [] [] []) (.ret (.int .i64 (.il 0)) [] [] []))
@[reducible] def t_mvars_2 : Tree := (.call 87 [(.slc 0 (.nv 0) (.nv 1)), (.fn 88 []), (.fn 86 [])] [] [] [] (.bool (.bv 0)) kk1 t_mvars_1)
@[reducible] def t_mvars : Tree :=
(.br (.bin .lt (.il 8) (.nv 0)) (.ret (.int .i64 (.il 40)) [] [] []) t_mvars_2)
theorem x_mvars : xfn Tryz.prog kc Tryz.f47 [(.slc 0 (.nv 0) (.nv 1))] [] [] kk2 = some t_mvars := by kernel_rfl
theorem vc_mvars (n0 n1 : Nat) (a0 : Option Addr) (W : Wd) (R : Ending → World → Prop) (h : t_mvars.den Tryz.prog W.w.heap.size R [] { N := [n0, n1], A := [a0] } W) : CallsE Tryz.prog 47 #[.slice a0 n0 n1] W R :=
 fn_calls Tryz.func47 _ _ { N := [n0, n1], A := [a0] } _ x_mvars (fun v hv => by cases hv) h
@[reducible] def t_ixt_1 : Tree := (.grow (.br (.bin .teq (.tv 1) (.tv 0)) (.ret (.int .i64 (.iv 0)) [] [] []) (.again 0 [(.int .i64 (.un (.wrap .i64) (.bin .add (.iv 0) (.il 1))))] [])))
@[reducible] def t_ixt_2 : Tree := (.chk (.sm 0) (.chk (.bin .le (.il 0) (.iv 0)) (.look 9 (.elt 0 (.iv 0) 1 0) (.str (.tv 1)) kk6 t_ixt_1)))
@[reducible] def t_ixt : Tree :=
(.loop [(.int .i64 (.il 0))] [] [(.int .i64 (.iv 0))] [] kk0 (.br (.bin .lt (.iv 0) (.nv 0)) t_ixt_2 (.ret (.int .i64 (.il (-1))) [] [] [])))
theorem x_ixt : xfn Tryz.prog { kc with inl := [103, 133], loops := [⟨2, [.tm 8]⟩] } Tryz.f163 [(.slc 0 (.nv 0) (.nv 1)), (.fn 133 [(.ptr 0 0), (.ptr 1 0)])] [] [⟨0, 130, [(.fn 103 [])]⟩, ⟨1, 9, [(.str (.tv 0))]⟩] ⟨0, 2, 0, 1, 0, 1, 2, 0⟩ = some t_ixt := by kernel_rfl
theorem vc_ixt (n0 n1 : Nat) (t0 : ByteArray) (a0 : Option Addr) (m0 m1 : Nat) (W : Wd) (R : Ending → World → Prop) (hm0 : W.w.heap[m0]? = some (.cells #[.func (.func 103) #[] #[]] 130)) (Im0 : W.I m0) (hm1 : W.w.heap[m1]? = some (.cells #[.string t0] 9)) (Im1 : W.I m1) (h : t_ixt.den Tryz.prog W.w.heap.size R [] { N := [n0, n1], T := [t0], A := [a0], M := [m0, m1] } W) : CallsE Tryz.prog 163 #[.slice a0 n0 n1, .func (.func 133) #[] #[.pointer (some ⟨m0, 0, none⟩), .pointer (some ⟨m1, 0, none⟩)]] W R :=
 fn_calls_ro Tryz.func163 _ _ [⟨0, 130, [(.fn 103 [])]⟩, ⟨1, 9, [(.str (.tv 0))]⟩] { N := [n0, n1], T := [t0], A := [a0], M := [m0, m1] } _ x_ixt (fun v hv => by cases hv) (fun b hb => by simp only [List.mem_cons, List.not_mem_nil, or_false] at hb; rcases hb with rfl | rfl <;> (first | exact hm0 | exact hm1)) (fun b hb => by simp only [List.mem_cons, List.not_mem_nil, or_false] at hb; rcases hb with rfl | rfl <;> (first | exact Im0 | exact Im1)) h
@[reducible] def t_ctt : Tree :=
(.call 163 [(.slc 0 (.nv 0) (.nv 1)), (.fn 133 [(.ptr 0 0), (.ptr 1 0)])] [⟨0, 130, [(.fn 103 [])]⟩, ⟨1, 9, [(.str (.tv 0))]⟩] [] [] (.int .i64 (.iv 0)) kk0 (.ret (.bool (.bin .le (.il 0) (.iv 0))) [] [] []))
theorem x_ctt : xfn Tryz.prog { kc with inl := [103, 133] } Tryz.f132 [(.slc 0 (.nv 0) (.nv 1)), (.fn 133 [(.ptr 0 0), (.ptr 1 0)])] [] [⟨0, 130, [(.fn 103 [])]⟩, ⟨1, 9, [(.str (.tv 0))]⟩] ⟨0, 2, 0, 1, 0, 1, 2, 0⟩ = some t_ctt := by kernel_rfl
theorem vc_ctt (n0 n1 : Nat) (t0 : ByteArray) (a0 : Option Addr) (m0 m1 : Nat) (W : Wd) (R : Ending → World → Prop) (hm0 : W.w.heap[m0]? = some (.cells #[.func (.func 103) #[] #[]] 130)) (Im0 : W.I m0) (hm1 : W.w.heap[m1]? = some (.cells #[.string t0] 9)) (Im1 : W.I m1) (h : t_ctt.den Tryz.prog W.w.heap.size R [] { N := [n0, n1], T := [t0], A := [a0], M := [m0, m1] } W) : CallsE Tryz.prog 132 #[.slice a0 n0 n1, .func (.func 133) #[] #[.pointer (some ⟨m0, 0, none⟩), .pointer (some ⟨m1, 0, none⟩)]] W R :=
 fn_calls_ro Tryz.func132 _ _ [⟨0, 130, [(.fn 103 [])]⟩, ⟨1, 9, [(.str (.tv 0))]⟩] { N := [n0, n1], T := [t0], A := [a0], M := [m0, m1] } _ x_ctt (fun v hv => by cases hv) (fun b hb => by simp only [List.mem_cons, List.not_mem_nil, or_false] at hb; rcases hb with rfl | rfl <;> (first | exact hm0 | exact hm1)) (fun b hb => by simp only [List.mem_cons, List.not_mem_nil, or_false] at hb; rcases hb with rfl | rfl <;> (first | exact Im0 | exact Im1)) h
@[reducible] def t_uls_1 : Tree := (.frz [⟨1, 9, [(.str (.tv 0))]⟩] (.again 0 [(.int .i64 (.un (.wrap .i64) (.bin .add (.iv 0) (.il 1))))] []))
@[reducible] def t_uls_2 : Tree := (.chk (.bin .le (.iv 0) (.nv 1)) (.sub 0 (.il 0) (.iv 0) (.nv 1) 1 (.call 132 [(.slc 1 (.nv 2) (.nv 1)), (.fn 133 [(.ptr 0 0), (.ptr 1 0)])] [⟨1, 9, [(.str (.tv 0))]⟩, ⟨0, 130, [(.fn 103 [])]⟩] [] [] (.bool (.bv 1)) kk1 (.br (.bv 1) (.ret (.bool (.bl false)) [] [] []) t_uls_1))))
@[reducible] def t_uls_3 : Tree := (.new (.wr (.call 27 [(.str (.tv 0))] [] [] [] (.bool (.bv 0)) kk1 (.br (.bv 0) t_uls_2 (.ret (.bool (.bl false)) [] [] [])))))
@[reducible] def t_uls_4 : Tree := (.chk (.sm 0) (.chk (.bin .le (.il 0) (.iv 0)) (.look 9 (.elt 0 (.iv 0) 1 0) (.str (.tv 0)) kk6 t_uls_3)))
@[reducible] def t_uls : Tree :=
(.new (.loop [(.int .i64 (.il 0))] [] [(.int .i64 (.iv 0))] [] kk0 (.br (.bin .lt (.iv 0) (.nv 0)) t_uls_4 (.ret (.bool (.bl true)) [] [] []))))
theorem x_uls : xfn Tryz.prog { kc with loops := [⟨2, [.tm 11]⟩] } Tryz.f102 [(.slc 0 (.nv 0) (.nv 1)), (.fn 103 []), (.fn 27 [])] [] [] kk2 = some t_uls := by kernel_rfl
theorem vc_uls (n0 n1 : Nat) (a0 : Option Addr) (W : Wd) (R : Ending → World → Prop) (h : t_uls.den Tryz.prog W.w.heap.size R [] { N := [n0, n1], A := [a0] } W) : CallsE Tryz.prog 102 #[.slice a0 n0 n1, .func (.func 103) #[] #[], .func (.func 27) #[] #[]] W R :=
 fn_calls Tryz.func102 _ _ { N := [n0, n1], A := [a0] } _ x_uls (fun v hv => by cases hv) h
end Go.Proofs.YtkpjmlnhhggenaaGreatDoor
end
section
/- The walks of package model: names and variables. -/
namespace Go.Proofs.YtkpjmlnhhggenaaGreatDoor
open Go Go.RowKit Go.SF
def strB (x : Md.Bs) : Value := .string ⟨x.toArray⟩
def strs (l : List Md.Bs) : List Value := l.flatMap fun s => [strB s]
theorem strs_len (l : List Md.Bs) : (strs l).length = l.length * 1 := flat_len (sz := 1) (f := fun s => [strB s]) (fun _ => rfl) l
theorem str_aggT : aggT Tryz.prog 9 = some false := by kernel_rfl
structure GlobM (W : Wd) : Prop where
 res : ∃ ty, W.w.heap[0]? = some (.cells (strs Md.reserved).toArray ty)
 resI : W.I 0
 ev : ∃ (sl : List (Option Addr × Nat)) (ty : TypeId), sl.length = 16 ∧ W.w.heap[2]? = some (.cells ((List.range 16).map fun i => Value.slice (sl.getD i (none, 0)).1 (Md.evTab.getD i []).length (sl.getD i (none, 0)).2).toArray ty) ∧
  ∀ i, i < 16 → SlI W (sl.getD i (none, 0)).1 (Md.evTab.getD i []).length (sl.getD i (none, 0)).2 1 (u8s (Md.evTab.getD i []))
 evI : W.I 2
theorem GlobM.ext {W W' : Wd} (h : GlobM W) (x : Ext W W') : GlobM W' := by
 obtain ⟨ty, h1⟩ := h.res
 obtain ⟨sl, ty', h2, h3, h4⟩ := h.ev
 exact ⟨⟨ty, by rw [x.keep _ h.resI]; exact h1⟩, x.sub _ h.resI, ⟨sl, ty', h2, by rw [x.keep _ h.evI]; exact h3, fun i hi => (h4 i hi).ext x⟩, x.sub _ h.evI⟩
theorem ixs_i (s : Md.Bs) (l : List Md.Bs) (a : Option Addr) (c : Nat) (W : Wd) (hl : l.length ≤ 1000000) (hV : SlI W a l.length c 1 (strs l)) :
  CallsI Tryz.prog 116 #[.slice a l.length c, .string ⟨s.toArray⟩] W.all fun v w' => ∃ r : Int, v = .int .i64 r ∧ leB 0 r = l.any (· == s) := by
 refine vc_ixs l.length c ⟨s.toArray⟩ a W.all _ ?_
 refine den_loop (fun j vs ls _ => ∃ i : Nat, vs = [.int .i64 (i : Nat)] ∧ ls = [] ∧ i ≤ l.length ∧ j = l.length - i ∧ l.any (· == s) = (l.drop i).any (· == s)) l.length ⟨0, by simp [Sy.dens, Sy.den, E.i, E.b, E.t, gd, Env.push, z_a, z_b, z_c, z_d], rfl, Nat.zero_le _, rfl, rfl⟩ ?_
 rintro j vs ls' W2 x2 ⟨i, rfl, rfl, hi, rfl, ha⟩
 have x2' := ext_trans W.all_ext x2
 refine ⟨(i : Int), rfl, rfl, fun _ => den_br (fun c1 => ?_) fun c1 => den_ret fun _ _ _ => ⟨_, rfl, -1, rfl, ?_⟩⟩
 ·simp only [zE, ltB_true] at c1
  have hil : i < l.length := by omega
  have hx : l[i]? = some l[i] := List.getElem?_eq_getElem hil
  have ha1 : l.any (· == s) = ((l[i] == s) || (l.drop (i + 1)).any (· == s)) := by rw [ha, tdrop_get hil]; rfl
  refine den_chk ?_ (den_chk ?_ (den_look ⟨⟨l[i].toArray⟩, fun W3 x3 => ?_, ?_⟩))
  ·simp only [E.b, gd, Env.push]; exact SlI.some_of hV (by omega)
  ·simp only [zE]; exact leB_t (by omega)
  ·have := sl_look_f (P := Tryz.prog) (f := fun s => [strB s]) (sz := 1) (fun _ => rfl) hV str_aggT (k := 0) hx (by decide) (u := strB l[i]) rfl (ext_trans x2' x3)
   simp only [zE] at this ⊢
   exact this
  ·simp only [zP]
   refine den_br (fun c2 => den_ret fun _ _ _ => ⟨_, rfl, (i : Int), rfl, ?_⟩) fun c2 => den_again ⟨l.length - (i + 1), by omega, i + 1, ?_, rfl, by omega, rfl, ?_⟩
   ·have c2 : (l[i] == s) = true := by simp only [zE, tba] at c2; rw [← c2]; exact Bool.beq_comm ..
    rw [ha1, c2]; exact leB_t (by omega)
   ·simp only [zE]; rw [w64i (by omega) (by omega)]; rfl
   ·have c2 : (l[i] == s) = false := by simp only [zE, tba] at c2; rw [← c2]; exact Bool.beq_comm ..
    rw [ha1, c2, Bool.false_or]
 ·simp only [zE, ltB_false] at c1
  rw [ha, List.drop_eq_nil_of_le (by omega)]; rfl
theorem cts_q (s : Md.Bs) (l : List Md.Bs) (a : Option Addr) (c : Nat) (W : Wd) (hl : l.length ≤ 1000000) (hV : SlW W.w a l.length c 1 (strs l)) :
  CallsQ Tryz.prog 59 #[.slice a l.length c, .string ⟨s.toArray⟩] W (.bool (l.any (· == s))) := by
 refine vc_cts l.length c ⟨s.toArray⟩ a W.all _ ?_
 refine den_call_i (fun _ _ => ixs_i s l a c W.all hl hV.all) fun v w' _ ⟨r, hv, hr⟩ => ⟨r, hv, fun W2 _ _ _ => den_ret fun _ _ _ => ⟨_, rfl, ?_⟩⟩
 show Value.bool (leB 0 r) = _
 rw [hr]
theorem ixu_i (s : Int) (l : List Int) (a : Option Addr) (c : Nat) (W : Wd) (hl : l.length ≤ 1000000) (hV : SlI W a l.length c 1 (u8s l)) :
  CallsI Tryz.prog 85 #[.slice a l.length c, .int .u8 s] W.all fun v w' => ∃ r : Int, v = .int .i64 r ∧ leB 0 r = l.contains s := by
 refine vc_ixu s l.length c a W.all _ ?_
 refine den_loop (fun j vs ls _ => ∃ i : Nat, vs = [.int .i64 (i : Nat)] ∧ ls = [] ∧ i ≤ l.length ∧ j = l.length - i ∧ l.contains s = (l.drop i).contains s) l.length ⟨0, by simp [Sy.dens, Sy.den, E.i, E.b, E.t, gd, Env.push, z_a, z_b, z_c, z_d], rfl, Nat.zero_le _, rfl, rfl⟩ ?_
 rintro j vs ls' W2 x2 ⟨i, rfl, rfl, hi, rfl, ha⟩
 have x2' := ext_trans W.all_ext x2
 refine ⟨(i : Int), rfl, rfl, fun _ => den_br (fun c1 => ?_) fun c1 => den_ret fun _ _ _ => ⟨_, rfl, -1, rfl, ?_⟩⟩
 ·simp only [zE, ltB_true] at c1
  have hil : i < l.length := by omega
  have hx : l[i]? = some l[i] := List.getElem?_eq_getElem hil
  have ha1 : l.contains s = ((s == l[i]) || (l.drop (i + 1)).contains s) := by rw [ha, tdrop_get hil]; rfl
  refine den_chk ?_ (den_chk ?_ (den_look ⟨l[i], fun W3 x3 => ?_, ?_⟩))
  ·simp only [E.b, gd, Env.push]; exact SlI.some_of hV (by omega)
  ·simp only [zE]; exact leB_t (by omega)
  ·have := sl_look_f (P := Tryz.prog) (f := fun t => [Value.int .u8 t]) (sz := 1) (fun _ => rfl) hV u8_aggT (k := 0) hx (by decide) (u := .int .u8 l[i]) rfl (ext_trans x2' x3)
   simp only [zE] at this ⊢
   exact this
  ·simp only [zP]
   refine den_br (fun c2 => den_ret fun _ _ _ => ⟨_, rfl, (i : Int), rfl, ?_⟩) fun c2 => den_again ⟨l.length - (i + 1), by omega, i + 1, ?_, rfl, by omega, rfl, ?_⟩
   ·have c2 : (s == l[i]) = true := by simpa only [Sy.dens, Sy.den, E.i, E.b, E.t, gd, Env.push, z_a, z_b, z_c, z_d] using c2
    rw [ha1, c2]; exact leB_t (by omega)
   ·simp only [zE]; rw [w64i (by omega) (by omega)]; rfl
   ·have c2 : (s == l[i]) = false := by simpa only [Sy.dens, Sy.den, E.i, E.b, E.t, gd, Env.push, z_a, z_b, z_c, z_d] using c2
    rw [ha1, c2, Bool.false_or]
 ·simp only [zE, ltB_false] at c1
  rw [ha, List.drop_eq_nil_of_le (by omega)]; rfl
theorem ctu_q (s : Int) (l : List Int) (a : Option Addr) (c : Nat) (W : Wd) (hl : l.length ≤ 1000000) (hV : SlW W.w a l.length c 1 (u8s l)) :
  CallsQ Tryz.prog 44 #[.slice a l.length c, .int .u8 s] W (.bool (l.contains s)) := by
 refine vc_ctu s l.length c a W.all _ ?_
 refine den_call_i (fun _ _ => ixu_i s l a c W.all hl hV.all) fun v w' _ ⟨r, hv, hr⟩ => ⟨r, hv, fun W2 _ _ _ => den_ret fun _ _ _ => ⟨_, rfl, ?_⟩⟩
 show Value.bool (leB 0 r) = _
 rw [hr]
theorem mact_q (k : Int) (W : Wd) : CallsQ Tryz.prog 62 #[.int .u8 k] W (.bool (Md.act k)) := by
 refine vc_mact k W.all _ ?_
 refine den_new fun m W1 _ x1 => den_call_q (fun hb _ => ctu_q k [3, 11, 12, 14] (some ⟨m, 0, none⟩) 4 W1 (by decide) (blk_sl (hb _ (List.mem_singleton.2 rfl)) rfl)) ⟨Md.act k, rfl, fun W2 x2 => den_ret fun _ _ _ => ⟨_, rfl, rfl⟩⟩
theorem mscope_q (k : Int) (W : Wd) : CallsQ Tryz.prog 17 #[.int .u8 k] W (.bool (Md.scope k)) := by
 refine vc_mscope k W.all _ ?_
 refine den_new fun m W1 _ x1 => den_call_q (fun hb _ => ctu_q k [11, 12, 13] (some ⟨m, 0, none⟩) 3 W1 (by decide) (blk_sl (hb _ (List.mem_singleton.2 rfl)) rfl)) ⟨Md.scope k, rfl, fun W2 x2 => den_ret fun _ _ _ => ⟨_, rfl, rfl⟩⟩
theorem mevent_q (k e : Int) (hk0 : 0 ≤ k) (hk : k < 256) (W : Wd) (hG : GlobM W) : CallsQ Tryz.prog 89 #[.int .u8 k, .int .u8 e] W (.bool (Md.event k e)) := by
 have hG := hG.ext W.all_ext
 refine vc_mevent k e W.all _ ?_
 have hw : IntKind.i64.wrap k = k := w64i (by omega) (by omega)
 refine den_br (fun c1 => ?_) fun c1 => den_ret fun _ _ _ => ⟨_, rfl, ?_⟩
 ·simp only [zE, ltB_true] at c1
  rw [hw] at c1
  obtain ⟨sl, ty, h1, h2, h3⟩ := hG.ev
  obtain ⟨i, rfl⟩ : ∃ i : Nat, k = (i : Int) := ⟨k.toNat, by omega⟩
  have hi : i < 16 := by omega
  refine den_chk ?_ (den_chk ?_ (den_adr ?_))
  ·simp only [zE]; exact leB_t (by omega)
  ·simp only [zE]; exact ltB_t (by omega)
  simp only [zP]
  refine den_look ⟨(Md.evTab.getD i []).length, (sl.getD i (none, 0)).2, (sl.getD i (none, 0)).1, fun V xV => ?_, ?_⟩
  ·have := glob_look (t := 77) h2 hG.evI (by kernel_rfl) (i := i) (u := Value.slice (sl.getD i (none, 0)).1 (Md.evTab.getD i []).length (sl.getD i (none, 0)).2) (by simp [hi]) xV
   simp only [zE] at this ⊢
   exact this
  simp only [zP]
  have hlen : (Md.evTab.getD i []).length ≤ 1000000 := by
   have : ∀ j, j < 16 → (Md.evTab.getD j []).length ≤ 10 := by decide
   have := this i hi
   omega
  refine den_call_q (fun _ _ => ctu_q e (Md.evTab.getD i []) _ _ W.all hlen (SlAt.w (h3 i hi))) ⟨(Md.evTab.getD i []).contains e, rfl, fun W2 x2 => den_ret fun _ _ _ => ⟨_, rfl, ?_⟩⟩
  simp [Sy.dens, Sy.den, E.i, E.b, E.t, gd, Env.push, z_a, z_b, z_c, z_d, Md.event, Sy.den, E.b, gd, Env.push]
  omega
 ·simp only [zE, ltB_false] at c1
  rw [hw] at c1
  have : Md.event k e = false := by simp [Md.event]; intro h; omega
  rw [this]; rfl
theorem mb_size (s : Md.Bs) : (⟨s.toArray⟩ : ByteArray).size = s.length := by simp [ByteArray.size]
theorem bytes_get (s : Md.Bs) (i : Nat) (h : i < s.length) : (⟨s.toArray⟩ : ByteArray).data.toList.getD i 0 = s[i] := by simp [List.getD, h]
theorem mname_q (s : Md.Bs) (W : Wd) (hG : GlobM W) : CallsQ Tryz.prog 27 #[.string ⟨s.toArray⟩] W (.bool (Md.name s)) := by
 have hG := hG.ext W.all_ext
 refine vc_mname ⟨s.toArray⟩ W.all _ ?_
 refine den_br (fun c1 => ?_) fun c1 => den_ret fun _ _ _ => ⟨_, rfl, ?_⟩
 ·have c1 : (s == [] || decide (12 < s.length)) = false := by
   simp only [zE, mb_size] at c1
   have c1 : ¬ s = [] ∧ (s.length : Int) ≤ 12 := by simpa [ltB] using c1
   simp [c1.1]; omega
  obtain ⟨ty, hr⟩ := hG.res
  refine den_adr ?_
  simp only [zP]
  have hS : SlI W.all (some ⟨0, 0, none⟩) 3 3 1 (strs Md.reserved) := ⟨rfl, Nat.le_refl _, .inr ⟨_, 0, rfl, hG.resI, W.all.lt _ hG.resI, fun j u hu => by simp [World.cell?, hr, hu]⟩⟩
  refine den_call_q (fun _ _ => cts_q s Md.reserved _ 3 W.all (by decide) (SlAt.w hS)) ⟨Md.reserved.any (· == s), rfl, fun W1 x1 => ?_⟩
  simp only [zP]
  have hcon : Md.reserved.contains s = Md.reserved.any (· == s) := by
   rw [List.contains_eq_any_beq]
   congr 1; funext y; exact Bool.beq_comm ..
  refine den_br (fun c2 => den_ret fun _ _ _ => ⟨_, rfl, ?_⟩) fun c2 => ?_
  ·have c2 : Md.reserved.any (· == s) = true := c2
   rw [Md.name, c1, hcon, c2]; rfl
  ·have c2 : Md.reserved.any (· == s) = false := c2
   have hnm : Md.name s = Md.nameAt 0 s := by rw [Md.name, c1, hcon, c2]; rfl
   have hsl : s.length ≤ 12 := by simp at c1; omega
   refine den_byt fun m c W2 x2 hI hlt hb hc => ?_
   simp only [zP]
   refine den_loop (fun j vs ls _ => ∃ i : Nat, vs = [.int .i64 (i : Nat)] ∧ ls = [] ∧ i ≤ s.length ∧ j = s.length - i ∧ Md.nameAt 0 s = Md.nameAt i (s.drop i)) s.length ⟨0, by simp [Sy.dens, Sy.den, E.i, E.b, E.t, gd, Env.push, z_a, z_b, z_c, z_d], rfl, Nat.zero_le _, rfl, rfl⟩ ?_
   rintro j vs ls' W3 x3 ⟨i, rfl, rfl, hi, rfl, ha⟩
   refine ⟨(i : Int), rfl, rfl, fun _ => den_br (fun c3 => ?_) fun c3 => den_ret fun _ _ _ => ⟨_, rfl, ?_⟩⟩
   ·simp only [zE, ltB_true, mb_size] at c3
    have hil : i < s.length := by omega
    have ha1 : Md.nameAt 0 s = ((Md.low s[i] || (decide (0 < i) && Md.more s[i])) && Md.nameAt (i + 1) (s.drop (i + 1))) := by rw [ha, tdrop_get hil]; rfl
    refine den_chk ?_ (den_chk ?_ (den_look ⟨(s[i].toNat : Int), fun W4 x4 => ?_, ?_⟩))
    ·rfl
    ·simp only [zE]; exact leB_t (by omega)
    ·have h1 := hb i (by simp only [zE, mb_size]; omega)
     simp only [zE, bytes_get s i hil] at h1
     simp only [zE]
     refine look_one u8_aggT ?_
     simp only [Option.getD_some, Nat.mul_one, Nat.add_zero]
     rw [add_none, Nat.zero_add, cell_ext' (ext_trans x3 x4) hI]
     exact h1
    ·simp only [zP]
     refine den_br (fun c4 => den_again ⟨s.length - (i + 1), by omega, i + 1, ?_, rfl, by omega, rfl, ?_⟩) fun c4 => den_br (fun c5 => den_again ⟨s.length - (i + 1), by omega, i + 1, ?_, rfl, by omega, rfl, ?_⟩) fun c5 => den_ret fun _ _ _ => ⟨_, rfl, ?_⟩
     ·simp only [zE]; rw [w64i (by omega) (by omega)]; rfl
     ·have c4 : Md.low s[i] = true := by simp only [zE] at c4; unfold Md.low; simpa [leB] using c4
      rw [ha1, c4]; rfl
     ·simp only [zE]; rw [w64i (by omega) (by omega)]; rfl
     ·have c5 : (decide (0 < i) && Md.more s[i]) = true := by
       simp only [zE] at c5
       unfold Md.more; simpa [ltB, leB] using c5
      rw [ha1, c5]; simp
     ·have c4 : Md.low s[i] = false := by simp only [zE] at c4; unfold Md.low; simpa [leB] using c4
      have c5 : (decide (0 < i) && Md.more s[i]) = false := by
       simp only [zE] at c5
       unfold Md.more; simpa [ltB, leB] using c5
      rw [hnm, ha1, c4, c5]; rfl
   ·simp only [zE, ltB_false, mb_size] at c3
    rw [hnm, ha, List.drop_eq_nil_of_le (by omega)]; rfl
 ·have c1 : (s == [] || decide (12 < s.length)) = true := by
   simp only [zE, mb_size] at c1
   have c1 : ¬ s = [] → 12 < (s.length : Int) := by simpa [ltB] using c1
   by_cases h : s = []
   ·simp [h]
   ·have := c1 h
    simp; right; omega
  rw [Md.name, c1]; rfl
end Go.Proofs.YtkpjmlnhhggenaaGreatDoor
end
section
/- The walks of package model: variables; names that no two have. -/
namespace Md
open Go
end Md
namespace Go.Proofs.YtkpjmlnhhggenaaGreatDoor
open Go Go.RowKit Go.SF
def fitV (v : Md.Var) : Prop := v.t.length ≤ 9223372036854775807
theorem vars1_q (v : Md.Var) (hf : fitV v) (W : Wd) (hG : GlobM W) : CallsQ Tryz.prog 86 #[.agg (varC v).toArray] W (.bool (Md.varOk v)) := by
 have hG := hG.ext W.all_ext
 refine vc_vars1 v.k v.n ⟨v.name.toArray⟩ ⟨v.t.toArray⟩ W.all _ ?_
 refine den_new fun m W1 _ x1 => den_call_q (fun _ _ => mname_q v.name W1 (hG.ext x1)) ⟨Md.name v.name, rfl, fun W2 x2 => ?_⟩
 simp only [zP]
 refine den_br (fun c => ?_) fun c => den_ret fun _ _ _ => ⟨_, rfl, ?_⟩
 ·have c : Md.name v.name = true := c
  refine den_call_q (fun _ _ => Vs.may_q v.k v.n ⟨v.t.toArray⟩ (by have h := hf; unfold fitV at h; simpa [ByteArray.size] using h) W2) ⟨Va.may ⟨v.k, v.n, ⟨v.t.toArray⟩⟩, rfl, fun W3 x3 => den_ret fun _ _ _ => ⟨_, rfl, ?_⟩⟩
  rw [Md.varOk, c, Bool.true_and]; rfl
 ·have c : Md.name v.name = false := c
  rw [Md.varOk, c]; rfl
theorem ixv_i (x : Md.Var) (l : List Md.Var) (a : Option Addr) (c : Nat) (p q : Nat) (W : Wd) (hl : l.length ≤ 1000000) (hV : VarsI W a c l) (hp : W.w.heap[p]? = some (.cells #[.func (.func 88) #[] #[]] 114)) (hpI : W.I p) (hq : W.w.heap[q]? = some (.cells (varC x).toArray 41)) (hqI : W.I q) :
  CallsI Tryz.prog 112 #[.slice a l.length c, .func (.func 131) #[] #[.pointer (some ⟨p, 0, none⟩), .pointer (some ⟨q, 0, none⟩)]] W.all fun v w' => ∃ r : Int, v = .int .i64 r ∧ leB 0 r = l.any fun y => y.name == x.name := by
 refine vc_ixv x.k x.n l.length c ⟨x.name.toArray⟩ ⟨x.t.toArray⟩ a p q W.all _ hp (W.lt p hpI) hq (W.lt q hqI) ?_
 refine den_loop (fun j vs ls _ => ∃ i : Nat, vs = [.int .i64 (i : Nat)] ∧ ls = [] ∧ i ≤ l.length ∧ j = l.length - i ∧ (l.any fun y => y.name == x.name) = ((l.drop i).any fun y => y.name == x.name)) l.length ⟨0, by simp [Sy.dens, Sy.den, E.i, E.b, E.t, gd, Env.push, z_a, z_b, z_c, z_d], rfl, Nat.zero_le _, rfl, rfl⟩ ?_
 rintro j vs ls' W2 x2 ⟨i, rfl, rfl, hi, rfl, ha⟩
 have x2' := ext_trans W.all_ext x2
 refine ⟨(i : Int), rfl, rfl, fun _ => den_br (fun c1 => ?_) fun c1 => den_ret fun _ _ _ => ⟨_, rfl, -1, rfl, ?_⟩⟩
 ·simp only [zE, ltB_true] at c1
  have hil : i < l.length := by omega
  have hx : l[i]? = some l[i] := List.getElem?_eq_getElem hil
  have ha1 : (l.any fun y => y.name == x.name) = ((l[i].name == x.name) || ((l.drop (i + 1)).any fun y => y.name == x.name)) := by rw [ha, tdrop_get hil]; rfl
  refine den_chk ?_ (den_chk ?_ (den_look ⟨l[i].k, l[i].n, ⟨l[i].name.toArray⟩, ⟨l[i].t.toArray⟩, fun W3 x3 => ?_, ?_⟩))
  ·simp only [E.b, gd, Env.push]; exact SlI.some_of hV (by omega)
  ·simp only [zE]; exact leB_t (by omega)
  ·have := sl_look (P := Tryz.prog) varC_len (by decide) hV var_aggT var_sizeT hx (ext_trans x2' x3)
   simp only [zE, Nat.add_zero] at this ⊢
   exact this
  ·simp only [zP]
   refine den_grow fun W3 x3 => den_br (fun c2 => den_ret fun _ _ _ => ⟨_, rfl, (i : Int), rfl, ?_⟩) fun c2 => den_again ⟨l.length - (i + 1), by omega, i + 1, ?_, rfl, by omega, rfl, ?_⟩
   ·have c2 : (l[i].name == x.name) = true := by simpa only [Sy.dens, Sy.den, E.i, E.b, E.t, gd, Env.push, z_a, z_b, z_c, z_d, tba] using c2
    rw [ha1, c2]; exact leB_t (by omega)
   ·simp only [zE]; rw [w64i (by omega) (by omega)]; rfl
   ·have c2 : (l[i].name == x.name) = false := by simpa only [Sy.dens, Sy.den, E.i, E.b, E.t, gd, Env.push, z_a, z_b, z_c, z_d, tba] using c2
    rw [ha1, c2, Bool.false_or]
 ·simp only [zE, ltB_false] at c1
  rw [ha, List.drop_eq_nil_of_le (by omega)]; rfl
theorem ctv_q (x : Md.Var) (l : List Md.Var) (a : Option Addr) (c : Nat) (p q : Nat) (W : Wd) (hl : l.length ≤ 1000000) (hV : SlW W.w a l.length c 4 (l.flatMap varC)) (hp : W.w.heap[p]? = some (.cells #[.func (.func 88) #[] #[]] 114)) (hq : W.w.heap[q]? = some (.cells (varC x).toArray 41)) :
  CallsQ Tryz.prog 130 #[.slice a l.length c, .func (.func 131) #[] #[.pointer (some ⟨p, 0, none⟩), .pointer (some ⟨q, 0, none⟩)]] W (.bool (l.any fun y => y.name == x.name)) := by
 have hpI : p < W.w.heap.size := (Array.getElem?_eq_some_iff.1 hp).1
 have hqI : q < W.w.heap.size := (Array.getElem?_eq_some_iff.1 hq).1
 refine vc_ctv x.k x.n l.length c ⟨x.name.toArray⟩ ⟨x.t.toArray⟩ a p q W.all _ hp hpI hq hqI ?_
 refine den_call_i (fun _ _ => ixv_i x l a c p q W.all hl hV.all hp hpI hq hqI) fun v w' _ ⟨r, hv, hr⟩ => ⟨r, hv, fun W2 _ _ _ => den_ret fun _ _ _ => ⟨_, rfl, ?_⟩⟩
 show Value.bool (leB 0 r) = _
 rw [hr]
theorem sl_take {w : World} {J : Nat → Prop} {a : Option Addr} {n c sz : Nat} {xs : List Value} (h : SlAt w J a n c sz xs) {i : Nat} (hi : i ≤ n) : SlAt w J a i c sz (xs.take (i * sz)) := by
 obtain ⟨h1, h2, h3⟩ := h
 have hm := Nat.mul_le_mul_right sz hi
 refine ⟨by rw [List.length_take, h1]; omega, by omega, ?_⟩
 rcases h3 with ⟨_, rfl, rfl⟩ | ⟨b, o, rfl, hI, hb, hc⟩
 ·exact .inl ⟨trivial, by omega, rfl⟩
 ·refine .inr ⟨b, o, rfl, hI, hb, fun j u hu => hc j u ?_⟩
  rw [List.getElem?_take] at hu
  split at hu
  ·exact hu
  ·cases hu
theorem subA_zero (a : Option Addr) (c sz : Nat) : subA a 0 c sz = a := by
 unfold subA
 cases a <;> simp [Addr.add]
theorem flat_take {α : Type} {f : α → List Value} {sz : Nat} (hf : ∀ x, (f x).length = sz) : ∀ (l : List α) (i : Nat), (l.flatMap f).take (i * sz) = (l.take i).flatMap f
 | [], i => by simp
 | x :: l, 0 => by simp
 | x :: l, i + 1 => by
  rw [List.flatMap_cons, List.take_succ_cons, List.flatMap_cons, List.take_append, hf, ← flat_take hf l i]
  rw [List.take_of_length_le (by rw [hf]; rw [Nat.succ_mul]; omega)]
  congr 2
  rw [Nat.succ_mul]; omega
theorem ulv_q (l : List Md.Var) (a : Option Addr) (c : Nat) (W : Wd) (hl : l.length ≤ 1000000) (hf : ∀ v ∈ l, fitV v) (hV : SlW W.w a l.length c 4 (l.flatMap varC)) (hG : GlobM W) :
  CallsQ Tryz.prog 87 #[.slice a l.length c, .func (.func 88) #[] #[], .func (.func 86) #[] #[]] W (.bool (Md.unl (·.name) Md.varOk [] l)) := by
 have hG := hG.ext W.all_ext
 have hV := hV.all
 refine vc_ulv l.length c a W.all _ ?_
 refine den_new fun m W1 hm x1 => ?_
 refine den_loop (fun j vs ls _ => ∃ i : Nat, vs = [.int .i64 (i : Nat)] ∧ ls = [] ∧ i ≤ l.length ∧ j = l.length - i ∧ Md.unl (·.name) Md.varOk [] l = Md.unl (·.name) Md.varOk (l.take i) (l.drop i)) l.length ⟨0, by simp [Sy.dens, Sy.den, E.i, E.b, E.t, gd, Env.push, z_a, z_b, z_c, z_d], rfl, Nat.zero_le _, rfl, by simp⟩ ?_
 rintro j vs ls' W2 x2 ⟨i, rfl, rfl, hi, rfl, ha⟩
 have y2 := ext_trans x1 x2
 refine ⟨(i : Int), rfl, rfl, fun _ => den_br (fun c1 => ?_) fun c1 => den_ret fun _ _ _ => ⟨_, rfl, ?_⟩⟩
 ·simp only [zE, ltB_true] at c1
  have hil : i < l.length := by omega
  have hx : l[i]? = some l[i] := List.getElem?_eq_getElem hil
  have ha1 : Md.unl (·.name) Md.varOk [] l = (Md.varOk l[i] && (!((l.take i).any fun y => y.name == l[i].name) && Md.unl (·.name) Md.varOk (l.take (i + 1)) (l.drop (i + 1)))) := by
   rw [ha, tdrop_get hil, List.take_succ_eq_append_getElem hil]; rfl
  refine den_chk ?_ (den_chk ?_ (den_look ⟨l[i].k, l[i].n, ⟨l[i].name.toArray⟩, ⟨l[i].t.toArray⟩, fun W3 x3 => ?_, ?_⟩))
  ·simp only [E.b, gd, Env.push]; exact SlI.some_of hV (by omega)
  ·simp only [zE]; exact leB_t (by omega)
  ·have := sl_look (P := Tryz.prog) varC_len (by decide) hV var_aggT var_sizeT hx (ext_trans y2 x3)
   simp only [zE, Nat.add_zero] at this ⊢
   exact this
  simp only [zP]
  refine den_new fun m2 W3 _ x3 => den_wr fun W4 x4 => ?_
  simp only [zP]
  have y4 := ext_trans y2 (ext_trans x3 x4)
  have hq := vars1_q l[i] (hf _ (List.getElem_mem hil)) W4 (hG.ext y4)
  refine den_call_q (v := .bool (Md.varOk l[i])) (fun _ _ => hq) ⟨Md.varOk l[i], rfl, fun W5 x5 => ?_⟩
  simp only [zP]
  have y5 := ext_trans y4 x5
  refine den_br (fun c2 => ?_) fun c2 => den_ret fun _ _ _ => ⟨_, rfl, ?_⟩
  ·have c2 : Md.varOk l[i] = true := c2
   refine den_chk (by simp only [zE]; exact leB_t (by have := hV.2.1; omega)) (den_sub ?_)
   simp only [zP]
   have hT : SlI W5 a i c 4 ((l.take i).flatMap varC) := by rw [← flat_take varC_len]; exact sl_take (hV.ext y5) hi
   have hlen : (l.take i).length = i := by rw [List.length_take]; omega
   refine den_call_q (fun hb _ => ?_) ⟨(l.take i).any fun y => y.name == l[i].name, rfl, fun W6 x6 => ?_⟩
   ·have := ctv_q l[i] (l.take i) a c m m2 W5 (by omega) (by rw [hlen]; exact SlAt.w hT) (hb _ (List.mem_cons_of_mem _ (List.mem_singleton.2 rfl))) (hb _ (List.mem_cons_self ..))
    rw [hlen] at this
    simp only [Sy.dens, Sy.den, E.i, gd, z_d, Int.toNat_zero, Nat.sub_zero, subA_zero]
    exact this
   simp only [zP]
   refine den_br (fun c3 => den_ret fun _ _ _ => ⟨_, rfl, ?_⟩) fun c3 => den_frz fun W7 _ x7 _ _ => den_again ⟨l.length - (i + 1), by omega, i + 1, ?_, rfl, by omega, rfl, ?_⟩
   ·have c3 : ((l.take i).any fun y => y.name == l[i].name) = true := c3
    rw [ha1, c3]; simp [Sy.den, E.b]
   ·simp only [zE]; rw [w64i (by omega) (by omega)]; rfl
   ·have c3 : ((l.take i).any fun y => y.name == l[i].name) = false := c3
    rw [ha1, c2, c3]; rfl
  ·have c2 : Md.varOk l[i] = false := c2
   rw [ha1, c2]; rfl
 ·simp only [zE, ltB_false] at c1
  rw [ha, List.drop_eq_nil_of_le (by omega)]; rfl
theorem mvars_q (l : List Md.Var) (a : Option Addr) (c : Nat) (W : Wd) (hl : l.length ≤ 1000000) (hf : ∀ v ∈ l, fitV v) (hV : SlW W.w a l.length c 4 (l.flatMap varC)) (hG : GlobM W) :
  CallsQ Tryz.prog 47 #[.slice a l.length c] W (.int .i64 (Md.vars l)) := by
 refine vc_mvars l.length c a W.all _ ?_
 refine den_br (fun c1 => den_ret fun _ _ _ => ⟨_, rfl, ?_⟩) fun c1 => ?_
 ·simp only [zE, ltB_true] at c1
  rw [Md.vars, if_pos (by omega)]; rfl
 ·simp only [zE, ltB_false] at c1
  refine den_call_q (fun _ _ => ulv_q l a c W.all hl hf hV (hG.ext W.all_ext)) ⟨Md.unl (·.name) Md.varOk [] l, rfl, fun W2 x2 => ?_⟩
  simp only [zP]
  rw [Md.vars, if_neg (by omega)]
  refine den_br (fun c2 => den_ret fun _ _ _ => ⟨_, rfl, ?_⟩) fun c2 => den_ret fun _ _ _ => ⟨_, rfl, ?_⟩
  ·have c2 : Md.unl (·.name) Md.varOk [] l = false := by simpa only [Sy.dens, Sy.den, E.i, E.b, E.t, gd, Env.push, z_a, z_b, z_c, z_d, Bool.not_eq_true'] using c2
   rw [c2]; rfl
  ·have c2 : Md.unl (·.name) Md.varOk [] l = true := by simpa only [Sy.dens, Sy.den, E.i, E.b, E.t, gd, Env.push, z_a, z_b, z_c, z_d, Bool.not_eq_false'] using c2
   rw [c2]; rfl
theorem ixt_i (x : Md.Bs) (l : List Md.Bs) (a : Option Addr) (c : Nat) (p q : Nat) (W : Wd) (hl : l.length ≤ 1000000) (hV : SlI W a l.length c 1 (strs l)) (hp : W.w.heap[p]? = some (.cells #[.func (.func 103) #[] #[]] 130)) (hpI : W.I p) (hq : W.w.heap[q]? = some (.cells #[strB x] 9)) (hqI : W.I q) :
  CallsI Tryz.prog 163 #[.slice a l.length c, .func (.func 133) #[] #[.pointer (some ⟨p, 0, none⟩), .pointer (some ⟨q, 0, none⟩)]] W.all fun v w' => ∃ r : Int, v = .int .i64 r ∧ leB 0 r = l.any fun y => y == x := by
 refine vc_ixt l.length c ⟨x.toArray⟩ a p q W.all _ hp (W.lt p hpI) hq (W.lt q hqI) ?_
 refine den_loop (fun j vs ls _ => ∃ i : Nat, vs = [.int .i64 (i : Nat)] ∧ ls = [] ∧ i ≤ l.length ∧ j = l.length - i ∧ (l.any fun y => y == x) = ((l.drop i).any fun y => y == x)) l.length ⟨0, by simp [Sy.dens, Sy.den, E.i, E.b, E.t, gd, Env.push, z_a, z_b, z_c, z_d], rfl, Nat.zero_le _, rfl, rfl⟩ ?_
 rintro j vs ls' W2 x2 ⟨i, rfl, rfl, hi, rfl, ha⟩
 have x2' := ext_trans W.all_ext x2
 refine ⟨(i : Int), rfl, rfl, fun _ => den_br (fun c1 => ?_) fun c1 => den_ret fun _ _ _ => ⟨_, rfl, -1, rfl, ?_⟩⟩
 ·simp only [zE, ltB_true] at c1
  have hil : i < l.length := by omega
  have hx : l[i]? = some l[i] := List.getElem?_eq_getElem hil
  have ha1 : (l.any fun y => y == x) = ((l[i] == x) || ((l.drop (i + 1)).any fun y => y == x)) := by rw [ha, tdrop_get hil]; rfl
  refine den_chk ?_ (den_chk ?_ (den_look ⟨⟨l[i].toArray⟩, fun W3 x3 => ?_, ?_⟩))
  ·simp only [E.b, gd, Env.push]; exact SlI.some_of hV (by omega)
  ·simp only [zE]; exact leB_t (by omega)
  ·have := sl_look_f (P := Tryz.prog) (f := fun s => [strB s]) (sz := 1) (fun _ => rfl) hV str_aggT (k := 0) hx (by decide) (u := strB l[i]) rfl (ext_trans x2' x3)
   simp only [zE] at this ⊢
   exact this
  ·simp only [zP]
   refine den_grow fun W3 x3 => den_br (fun c2 => den_ret fun _ _ _ => ⟨_, rfl, (i : Int), rfl, ?_⟩) fun c2 => den_again ⟨l.length - (i + 1), by omega, i + 1, ?_, rfl, by omega, rfl, ?_⟩
   ·have c2 : (l[i] == x) = true := by simpa only [Sy.dens, Sy.den, E.i, E.b, E.t, gd, Env.push, z_a, z_b, z_c, z_d, tba] using c2
    rw [ha1, c2]; exact leB_t (by omega)
   ·simp only [zE]; rw [w64i (by omega) (by omega)]; rfl
   ·have c2 : (l[i] == x) = false := by simpa only [Sy.dens, Sy.den, E.i, E.b, E.t, gd, Env.push, z_a, z_b, z_c, z_d, tba] using c2
    rw [ha1, c2, Bool.false_or]
 ·simp only [zE, ltB_false] at c1
  rw [ha, List.drop_eq_nil_of_le (by omega)]; rfl
theorem ctt_q (x : Md.Bs) (l : List Md.Bs) (a : Option Addr) (c : Nat) (p q : Nat) (W : Wd) (hl : l.length ≤ 1000000) (hV : SlW W.w a l.length c 1 (strs l)) (hp : W.w.heap[p]? = some (.cells #[.func (.func 103) #[] #[]] 130)) (hq : W.w.heap[q]? = some (.cells #[strB x] 9)) :
  CallsQ Tryz.prog 132 #[.slice a l.length c, .func (.func 133) #[] #[.pointer (some ⟨p, 0, none⟩), .pointer (some ⟨q, 0, none⟩)]] W (.bool (l.any fun y => y == x)) := by
 have hpI : p < W.w.heap.size := (Array.getElem?_eq_some_iff.1 hp).1
 have hqI : q < W.w.heap.size := (Array.getElem?_eq_some_iff.1 hq).1
 refine vc_ctt l.length c ⟨x.toArray⟩ a p q W.all _ hp hpI hq hqI ?_
 refine den_call_i (fun _ _ => ixt_i x l a c p q W.all hl hV.all hp hpI hq hqI) fun v w' _ ⟨r, hv, hr⟩ => ⟨r, hv, fun W2 _ _ _ => den_ret fun _ _ _ => ⟨_, rfl, ?_⟩⟩
 show Value.bool (leB 0 r) = _
 rw [hr]
theorem uls_q (l : List Md.Bs) (a : Option Addr) (c : Nat) (W : Wd) (hl : l.length ≤ 1000000) (hV : SlW W.w a l.length c 1 (strs l)) (hG : GlobM W) :
  CallsQ Tryz.prog 102 #[.slice a l.length c, .func (.func 103) #[] #[], .func (.func 27) #[] #[]] W (.bool (Md.unl id Md.name [] l)) := by
 have hG := hG.ext W.all_ext
 have hV := hV.all
 refine vc_uls l.length c a W.all _ ?_
 refine den_new fun m W1 hm x1 => ?_
 refine den_loop (fun j vs ls _ => ∃ i : Nat, vs = [.int .i64 (i : Nat)] ∧ ls = [] ∧ i ≤ l.length ∧ j = l.length - i ∧ Md.unl id Md.name [] l = Md.unl id Md.name (l.take i) (l.drop i)) l.length ⟨0, by simp [Sy.dens, Sy.den, E.i, E.b, E.t, gd, Env.push, z_a, z_b, z_c, z_d], rfl, Nat.zero_le _, rfl, by simp⟩ ?_
 rintro j vs ls' W2 x2 ⟨i, rfl, rfl, hi, rfl, ha⟩
 have y2 := ext_trans x1 x2
 refine ⟨(i : Int), rfl, rfl, fun _ => den_br (fun c1 => ?_) fun c1 => den_ret fun _ _ _ => ⟨_, rfl, ?_⟩⟩
 ·simp only [zE, ltB_true] at c1
  have hil : i < l.length := by omega
  have hx : l[i]? = some l[i] := List.getElem?_eq_getElem hil
  have ha1 : Md.unl id Md.name [] l = (Md.name l[i] && (!((l.take i).any fun y => y == l[i]) && Md.unl id Md.name (l.take (i + 1)) (l.drop (i + 1)))) := by
   rw [ha, tdrop_get hil, List.take_succ_eq_append_getElem hil]; rfl
  refine den_chk ?_ (den_chk ?_ (den_look ⟨⟨l[i].toArray⟩, fun W3 x3 => ?_, ?_⟩))
  ·simp only [E.b, gd, Env.push]; exact SlI.some_of hV (by omega)
  ·simp only [zE]; exact leB_t (by omega)
  ·have := sl_look_f (P := Tryz.prog) (f := fun s => [strB s]) (sz := 1) (fun _ => rfl) hV str_aggT (k := 0) hx (by decide) (u := strB l[i]) rfl (ext_trans y2 x3)
   simp only [zE] at this ⊢
   exact this
  simp only [zP]
  refine den_new fun m2 W3 _ x3 => den_wr fun W4 x4 => ?_
  simp only [zP]
  have y4 := ext_trans y2 (ext_trans x3 x4)
  have hq := mname_q l[i] W4 (hG.ext y4)
  refine den_call_q (v := .bool (Md.name l[i])) (fun _ _ => hq) ⟨Md.name l[i], rfl, fun W5 x5 => ?_⟩
  simp only [zP]
  have y5 := ext_trans y4 x5
  refine den_br (fun c2 => ?_) fun c2 => den_ret fun _ _ _ => ⟨_, rfl, ?_⟩
  ·have c2 : Md.name l[i] = true := c2
   refine den_chk (by simp only [zE]; exact leB_t (by have := hV.2.1; omega)) (den_sub ?_)
   simp only [zP]
   have hT : SlI W5 a i c 1 (strs (l.take i)) := by
    have := flat_take (f := fun s => [strB s]) (sz := 1) (fun _ => rfl) l i
    rw [show strs (l.take i) = (strs l).take (i * 1) from this.symm]; exact sl_take (hV.ext y5) hi
   have hlen : (l.take i).length = i := by rw [List.length_take]; omega
   refine den_call_q (fun hb _ => ?_) ⟨(l.take i).any fun y => y == l[i], rfl, fun W6 x6 => ?_⟩
   ·have := ctt_q l[i] (l.take i) a c m m2 W5 (by omega) (by rw [hlen]; exact SlAt.w hT) (hb _ (List.mem_cons_of_mem _ (List.mem_singleton.2 rfl))) (hb _ (List.mem_cons_self ..))
    rw [hlen] at this
    simp only [Sy.dens, Sy.den, E.i, gd, z_d, Int.toNat_zero, Nat.sub_zero, subA_zero]
    exact this
   simp only [zP]
   refine den_br (fun c3 => den_ret fun _ _ _ => ⟨_, rfl, ?_⟩) fun c3 => den_frz fun W7 _ x7 _ _ => den_again ⟨l.length - (i + 1), by omega, i + 1, ?_, rfl, by omega, rfl, ?_⟩
   ·have c3 : ((l.take i).any fun y => y == l[i]) = true := c3
    rw [ha1, c3]; simp [Sy.den, E.b]
   ·simp only [zE]; rw [w64i (by omega) (by omega)]; rfl
   ·have c3 : ((l.take i).any fun y => y == l[i]) = false := c3
    rw [ha1, c2, c3]; rfl
  ·have c2 : Md.name l[i] = false := c2
   rw [ha1, c2]; rfl
 ·simp only [zE, ltB_false] at c1
  rw [ha, List.drop_eq_nil_of_le (by omega)]; rfl
end Go.Proofs.YtkpjmlnhhggenaaGreatDoor
end
