/- The contracts of package lex: bytes in a row, whether a part may be. -/
import Derived.Test.YtckgdgkkmhochaaGreatDoorVcLex
import Derived.Test.YtckgdgkkmhochaaGreatDoorShelf
import Derived.Test.YtckgdgkkmhochaaGreatDoorLxPlain
import Derived.Lib.AtoiErrMem
namespace Go.Proofs.YtckgdgkkmhochaaGreatDoor
open Go Go.RowKit Go.SF
set_option linter.unusedSimpArgs false
set_option linter.unusedVariables false

/-! ### what stays of the program's and the library's variables -/
structure Glob (W : Wd) : Prop where
  signs : ∃ ty, W.w.heap[0]? = some (.cells (Lx.signs.map fun s => Value.string ⟨s.toArray⟩).toArray ty)
  signsI : W.I 0
  errS : ∃ tp p, W.w.var? Tryz.prog "strconv.ErrSyntax" = some #[.iface tp p]
  errSI : W.I 5
  errR : ∃ tp p, W.w.var? Tryz.prog "strconv.ErrRange" = some #[.iface tp p]
  errRI : W.I 6
  ml : ∃ m, W.w.cell? ⟨4, 0, none⟩ = some (.int .i64 m)
  mlI : W.I 4
theorem gS : Tryz.prog.globalNamed "strconv.ErrSyntax" = some 5 := by kernel_rfl
theorem gR : Tryz.prog.globalNamed "strconv.ErrRange" = some 6 := by kernel_rfl
theorem cell_ext {W W' : Wd} (x : Ext W W') {b : Nat} (hI : W.I b) (o : Nat) (p : _) : W'.w.cell? ⟨b, o, p⟩ = W.w.cell? ⟨b, o, p⟩ := World.cell?_of_block (w := W.w) (x.keep b hI)
theorem var_ext {W W' : Wd} (x : Ext W W') {g : Nat} {n : String} (hg : Tryz.prog.globalNamed n = some g) (hI : W.I g) : W'.w.var? Tryz.prog n = W.w.var? Tryz.prog n := by
  unfold World.var?
  rw [hg]
  simp only [Option.bind_some]
  rw [x.keep g hI]
theorem Glob.ext {W W' : Wd} (h : Glob W) (x : Ext W W') : Glob W' :=
  ⟨by rw [x.keep _ h.signsI]; exact h.signs, x.sub _ h.signsI, by rw [var_ext x gS h.errSI]; exact h.errS, x.sub _ h.errSI, by rw [var_ext x gR h.errRI]; exact h.errR, x.sub _ h.errRI,
    by rw [cell_ext x h.mlI]; exact h.ml, x.sub _ h.mlI⟩

/-! ### small steps -/
theorem gd_drop (l : List UInt8) (i : Nat) (h : i < l.length) : l.drop i = gd l i 0 :: l.drop (i + 1) := by
  rw [gd_get' h]; exact List.drop_eq_getElem_cons h
theorem size_len (t : ByteArray) : t.data.toList.length = t.size := by rw [Array.length_toList]; rfl
theorem w64i {x : Int} (h0 : -9223372036854775808 ≤ x) (h1 : x ≤ 9223372036854775807) : IntKind.i64.wrap x = x := wrap_in .i64 x (by simpa [IntKind.min, IntKind.bits, IntKind.signed] using h0) (by simpa [IntKind.max, IntKind.bits, IntKind.signed] using h1)
theorem ba_ext {s t : ByteArray} (h : s.data.toList = t.data.toList) : s = t := by
  obtain ⟨⟨l⟩⟩ := s; obtain ⟨⟨m⟩⟩ := t
  simp at h; subst h; rfl
theorem ba_list (t : ByteArray) : (⟨t.data.toList.toArray⟩ : ByteArray) = t := ba_ext (by simp)
theorem ltB_t {a b : Int} (h : a < b) : ltB a b = true := by simpa [ltB] using h
theorem leB_t {a b : Int} (h : a ≤ b) : leB a b = true := by simpa [leB] using h
theorem ltB_f {a b : Int} (h : b ≤ a) : ltB a b = false := by rw [ltB_false]; exact h

theorem runD_q (t : ByteArray) (ht : t.size ≤ 9223372036854775807) (W : Wd) : CallsQ Tryz.prog 89 #[.string t, .func (.func 86) #[] #[]] W (.int .i64 (Lx.run Lx.digit t.data.toList : Nat)) := by
  refine vc_runD t W.all _ ?_
  refine den_loop (fun j vs ls _ => ∃ i : Nat, vs = [.int .i64 (i : Int)] ∧ ls = [] ∧ i ≤ t.size ∧ j = t.size - i ∧ i + Lx.run Lx.digit (t.data.toList.drop i) = Lx.run Lx.digit t.data.toList) t.size ⟨0, rfl, rfl, Nat.zero_le _, rfl, by simp⟩ ?_
  rintro n vs ls W' x ⟨i, rfl, rfl, hi, rfl, ha⟩
  have hs := size_len t
  have h1 : ∀ b : Bool, (!ltB (i : Int) (t.size : Int) || b) = true ↔ (i < t.size → b = true) := fun b => by
    cases hb : ltB (i : Int) (t.size : Int)
    · rw [ltB_false] at hb; simp; intro h; omega
    · rw [ltB_true] at hb; simp; left; omega
  refine ⟨(i : Int), rfl, rfl, fun _ => den_chk ?_ (den_chk ?_ (den_br (fun c => ?_) fun c => ?_))⟩
  · simp only [Sy.dens, Sy.den, E.i, E.b, E.t, gd, Env.push, List.cons_append, List.nil_append, List.append_nil, Int.toNat_natCast]; exact (h1 _).2 fun _ => leB_t (by omega)
  · simp only [Sy.dens, Sy.den, E.i, E.b, E.t, gd, Env.push, List.cons_append, List.nil_append, List.append_nil, Int.toNat_natCast]; exact (h1 _).2 fun h => ltB_t (by omega)
  · simp only [Sy.dens, Sy.den, E.i, E.b, E.t, gd, Env.push, List.cons_append, List.nil_append, List.append_nil, Int.toNat_natCast, ltB_true] at c
    have hl : i < t.data.toList.length := by omega
    have hd := gd_drop t.data.toList i hl
    rw [hd] at ha
    refine den_grow fun _ _ => den_br (fun c2 => ?_) fun c2 => ?_
    · have c2 : Lx.digit (gd t.data.toList i 0) = true := c2
      rw [Lx.run_cons_t c2] at ha
      refine den_again ⟨t.size - (i + 1), by omega, i + 1, ?_, rfl, by omega, rfl, by omega⟩
      simp only [Sy.dens, Sy.den, E.i, E.b, E.t, gd, Env.push, List.cons_append, List.nil_append, List.append_nil, Int.toNat_natCast]
      rw [w64i (by omega) (by omega)]; rfl
    · have c2 : Lx.digit (gd t.data.toList i 0) = false := c2
      rw [Lx.run_cons_f c2] at ha
      refine den_ret fun _ _ _ => ⟨_, rfl, ?_⟩
      show Value.int .i64 (i : Int) = _
      rw [← ha]; rfl
  · simp only [Sy.dens, Sy.den, E.i, E.b, E.t, gd, Env.push, List.cons_append, List.nil_append, List.append_nil, Int.toNat_natCast, ltB_false] at c
    refine den_ret fun _ _ _ => ⟨_, rfl, ?_⟩
    show Value.int .i64 (i : Int) = _
    rw [List.drop_eq_nil_of_le (by omega), Lx.run_nil] at ha
    rw [← ha]; rfl

theorem runB_q (t : ByteArray) (ht : t.size ≤ 9223372036854775807) (W : Wd) : CallsQ Tryz.prog 89 #[.string t, .func (.func 88) #[] #[]] W (.int .i64 (Lx.run Lx.behind t.data.toList : Nat)) := by
  refine vc_runB t W.all _ ?_
  refine den_loop (fun j vs ls _ => ∃ i : Nat, vs = [.int .i64 (i : Int)] ∧ ls = [] ∧ i ≤ t.size ∧ j = t.size - i ∧ i + Lx.run Lx.behind (t.data.toList.drop i) = Lx.run Lx.behind t.data.toList) t.size ⟨0, rfl, rfl, Nat.zero_le _, rfl, by simp⟩ ?_
  rintro n vs ls W' x ⟨i, rfl, rfl, hi, rfl, ha⟩
  have hs := size_len t
  have h1 : ∀ b : Bool, (!ltB (i : Int) (t.size : Int) || b) = true ↔ (i < t.size → b = true) := fun b => by
    cases hb : ltB (i : Int) (t.size : Int)
    · rw [ltB_false] at hb; simp; intro h; omega
    · rw [ltB_true] at hb; simp; left; omega
  refine ⟨(i : Int), rfl, rfl, fun _ => den_chk ?_ (den_chk ?_ (den_br (fun c => ?_) fun c => ?_))⟩
  · simp only [Sy.dens, Sy.den, E.i, E.b, E.t, gd, Env.push, List.cons_append, List.nil_append, List.append_nil, Int.toNat_natCast]; exact (h1 _).2 fun _ => leB_t (by omega)
  · simp only [Sy.dens, Sy.den, E.i, E.b, E.t, gd, Env.push, List.cons_append, List.nil_append, List.append_nil, Int.toNat_natCast]; exact (h1 _).2 fun h => ltB_t (by omega)
  · simp only [Sy.dens, Sy.den, E.i, E.b, E.t, gd, Env.push, List.cons_append, List.nil_append, List.append_nil, Int.toNat_natCast, ltB_true] at c
    have hl : i < t.data.toList.length := by omega
    have hd := gd_drop t.data.toList i hl
    rw [hd] at ha
    have yes : Lx.behind (gd t.data.toList i 0) = true → ∃ n', n' < t.size - i ∧ ∃ i' : Nat, [Value.int .i64 (IntKind.i64.wrap ((i : Int) + 1))] = [.int .i64 (i' : Int)] ∧ ([] : List (List Value)) = [] ∧ i' ≤ t.size ∧ n' = t.size - i' ∧ i' + Lx.run Lx.behind (t.data.toList.drop i') = Lx.run Lx.behind t.data.toList := fun c2 => by
      rw [Lx.run_cons_t c2] at ha
      refine ⟨t.size - (i + 1), by omega, i + 1, ?_, rfl, by omega, rfl, by omega⟩
      rw [w64i (by omega) (by omega)]; rfl
    refine den_br (fun c2 => den_grow fun _ _ => den_br (fun c3 => den_again (yes ?_)) fun c3 => ?_) fun c2 => den_grow fun _ _ => den_again (yes ?_)
    · have c2 : (!Lx.digit (gd t.data.toList i 0)) = true := c2
      have c3 : (Lx.letter (gd t.data.toList i 0) || (((gd t.data.toList i 0).toNat : Int) == 95)) = true := c3
      unfold Lx.behind
      rw [Bool.or_assoc, c3, Bool.or_true]
    · have c2 : (!Lx.digit (gd t.data.toList i 0)) = true := c2
      have c3 : (Lx.letter (gd t.data.toList i 0) || (((gd t.data.toList i 0).toNat : Int) == 95)) = false := c3
      have c4 : Lx.behind (gd t.data.toList i 0) = false := by
        unfold Lx.behind
        rw [Bool.or_assoc, c3, Bool.or_false]; simpa using c2
      rw [Lx.run_cons_f c4] at ha
      refine den_ret fun _ _ _ => ⟨_, rfl, ?_⟩
      show Value.int .i64 (i : Int) = _
      rw [← ha]; rfl
    · have c2 : (!Lx.digit (gd t.data.toList i 0)) = false := c2
      unfold Lx.behind
      rw [Bool.or_assoc]
      have : Lx.digit (gd t.data.toList i 0) = true := by simpa using c2
      rw [this, Bool.true_or]
  · simp only [Sy.dens, Sy.den, E.i, E.b, E.t, gd, Env.push, List.cons_append, List.nil_append, List.append_nil, Int.toNat_natCast, ltB_false] at c
    refine den_ret fun _ _ _ => ⟨_, rfl, ?_⟩
    show Value.int .i64 (i : Int) = _
    rw [List.drop_eq_nil_of_le (by omega), Lx.run_nil] at ha
    rw [← ha]; rfl

theorem runQ_q (t : ByteArray) (ht : t.size ≤ 9223372036854775807) (W : Wd) : CallsQ Tryz.prog 89 #[.string t, .func (.func 93) #[] #[]] W (.int .i64 (Lx.run Lx.quoted t.data.toList : Nat)) := by
  refine vc_runQ t W.all _ ?_
  refine den_loop (fun j vs ls _ => ∃ i : Nat, vs = [.int .i64 (i : Int)] ∧ ls = [] ∧ i ≤ t.size ∧ j = t.size - i ∧ i + Lx.run Lx.quoted (t.data.toList.drop i) = Lx.run Lx.quoted t.data.toList) t.size ⟨0, rfl, rfl, Nat.zero_le _, rfl, by simp⟩ ?_
  rintro n vs ls W' x ⟨i, rfl, rfl, hi, rfl, ha⟩
  have hs := size_len t
  have h1 : ∀ b : Bool, (!ltB (i : Int) (t.size : Int) || b) = true ↔ (i < t.size → b = true) := fun b => by
    cases hb : ltB (i : Int) (t.size : Int)
    · rw [ltB_false] at hb; simp; intro h; omega
    · rw [ltB_true] at hb; simp; left; omega
  refine ⟨(i : Int), rfl, rfl, fun _ => den_chk ?_ (den_chk ?_ (den_br (fun c => ?_) fun c => ?_))⟩
  · simp only [Sy.dens, Sy.den, E.i, E.b, E.t, gd, Env.push, List.cons_append, List.nil_append, List.append_nil, Int.toNat_natCast]; exact (h1 _).2 fun _ => leB_t (by omega)
  · simp only [Sy.dens, Sy.den, E.i, E.b, E.t, gd, Env.push, List.cons_append, List.nil_append, List.append_nil, Int.toNat_natCast]; exact (h1 _).2 fun h => ltB_t (by omega)
  · simp only [Sy.dens, Sy.den, E.i, E.b, E.t, gd, Env.push, List.cons_append, List.nil_append, List.append_nil, Int.toNat_natCast, ltB_true] at c
    have hl : i < t.data.toList.length := by omega
    have hd := gd_drop t.data.toList i hl
    rw [hd] at ha
    refine den_grow fun _ _ => den_br (fun c2 => ?_) fun c2 => ?_
    · have c2 : Lx.quoted (gd t.data.toList i 0) = true := c2
      rw [Lx.run_cons_t c2] at ha
      refine den_again ⟨t.size - (i + 1), by omega, i + 1, ?_, rfl, by omega, rfl, by omega⟩
      simp only [Sy.dens, Sy.den, E.i, E.b, E.t, gd, Env.push, List.cons_append, List.nil_append, List.append_nil, Int.toNat_natCast]
      rw [w64i (by omega) (by omega)]; rfl
    · have c2 : Lx.quoted (gd t.data.toList i 0) = false := c2
      rw [Lx.run_cons_f c2] at ha
      refine den_ret fun _ _ _ => ⟨_, rfl, ?_⟩
      show Value.int .i64 (i : Int) = _
      rw [← ha]; rfl
  · simp only [Sy.dens, Sy.den, E.i, E.b, E.t, gd, Env.push, List.cons_append, List.nil_append, List.append_nil, Int.toNat_natCast, ltB_false] at c
    refine den_ret fun _ _ _ => ⟨_, rfl, ?_⟩
    show Value.int .i64 (i : Int) = _
    rw [List.drop_eq_nil_of_le (by omega), Lx.run_nil] at ha
    rw [← ha]; rfl

/-! ### numbers -/
theorem below_draws (w : World) (w' : World) (h : w' = w ∨ ∃ t, w' = Lib.bytesWorld w 5 t) : Below w.heap.size w w' := by
  rcases h with rfl | ⟨t, rfl⟩
  · exact Below.refl _ _
  · exact Lib.bytesWorld_below _ _ _
/-- whether a text is a number of 64 bits -/
theorem parse_i (t : ByteArray) (ht : t.size ≤ 281474976710656) (W : Wd) (hG : Glob W) : CallsI Tryz.prog 92 #[.string t, .int .i64 10, .int .i64 64] W.all
    fun v w' => ∃ n e, v = .tuple #[.int .i64 n, e] ∧ isIfcV e = true ∧ isNilV e = Lx.parsed (Lib.parseIntB 64 t.data.toList) ∧ ∀ m, Lib.parseIntB 64 t.data.toList = .ok m → n = m := by
  rcases hp : Lib.parseIntB 64 t.data.toList with m | _ | _
  · exact Calls.mono (Tryz.strconv_ParseInt_10_at64_ok t (by omega) m hp W.w) fun e w' ⟨he, hw⟩ => ⟨Keeps.of_below (below_draws _ _ hw), _, he, m, .nilIface, rfl, rfl, rfl, fun k hk => by injection hk⟩
  · obtain ⟨tp, p, hv⟩ := hG.errS
    exact Calls.mono (Tryz.strconv_ParseInt_10_at64_syntax_var t ht hp tp p W.w hv) fun e w' ⟨N, he, _, _, hb⟩ => ⟨Keeps.of_below hb, _, he, _, _, rfl, rfl, rfl, fun k hk => by cases hk⟩
  · obtain ⟨tp, p, hv⟩ := hG.errR
    exact Calls.mono (Tryz.strconv_ParseInt_10_at64_range_var t ht hp tp p W.w hv) fun e w' ⟨N, he, _, _, hb⟩ => ⟨Keeps.of_below hb, _, he, _, _, rfl, rfl, rfl, fun k hk => by cases hk⟩
theorem one_ifc {v : Value} (h : isIfcV v = true) : v.oneCell' = true := by cases v <;> first | rfl | cases h
theorem parsed_ne {l : List UInt8} (h : Lx.parsed (Lib.parseIntB 64 l) = true) : 0 < l.length := by
  cases l with
  | nil => cases h
  | cons c r => simp
theorem contains_signs (t : ByteArray) : Lib.containsS (Lx.signs.map fun s => (⟨s.toArray⟩ : ByteArray)) t = Lx.signs.contains t.data.toList := by
  rw [Bool.eq_iff_iff, Lib.containsS_iff, List.contains_iff_mem, List.mem_map]
  constructor
  · rintro ⟨s, hs, rfl⟩; simpa using hs
  · intro h; exact ⟨_, h, ba_list t⟩
theorem gd_head {l : List UInt8} {c : UInt8} {r : List UInt8} (h : l = c :: r) : gd l 0 0 = c := by rw [h]; rfl

theorem may_q (k : Int) (t : ByteArray) (ht : t.size ≤ 281474976710656) (W : Wd) (hG : Glob W) : CallsQ Tryz.prog 59 #[.agg #[.int .u8 k, .string t]] W (.bool (Lx.may k t.data.toList)) := by
  refine vc_may k t W.all _ ?_
  have hs := size_len t
  have hG := hG.ext W.all_ext
  refine den_new fun m W1 _ x1 => ?_
  have hG1 := hG.ext x1
  refine den_br (fun c => ?_) fun c => den_br (fun c2 => ?_) fun c2 => den_br (fun c3 => ?_) fun c3 => den_br (fun c4 => ?_) fun c4 => ?_
  · have hk : k = 1 := by simpa [Sy.dens, Sy.den, E.i, E.b, E.t, gd, Env.push, List.cons_append, List.nil_append, List.append_nil, Int.toNat_natCast] using c
    subst hk
    refine den_call_i (fun _ _ => parse_i t ht W1 hG1) fun v w' _ ⟨n, e, hv, h1, h2, h3⟩ => ⟨n, e, one_ifc h1, hv, fun W2 _ x2 _ => ?_⟩
    simp only [Env.push, List.cons_append, List.nil_append, List.append_nil]
    refine den_chk h1 (den_br (fun c5 => ?_) fun c5 => ?_)
    · have c5 : isNilV e = true := c5
      rw [c5] at h2
      have hpos := parsed_ne h2.symm
      refine den_call_q (fun _ _ => runD_q t (by omega) W2) ⟨_, rfl, fun W3 x3 => ?_⟩
      simp only [Env.push, List.cons_append, List.nil_append, List.append_nil]
      obtain ⟨ch, r, hl⟩ : ∃ ch r, t.data.toList = ch :: r := by
        cases hl : t.data.toList with
        | nil => rw [hl] at hpos; simp at hpos
        | cons ch r => exact ⟨ch, r, rfl⟩
      refine den_chk ?_ (den_chk ?_ (den_ret fun _ _ _ => ⟨_, rfl, ?_⟩))
      · simp [Sy.dens, Sy.den, E.i, E.b, E.t, gd, Env.push, List.cons_append, List.nil_append, List.append_nil, Int.toNat_natCast, leB]
      · simp only [Sy.dens, Sy.den, E.i, E.b, E.t, gd, Env.push, List.cons_append, List.nil_append, List.append_nil, Int.toNat_natCast]; rw [ltB_t (by omega)]; simp
      · show Value.bool _ = _
        simp only [Sy.dens, Sy.den, E.i, E.b, E.t, gd, Env.push, List.cons_append, List.nil_append, List.append_nil, Int.toNat_natCast, Lx.may, Lx.numOk, ← h2, if_true, Bool.true_and]
        have e1 : ((Lx.run Lx.digit t.data.toList : Nat) == t.data.toList.length) = (((Lx.run Lx.digit t.data.toList : Nat) : Int) == (t.size : Int)) := by
          rw [Bool.eq_iff_iff]; simp; omega
        have e2 : (t.data.toList.length == 1) = ((t.size : Int) == 1) := by rw [Bool.eq_iff_iff]; simp; omega
        have e3 : (!(t.data.toList.head? == some 48)) = !(((gd t.data.toList (0 : Int).toNat 0).toNat : Int) == 48) := by
          rw [hl]
          show (!(some ch == some 48)) = !((ch.toNat : Int) == 48)
          congr 1
          rw [Bool.eq_iff_iff]
          simp only [beq_iff_eq, Option.some.injEq]
          constructor
          · rintro rfl; rfl
          · intro h; apply UInt8.toNat_inj.1; have : (48 : UInt8).toNat = 48 := rfl; omega
        rw [e1, e2, e3]
    · have c5 : isNilV e = false := c5
      rw [c5] at h2
      refine den_ret fun _ _ _ => ⟨_, rfl, ?_⟩
      show Value.bool false = _
      simp [Lx.may, Lx.numOk, ← h2]
  · have hk : k = 2 := by simpa [Sy.dens, Sy.den, E.i, E.b, E.t, gd, Env.push, List.cons_append, List.nil_append, List.append_nil, Int.toNat_natCast] using c2
    subst hk
    have hle : (t.data.toList == []) = true ↔ t.size = 0 := by rw [beq_iff_eq, ← List.length_eq_zero_iff]; omega
    refine den_chk ?_ (den_chk ?_ (den_br (fun c5 => ?_) fun c5 => ?_))
    · simp [Sy.dens, Sy.den, E.i, E.b, E.t, gd, Env.push, List.cons_append, List.nil_append, List.append_nil, Int.toNat_natCast, leB]
    · simp only [Sy.dens, Sy.den, E.i, E.b, E.t, gd, Env.push, List.cons_append, List.nil_append, List.append_nil, Int.toNat_natCast]
      cases hz : (t.data.toList == ([] : List UInt8).toArray.toList)
      · have : ¬ t.size = 0 := fun h => by rw [(show (t.data.toList == ([] : List UInt8).toArray.toList) = true from hle.2 h)] at hz; cases hz
        rw [ltB_t (by omega)]; rfl
      · rfl
    · obtain ⟨ch, r, hl⟩ : ∃ ch r, t.data.toList = ch :: r := by
        cases hl : t.data.toList with
        | nil => simp [Sy.dens, Sy.den, E.i, E.b, E.t, gd, Env.push, List.cons_append, List.nil_append, List.append_nil, Int.toNat_natCast, hl] at c5
        | cons ch r => exact ⟨ch, r, rfl⟩
      refine den_grow fun W2 x2 => den_br (fun c6 => ?_) fun c6 => ?_
      · have c6 : Lx.letter (gd t.data.toList 0 0) = true := c6
        rw [gd_head hl] at c6
        refine den_call_q (fun _ _ => runB_q t (by omega) W2) ⟨_, rfl, fun W3 x3 => ?_⟩
        simp only [Env.push, List.cons_append, List.nil_append, List.append_nil]
        refine den_ret fun _ _ _ => ⟨_, rfl, ?_⟩
        show Value.bool _ = _
        have e1 : ((Lx.run Lx.behind t.data.toList : Nat) == t.data.toList.length) = (((Lx.run Lx.behind t.data.toList : Nat) : Int) == (t.size : Int)) := by
          rw [Bool.eq_iff_iff]; simp; omega
        have e2 : decide (t.data.toList.length ≤ 12) = leB (t.size : Int) 12 := by rw [Bool.eq_iff_iff]; simp [leB]; omega
        have e3 : Lx.may 2 t.data.toList = (Lx.letter ch && ((Lx.run Lx.behind t.data.toList == t.data.toList.length) && decide (t.data.toList.length ≤ 12))) := by
          simp only [Lx.may]; rw [hl]; rfl
        rw [e3, c6, e1, e2]
        rfl
      · have c6 : Lx.letter (gd t.data.toList 0 0) = false := c6
        rw [gd_head hl] at c6
        refine den_ret fun _ _ _ => ⟨_, rfl, ?_⟩
        show Value.bool false = _
        simp only [Lx.may]; rw [hl]; simp [Lx.wordOk, c6]
    · refine den_ret fun _ _ _ => ⟨_, rfl, ?_⟩
      show Value.bool false = _
      have hl : t.data.toList = [] := by simpa [Sy.dens, Sy.den, E.i, E.b, E.t, gd, Env.push, List.cons_append, List.nil_append, List.append_nil, Int.toNat_natCast] using c5
      simp only [Lx.may]; rw [hl]; rfl
  · have hk : k = 3 := by simpa [Sy.dens, Sy.den, E.i, E.b, E.t, gd, Env.push, List.cons_append, List.nil_append, List.append_nil, Int.toNat_natCast] using c3
    subst hk
    refine den_call_q (fun _ _ => runQ_q t (by omega) W1) ⟨_, rfl, fun W3 x3 => ?_⟩
    simp only [Env.push, List.cons_append, List.nil_append, List.append_nil]
    refine den_ret fun _ _ _ => ⟨_, rfl, ?_⟩
    show Value.bool _ = _
    have e1 : ((Lx.run Lx.quoted t.data.toList : Nat) == t.data.toList.length) = (((Lx.run Lx.quoted t.data.toList : Nat) : Int) == (t.size : Int)) := by
      rw [Bool.eq_iff_iff]; simp; omega
    have e2 : decide (t.data.toList.length ≤ 40) = leB (t.size : Int) 40 := by rw [Bool.eq_iff_iff]; simp [leB]; omega
    have e3 : Lx.may 3 t.data.toList = ((Lx.run Lx.quoted t.data.toList == t.data.toList.length) && decide (t.data.toList.length ≤ 40)) := rfl
    rw [e3, e1, e2]
    rfl
  · have hk : k = 4 := by simpa [Sy.dens, Sy.den, E.i, E.b, E.t, gd, Env.push, List.cons_append, List.nil_append, List.append_nil, Int.toNat_natCast] using c4
    subst hk
    refine den_adr (den_call_q (v := .bool (Lx.signs.contains t.data.toList)) (fun _ _ => ?_) ⟨_, rfl, fun W3 x3 => ?_⟩)
    · obtain ⟨ty, hsg⟩ := hG1.signs
      refine CallsQ.of_below ?_
      have h1 := Tryz.slices_Contains_string 0 0 14 14 (Lx.signs.map fun s => (⟨s.toArray⟩ : ByteArray)) t W1.w (by decide) (by decide) (fun j hj => by
        simp only [World.cell?, hsg]
        have hj' : j < 14 := hj
        have : (Lx.signs.map fun s => Value.string ⟨s.toArray⟩).toArray[0 + j]? = some (.string ((Lx.signs.map fun s => (⟨s.toArray⟩ : ByteArray)).getD j ByteArray.empty)) := by
          rw [Nat.zero_add, List.getElem?_toArray, List.getElem?_map, List.getD_eq_getElem?_getD, List.getElem?_map]
          cases h : Lx.signs[j]? with
          | none => rw [List.getElem?_eq_none_iff] at h; have : Lx.signs.length = 14 := rfl; omega
          | some s => rfl
        simpa using this)
      rw [show (Lx.signs.map fun s => (⟨s.toArray⟩ : ByteArray)).take 14 = Lx.signs.map fun s => (⟨s.toArray⟩ : ByteArray) from rfl, contains_signs] at h1
      exact Calls.mono h1 fun e w' ⟨he, hw⟩ => ⟨he, hw ▸ Below.refl _ _⟩
    · refine den_ret fun _ _ _ => ⟨_, rfl, rfl⟩
  · refine den_ret fun _ _ _ => ⟨_, rfl, ?_⟩
    show Value.bool false = _
    have h1 : ¬ k = 1 := by simpa [Sy.dens, Sy.den, E.i, E.b, E.t, gd, Env.push, List.cons_append, List.nil_append, List.append_nil, Int.toNat_natCast] using c
    have h2 : ¬ k = 2 := by simpa [Sy.dens, Sy.den, E.i, E.b, E.t, gd, Env.push, List.cons_append, List.nil_append, List.append_nil, Int.toNat_natCast] using c2
    have h3 : ¬ k = 3 := by simpa [Sy.dens, Sy.den, E.i, E.b, E.t, gd, Env.push, List.cons_append, List.nil_append, List.append_nil, Int.toNat_natCast] using c3
    have h4 : ¬ k = 4 := by simpa [Sy.dens, Sy.den, E.i, E.b, E.t, gd, Env.push, List.cons_append, List.nil_append, List.append_nil, Int.toNat_natCast] using c4
    simp [Lx.may, h1, h2, h3, h4]
end Go.Proofs.YtckgdgkkmhochaaGreatDoor
