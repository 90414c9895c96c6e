/- The contracts of package value: what may be, a value's text. -/
import Derived.Test.YtckgdgkkmhochaaGreatDoorVcVs1
import Derived.Test.YtckgdgkkmhochaaGreatDoorSfE
import Derived.Test.YtckgdgkkmhochaaGreatDoorVdPlain
import Derived.Test.YtckgdgkkmhochaaGreatDoorShelf
namespace Go.Proofs.YtckgdgkkmhochaaGreatDoor
open Go Go.RowKit Go.SF
set_option linter.unusedSimpArgs false
set_option linter.unusedVariables false
namespace Vs

theorem gd_drop (l : List UInt8) (i : Nat) (h : i < l.length) : l.drop i = gd l i 0 :: l.drop (i + 1) := by
  rw [gd_get' h]; exact List.drop_eq_getElem_cons h
theorem size_len (t : ByteArray) : t.data.toList.length = t.size := by rw [Array.length_toList]; rfl
theorem leB_t {a b : Int} (h : a ≤ b) : leB a b = true := by simpa [leB] using h
theorem wrap_i {x : Int} (h0 : -9223372036854775808 ≤ x) (h1 : x ≤ 9223372036854775807) : IntKind.i64.wrap x = x := wrap_in .i64 x (by simpa [IntKind.min, IntKind.bits, IntKind.signed] using h0) (by simpa [IntKind.max, IntKind.bits, IntKind.signed] using h1)
theorem plain_q (t : ByteArray) (ht : t.size ≤ 9223372036854775807) (W : Wd) : CallsQ Tryz.prog 77 #[.string t] W (.bool (Va.plain t)) := by
  refine vc_plain t W.all _ ?_
  refine den_loop (fun n vs ls _ => ∃ i : Nat, vs = [.int .i64 (i : Int)] ∧ ls = [] ∧ i ≤ t.size ∧ n = t.size - i ∧ (t.data.toList.drop i).all Va.okc = t.data.toList.all Va.okc) t.size ⟨0, rfl, rfl, Nat.zero_le _, rfl, rfl⟩ ?_
  rintro n vs ls W' x ⟨i, rfl, rfl, hi, rfl, ha⟩
  have hs := size_len t
  refine ⟨(i : Int), rfl, rfl, fun _ => ?_⟩
  simp only [Env.push, List.cons_append, List.nil_append, List.append_nil]
  refine den_br (fun c => ?_) fun c => ?_
  · simp only [Sy.dens, Sy.den, E.i, E.b, E.t, gd, Env.push, List.cons_append, List.nil_append, List.append_nil, Int.toNat_natCast, ltB_true] at c
    have hd := gd_drop t.data.toList i (by omega)
    rw [hd, List.all_cons] at ha
    refine den_chk ?_ (den_br (fun c2 => ?_) fun c2 => ?_)
    · simp only [Sy.dens, Sy.den, E.i, E.b, E.t, gd, Env.push, List.cons_append, List.nil_append, List.append_nil, Int.toNat_natCast]; exact leB_t (by omega)
    · simp only [Sy.dens, Sy.den, E.i, E.b, E.t, gd, Env.push, List.cons_append, List.nil_append, List.append_nil, Int.toNat_natCast] at c2
      have hk : Va.okc (gd t.data.toList i 0) = false := by unfold Va.okc; simp only [ltB] at c2; simp [c2]
      rw [hk, Bool.false_and] at ha
      refine den_ret fun _ _ _ => ⟨_, rfl, ?_⟩
      simp [Va.plain, ← ha, Sy.den, E.b]
    · simp only [Sy.dens, Sy.den, E.i, E.b, E.t, gd, Env.push, List.cons_append, List.nil_append, List.append_nil, Int.toNat_natCast] at c2
      have hk : Va.okc (gd t.data.toList i 0) = true := by unfold Va.okc; simp only [ltB] at c2; rw [c2]; rfl
      rw [hk, Bool.true_and] at ha
      refine den_again ⟨t.size - (i + 1), by omega, i + 1, ?_, rfl, by omega, rfl, ha⟩
      simp only [Sy.dens, Sy.den, E.i, E.b, E.t, gd, Env.push, List.cons_append, List.nil_append, List.append_nil, Int.toNat_natCast]
      rw [wrap_i (by omega) (by omega)]; rfl
  · simp only [Sy.dens, Sy.den, E.i, E.b, E.t, gd, Env.push, List.cons_append, List.nil_append, List.append_nil, Int.toNat_natCast, ltB_false] at c
    refine den_ret fun _ _ _ => ⟨_, rfl, ?_⟩
    have : t.data.toList.drop i = [] := List.drop_eq_nil_of_le (by omega)
    rw [this] at ha
    simp [Va.plain, ← ha, Sy.dens, Sy.den, E.i, E.b, E.t, gd, Env.push, List.cons_append, List.nil_append, List.append_nil, Int.toNat_natCast, leB]
    rfl

theorem may_q (k n : Int) (t : ByteArray) (ht : t.size ≤ 9223372036854775807) (W : Wd) : CallsQ Tryz.prog 52 #[.agg #[.int .u8 k, .int .i64 n, .string t]] W (.bool (Va.may ⟨k, n, t⟩)) := by
  refine vc_vmay k n t W.all _ ?_
  have h := plain_q t ht
  repeat' (first | (with_reducible refine den_br (fun _ => ?_) (fun _ => ?_)) | (with_reducible refine den_new fun _ _ _ _ => ?_) | (with_reducible refine den_wr fun _ _ => ?_) | (with_reducible refine den_grow fun _ _ => ?_) | (with_reducible refine den_ret fun _ _ _ => ?_))
  all_goals try ((with_reducible refine den_callq ?_); refine ⟨Va.plain t, fun W' x _ _ => h W', ?_⟩)
  repeat' (first | (with_reducible refine den_br (fun _ => ?_) (fun _ => ?_)) | (with_reducible refine den_new fun _ _ _ _ => ?_) | (with_reducible refine den_wr fun _ _ => ?_) | (with_reducible refine den_grow fun _ _ => ?_) | (with_reducible refine den_ret fun _ _ _ => ?_))
  all_goals (try refine ⟨_, rfl, ?_⟩)
  all_goals simp only [Sy.dens, Sy.den, E.i, E.b, E.t, gd, Env.push, List.cons_append, List.nil_append, List.append_nil, Int.toNat_natCast] at *
  all_goals generalize hp : Va.plain t = p at *
  all_goals first | (simp_all [Va.may]; done) | (simp only [Va.may, hp]; cases h0 : n == 0 <;> simp_all)

/-- the library's table of powers of ten is laid, and stays -/
def Tabs (W : Wd) : Prop := Lib.TabIs Tryz.prog W.w "internal/strconv.uint64pow10" .u64 Lib.pow10Tab ∧ ∀ g, Tryz.prog.globalNamed "internal/strconv.uint64pow10" = some g → W.I g
theorem Tabs.ext {W W' : Wd} (h : Tabs W) (x : Ext W W') : Tabs W' := by
  refine ⟨?_, fun g hg => x.sub g (h.2 g hg)⟩
  have h1 := h.1
  unfold Lib.TabIs World.var? at h1 ⊢
  cases hg : Tryz.prog.globalNamed "internal/strconv.uint64pow10" with
  | none => rw [hg] at h1; cases h1
  | some g =>
    rw [hg] at h1
    simp only [Option.bind_some] at h1 ⊢
    rw [x.keep g (h.2 g hg)]
    exact h1
theorem below_grow (w : World) (k : Nat) (os : Array Obj) : Below w.heap.size w (Sort.grow (w.drewN k) os) :=
  ⟨rfl, rfl, rfl, by show w.heap.size ≤ (w.heap ++ os).size; simp, fun b hb => by show (w.heap ++ os)[b]? = _; rw [Array.getElem?_append_left hb]⟩
theorem itoa_q (n : Int) (hn : Va.Fit n) (W : Wd) (hT : Tabs W) : CallsQ Tryz.prog 96 #[.int .i64 n, .int .i64 10] W (.string ⟨(Lib.itoa n).toArray⟩) :=
  .of_below (Calls.mono (Tryz.internal_strconv_FormatInt_10 n hn.1 hn.2 W.w hT.1) fun e w' ⟨he, k, os, hw⟩ => ⟨he, hw ▸ below_grow _ _ _⟩)
theorem fmtint_q (n : Int) (hn : Va.Fit n) (W : Wd) (hT : Tabs W) : CallsQ Tryz.prog 62 #[.int .i64 n, .int .i64 10] W (.string ⟨(Lib.itoa n).toArray⟩) := by
  refine vc_fmtint n 10 W.all _ ?_
  refine den_call_q (fun _ _ => itoa_q n hn W.all (hT.ext W.all_ext)) ⟨⟨(Lib.itoa n).toArray⟩, rfl, fun W' x => ?_⟩
  repeat' (first | (with_reducible refine den_br (fun _ => ?_) (fun _ => ?_)) | (with_reducible refine den_new fun _ _ _ _ => ?_) | (with_reducible refine den_wr fun _ _ => ?_) | (with_reducible refine den_grow fun _ _ => ?_) | (with_reducible refine den_ret fun _ _ _ => ?_))
  exact ⟨_, rfl, rfl⟩
theorem show_q (k n : Int) (t : ByteArray) (hn : Va.Fit n) (ht : t.size ≤ 1000000) (W : Wd) (hT : Tabs W) : CallsQ Tryz.prog 41 #[.agg #[.int .u8 k, .int .i64 n, .string t]] W (.string (Va.shown ⟨k, n, t⟩)) := by
  refine vc_vshow k n t W.all _ ?_
  have hT := hT.ext W.all_ext
  have e1 : (⟨#[39]⟩ : ByteArray).size = 1 := rfl
  refine den_new fun m W' _ x => den_br (fun c => ?_) fun c => ?_
  · refine den_call_q (fun _ _ => fmtint_q n hn W' (hT.ext x)) ⟨⟨(Lib.itoa n).toArray⟩, rfl, fun W' x => ?_⟩
    repeat' (first | (with_reducible refine den_br (fun _ => ?_) (fun _ => ?_)) | (with_reducible refine den_new fun _ _ _ _ => ?_) | (with_reducible refine den_wr fun _ _ => ?_) | (with_reducible refine den_grow fun _ _ => ?_) | (with_reducible refine den_ret fun _ _ _ => ?_))
    refine ⟨_, rfl, ?_⟩
    simp only [Sy.dens, Sy.den, E.i, E.b, E.t, gd, Env.push, List.cons_append, List.nil_append, List.append_nil, Int.toNat_natCast] at *
    simp_all [Va.shown]
  · repeat' (first | (with_reducible refine den_br (fun _ => ?_) (fun _ => ?_)) | (with_reducible refine den_new fun _ _ _ _ => ?_) | (with_reducible refine den_wr fun _ _ => ?_) | (with_reducible refine den_grow fun _ _ => ?_) | (with_reducible refine den_ret fun _ _ _ => ?_))
    all_goals try ((with_reducible refine den_chk ?_ (den_chk ?_ (den_ret fun _ _ _ => ?_))))
    all_goals (try refine ⟨_, rfl, ?_⟩)
    all_goals simp only [Sy.dens, Sy.den, E.i, E.b, E.t, gd, Env.push, List.cons_append, List.nil_append, List.append_nil, Int.toNat_natCast] at *
    all_goals simp_all [Va.shown, leB, ByteArray.size_append]
    all_goals first | omega | (rw [e1]; omega)
end Vs
end Go.Proofs.YtckgdgkkmhochaaGreatDoor
