/- The contracts of a value's text at the door's seat. -/
import Derived.Test.YtpekccomahikbaaDoorVdRef
import Derived.Test.YtpekccomahikbaaDoorShelf
namespace Go.Proofs.YtpekccomahikbaaDoor
open Go Go.RowKit Go.SE
set_option linter.unusedSimpArgs false
set_option linter.unusedVariables false

/-- the library's table of powers of ten is laid, and stays -/
def Tabs (W : Wd) : Prop := Lib.TabIs Tryd.prog W.w "internal/strconv.uint64pow10" .u64 Lib.pow10Tab ∧ ∀ g, Tryd.prog.globalNamed "internal/strconv.uint64pow10" = some g → W.I g
theorem Tabs.ext {W W' : Wd} (h : Tabs W) (x : Ext W W') : Tabs W' := by
  refine ⟨?_, fun g hg => x.sub g (h.2 g hg)⟩
  have h1 := h.1
  unfold Lib.TabIs World.var? at h1 ⊢
  cases hg : Tryd.prog.globalNamed "internal/strconv.uint64pow10" with
  | none => rw [hg] at h1; cases h1
  | some g =>
    rw [hg] at h1
    simp only [Option.bind_some] at h1 ⊢
    rw [x.keep g (h.2 g hg)]
    exact h1
theorem below_grow (w : World) (k : Nat) (os : Array Obj) : Below w.heap.size w (Sort.grow (w.drewN k) os) :=
  ⟨rfl, rfl, rfl, by show w.heap.size ≤ (w.heap ++ os).size; simp, fun b hb => by show (w.heap ++ os)[b]? = _; rw [Array.getElem?_append_left hb]⟩
theorem itoa_q (n : Int) (hn : Va.Fit n) (W : Wd) (hT : Tabs W) : CallsQ Tryd.prog 41 #[.int .i64 n, .int .i64 10] W (.string ⟨(Lib.itoa n).toArray⟩) :=
  Calls.mono (Tryd.internal_strconv_FormatInt_10 n hn.1 hn.2 W.w hT.1) fun e w' ⟨he, k, os, hw⟩ => ⟨he, hw ▸ below_grow _ _ _⟩
theorem fmtint_q (n : Int) (hn : Va.Fit n) (W : Wd) (hT : Tabs W) : CallsQ Tryd.prog 31 #[.int .i64 n, .int .i64 10] W (.string ⟨(Lib.itoa n).toArray⟩) :=
  .of_i (by
    refine vc_fmtint n 10 W _ ?_
    refine den_call fun _ => .of_q (itoa_q n hn W hT) fun W' x => ⟨⟨(Lib.itoa n).toArray⟩, rfl, ?_⟩
    repeat' (first | (with_reducible refine den_br (fun _ => ?_) (fun _ => ?_)) | (with_reducible refine den_new fun _ _ _ => ?_) | (with_reducible refine den_wr fun _ _ => ?_) | (with_reducible refine den_grow fun _ _ => ?_) | (with_reducible refine den_ret fun _ _ _ _ _ => ?_))
    rfl)
theorem show_q (k n : Int) (t : ByteArray) (hn : Va.Fit n) (ht : t.size ≤ 2000) (W : Wd) (hT : Tabs W) : CallsQ Tryd.prog 14 #[.agg #[.int .u8 k, .int .i64 n, .string t]] W (.string (Va.shown ⟨k, n, t⟩)) :=
  .of_i (by
    refine vc_show k n t W _ ?_
    refine den_new fun m W' x => den_br (fun c => ?_) fun c => ?_
    · refine den_call fun _ => .of_q (fmtint_q n hn W' (hT.ext x)) fun W' x => ⟨⟨(Lib.itoa n).toArray⟩, rfl, ?_⟩
      repeat' (first | (with_reducible refine den_br (fun _ => ?_) (fun _ => ?_)) | (with_reducible refine den_new fun _ _ _ => ?_) | (with_reducible refine den_wr fun _ _ => ?_) | (with_reducible refine den_grow fun _ _ => ?_) | (with_reducible refine den_ret fun _ _ _ _ _ => ?_))
      simp only [Sy.dens, Sy.den, E.i, E.b, E.t, gd, Env.push, List.cons_append, List.nil_append, List.append_nil, Int.toNat_natCast] at *
      simp_all [Va.shown]
    · repeat' (first | (with_reducible refine den_br (fun _ => ?_) (fun _ => ?_)) | (with_reducible refine den_new fun _ _ _ => ?_) | (with_reducible refine den_wr fun _ _ => ?_) | (with_reducible refine den_grow fun _ _ => ?_) | (with_reducible refine den_ret fun _ _ _ _ _ => ?_))
      all_goals try ((with_reducible refine den_chk ?_ (den_chk ?_ (den_ret fun _ _ _ _ _ => ?_))))
      all_goals simp only [Sy.dens, Sy.den, E.i, E.b, E.t, gd, Env.push, List.cons_append, List.nil_append, List.append_nil, Int.toNat_natCast] at *
      all_goals simp_all [Va.shown, leB, ByteArray.size_append]
      all_goals (have e1 : (⟨#[39]⟩ : ByteArray).size = 1 := rfl; rw [e1]; omega))
end Go.Proofs.YtpekccomahikbaaDoor
