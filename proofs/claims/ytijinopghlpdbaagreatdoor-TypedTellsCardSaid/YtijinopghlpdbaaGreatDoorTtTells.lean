/- What the statements of law 12 are held against: the walks (written by wip/gen_tyref.py). -/
import Derived.Test.YtijinopghlpdbaaGreatDoorTyTyped
import Derived.Test.YtijinopghlpdbaaGreatDoorTyComes
import Derived.Test.YtijinopghlpdbaaGreatDoorTtVc
import Derived.Test.YtijinopghlpdbaaGreatDoorTyOpen
import Derived.Test.YtijinopghlpdbaaGreatDoorFrLaid
import Derived.Test.YtijinopghlpdbaaGreatDoorTyLaw
import Derived.Test.YtijinopghlpdbaaGreatDoorKit
import Derived.Test.YtijinopghlpdbaaGreatDoorRows
import Derived.Test.YtijinopghlpdbaaGreatDoorTtRead
namespace Tx
open Go
theorem known_kind {k : Int} (h : (known k).2 = 0) : 1 ≤ (known k).1 ∧ (known k).1 ≤ 3 := by
  unfold known at h ⊢
  split at h
  · cases h
  · rw [if_neg (by assumption)]; dsimp only; omega
theorem named_kind {vars : List Var} {nm : Lx.Bs} (h : (named vars nm).2 = 0) : 1 ≤ (named vars nm).1 ∧ (named vars nm).1 ≤ 3 := by
  unfold named at h ⊢
  cases e : vars.find? (fun v => v.name == nm) with
  | none => rw [e] at h; cases h
  | some v => rw [e] at h; exact known_kind h
theorem sorted_kind {o : Int} {l : List Int} (h : (sorted o l).2 = 0) : 1 ≤ (sorted o l).1 ∧ (sorted o l).1 ≤ 3 := by
  unfold sorted at h ⊢
  cases e : (sortsOf o).find? fun s => l.all (· == s.1) with
  | none => rw [e] at h; cases h
  | some s =>
    have hm := List.mem_of_find?_eq_some e
    have ht : ∀ l ∈ sortTab, ∀ s ∈ l, 1 ≤ s.2 ∧ s.2 ≤ 3 := by decide
    unfold sortsOf at hm
    rw [List.getD_eq_getElem?_getD] at hm
    cases hl : sortTab[o.toNat]? with
    | none => rw [hl] at hm; cases hm
    | some r => rw [hl] at hm; exact ht r (List.mem_of_getElem? hl) s hm
theorem typed_kind {vars : List Var} {e : Px.Ex} (h : (typed vars e).2 = 0) : 1 ≤ (typed vars e).1 ∧ (typed vars e).1 ≤ 3 := by
  obtain ⟨op, k, n, t, nm, l⟩ := e
  rw [typed] at h ⊢
  split
  · rw [if_pos (by assumption)] at h; exact known_kind h
  · rw [if_neg (by assumption)] at h
    split
    · rw [if_pos (by assumption)] at h; exact named_kind h
    · rw [if_neg (by assumption)] at h
      cases hl : typeds vars l with
      | error f => rw [hl] at h; exact absurd h (typeds_ne hl)
      | ok r => rw [hl] at h; exact sorted_kind h
def xargN (op : Int) : Int := if op = 1 ∨ op = 2 then 0 else if (op = 3 ∨ op = 4) ∨ op = 16 then 1 else if 4 < op ∧ op < 16 then 2 else -1
theorem xargN_iff (op : Int) (n : Nat) : ((n : Int) = xargN op) ↔ ((1 ≤ op ∧ op ≤ 16) ∧ (n : Int) = argN op) := by
  unfold xargN
  constructor
  · intro h
    have h1 : 1 ≤ op ∧ op ≤ 16 := by (repeat' split at h) <;> omega
    refine ⟨h1, ?_⟩
    have : op = 1 ∨ op = 2 ∨ op = 3 ∨ op = 4 ∨ op = 5 ∨ op = 6 ∨ op = 7 ∨ op = 8 ∨ op = 9 ∨ op = 10 ∨ op = 11 ∨ op = 12 ∨ op = 13 ∨ op = 14 ∨ op = 15 ∨ op = 16 := by omega
    rcases this with rfl | rfl | rfl | rfl | rfl | rfl | rfl | rfl | rfl | rfl | rfl | rfl | rfl | rfl | rfl | rfl <;> exact h
  · rintro ⟨h1, h⟩
    have : op = 1 ∨ op = 2 ∨ op = 3 ∨ op = 4 ∨ op = 5 ∨ op = 6 ∨ op = 7 ∨ op = 8 ∨ op = 9 ∨ op = 10 ∨ op = 11 ∨ op = 12 ∨ op = 13 ∨ op = 14 ∨ op = 15 ∨ op = 16 := by omega
    rcases this with rfl | rfl | rfl | rfl | rfl | rfl | rfl | rfl | rfl | rfl | rfl | rfl | rfl | rfl | rfl | rfl <;> exact h
end Tx
namespace Go.Proofs.YtijinopghlpdbaaGreatDoor
open Go Go.RowKit Go.SF
set_option linter.unusedSimpArgs false
set_option linter.unusedVariables false
theorem gdrop (l : List UInt8) (i : Nat) (h : i < l.length) : l.drop i = l[i] :: l.drop (i + 1) := List.drop_eq_getElem_cons h
theorem xmay_q (k n : Int) (t : ByteArray) (ht : t.size ≤ 9223372036854775806) (W : Wd) : CallsQ Tryz.prog 39 #[.agg #[.int .u8 k, .int .i64 n, .string t]] W (.bool (Va.may ⟨k, n, t⟩)) := by
  refine vc_xmay k n t W.all _ ?_
  refine den_new fun m W' _ x => ?_
  have hs := size_len t
  refine den_br (fun c => den_ret fun _ _ _ => ⟨_, rfl, ?_⟩) fun c0 => den_br (fun c => den_ret fun _ _ _ => ⟨_, rfl, ?_⟩) fun c1 => den_br (fun c => den_ret fun _ _ _ => ⟨_, rfl, ?_⟩) fun c2 => den_br (fun c3 => ?_) fun c3 => den_ret fun _ _ _ => ⟨_, rfl, ?_⟩
  · have c : k = 0 := by simpa [Sy.dens, Sy.den, E.i, E.b, E.t, gd, Env.push, List.cons_append, List.nil_append, List.append_nil, Int.toNat_natCast] using c
    subst c; simp [Sy.dens, Sy.den, E.i, E.b, E.t, gd, Env.push, List.cons_append, List.nil_append, List.append_nil, Int.toNat_natCast, Va.may]
  · have c : k = 1 := by simpa [Sy.dens, Sy.den, E.i, E.b, E.t, gd, Env.push, List.cons_append, List.nil_append, List.append_nil, Int.toNat_natCast] using c
    subst c; simp [Sy.dens, Sy.den, E.i, E.b, E.t, gd, Env.push, List.cons_append, List.nil_append, List.append_nil, Int.toNat_natCast, Va.may]
  · have c : k = 2 := by simpa [Sy.dens, Sy.den, E.i, E.b, E.t, gd, Env.push, List.cons_append, List.nil_append, List.append_nil, Int.toNat_natCast] using c
    subst c; simp [Sy.dens, Sy.den, E.i, E.b, E.t, gd, Env.push, List.cons_append, List.nil_append, List.append_nil, Int.toNat_natCast, Va.may]
  · have c3 : k = 3 := by simpa [Sy.dens, Sy.den, E.i, E.b, E.t, gd, Env.push, List.cons_append, List.nil_append, List.append_nil, Int.toNat_natCast] using c3
    subst c3
    refine den_loop (fun j vs ls _ => ∃ i : Nat, vs = [.int .i64 (i : Int)] ∧ ls = [] ∧ i ≤ t.size ∧ j = t.size - i ∧ (t.data.toList.drop i).all Va.okc = t.data.toList.all Va.okc) t.size ⟨0, by simp [Sy.dens, Sy.den, E.i, E.b, E.t, gd, Env.push, List.cons_append, List.nil_append, List.append_nil, Int.toNat_natCast], rfl, Nat.zero_le _, rfl, rfl⟩ ?_
    rintro j vs ls W' x ⟨i, rfl, rfl, hi, rfl, ha⟩
    refine ⟨(i : Int), rfl, rfl, fun _ => den_br (fun c => ?_) fun c => ?_⟩
    · simp only [Sy.dens, Sy.den, E.i, E.b, E.t, gd, Env.push, List.cons_append, List.nil_append, List.append_nil, Int.toNat_natCast, ltB_true] at c
      have hl : i < t.data.toList.length := by omega
      have hd := gd_drop t.data.toList i hl
      refine den_chk ?_ (den_br (fun c2 => den_ret fun _ _ _ => ⟨_, rfl, ?_⟩) fun c2 => den_again ⟨t.size - (i + 1), by omega, i + 1, ?_, rfl, by omega, rfl, ?_⟩)
      · simp only [Sy.dens, Sy.den, E.i, E.b, E.t, gd, Env.push, List.cons_append, List.nil_append, List.append_nil, Int.toNat_natCast]; exact leB_t (by omega)
      · simp only [Sy.dens, Sy.den, E.i, E.b, E.t, gd, Env.push, List.cons_append, List.nil_append, List.append_nil, Int.toNat_natCast] at c2
        rw [hd, List.all_cons] at ha
        have hk : Va.okc (gd t.data.toList i 0) = false := by unfold Va.okc; simp only [ltB] at c2; simp [c2]
        rw [hk, Bool.false_and] at ha
        show Value.bool false = _
        simp [Va.may, Va.plain, ← ha]
      · simp only [Sy.dens, Sy.den, E.i, E.b, E.t, gd, Env.push, List.cons_append, List.nil_append, List.append_nil, Int.toNat_natCast]; rw [w64i (by omega) (by omega)]; rfl
      · simp only [Sy.dens, Sy.den, E.i, E.b, E.t, gd, Env.push, List.cons_append, List.nil_append, List.append_nil, Int.toNat_natCast] at c2
        rw [hd, List.all_cons] at ha
        have hk : Va.okc (gd t.data.toList i 0) = true := by unfold Va.okc; simp only [ltB] at c2; simp at c2 ⊢; omega
        rw [hk, Bool.true_and] at ha
        exact ha
    · refine den_ret fun _ _ _ => ⟨_, rfl, ?_⟩
      simp only [Sy.dens, Sy.den, E.i, E.b, E.t, gd, Env.push, List.cons_append, List.nil_append, List.append_nil, Int.toNat_natCast, ltB_false] at c
      rw [List.drop_eq_nil_of_le (by omega)] at ha
      simp only [Sy.dens, Sy.den, E.i, E.b, E.t, gd, Env.push, List.cons_append, List.nil_append, List.append_nil, Int.toNat_natCast]
      simp [Va.may, Va.plain, ← ha, leB, hs]
  · have e0 : ¬ k = 0 := by simpa [Sy.dens, Sy.den, E.i, E.b, E.t, gd, Env.push, List.cons_append, List.nil_append, List.append_nil, Int.toNat_natCast] using c0
    have e1 : ¬ k = 1 := by simpa [Sy.dens, Sy.den, E.i, E.b, E.t, gd, Env.push, List.cons_append, List.nil_append, List.append_nil, Int.toNat_natCast] using c1
    have e2 : ¬ k = 2 := by simpa [Sy.dens, Sy.den, E.i, E.b, E.t, gd, Env.push, List.cons_append, List.nil_append, List.append_nil, Int.toNat_natCast] using c2
    have e3 : ¬ k = 3 := by simpa [Sy.dens, Sy.den, E.i, E.b, E.t, gd, Env.push, List.cons_append, List.nil_append, List.append_nil, Int.toNat_natCast] using c3
    simp [Va.may, e0, e1, e2, e3, Sy.den, E.b]
theorem xargs_q (op : Int) (W : Wd) : CallsQ Tryz.prog 38 #[.int .u8 op] W (.int .i64 (Tx.xargN op)) := by
  refine vc_xargs op W.all _ ?_
  repeat' (first | (with_reducible refine den_br (fun _ => ?_) (fun _ => ?_)) | (with_reducible refine den_new fun _ _ _ _ => ?_) | (with_reducible refine den_wr fun _ _ => ?_) | (with_reducible refine den_grow fun _ _ => ?_) | (with_reducible refine den_ret fun _ _ _ => ?_))
  all_goals refine ⟨_, rfl, ?_⟩
  all_goals simp only [Sy.dens, Sy.den, E.i, E.b, E.t, gd, Env.push, List.cons_append, List.nil_append, List.append_nil, Int.toNat_natCast] at *
  all_goals simp only [Bool.or_eq_true, Bool.and_eq_true, Bool.or_eq_false_iff, Bool.and_eq_false_iff, beq_iff_eq, beq_eq_false_iff_ne, ne_eq, ltB_true, ltB_false] at *
  all_goals unfold Tx.xargN
  · rw [if_pos (by assumption)]
  · rw [if_neg (by omega), if_pos (by assumption)]
  · rw [if_neg (by omega), if_neg (by omega), if_pos (by assumption)]
  · rw [if_neg (by omega), if_neg (by omega), if_neg (by omega)]
theorem xwhole_ok : ∀ (n : Nat) (x : Px.Ex) (vs : List Value) (W : Wd), n ≤ 1000 → Px.thin x = true → ExI W x vs → CallsQ Tryz.prog 21 #[.agg vs.toArray, .int .i64 (n : Nat)] W (.bool (Tx.whole n x)) := by
  intro n
  induction n with
  | zero =>
    intro x vs W _ _ hx
    obtain ⟨op, k, nn, t, nm, al, len, cl, rfl⟩ := hx.shape
    refine vc_xwhole op k nn ((0 : Nat) : Int) len cl t nm al W.all _ ?_
    exact den_new fun _ _ _ _ => den_br_f rfl (den_grow fun _ _ => den_ret fun _ _ _ => ⟨_, rfl, rfl⟩)
  | succ n ih =>
    intro x vs W hn hth hx
    obtain ⟨op, k, nn, t, nm, args⟩ := x
    have hx := hx.ext W.all_ext
    simp only [ExI, ExAt] at hx
    obtain ⟨al, cl, ls, rfl, hS, hE⟩ := hx
    simp only [Px.thin, Bool.and_eq_true, decide_eq_true_eq] at hth
    obtain ⟨⟨hal, htl, hnl, hf0, hf1⟩, hth⟩ := hth
    have hiff := Tx.xargN_iff op args.length
    refine vc_xwhole op k nn ((n + 1 : Nat) : Int) args.length cl ⟨t.toArray⟩ ⟨nm.toArray⟩ al W.all _ ?_
    refine den_new fun m0 W1 _ x1 => den_br_t ?_ (den_callq ⟨Tx.xargN op, fun V _ _ _ => xargs_q op V, den_br (fun c1 => ?_) fun c1 => ?_⟩)
    · simp only [Sy.dens, Sy.den, E.i, E.b, E.t, gd, Env.push, List.cons_append, List.nil_append, List.append_nil, Int.toNat_natCast, Bool.not_eq_true']; rw [ltB_false]; omega
    · simp only [Sy.dens, Sy.den, E.i, E.b, E.t, gd, Env.push, List.cons_append, List.nil_append, List.append_nil, Int.toNat_natCast, Bool.and_eq_true, beq_iff_eq] at c1
      obtain ⟨h1, h2⟩ := hiff.1 c1.1
      refine den_callq ⟨Va.may ⟨k, nn, ⟨t.toArray⟩⟩, fun V _ _ _ => xmay_q k nn ⟨t.toArray⟩ (by rw [← size_len]; exact Nat.le_trans htl (by decide)) V, den_grow fun W2 x2 => den_br (fun c2 => den_ret fun _ _ _ => ⟨_, rfl, ?_⟩) fun c2 => ?_⟩
      · have c2 : Va.may ⟨k, nn, ⟨t.toArray⟩⟩ = false := by simpa [Sy.dens, Sy.den, E.i, E.b, E.t, gd, Env.push, List.cons_append, List.nil_append, List.append_nil, Int.toNat_natCast] using c2
        simp [Sy.dens, Sy.den, E.i, E.b, E.t, gd, Env.push, List.cons_append, List.nil_append, List.append_nil, Int.toNat_natCast, Tx.whole, c2, c1.2]
      · have c2 : Va.may ⟨k, nn, ⟨t.toArray⟩⟩ = true := by simpa [Sy.dens, Sy.den, E.i, E.b, E.t, gd, Env.push, List.cons_append, List.nil_append, List.append_nil, Int.toNat_natCast] using c2
        have hgo : Tx.whole (n + 1) (.mk op k nn t nm args) = args.all (Tx.whole n) := by
          rw [Tx.whole, c2]; simp [h1.1, h1.2, h2]
        have x2 := ext_trans x1 x2
        refine den_loop (fun j vs ls _ => ∃ i : Nat, vs = [.int .i64 (i : Nat)] ∧ ls = [] ∧ i ≤ args.length ∧ j = args.length - i ∧ args.all (Tx.whole n) = (args.drop i).all (Tx.whole n)) args.length ⟨0, by simp [Sy.dens, Sy.den, E.i, E.b, E.t, gd, Env.push, List.cons_append, List.nil_append, List.append_nil, Int.toNat_natCast], rfl, Nat.zero_le _, rfl, rfl⟩ ?_
        rintro j vs ls' W3 x3 ⟨i, rfl, rfl, hi, rfl, ha⟩
        have y3 := ext_trans x2 x3
        refine ⟨(i : Int), rfl, rfl, fun _ => den_br (fun c3 => ?_) fun c3 => den_ret fun _ _ _ => ⟨_, rfl, ?_⟩⟩
        · simp only [Sy.dens, Sy.den, E.i, E.b, E.t, gd, Env.push, List.cons_append, List.nil_append, List.append_nil, Int.toNat_natCast, ltB_true] at c3
          have hil : i < args.length := by omega
          have hgx : args[i]? = some args[i] := List.getElem?_eq_getElem hil
          obtain ⟨us, hu, hg⟩ := exs_get hE hgx
          have hu1 : ExI W.all args[i] us := hu
          obtain ⟨o1, k1, n1, t1, m1', al1, len1, cl1, rfl⟩ := hu.shape
          rw [tdrop_get hil, List.all_cons] at ha
          refine den_chk ?_ (den_chk ?_ (den_look ⟨o1, k1, n1, len1, cl1, t1, m1', al1, fun V xV => ?_, ?_⟩))
          · simp only [E.b, gd, Env.push]; exact SlI.some_of hS (by omega)
          · simp only [Sy.dens, Sy.den, E.i, E.b, E.t, gd, Env.push, List.cons_append, List.nil_append, List.append_nil, Int.toNat_natCast]; exact leB_t (by omega)
          · have := sl_look_at (W := W.all) hS ex_agg ex_size rfl (by decide) hg (ext_trans y3 xV)
            simp only [Sy.dens, Sy.den, E.i, E.b, E.t, gd, Env.push, List.cons_append, List.nil_append, List.append_nil, Int.toNat_natCast] at this ⊢
            exact this
          simp only [Env.push, List.cons_append, List.nil_append, List.append_nil]
          refine den_call_q (v := .bool (Tx.whole n args[i])) (fun _ _ => ?_) ⟨Tx.whole n args[i], rfl, fun W4 x4 => den_br (fun c4 => den_ret fun _ _ _ => ⟨_, rfl, ?_⟩) fun c4 => den_again ⟨args.length - (i + 1), by omega, i + 1, ?_, rfl, by omega, rfl, ?_⟩⟩
          · have hq := ih args[i] _ W3 (by omega) (Px.thin_mem hth (List.getElem_mem hil)) (hu1.ext y3)
            simp only [Sy.dens, Sy.den, E.i, gd, Env.push, List.cons_append, List.nil_append, List.append_nil] at hq ⊢
            rw [show IntKind.i64.wrap (((n + 1 : Nat) : Int) - 1) = (n : Int) from by rw [Vt.w64, Va.Fit.wrap ⟨by omega, by omega⟩]; omega]
            exact hq
          · have c4 : Tx.whole n args[i] = false := by simpa [Sy.dens, Sy.den, E.i, E.b, E.t, gd, Env.push, List.cons_append, List.nil_append, List.append_nil, Int.toNat_natCast] using c4
            rw [hgo, ha, c4]; simp [Sy.dens, Sy.den, E.i, E.b, E.t, gd, Env.push, List.cons_append, List.nil_append, List.append_nil, Int.toNat_natCast]
          · simp only [Sy.dens, Sy.den, E.i, E.b, E.t, gd, Env.push, List.cons_append, List.nil_append, List.append_nil, Int.toNat_natCast]; rw [w64i (by omega) (by omega)]; rfl
          · have c4 : Tx.whole n args[i] = true := by simpa [Sy.dens, Sy.den, E.i, E.b, E.t, gd, Env.push, List.cons_append, List.nil_append, List.append_nil, Int.toNat_natCast] using c4
            rw [ha, c4, Bool.true_and]
        · simp only [Sy.dens, Sy.den, E.i, E.b, E.t, gd, Env.push, List.cons_append, List.nil_append, List.append_nil, Int.toNat_natCast, ltB_false] at c3
          rw [hgo, ha, List.drop_eq_nil_of_le (by omega)]; rfl
    · refine den_grow fun W2 x2 => den_br (fun c2 => den_ret fun _ _ _ => ⟨_, rfl, ?_⟩) fun c2 => ?_
      · have c2 : ¬ (args.length : Int) = Tx.xargN op := by simpa [Sy.dens, Sy.den, E.i, E.b, E.t, gd, Env.push, List.cons_append, List.nil_append, List.append_nil, Int.toNat_natCast] using c2
        rw [hiff] at c2
        show Value.bool false = _
        rw [Tx.whole]
        by_cases h1 : 1 ≤ op ∧ op ≤ 16
        · have : ((args.length : Int) == Tx.argN op) = false := by rw [beq_eq_false_iff_ne]; exact fun h => c2 ⟨h1, h⟩
          simp [this]
        · have : (decide (1 ≤ op) && decide (op ≤ 16)) = false := by rw [Bool.and_eq_false_iff, decide_eq_false_iff_not, decide_eq_false_iff_not]; omega
          simp [this]
      · have c2 : (args.length : Int) = Tx.xargN op := by simpa [Sy.dens, Sy.den, E.i, E.b, E.t, gd, Env.push, List.cons_append, List.nil_append, List.append_nil, Int.toNat_natCast] using c2
        have c1 : ¬ op = 1 := by
          simp only [Sy.dens, Sy.den, E.i, E.b, E.t, gd, Env.push, List.cons_append, List.nil_append, List.append_nil, Int.toNat_natCast, Bool.and_eq_false_iff, beq_eq_false_iff_ne, ne_eq] at c1
          rcases c1 with h | h
          · exact absurd c2 h
          · exact h
        obtain ⟨h1, h2⟩ := hiff.1 c2
        have hgo : Tx.whole (n + 1) (.mk op k nn t nm args) = args.all (Tx.whole n) := by
          rw [Tx.whole]; simp [h1.1, h1.2, h2, c1]
        have x2 := ext_trans x1 x2
        refine den_loop (fun j vs ls _ => ∃ i : Nat, vs = [.int .i64 (i : Nat)] ∧ ls = [] ∧ i ≤ args.length ∧ j = args.length - i ∧ args.all (Tx.whole n) = (args.drop i).all (Tx.whole n)) args.length ⟨0, by simp [Sy.dens, Sy.den, E.i, E.b, E.t, gd, Env.push, List.cons_append, List.nil_append, List.append_nil, Int.toNat_natCast], rfl, Nat.zero_le _, rfl, rfl⟩ ?_
        rintro j vs ls' W3 x3 ⟨i, rfl, rfl, hi, rfl, ha⟩
        have y3 := ext_trans x2 x3
        refine ⟨(i : Int), rfl, rfl, fun _ => den_br (fun c3 => ?_) fun c3 => den_ret fun _ _ _ => ⟨_, rfl, ?_⟩⟩
        · simp only [Sy.dens, Sy.den, E.i, E.b, E.t, gd, Env.push, List.cons_append, List.nil_append, List.append_nil, Int.toNat_natCast, ltB_true] at c3
          have hil : i < args.length := by omega
          have hgx : args[i]? = some args[i] := List.getElem?_eq_getElem hil
          obtain ⟨us, hu, hg⟩ := exs_get hE hgx
          have hu1 : ExI W.all args[i] us := hu
          obtain ⟨o1, k1, n1, t1, m1', al1, len1, cl1, rfl⟩ := hu.shape
          rw [tdrop_get hil, List.all_cons] at ha
          refine den_chk ?_ (den_chk ?_ (den_look ⟨o1, k1, n1, len1, cl1, t1, m1', al1, fun V xV => ?_, ?_⟩))
          · simp only [E.b, gd, Env.push]; exact SlI.some_of hS (by omega)
          · simp only [Sy.dens, Sy.den, E.i, E.b, E.t, gd, Env.push, List.cons_append, List.nil_append, List.append_nil, Int.toNat_natCast]; exact leB_t (by omega)
          · have := sl_look_at (W := W.all) hS ex_agg ex_size rfl (by decide) hg (ext_trans y3 xV)
            simp only [Sy.dens, Sy.den, E.i, E.b, E.t, gd, Env.push, List.cons_append, List.nil_append, List.append_nil, Int.toNat_natCast] at this ⊢
            exact this
          simp only [Env.push, List.cons_append, List.nil_append, List.append_nil]
          refine den_call_q (v := .bool (Tx.whole n args[i])) (fun _ _ => ?_) ⟨Tx.whole n args[i], rfl, fun W4 x4 => den_br (fun c4 => den_ret fun _ _ _ => ⟨_, rfl, ?_⟩) fun c4 => den_again ⟨args.length - (i + 1), by omega, i + 1, ?_, rfl, by omega, rfl, ?_⟩⟩
          · have hq := ih args[i] _ W3 (by omega) (Px.thin_mem hth (List.getElem_mem hil)) (hu1.ext y3)
            simp only [Sy.dens, Sy.den, E.i, gd, Env.push, List.cons_append, List.nil_append, List.append_nil] at hq ⊢
            rw [show IntKind.i64.wrap (((n + 1 : Nat) : Int) - 1) = (n : Int) from by rw [Vt.w64, Va.Fit.wrap ⟨by omega, by omega⟩]; omega]
            exact hq
          · have c4 : Tx.whole n args[i] = false := by simpa [Sy.dens, Sy.den, E.i, E.b, E.t, gd, Env.push, List.cons_append, List.nil_append, List.append_nil, Int.toNat_natCast] using c4
            rw [hgo, ha, c4]; simp [Sy.dens, Sy.den, E.i, E.b, E.t, gd, Env.push, List.cons_append, List.nil_append, List.append_nil, Int.toNat_natCast]
          · simp only [Sy.dens, Sy.den, E.i, E.b, E.t, gd, Env.push, List.cons_append, List.nil_append, List.append_nil, Int.toNat_natCast]; rw [w64i (by omega) (by omega)]; rfl
          · have c4 : Tx.whole n args[i] = true := by simpa [Sy.dens, Sy.den, E.i, E.b, E.t, gd, Env.push, List.cons_append, List.nil_append, List.append_nil, Int.toNat_natCast] using c4
            rw [ha, c4, Bool.true_and]
        · simp only [Sy.dens, Sy.den, E.i, E.b, E.t, gd, Env.push, List.cons_append, List.nil_append, List.append_nil, Int.toNat_natCast, ltB_false] at c3
          rw [hgo, ha, List.drop_eq_nil_of_le (by omega)]; rfl
theorem xWhole_q (x : Px.Ex) (vs : List Value) (W : Wd) (hth : Px.thin x = true) (hx : ExI W x vs) : CallsQ Tryz.prog 11 #[.agg vs.toArray] W (.bool (Tx.whole 16 x)) := by
  obtain ⟨op, k, nn, t, nm, al, len, cl, rfl⟩ := hx.shape
  refine vc_xWhole op k nn len cl t nm al W.all _ ?_
  refine den_new fun m0 W1 _ x1 => den_call_q (fun _ _ => xwhole_ok 16 x _ W1 (by decide) hth (hx.ext (ext_trans W.all_ext x1))) ⟨Tx.whole 16 x, rfl, fun W2 x2 => den_ret fun _ _ _ => ⟨_, rfl, rfl⟩⟩
theorem xtyped_ok : ∀ (n : Nat) (x : Px.Ex) (vs : List Value) (vars : List Tx.Var) (a : Option Addr) (c : Nat) (W : Wd), Px.thin x = true → Tx.whole n x = true → vars.length ≤ 1000000 → ExI W x vs → VarsI W a c vars →
    CallsQ Tryz.prog 19 #[.agg vs.toArray, .slice a vars.length c] W (tupV (Tx.typed vars x)) := by
  intro n
  induction n with
  | zero => intro x vs vars a c W _ h; cases h
  | succ n ih =>
    intro x vs vars a c W hth hw0 hvl hx hV
    obtain ⟨op, k, nn, t, nm, args⟩ := x
    have hx := hx.ext W.all_ext
    have hV := hV.all
    simp only [ExI, ExAt] at hx
    obtain ⟨al, cl, ls, rfl, hS, hE⟩ := hx
    simp only [Px.thin, Bool.and_eq_true, decide_eq_true_eq] at hth
    obtain ⟨⟨hal, htl, hnl, hf0, hf1⟩, hth⟩ := hth
    simp only [Tx.whole, Bool.and_eq_true, decide_eq_true_eq, Bool.or_eq_true, bne_iff_ne, ne_eq, beq_iff_eq] at hw0
    obtain ⟨hop, hln, hmy, hwl⟩ := hw0
    refine vc_xtyped op k nn args.length cl vars.length c ⟨t.toArray⟩ ⟨nm.toArray⟩ al a W.all _ ?_
    refine den_new fun m0 W2 hm0 y2 => den_br (fun c1 => den_br (fun c2 => den_ret fun _ _ _ => ⟨_, rfl, ?_⟩) fun c2 => den_ret fun _ _ _ => ⟨_, rfl, ?_⟩) fun c1 => den_br (fun c2 => ?_) fun c2 => ?_
    · have c1 : op = 1 := by simpa [Sy.dens, Sy.den, E.i, E.b, E.t, gd, Env.push, List.cons_append, List.nil_append, List.append_nil, Int.toNat_natCast] using c1
      have c2 : k = 0 := by simpa [Sy.dens, Sy.den, E.i, E.b, E.t, gd, Env.push, List.cons_append, List.nil_append, List.append_nil, Int.toNat_natCast] using c2
      rw [Tx.typed, if_pos c1, Tx.known, if_pos (by omega)]; rfl
    · have c1 : op = 1 := by simpa [Sy.dens, Sy.den, E.i, E.b, E.t, gd, Env.push, List.cons_append, List.nil_append, List.append_nil, Int.toNat_natCast] using c1
      have c2 : ¬ k = 0 := by simpa [Sy.dens, Sy.den, E.i, E.b, E.t, gd, Env.push, List.cons_append, List.nil_append, List.append_nil, Int.toNat_natCast] using c2
      have hk : k = 1 ∨ k = 2 ∨ k = 3 := by
        have hm := hmy.resolve_left (by simp [c1])
        by_cases h1 : k = 1
        · exact .inl h1
        by_cases h2 : k = 2
        · exact .inr (.inl h2)
        by_cases h3 : k = 3
        · exact .inr (.inr h3)
        simp [Va.may, c2, h1, h2, h3] at hm
      rw [Tx.typed, if_pos c1, Tx.known, if_neg (by omega)]; rfl
    · have c1 : ¬ op = 1 := by simpa [Sy.dens, Sy.den, E.i, E.b, E.t, gd, Env.push, List.cons_append, List.nil_append, List.append_nil, Int.toNat_natCast] using c1
      have c2 : op = 2 := by simpa [Sy.dens, Sy.den, E.i, E.b, E.t, gd, Env.push, List.cons_append, List.nil_append, List.append_nil, Int.toNat_natCast] using c2
      have hgo : Tx.typed vars (.mk op k nn t nm args) = match vars.find? (fun v => v.name == nm) with | some v => Tx.known v.k | none => (0, 22) := by rw [Tx.typed, if_neg c1, if_pos c2, Tx.named]; cases vars.find? (fun v => v.name == nm) <;> rfl
      refine den_loop (fun j vs ls _ => ∃ i : Nat, vs = [.int .i64 (i : Nat)] ∧ ls = [] ∧ i ≤ vars.length ∧ j = vars.length - i ∧ vars.find? (fun v => v.name == nm) = (vars.drop i).find? fun v => v.name == nm) vars.length ⟨0, by simp [Sy.dens, Sy.den, E.i, E.b, E.t, gd, Env.push, List.cons_append, List.nil_append, List.append_nil, Int.toNat_natCast], rfl, Nat.zero_le _, rfl, rfl⟩ ?_
      rintro j vs ls' W3 x3 ⟨i, rfl, rfl, hi, rfl, ha⟩
      have y3 := ext_trans y2 x3
      refine ⟨(i : Int), rfl, rfl, fun _ => den_br (fun c3 => ?_) fun c3 => den_ret fun _ _ _ => ⟨_, rfl, ?_⟩⟩
      · simp only [Sy.dens, Sy.den, E.i, E.b, E.t, gd, Env.push, List.cons_append, List.nil_append, List.append_nil, Int.toNat_natCast, ltB_true] at c3
        have hil : i < vars.length := by omega
        have hx : vars[i]? = some vars[i] := List.getElem?_eq_getElem hil
        rw [tdrop_get hil] at ha
        have lk : ∀ V, Ext W3 V → _ := fun V xV => sl_look_f (P := Tryz.prog) varC_len hV u8_aggT (k := 1) hx (by decide) (u := .int .u8 vars[i].k) rfl (ext_trans y3 xV)
        refine den_chk ?_ (den_chk ?_ (den_look ⟨⟨vars[i].name.toArray⟩, fun V xV => ?_, ?_⟩))
        · simp only [E.b, gd, Env.push]; exact SlI.some_of hV (by omega)
        · simp only [Sy.dens, Sy.den, E.i, E.b, E.t, gd, Env.push, List.cons_append, List.nil_append, List.append_nil, Int.toNat_natCast]; exact leB_t (by omega)
        · have := sl_look_f (P := Tryz.prog) varC_len hV str_aggT (k := 0) hx (by decide) (u := .string ⟨vars[i].name.toArray⟩) rfl (ext_trans y3 xV)
          simp only [Sy.dens, Sy.den, E.i, E.b, E.t, gd, Env.push, List.cons_append, List.nil_append, List.append_nil, Int.toNat_natCast] at this ⊢
          exact this
        simp only [Env.push, List.cons_append, List.nil_append, List.append_nil]
        refine den_grow fun W4 x4 => den_br (fun c4 => den_look ⟨vars[i].k, fun V xV => ?_, ?_⟩) fun c4 => den_again ⟨vars.length - (i + 1), by omega, i + 1, ?_, rfl, by omega, rfl, ?_⟩
        · have := lk V (ext_trans x4 xV)
          simp only [Sy.dens, Sy.den, E.i, E.b, E.t, gd, Env.push, List.cons_append, List.nil_append, List.append_nil, Int.toNat_natCast] at this ⊢
          exact this
        · simp only [Env.push, List.cons_append, List.nil_append, List.append_nil]
          simp only [Sy.dens, Sy.den, E.i, E.b, E.t, gd, Env.push, List.cons_append, List.nil_append, List.append_nil, Int.toNat_natCast, tba] at c4
          rw [hgo, ha, List.find?_cons, c4]
          refine den_br (fun c5 => den_look ⟨vars[i].k, fun V xV => ?_, den_br (fun c6 => den_ret fun _ _ _ => ⟨_, rfl, ?_⟩) fun c6 => den_look ⟨vars[i].k, fun V xV => ?_, den_ret fun _ _ _ => ⟨_, rfl, ?_⟩⟩⟩) fun c5 => den_ret fun _ _ _ => ⟨_, rfl, ?_⟩
          · have := lk V (ext_trans x4 xV)
            simp only [Sy.dens, Sy.den, E.i, E.b, E.t, gd, Env.push, List.cons_append, List.nil_append, List.append_nil, Int.toNat_natCast] at this ⊢
            exact this
          · simp only [Sy.dens, Sy.den, E.i, E.b, E.t, gd, Env.push, List.cons_append, List.nil_append, List.append_nil, Int.toNat_natCast, ltB_true] at c6
            dsimp only
            rw [Tx.known, if_pos (by omega)]; rfl
          · have := lk V (ext_trans x4 xV)
            simp only [Sy.dens, Sy.den, E.i, E.b, E.t, gd, Env.push, List.cons_append, List.nil_append, List.append_nil, Int.toNat_natCast] at this ⊢
            exact this
          · simp only [Sy.dens, Sy.den, E.i, E.b, E.t, gd, Env.push, List.cons_append, List.nil_append, List.append_nil, Int.toNat_natCast, ltB_false] at c6
            simp only [Sy.dens, Sy.den, E.i, E.b, E.t, gd, Env.push, List.cons_append, List.nil_append, List.append_nil, Int.toNat_natCast, Bool.not_eq_true', ltB_false] at c5
            dsimp only
            rw [Tx.known, if_neg (by omega)]; rfl
          · simp only [Sy.dens, Sy.den, E.i, E.b, E.t, gd, Env.push, List.cons_append, List.nil_append, List.append_nil, Int.toNat_natCast, Bool.not_eq_false', ltB_true] at c5
            dsimp only
            rw [Tx.known, if_pos (by omega)]; rfl
        · simp only [Sy.dens, Sy.den, E.i, E.b, E.t, gd, Env.push, List.cons_append, List.nil_append, List.append_nil, Int.toNat_natCast]; rw [w64i (by omega) (by omega)]; rfl
        · simp only [Sy.dens, Sy.den, E.i, E.b, E.t, gd, Env.push, List.cons_append, List.nil_append, List.append_nil, Int.toNat_natCast, tba] at c4
          rw [ha, List.find?_cons, c4]
      · simp only [Sy.dens, Sy.den, E.i, E.b, E.t, gd, Env.push, List.cons_append, List.nil_append, List.append_nil, Int.toNat_natCast, ltB_false] at c3
        rw [hgo, ha, List.drop_eq_nil_of_le (by omega)]; rfl
    · have c1 : ¬ op = 1 := by simpa [Sy.dens, Sy.den, E.i, E.b, E.t, gd, Env.push, List.cons_append, List.nil_append, List.append_nil, Int.toNat_natCast] using c1
      have c2 : ¬ op = 2 := by simpa [Sy.dens, Sy.den, E.i, E.b, E.t, gd, Env.push, List.cons_append, List.nil_append, List.append_nil, Int.toNat_natCast] using c2
      have hN : 1 ≤ args.length := by rcases Tx.argN_cases hop c1 c2 with ⟨e, _⟩ | ⟨e, _⟩ <;> omega
      obtain ⟨x1e, rest, hargs⟩ : ∃ x r, args = x :: r := by
        cases args with
        | nil => simp at hN
        | cons x r => exact ⟨x, r, rfl⟩
      have hg0 : args[0]? = some x1e := by rw [hargs]; rfl
      have hmem : x1e ∈ args := by rw [hargs]; exact List.mem_cons_self ..
      obtain ⟨us, hu, hg⟩ := exs_get hE hg0
      have hu1 : ExI W.all x1e us := hu
      obtain ⟨o1, k1, n1, t1, m1', al1, len1, cl1, rfl⟩ := hu.shape
      have hth1 := Px.thin_mem hth hmem
      have hw1 := Tx.whole_all hwl hmem
      obtain ⟨A, hA⟩ : ∃ A, A = Tx.typed vars x1e := ⟨_, rfl⟩
      have hkA := Tx.typed_kind (vars := vars) (e := x1e)
      rw [← hA] at hkA
      refine den_chk ?_ (den_chk rfl (den_chk ?_ (den_look ⟨o1, k1, n1, len1, cl1, t1, m1', al1, fun V xV => ?_, ?_⟩)))
      · simp only [E.b, gd, Env.push]; exact SlI.some_of hS (by omega)
      · simp only [Sy.dens, Sy.den, E.i, E.b, E.t, gd, Env.push, List.cons_append, List.nil_append, List.append_nil, Int.toNat_natCast]; exact ltB_t (by omega)
      · have := sl_look_at (W := W.all) hS ex_agg ex_size rfl (by decide) hg (ext_trans y2 xV)
        simp only [Sy.dens, Sy.den, E.i, E.b, E.t, gd, Env.push, List.cons_append, List.nil_append, List.append_nil, Int.toNat_natCast] at this ⊢
        exact this
      simp only [Env.push, List.cons_append, List.nil_append, List.append_nil]
      have hq := ih x1e _ vars a c W2 hth1 hw1 hvl (hu1.ext y2) (hV.ext y2)
      rw [← hA] at hq
      refine den_call_q (fun _ _ => hq) ⟨A.1, A.2, rfl, fun W3 x3 => ?_⟩
      have y3 := ext_trans y2 x3
      simp only [Env.push, List.cons_append, List.nil_append, List.append_nil]
      refine den_br (fun c0 => den_ret fun _ _ _ => ⟨_, rfl, ?_⟩) fun c0 => ?_
      · have c0 : ¬ A.2 = 0 := by simpa [Sy.dens, Sy.den, E.i, E.b, E.t, gd, Env.push, List.cons_append, List.nil_append, List.append_nil, Int.toNat_natCast] using c0
        rw [Tx.typed, if_neg c1, if_neg c2, hargs]
        simp only [Tx.typeds, ← hA]; rw [if_neg c0]; rfl
      have c0 : A.2 = 0 := by simpa [Sy.dens, Sy.den, E.i, E.b, E.t, gd, Env.push, List.cons_append, List.nil_append, List.append_nil, Int.toNat_natCast] using c0
      have hkA := hkA c0
      refine den_br (fun c5 => ?_) fun c5 => ?_
      · have c5 : args.length = 2 := by
          simp only [Sy.dens, Sy.den, E.i, E.b, E.t, gd, Env.push, List.cons_append, List.nil_append, List.append_nil, Int.toNat_natCast, beq_iff_eq] at c5; omega
        obtain ⟨x2, hr⟩ : ∃ y, rest = [y] := by
          rw [hargs] at c5
          match rest, c5 with
          | [y], _ => exact ⟨y, rfl⟩
        subst hr
        have hgx2 : args[1]? = some x2 := by rw [hargs]; rfl
        have hmem2 : x2 ∈ args := by rw [hargs]; simp
        obtain ⟨us2, hu2', hg2⟩ := exs_get hE hgx2
        have hu2 : ExI W.all x2 us2 := hu2'
        obtain ⟨o2, k2, n2, t2, m2, al2, len2, cl2, rfl⟩ := hu2'.shape
        have hth2 := Px.thin_mem hth hmem2
        have hw2 := Tx.whole_all hwl hmem2
        obtain ⟨B, hB⟩ : ∃ B, B = Tx.typed vars x2 := ⟨_, rfl⟩
        have hkB := Tx.typed_kind (vars := vars) (e := x2)
        rw [← hB] at hkB
        have hl1 : ltB 1 ((args.length : Nat) : Int) = true := ltB_t (by omega)
        refine den_chk rfl (den_chk (by simp only [Sy.dens, Sy.den, E.i, E.b, E.t, gd, Env.push, List.cons_append, List.nil_append, List.append_nil, Int.toNat_natCast]; exact hl1) (den_look ⟨o2, k2, n2, len2, cl2, t2, m2, al2, fun V xV => ?_, ?_⟩))
        · have := sl_look_at (W := W.all) hS ex_agg ex_size rfl (by decide) hg2 (ext_trans y3 xV)
          simp only [Sy.dens, Sy.den, E.i, E.b, E.t, gd, Env.push, List.cons_append, List.nil_append, List.append_nil, Int.toNat_natCast] at this ⊢
          exact this
        simp only [Env.push, List.cons_append, List.nil_append, List.append_nil]
        have hq := ih x2 _ vars a c W3 hth2 hw2 hvl (hu2.ext y3) (hV.ext y3)
        rw [← hB] at hq
        refine den_call_q (fun _ _ => hq) ⟨B.1, B.2, rfl, fun W4 x4 => ?_⟩
        simp only [Env.push, List.cons_append, List.nil_append, List.append_nil]
        have hgo : Tx.typed vars (.mk op k nn t nm args) = if B.2 = 0 then Tx.sorted op [A.1, B.1] else (0, B.2) := by
          rw [Tx.typed, if_neg c1, if_neg c2, hargs]
          simp only [Tx.typeds, ← hA, ← hB]
          rw [if_pos c0]
          by_cases hb : B.2 = 0
          · rw [if_pos hb, if_pos hb]
          · rw [if_neg hb, if_neg hb]
        rw [hgo]
        refine den_br (fun d => den_ret fun _ _ _ => ⟨_, rfl, ?_⟩) fun d => ?_
        · have d : ¬ B.2 = 0 := by simpa [Sy.dens, Sy.den, E.i, E.b, E.t, gd, Env.push, List.cons_append, List.nil_append, List.append_nil, Int.toNat_natCast] using d
          rw [if_neg d]; rfl
        have d : B.2 = 0 := by simpa [Sy.dens, Sy.den, E.i, E.b, E.t, gd, Env.push, List.cons_append, List.nil_append, List.append_nil, Int.toNat_natCast] using d
        have hkB := hkB d
        rw [if_pos d]
        have h5 : 5 ≤ op ∧ op ≤ 15 := by rcases Tx.argN_cases hop c1 c2 with ⟨e, _⟩ | ⟨e, h⟩ <;> omega
        clear hq hgo hu2 hu2' hg2 hg hu hu1 hS hE hV ih hln hmy hN hwl hth hA hB
        obtain ⟨A1, A2⟩ := A
        obtain ⟨B1, B2⟩ := B
        dsimp only at hkA hkB ⊢
        have ho : op = 5 ∨ op = 6 ∨ op = 7 ∨ op = 8 ∨ op = 9 ∨ op = 10 ∨ op = 11 ∨ op = 12 ∨ op = 13 ∨ op = 14 ∨ op = 15 := by omega
        have hA3 : A1 = 1 ∨ A1 = 2 ∨ A1 = 3 := by omega
        have hB3 : B1 = 1 ∨ B1 = 2 ∨ B1 = 3 := by omega
        rcases ho with rfl | rfl | rfl | rfl | rfl | rfl | rfl | rfl | rfl | rfl | rfl
        all_goals (repeat (with_reducible refine den_br_f rfl ?_))
        all_goals (first | with_reducible refine den_br_t rfl ?_ | skip)
        all_goals (rcases hA3 with rfl | rfl | rfl <;> rcases hB3 with rfl | rfl | rfl)
        all_goals (first | (refine den_br_t rfl (den_ret fun _ _ _ => ⟨_, rfl, rfl⟩)) | (refine den_br_f rfl (den_ret fun _ _ _ => ⟨_, rfl, rfl⟩)))
      · have c5 : args.length = 1 := by
          have h : ¬ args.length = 2 := by simp only [Sy.dens, Sy.den, E.i, E.b, E.t, gd, Env.push, List.cons_append, List.nil_append, List.append_nil, Int.toNat_natCast, beq_eq_false_iff_ne, ne_eq] at c5; omega
          rcases Tx.argN_cases hop c1 c2 with ⟨e, _⟩ | ⟨e, _⟩ <;> omega
        have hr : rest = [] := by rw [hargs] at c5; simpa using c5
        have hgo : Tx.typed vars (.mk op k nn t nm args) = Tx.sorted op [A.1] := by
          rw [Tx.typed, if_neg c1, if_neg c2, hargs, hr]
          simp only [Tx.typeds, ← hA]
          rw [if_pos c0]
        rw [hgo]
        have h5 : op = 3 ∨ op = 4 ∨ op = 16 := by rcases Tx.argN_cases hop c1 c2 with ⟨e, h⟩ | ⟨e, h⟩ <;> omega
        clear hq hgo hg hu hu1 hS hE hV ih hln hmy hN hwl hth hA
        obtain ⟨A1, A2⟩ := A
        dsimp only at hkA ⊢
        have hA3 : A1 = 1 ∨ A1 = 2 ∨ A1 = 3 := by omega
        rcases h5 with rfl | rfl | rfl
        all_goals (repeat (with_reducible refine den_br_f rfl ?_))
        all_goals (first | with_reducible refine den_br_t rfl ?_ | skip)
        all_goals (rcases hA3 with rfl | rfl | rfl)
        all_goals (first | (refine den_br_t rfl (den_ret fun _ _ _ => ⟨_, rfl, rfl⟩)) | (refine den_br_f rfl (den_ret fun _ _ _ => ⟨_, rfl, rfl⟩)))
theorem xType_q (x : Px.Ex) (vs : List Value) (vars : List Tx.Var) (a : Option Addr) (c : Nat) (W : Wd) (hth : Px.thin x = true) (hvl : vars.length ≤ 1000000) (hx : ExI W x vs) (hV : VarsI W a c vars) :
    CallsQ Tryz.prog 9 #[.agg vs.toArray, .slice a vars.length c] W (tupV (Tx.type vars x)) := by
  obtain ⟨op, k, nn, t, nm, al, len, cl, rfl⟩ := hx.shape
  refine vc_xType op k nn len cl vars.length c t nm al a W.all _ ?_
  refine den_new fun m0 W1 _ x1 => ?_
  have x1 := ext_trans W.all_ext x1
  refine den_call_q (fun _ _ => xWhole_q x _ W1 hth (hx.ext x1)) ⟨Tx.whole 16 x, rfl, fun W2 x2 => den_br (fun c1 => den_ret fun _ _ _ => ⟨_, rfl, ?_⟩) fun c1 => ?_⟩
  · have c1 : Tx.whole 16 x = false := by simpa [Sy.dens, Sy.den, E.i, E.b, E.t, gd, Env.push, List.cons_append, List.nil_append, List.append_nil, Int.toNat_natCast] using c1
    unfold Tx.type; rw [c1]; rfl
  · have c1 : Tx.whole 16 x = true := by simpa [Sy.dens, Sy.den, E.i, E.b, E.t, gd, Env.push, List.cons_append, List.nil_append, List.append_nil, Int.toNat_natCast] using c1
    have x2 := ext_trans x1 x2
    refine den_call_q (fun _ _ => xtyped_ok 16 x _ vars a c W2 hth c1 hvl (hx.ext x2) (hV.ext x2)) ⟨(Tx.typed vars x).1, (Tx.typed vars x).2, rfl, fun _ _ => den_ret fun _ _ _ => ⟨_, rfl, ?_⟩⟩
    unfold Tx.type; rw [if_pos c1]; rfl
end Go.Proofs.YtijinopghlpdbaaGreatDoor

/- The laws of layer 12: the laid variables, in the terms of the walks. -/
namespace Go.Proofs.YtijinopghlpdbaaGreatDoor
open Go Go.RowKit Go.SF Go.Own Go.ChangeShapes
set_option linter.unusedVariables false
set_option linter.unusedSimpArgs false
def typedLaid : List (String × DataW Unit) := Rows.typedTellsRow.laid
theorem gSigns : Tryz.prog.globalNamed "callboard/lex.signs" = some 2 := by kernel_rfl
theorem gSorts : Tryz.prog.globalNamed "callboard/typed.sorts" = some 0 := by kernel_rfl
theorem gArgs : Tryz.prog.globalNamed "callboard/typed.args" = some 1 := by kernel_rfl
theorem glob_of {W : World} (h : laidMetH Tryz.prog typedLaid W) (sh : W.ShapedOpen Tryz.prog) : Glob (Wd.of W).all := by
  have h' : laidMet Tryz.prog typedLaid W := h
  have t4 := h'.tail.tail.tail.tail
  have eR := iface_of_head gR (t := 126) (by kernel_rfl) Tryz.underlying126 t4
  have eS := iface_of_head gS (t := 126) (by kernel_rfl) Tryz.underlying126 t4.tail
  have eG := strs_of_head (zs := Lx.signs) gSigns (by kernel_rfl) Tryz.underlying123 Tryz.underlying9 (by kernel_rfl) (by kernel_rfl) t4.tail.tail (by decide)
  obtain ⟨m, hm⟩ := Go.Proofs.cell_of_shapedOpen_int (g := 3) (zero := #[.int .i64 0]) (t := 3) sh (of_decide_eq_true (by kernel_rfl)) (by kernel_rfl) rfl (by kernel_rfl) (by kernel_rfl) Tryz.underlying3
  obtain ⟨ty, hty⟩ := eG
  obtain ⟨tpS, pS, hS⟩ := eS
  obtain ⟨tpR, pR, hR⟩ := eR
  exact ⟨⟨ty, hty⟩, (Array.getElem?_eq_some_iff.1 hty).1, ⟨tpS, pS, hS⟩, var_lt gS hS, ⟨tpR, pR, hR⟩, var_lt gR hR, ⟨m, hm⟩, cell_lt hm⟩
instance : Inhabited (Int × Int) := ⟨(0, 0)⟩
def sortD (s : Int × Int) : DataW Unit := .agg [.lit (.int .u8 s.1), .lit (.int .u8 s.2)]
theorem sortD_agg : Rows.laid_callboard_typed_sorts = DataW.agg (Tx.sortTab.map (slD sortD)) := by kernel_rfl
set_option maxRecDepth 100000 in
theorem sort_lit {enc : TypeId × Value → Unit} {W : World} {sp : Nat → Bool} {held : Bool} (n : Nat) (cs : List Value) (x : DataW Unit × List MemPlace) (y : Int × Int) (h : DataW.trod enc Tryz.prog W 0 sp held n 64 cs = some x) (hx : x.1 = sortD y) : cs = sortC y := by
  obtain ⟨xs, n, rfl, rfl, hl, hxl, hf⟩ := DataW.trod_struct Tryz.underlying64 h
  rw [show Tryz.prog.cellsOf 64 = 2 from by kernel_rfl] at hl
  have hxl : xs.length = 2 := hxl
  match cs, hl, xs, hxl with
  | [c0, c1], _, [x0, x1], _ =>
    have h0 : DataW.trod enc Tryz.prog W 0 sp held n 5 ((([c0, c1] : List Value).drop 0).take (Tryz.prog.cellsOf 5)) = some x0 := hf 0 _ rfl
    rw [c_u8] at h0
    have h0 : DataW.trod enc Tryz.prog W 0 sp held n 5 [c0] = some x0 := h0
    have h1 : DataW.trod enc Tryz.prog W 0 sp held n 5 ((([c0, c1] : List Value).drop 1).take (Tryz.prog.cellsOf 5)) = some x1 := hf 1 _ rfl
    rw [c_u8] at h1
    have h1 : DataW.trod enc Tryz.prog W 0 sp held n 5 [c1] = some x1 := h1
    obtain ⟨a, e0, d0, _⟩ := DataW.trod_int Tryz.underlying5 h0
    obtain ⟨b, e1, d1, _⟩ := DataW.trod_int Tryz.underlying5 h1
    obtain rfl : c0 = .int .u8 a := by injection e0
    obtain rfl : c1 = .int .u8 b := by injection e1
    rw [d0, d1] at hx
    simp only [sortD, List.map_cons, List.map_nil, DataW.agg.injEq, List.cons.injEq, DataW.lit.injEq, Lit.int.injEq, true_and, and_true] at hx
    rw [hx.1, hx.2]; rfl
set_option maxRecDepth 100000 in
theorem globT_of {W : World} (h : laidMetH Tryz.prog typedLaid W) : GlobT (Wd.of W).all := by
  have h' : laidMet Tryz.prog typedLaid W := h
  have t7 := h'.tail.tail.tail.tail.tail.tail.tail
  have t7' : laidMet Tryz.prog (("callboard/typed.sorts", DataW.agg (Tx.sortTab.map (slD sortD))) :: typedLaid.tail.tail.tail.tail.tail.tail.tail.tail) W := by rw [← sortD_agg]; exact t7
  obtain ⟨ty1, h1⟩ := ints_of_head (zs := Tx.argTab) (k := .i64) gArgs (t := 67) (by kernel_rfl) Tryz.underlying67 Tryz.underlying3 (by kernel_rfl) (by kernel_rfl) t7.tail (by decide)
  refine And.elim (fun x y => (⟨⟨ty1, h1⟩, (Array.getElem?_eq_some_iff.1 h1).1, x, y⟩ : GlobT (Wd.of W).all)) ?_
  obtain ⟨ps, ⟨g', t', cs, fuel, p, q, hg', ht', hvar, hd, _, _⟩, _⟩ := id t7'
  obtain rfl := Option.some.inj (gSorts.symm.trans hg')
  obtain rfl : 62 = t' := Option.some.inj ((show (Tryz.prog.globals[0]?).map (·.type) = some 62 by kernel_rfl).symm.trans ht')
  obtain ⟨k1, k2, k3⟩ := cells_of_arr Tryz.underlying62 (by kernel_rfl) (by kernel_rfl) hd
  have sl : ∀ i, i < 17 → ∃ (s : Option Addr × Nat), cs.toList[i]? = some (.slice s.1 (Tx.sortTab.getD i []).length s.2) ∧ SlW W s.1 (Tx.sortTab.getD i []).length s.2 2 ((Tx.sortTab.getD i []).flatMap sortC) := fun i hi => by
    obtain ⟨v, x, m, hv, hx, ht⟩ := k3 i hi
    have hi' : i < Tx.sortTab.length := hi
    rw [List.getElem?_map, List.getElem?_eq_getElem hi', Option.map_some] at hx
    have hx := (Option.some.inj hx).symm
    rw [show Tx.sortTab[i] = Tx.sortTab.getD i [] from by rw [List.getD_eq_getElem?_getD, List.getElem?_eq_getElem hi']; rfl] at hx
    obtain ⟨a, c, rfl, hs⟩ := slice_lit (f := sortC) (g := sortD) (sz := 2) (fun _ => rfl) (by decide) Tryz.underlying61 (by kernel_rfl) sort_lit ht hx
    exact ⟨(a, c), hv, hs⟩
  obtain ⟨X, hX⟩ := Go.Deep.choose_lt sl
  have hlt : 0 < W.heap.size := var_lt gSorts hvar
  obtain ⟨ty, hb⟩ := laid_block gSorts t7' hvar (by rw [← Array.length_toList, k1]; decide)
  have gx : ∀ i, i < 17 → ((List.range 17).map X).getD i (none, 0) = X i := fun i hi => by
    rw [List.getD_eq_getElem?_getD, List.getElem?_map, List.getElem?_range hi]; rfl
  refine ⟨⟨(List.range 17).map X, ty, by simp, ?_, fun i hi => ?_⟩, hlt⟩
  · have e : cs = ((List.range 17).map fun i => Value.slice (((List.range 17).map X).getD i (none, 0)).1 (Tx.sortTab.getD i []).length (((List.range 17).map X).getD i (none, 0)).2).toArray := by
      apply Array.ext'
      apply List.ext_getElem?
      intro i
      by_cases hi : i < 17
      · rw [(hX i hi).1, List.getElem?_map, List.getElem?_range hi, Option.map_some, gx i hi]
      · rw [List.getElem?_eq_none (by rw [k1]; omega), List.getElem?_eq_none (by simp; omega)]
    rw [← e]; exact hb
  · rw [gx i hi]; exact (hX i hi).2.all
end Go.Proofs.YtijinopghlpdbaaGreatDoor

/- TypedTells: the walk. -/
namespace Go.Proofs.YtijinopghlpdbaaGreatDoor
open Go Go.RowKit Go.SF
set_option linter.unusedSimpArgs false
set_option linter.unusedVariables false
def kCheck (s : Lx.Bs) (vars : List Tx.Var) (kind : Int) : Int := if (Px.parse s).2 = 0 then (if (Tx.type vars (Px.parse s).1).2 = 0 ∧ ¬ (Tx.type vars (Px.parse s).1).1 = kind then 23 else (Tx.type vars (Px.parse s).1).2) else (Px.parse s).2
theorem ktCheck_q (t : ByteArray) (vars : List Tx.Var) (a : Option Addr) (c : Nat) (kind : Int) (W : Wd) (hvl : vars.length ≤ 1000000) (hV : VarsI W a c vars) (hG : Glob W) (hT : GlobT W) :
    CallsQ Tryz.prog 12 #[.string t, .slice a vars.length c, .int .u8 kind] W (.int .i64 (kCheck t.data.toList vars kind)) := by
  have hG := hG.ext W.all_ext
  have hT := hT.ext W.all_ext
  have hV := hV.all
  obtain ⟨hth, _⟩ := parse_fine t.data.toList
  refine vc_ktCheck kind vars.length c t a W.all _ ?_
  refine den_call_i (fun _ _ => parse_i' t W.all hG) fun v w' _ ⟨op, k, n, tt, nm, al, len, cl, hv, hX⟩ => ⟨op, k, n, (Px.parse t.data.toList).2, len, cl, tt, nm, al, hv, fun W1 e1 y1 n1 => ?_⟩
  have hX1 : ExI W1 (Px.parse t.data.toList).1 _ := (ExAt.stay hX e1 n1 (Nat.le_refl _)).i
  simp only [Env.push, List.cons_append, List.nil_append, List.append_nil]
  refine den_new fun m2 W2 _ x2 => den_wr fun W3 x3 => den_br (fun c0 => den_ret fun _ _ _ => ⟨_, rfl, ?_⟩) fun c0 => ?_
  · have c0 : ¬ (Px.parse t.data.toList).2 = 0 := by simpa [Sy.dens, Sy.den, E.i, E.b, E.t, gd, Env.push, List.cons_append, List.nil_append, List.append_nil, Int.toNat_natCast] using c0
    unfold kCheck; rw [if_neg c0]; rfl
  have c0 : (Px.parse t.data.toList).2 = 0 := by simpa [Sy.dens, Sy.den, E.i, E.b, E.t, gd, Env.push, List.cons_append, List.nil_append, List.append_nil, Int.toNat_natCast] using c0
  have y3 := ext_trans y1 (ext_trans x2 x3)
  refine den_call_q (fun _ _ => tType_q _ _ vars a c W3 hth hvl (hX1.ext (ext_trans x2 x3)) (hV.ext y3) (hT.ext y3)) ⟨(Tx.type vars (Px.parse t.data.toList).1).1, (Tx.type vars (Px.parse t.data.toList).1).2, rfl, fun W4 x4 => den_br (fun c1 => den_ret fun _ _ _ => ⟨_, rfl, ?_⟩) fun c1 => den_ret fun _ _ _ => ⟨_, rfl, ?_⟩⟩
  · have c1 : (Tx.type vars (Px.parse t.data.toList).1).2 = 0 ∧ ¬ (Tx.type vars (Px.parse t.data.toList).1).1 = kind := by simpa [Sy.dens, Sy.den, E.i, E.b, E.t, gd, Env.push, List.cons_append, List.nil_append, List.append_nil, Int.toNat_natCast] using c1
    unfold kCheck; rw [if_pos c0, if_pos c1]; rfl
  · have c1 : ¬ ((Tx.type vars (Px.parse t.data.toList).1).2 = 0 ∧ ¬ (Tx.type vars (Px.parse t.data.toList).1).1 = kind) := by
      intro h
      simp [Sy.dens, Sy.den, E.i, E.b, E.t, gd, Env.push, List.cons_append, List.nil_append, List.append_nil, Int.toNat_natCast, h.1, h.2] at c1
    unfold kCheck; rw [if_pos c0, if_neg c1]; rfl
theorem kxCheck_q (t : ByteArray) (ht : t.size ≤ 1000000) (vars : List Tx.Var) (a : Option Addr) (c : Nat) (kind : Int) (W : Wd) (hvl : vars.length ≤ 1000000) (hV : VarsI W a c vars) :
    CallsQ Tryz.prog 13 #[.string t, .slice a vars.length c, .int .u8 kind] W (.int .i64 (kCheck t.data.toList vars kind)) := by
  have hV := hV.all
  obtain ⟨hth, _⟩ := parse_fine t.data.toList
  refine vc_kxCheck kind vars.length c t a W.all _ ?_
  refine den_call_i (fun _ _ => xparse_i t W.all ht) fun v w' _ ⟨op, k, n, tt, nm, al, len, cl, hv, hX⟩ => ⟨op, k, n, (Px.parse t.data.toList).2, len, cl, tt, nm, al, hv, fun W1 e1 y1 n1 => ?_⟩
  have hX1 : ExI W1 (Px.parse t.data.toList).1 _ := (ExAt.stay hX e1 n1 (Nat.le_refl _)).i
  simp only [Env.push, List.cons_append, List.nil_append, List.append_nil]
  refine den_new fun m2 W2 _ x2 => den_wr fun W3 x3 => den_br (fun c0 => den_ret fun _ _ _ => ⟨_, rfl, ?_⟩) fun c0 => ?_
  · have c0 : ¬ (Px.parse t.data.toList).2 = 0 := by simpa [Sy.dens, Sy.den, E.i, E.b, E.t, gd, Env.push, List.cons_append, List.nil_append, List.append_nil, Int.toNat_natCast] using c0
    unfold kCheck; rw [if_neg c0]; rfl
  have c0 : (Px.parse t.data.toList).2 = 0 := by simpa [Sy.dens, Sy.den, E.i, E.b, E.t, gd, Env.push, List.cons_append, List.nil_append, List.append_nil, Int.toNat_natCast] using c0
  have y3 := ext_trans y1 (ext_trans x2 x3)
  refine den_call_q (fun _ _ => xType_q _ _ vars a c W3 hth hvl (hX1.ext (ext_trans x2 x3)) (hV.ext y3)) ⟨(Tx.type vars (Px.parse t.data.toList).1).1, (Tx.type vars (Px.parse t.data.toList).1).2, rfl, fun W4 x4 => den_br (fun c1 => den_ret fun _ _ _ => ⟨_, rfl, ?_⟩) fun c1 => den_ret fun _ _ _ => ⟨_, rfl, ?_⟩⟩
  · have c1 : (Tx.type vars (Px.parse t.data.toList).1).2 = 0 ∧ ¬ (Tx.type vars (Px.parse t.data.toList).1).1 = kind := by simpa [Sy.dens, Sy.den, E.i, E.b, E.t, gd, Env.push, List.cons_append, List.nil_append, List.append_nil, Int.toNat_natCast] using c1
    unfold kCheck; rw [if_pos c0, if_pos c1]; rfl
  · have c1 : ¬ ((Tx.type vars (Px.parse t.data.toList).1).2 = 0 ∧ ¬ (Tx.type vars (Px.parse t.data.toList).1).1 = kind) := by
      intro h
      simp [Sy.dens, Sy.den, E.i, E.b, E.t, gd, Env.push, List.cons_append, List.nil_append, List.append_nil, Int.toNat_natCast, h.1, h.2] at c1
    unfold kCheck; rw [if_pos c0, if_neg c1]; rfl
theorem tells_q (x : Px.Ex) (vs : List Value) (vars : List Tx.Var) (a : Option Addr) (c : Nat) (s : ByteArray) (kind : Int) (W : Wd) (hwx : Tx.wide x = true) (hx : ExI W x vs) (hV : VarsI W a c vars) (hG : Glob W) (hT : GlobT W) :
    CallsQ Tryz.prog 3 #[.agg vs.toArray, .slice a vars.length c, .string s, .int .u8 kind] W (.bool true) := by
  have hx := hx.ext W.all_ext
  have hG := hG.ext W.all_ext
  have hT := hT.ext W.all_ext
  have hV := hV.all
  obtain ⟨op, k, nn, t, nm, al, len, cl, rfl⟩ := hx.shape
  refine vc_ltells op k nn kind len cl vars.length c t nm s al a W.all _ ?_
  refine den_new fun m0 W1 _ x1 => ?_
  refine den_call_q (fun _ _ => large_q x _ vars a c W1 hwx (hx.ext x1)) ⟨Tx.large x vars, rfl, fun W2 x2 => ?_⟩
  have y2 := ext_trans x1 x2
  refine den_br (fun c1 => den_call_q (fun _ _ => awake_q W2 (hG.ext y2) (hT.ext y2)) ⟨true, rfl, fun _ _ => den_ret fun _ _ _ => ⟨_, rfl, rfl⟩⟩) fun c1 => ?_
  have c1 : Tx.large x vars = false ∧ s.size ≤ 500 := by
    simp only [Sy.dens, Sy.den, E.i, E.b, E.t, gd, Env.push, List.cons_append, List.nil_append, List.append_nil, Int.toNat_natCast, Bool.or_eq_false_iff, ltB_false] at c1
    exact ⟨c1.1, by omega⟩
  obtain ⟨c1, hsz⟩ := c1
  simp only [Tx.large, Bool.or_eq_false_iff, decide_eq_false_iff_not] at c1
  have hth := (Tx.thin_of 41 x c1.1 hwx).1
  refine den_call_q (fun _ _ => tType_q x _ vars a c W2 hth (by omega) (hx.ext y2) (hV.ext y2) (hT.ext y2)) ⟨(Tx.type vars x).1, (Tx.type vars x).2, rfl, fun W3 x3 => ?_⟩
  have y3 := ext_trans y2 x3
  simp only [Env.push, List.cons_append, List.nil_append, List.append_nil]
  refine den_call_q (fun _ _ => xType_q x _ vars a c W3 hth (by omega) (hx.ext y3) (hV.ext y3)) ⟨(Tx.type vars x).1, (Tx.type vars x).2, rfl, fun W4 x4 => ?_⟩
  have y4 := ext_trans y3 x4
  simp only [Env.push, List.cons_append, List.nil_append, List.append_nil]
  have h1 : ∀ V, Ext W4 V → _ := fun V xV => tWhole_q x _ V hth (hx.ext (ext_trans y4 xV)) (hT.ext (ext_trans y4 xV))
  have h2 : ∀ V, Ext W4 V → _ := fun V xV => xWhole_q x _ V hth (hx.ext (ext_trans y4 xV))
  have h3 : ∀ V, Ext W4 V → _ := fun V xV => ktCheck_q s vars a c kind V (by omega) (hV.ext (ext_trans y4 xV)) (hG.ext (ext_trans y4 xV)) (hT.ext (ext_trans y4 xV))
  have h4 : ∀ V, Ext W4 V → _ := fun V xV => kxCheck_q s (by omega) vars a c kind V (by omega) (hV.ext (ext_trans y4 xV))
  refine den_callq ⟨Tx.whole 16 x, fun V xV _ _ => h1 V xV, den_callq ⟨Tx.whole 16 x, fun V xV _ _ => h2 V xV, den_br_t (by simp [Sy.dens, Sy.den, E.i, E.b, E.t, gd, Env.push, List.cons_append, List.nil_append, List.append_nil, Int.toNat_natCast]) ?_⟩⟩
  refine den_callq ⟨kCheck s.data.toList vars kind, fun V xV _ _ => h3 V xV, den_callq ⟨kCheck s.data.toList vars kind, fun V xV _ _ => h4 V xV, den_br_t (by simp [Sy.dens, Sy.den, E.i, E.b, E.t, gd, Env.push, List.cons_append, List.nil_append, List.append_nil, Int.toNat_natCast]) ?_⟩⟩
  exact den_callq ⟨true, fun V xV _ _ => awake_q V (hG.ext (ext_trans y4 xV)) (hT.ext (ext_trans y4 xV)), den_grow fun _ _ => den_ret fun _ _ _ => ⟨_, rfl, rfl⟩⟩
end Go.Proofs.YtijinopghlpdbaaGreatDoor

/- TypedTells: the walk, in the terms of the law's frame. -/
namespace Go.Proofs.YtijinopghlpdbaaGreatDoor
open Go Go.RowKit Go.SF Go.Own
set_option linter.unusedVariables false
mutual
theorem exAll {w : World} : ∀ {e : Px.Ex} {vs : List Value}, ExAt w (fun _ => True) e vs → ExAt w (fun b => b < w.heap.size) e vs
  | .mk op k n t nm args, vs, h => by
    simp only [ExAt] at h ⊢
    obtain ⟨a, c, ls, h1, h2, h3⟩ := h
    refine ⟨a, c, ls, h1, ?_, exsAll h3⟩
    obtain ⟨k1, k2, k3⟩ := h2
    refine ⟨k1, k2, k3.imp id ?_⟩
    rintro ⟨b, o, e1, _, hb, hc⟩
    exact ⟨b, o, e1, hb, hb, hc⟩
theorem exsAll {w : World} : ∀ {l : List Px.Ex} {ls : List Value}, ExsAt w (fun _ => True) l ls → ExsAt w (fun b => b < w.heap.size) l ls
  | [], ls, h => by simp only [ExsAt] at h ⊢; exact h
  | e :: l, ls, h => by
    simp only [ExsAt] at h ⊢
    obtain ⟨x, m, h1, h2, h3⟩ := h
    exact ⟨x, m, h1, exAll h2, exsAll h3⟩
end
theorem exi_of {W : World} {e : Px.Ex} {vs : List Value} (h : ExAt W (fun _ => True) e vs) : ExI (Wd.of W).all e vs := exAll h
theorem typedTells_walk (vs : List Value) (x : Px.Ex) (a : Option Addr) (c : Nat) (l : List Tx.Var) (s : ByteArray) (kind : Int) (W : World) (hx : ExAt W (fun _ => True) x vs) (hw : Tx.wide x = true) (hV : SlW W a l.length c 4 (l.flatMap varC)) (_ : s.size ≤ 140737488351232) (_ : (Lit.int .u8 kind).wf = true) (hL : laidMetH Tryz.prog typedLaid W) (sh : W.ShapedOpen Tryz.prog) :
    Calls Tryz.prog 3 #[.agg vs.toArray, .slice a l.length c, .string s, .int .u8 kind] W fun e w' => e = .returned (.bool true) ∧ Up W w' :=
  (tells_q x vs l a c s kind (Wd.of W).all hw (exi_of hx) (SlW.all (W := Wd.of W) hV) (glob_of hL sh) (globT_of hL)).out
end Go.Proofs.YtijinopghlpdbaaGreatDoor
