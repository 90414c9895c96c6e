/- The statements' own small functions: the walks. -/
import Derived.Test.YtamnfdmmjjekhaaVrPut
import Derived.Test.YtamnfdmmjjekhaaVcVars3
namespace Vr
open Go
def num (n : Int) : Val := ⟨1, n, []⟩
def one (nm : Bs) (n : Int) : List Va := [⟨nm, num n⟩]
def large (S : StV) : Bool := ((decide ((120 : Int) < S.i.n) || decide ((120 : Int) < S.c.n)) || decide ((200 : Int) < S.h.n)) || decide ((12 : Int) < S.d.n)
def sees (its : List It) (cs : List Ce) (sc : Int) (nm : Bs) (wh n : Int) : Bool :=
  if wh < 0 then (seen its cs sc nm).isNone else decide (seen its cs sc nm = some ⟨wh, nm, num n⟩)
def towerL : List It := [⟨1, 0, 1, [], -1, 0, 0, []⟩, ⟨2, 1, 2, [], 1, 0, 0, []⟩, ⟨3, 2, 1, [], 1, 0, 0, []⟩, ⟨4, 3, 2, [], 2, 0, 0, []⟩, ⟨5, 4, 1, [], -1, 0, 0, []⟩, ⟨6, 3, 1, [], 4, 0, 0, []⟩]
end Vr
namespace Go.Proofs.Ytamnfdmmjjekhaa
open Go Go.RowKit Go.SF
set_option linter.unusedSimpArgs false
set_option linter.unusedVariables false
theorem large_q (S : Vr.StV) (W : Wd) : CallsQ Try.prog 10 #[S.val] W (.bool (Vr.large S)) := by
  refine vc_large S.ck S.nx S.d.n S.d.c S.i.n S.i.c S.c.n S.c.c S.h.n S.h.c S.d.a S.i.a S.c.a S.h.a W.all _ ?_
  refine den_new fun m W1 _ x1 => den_ret fun _ _ _ => ⟨_, rfl, ?_⟩
  simp [Sy.dens, Sy.den, E.i, E.b, E.t, gd, Env.push, List.cons_append, List.nil_append, List.append_nil, Int.toNat_natCast, Vr.large, ltB, Sy.den, E.b, E.i, gd, Env.push]
theorem in_q (v : Int) (l : List Int) (hl : l.length ≤ 1000000) (ad : Option Addr) (n c : Nat) (W : Wd) (hS : SlW W.w ad n c 1 (l.map (Value.int .i64))) : CallsQ Try.prog 14 #[.slice ad n c, .int .i64 v] W (.bool (l.any fun x => x == v)) := by
  have hS := hS.all
  have hn : l.length = n := by have := hS.1; simpa using this
  refine vc_in v n c ad W.all _ ?_
  refine den_loop (fun k vs ls _ => ∃ i : Nat, vs = [.int .i64 (i : Int)] ∧ ls = [] ∧ i ≤ l.length ∧ (l.any fun x => x == v) = ((l.drop i).any fun x => x == v) ∧ k = l.length - i) l.length ⟨0, rfl, rfl, Nat.zero_le _, by simp, rfl⟩ ?_
  rintro k vs ls W1 x1 ⟨i, rfl, rfl, hi, hb, rfl⟩
  refine ⟨(i : Int), rfl, rfl, fun _ => ?_⟩
  simp only [Env.push, List.cons_append, List.nil_append, List.append_nil]
  refine den_br (fun c1 => ?_) fun c1 => ?_
  · simp only [Sy.dens, Sy.den, E.i, E.b, E.t, gd, Env.push, List.cons_append, List.nil_append, List.append_nil, Int.toNat_natCast, ltB_true] at c1
    have hil : i < l.length := by omega
    have hx : l[i]? = some l[i] := List.getElem?_eq_getElem hil
    have hds : l.drop i = l[i] :: l.drop (i + 1) := List.drop_eq_getElem_cons hil
    generalize l[i] = x at hx hds
    rw [hds, List.any_cons] at hb
    refine den_chk (by simp only [E.b, gd]; exact hS.some_of (by omega)) (den_chk (chk_le (by simp only [Sy.dens, Sy.den, E.i, E.b, E.t, gd, Env.push, List.cons_append, List.nil_append, List.append_nil, Int.toNat_natCast]; omega)) (den_look ⟨x, fun W' xW => ?_, ?_⟩))
    · refine look_one (by kernel_rfl) ?_
      obtain ⟨_, _, ⟨_, z, _⟩ | ⟨bb, o, rfl, hI, hbb, hc⟩⟩ := hS.ext (ext_trans x1 xW)
      · omega
      · simp only [Sy.dens, Sy.den, E.i, E.b, E.t, gd, Env.push, List.cons_append, List.nil_append, List.append_nil, Int.toNat_natCast, Option.getD_some, Nat.mul_one, Nat.add_zero]
        rw [add_none]; exact hc i _ (by simp [hx])
    simp only [Env.push, List.cons_append, List.nil_append, List.append_nil]
    refine den_br (fun c2 => ?_) fun c2 => ?_
    · have c2 : x = v := by simpa [Sy.dens, Sy.den, E.i, E.b, E.t, gd, Env.push, List.cons_append, List.nil_append, List.append_nil, Int.toNat_natCast] using c2
      refine den_ret fun _ _ _ => ⟨_, rfl, ?_⟩
      rw [hb]; simp [c2, Sy.den, E.b]
    · have c4 : ¬ x = v := by simpa [Sy.dens, Sy.den, E.i, E.b, E.t, gd, Env.push, List.cons_append, List.nil_append, List.append_nil, Int.toNat_natCast] using c2
      refine den_again ⟨l.length - (i + 1), by omega, i + 1, ?_, rfl, by omega, by rw [hb]; simp [c4], rfl⟩
      simp only [Sy.dens, Sy.den, E.i, E.b, E.t, gd, Env.push, List.cons_append, List.nil_append, List.append_nil, Int.toNat_natCast]; rw [w64i (by omega) (by omega)]; rfl
  · simp only [Sy.dens, Sy.den, E.i, E.b, E.t, gd, Env.push, List.cons_append, List.nil_append, List.append_nil, Int.toNat_natCast, ltB_false] at c1
    refine den_ret fun _ _ _ => ⟨_, rfl, ?_⟩
    rw [hb, List.drop_eq_nil_of_le (by omega)]; rfl
theorem ints_q (l k : List Int) (hl : l.length ≤ 1000000) (ad bd : Option Addr) (n c n' c' : Nat) (W : Wd) (hS : SlW W.w ad n c 1 (l.map (Value.int .i64))) (hK : SlW W.w bd n' c' 1 (k.map (Value.int .i64))) : CallsQ Try.prog 15 #[.slice ad n c, .slice bd n' c'] W (.bool (decide (l = k))) := by
  have hS := hS.all
  have hK := hK.all
  have hn : l.length = n := by have := hS.1; simpa using this
  have hn' : k.length = n' := by have := hK.1; simpa using this
  refine vc_ints n c n' c' ad bd W.all _ ?_
  refine den_br (fun c0 => ?_) fun c0 => ?_
  · have c0 : ¬ (n : Int) = n' := by simpa [Sy.dens, Sy.den, E.i, E.b, E.t, gd, Env.push, List.cons_append, List.nil_append, List.append_nil, Int.toNat_natCast] using c0
    refine den_ret fun _ _ _ => ⟨_, rfl, ?_⟩
    rw [decide_eq_false (fun e => c0 (by rw [← hn, ← hn', e]))]; rfl
  have c0 : (n : Int) = n' := by simpa [Sy.dens, Sy.den, E.i, E.b, E.t, gd, Env.push, List.cons_append, List.nil_append, List.append_nil, Int.toNat_natCast] using c0
  refine den_loop (fun g vs ls _ => ∃ i : Nat, vs = [.int .i64 (i : Int)] ∧ ls = [] ∧ i ≤ l.length ∧ (decide (l = k)) = (decide (l.drop i = k.drop i)) ∧ g = l.length - i) l.length ⟨0, rfl, rfl, Nat.zero_le _, by simp, rfl⟩ ?_
  rintro g vs ls W1 x1 ⟨i, rfl, rfl, hi, hb, rfl⟩
  refine ⟨(i : Int), rfl, rfl, fun _ => ?_⟩
  simp only [Env.push, List.cons_append, List.nil_append, List.append_nil]
  refine den_br (fun c1 => ?_) fun c1 => ?_
  · simp only [Sy.dens, Sy.den, E.i, E.b, E.t, gd, Env.push, List.cons_append, List.nil_append, List.append_nil, Int.toNat_natCast, ltB_true] at c1
    have hil : i < l.length := by omega
    have hik : i < k.length := by omega
    have hx : l[i]? = some l[i] := List.getElem?_eq_getElem hil
    have hds : l.drop i = l[i] :: l.drop (i + 1) := List.drop_eq_getElem_cons hil
    have hy : k[i]? = some k[i] := List.getElem?_eq_getElem hik
    have hdk : k.drop i = k[i] :: k.drop (i + 1) := List.drop_eq_getElem_cons hik
    generalize l[i] = x at hx hds
    generalize k[i] = y at hy hdk
    rw [hds, hdk] at hb
    refine den_chk (by simp only [E.b, gd]; exact hS.some_of (by omega)) (den_chk (chk_le (by simp only [Sy.dens, Sy.den, E.i, E.b, E.t, gd, Env.push, List.cons_append, List.nil_append, List.append_nil, Int.toNat_natCast]; omega)) (den_look ⟨x, fun W' xW => ?_, ?_⟩))
    · refine look_one (by kernel_rfl) ?_
      obtain ⟨_, _, ⟨_, z, _⟩ | ⟨bb, o, rfl, hI, hbb, hc⟩⟩ := hS.ext (ext_trans x1 xW)
      · omega
      · simp only [Sy.dens, Sy.den, E.i, E.b, E.t, gd, Env.push, List.cons_append, List.nil_append, List.append_nil, Int.toNat_natCast, Option.getD_some, Nat.mul_one, Nat.add_zero]
        rw [add_none]; exact hc i _ (by simp [hx])
    simp only [Env.push, List.cons_append, List.nil_append, List.append_nil]
    refine den_chk (by simp only [E.b, gd]; exact hK.some_of (by omega)) (den_chk (chk_lt (by simp only [Sy.dens, Sy.den, E.i, E.b, E.t, gd, Env.push, List.cons_append, List.nil_append, List.append_nil, Int.toNat_natCast]; omega)) (den_look ⟨y, fun W' xW => ?_, ?_⟩))
    · refine look_one (by kernel_rfl) ?_
      obtain ⟨_, _, ⟨_, z, _⟩ | ⟨bb, o, rfl, hI, hbb, hc⟩⟩ := hK.ext (ext_trans x1 xW)
      · omega
      · simp only [Sy.dens, Sy.den, E.i, E.b, E.t, gd, Env.push, List.cons_append, List.nil_append, List.append_nil, Int.toNat_natCast, Option.getD_some, Nat.mul_one, Nat.add_zero]
        rw [add_none]; exact hc i _ (by simp [hy])
    simp only [Env.push, List.cons_append, List.nil_append, List.append_nil]
    refine den_grow fun W2 x2 => den_br (fun c2 => ?_) fun c2 => ?_
    · have c2 : ¬ x = y := by simpa [Sy.dens, Sy.den, E.i, E.b, E.t, gd, Env.push, List.cons_append, List.nil_append, List.append_nil, Int.toNat_natCast] using c2
      refine den_ret fun _ _ _ => ⟨_, rfl, ?_⟩
      rw [hb]; simp [c2, Sy.den, E.b]
    · have c2 : x = y := by simpa [Sy.dens, Sy.den, E.i, E.b, E.t, gd, Env.push, List.cons_append, List.nil_append, List.append_nil, Int.toNat_natCast] using c2
      refine den_again ⟨l.length - (i + 1), by omega, i + 1, ?_, rfl, by omega, by rw [hb]; simp [c2], rfl⟩
      simp only [Sy.dens, Sy.den, E.i, E.b, E.t, gd, Env.push, List.cons_append, List.nil_append, List.append_nil, Int.toNat_natCast]; rw [w64i (by omega) (by omega)]; rfl
  · simp only [Sy.dens, Sy.den, E.i, E.b, E.t, gd, Env.push, List.cons_append, List.nil_append, List.append_nil, Int.toNat_natCast, ltB_false] at c1
    refine den_ret fun _ _ _ => ⟨_, rfl, ?_⟩
    rw [hb, List.drop_eq_nil_of_le (by omega), List.drop_eq_nil_of_le (by omega)]; rfl
theorem sees_q (S : Vr.StV) (its : List Vr.It) (hl : its.length ≤ 1000000) (hups : ∀ x ∈ its, (Lit.int .i64 x.up).wf = true) (cs : List Vr.Ce) (hcl : cs.length ≤ 1000000) (sc : Int) (hsc : (Lit.int .i64 sc).wf = true) (nm : Vr.Bs) (wh n : Int) (W : Wd)
    (hS : SlW W.w S.i.a S.i.n S.i.c 8 (its.flatMap Vr.It.enc)) (hC : SlW W.w S.c.a S.c.n S.c.c 5 (cs.flatMap Vr.Ce.enc)) :
    CallsQ Try.prog 24 #[S.val, .int .i64 sc, .string ⟨nm.toArray⟩, .int .i64 wh, .int .i64 n] W (.bool (Vr.sees its cs sc nm wh n)) := by
  have hS := hS.all
  have hC := hC.all
  refine vc_sees S.ck S.nx sc wh n S.d.n S.d.c S.i.n S.i.c S.c.n S.c.c S.h.n S.h.c ⟨nm.toArray⟩ S.d.a S.i.a S.c.a S.h.a W.all _ ?_
  refine den_new fun m W1 _ x1 => ?_
  simp only [Env.push, List.cons_append, List.nil_append, List.append_nil]
  refine den_call_q (fun _ _ => seen_q S its hl hups cs hcl sc hsc nm W1 (SlAt.w (hS.ext x1)) (SlAt.w (hC.ext x1))) ?_
  generalize hx : Vr.seen its cs sc nm = s
  unfold Vr.sees
  rw [hx]
  refine ⟨(s.getD Vr.Ce.zero).sc, (s.getD Vr.Ce.zero).v.k, (s.getD Vr.Ce.zero).v.n, s.isSome, ⟨(s.getD Vr.Ce.zero).nm.toArray⟩, ⟨(s.getD Vr.Ce.zero).v.t.toArray⟩, rfl, fun W3 x3 => ?_⟩
  simp only [Env.push, List.cons_append, List.nil_append, List.append_nil]
  refine den_new fun m1 W4 _ x4 => den_wr fun W5 x5 => den_br (fun c1 => ?_) fun c1 => ?_
  · simp only [Sy.dens, Sy.den, E.i, E.b, E.t, gd, Env.push, List.cons_append, List.nil_append, List.append_nil, Int.toNat_natCast, ltB_true] at c1
    refine den_ret fun _ _ _ => ⟨_, rfl, ?_⟩
    rw [if_pos c1]
    cases s with
    | none => rfl
    | some x => simp [Sy.dens, Sy.den, E.i, E.b, E.t, gd, Env.push, List.cons_append, List.nil_append, List.append_nil, Int.toNat_natCast, Sy.den, E.b]
  · simp only [Sy.dens, Sy.den, E.i, E.b, E.t, gd, Env.push, List.cons_append, List.nil_append, List.append_nil, Int.toNat_natCast, ltB_false] at c1
    rw [if_neg (by omega)]
    refine den_br (fun c2 => ?_) fun c2 => ?_
    · refine den_grow fun W6 x6 => den_ret fun _ _ _ => ⟨_, rfl, ?_⟩
      cases s with
      | none => simp [Sy.dens, Sy.den, E.i, E.b, E.t, gd, Env.push, List.cons_append, List.nil_append, List.append_nil, Int.toNat_natCast] at c2
      | some x =>
        obtain ⟨s1, nm1, k1, n1, t1⟩ := x
        simp only [Sy.dens, Sy.den, E.i, E.b, E.t, gd, Env.push, List.cons_append, List.nil_append, List.append_nil, Int.toNat_natCast, Sy.den, E.b, Option.getD_some, Vr.num, Option.some.injEq, Vr.Ce.mk.injEq, Vr.Val.mk.injEq]
        congr 1
        rw [Bool.eq_iff_iff]
        simp
    · refine den_grow fun W6 x6 => den_ret fun _ _ _ => ⟨_, rfl, ?_⟩
      cases s with
      | none => rfl
      | some x => simp [Sy.dens, Sy.den, E.i, E.b, E.t, gd, Env.push, List.cons_append, List.nil_append, List.append_nil, Int.toNat_natCast] at c2
end Go.Proofs.Ytamnfdmmjjekhaa
