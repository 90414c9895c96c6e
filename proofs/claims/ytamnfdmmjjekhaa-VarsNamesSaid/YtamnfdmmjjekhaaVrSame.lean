/- States that are the same: the walks of the document's comparison, at what is the same. -/
import Derived.Test.YtamnfdmmjjekhaaVrLaw
import Derived.Test.YtamnfdmmjjekhaaVcVars6
namespace Vr
open Go
structure Nd where
  nm : Bs
  k : Int
  i : Int
  o : Int
  e : Int
  key : Bs
  txt : Bs
  set : Bs
  br : Bool
  vs : Sl
  bk : Sl
def Nd.enc (x : Nd) : List Value := [.string ⟨x.nm.toArray⟩, .int .u8 x.k, .int .i64 x.i, .int .i64 x.o, .int .u8 x.e, .string ⟨x.key.toArray⟩, .string ⟨x.txt.toArray⟩, .string ⟨x.set.toArray⟩, .bool x.br, x.vs.val, x.bk.val]
theorem Nd.enc_len (x : Nd) : x.enc.length = 11 := rfl
structure Fl where
  f : Int
  t : Int
  c : Bs
  e : Bool
def Fl.enc (x : Fl) : List Value := [.int .i64 x.f, .int .i64 x.t, .string ⟨x.c.toArray⟩, .bool x.e]
theorem Fl.enc_len (x : Fl) : x.enc.length = 4 := rfl
structure Pr where
  nm : Bs
  vs : Sl
  ns : Sl
  fs : Sl
def Pr.enc (x : Pr) : List Value := [.string ⟨x.nm.toArray⟩, x.vs.val, x.ns.val, x.fs.val]
theorem Pr.enc_len (x : Pr) : x.enc.length = 4 := rfl
structure Wa where
  a : Int
  b : Int
  c : Int
  k : Int
  s : Bs
  d : Int
  e : Bool
def Wa.enc (x : Wa) : List Value := [.int .i64 x.a, .int .i64 x.b, .int .i64 x.c, .int .u8 x.k, .string ⟨x.s.toArray⟩, .int .i64 x.d, .bool x.e]
theorem Wa.enc_len (x : Wa) : x.enc.length = 7 := rfl
def txt (s : Bs) : List Value := [.string ⟨s.toArray⟩]
theorem txt_len (s : Bs) : (txt s).length = 1 := rfl
end Vr
namespace Go.Proofs.Ytamnfdmmjjekhaa
open Go Go.RowKit Go.SF
set_option linter.unusedSimpArgs false
set_option linter.unusedVariables false
/-- what a node's, a process', a state's slices hold -/
def QNd (W : Wd) (x : Vr.Nd) : Prop := (∃ l : List Vr.Va, l.length ≤ 9223372036854775807 ∧ SlI W x.vs.a x.vs.n x.vs.c 4 (l.flatMap Vr.Va.enc)) ∧ ∃ l : List Vr.Bs, l.length ≤ 9223372036854775807 ∧ SlI W x.bk.a x.bk.n x.bk.c 1 (l.flatMap Vr.txt)
def QPr (W : Wd) (x : Vr.Pr) : Prop := (∃ l : List Vr.Va, l.length ≤ 9223372036854775807 ∧ SlI W x.vs.a x.vs.n x.vs.c 4 (l.flatMap Vr.Va.enc)) ∧ (∃ l : List Vr.Nd, l.length ≤ 9223372036854775807 ∧ SlI W x.ns.a x.ns.n x.ns.c 11 (l.flatMap Vr.Nd.enc) ∧ ∀ y ∈ l, QNd W y) ∧ ∃ l : List Vr.Fl, l.length ≤ 9223372036854775807 ∧ SlI W x.fs.a x.fs.n x.fs.c 4 (l.flatMap Vr.Fl.enc)
theorem QNd.ext {V W : Wd} {x : Vr.Nd} (h : QNd V x) (k : Ext V W) : QNd W x := ⟨h.1.imp fun _ h => ⟨h.1, h.2.ext k⟩, h.2.imp fun _ h => ⟨h.1, h.2.ext k⟩⟩
theorem QPr.ext {V W : Wd} {x : Vr.Pr} (h : QPr V x) (k : Ext V W) : QPr W x := ⟨h.1.imp fun _ h => ⟨h.1, h.2.ext k⟩, h.2.1.imp fun _ h => ⟨h.1, h.2.1.ext k, fun y hy => (h.2.2 y hy).ext k⟩, h.2.2.imp fun _ h => ⟨h.1, h.2.ext k⟩⟩
theorem tx_agg : aggT Try.prog 9 = some false := by kernel_rfl
theorem big {n : Nat} (h : n ≤ 2513169434916) : (n : Int) ≤ 9223372036854775807 := by omega
/-- callboardref14.vars -/
theorem rvars_q (l : List Vr.Va) (hl : l.length ≤ 9223372036854775807) (a : Option Addr) (n c : Nat) (W : Wd) (hS : SlI W a n c 4 (l.flatMap Vr.Va.enc)) : CallsQ Try.prog 51 #[.slice a n c, .slice a n c] W (.bool true) := by
  have hS := (SlAt.w hS).all
  have hn : l.length = n := by have := hS.1; rw [flat_len Vr.Va.enc_len] at this; omega
  refine vc_rvars n c n c a a W.all _ ?_
  refine den_br_f (by simp [Sy.dens, Sy.den, E.i, E.b, E.t, gd, Env.push, List.cons_append, List.nil_append, List.append_nil, Int.toNat_natCast]) ?_
  refine den_loop (fun g vs ls _ => ∃ i : Nat, vs = [.int .i64 (i : Int)] ∧ ls = [] ∧ i ≤ l.length ∧ g = l.length - i) l.length ⟨0, rfl, rfl, Nat.zero_le _, rfl⟩ ?_
  rintro g vs ls W1 x1 ⟨i, rfl, rfl, hi, rfl⟩
  refine ⟨(i : Int), rfl, rfl, fun _ => ?_⟩
  have hS := hS.ext x1
  simp only [Env.push, List.cons_append, List.nil_append, List.append_nil]
  refine den_br (fun c1 => ?_) fun c1 => ?_
  · simp only [Sy.dens, Sy.den, E.i, E.b, E.t, gd, Env.push, List.cons_append, List.nil_append, List.append_nil, Int.toNat_natCast, ltB_true] at c1
    have hx : l[i]? = some (l[i]'(by omega)) := List.getElem?_eq_getElem (by omega)
    generalize l[i]'(by omega) = x at hx
    have look : ∀ {W' : Wd}, Ext W1 W' → _ := fun xW => sl_look (P := Try.prog) Vr.Va.enc_len (by decide) hS (t := 37) (by kernel_rfl) (by kernel_rfl) hx xW
    refine den_chk (by simp only [E.b, gd]; exact hS.some_of (by omega)) (den_chk (chk_le (by simp only [Sy.dens, Sy.den, E.i, E.b, E.t, gd, Env.push, List.cons_append, List.nil_append, List.append_nil, Int.toNat_natCast]; omega)) (den_look ⟨x.v.k, x.v.n, ⟨x.nm.toArray⟩, ⟨x.v.t.toArray⟩, fun W' xW => ?_, ?_⟩))
    · have := look xW
      simp only [Sy.dens, Sy.den, E.i, E.b, E.t, gd, Env.push, List.cons_append, List.nil_append, List.append_nil, Int.toNat_natCast, Nat.add_zero, Int.toNat_natCast] at this ⊢
      exact this
    simp only [Env.push, List.cons_append, List.nil_append, List.append_nil]
    refine den_chk (by simp only [E.b, gd]; exact hS.some_of (by omega)) (den_chk (chk_lt (by simp only [Sy.dens, Sy.den, E.i, E.b, E.t, gd, Env.push, List.cons_append, List.nil_append, List.append_nil, Int.toNat_natCast]; omega)) (den_look ⟨x.v.k, x.v.n, ⟨x.nm.toArray⟩, ⟨x.v.t.toArray⟩, fun W' xW => ?_, ?_⟩))
    · have := look xW
      simp only [Sy.dens, Sy.den, E.i, E.b, E.t, gd, Env.push, List.cons_append, List.nil_append, List.append_nil, Int.toNat_natCast, Nat.add_zero, Int.toNat_natCast] at this ⊢
      exact this
    simp only [Env.push, List.cons_append, List.nil_append, List.append_nil]
    refine den_grow fun W2 x2 => den_br_f (by simp [Sy.dens, Sy.den, E.i, E.b, E.t, gd, Env.push, List.cons_append, List.nil_append, List.append_nil, Int.toNat_natCast]) (den_again ⟨l.length - (i + 1), by omega, i + 1, ?_, rfl, by omega, rfl⟩)
    simp only [Sy.dens, Sy.den, E.i, E.b, E.t, gd, Env.push, List.cons_append, List.nil_append, List.append_nil, Int.toNat_natCast]; rw [w64i (by omega) (by omega)]; rfl
  · exact den_ret fun _ _ _ => ⟨_, rfl, rfl⟩
theorem ext_all (W : Wd) : Ext W W.all := ⟨Nat.le_refl _, fun b hb => W.lt b hb, fun _ _ => rfl, rfl, rfl, rfl⟩
/-- callboardref14.Texts -/
theorem rtexts_q (l : List Vr.Bs) (hl : l.length ≤ 9223372036854775807) (a : Option Addr) (n c : Nat) (W : Wd) (hS : SlI W a n c 1 (l.flatMap Vr.txt)) : CallsQ Try.prog 52 #[.slice a n c, .slice a n c] W (.bool true) := by
  have hS := (SlAt.w hS).all
  have hn : l.length = n := by have := hS.1; rw [flat_len Vr.txt_len] at this; omega
  refine vc_rtexts n c n c a a W.all _ ?_
  refine den_br_f (by simp [Sy.dens, Sy.den, E.i, E.b, E.t, gd, Env.push, List.cons_append, List.nil_append, List.append_nil, Int.toNat_natCast]) ?_
  refine den_loop (fun g vs ls _ => ∃ i : Nat, vs = [.int .i64 (i : Int)] ∧ ls = [] ∧ i ≤ l.length ∧ g = l.length - i) l.length ⟨0, rfl, rfl, Nat.zero_le _, rfl⟩ ?_
  rintro g vs ls W1 x1 ⟨i, rfl, rfl, hi, rfl⟩
  refine ⟨(i : Int), rfl, rfl, fun _ => ?_⟩
  have hS := hS.ext x1
  simp only [Env.push, List.cons_append, List.nil_append, List.append_nil]
  refine den_br (fun c1 => ?_) fun c1 => ?_
  · simp only [Sy.dens, Sy.den, E.i, E.b, E.t, gd, Env.push, List.cons_append, List.nil_append, List.append_nil, Int.toNat_natCast, ltB_true] at c1
    have hx : l[i]? = some (l[i]'(by omega)) := List.getElem?_eq_getElem (by omega)
    generalize l[i]'(by omega) = x at hx
    refine den_chk (by simp only [E.b, gd]; exact hS.some_of (by omega)) (den_chk (chk_le (by simp only [Sy.dens, Sy.den, E.i, E.b, E.t, gd, Env.push, List.cons_append, List.nil_append, List.append_nil, Int.toNat_natCast]; omega)) (den_look ⟨⟨x.toArray⟩, fun W' xW => ?_, ?_⟩))
    · have := sl_look_f (P := Try.prog) Vr.txt_len hS (t := 9) (by kernel_rfl) hx (k := 0) (by decide) (u := .string ⟨x.toArray⟩) rfl xW
      simp only [Sy.dens, Sy.den, E.i, E.b, E.t, gd, Env.push, List.cons_append, List.nil_append, List.append_nil, Int.toNat_natCast, Nat.add_zero, Int.toNat_natCast] at this ⊢
      exact this
    simp only [Env.push, List.cons_append, List.nil_append, List.append_nil]
    refine den_chk (by simp only [E.b, gd]; exact hS.some_of (by omega)) (den_chk (chk_lt (by simp only [Sy.dens, Sy.den, E.i, E.b, E.t, gd, Env.push, List.cons_append, List.nil_append, List.append_nil, Int.toNat_natCast]; omega)) (den_look ⟨⟨x.toArray⟩, fun W' xW => ?_, ?_⟩))
    · have := sl_look_f (P := Try.prog) Vr.txt_len hS (t := 9) (by kernel_rfl) hx (k := 0) (by decide) (u := .string ⟨x.toArray⟩) rfl xW
      simp only [Sy.dens, Sy.den, E.i, E.b, E.t, gd, Env.push, List.cons_append, List.nil_append, List.append_nil, Int.toNat_natCast, Nat.add_zero, Int.toNat_natCast] at this ⊢
      exact this
    simp only [Env.push, List.cons_append, List.nil_append, List.append_nil]
    refine den_grow fun W2 x2 => den_br_f (by simp [Sy.dens, Sy.den, E.i, E.b, E.t, gd, Env.push, List.cons_append, List.nil_append, List.append_nil, Int.toNat_natCast]) (den_again ⟨l.length - (i + 1), by omega, i + 1, ?_, rfl, by omega, rfl⟩)
    simp only [Sy.dens, Sy.den, E.i, E.b, E.t, gd, Env.push, List.cons_append, List.nil_append, List.append_nil, Int.toNat_natCast]; rw [w64i (by omega) (by omega)]; rfl
  · exact den_ret fun _ _ _ => ⟨_, rfl, rfl⟩
/-- callboardref14.Same -/
theorem rs14_q (p : Vr.Pr) (W : Wd) (hp : QPr W p) : CallsQ Try.prog 38 #[.agg p.enc.toArray, .agg p.enc.toArray] W (.bool true) := by
  obtain ⟨⟨l0, hl0, h0⟩, ⟨ln, hln, hN, hq⟩, lf, hlf, hF⟩ := hp.ext (W := W.all) (ext_all W)
  have hnn : ln.length = p.ns.n := by have := hN.1; rw [flat_len Vr.Nd.enc_len] at this; omega
  have hnf : lf.length = p.fs.n := by have := hF.1; rw [flat_len Vr.Fl.enc_len] at this; omega
  refine vc_rs14 p.vs.n p.vs.c p.ns.n p.ns.c p.fs.n p.fs.c p.vs.n p.vs.c p.ns.n p.ns.c p.fs.n p.fs.c ⟨p.nm.toArray⟩ ⟨p.nm.toArray⟩ p.vs.a p.ns.a p.fs.a p.vs.a p.ns.a p.fs.a W.all _ ?_
  refine den_new fun m0 W1 _ x1 => den_new fun m1 W2 _ x2 => den_br_t (by simp [Sy.dens, Sy.den, E.i, E.b, E.t, gd, Env.push, List.cons_append, List.nil_append, List.append_nil, Int.toNat_natCast]) ?_
  have y2 := ext_trans x1 x2
  simp only [Env.push, List.cons_append, List.nil_append, List.append_nil]
  refine den_call_q (fun _ _ => rvars_q l0 hl0 p.vs.a p.vs.n p.vs.c W2 (h0.ext y2)) ⟨true, rfl, fun W2 x2' => ?_⟩
  have y2 := ext_trans y2 x2'
  have hN := hN.ext y2
  have hF := hF.ext y2
  simp only [Env.push, List.cons_append, List.nil_append, List.append_nil]
  refine den_br_f (by simp [Sy.dens, Sy.den, E.i, E.b, E.t, gd, Env.push, List.cons_append, List.nil_append, List.append_nil, Int.toNat_natCast]) ?_
  refine den_loop (fun g vs ls _ => ∃ i : Nat, vs = [.int .i64 (i : Int)] ∧ ls = [] ∧ i ≤ ln.length ∧ g = ln.length - i) ln.length ⟨0, rfl, rfl, Nat.zero_le _, rfl⟩ ?_
  rintro g vs ls W3 x3 ⟨i, rfl, rfl, hi, rfl⟩
  refine ⟨(i : Int), rfl, rfl, fun _ => ?_⟩
  have hN := hN.ext x3
  have hF := hF.ext x3
  simp only [Env.push, List.cons_append, List.nil_append, List.append_nil]
  refine den_br (fun c1 => ?_) fun c1 => ?_
  · simp only [Sy.dens, Sy.den, E.i, E.b, E.t, gd, Env.push, List.cons_append, List.nil_append, List.append_nil, Int.toNat_natCast, ltB_true] at c1
    have hx : ln[i]? = some (ln[i]'(by omega)) := List.getElem?_eq_getElem (by omega)
    generalize ln[i]'(by omega) = x at hx
    refine den_chk (by simp only [E.b, gd]; exact hN.some_of (by omega)) (den_chk (chk_le (by simp only [Sy.dens, Sy.den, E.i, E.b, E.t, gd, Env.push, List.cons_append, List.nil_append, List.append_nil, Int.toNat_natCast]; omega)) (den_look ⟨x.k, x.i, x.o, x.e, x.vs.n, x.vs.c, x.bk.n, x.bk.c, x.br, ⟨x.nm.toArray⟩, ⟨x.key.toArray⟩, ⟨x.txt.toArray⟩, ⟨x.set.toArray⟩, x.vs.a, x.bk.a, fun W' xW => ?_, ?_⟩))
    · have := sl_look (P := Try.prog) Vr.Nd.enc_len (by decide) hN (t := 100) (by kernel_rfl) (by kernel_rfl) hx xW
      simp only [Sy.dens, Sy.den, E.i, E.b, E.t, gd, Env.push, List.cons_append, List.nil_append, List.append_nil, Int.toNat_natCast, Nat.add_zero, Int.toNat_natCast] at this ⊢
      exact this
    simp only [Env.push, List.cons_append, List.nil_append, List.append_nil]
    refine den_chk (by simp only [E.b, gd]; exact hN.some_of (by omega)) (den_chk (chk_lt (by simp only [Sy.dens, Sy.den, E.i, E.b, E.t, gd, Env.push, List.cons_append, List.nil_append, List.append_nil, Int.toNat_natCast]; omega)) (den_look ⟨x.k, x.i, x.o, x.e, x.vs.n, x.vs.c, x.bk.n, x.bk.c, x.br, ⟨x.nm.toArray⟩, ⟨x.key.toArray⟩, ⟨x.txt.toArray⟩, ⟨x.set.toArray⟩, x.vs.a, x.bk.a, fun W' xW => ?_, ?_⟩))
    · have := sl_look (P := Try.prog) Vr.Nd.enc_len (by decide) hN (t := 100) (by kernel_rfl) (by kernel_rfl) hx xW
      simp only [Sy.dens, Sy.den, E.i, E.b, E.t, gd, Env.push, List.cons_append, List.nil_append, List.append_nil, Int.toNat_natCast, Nat.add_zero, Int.toNat_natCast] at this ⊢
      exact this
    simp only [Env.push, List.cons_append, List.nil_append, List.append_nil]
    obtain ⟨⟨lv, hlv, hv⟩, lb, hlb, hb⟩ := (hq x (List.mem_of_getElem? hx)).ext (ext_trans y2 x3)
    refine ⟨?_, ?_⟩
    · refine den_grow fun Wa xa => den_new fun ma Wb _ xb => den_grow fun Wc xc => den_new fun mb Wd' _ xd => den_grow fun We xe => den_wr fun Wf xf => den_grow fun Wg xg => den_wr fun Wh xh => ?_
      have z := ext_trans (ext_trans (ext_trans (ext_trans (ext_trans (ext_trans (ext_trans xa xb) xc) xd) xe) xf) xg) xh
      simp only [Env.push, List.cons_append, List.nil_append, List.append_nil]
      refine den_br_t (by simp [Sy.dens, Sy.den, E.i, E.b, E.t, gd, Env.push, List.cons_append, List.nil_append, List.append_nil, Int.toNat_natCast]) ?_
      refine den_call_q (fun _ _ => rvars_q lv hlv x.vs.a x.vs.n x.vs.c Wh (hv.ext z)) ⟨true, rfl, fun Wi xi => ?_⟩
      simp only [Env.push, List.cons_append, List.nil_append, List.append_nil]
      refine den_br_t rfl ?_
      refine den_call_q (fun _ _ => rtexts_q lb hlb x.bk.a x.bk.n x.bk.c Wi (hb.ext (ext_trans z xi))) ⟨true, rfl, fun Wj xj => ?_⟩
      simp only [Env.push, List.cons_append, List.nil_append, List.append_nil]
      refine den_br_f (by simp [Sy.dens, Sy.den, E.i, E.b, E.t, gd, Env.push, List.cons_append, List.nil_append, List.append_nil, Int.toNat_natCast]) (den_frz fun Wk _ xk _ _ => den_again ⟨ln.length - (i + 1), by omega, i + 1, ?_, rfl, by omega, rfl⟩)
      simp only [Sy.dens, Sy.den, E.i, E.b, E.t, gd, Env.push, List.cons_append, List.nil_append, List.append_nil, Int.toNat_natCast]; rw [w64i (by omega) (by omega)]; rfl
    · refine den_grow fun Wa xa => den_new fun ma Wb _ xb => den_grow fun Wc xc => den_new fun mb Wd' _ xd => den_grow fun We xe => den_wr fun Wf xf => den_grow fun Wg xg => den_wr fun Wh xh => ?_
      have z := ext_trans (ext_trans (ext_trans (ext_trans (ext_trans (ext_trans (ext_trans xa xb) xc) xd) xe) xf) xg) xh
      simp only [Env.push, List.cons_append, List.nil_append, List.append_nil]
      refine den_br_t (by simp [Sy.dens, Sy.den, E.i, E.b, E.t, gd, Env.push, List.cons_append, List.nil_append, List.append_nil, Int.toNat_natCast]) ?_
      refine den_call_q (fun _ _ => rvars_q lv hlv x.vs.a x.vs.n x.vs.c Wh (hv.ext z)) ⟨true, rfl, fun Wi xi => ?_⟩
      simp only [Env.push, List.cons_append, List.nil_append, List.append_nil]
      refine den_br_t rfl ?_
      refine den_call_q (fun _ _ => rtexts_q lb hlb x.bk.a x.bk.n x.bk.c Wi (hb.ext (ext_trans z xi))) ⟨true, rfl, fun Wj xj => ?_⟩
      simp only [Env.push, List.cons_append, List.nil_append, List.append_nil]
      refine den_br_f (by simp [Sy.dens, Sy.den, E.i, E.b, E.t, gd, Env.push, List.cons_append, List.nil_append, List.append_nil, Int.toNat_natCast]) (den_frz fun Wk _ xk _ _ => den_again ⟨ln.length - (i + 1), by omega, i + 1, ?_, rfl, by omega, rfl⟩)
      simp only [Sy.dens, Sy.den, E.i, E.b, E.t, gd, Env.push, List.cons_append, List.nil_append, List.append_nil, Int.toNat_natCast]; rw [w64i (by omega) (by omega)]; rfl
  · refine den_loop (fun g vs ls _ => ∃ i : Nat, vs = [.int .i64 (i : Int)] ∧ ls = [] ∧ i ≤ lf.length ∧ g = lf.length - i) lf.length ⟨0, rfl, rfl, Nat.zero_le _, rfl⟩ ?_
    rintro g vs ls W4 x4 ⟨i, rfl, rfl, hi, rfl⟩
    refine ⟨(i : Int), rfl, rfl, fun _ => ?_⟩
    have hF := hF.ext x4
    simp only [Env.push, List.cons_append, List.nil_append, List.append_nil]
    refine den_br (fun c1 => ?_) fun c1 => ?_
    · simp only [Sy.dens, Sy.den, E.i, E.b, E.t, gd, Env.push, List.cons_append, List.nil_append, List.append_nil, Int.toNat_natCast, ltB_true] at c1
      have hx : lf[i]? = some (lf[i]'(by omega)) := List.getElem?_eq_getElem (by omega)
      generalize lf[i]'(by omega) = x at hx
      refine den_chk (by simp only [E.b, gd]; exact hF.some_of (by omega)) (den_chk (chk_le (by simp only [Sy.dens, Sy.den, E.i, E.b, E.t, gd, Env.push, List.cons_append, List.nil_append, List.append_nil, Int.toNat_natCast]; omega)) (den_look ⟨x.f, x.t, x.e, ⟨x.c.toArray⟩, fun W' xW => ?_, ?_⟩))
      · have := sl_look (P := Try.prog) Vr.Fl.enc_len (by decide) hF (t := 103) (by kernel_rfl) (by kernel_rfl) hx xW
        simp only [Sy.dens, Sy.den, E.i, E.b, E.t, gd, Env.push, List.cons_append, List.nil_append, List.append_nil, Int.toNat_natCast, Nat.add_zero, Int.toNat_natCast] at this ⊢
        exact this
      simp only [Env.push, List.cons_append, List.nil_append, List.append_nil]
      refine den_chk (by simp only [E.b, gd]; exact hF.some_of (by omega)) (den_chk (chk_lt (by simp only [Sy.dens, Sy.den, E.i, E.b, E.t, gd, Env.push, List.cons_append, List.nil_append, List.append_nil, Int.toNat_natCast]; omega)) (den_look ⟨x.f, x.t, x.e, ⟨x.c.toArray⟩, fun W' xW => ?_, ?_⟩))
      · have := sl_look (P := Try.prog) Vr.Fl.enc_len (by decide) hF (t := 103) (by kernel_rfl) (by kernel_rfl) hx xW
        simp only [Sy.dens, Sy.den, E.i, E.b, E.t, gd, Env.push, List.cons_append, List.nil_append, List.append_nil, Int.toNat_natCast, Nat.add_zero, Int.toNat_natCast] at this ⊢
        exact this
      simp only [Env.push, List.cons_append, List.nil_append, List.append_nil]
      refine den_grow fun W2 x2 => den_br_f (by simp [Sy.dens, Sy.den, E.i, E.b, E.t, gd, Env.push, List.cons_append, List.nil_append, List.append_nil, Int.toNat_natCast]) (den_again ⟨lf.length - (i + 1), by omega, i + 1, ?_, rfl, by omega, rfl⟩)
      simp only [Sy.dens, Sy.den, E.i, E.b, E.t, gd, Env.push, List.cons_append, List.nil_append, List.append_nil, Int.toNat_natCast]; rw [w64i (by omega) (by omega)]; rfl
    · exact den_ret fun _ _ _ => ⟨_, rfl, rfl⟩
/-- what a state's other slices hold -/
def QSt (W : Wd) (S : Vr.StV) : Prop := (∃ l : List Vr.Pr, l.length ≤ 9223372036854775807 ∧ SlI W S.d.a S.d.n S.d.c 4 (l.flatMap Vr.Pr.enc) ∧ ∀ y ∈ l, QPr W y) ∧ ∃ l : List Vr.Wa, l.length ≤ 9223372036854775807 ∧ SlI W S.h.a S.h.n S.h.c 7 (l.flatMap Vr.Wa.enc)
theorem QSt.ext {V W : Wd} {x : Vr.StV} (h : QSt V x) (k : Ext V W) : QSt W x := ⟨h.1.imp fun _ h => ⟨h.1, h.2.1.ext k, fun y hy => (h.2.2 y hy).ext k⟩, h.2.imp fun _ h => ⟨h.1, h.2.ext k⟩⟩
/-- callboardref18.Same -/
theorem rs18_q (S : Vr.StV) (T : Vr.Sl) (its : List Vr.It) (hil : its.length ≤ 9223372036854775807) (cs : List Vr.Ce) (hcl : cs.length ≤ 9223372036854775807) (W : Wd) (hQ : QSt W S) (hS : SlI W S.i.a S.i.n S.i.c 8 (its.flatMap Vr.It.enc)) (hC : SlI W S.c.a S.c.n S.c.c 5 (cs.flatMap Vr.Ce.enc)) (hC2 : SlI W T.a T.n T.c 5 (cs.flatMap Vr.Ce.enc)) :
    CallsQ Try.prog 17 #[S.val, Vr.StV.val { S with c := T }] W (.bool true) := by
  obtain ⟨⟨ld, hld, hD, hq⟩, lh, hlh, hH⟩ := hQ.ext (W := W.all) (ext_all W)
  have hS := hS.ext (ext_all W)
  have hC := hC.ext (ext_all W)
  have hC2 := hC2.ext (ext_all W)
  have hnd : ld.length = S.d.n := by have := hD.1; rw [flat_len Vr.Pr.enc_len] at this; omega
  have hni : its.length = S.i.n := by have := hS.1; rw [flat_len Vr.It.enc_len] at this; omega
  have hnc : cs.length = S.c.n := by have := hC.1; rw [flat_len Vr.Ce.enc_len] at this; omega
  have hnt : cs.length = T.n := by have := hC2.1; rw [flat_len Vr.Ce.enc_len] at this; omega
  have hnh : lh.length = S.h.n := by have := hH.1; rw [flat_len Vr.Wa.enc_len] at this; omega
  refine vc_rs18 S.ck S.nx S.ck S.nx S.d.n S.d.c S.i.n S.i.c S.c.n S.c.c S.h.n S.h.c S.d.n S.d.c S.i.n S.i.c T.n T.c S.h.n S.h.c S.d.a S.i.a S.c.a S.h.a S.d.a S.i.a T.a S.h.a W.all _ ?_
  refine den_new fun m0 W1 _ x1 => den_new fun m1 W2 _ x2 => den_br_f (by simp [Sy.dens, Sy.den, E.i, E.b, E.t, gd, Env.push, List.cons_append, List.nil_append, List.append_nil, Int.toNat_natCast, ← hnc, ← hnt]) ?_
  have y2 := ext_trans x1 x2
  have hD := hD.ext y2
  have hS := hS.ext y2
  have hC := hC.ext y2
  have hC2 := hC2.ext y2
  have hH := hH.ext y2
  simp only [Env.push, List.cons_append, List.nil_append, List.append_nil]
  refine den_loop (fun g vs ls _ => ∃ i : Nat, vs = [.int .i64 (i : Int)] ∧ ls = [] ∧ i ≤ ld.length ∧ g = ld.length - i) ld.length ⟨0, rfl, rfl, Nat.zero_le _, rfl⟩ ?_
  rintro g vs ls W3 x3 ⟨i, rfl, rfl, hi, rfl⟩
  refine ⟨(i : Int), rfl, rfl, fun _ => ?_⟩
  have hD := hD.ext x3
  have hS := hS.ext x3
  have hC := hC.ext x3
  have hC2 := hC2.ext x3
  have hH := hH.ext x3
  simp only [Env.push, List.cons_append, List.nil_append, List.append_nil]
  refine den_br (fun c1 => ?_) fun c1 => ?_
  · simp only [Sy.dens, Sy.den, E.i, E.b, E.t, gd, Env.push, List.cons_append, List.nil_append, List.append_nil, Int.toNat_natCast, ltB_true] at c1
    have hx : ld[i]? = some (ld[i]'(by omega)) := List.getElem?_eq_getElem (by omega)
    generalize ld[i]'(by omega) = x at hx
    refine den_chk (by simp only [E.b, gd]; exact hD.some_of (by omega)) (den_chk (chk_le (by simp only [Sy.dens, Sy.den, E.i, E.b, E.t, gd, Env.push, List.cons_append, List.nil_append, List.append_nil, Int.toNat_natCast]; omega)) (den_look ⟨x.vs.n, x.vs.c, x.ns.n, x.ns.c, x.fs.n, x.fs.c, ⟨x.nm.toArray⟩, x.vs.a, x.ns.a, x.fs.a, fun W' xW => ?_, ?_⟩))
    · have := sl_look (P := Try.prog) Vr.Pr.enc_len (by decide) hD (t := 84) (by kernel_rfl) (by kernel_rfl) hx xW
      simp only [Sy.dens, Sy.den, E.i, E.b, E.t, gd, Env.push, List.cons_append, List.nil_append, List.append_nil, Int.toNat_natCast, Nat.add_zero, Int.toNat_natCast] at this ⊢
      exact this
    simp only [Env.push, List.cons_append, List.nil_append, List.append_nil]
    refine den_chk (by simp only [E.b, gd]; exact hD.some_of (by omega)) (den_chk (chk_lt (by simp only [Sy.dens, Sy.den, E.i, E.b, E.t, gd, Env.push, List.cons_append, List.nil_append, List.append_nil, Int.toNat_natCast]; omega)) (den_look ⟨x.vs.n, x.vs.c, x.ns.n, x.ns.c, x.fs.n, x.fs.c, ⟨x.nm.toArray⟩, x.vs.a, x.ns.a, x.fs.a, fun W' xW => ?_, ?_⟩))
    · have := sl_look (P := Try.prog) Vr.Pr.enc_len (by decide) hD (t := 84) (by kernel_rfl) (by kernel_rfl) hx xW
      simp only [Sy.dens, Sy.den, E.i, E.b, E.t, gd, Env.push, List.cons_append, List.nil_append, List.append_nil, Int.toNat_natCast, Nat.add_zero, Int.toNat_natCast] at this ⊢
      exact this
    simp only [Env.push, List.cons_append, List.nil_append, List.append_nil]
    have hqx := (hq x (List.mem_of_getElem? hx)).ext (ext_trans y2 x3)
    refine den_callq ⟨true, ⟨fun W' xW _ _ => rs14_q x W' (hqx.ext xW), ?_⟩⟩
    simp only [Env.push, List.cons_append, List.nil_append, List.append_nil]
    refine den_grow fun W2 x2 => den_br_f (by simp [Sy.dens, Sy.den, E.i, E.b, E.t, gd, Env.push, List.cons_append, List.nil_append, List.append_nil, Int.toNat_natCast]) (den_again ⟨ld.length - (i + 1), by omega, i + 1, ?_, rfl, by omega, rfl⟩)
    simp only [Sy.dens, Sy.den, E.i, E.b, E.t, gd, Env.push, List.cons_append, List.nil_append, List.append_nil, Int.toNat_natCast]; rw [w64i (by omega) (by omega)]; rfl
  · refine den_loop (fun g vs ls _ => ∃ i : Nat, vs = [.int .i64 (i : Int)] ∧ ls = [] ∧ i ≤ its.length ∧ g = its.length - i) its.length ⟨0, rfl, rfl, Nat.zero_le _, rfl⟩ ?_
    rintro g vs ls W4 x4 ⟨i, rfl, rfl, hi, rfl⟩
    refine ⟨(i : Int), rfl, rfl, fun _ => ?_⟩
    have hS := hS.ext x4
    have hC := hC.ext x4
    have hC2 := hC2.ext x4
    have hH := hH.ext x4
    simp only [Env.push, List.cons_append, List.nil_append, List.append_nil]
    refine den_br (fun c1 => ?_) fun c1 => ?_
    · simp only [Sy.dens, Sy.den, E.i, E.b, E.t, gd, Env.push, List.cons_append, List.nil_append, List.append_nil, Int.toNat_natCast, ltB_true] at c1
      have hx : its[i]? = some (its[i]'(by omega)) := List.getElem?_eq_getElem (by omega)
      generalize its[i]'(by omega) = x at hx
      refine den_chk (by simp only [E.b, gd]; exact hS.some_of (by omega)) (den_chk (chk_le (by simp only [Sy.dens, Sy.den, E.i, E.b, E.t, gd, Env.push, List.cons_append, List.nil_append, List.append_nil, Int.toNat_natCast]; omega)) (den_look ⟨x.id, x.up, x.is, x.node, x.frm, x.wait, ⟨x.proc.toArray⟩, ⟨x.code.toArray⟩, fun W' xW => ?_, ?_⟩))
      · have := sl_look (P := Try.prog) Vr.It.enc_len (by decide) hS (t := 54) (by kernel_rfl) (by kernel_rfl) hx xW
        simp only [Sy.dens, Sy.den, E.i, E.b, E.t, gd, Env.push, List.cons_append, List.nil_append, List.append_nil, Int.toNat_natCast, Nat.add_zero, Int.toNat_natCast] at this ⊢
        exact this
      simp only [Env.push, List.cons_append, List.nil_append, List.append_nil]
      refine den_chk (by simp only [E.b, gd]; exact hS.some_of (by omega)) (den_chk (chk_lt (by simp only [Sy.dens, Sy.den, E.i, E.b, E.t, gd, Env.push, List.cons_append, List.nil_append, List.append_nil, Int.toNat_natCast]; omega)) (den_look ⟨x.id, x.up, x.is, x.node, x.frm, x.wait, ⟨x.proc.toArray⟩, ⟨x.code.toArray⟩, fun W' xW => ?_, ?_⟩))
      · have := sl_look (P := Try.prog) Vr.It.enc_len (by decide) hS (t := 54) (by kernel_rfl) (by kernel_rfl) hx xW
        simp only [Sy.dens, Sy.den, E.i, E.b, E.t, gd, Env.push, List.cons_append, List.nil_append, List.append_nil, Int.toNat_natCast, Nat.add_zero, Int.toNat_natCast] at this ⊢
        exact this
      simp only [Env.push, List.cons_append, List.nil_append, List.append_nil]
      refine den_grow fun W2 x2 => den_br_f (by simp [Sy.dens, Sy.den, E.i, E.b, E.t, gd, Env.push, List.cons_append, List.nil_append, List.append_nil, Int.toNat_natCast]) (den_again ⟨its.length - (i + 1), by omega, i + 1, ?_, rfl, by omega, rfl⟩)
      simp only [Sy.dens, Sy.den, E.i, E.b, E.t, gd, Env.push, List.cons_append, List.nil_append, List.append_nil, Int.toNat_natCast]; rw [w64i (by omega) (by omega)]; rfl
    · refine den_loop (fun g vs ls _ => ∃ i : Nat, vs = [.int .i64 (i : Int)] ∧ ls = [] ∧ i ≤ cs.length ∧ g = cs.length - i) cs.length ⟨0, rfl, rfl, Nat.zero_le _, rfl⟩ ?_
      rintro g vs ls W5 x5 ⟨i, rfl, rfl, hi, rfl⟩
      refine ⟨(i : Int), rfl, rfl, fun _ => ?_⟩
      have hC := hC.ext x5
      have hC2 := hC2.ext x5
      have hH := hH.ext x5
      simp only [Env.push, List.cons_append, List.nil_append, List.append_nil]
      refine den_br (fun c1 => ?_) fun c1 => ?_
      · simp only [Sy.dens, Sy.den, E.i, E.b, E.t, gd, Env.push, List.cons_append, List.nil_append, List.append_nil, Int.toNat_natCast, ltB_true] at c1
        have hx : cs[i]? = some (cs[i]'(by omega)) := List.getElem?_eq_getElem (by omega)
        generalize cs[i]'(by omega) = x at hx
        refine den_chk (by simp only [E.b, gd]; exact hC.some_of (by omega)) (den_chk (chk_le (by simp only [Sy.dens, Sy.den, E.i, E.b, E.t, gd, Env.push, List.cons_append, List.nil_append, List.append_nil, Int.toNat_natCast]; omega)) (den_look ⟨x.sc, x.v.k, x.v.n, ⟨x.nm.toArray⟩, ⟨x.v.t.toArray⟩, fun W' xW => ?_, ?_⟩))
        · have := sl_look (P := Try.prog) Vr.Ce.enc_len (by decide) hC (t := 39) (by kernel_rfl) (by kernel_rfl) hx xW
          simp only [Sy.dens, Sy.den, E.i, E.b, E.t, gd, Env.push, List.cons_append, List.nil_append, List.append_nil, Int.toNat_natCast, Nat.add_zero, Int.toNat_natCast] at this ⊢
          exact this
        simp only [Env.push, List.cons_append, List.nil_append, List.append_nil]
        refine den_chk (by simp only [E.b, gd]; exact hC2.some_of (by omega)) (den_chk (chk_lt (by simp only [Sy.dens, Sy.den, E.i, E.b, E.t, gd, Env.push, List.cons_append, List.nil_append, List.append_nil, Int.toNat_natCast]; omega)) (den_look ⟨x.sc, x.v.k, x.v.n, ⟨x.nm.toArray⟩, ⟨x.v.t.toArray⟩, fun W' xW => ?_, ?_⟩))
        · have := sl_look (P := Try.prog) Vr.Ce.enc_len (by decide) hC2 (t := 39) (by kernel_rfl) (by kernel_rfl) hx xW
          simp only [Sy.dens, Sy.den, E.i, E.b, E.t, gd, Env.push, List.cons_append, List.nil_append, List.append_nil, Int.toNat_natCast, Nat.add_zero, Int.toNat_natCast] at this ⊢
          exact this
        simp only [Env.push, List.cons_append, List.nil_append, List.append_nil]
        refine den_grow fun W2 x2 => den_br_f (by simp [Sy.dens, Sy.den, E.i, E.b, E.t, gd, Env.push, List.cons_append, List.nil_append, List.append_nil, Int.toNat_natCast]) (den_again ⟨cs.length - (i + 1), by omega, i + 1, ?_, rfl, by omega, rfl⟩)
        simp only [Sy.dens, Sy.den, E.i, E.b, E.t, gd, Env.push, List.cons_append, List.nil_append, List.append_nil, Int.toNat_natCast]; rw [w64i (by omega) (by omega)]; rfl
      · refine den_loop (fun g vs ls _ => ∃ i : Nat, vs = [.int .i64 (i : Int)] ∧ ls = [] ∧ i ≤ lh.length ∧ g = lh.length - i) lh.length ⟨0, rfl, rfl, Nat.zero_le _, rfl⟩ ?_
        rintro g vs ls W6 x6 ⟨i, rfl, rfl, hi, rfl⟩
        refine ⟨(i : Int), rfl, rfl, fun _ => ?_⟩
        have hH := hH.ext x6
        simp only [Env.push, List.cons_append, List.nil_append, List.append_nil]
        refine den_br (fun c1 => ?_) fun c1 => ?_
        · simp only [Sy.dens, Sy.den, E.i, E.b, E.t, gd, Env.push, List.cons_append, List.nil_append, List.append_nil, Int.toNat_natCast, ltB_true] at c1
          have hx : lh[i]? = some (lh[i]'(by omega)) := List.getElem?_eq_getElem (by omega)
          generalize lh[i]'(by omega) = x at hx
          refine den_chk (by simp only [E.b, gd]; exact hH.some_of (by omega)) (den_chk (chk_le (by simp only [Sy.dens, Sy.den, E.i, E.b, E.t, gd, Env.push, List.cons_append, List.nil_append, List.append_nil, Int.toNat_natCast]; omega)) (den_look ⟨x.a, x.b, x.c, x.k, x.d, x.e, ⟨x.s.toArray⟩, fun W' xW => ?_, ?_⟩))
          · have := sl_look (P := Try.prog) Vr.Wa.enc_len (by decide) hH (t := 86) (by kernel_rfl) (by kernel_rfl) hx xW
            simp only [Sy.dens, Sy.den, E.i, E.b, E.t, gd, Env.push, List.cons_append, List.nil_append, List.append_nil, Int.toNat_natCast, Nat.add_zero, Int.toNat_natCast] at this ⊢
            exact this
          simp only [Env.push, List.cons_append, List.nil_append, List.append_nil]
          refine den_chk (by simp only [E.b, gd]; exact hH.some_of (by omega)) (den_chk (chk_lt (by simp only [Sy.dens, Sy.den, E.i, E.b, E.t, gd, Env.push, List.cons_append, List.nil_append, List.append_nil, Int.toNat_natCast]; omega)) (den_look ⟨x.a, x.b, x.c, x.k, x.d, x.e, ⟨x.s.toArray⟩, fun W' xW => ?_, ?_⟩))
          · have := sl_look (P := Try.prog) Vr.Wa.enc_len (by decide) hH (t := 86) (by kernel_rfl) (by kernel_rfl) hx xW
            simp only [Sy.dens, Sy.den, E.i, E.b, E.t, gd, Env.push, List.cons_append, List.nil_append, List.append_nil, Int.toNat_natCast, Nat.add_zero, Int.toNat_natCast] at this ⊢
            exact this
          simp only [Env.push, List.cons_append, List.nil_append, List.append_nil]
          refine den_grow fun W2 x2 => den_br_f (by simp [Sy.dens, Sy.den, E.i, E.b, E.t, gd, Env.push, List.cons_append, List.nil_append, List.append_nil, Int.toNat_natCast]) (den_again ⟨lh.length - (i + 1), by omega, i + 1, ?_, rfl, by omega, rfl⟩)
          simp only [Sy.dens, Sy.den, E.i, E.b, E.t, gd, Env.push, List.cons_append, List.nil_append, List.append_nil, Int.toNat_natCast]; rw [w64i (by omega) (by omega)]; rfl
        · exact den_ret fun _ _ _ => ⟨_, rfl, rfl⟩
end Go.Proofs.Ytamnfdmmjjekhaa
