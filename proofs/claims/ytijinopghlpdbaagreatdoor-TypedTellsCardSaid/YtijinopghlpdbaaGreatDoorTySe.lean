/- The walks of package typed. -/
import Derived.Test.YtijinopghlpdbaaGreatDoorPxParse
import Derived.Test.YtijinopghlpdbaaGreatDoorVsMayT
import Derived.Test.YtijinopghlpdbaaGreatDoorTyPlain
import Derived.Test.YtijinopghlpdbaaGreatDoorVcTyped
namespace Go.Proofs.YtijinopghlpdbaaGreatDoor
open Go Go.RowKit Go.SF
set_option linter.unusedSimpArgs false
set_option linter.unusedVariables false

theorem tdrop_get {α : Type} {l : List α} {i : Nat} (h : i < l.length) : l.drop i = l[i] :: l.drop (i + 1) := List.drop_eq_getElem_cons h
/-! ### what is laid -/
def sortC (s : Int × Int) : List Value := [.int .u8 s.1, .int .u8 s.2]
structure GlobT (W : Wd) : Prop where
  args : ∃ ty, W.w.heap[1]? = some (.cells (Tx.argTab.map fun n => Value.int .i64 n).toArray ty)
  argsI : W.I 1
  sorts : ∃ (sl : List (Option Addr × Nat)) (ty : TypeId), sl.length = 17 ∧ W.w.heap[0]? = some (.cells ((List.range 17).map fun i => Value.slice (sl.getD i (none, 0)).1 (Tx.sortTab.getD i []).length (sl.getD i (none, 0)).2).toArray ty) ∧
    ∀ i, i < 17 → SlI W (sl.getD i (none, 0)).1 (Tx.sortTab.getD i []).length (sl.getD i (none, 0)).2 2 ((Tx.sortTab.getD i []).flatMap sortC)
  sortsI : W.I 0
theorem GlobT.ext {W W' : Wd} (h : GlobT W) (x : Ext W W') : GlobT W' := by
  obtain ⟨ty, h1⟩ := h.args
  obtain ⟨sl, ty', h2, h3, h4⟩ := h.sorts
  exact ⟨⟨ty, by rw [x.keep _ h.argsI]; exact h1⟩, x.sub _ h.argsI, ⟨sl, ty', h2, by rw [x.keep _ h.sortsI]; exact h3, fun i hi => (h4 i hi).ext x⟩, x.sub _ h.sortsI⟩
theorem i64_aggT : aggT Tryz.prog 3 = some false := by kernel_rfl
theorem u8_aggT : aggT Tryz.prog 5 = some false := by kernel_rfl
theorem sort_aggT : aggT Tryz.prog 64 = some true := by kernel_rfl
theorem sort_sizeT : sizeT Tryz.prog 64 = some 2 := by kernel_rfl
theorem sorts_aggT : aggT Tryz.prog 61 = some false := by kernel_rfl
theorem var_aggT : aggT Tryz.prog 38 = some true := by kernel_rfl
theorem var_sizeT : sizeT Tryz.prog 38 = some 4 := by kernel_rfl
/-- a load of an element of a laid table -/
theorem glob_look {vs : List Value} {W : Wd} {g : Nat} {ty t : TypeId} (h : W.w.heap[g]? = some (.cells vs.toArray ty)) (hI : W.I g) (hA : aggT Tryz.prog t = some false) {i : Nat} {u : Value} (hx : vs[i]? = some u)
    {W' : Wd} (e : Ext W W') : (Instr.loadAt t (.pointer (some (((some ⟨g, 0, none⟩ : Option Addr).getD default).add (i * 1 + 0))))).run Tryz.prog W'.w = .ok u W'.w := by
  refine look_one hA ?_
  simp only [Option.getD_some]
  rw [add_none, cell_ext' e hI]
  simp [World.cell?, h, hx]

/-! ### whether it is whole -/
def WholeOk (n : Nat) : Prop := ∀ (x : Px.Ex) (vs : List Value) (W : Wd), Px.thin x = true → ExI W x vs → GlobT W → CallsQ Tryz.prog 20 #[.agg vs.toArray, .int .i64 (n : Nat)] W (.bool (Tx.whole n x))
theorem wholec_q (n : Nat) (hn : n < 1000) (ih : WholeOk n) (x : Px.Ex) (vs : List Value) (W : Wd) (hth : Px.thin x = true) (hx : ExI W x vs) (hG : GlobT W) (p : Nat) (hp : W.w.heap[p]? = some (.cells #[.int .i64 ((n + 1 : Nat) : Int)] 3)) (hI : W.I p) :
    CallsQ Tryz.prog 37 #[.agg vs.toArray, .pointer (some ⟨p, 0, none⟩)] W (.bool (!Tx.whole n x)) := by
  obtain ⟨op, k, nn, t, nm, al, len, cl, rfl⟩ := hx.shape
  refine vc_wholec op k nn ((n + 1 : Nat) : Int) len cl t nm al p W.all _ hp (W.lt p hI) ?_
  refine den_new fun m W1 _ x1 => ?_
  have x1' := ext_trans W.all_ext x1
  have hq := ih x _ W1 hth (hx.ext x1') (hG.ext x1')
  have hw : IntKind.i64.wrap (((n + 1 : Nat) : Int) - 1) = (n : Int) := by rw [w64i (by omega) (by omega)]; omega
  rw [← hw] at hq
  refine den_call_q (fun _ _ => hq) ⟨Tx.whole n x, rfl, fun W2 x2 => den_ret fun _ _ _ => ⟨_, rfl, rfl⟩⟩
theorem widx_i (n : Nat) (hn : n < 1000) (ih : WholeOk n) (args : List Px.Ex) (a : Option Addr) (c : Nat) (ls : List Value) (W : Wd) (hl : args.length ≤ 1000) (hth : Px.thins args = true) (hS : SlI W a args.length c 6 ls) (hE : ExsAt W.w W.I args ls) (hG : GlobT W) (p : Nat) (hp : W.w.heap[p]? = some (.cells #[.int .i64 ((n + 1 : Nat) : Int)] 3)) (hI : W.I p) :
    CallsI Tryz.prog 50 #[.slice a args.length c, .func (.func 37) #[] #[.pointer (some ⟨p, 0, none⟩)]] W.all fun v w' => ∃ r : Int, v = .int .i64 r ∧ leB 0 r = !args.all (Tx.whole n) := by
  refine vc_widx ((n + 1 : Nat) : Int) args.length c a p W.all _ hp (W.lt p hI) ?_
  refine den_loop (fun j vs ls _ => ∃ i : Nat, vs = [.int .i64 (i : Nat)] ∧ ls = [] ∧ i ≤ args.length ∧ j = args.length - i ∧ args.all (Tx.whole n) = (args.drop i).all (Tx.whole n)) args.length ⟨0, by simp [Sy.dens, Sy.den, E.i, E.b, E.t, gd, Env.push, List.cons_append, List.nil_append, List.append_nil, Int.toNat_natCast], rfl, Nat.zero_le _, rfl, rfl⟩ ?_
  rintro j vs ls' W2 x2 ⟨i, rfl, rfl, hi, rfl, ha⟩
  have x2' := ext_trans W.all_ext x2
  refine ⟨(i : Int), rfl, rfl, fun _ => den_br (fun c1 => ?_) fun c1 => den_ret fun _ _ _ => ⟨_, rfl, -1, rfl, ?_⟩⟩
  · simp only [Sy.dens, Sy.den, E.i, E.b, E.t, gd, Env.push, List.cons_append, List.nil_append, List.append_nil, Int.toNat_natCast, ltB_true] at c1
    have hil : i < args.length := by omega
    have hx : args[i]? = some args[i] := List.getElem?_eq_getElem hil
    obtain ⟨us, hu, hg⟩ := exs_get hE hx
    have hu2 : ExI W args[i] us := hu
    obtain ⟨op', k', nn', t', nm', al', len', cl', rfl⟩ := hu.shape
    refine den_chk ?_ (den_chk ?_ (den_look ⟨op', k', nn', len', cl', t', nm', al', fun W3 x3 => ?_, ?_⟩))
    · simp only [E.b, gd, Env.push]; exact SlI.some_of hS (by omega)
    · simp only [Sy.dens, Sy.den, E.i, E.b, E.t, gd, Env.push, List.cons_append, List.nil_append, List.append_nil, Int.toNat_natCast]; exact leB_t (by omega)
    · have := sl_look_at (W := W) hS ex_agg ex_size rfl (by decide) hg (ext_trans x2' x3)
      simp only [Sy.dens, Sy.den, E.i, E.b, E.t, gd, Env.push, List.cons_append, List.nil_append, List.append_nil, Int.toNat_natCast] at this ⊢
      exact this
    · simp only [Env.push, List.cons_append, List.nil_append, List.append_nil]
      have hq := wholec_q n hn ih args[i] _ W2 (Px.thin_mem hth (List.getElem_mem hil)) (hu2.ext x2') (hG.ext x2') p (by rw [x2'.keep p hI]; exact hp) (x2'.sub p hI)
      have ha1 : args.all (Tx.whole n) = (Tx.whole n args[i] && (args.drop (i + 1)).all (Tx.whole n)) := by rw [ha, tdrop_get hil]; rfl
      refine den_call_q (fun _ _ => hq) ⟨!Tx.whole n args[i], rfl, fun W3 x3 => den_br (fun c2 => den_ret fun _ _ _ => ⟨_, rfl, (i : Int), rfl, ?_⟩) fun c2 => den_again ⟨args.length - (i + 1), by omega, i + 1, ?_, rfl, by omega, rfl, ?_⟩⟩
      · have c2 : Tx.whole n args[i] = false := by simpa [Sy.dens, Sy.den, E.i, E.b, E.t, gd, Env.push, List.cons_append, List.nil_append, List.append_nil, Int.toNat_natCast] using c2
        rw [ha1, c2]; exact leB_t (by omega)
      · simp only [Sy.dens, Sy.den, E.i, E.b, E.t, gd, Env.push, List.cons_append, List.nil_append, List.append_nil, Int.toNat_natCast]; rw [w64i (by omega) (by omega)]; rfl
      · have c2 : Tx.whole n args[i] = true := by simpa [Sy.dens, Sy.den, E.i, E.b, E.t, gd, Env.push, List.cons_append, List.nil_append, List.append_nil, Int.toNat_natCast] using c2
        rw [ha1, c2, Bool.true_and]
  · simp only [Sy.dens, Sy.den, E.i, E.b, E.t, gd, Env.push, List.cons_append, List.nil_append, List.append_nil, Int.toNat_natCast, ltB_false] at c1
    rw [ha, List.drop_eq_nil_of_le (by omega)]; rfl
theorem wcont_q (n : Nat) (hn : n < 1000) (ih : WholeOk n) (args : List Px.Ex) (a : Option Addr) (c : Nat) (ls : List Value) (W : Wd) (hl : args.length ≤ 1000) (hth : Px.thins args = true) (hS : SlI W a args.length c 6 ls) (hE : ExsAt W.w W.I args ls) (hG : GlobT W) (p : Nat) (hp : W.w.heap[p]? = some (.cells #[.int .i64 ((n + 1 : Nat) : Int)] 3)) (hI : W.I p) :
    CallsQ Tryz.prog 36 #[.slice a args.length c, .func (.func 37) #[] #[.pointer (some ⟨p, 0, none⟩)]] W (.bool (!args.all (Tx.whole n))) := by
  refine vc_wcont ((n + 1 : Nat) : Int) args.length c a p W.all _ hp (W.lt p hI) ?_
  refine den_call_i (fun _ _ => widx_i n hn ih args a c ls W.all hl hth (SlAt.move (fun b hb _ => ⟨W.lt b hb, rfl⟩) hS) (ExsAt.move (fun b hb _ => ⟨W.lt b hb, rfl⟩) hE) (hG.ext W.all_ext) p hp (W.lt p hI)) fun v w' _ ⟨r, hv, hr⟩ => ⟨r, hv, fun W2 _ _ _ => den_ret fun _ _ _ => ⟨_, rfl, ?_⟩⟩
  show Value.bool (leB 0 r) = _
  rw [hr]
theorem arg_at {op : Int} (h : 1 ≤ op) (h2 : op ≤ 16) : (Tx.argTab.map fun n => Value.int .i64 n)[op.toNat]? = some (.int .i64 (Tx.argN op)) := by
  obtain ⟨k, rfl⟩ : ∃ k : Nat, op = k := ⟨op.toNat, by omega⟩
  have : k ≤ 16 := by omega
  simp only [Int.toNat_natCast]
  have e : Tx.argTab[k]? = some (Tx.argN (k : Int)) := by
    unfold Tx.argN
    rw [Int.toNat_natCast, List.getD_eq_getElem?_getD, List.getElem?_eq_getElem (by simp only [Tx.argTab, List.length_cons, List.length_nil]; omega)]
    rfl
  rw [List.getElem?_map, e]; rfl
theorem whole_ok : ∀ n : Nat, n < 1000 → WholeOk n := by
  intro n
  induction n with
  | zero =>
    intro _ x vs W hth hx hG
    obtain ⟨op, k, nn, t, nm, al, len, cl, rfl⟩ := hx.shape
    refine vc_whole op k nn ((0 : Nat) : Int) len cl t nm al W.all _ ?_
    refine den_new fun _ _ _ _ => den_new fun _ _ _ _ => den_br_f ?_ (den_grow fun _ _ => den_ret fun _ _ _ => ⟨_, rfl, ?_⟩)
    · simp [Sy.dens, Sy.den, E.i, E.b, E.t, gd, Env.push, List.cons_append, List.nil_append, List.append_nil, Int.toNat_natCast, ltB]
    · rfl
  | succ n ih =>
    intro hn x vs W hth hx hG
    have ih := ih (by omega)
    obtain ⟨op, k, nn, t, nm, args⟩ := x
    have hx := hx.ext W.all_ext
    have hG := hG.ext W.all_ext
    simp only [ExI, ExAt] at hx
    obtain ⟨a, c, ls, rfl, hS, hE⟩ := hx
    simp only [Px.thin, Bool.and_eq_true, decide_eq_true_eq] at hth
    obtain ⟨⟨hal, htl, hnl, hf0, hf1⟩, hth⟩ := hth
    refine vc_whole op k nn ((n + 1 : Nat) : Int) args.length c ⟨t.toArray⟩ ⟨nm.toArray⟩ a W.all _ ?_
    have htz : (⟨t.toArray⟩ : ByteArray).size = t.length := by rw [← size_len]
    rw [show Tx.whole (n + 1) (.mk op k nn t nm args) = ((decide (1 ≤ op) && decide (op ≤ 16)) && (((args.length : Int) == Tx.argN op) && ((op != 1 || Va.may ⟨k, nn, ⟨t.toArray⟩⟩) && args.all (Tx.whole n)))) from rfl]
    refine den_new fun m0 W1 hm0 x1 => den_new fun m1 W2 hm1 x2 => den_br (fun c0 => ?_) fun c0 => den_grow fun _ _ => den_ret fun _ _ _ => ⟨_, rfl, ?_⟩
    · have y2 := ext_trans x1 x2
      have hop : 1 ≤ op ∧ op ≤ 16 := by
        simp only [Sy.dens, Sy.den, E.i, E.b, E.t, gd, Env.push, List.cons_append, List.nil_append, List.append_nil, Int.toNat_natCast, Bool.not_eq_true', Bool.or_eq_false_iff, ltB_false] at c0
        omega
      have d1 : decide (1 ≤ op) = true := by simp [hop.1]
      have d2 : decide (op ≤ 16) = true := by simp [hop.2]
      rw [d1, d2, Bool.true_and, Bool.true_and]
      obtain ⟨ty, hga⟩ := hG.args
      refine den_chk ?_ (den_chk ?_ (den_adr (den_look ⟨Tx.argN op, fun V xV => ?_, ?_⟩)))
      · simp only [Sy.dens, Sy.den, E.i, E.b, E.t, gd, Env.push, List.cons_append, List.nil_append, List.append_nil, Int.toNat_natCast]; exact leB_t (by omega)
      · simp only [Sy.dens, Sy.den, E.i, E.b, E.t, gd, Env.push, List.cons_append, List.nil_append, List.append_nil, Int.toNat_natCast]; exact ltB_t (by omega)
      · simp only [Sy.dens, Sy.den, E.i, E.b, E.t, gd, Env.push, List.cons_append, List.nil_append, List.append_nil, Int.toNat_natCast]
        exact glob_look hga hG.argsI i64_aggT (arg_at hop.1 hop.2) (ext_trans y2 xV)
      simp only [Env.push, List.cons_append, List.nil_append, List.append_nil]
      have hcont : ∀ V, Ext W2 V → V.w.heap[m1]? = some (.cells #[.int .i64 ((n + 1 : Nat) : Int)] 3) → _ := fun V xV hp => wcont_q n (by omega) ih args a c ls V.all hal hth (SlAt.move (fun b hb _ => ⟨(ext_trans (ext_trans y2 xV) V.all_ext).sub b hb, (ext_trans y2 xV).keep b hb⟩) hS) (ExsAt.move (fun b hb _ => ⟨(ext_trans (ext_trans y2 xV) V.all_ext).sub b hb, (ext_trans y2 xV).keep b hb⟩) hE) (hG.ext (ext_trans (ext_trans y2 xV) V.all_ext)) m1 hp (Array.getElem?_eq_some_iff.1 hp).1
      refine den_br (fun c1 => ?_) fun c1 => den_grow fun W3 x3 => den_br (fun c2 => den_ret fun _ _ _ => ⟨_, rfl, ?_⟩) fun c2 => ?_
      · simp only [Sy.dens, Sy.den, E.i, E.b, E.t, gd, Env.push, List.cons_append, List.nil_append, List.append_nil, Int.toNat_natCast, Bool.and_eq_true] at c1
        have e1 : (op != 1) = false := by have := c1.2; rw [beq_iff_eq] at this; rw [this]; rfl
        rw [c1.1, e1, Bool.true_and, Bool.false_or]
        refine den_callq ⟨Va.may ⟨k, nn, ⟨t.toArray⟩⟩, fun V xV _ _ => Vs.may_q k nn ⟨t.toArray⟩ (by rw [htz]; omega) V, den_grow fun W3 x3 => den_br (fun c2 => den_ret fun _ _ _ => ⟨_, rfl, ?_⟩) fun c2 => ?_⟩
        · simp only [Sy.dens, Sy.den, E.i, E.b, E.t, gd, Env.push, List.cons_append, List.nil_append, List.append_nil, Int.toNat_natCast] at c2 ⊢
          have c2 : Va.may ⟨k, nn, ⟨t.toArray⟩⟩ = false := by simpa using c2
          rw [c2]; rfl
        · simp only [Sy.dens, Sy.den, E.i, E.b, E.t, gd, Env.push, List.cons_append, List.nil_append, List.append_nil, Int.toNat_natCast] at c2
          have c2 : Va.may ⟨k, nn, ⟨t.toArray⟩⟩ = true := by simpa using c2
          rw [c2, Bool.true_and]
          refine den_call_q (fun hb _ => hcont W3 x3 (hb _ (List.mem_singleton.2 rfl))) ⟨!args.all (Tx.whole n), rfl, fun W6 x6 => den_ret fun _ _ _ => ⟨_, rfl, ?_⟩⟩
          show Value.bool (!!args.all (Tx.whole n)) = _
          rw [Bool.not_not]
      · simp only [Sy.dens, Sy.den, E.i, E.b, E.t, gd, Env.push, List.cons_append, List.nil_append, List.append_nil, Int.toNat_natCast] at c2 ⊢
        have c2 : ((args.length : Int) == Tx.argN op) = false := by simpa using c2
        rw [c2]; rfl
      · simp only [Sy.dens, Sy.den, E.i, E.b, E.t, gd, Env.push, List.cons_append, List.nil_append, List.append_nil, Int.toNat_natCast] at c1 c2
        have c2 : ((args.length : Int) == Tx.argN op) = true := by simpa using c2
        rw [c2, Bool.true_and] at c1
        have e1 : (op != 1) = true := by rw [bne, c1]; rfl
        rw [c2, e1, Bool.true_and, Bool.true_or, Bool.true_and]
        refine den_call_q (fun hb _ => hcont W3 x3 (hb _ (List.mem_singleton.2 rfl))) ⟨!args.all (Tx.whole n), rfl, fun W6 x6 => den_ret fun _ _ _ => ⟨_, rfl, ?_⟩⟩
        show Value.bool (!!args.all (Tx.whole n)) = _
        rw [Bool.not_not]
    · simp only [Sy.dens, Sy.den, E.i, E.b, E.t, gd, Env.push, List.cons_append, List.nil_append, List.append_nil, Int.toNat_natCast] at c0 ⊢
      congr 1
      have hlt : ltB ((n + 1 : Nat) : Int) 1 = false := by rw [ltB_false]; omega
      rw [hlt] at c0
      have : ¬ (1 ≤ op) ∨ ¬ (op ≤ 16) := by
        simp only [Bool.not_eq_false', Bool.false_or, Bool.or_eq_true, ltB_true] at c0
        omega
      rcases this with h | h <;> simp [h]
theorem tWhole_q (x : Px.Ex) (vs : List Value) (W : Wd) (hth : Px.thin x = true) (hx : ExI W x vs) (hG : GlobT W) : CallsQ Tryz.prog 10 #[.agg vs.toArray] W (.bool (Tx.whole 16 x)) := by
  obtain ⟨op, k, nn, t, nm, al, len, cl, rfl⟩ := hx.shape
  refine vc_tWhole op k nn len cl t nm al W.all _ ?_
  have h := whole_ok 16 (by decide)
  refine den_new fun m0 W1 _ x1 => den_call_q (fun _ _ => h x _ W1 hth (hx.ext (ext_trans W.all_ext x1)) (hG.ext (ext_trans W.all_ext x1))) ⟨Tx.whole 16 x, rfl, fun W2 x2 => den_ret fun _ _ _ => ⟨_, rfl, rfl⟩⟩
end Go.Proofs.YtijinopghlpdbaaGreatDoor
