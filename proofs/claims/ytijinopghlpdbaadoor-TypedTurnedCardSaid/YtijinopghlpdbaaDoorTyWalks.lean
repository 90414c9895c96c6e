/- The statements TypedTurned, TypedParts, TypedVars: the walks. -/
import Derived.Test.YtijinopghlpdbaaDoorTyLaw
import Derived.Test.YtijinopghlpdbaaDoorVcTypedM
namespace Go.Proofs.YtijinopghlpdbaaDoor
open Go Go.RowKit Go.SF
set_option linter.unusedSimpArgs false
set_option linter.unusedVariables false

/-! ### turned about -/
def ops6 : List Int := [11, 12, 13, 14, 8, 5]
theorem ops6_at : ∀ i, i < 6 → ∃ o, ops6[i]? = some o ∧ ¬ o = 1 ∧ ¬ o = 2 := by decide
theorem thin_two {x y : Px.Ex} (hx : Px.thin x = true) (hy : Px.thin y = true) (o : Int) : Px.thin (Px.op2 o x y) = true := by
  simp [Px.op2, Px.thin, Px.thins, hx, hy]
theorem two_all {W : Wd} {m : Nat} {ty : TypeId} {x y : Px.Ex} {vs us : List Value} (h : W.w.heap[m]? = some (.cells (vs ++ us).toArray ty)) (hx : ExI W.all x vs) (hy : ExI W.all y us) (o : Int) : ExI W.all (Px.op2 o x y) (exV o 0 0 [] [] (some ⟨m, 0, none⟩) 2 2) :=
  ExAt.two (J := W.all.I) h (Array.getElem?_eq_some_iff.1 h).1 hx hy o
theorem turned_q (x y : Px.Ex) (vs us : List Value) (vars : List Tx.Var) (a : Option Addr) (c : Nat) (which : Int) (W : Wd) (hw0 : 0 ≤ which) (hwx : Tx.wide x = true) (hwy : Tx.wide y = true) (hx : ExI W x vs) (hy : ExI W y us) (hV : VarsI W a c vars) (hG : Glob W) (hT : GlobT W) :
    CallsQ Tryd.prog 5 #[.agg vs.toArray, .agg us.toArray, .slice a vars.length c, .int .u8 which] W (.bool true) := by
  have hx := hx.ext W.all_ext
  have hy := hy.ext W.all_ext
  have hG := hG.ext W.all_ext
  have hT := hT.ext W.all_ext
  have hV := hV.all
  obtain ⟨op, k, nn, t, nm, al, len, cl, rfl⟩ := hx.shape
  obtain ⟨op', k', nn', t', nm', al', len', cl', rfl⟩ := hy.shape
  refine vc_lturned op k nn op' k' nn' which len cl len' cl' vars.length c t nm t' nm' al al' a W.all _ ?_
  refine den_new fun m0 W1 _ x1 => den_new fun m1 W2 _ x2 => ?_
  have y2 := ext_trans x1 x2
  refine den_call_q (fun _ _ => large_q x _ vars a c W2 hwx (hx.ext y2)) ⟨Tx.large x vars, rfl, fun W3 x3 => den_br (fun c1 => ?_) fun c1 => ?_⟩
  · have c1 : Tx.large x vars = false := by simpa [Sy.dens, Sy.den, E.i, E.b, E.t, gd, Env.push, List.cons_append, List.nil_append, List.append_nil, Int.toNat_natCast] using c1
    have y3 := ext_trans y2 x3
    refine den_call_q (fun _ _ => large_q y _ vars a c W3 hwy (hy.ext y3)) ⟨Tx.large y vars, rfl, fun W4 x4 => den_br (fun c2 => ?_) fun c2 => ?_⟩
    · have c2 : Tx.large y vars = false := by simpa [Sy.dens, Sy.den, E.i, E.b, E.t, gd, Env.push, List.cons_append, List.nil_append, List.append_nil, Int.toNat_natCast] using c2
      have y4 := ext_trans y3 x4
      refine den_call_q (fun _ _ => awake_q W4 (hG.ext y4) (hT.ext y4)) ⟨true, rfl, fun W5 x5 => den_br (fun c3 => by cases c3) fun _ => ?_⟩
      have y5 := ext_trans y4 x5
      simp only [Tx.large, Bool.or_eq_false_iff, decide_eq_false_iff_not] at c1 c2
      have hthx := (Tx.thin_of 41 x c1.1 hwx).1
      have hthy := (Tx.thin_of 41 y c2.1 hwy).1
      have hm0 := Int.tmod_nonneg 6 hw0
      have hm1 := Int.tmod_lt_of_pos which (b := 6) (by decide)
      obtain ⟨i, hi⟩ : ∃ i : Nat, which.tmod 6 = (i : Int) := ⟨(which.tmod 6).toNat, by omega⟩
      obtain ⟨o, ho, ho1, ho2⟩ := ops6_at i (by omega)
      refine den_newf fun m2 W6 _ x6 I6 h6 => den_chk rfl (den_chk ?_ (den_chk ?_ (den_look ⟨o, fun V xV => ?_, ?_⟩)))
      · simp only [Sy.dens, Sy.den, E.i, E.b, E.t, gd, Env.push, List.cons_append, List.nil_append, List.append_nil, Int.toNat_natCast]; rw [hi]; exact leB_t (by omega)
      · simp only [Sy.dens, Sy.den, E.i, E.b, E.t, gd, Env.push, List.cons_append, List.nil_append, List.append_nil, Int.toNat_natCast]; rw [hi]; exact ltB_t (by omega)
      · simp only [Sy.dens, Sy.den, E.i, E.b, E.t, gd, Env.push, List.cons_append, List.nil_append, List.append_nil, Int.toNat_natCast]; rw [hi]
        refine glob_look h6 I6 u8_aggT ?_ xV
        have : (ops6.map fun n => Value.int .u8 n)[i]? = some (.int .u8 o) := by rw [List.getElem?_map, ho]; rfl
        exact this
      simp only [Env.push, List.cons_append, List.nil_append, List.append_nil]
      have y6 := ext_trans y5 x6
      have tt := Tx.turned vars o x y ⟨ho1, ho2⟩
      refine den_new fun m3 W7 _ x7 => ?_
      have y7 := ext_trans (ext_trans y6 x7) W7.all_ext
      refine den_call_q (fun hb _ => ?_) ⟨(Tx.type vars (Px.op2 o x y)).1, (Tx.type vars (Px.op2 o x y)).2, rfl, fun W8 x8 => ?_⟩
      · have hb := hb _ (List.mem_singleton.2 rfl)
        exact tType_q (Px.op2 o x y) _ vars a c W7.all (thin_two hthx hthy o) (by omega) (two_all (vs := [.int .u8 op, .int .u8 k, .int .i64 nn, .string t, .string nm, .slice al len cl]) (us := [.int .u8 op', .int .u8 k', .int .i64 nn', .string t', .string nm', .slice al' len' cl']) hb (hx.ext y7) (hy.ext y7) o) (hV.ext y7) (hT.ext y7)
      simp only [Env.push, List.cons_append, List.nil_append, List.append_nil]
      refine den_new fun m4 W9 _ x9 => ?_
      have y9 := ext_trans (ext_trans (ext_trans (ext_trans y6 x7) x8) x9) W9.all_ext
      refine den_call_q (fun hb _ => ?_) ⟨(Tx.type vars (Px.op2 o y x)).1, (Tx.type vars (Px.op2 o y x)).2, rfl, fun W10 x10 => den_ret fun _ _ _ => ⟨_, rfl, ?_⟩⟩
      · have hb := hb _ (List.mem_singleton.2 rfl)
        exact tType_q (Px.op2 o y x) _ vars a c W9.all (thin_two hthy hthx o) (by omega) (two_all (vs := [.int .u8 op', .int .u8 k', .int .i64 nn', .string t', .string nm', .slice al' len' cl']) (us := [.int .u8 op, .int .u8 k, .int .i64 nn, .string t, .string nm, .slice al len cl]) hb (hy.ext y9) (hx.ext y9) o) (hV.ext y9) (hT.ext y9)
      simp only [Sy.dens, Sy.den, E.i, E.b, E.t, gd, Env.push, List.cons_append, List.nil_append, List.append_nil, Int.toNat_natCast]
      congr 1
      rw [tt.1]
      have e2 : ((Tx.type vars (Px.op2 o x y)).2 == 0) = ((Tx.type vars (Px.op2 o y x)).2 == 0) := by rw [Bool.eq_iff_iff]; simp only [beq_iff_eq]; exact tt.2
      rw [e2]; simp
    · have y4 := ext_trans y3 x4
      exact den_call_q (fun _ _ => awake_q W4 (hG.ext y4) (hT.ext y4)) ⟨true, rfl, fun W5 x5 => den_ret fun _ _ _ => ⟨_, rfl, rfl⟩⟩
  · have y3 := ext_trans y2 x3
    exact den_call_q (fun _ _ => awake_q W3 (hG.ext y3) (hT.ext y3)) ⟨true, rfl, fun W5 x5 => den_ret fun _ _ _ => ⟨_, rfl, rfl⟩⟩

/-! ### parts -/
theorem parts_q (n : Nat) : ∀ (x : Px.Ex) (vs : List Value) (vars : List Tx.Var) (a : Option Addr) (c : Nat) (W : Wd), Px.deep x ≤ n → Tx.wide x = true → ExI W x vs → VarsI W a c vars → Glob W → GlobT W →
    CallsQ Tryd.prog 4 #[.agg vs.toArray, .slice a vars.length c] W (.bool true) := by
  induction n with
  | zero => intro x vs vars a c W h; cases x; simp [Px.deep] at h
  | succ n ih =>
    intro x vs vars a c W hd hw hx hV hG hT
    have hx := hx.ext W.all_ext
    have hG := hG.ext W.all_ext
    have hT := hT.ext W.all_ext
    have hV := hV.all
    obtain ⟨op, k, nn, t, nm, args⟩ := x
    have hx0 := hx
    simp only [ExI, ExAt] at hx
    obtain ⟨al, cl, ls, rfl, hS, hE⟩ := hx
    refine vc_lparts op k nn args.length cl vars.length c ⟨t.toArray⟩ ⟨nm.toArray⟩ al a W.all _ ?_
    refine den_new fun m0 W1 _ x1 => ?_
    refine den_call_q (fun _ _ => large_q _ _ vars a c W1 hw (hx0.ext x1)) ⟨Tx.large (.mk op k nn t nm args) vars, rfl, fun W2 x2 => den_br (fun c1 => ?_) fun c1 => ?_⟩
    · have c1 : Tx.large (.mk op k nn t nm args) vars = false := by simpa [Sy.dens, Sy.den, E.i, E.b, E.t, gd, Env.push, List.cons_append, List.nil_append, List.append_nil, Int.toNat_natCast] using c1
      have y2 := ext_trans x1 x2
      refine den_call_q (fun _ _ => awake_q W2 (hG.ext y2) (hT.ext y2)) ⟨true, rfl, fun W3 x3 => den_br (fun c3 => by cases c3) fun _ => ?_⟩
      have y3 := ext_trans y2 x3
      simp only [Tx.large, Bool.or_eq_false_iff, decide_eq_false_iff_not] at c1
      have hth := (Tx.thin_of 41 _ c1.1 hw).1
      refine den_call_q (fun _ _ => tType_q _ _ vars a c W3 hth (by omega) (hx0.ext y3) (hV.ext y3) (hT.ext y3)) ⟨(Tx.type vars (.mk op k nn t nm args)).1, (Tx.type vars (.mk op k nn t nm args)).2, rfl, fun W4 x4 => den_br (fun c2 => den_ret fun _ _ _ => ⟨_, rfl, rfl⟩) fun c2 => ?_⟩
      have c2 : (Tx.type vars (.mk op k nn t nm args)).2 = 0 := by simpa [Sy.dens, Sy.den, E.i, E.b, E.t, gd, Env.push, List.cons_append, List.nil_append, List.append_nil, Int.toNat_natCast] using c2
      have hp := Tx.parts c2
      have y4 := ext_trans y3 x4
      simp only [Tx.wide, Bool.and_eq_true, decide_eq_true_eq] at hw
      simp only [Px.thin, Bool.and_eq_true, decide_eq_true_eq] at hth
      simp only [Px.deep] at hd
      refine den_loop (fun j vs ls _ => ∃ i : Nat, vs = [.int .i64 (i : Nat)] ∧ ls = [] ∧ i ≤ args.length ∧ j = args.length - i) args.length ⟨0, by simp [Sy.dens, Sy.den, E.i, E.b, E.t, gd, Env.push, List.cons_append, List.nil_append, List.append_nil, Int.toNat_natCast], rfl, Nat.zero_le _, rfl⟩ ?_
      rintro j vs ls' W5 x5 ⟨i, rfl, rfl, hi, rfl⟩
      have y5 := ext_trans y4 x5
      refine ⟨(i : Int), rfl, rfl, fun _ => den_br (fun c3 => ?_) fun c3 => den_ret fun _ _ _ => ⟨_, rfl, rfl⟩⟩
      simp only [Sy.dens, Sy.den, E.i, E.b, E.t, gd, Env.push, List.cons_append, List.nil_append, List.append_nil, Int.toNat_natCast, ltB_true] at c3
      have hil : i < args.length := by omega
      have hx : args[i]? = some args[i] := List.getElem?_eq_getElem hil
      have hmem := List.getElem_mem hil
      obtain ⟨us, hu, hg⟩ := exs_get hE hx
      have hu2 : ExI W.all args[i] us := hu
      obtain ⟨op', k', nn', t', nm', al', len', cl', rfl⟩ := hu.shape
      obtain ⟨p1, p2, p3⟩ := hp _ hmem
      have hdm := Px.deep_mem hmem
      have lk : ∀ V, Ext W5 V → _ := fun V xV => sl_look_at (W := W.all) hS ex_agg ex_size rfl (by decide) hg (ext_trans y5 xV)
      refine den_chk ?_ (den_chk ?_ (den_look ⟨op', k', nn', len', cl', t', nm', al', fun V xV => ?_, ?_⟩))
      · simp only [E.b, gd, Env.push]; exact SlI.some_of hS (by omega)
      · simp only [Sy.dens, Sy.den, E.i, E.b, E.t, gd, Env.push, List.cons_append, List.nil_append, List.append_nil, Int.toNat_natCast]; exact leB_t (by omega)
      · have := lk V xV
        simp only [Sy.dens, Sy.den, E.i, E.b, E.t, gd, Env.push, List.cons_append, List.nil_append, List.append_nil, Int.toNat_natCast] at this ⊢
        exact this
      simp only [Env.push, List.cons_append, List.nil_append, List.append_nil]
      have hq := tType_q args[i] _ vars a c W5 (Px.thin_mem hth.2 hmem) (by omega) (hu2.ext y5) (hV.ext y5) (hT.ext y5)
      refine den_call_q (fun _ _ => hq) ⟨(Tx.type vars args[i]).1, (Tx.type vars args[i]).2, rfl, fun W6 x6 => ?_⟩
      simp only [Env.push, List.cons_append, List.nil_append, List.append_nil]
      refine den_br_t ?_ (den_look ⟨op', k', nn', len', cl', t', nm', al', fun V xV => ?_, ?_⟩)
      · simp [Sy.dens, Sy.den, E.i, E.b, E.t, gd, Env.push, List.cons_append, List.nil_append, List.append_nil, Int.toNat_natCast, p1, p2]
      · have := lk V (ext_trans x6 xV)
        simp only [Sy.dens, Sy.den, E.i, E.b, E.t, gd, Env.push, List.cons_append, List.nil_append, List.append_nil, Int.toNat_natCast] at this ⊢
        exact this
      simp only [Env.push, List.cons_append, List.nil_append, List.append_nil]
      have y6 := ext_trans y5 x6
      have hq := tWhole_q args[i] _ W6 (Px.thin_mem hth.2 hmem) (hu2.ext y6) (hT.ext y6)
      rw [p3] at hq
      refine den_call_q (fun _ _ => hq) ⟨true, rfl, fun W7 x7 => den_br_t rfl (den_look ⟨op', k', nn', len', cl', t', nm', al', fun V xV => ?_, ?_⟩)⟩
      · have := lk V (ext_trans x6 (ext_trans x7 xV))
        simp only [Sy.dens, Sy.den, E.i, E.b, E.t, gd, Env.push, List.cons_append, List.nil_append, List.append_nil, Int.toNat_natCast] at this ⊢
        exact this
      simp only [Env.push, List.cons_append, List.nil_append, List.append_nil]
      have y7 := ext_trans y6 x7
      have hq := ih args[i] _ vars a c W7 (by omega) (Tx.wide_mem hw.2 hmem) (hu2.ext y7) (hV.ext y7) (hG.ext y7) (hT.ext y7)
      refine den_call_q (fun _ _ => hq) ⟨true, rfl, fun W8 x8 => den_br_f rfl (den_again ⟨args.length - (i + 1), by omega, i + 1, ?_, rfl, by omega, rfl⟩)⟩
      simp only [Sy.dens, Sy.den, E.i, E.b, E.t, gd, Env.push, List.cons_append, List.nil_append, List.append_nil, Int.toNat_natCast]; rw [w64i (by omega) (by omega)]; rfl
    · have y3 := ext_trans x1 x2
      exact den_call_q (fun _ _ => awake_q W2 (hG.ext y3) (hT.ext y3)) ⟨true, rfl, fun W5 x5 => den_ret fun _ _ _ => ⟨_, rfl, rfl⟩⟩

/-! ### which variables it names -/
theorem namesL_snoc (nm : Lx.Bs) (l : List Px.Ex) (e : Px.Ex) : Tx.namesL nm (l ++ [e]) = (Tx.namesL nm l || Tx.names nm e) := by
  induction l with
  | nil => simp [Tx.namesL]
  | cons x l ih => simp only [List.cons_append, Tx.namesL, ih, Bool.or_assoc]
theorem namesL_more (nm : Lx.Bs) (l m : List Px.Ex) (h : Tx.namesL nm l = true) : Tx.namesL nm (l ++ m) = true := by
  induction l with
  | nil => cases h
  | cons x l ih =>
    simp only [List.cons_append, Tx.namesL, Bool.or_eq_true] at h ⊢
    exact h.imp id ih
theorem names_q (n : Nat) : ∀ (x : Px.Ex) (vs : List Value) (nm : Lx.Bs) (W : Wd), Px.deep x ≤ n → Px.thin x = true → ExI W x vs →
    CallsQ Tryd.prog 9 #[.agg vs.toArray, .string ⟨nm.toArray⟩] W (.bool (Tx.names nm x)) := by
  induction n with
  | zero => intro x vs nm W h; cases x; simp [Px.deep] at h
  | succ n ih =>
    intro x vs nm0 W hd hth hx
    have hx := hx.ext W.all_ext
    obtain ⟨op, k, nn, t, nm, args⟩ := x
    simp only [ExI, ExAt] at hx
    obtain ⟨al, cl, ls, rfl, hS, hE⟩ := hx
    simp only [Px.thin, Bool.and_eq_true, decide_eq_true_eq] at hth
    simp only [Px.deep] at hd
    refine vc_lnames op k nn args.length cl ⟨t.toArray⟩ ⟨nm.toArray⟩ ⟨nm0.toArray⟩ al W.all _ ?_
    refine den_new fun m0 W1 _ x1 => den_loop (fun j vs ls _ => ∃ i : Nat, vs = [.bool ((op == 2 && nm == nm0) || Tx.namesL nm0 (args.take i)), .int .i64 (i : Nat)] ∧ ls = [] ∧ i ≤ args.length ∧ j = args.length - i) args.length ⟨0, by simp only [Sy.dens, Sy.den, E.i, E.b, E.t, gd, Env.push, List.cons_append, List.nil_append, List.append_nil, Int.toNat_natCast, tba]; simp [Tx.namesL], rfl, Nat.zero_le _, rfl⟩ ?_
    rintro j vs ls' W2 x2 ⟨i, rfl, rfl, hi, rfl⟩
    have y2 := ext_trans x1 x2
    refine ⟨(i : Int), ((op == 2 && nm == nm0) || Tx.namesL nm0 (args.take i)), rfl, rfl, fun _ => den_br (fun c1 => ?_) fun c1 => den_ret fun _ _ _ => ⟨_, rfl, ?_⟩⟩
    · simp only [Sy.dens, Sy.den, E.i, E.b, E.t, gd, Env.push, List.cons_append, List.nil_append, List.append_nil, Int.toNat_natCast, ltB_true] at c1
      have hil : i < args.length := by omega
      have hx : args[i]? = some args[i] := List.getElem?_eq_getElem hil
      have htk : args.take (i + 1) = args.take i ++ [args[i]] := by rw [List.take_add_one, hx]; rfl
      obtain ⟨us, hu, hg⟩ := exs_get hE hx
      have hu2 : ExI W.all args[i] us := hu
      obtain ⟨op', k', nn', t', nm', al', len', cl', rfl⟩ := hu.shape
      have hdm := Px.deep_mem (List.getElem_mem hil)
      refine den_chk ?_ (den_chk ?_ (den_br (fun c2 => den_look ⟨op', k', nn', len', cl', t', nm', al', fun V xV => ?_, ?_⟩) fun c2 => den_again ⟨args.length - (i + 1), by omega, i + 1, ?_, rfl, by omega, rfl⟩))
      · simp only [Sy.dens, Sy.den, E.i, E.b, E.t, gd, Env.push, List.cons_append, List.nil_append, List.append_nil, Int.toNat_natCast]; rw [SlI.some_of hS (by omega), Bool.or_true]
      · simp only [Sy.dens, Sy.den, E.i, E.b, E.t, gd, Env.push, List.cons_append, List.nil_append, List.append_nil, Int.toNat_natCast]; rw [leB_t (by omega), Bool.or_true]
      · have := sl_look_at (W := W.all) hS ex_agg ex_size rfl (by decide) hg (ext_trans y2 xV)
        simp only [Sy.dens, Sy.den, E.i, E.b, E.t, gd, Env.push, List.cons_append, List.nil_append, List.append_nil, Int.toNat_natCast] at this ⊢
        exact this
      · simp only [Env.push, List.cons_append, List.nil_append, List.append_nil]
        have c2 : ((op == 2 && nm == nm0) || Tx.namesL nm0 (args.take i)) = false := by simpa only [Sy.dens, Sy.den, E.i, E.b, E.t, gd, Env.push, List.cons_append, List.nil_append, List.append_nil, Int.toNat_natCast, Bool.not_eq_true'] using c2
        have hq := ih args[i] _ nm0 W2 (by omega) (Px.thin_mem hth.2 (List.getElem_mem hil)) (hu2.ext y2)
        refine den_call_q (fun _ _ => hq) ⟨Tx.names nm0 args[i], rfl, fun W3 x3 => den_again ⟨args.length - (i + 1), by omega, i + 1, ?_, rfl, by omega, rfl⟩⟩
        simp only [Sy.dens, Sy.den, E.i, E.b, E.t, gd, Env.push, List.cons_append, List.nil_append, List.append_nil, Int.toNat_natCast]
        rw [w64i (by omega) (by omega), htk, namesL_snoc, ← Bool.or_assoc, c2, Bool.false_or]; rfl
      · have c2 : ((op == 2 && nm == nm0) || Tx.namesL nm0 (args.take i)) = true := by simpa only [Sy.dens, Sy.den, E.i, E.b, E.t, gd, Env.push, List.cons_append, List.nil_append, List.append_nil, Int.toNat_natCast, Bool.not_eq_false'] using c2
        simp only [Sy.dens, Sy.den, E.i, E.b, E.t, gd, Env.push, List.cons_append, List.nil_append, List.append_nil, Int.toNat_natCast]
        rw [w64i (by omega) (by omega), htk, namesL_snoc, ← Bool.or_assoc, c2, Bool.true_or]; rfl
    · simp only [Sy.dens, Sy.den, E.i, E.b, E.t, gd, Env.push, List.cons_append, List.nil_append, List.append_nil, Int.toNat_natCast, ltB_false] at c1
      obtain rfl : i = args.length := by omega
      rw [List.take_length]; rfl
end Go.Proofs.YtijinopghlpdbaaDoor
