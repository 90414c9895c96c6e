/- Texts of the claim, one behind the other: SfF VcVal2 MdPart MdNode MdProc VdP VcVal3 VdSe VdLink VdLinks VdPlaces VdStarts VdCall. -/
import Derived.Test.YtkpjmlnhhggenaaGreatDoorPt3
import Derived.Test.YtkpjmlnhhggenaaGreatDoorPt2
import Derived.Test.YtkpjmlnhhggenaaGreatDoorProg
set_option linter.unusedSimpArgs false
set_option linter.unusedVariables false
section
/- The walk that the kernel computes: symbolic values and worlds, and that they are sound. -/
section
namespace Go.SF
open Go Go.RowKit
variable {P : Program}
structure Cut where
 k : Nat
 S : St
 T : Tree
def atB (k : Nat) (b : Code) : Bool := match firstR b with
 | some j => Nat.beq j k
 | none => false
def cutIn (k : Nat) : Code → Bool
 | .seq a b => atB k b || (cutIn k a || cutIn k b)
 | _ => false
def oneAt (k : Nat) (a b : Code) : Bool := if cutIn k a then !(atB k b) && !(cutIn k b) else !(atB k b && cutIn k b)
def cntSame (a b : Cnt) : Bool := Nat.beq a.I b.I && (Nat.beq a.N b.N && (Nat.beq a.B b.B && (Nat.beq a.T b.T && (Nat.beq a.V b.V && (Nat.beq a.A b.A && (Nat.beq a.M b.M && Nat.beq a.L b.L))))))
theorem cntSame_eq {a b : Cnt} (h : cntSame a b = true) : a = b := by
 cases a; cases b
 simp only [cntSame, Bool.and_eq_true] at h
 obtain ⟨h1, h2, h3, h4, h5, h6, h7, h8⟩ := h
 rw [Nat.eq_of_beq_eq_true h1, Nat.eq_of_beq_eq_true h2, Nat.eq_of_beq_eq_true h3, Nat.eq_of_beq_eq_true h4, Nat.eq_of_beq_eq_true h5, Nat.eq_of_beq_eq_true h6, Nat.eq_of_beq_eq_true h7, Nat.eq_of_beq_eq_true h8]
def xtab (x : Cut) (s' : St) : Option Tree :=
 if cover s' x.S && (rowsSame s'.rw x.S.rw && (x.S.kn.isEmpty && (cntSame s'.c x.S.c && Nat.beq x.S.lp s'.lp))) then some x.T else none
theorem xtab_ok {x : Cut} {s' : St} {t : Tree} (h : xtab x s' = some t) {N : Nat} {W0 : Wd} {ρ : Env} {a : Act} {W : Wd} (hh : Holds N W0 ρ s' a W) : t = x.T ∧ x.S.lp = s'.lp ∧ Holds N W0 ρ x.S a W := by
 unfold xtab at h
 split at h
 ·rename_i hc
  simp only [Bool.and_eq_true] at hc
  obtain ⟨h1, h2, h3, h4, h5⟩ := hc
  refine ⟨(Option.some.inj h).symm, Nat.eq_of_beq_eq_true h5, ?_⟩
  have hr := rowsSame_eq h2
  have hk : x.S.kn = [] := List.isEmpty_iff.1 h3
  have := hh.cover h1 (by rw [← hr]; exact hh.rowsGood) (by rw [hk]; intro p hp; cases hp)
  rw [cntSame_eq h4] at this
  exact this
 ·cases h
def xm (P : Program) (cf : Cfg) (inl : Inl) (cs : List Cut) : Code → St → (X → St → Option Tree) → Option Tree
 | .seq a b, s, K => if cs.all fun x => oneAt x.k a b then
   xm P cf inl cs a s fun x s' => match x with
    | .nrm => match cs.find? fun y => atB y.k b with
     | some y => xtab y s'
     | none => xm P cf inl cs b s' K
    | x => K x s'
  else none
 | c, s, K => xcode P cf inl c s K
def xf (P : Program) (cf : Cfg) (inl : Inl) (k : Nat) (cs : List Cut) : Code → St → (X → St → Option Tree) → Option Tree
 | .seq a b, s, K => if cs.all fun x => oneAt x.k a b then
   if cutIn k a then xf P cf inl k cs a s fun x s' => match x with
    | .nrm => match cs.find? fun y => atB y.k b with
     | some y => xtab y s'
     | none => xm P cf inl cs b s' K
    | x => K x s'
   else if atB k b then xm P cf inl cs b s K else xf P cf inl k cs b s K
  else none
 | _, _, _ => none
def wpFrom (P : Program) (k : Nat) : Code → (Exit → Act → World → Prop) → Act → World → Prop
 | .seq a b, Q, act, w => if cutIn k a then wpFrom P k a (Exit.then (fun act w => b.wp P Q act w) Q) act w else if atB k b then b.wp P Q act w else wpFrom P k b Q act w
 | _, _, _, _ => False
def Claim (P : Program) (N : Nat) (W0 : Wd) (R : Ending → World → Prop) (c : Code) (Q : Exit → Act → World → Prop) (L : Lv) (ρ : Env) (W : Wd) (x : Cut) : Prop :=
 ∀ d M a' W', Ext W W' → Holds N W0 (ρ.push d) x.S a' W' → x.S.lp = (L ++ M).length → x.T.den P N R (L ++ M) (ρ.push d) W' → wpFrom P x.k c Q a' W'.w
theorem Claim.step {N : Nat} {W0 : Wd} {R : Ending → World → Prop} {c : Code} {Q : Exit → Act → World → Prop} {L M : Lv} {ρ d : Env} {W W1 : Wd} {y : Cut} (h : Claim P N W0 R c Q L ρ W y) (x : Ext W W1) : Claim P N W0 R c Q (L ++ M) (ρ.push d) W1 y :=
 fun e M' a' W' hx h1 h2 h3 => h (d.push e) (M ++ M') a' W' (x.trans hx) (by rw [← push_push]; exact h1) (by rw [← List.append_assoc]; exact h2) (by rw [← push_push, ← List.append_assoc]; exact h3)
section
variable {N : Nat} {W0 : Wd} {R : Ending → World → Prop} {cf : Cfg} {inl : Inl} {cs : List Cut}
theorem Claim.left {a b : Code} {Q : Exit → Act → World → Prop} {L : Lv} {ρ : Env} {W : Wd} {y : Cut} (h : Claim P N W0 R (.seq a b) Q L ρ W y) (hc : cutIn y.k a = true) : Claim P N W0 R a (Exit.then (fun act w => b.wp P Q act w) Q) L ρ W y :=
 fun d M a' W' hx h1 h2 h3 => by
  have := h d M a' W' hx h1 h2 h3
  simp only [wpFrom, hc, if_true] at this
  exact this
theorem Claim.right {a b : Code} {Q : Exit → Act → World → Prop} {L : Lv} {ρ : Env} {W : Wd} {y : Cut} (h : Claim P N W0 R (.seq a b) Q L ρ W y) (ha : cutIn y.k a = false) (hb : atB y.k b = false) : Claim P N W0 R b Q L ρ W y :=
 fun d M a' W' hx h1 h2 h3 => by
  have := h d M a' W' hx h1 h2 h3
  simp only [wpFrom, ha, hb] at this
  exact this
theorem oneAt_b {k : Nat} {a b : Code} (h : oneAt k a b = true) (hb : cutIn k b = true) : cutIn k a = false ∧ atB k b = false := by
 unfold oneAt at h
 split at h
 ·simp [hb] at h
 ·rename_i ha
  simp only [hb, Bool.and_true, Bool.not_eq_true'] at h
  exact ⟨by simpa using ha, h⟩
theorem oneAt_at {k : Nat} {a b : Code} (h : oneAt k a b = true) (hb : atB k b = true) : cutIn k a = false := by
 unfold oneAt at h
 split at h
 ·simp [hb] at h
 ·rename_i ha; simpa using ha
theorem seqK {a b : Code} {K : X → St → Option Tree} {Q : Exit → Act → World → Prop} {L : Lv} {ρ : Env} {W : Wd} (hall : (cs.all fun x => oneAt x.k a b) = true) (hK : KOkX P N W0 R L ρ W K Q)
  (hcl : ∀ x ∈ cs, cutIn x.k (.seq a b) = true → Claim P N W0 R (.seq a b) Q L ρ W x)
  (ihb : ∀ s K t L ρ act W Q, PanOk W0 R Q → xm P cf inl cs b s K = some t → Holds N W0 ρ s act W → s.lp = L.length → t.den P N R L ρ W → KOkX P N W0 R L ρ W K Q → (∀ x ∈ cs, cutIn x.k b = true → Claim P N W0 R b Q L ρ W x) → b.wp P Q act W.w) (hP : PanOk W0 R Q) :
  KOkX P N W0 R L ρ W (fun x s' => match x with
    | .nrm => match cs.find? fun y => atB y.k b with
     | some y => xtab y s'
     | none => xm P cf inl cs b s' K
    | x => K x s') (Exit.then (fun act w => b.wp P Q act w) Q) := by
 intro z s' t' e M a' W' h1 hx' hl' h2 h3
 cases z with
 | nrm =>
  dsimp only at h1
  split at h1
  ·rename_i y hy
   have hm := List.mem_of_find?_eq_some hy
   have hat : atB y.k b = true := by have := List.find?_some hy; simpa using this
   have ha := oneAt_at (List.all_eq_true.1 hall y hm) hat
   obtain ⟨rfl, hl2, h4⟩ := xtab_ok h1 h2
   have := hcl y hm (by simp [cutIn, hat]) e M a' W' hx' h4 (hl2.trans hl') h3
   simp only [wpFrom, ha, hat, if_true] at this
   exact this
  ·exact ihb s' K t' (L ++ M) (ρ.push e) a' W' Q hP h1 h2 hl' h3 (hK.step hx') fun x hx hc => by
    have ho := oneAt_b (List.all_eq_true.1 hall x hx) hc
    exact ((hcl x hx (by simp [cutIn, hc])).step hx').right ho.1 ho.2
 | exit id => exact hK (.exit id) s' t' e M a' W' h1 hx' hl' h2 h3
 | ret => exact hK .ret s' t' e M a' W' h1 hx' hl' h2 h3
theorem xm_ok (hI : InlOk P inl) : ∀ (c : Code) (s : St) (K : X → St → Option Tree) (t : Tree) (L : Lv) (ρ : Env) (a : Act) (W : Wd) (Q : Exit → Act → World → Prop), PanOk W0 R Q →
  xm P cf inl cs c s K = some t → Holds N W0 ρ s a W → s.lp = L.length → t.den P N R L ρ W → KOkX P N W0 R L ρ W K Q → (∀ x ∈ cs, cutIn x.k c = true → Claim P N W0 R c Q L ρ W x) → c.wp P Q a W.w := by
 intro c
 induction c with
 | seq a b iha ihb =>
  intro s K t L ρ act W Q hP hx hh hl ht hK hcl
  simp only [xm] at hx
  split at hx
  ·rename_i hall
   refine wp_seq ?_
   refine iha s _ t L ρ act W _ (hP.thn _) hx hh hl ht (seqK hall hK hcl ihb hP) fun x hx hc => ?_
   exact (hcl x hx (by simp [cutIn, hc])).left hc
  ·cases hx
 | _ => intro s K t L ρ act W Q hP hx hh hl ht hK hcl; exact xcode_ok hI _ s K t L ρ act W Q hP hx hh hl ht hK
theorem xf_ok (hI : InlOk P inl) {k : Nat} : ∀ (c : Code) (s : St) (K : X → St → Option Tree) (t : Tree) (L : Lv) (ρ : Env) (a : Act) (W : Wd) (Q : Exit → Act → World → Prop), PanOk W0 R Q →
  xf P cf inl k cs c s K = some t → Holds N W0 ρ s a W → s.lp = L.length → t.den P N R L ρ W → KOkX P N W0 R L ρ W K Q → (∀ x ∈ cs, cutIn x.k c = true → Claim P N W0 R c Q L ρ W x) → wpFrom P k c Q a W.w := by
 intro c
 induction c with
 | seq a b iha ihb =>
  intro s K t L ρ act W Q hP hx hh hl ht hK hcl
  simp only [xf] at hx
  simp only [wpFrom]
  split at hx
  ·rename_i hall
   split at hx
   ·rename_i hc
    rw [if_pos hc]
    refine iha s _ t L ρ act W _ (hP.thn _) hx hh hl ht (seqK hall hK hcl (xm_ok hI b) hP) fun x hx hc => ?_
    exact (hcl x hx (by simp [cutIn, hc])).left hc
   ·rename_i hc
    rw [if_neg hc]
    split at hx
    ·rename_i hb
     rw [if_pos hb]
     refine xm_ok hI b s K t L ρ act W Q hP hx hh hl ht hK fun x hx hc => ?_
     have ho := oneAt_b (List.all_eq_true.1 hall x hx) hc
     exact (hcl x hx (by simp [cutIn, hc])).right ho.1 ho.2
    ·rename_i hb
     rw [if_neg hb]
     refine ihb s K t L ρ act W Q hP hx hh hl ht hK fun x hx hc => ?_
     have ho := oneAt_b (List.all_eq_true.1 hall x hx) hc
     exact (hcl x hx (by simp [cutIn, hc])).right ho.1 ho.2
  ·cases hx
 | _ => intro s K t L ρ act W Q hP hx; simp [xf] at hx
end
theorem fn_calls_mr {f : FuncId} {fn : Func} (hf : P.funcs[f]? = some fn) (cf : Cfg) (args : List Sy) (hp ro : List Blk) (ρ : Env) (t : Tree) (hx : xfn P cf fn args hp ro ρ.cnt = some t) (hg : ρ.good) {W : Wd} {R : Ending → World → Prop}
  (hhp : BlksAt ρ hp W.w) (hown : ∀ b ∈ hp, ¬ W.I (gd ρ.M b.m 0)) (hnd : hp.Pairwise fun a b => gd ρ.M a.m 0 ≠ gd ρ.M b.m 0) (hro : BlksAt ρ ro W.w) (hroI : ∀ b ∈ ro, W.I (gd ρ.M b.m 0)) (hden : t.den P W.w.heap.size R [] ρ W) : CallsE P f (Sy.dens ρ args).toArray W R :=
 fnI_calls (inlD_ok cf cf.depth) hf cf args hp ro [] ρ t hx hg (Nat.le_refl _) (fun r hr => by cases hr) (fun r hr => by cases hr) List.Pairwise.nil hhp hown hnd hro hroI hden
def endH (P : Program) (fn : Func) (hp : List Blk) : X → St → Option Tree := fun x s => match x with
 | .exit _ => none
 | _ => match resS P s fn.results.toList with
  | some r => some (.ret (oneS r) (reach s.hp r ++ s.hp.filter fun b => (hp.map (·.m)).contains b.m) (reach s.ro r) s.rw)
  | none => none
def xfnT (P : Program) (cf : Cfg) (fn : Func) (k : Nat) (args : List Sy) (hp : List Blk) (c : Cnt) : Option Tree := match fn.body with
 | some code => xf P cf (inlD P cf cf.depth) k [] code (startS args fn.ntmps hp [] [] c) (endH P fn hp)
 | none => none
theorem fn_tail {fn : Func} {code : Code} (hb : fn.body = some code) (cf : Cfg) (k : Nat) (args : List Sy) (hp : List Blk) (ρ : Env) (t : Tree) (hx : xfnT P cf fn k args hp ρ.cnt = some t) (hg : ρ.good) {W0 W : Wd} {R : Ending → World → Prop} {a : Act}
  (hlen : args.length ≤ fn.ntmps) (ha : ∀ (i : Nat) x, args[i]? = some x → a.eval (.tmp i) = x.den ρ) (hn : a.tmps.size = fn.ntmps) (hd : a.defers = []) (hhp : BlksAt ρ hp W.w) (hown : ∀ b ∈ hp, ¬ W.I (gd ρ.M b.m 0)) (hnd : hp.Pairwise fun a b => gd ρ.M a.m 0 ≠ gd ρ.M b.m 0)
  (hsub : ∀ b, W.I b → W0.I b ∨ W0.w.heap.size ≤ b) (hext : Ext W0 W) (hden : t.den P W0.w.heap.size R [] ρ W) : wpFrom P k code (bodyPost P fn fun e w' => Keeps W0 w' ∧ R e w') a W.w := by
 unfold xfnT at hx
 rw [hb] at hx
 have hP : PanOk W0 R (bodyPost P fn fun e w' => Keeps W0 w' ∧ R e w') := ⟨fun ch a w' h1 h2 h3 => ⟨h1, h2, h3⟩, fun ch a d v w' h => by
  obtain ⟨h1, h2⟩ := h
  exact ⟨by cases d <;> exact h1, h2⟩⟩
 have hI := inlD_ok (P := P) cf cf.depth
 have hh : Holds W0.w.heap.size W0 ρ (startS args fn.ntmps hp [] [] ρ.cnt) a W := by
  refine ⟨rfl, hg, ?_, ?_, hd, hhp, fun b hb => (by cases hb), fun r hr => (by cases hr), fun b hb => (by cases hb), hown, fun r hr => (by cases hr), hnd, List.Pairwise.nil, fun p hp => (by cases hp), hsub, Nat.le_refl _, hext⟩
  ·intro x y hx
   cases x with
   | tmp t =>
    simp only [evS, startS, argT_get, Nat.zero_le, if_true, Nat.sub_zero] at hx
    exact ha t y hx
   | const v => simp only [evS] at hx; obtain rfl := Option.some.inj hx; rw [ofVal_den]; rfl
   | global g => simp only [evS] at hx; obtain rfl := Option.some.inj hx; rfl
   | func f => simp only [evS] at hx; obtain rfl := Option.some.inj hx; simp [Act.eval, Sy.den, Sy.dens]
  ·rw [hn]
   simp only [startS]
   split <;> omega
 refine xf_ok hI code _ _ t [] ρ a W _ hP hx hh rfl hden ?_ fun x hx => (by cases hx)
 intro x s' t' e M a' W' h1 hx' hl' h2 h3
 have fin : ∀ r, resS P s' fn.results.toList = some r → t' = .ret (oneS r) (reach s'.hp r ++ s'.hp.filter fun b => (hp.map (·.m)).contains b.m) (reach s'.ro r) s'.rw →
   a'.defers = [] ∧ ∃ v, (results fn a'.tmps).run P W'.w = .ok v W'.w ∧ (Keeps W0 W'.w ∧ R (.returned v) W'.w) := by
  rintro r hr rfl
  refine ⟨h2.df, _, run_results h2 hr, Keeps.of_ext h2.ext, ?_⟩
  refine h3 (fun b hb => ?_) (fun b hb => h2.ro b (reach_sub b hb)) h2.rw ⟨h2.rnd, fun r hr k hk => (h2.rown r hr k hk).1⟩
  rcases List.mem_append.1 hb with hb | hb
  ·exact h2.hp b (reach_sub b hb)
  ·exact h2.hp b (List.mem_filter.1 hb).1
 cases x with
 | exit i => cases h1
 | nrm =>
  dsimp only [endH] at h1
  split at h1
  ·rename_i r hr; exact fin r hr (Option.some.inj h1).symm
  ·cases h1
 | ret =>
  dsimp only [endH] at h1
  split at h1
  ·rename_i r hr; exact fin r hr (Option.some.inj h1).symm
  ·cases h1
end Go.SF
end
end
section
/- What is left to show of functions, as the walk that the kernel computes finds it (written by wip/vc2.py). -/
namespace Go.Proofs.YtkpjmlnhhggenaaGreatDoor
open Go Go.RowKit Go.SF
set_option maxRecDepth 100000
@[reducible] def dd7_0_0 : Blk := ⟨1, 25, [(.str (.tv 20)), (.int .u8 (.iv 20)), (.int .i64 (.iv 21)), (.int .i64 (.iv 22)), (.int .u8 (.iv 23)), (.str (.tv 21)), (.str (.tv 22)), (.str (.tv 23)), (.bool (.bv 11)), (.slc 10 (.nv 20) (.nv 21)), (.slc 11 (.nv 22) (.nv 23))]⟩
@[reducible] def dd7_0_1 : Blk := ⟨1, 25, [(.str (.tv 24)), (.int .u8 (.iv 24)), (.int .i64 (.iv 25)), (.int .i64 (.iv 26)), (.int .u8 (.iv 27)), (.str (.tv 25)), (.str (.tv 26)), (.str (.tv 27)), (.bool (.bv 13)), (.slc 12 (.nv 24) (.nv 25)), (.slc 13 (.nv 26) (.nv 27))]⟩
@[reducible] def dd7_0_2 : Blk := ⟨1, 25, [(.str (.tv 28)), (.int .u8 (.iv 28)), (.int .i64 (.iv 29)), (.int .i64 (.iv 30)), (.int .u8 (.iv 31)), (.str (.tv 29)), (.str (.tv 30)), (.str (.tv 31)), (.bool (.bv 15)), (.slc 14 (.nv 28) (.nv 29)), (.slc 15 (.nv 30) (.nv 31))]⟩
@[reducible] def dd7_0_3 : Blk := ⟨1, 25, [(.str (.tv 32)), (.int .u8 (.iv 32)), (.int .i64 (.iv 33)), (.int .i64 (.iv 34)), (.int .u8 (.iv 35)), (.str (.tv 33)), (.str (.tv 34)), (.str (.tv 35)), (.bool (.bv 17)), (.slc 16 (.nv 32) (.nv 33)), (.slc 17 (.nv 34) (.nv 35))]⟩
@[reducible] def dd7_0_4 : Blk := ⟨1, 25, [(.str (.tv 20)), (.int .u8 (.iv 20)), (.int .i64 (.iv 21)), (.int .i64 (.iv 22)), (.int .u8 (.iv 23)), (.str (.tv 21)), (.str (.tv 22)), (.str (.tv 23)), (.bool (.bv 10)), (.slc 10 (.nv 20) (.nv 21)), (.slc 11 (.nv 22) (.nv 23))]⟩
@[reducible] def dd7_0_5 : Blk := ⟨1, 25, [(.str (.tv 24)), (.int .u8 (.iv 24)), (.int .i64 (.iv 25)), (.int .i64 (.iv 26)), (.int .u8 (.iv 27)), (.str (.tv 25)), (.str (.tv 26)), (.str (.tv 27)), (.bool (.bv 12)), (.slc 12 (.nv 24) (.nv 25)), (.slc 13 (.nv 26) (.nv 27))]⟩
@[reducible] def dd7_0_6 : Blk := ⟨1, 25, [(.str (.tv 28)), (.int .u8 (.iv 28)), (.int .i64 (.iv 29)), (.int .i64 (.iv 30)), (.int .u8 (.iv 31)), (.str (.tv 29)), (.str (.tv 30)), (.str (.tv 31)), (.bool (.bv 14)), (.slc 14 (.nv 28) (.nv 29)), (.slc 15 (.nv 30) (.nv 31))]⟩
@[reducible] def dd7_0_7 : Blk := ⟨1, 25, [(.str (.tv 12)), (.int .u8 (.iv 12)), (.int .i64 (.iv 13)), (.int .i64 (.iv 14)), (.int .u8 (.iv 15)), (.str (.tv 13)), (.str (.tv 14)), (.str (.tv 15)), (.bool (.bv 7)), (.slc 6 (.nv 12) (.nv 13)), (.slc 7 (.nv 14) (.nv 15))]⟩
@[reducible] def dd7_0_8 : Blk := ⟨1, 25, [(.str (.tv 16)), (.int .u8 (.iv 16)), (.int .i64 (.iv 17)), (.int .i64 (.iv 18)), (.int .u8 (.iv 19)), (.str (.tv 17)), (.str (.tv 18)), (.str (.tv 19)), (.bool (.bv 9)), (.slc 8 (.nv 16) (.nv 17)), (.slc 9 (.nv 18) (.nv 19))]⟩
@[reducible] def dd7_0_9 : Blk := ⟨1, 25, [(.str (.tv 12)), (.int .u8 (.iv 12)), (.int .i64 (.iv 13)), (.int .i64 (.iv 14)), (.int .u8 (.iv 15)), (.str (.tv 13)), (.str (.tv 14)), (.str (.tv 15)), (.bool (.bv 6)), (.slc 6 (.nv 12) (.nv 13)), (.slc 7 (.nv 14) (.nv 15))]⟩
@[reducible] def dd7_0_10 : Blk := ⟨1, 25, [(.str (.tv 16)), (.int .u8 (.iv 16)), (.int .i64 (.iv 17)), (.int .i64 (.iv 18)), (.int .u8 (.iv 19)), (.str (.tv 17)), (.str (.tv 18)), (.str (.tv 19)), (.bool (.bv 8)), (.slc 8 (.nv 16) (.nv 17)), (.slc 9 (.nv 18) (.nv 19))]⟩
@[reducible] def dd7_0_11 : Blk := ⟨1, 25, [(.str (.tv 8)), (.int .u8 (.iv 8)), (.int .i64 (.iv 9)), (.int .i64 (.iv 10)), (.int .u8 (.iv 11)), (.str (.tv 9)), (.str (.tv 10)), (.str (.tv 11)), (.bool (.bv 5)), (.slc 4 (.nv 8) (.nv 9)), (.slc 5 (.nv 10) (.nv 11))]⟩
@[reducible] def dd7_0_12 : Blk := ⟨1, 25, [(.str (.tv 8)), (.int .u8 (.iv 8)), (.int .i64 (.iv 9)), (.int .i64 (.iv 10)), (.int .u8 (.iv 11)), (.str (.tv 9)), (.str (.tv 10)), (.str (.tv 11)), (.bool (.bv 4)), (.slc 4 (.nv 8) (.nv 9)), (.slc 5 (.nv 10) (.nv 11))]⟩
@[reducible] def dd7_0_13 : Blk := ⟨0, 25, [(.str (.tv 0)), (.int .u8 (.iv 0)), (.int .i64 (.iv 1)), (.int .i64 (.iv 2)), (.int .u8 (.iv 3)), (.str (.tl [])), (.str (.tv 2)), (.str (.tv 3)), (.bool (.bv 0)), (.slc 0 (.nv 0) (.nv 1)), (.slc 1 (.nv 2) (.nv 3))]⟩
@[reducible] def dd7_0_14 : Blk := ⟨0, 25, [(.str (.tv 0)), (.int .u8 (.iv 1)), (.int .i64 (.iv 2)), (.int .i64 (.iv 3)), (.int .u8 (.iv 4)), (.str (.tv 1)), (.str (.tv 2)), (.str (.tv 3)), (.bool (.bv 0)), (.slc 0 (.nv 0) (.nv 1)), (.slc 1 (.nv 2) (.nv 3))]⟩
@[reducible] def dd7_0_15 : Blk := ⟨0, 25, [(.str (.tv 0)), (.int .u8 (.iv 0)), (.int .i64 (.iv 1)), (.int .i64 (.iv 2)), (.int .u8 (.iv 3)), (.str (.tv 1)), (.str (.tv 2)), (.str (.tv 3)), (.bool (.bv 1)), (.slc 0 (.nv 0) (.nv 1)), (.slc 1 (.nv 2) (.nv 3))]⟩
@[reducible] def dd7_0_16 : Blk := ⟨0, 25, [(.str (.tv 0)), (.int .u8 (.iv 0)), (.int .i64 (.iv 1)), (.int .i64 (.iv 2)), (.int .u8 (.iv 3)), (.str (.tv 1)), (.str (.tv 2)), (.str (.tv 3)), (.bool (.bv 0)), (.slc 0 (.nv 0) (.nv 1)), (.slc 1 (.nv 2) (.nv 3))]⟩
@[reducible] def dd7_0_17 : Blk := ⟨1, 25, [(.str (.tv 4)), (.int .u8 (.iv 4)), (.int .i64 (.iv 5)), (.int .i64 (.iv 6)), (.int .u8 (.iv 7)), (.str (.tv 5)), (.str (.tv 6)), (.str (.tv 7)), (.bool (.bv 1)), (.slc 2 (.nv 4) (.nv 5)), (.slc 3 (.nv 6) (.nv 7))]⟩
@[reducible] def dd7_0_18 : Sy := (.agg [(.str (.tv 0)), (.int .u8 (.iv 0)), (.int .i64 (.iv 1)), (.int .i64 (.iv 2)), (.int .u8 (.iv 3)), (.str (.tv 1)), (.str (.tv 2)), (.str (.tv 3)), (.bool (.bv 0)), (.slc 0 (.nv 0) (.nv 1)), (.slc 1 (.nv 2) (.nv 3))])
@[reducible] def dd7_0_19 : Sy := (.agg [(.str (.tv 1)), (.int .u8 (.iv 2)), (.int .i64 (.iv 3)), (.int .i64 (.iv 4)), (.int .u8 (.iv 5)), (.str (.tv 2)), (.str (.tv 3)), (.str (.tv 4)), (.bool (.bv 1)), (.slc 3 (.nv 6) (.nv 7)), (.slc 4 (.nv 8) (.nv 9))])
@[reducible] def dd7_0_20 : Sy := (.agg [(.str (.tl [])), (.int .u8 (.il 0)), (.int .i64 (.il 0)), (.int .i64 (.il 0)), (.int .u8 (.il 0)), (.str (.tl [])), (.str (.tl [])), (.str (.tl [])), (.bool (.bl false)), .nils, .nils])
@[reducible] def t_bare : Tree :=
(.new (.new (.wr (.wr (.wr (.wr (.wr (.ret (.agg [(.str (.tl [])), (.int .u8 (.il 0)), (.int .i64 (.il 0)), (.int .i64 (.iv 2)), (.int .u8 (.il 0)), (.str (.tv 1)), (.str (.tv 2)), (.str (.tv 3)), (.bool (.bv 0)), (.slc 0 (.nv 0) (.nv 1)), (.slc 1 (.nv 2) (.nv 3))]) [] [] []))))))))
theorem x_bare : xfn Tryz.prog kc Tryz.f90 [dd7_0_18] [] [] kk4 = some t_bare := by kernel_rfl
theorem vc_bare (i0 i1 i2 i3 : Int) (n0 n1 n2 n3 : Nat) (b0 : Bool) (t0 t1 t2 t3 : ByteArray) (a0 a1 : Option Addr) (W : Wd) (R : Ending → World → Prop) (h : t_bare.den Tryz.prog W.w.heap.size R [] { I := [i0, i1, i2, i3], N := [n0, n1, n2, n3], B := [b0], T := [t0, t1, t2, t3], A := [a0, a1] } W) : CallsE Tryz.prog 90 #[.agg #[.string t0, .int .u8 i0, .int .i64 i1, .int .i64 i2, .int .u8 i3, .string t1, .string t2, .string t3, .bool b0, .slice a0 n0 n1, .slice a1 n2 n3]] W R :=
 fn_calls Tryz.func90 _ _ { I := [i0, i1, i2, i3], N := [n0, n1, n2, n3], B := [b0], T := [t0, t1, t2, t3], A := [a0, a1] } _ x_bare (fun v hv => by cases hv) h
@[reducible] def t_node1_1 : Tree := (.ret (.bool (.bin .bor (.bv 1) (.bin .band (.bv 0) (.bin .teq (.tv 0) (.tl []))))) [] [] [])
@[reducible] def t_node1 : Tree :=
(.call 27 [(.str (.tv 0))] [] [] [] (.bool (.bv 1)) kk1 t_node1_1)
theorem x_node1 : xfn Tryz.prog kc Tryz.f92 [(.str (.tv 0)), (.ptr 0 0)] [] [⟨0, 4, [(.bool (.bv 0))]⟩] ⟨0, 0, 1, 1, 0, 0, 1, 0⟩ = some t_node1 := by kernel_rfl
theorem vc_node1 (b0 : Bool) (t0 : ByteArray) (m0 : Nat) (W : Wd) (R : Ending → World → Prop) (hm0 : W.w.heap[m0]? = some (.cells #[.bool b0] 4)) (Im0 : W.I m0) (h : t_node1.den Tryz.prog W.w.heap.size R [] { B := [b0], T := [t0], M := [m0] } W) : CallsE Tryz.prog 92 #[.string t0, .pointer (some ⟨m0, 0, none⟩)] W R :=
 fn_calls_ro Tryz.func92 _ _ [⟨0, 4, [(.bool (.bv 0))]⟩] { B := [b0], T := [t0], M := [m0] } _ x_node1 (fun v hv => by cases hv) (fun b hb => by simp only [List.mem_cons, List.not_mem_nil, or_false] at hb; rcases hb with rfl <;> (first | exact hm0)) (fun b hb => by simp only [List.mem_cons, List.not_mem_nil, or_false] at hb; rcases hb with rfl <;> (first | exact Im0)) h
@[reducible] def t_node2 : Tree :=
(.ret (.bool (.un .not (.bin .teq (.tv 0) (.tl [])))) [] [] [])
theorem x_node2 : xfn Tryz.prog kc Tryz.f93 [(.str (.tv 0))] [] [] kk5 = some t_node2 := by kernel_rfl
theorem vc_node2 (t0 : ByteArray) (W : Wd) (R : Ending → World → Prop) (h : t_node2.den Tryz.prog W.w.heap.size R [] { T := [t0] } W) : CallsE Tryz.prog 93 #[.string t0] W R :=
 fn_calls Tryz.func93 _ _ { T := [t0] } _ x_node2 (fun v hv => by cases hv) h
@[reducible] def t_node3 : Tree :=
(.ret (.bool (.bin .bor (.bin .band (.bin .le (.il 0) (.iv 0)) (.bin .ieq (.iv 1) (.il 15))) (.bin .band (.bin .ieq (.iv 0) (.il (-1))) (.un .not (.bin .ieq (.iv 1) (.il 15)))))) [] [] [])
theorem x_node3 : xfn Tryz.prog kc Tryz.f95 [(.int .i64 (.iv 0)), (.ptr 0 0)] [] [dd7_0_14] ⟨5, 4, 1, 4, 0, 2, 1, 0⟩ = some t_node3 := by kernel_rfl
theorem vc_node3 (i0 i1 i2 i3 i4 : Int) (n0 n1 n2 n3 : Nat) (b0 : Bool) (t0 t1 t2 t3 : ByteArray) (a0 a1 : Option Addr) (m0 : Nat) (W : Wd) (R : Ending → World → Prop) (hm0 : W.w.heap[m0]? = some (.cells #[.string t0, .int .u8 i1, .int .i64 i2, .int .i64 i3, .int .u8 i4, .string t1, .string t2, .string t3, .bool b0, .slice a0 n0 n1, .slice a1 n2 n3] 25)) (Im0 : W.I m0) (h : t_node3.den Tryz.prog W.w.heap.size R [] { I := [i0, i1, i2, i3, i4], N := [n0, n1, n2, n3], B := [b0], T := [t0, t1, t2, t3], A := [a0, a1], M := [m0] } W) : CallsE Tryz.prog 95 #[.int .i64 i0, .pointer (some ⟨m0, 0, none⟩)] W R :=
 fn_calls_ro Tryz.func95 _ _ [dd7_0_14] { I := [i0, i1, i2, i3, i4], N := [n0, n1, n2, n3], B := [b0], T := [t0, t1, t2, t3], A := [a0, a1], M := [m0] } _ x_node3 (fun v hv => by cases hv) (fun b hb => by simp only [List.mem_cons, List.not_mem_nil, or_false] at hb; rcases hb with rfl <;> (first | exact hm0)) (fun b hb => by simp only [List.mem_cons, List.not_mem_nil, or_false] at hb; rcases hb with rfl <;> (first | exact Im0)) h
@[reducible] def t_node4 : Tree :=
(.ret (.bool (.bin .bor (.bin .bor (.bv 0) (.un .not (.bin .ieq (.iv 0) (.il 15)))) (.un .not (.bin .ieq (.iv 3) (.il 4))))) [] [] [])
theorem x_node4 : xfn Tryz.prog kc Tryz.f97 [(.bool (.bv 0)), (.ptr 0 0)] [] [dd7_0_15] ⟨4, 4, 2, 4, 0, 2, 1, 0⟩ = some t_node4 := by kernel_rfl
theorem vc_node4 (i0 i1 i2 i3 : Int) (n0 n1 n2 n3 : Nat) (b0 b1 : Bool) (t0 t1 t2 t3 : ByteArray) (a0 a1 : Option Addr) (m0 : Nat) (W : Wd) (R : Ending → World → Prop) (hm0 : W.w.heap[m0]? = some (.cells #[.string t0, .int .u8 i0, .int .i64 i1, .int .i64 i2, .int .u8 i3, .string t1, .string t2, .string t3, .bool b1, .slice a0 n0 n1, .slice a1 n2 n3] 25)) (Im0 : W.I m0) (h : t_node4.den Tryz.prog W.w.heap.size R [] { I := [i0, i1, i2, i3], N := [n0, n1, n2, n3], B := [b0, b1], T := [t0, t1, t2, t3], A := [a0, a1], M := [m0] } W) : CallsE Tryz.prog 97 #[.bool b0, .pointer (some ⟨m0, 0, none⟩)] W R :=
 fn_calls_ro Tryz.func97 _ _ [dd7_0_15] { I := [i0, i1, i2, i3], N := [n0, n1, n2, n3], B := [b0, b1], T := [t0, t1, t2, t3], A := [a0, a1], M := [m0] } _ x_node4 (fun v hv => by cases hv) (fun b hb => by simp only [List.mem_cons, List.not_mem_nil, or_false] at hb; rcases hb with rfl <;> (first | exact hm0)) (fun b hb => by simp only [List.mem_cons, List.not_mem_nil, or_false] at hb; rcases hb with rfl <;> (first | exact Im0)) h
@[reducible] def t_node5 : Tree :=
(.call 47 [(.slc 0 (.nv 0) (.nv 1))] [] [] [] (.int .i64 (.iv 0)) kk0 (.ret (.bool (.bin .ieq (.iv 0) (.il 0))) [] [] []))
theorem x_node5 : xfn Tryz.prog kc Tryz.f99 [(.slc 0 (.nv 0) (.nv 1))] [] [] kk2 = some t_node5 := by kernel_rfl
theorem vc_node5 (n0 n1 : Nat) (a0 : Option Addr) (W : Wd) (R : Ending → World → Prop) (h : t_node5.den Tryz.prog W.w.heap.size R [] { N := [n0, n1], A := [a0] } W) : CallsE Tryz.prog 99 #[.slice a0 n0 n1] W R :=
 fn_calls Tryz.func99 _ _ { N := [n0, n1], A := [a0] } _ x_node5 (fun v hv => by cases hv) h
@[reducible] def t_node6 : Tree :=
(.call 102 [(.slc 0 (.nv 0) (.nv 1)), (.fn 103 []), (.fn 27 [])] [] [] [] (.bool (.bv 0)) kk1 (.ret (.bool (.bv 0)) [] [] []))
theorem x_node6 : xfn Tryz.prog kc Tryz.f101 [(.slc 0 (.nv 0) (.nv 1))] [] [] kk2 = some t_node6 := by kernel_rfl
theorem vc_node6 (n0 n1 : Nat) (a0 : Option Addr) (W : Wd) (R : Ending → World → Prop) (h : t_node6.den Tryz.prog W.w.heap.size R [] { N := [n0, n1], A := [a0] } W) : CallsE Tryz.prog 101 #[.slice a0 n0 n1] W R :=
 fn_calls Tryz.func101 _ _ { N := [n0, n1], A := [a0] } _ x_node6 (fun v hv => by cases hv) h
@[reducible] def t_pkey_1 : Tree := (.wr (.ret (.bool (.bv 1)) [dd7_0_13] [] []))
@[reducible] def t_pkey : Tree :=
(.call 27 [(.str (.tv 1))] [] [] [] (.bool (.bv 1)) kk1 t_pkey_1)
theorem x_pkey : xfn Tryz.prog kc Tryz.f91 [(.ptr 0 5), (.fn 27 [])] [dd7_0_16] [] kk16 = some t_pkey := by kernel_rfl
theorem vc_pkey (i0 i1 i2 i3 : Int) (n0 n1 n2 n3 : Nat) (b0 : Bool) (t0 t1 t2 t3 : ByteArray) (a0 a1 : Option Addr) (m0 : Nat) (W : Wd) (R : Ending → World → Prop) (hm : W.w.heap[m0]? = some (.cells #[.string t0, .int .u8 i0, .int .i64 i1, .int .i64 i2, .int .u8 i3, .string t1, .string t2, .string t3, .bool b0, .slice a0 n0 n1, .slice a1 n2 n3] 25)) (hI : ¬ W.I m0) (h : t_pkey.den Tryz.prog W.w.heap.size R [] { I := [i0, i1, i2, i3], N := [n0, n1, n2, n3], B := [b0], T := [t0, t1, t2, t3], A := [a0, a1], M := [m0] } W) : CallsE Tryz.prog 91 #[.pointer (some ⟨m0, 5, none⟩), .func (.func 27) #[] #[]] W R :=
 fn_calls_mu Tryz.func91 _ _ [dd7_0_16] { I := [i0, i1, i2, i3], N := [n0, n1, n2, n3], B := [b0], T := [t0, t1, t2, t3], A := [a0, a1], M := [m0] } _ x_pkey (fun v hv => by cases hv) (fun b hb => by simp only [List.mem_singleton] at hb; subst hb; exact hm) (fun b hb => by simp only [List.mem_singleton] at hb; subst hb; exact hI) (List.pairwise_singleton _ _) h
@[reducible] def t_pkey2_1 : Tree := (.wr (.ret (.bool (.bv 2)) [dd7_0_13] [] []))
@[reducible] def t_pkey2 : Tree :=
(.call 92 [(.str (.tv 1)), (.ptr 1 0)] [⟨1, 4, [(.bool (.bv 1))]⟩] [] [] (.bool (.bv 2)) kk1 t_pkey2_1)
theorem x_pkey2 : xfn Tryz.prog kc Tryz.f91 [(.ptr 0 5), (.fn 92 [(.ptr 1 0)])] [dd7_0_16] [⟨1, 4, [(.bool (.bv 1))]⟩] ⟨4, 4, 2, 4, 0, 2, 2, 0⟩ = some t_pkey2 := by kernel_rfl
theorem vc_pkey2 (i0 i1 i2 i3 : Int) (n0 n1 n2 n3 : Nat) (b0 b1 : Bool) (t0 t1 t2 t3 : ByteArray) (a0 a1 : Option Addr) (m0 m1 : Nat) (W : Wd) (R : Ending → World → Prop) (hm : W.w.heap[m0]? = some (.cells #[.string t0, .int .u8 i0, .int .i64 i1, .int .i64 i2, .int .u8 i3, .string t1, .string t2, .string t3, .bool b0, .slice a0 n0 n1, .slice a1 n2 n3] 25)) (hI : ¬ W.I m0) (hm1 : W.w.heap[m1]? = some (.cells #[.bool b1] 4)) (Im1 : W.I m1) (h : t_pkey2.den Tryz.prog W.w.heap.size R [] { I := [i0, i1, i2, i3], N := [n0, n1, n2, n3], B := [b0, b1], T := [t0, t1, t2, t3], A := [a0, a1], M := [m0, m1] } W) : CallsE Tryz.prog 91 #[.pointer (some ⟨m0, 5, none⟩), .func (.func 92) #[] #[.pointer (some ⟨m1, 0, none⟩)]] W R :=
 fn_calls_mr Tryz.func91 _ _ [dd7_0_16] [⟨1, 4, [(.bool (.bv 1))]⟩] { I := [i0, i1, i2, i3], N := [n0, n1, n2, n3], B := [b0, b1], T := [t0, t1, t2, t3], A := [a0, a1], M := [m0, m1] } _ x_pkey2 (fun v hv => by cases hv) (fun b hb => by simp only [List.mem_singleton] at hb; subst hb; exact hm) (fun b hb => by simp only [List.mem_singleton] at hb; subst hb; exact hI) (List.pairwise_singleton _ _) (fun b hb => by simp only [List.mem_cons, List.not_mem_nil, or_false] at hb; rcases hb with rfl <;> (first | exact hm1)) (fun b hb => by simp only [List.mem_cons, List.not_mem_nil, or_false] at hb; rcases hb with rfl <;> (first | exact Im1)) h
@[reducible] def t_ptxt_1 : Tree := (.wr (.ret (.bool (.bv 1)) [⟨0, 25, [(.str (.tv 0)), (.int .u8 (.iv 0)), (.int .i64 (.iv 1)), (.int .i64 (.iv 2)), (.int .u8 (.iv 3)), (.str (.tv 1)), (.str (.tl [])), (.str (.tv 3)), (.bool (.bv 0)), (.slc 0 (.nv 0) (.nv 1)), (.slc 1 (.nv 2) (.nv 3))]⟩] [] []))
@[reducible] def t_ptxt : Tree :=
(.call 93 [(.str (.tv 2))] [] [] [] (.bool (.bv 1)) kk1 t_ptxt_1)
theorem x_ptxt : xfn Tryz.prog kc Tryz.f91 [(.ptr 0 6), (.fn 93 [])] [dd7_0_16] [] kk16 = some t_ptxt := by kernel_rfl
theorem vc_ptxt (i0 i1 i2 i3 : Int) (n0 n1 n2 n3 : Nat) (b0 : Bool) (t0 t1 t2 t3 : ByteArray) (a0 a1 : Option Addr) (m0 : Nat) (W : Wd) (R : Ending → World → Prop) (hm : W.w.heap[m0]? = some (.cells #[.string t0, .int .u8 i0, .int .i64 i1, .int .i64 i2, .int .u8 i3, .string t1, .string t2, .string t3, .bool b0, .slice a0 n0 n1, .slice a1 n2 n3] 25)) (hI : ¬ W.I m0) (h : t_ptxt.den Tryz.prog W.w.heap.size R [] { I := [i0, i1, i2, i3], N := [n0, n1, n2, n3], B := [b0], T := [t0, t1, t2, t3], A := [a0, a1], M := [m0] } W) : CallsE Tryz.prog 91 #[.pointer (some ⟨m0, 6, none⟩), .func (.func 93) #[] #[]] W R :=
 fn_calls_mu Tryz.func91 _ _ [dd7_0_16] { I := [i0, i1, i2, i3], N := [n0, n1, n2, n3], B := [b0], T := [t0, t1, t2, t3], A := [a0, a1], M := [m0] } _ x_ptxt (fun v hv => by cases hv) (fun b hb => by simp only [List.mem_singleton] at hb; subst hb; exact hm) (fun b hb => by simp only [List.mem_singleton] at hb; subst hb; exact hI) (List.pairwise_singleton _ _) h
@[reducible] def t_pset_1 : Tree := (.wr (.ret (.bool (.bv 1)) [⟨0, 25, [(.str (.tv 0)), (.int .u8 (.iv 0)), (.int .i64 (.iv 1)), (.int .i64 (.iv 2)), (.int .u8 (.iv 3)), (.str (.tv 1)), (.str (.tv 2)), (.str (.tl [])), (.bool (.bv 0)), (.slc 0 (.nv 0) (.nv 1)), (.slc 1 (.nv 2) (.nv 3))]⟩] [] []))
@[reducible] def t_pset : Tree :=
(.call 27 [(.str (.tv 3))] [] [] [] (.bool (.bv 1)) kk1 t_pset_1)
theorem x_pset : xfn Tryz.prog kc Tryz.f91 [(.ptr 0 7), (.fn 27 [])] [dd7_0_16] [] kk16 = some t_pset := by kernel_rfl
theorem vc_pset (i0 i1 i2 i3 : Int) (n0 n1 n2 n3 : Nat) (b0 : Bool) (t0 t1 t2 t3 : ByteArray) (a0 a1 : Option Addr) (m0 : Nat) (W : Wd) (R : Ending → World → Prop) (hm : W.w.heap[m0]? = some (.cells #[.string t0, .int .u8 i0, .int .i64 i1, .int .i64 i2, .int .u8 i3, .string t1, .string t2, .string t3, .bool b0, .slice a0 n0 n1, .slice a1 n2 n3] 25)) (hI : ¬ W.I m0) (h : t_pset.den Tryz.prog W.w.heap.size R [] { I := [i0, i1, i2, i3], N := [n0, n1, n2, n3], B := [b0], T := [t0, t1, t2, t3], A := [a0, a1], M := [m0] } W) : CallsE Tryz.prog 91 #[.pointer (some ⟨m0, 7, none⟩), .func (.func 27) #[] #[]] W R :=
 fn_calls_mu Tryz.func91 _ _ [dd7_0_16] { I := [i0, i1, i2, i3], N := [n0, n1, n2, n3], B := [b0], T := [t0, t1, t2, t3], A := [a0, a1], M := [m0] } _ x_pset (fun v hv => by cases hv) (fun b hb => by simp only [List.mem_singleton] at hb; subst hb; exact hm) (fun b hb => by simp only [List.mem_singleton] at hb; subst hb; exact hI) (List.pairwise_singleton _ _) h
@[reducible] def t_pon_1 : Tree := (.wr (.ret (.bool (.bv 2)) [⟨0, 25, [(.str (.tv 0)), (.int .u8 (.iv 0)), (.int .i64 (.iv 1)), (.int .i64 (.il 0)), (.int .u8 (.iv 3)), (.str (.tv 1)), (.str (.tv 2)), (.str (.tv 3)), (.bool (.bv 0)), (.slc 0 (.nv 0) (.nv 1)), (.slc 1 (.nv 2) (.nv 3))]⟩] [] []))
@[reducible] def t_pon : Tree :=
(.call 95 [(.int .i64 (.iv 2)), (.ptr 1 0)] [dd7_0_17] [] [] (.bool (.bv 2)) kk1 t_pon_1)
theorem x_pon : xfn Tryz.prog kc Tryz.f94 [(.ptr 0 3), (.fn 95 [(.ptr 1 0)])] [dd7_0_16] [dd7_0_17] ⟨8, 8, 2, 8, 0, 4, 2, 0⟩ = some t_pon := by kernel_rfl
theorem vc_pon (i0 i1 i2 i3 i4 i5 i6 i7 : Int) (n0 n1 n2 n3 n4 n5 n6 n7 : Nat) (b0 b1 : Bool) (t0 t1 t2 t3 t4 t5 t6 t7 : ByteArray) (a0 a1 a2 a3 : Option Addr) (m0 m1 : Nat) (W : Wd) (R : Ending → World → Prop) (hm : W.w.heap[m0]? = some (.cells #[.string t0, .int .u8 i0, .int .i64 i1, .int .i64 i2, .int .u8 i3, .string t1, .string t2, .string t3, .bool b0, .slice a0 n0 n1, .slice a1 n2 n3] 25)) (hI : ¬ W.I m0) (hm1 : W.w.heap[m1]? = some (.cells #[.string t4, .int .u8 i4, .int .i64 i5, .int .i64 i6, .int .u8 i7, .string t5, .string t6, .string t7, .bool b1, .slice a2 n4 n5, .slice a3 n6 n7] 25)) (Im1 : W.I m1) (h : t_pon.den Tryz.prog W.w.heap.size R [] { I := [i0, i1, i2, i3, i4, i5, i6, i7], N := [n0, n1, n2, n3, n4, n5, n6, n7], B := [b0, b1], T := [t0, t1, t2, t3, t4, t5, t6, t7], A := [a0, a1, a2, a3], M := [m0, m1] } W) : CallsE Tryz.prog 94 #[.pointer (some ⟨m0, 3, none⟩), .func (.func 95) #[] #[.pointer (some ⟨m1, 0, none⟩)]] W R :=
 fn_calls_mr Tryz.func94 _ _ [dd7_0_16] [dd7_0_17] { I := [i0, i1, i2, i3, i4, i5, i6, i7], N := [n0, n1, n2, n3, n4, n5, n6, n7], B := [b0, b1], T := [t0, t1, t2, t3, t4, t5, t6, t7], A := [a0, a1, a2, a3], M := [m0, m1] } _ x_pon (fun v hv => by cases hv) (fun b hb => by simp only [List.mem_singleton] at hb; subst hb; exact hm) (fun b hb => by simp only [List.mem_singleton] at hb; subst hb; exact hI) (List.pairwise_singleton _ _) (fun b hb => by simp only [List.mem_cons, List.not_mem_nil, or_false] at hb; rcases hb with rfl <;> (first | exact hm1)) (fun b hb => by simp only [List.mem_cons, List.not_mem_nil, or_false] at hb; rcases hb with rfl <;> (first | exact Im1)) h
@[reducible] def t_pbrk_1 : Tree := (.wr (.ret (.bool (.bv 2)) [⟨0, 25, [(.str (.tv 0)), (.int .u8 (.iv 0)), (.int .i64 (.iv 1)), (.int .i64 (.iv 2)), (.int .u8 (.iv 3)), (.str (.tv 1)), (.str (.tv 2)), (.str (.tv 3)), (.bool (.bl false)), (.slc 0 (.nv 0) (.nv 1)), (.slc 1 (.nv 2) (.nv 3))]⟩] [] []))
@[reducible] def t_pbrk : Tree :=
(.call 97 [(.bool (.bv 0)), (.ptr 1 0)] [dd7_0_17] [] [] (.bool (.bv 2)) kk1 t_pbrk_1)
theorem x_pbrk : xfn Tryz.prog kc Tryz.f96 [(.ptr 0 8), (.fn 97 [(.ptr 1 0)])] [dd7_0_16] [dd7_0_17] ⟨8, 8, 2, 8, 0, 4, 2, 0⟩ = some t_pbrk := by kernel_rfl
theorem vc_pbrk (i0 i1 i2 i3 i4 i5 i6 i7 : Int) (n0 n1 n2 n3 n4 n5 n6 n7 : Nat) (b0 b1 : Bool) (t0 t1 t2 t3 t4 t5 t6 t7 : ByteArray) (a0 a1 a2 a3 : Option Addr) (m0 m1 : Nat) (W : Wd) (R : Ending → World → Prop) (hm : W.w.heap[m0]? = some (.cells #[.string t0, .int .u8 i0, .int .i64 i1, .int .i64 i2, .int .u8 i3, .string t1, .string t2, .string t3, .bool b0, .slice a0 n0 n1, .slice a1 n2 n3] 25)) (hI : ¬ W.I m0) (hm1 : W.w.heap[m1]? = some (.cells #[.string t4, .int .u8 i4, .int .i64 i5, .int .i64 i6, .int .u8 i7, .string t5, .string t6, .string t7, .bool b1, .slice a2 n4 n5, .slice a3 n6 n7] 25)) (Im1 : W.I m1) (h : t_pbrk.den Tryz.prog W.w.heap.size R [] { I := [i0, i1, i2, i3, i4, i5, i6, i7], N := [n0, n1, n2, n3, n4, n5, n6, n7], B := [b0, b1], T := [t0, t1, t2, t3, t4, t5, t6, t7], A := [a0, a1, a2, a3], M := [m0, m1] } W) : CallsE Tryz.prog 96 #[.pointer (some ⟨m0, 8, none⟩), .func (.func 97) #[] #[.pointer (some ⟨m1, 0, none⟩)]] W R :=
 fn_calls_mr Tryz.func96 _ _ [dd7_0_16] [dd7_0_17] { I := [i0, i1, i2, i3, i4, i5, i6, i7], N := [n0, n1, n2, n3, n4, n5, n6, n7], B := [b0, b1], T := [t0, t1, t2, t3, t4, t5, t6, t7], A := [a0, a1, a2, a3], M := [m0, m1] } _ x_pbrk (fun v hv => by cases hv) (fun b hb => by simp only [List.mem_singleton] at hb; subst hb; exact hm) (fun b hb => by simp only [List.mem_singleton] at hb; subst hb; exact hI) (List.pairwise_singleton _ _) (fun b hb => by simp only [List.mem_cons, List.not_mem_nil, or_false] at hb; rcases hb with rfl <;> (first | exact hm1)) (fun b hb => by simp only [List.mem_cons, List.not_mem_nil, or_false] at hb; rcases hb with rfl <;> (first | exact Im1)) h
@[reducible] def t_pvars_1 : Tree := (.wr (.ret (.bool (.bv 1)) [⟨0, 25, [(.str (.tv 0)), (.int .u8 (.iv 0)), (.int .i64 (.iv 1)), (.int .i64 (.iv 2)), (.int .u8 (.iv 3)), (.str (.tv 1)), (.str (.tv 2)), (.str (.tv 3)), (.bool (.bv 0)), .nils, (.slc 1 (.nv 2) (.nv 3))]⟩] [] []))
@[reducible] def t_pvars : Tree :=
(.call 99 [(.slc 0 (.nv 0) (.nv 1))] [] [] [] (.bool (.bv 1)) kk1 t_pvars_1)
theorem x_pvars : xfn Tryz.prog kc Tryz.f98 [(.ptr 0 9), (.fn 99 [])] [dd7_0_16] [] kk16 = some t_pvars := by kernel_rfl
theorem vc_pvars (i0 i1 i2 i3 : Int) (n0 n1 n2 n3 : Nat) (b0 : Bool) (t0 t1 t2 t3 : ByteArray) (a0 a1 : Option Addr) (m0 : Nat) (W : Wd) (R : Ending → World → Prop) (hm : W.w.heap[m0]? = some (.cells #[.string t0, .int .u8 i0, .int .i64 i1, .int .i64 i2, .int .u8 i3, .string t1, .string t2, .string t3, .bool b0, .slice a0 n0 n1, .slice a1 n2 n3] 25)) (hI : ¬ W.I m0) (h : t_pvars.den Tryz.prog W.w.heap.size R [] { I := [i0, i1, i2, i3], N := [n0, n1, n2, n3], B := [b0], T := [t0, t1, t2, t3], A := [a0, a1], M := [m0] } W) : CallsE Tryz.prog 98 #[.pointer (some ⟨m0, 9, none⟩), .func (.func 99) #[] #[]] W R :=
 fn_calls_mu Tryz.func98 _ _ [dd7_0_16] { I := [i0, i1, i2, i3], N := [n0, n1, n2, n3], B := [b0], T := [t0, t1, t2, t3], A := [a0, a1], M := [m0] } _ x_pvars (fun v hv => by cases hv) (fun b hb => by simp only [List.mem_singleton] at hb; subst hb; exact hm) (fun b hb => by simp only [List.mem_singleton] at hb; subst hb; exact hI) (List.pairwise_singleton _ _) h
@[reducible] def t_pback_1 : Tree := (.wr (.ret (.bool (.bv 1)) [⟨0, 25, [(.str (.tv 0)), (.int .u8 (.iv 0)), (.int .i64 (.iv 1)), (.int .i64 (.iv 2)), (.int .u8 (.iv 3)), (.str (.tv 1)), (.str (.tv 2)), (.str (.tv 3)), (.bool (.bv 0)), (.slc 0 (.nv 0) (.nv 1)), .nils]⟩] [] []))
@[reducible] def t_pback : Tree :=
(.call 101 [(.slc 1 (.nv 2) (.nv 3))] [] [] [] (.bool (.bv 1)) kk1 t_pback_1)
theorem x_pback : xfn Tryz.prog kc Tryz.f100 [(.ptr 0 10), (.fn 101 [])] [dd7_0_16] [] kk16 = some t_pback := by kernel_rfl
theorem vc_pback (i0 i1 i2 i3 : Int) (n0 n1 n2 n3 : Nat) (b0 : Bool) (t0 t1 t2 t3 : ByteArray) (a0 a1 : Option Addr) (m0 : Nat) (W : Wd) (R : Ending → World → Prop) (hm : W.w.heap[m0]? = some (.cells #[.string t0, .int .u8 i0, .int .i64 i1, .int .i64 i2, .int .u8 i3, .string t1, .string t2, .string t3, .bool b0, .slice a0 n0 n1, .slice a1 n2 n3] 25)) (hI : ¬ W.I m0) (h : t_pback.den Tryz.prog W.w.heap.size R [] { I := [i0, i1, i2, i3], N := [n0, n1, n2, n3], B := [b0], T := [t0, t1, t2, t3], A := [a0, a1], M := [m0] } W) : CallsE Tryz.prog 100 #[.pointer (some ⟨m0, 10, none⟩), .func (.func 101) #[] #[]] W R :=
 fn_calls_mu Tryz.func100 _ _ [dd7_0_16] { I := [i0, i1, i2, i3], N := [n0, n1, n2, n3], B := [b0], T := [t0, t1, t2, t3], A := [a0, a1], M := [m0] } _ x_pback (fun v hv => by cases hv) (fun b hb => by simp only [List.mem_singleton] at hb; subst hb; exact hm) (fun b hb => by simp only [List.mem_singleton] at hb; subst hb; exact hI) (List.pairwise_singleton _ _) h
@[reducible] def t_eqv_1 : Tree := (.grow (.br (.un .not (.bin .band (.bin .teq (.tv 0) (.tv 2)) (.bin .band (.bin .ieq (.iv 1) (.iv 3)) (.bin .band (.bin .ieq (.iv 2) (.iv 4)) (.bin .teq (.tv 1) (.tv 3)))))) (.ret (.bool (.bl false)) [] [] []) (.again 0 [(.int .i64 (.un (.wrap .i64) (.bin .add (.iv 0) (.il 1))))] [])))
@[reducible] def t_eqv_2 : Tree := (.chk (.sm 1) (.chk (.bin .lt (.iv 0) (.nv 2)) (.look 41 (.elt 1 (.iv 0) 4 0) (.agg [(.str (.tv 2)), (.int .u8 (.iv 3)), (.int .i64 (.iv 4)), (.str (.tv 3))]) kk10 t_eqv_1)))
@[reducible] def t_eqv_3 : Tree := (.chk (.sm 0) (.chk (.bin .le (.il 0) (.iv 0)) (.look 41 (.elt 0 (.iv 0) 4 0) (.agg [(.str (.tv 0)), (.int .u8 (.iv 1)), (.int .i64 (.iv 2)), (.str (.tv 1))]) kk10 t_eqv_2)))
@[reducible] def t_eqv_4 : Tree := (.loop [(.int .i64 (.il 0))] [] [(.int .i64 (.iv 0))] [] kk0 (.br (.bin .lt (.iv 0) (.nv 0)) t_eqv_3 (.ret (.bool (.bl true)) [] [] [])))
@[reducible] def t_eqv : Tree :=
(.br (.un .not (.bin .ieq (.nv 0) (.nv 2))) (.ret (.bool (.bl false)) [] [] []) t_eqv_4)
theorem x_eqv : xfn Tryz.prog { kc with loops := [⟨4, [.tm 13]⟩] } Tryz.f135 [(.slc 0 (.nv 0) (.nv 1)), (.slc 1 (.nv 2) (.nv 3))] [] [] ⟨0, 4, 0, 0, 0, 2, 0, 0⟩ = some t_eqv := by kernel_rfl
theorem vc_eqv (n0 n1 n2 n3 : Nat) (a0 a1 : Option Addr) (W : Wd) (R : Ending → World → Prop) (h : t_eqv.den Tryz.prog W.w.heap.size R [] { N := [n0, n1, n2, n3], A := [a0, a1] } W) : CallsE Tryz.prog 135 #[.slice a0 n0 n1, .slice a1 n2 n3] W R :=
 fn_calls Tryz.func135 _ _ { N := [n0, n1, n2, n3], A := [a0, a1] } _ x_eqv (fun v hv => by cases hv) h
@[reducible] def t_eqs_1 : Tree := (.grow (.br (.un .not (.bin .teq (.tv 0) (.tv 1))) (.ret (.bool (.bl false)) [] [] []) (.again 0 [(.int .i64 (.un (.wrap .i64) (.bin .add (.iv 0) (.il 1))))] [])))
@[reducible] def t_eqs_2 : Tree := (.chk (.sm 1) (.chk (.bin .lt (.iv 0) (.nv 2)) (.look 9 (.elt 1 (.iv 0) 1 0) (.str (.tv 1)) kk5 t_eqs_1)))
@[reducible] def t_eqs_3 : Tree := (.chk (.sm 0) (.chk (.bin .le (.il 0) (.iv 0)) (.look 9 (.elt 0 (.iv 0) 1 0) (.str (.tv 0)) kk5 t_eqs_2)))
@[reducible] def t_eqs_4 : Tree := (.loop [(.int .i64 (.il 0))] [] [(.int .i64 (.iv 0))] [] kk0 (.br (.bin .lt (.iv 0) (.nv 0)) t_eqs_3 (.ret (.bool (.bl true)) [] [] [])))
@[reducible] def t_eqs : Tree :=
(.br (.un .not (.bin .ieq (.nv 0) (.nv 2))) (.ret (.bool (.bl false)) [] [] []) t_eqs_4)
theorem x_eqs : xfn Tryz.prog { kc with loops := [⟨4, [.tm 13]⟩] } Tryz.f136 [(.slc 0 (.nv 0) (.nv 1)), (.slc 1 (.nv 2) (.nv 3))] [] [] ⟨0, 4, 0, 0, 0, 2, 0, 0⟩ = some t_eqs := by kernel_rfl
theorem vc_eqs (n0 n1 n2 n3 : Nat) (a0 a1 : Option Addr) (W : Wd) (R : Ending → World → Prop) (h : t_eqs.den Tryz.prog W.w.heap.size R [] { N := [n0, n1, n2, n3], A := [a0, a1] } W) : CallsE Tryz.prog 136 #[.slice a0 n0 n1, .slice a1 n2 n3] W R :=
 fn_calls Tryz.func136 _ _ { N := [n0, n1, n2, n3], A := [a0, a1] } _ x_eqs (fun v hv => by cases hv) h
@[reducible] def t_snode_1 : Tree := (.callq 136 [(.slc 1 (.nv 2) (.nv 3)), (.slc 3 (.nv 6) (.nv 7))] [] [] (.bool (.bv 3)) kk1 (.grow (.ret (.bool (.bv 3)) [] [] [])))
@[reducible] def t_snode_2 : Tree := (.callq 135 [(.slc 0 (.nv 0) (.nv 1)), (.slc 2 (.nv 4) (.nv 5))] [] [] (.bool (.bv 2)) kk1 (.br (.bv 2) t_snode_1 (.grow (.ret (.bool (.bl false)) [] [] []))))
@[reducible] def t_snode : Tree :=
(.new (.new (.br (.bin .band (.bin .teq (.tv 0) (.tv 4)) (.bin .band (.bin .ieq (.iv 0) (.iv 4)) (.bin .band (.bin .ieq (.iv 1) (.iv 5)) (.bin .band (.bin .ieq (.iv 2) (.iv 6)) (.bin .band (.bin .ieq (.iv 3) (.iv 7)) (.bin .band (.bin .teq (.tv 1) (.tv 5)) (.bin .band (.bin .teq (.tv 2) (.tv 6)) (.bin .band (.bin .teq (.tv 3) (.tv 7)) (.bin .beq (.bv 0) (.bv 1)))))))))) t_snode_2 (.grow (.ret (.bool (.bl false)) [] [] [])))))
theorem x_snode : xfn Tryz.prog { kc with inl := [134] } Tryz.f104 [dd7_0_18, (.agg [(.str (.tv 4)), (.int .u8 (.iv 4)), (.int .i64 (.iv 5)), (.int .i64 (.iv 6)), (.int .u8 (.iv 7)), (.str (.tv 5)), (.str (.tv 6)), (.str (.tv 7)), (.bool (.bv 1)), (.slc 2 (.nv 4) (.nv 5)), (.slc 3 (.nv 6) (.nv 7))])] [] [] ⟨8, 8, 2, 8, 0, 4, 0, 0⟩ = some t_snode := by kernel_rfl
theorem vc_snode (i0 i1 i2 i3 i4 i5 i6 i7 : Int) (n0 n1 n2 n3 n4 n5 n6 n7 : Nat) (b0 b1 : Bool) (t0 t1 t2 t3 t4 t5 t6 t7 : ByteArray) (a0 a1 a2 a3 : Option Addr) (W : Wd) (R : Ending → World → Prop) (h : t_snode.den Tryz.prog W.w.heap.size R [] { I := [i0, i1, i2, i3, i4, i5, i6, i7], N := [n0, n1, n2, n3, n4, n5, n6, n7], B := [b0, b1], T := [t0, t1, t2, t3, t4, t5, t6, t7], A := [a0, a1, a2, a3] } W) : CallsE Tryz.prog 104 #[.agg #[.string t0, .int .u8 i0, .int .i64 i1, .int .i64 i2, .int .u8 i3, .string t1, .string t2, .string t3, .bool b0, .slice a0 n0 n1, .slice a1 n2 n3], .agg #[.string t4, .int .u8 i4, .int .i64 i5, .int .i64 i6, .int .u8 i7, .string t5, .string t6, .string t7, .bool b1, .slice a2 n4 n5, .slice a3 n6 n7]] W R :=
 fn_calls Tryz.func104 _ _ { I := [i0, i1, i2, i3, i4, i5, i6, i7], N := [n0, n1, n2, n3, n4, n5, n6, n7], B := [b0, b1], T := [t0, t1, t2, t3, t4, t5, t6, t7], A := [a0, a1, a2, a3] } _ x_snode (fun v hv => by cases hv) h
@[reducible] def t_mnode_1 : Tree := (.again 0 [(.bool (.bin .band (.bv 4) (.bv 2))), (.str (.tv 8)), (.int .u8 (.iv 8)), (.int .i64 (.iv 9)), (.int .i64 (.iv 10)), (.int .u8 (.iv 11)), (.str (.tv 9)), (.str (.tv 10)), (.str (.tv 11)), (.bool (.bv 5)), (.slc 4 (.nv 8) (.nv 9)), (.slc 5 (.nv 10) (.nv 11))] [])
@[reducible] def t_mnode_2 : Tree := (.call 91 [(.ptr 1 5), (.fn 27 [])] [⟨1, 25, [(.str (.tv 4)), (.int .u8 (.iv 4)), (.int .i64 (.iv 5)), (.int .i64 (.iv 6)), (.int .u8 (.iv 7)), (.str (.tv 5)), (.str (.tv 6)), (.str (.tv 7)), (.bool (.bv 3)), (.slc 2 (.nv 4) (.nv 5)), (.slc 3 (.nv 6) (.nv 7))]⟩] [] [dd7_0_11] (.bool (.bv 4)) kk3 t_mnode_1)
@[reducible] def t_mnode_3 : Tree := (.again 0 [(.bool (.bv 2)), (.str (.tv 4)), (.int .u8 (.iv 4)), (.int .i64 (.iv 5)), (.int .i64 (.iv 6)), (.int .u8 (.iv 7)), (.str (.tv 5)), (.str (.tv 6)), (.str (.tv 7)), (.bool (.bv 3)), (.slc 2 (.nv 4) (.nv 5)), (.slc 3 (.nv 6) (.nv 7))] [])
@[reducible] def t_mnode_4 : Tree := (.br (.bin .bor (.bin .bor (.bin .ieq (.iv 0) (.il 14)) (.bin .ieq (.iv 3) (.il 1))) (.bin .ieq (.iv 3) (.il 6))) t_mnode_2 t_mnode_3)
@[reducible] def t_mnode_5 : Tree := (.again 0 [(.bool (.bin .band (.bv 6) (.bv 4))), (.str (.tv 12)), (.int .u8 (.iv 12)), (.int .i64 (.iv 13)), (.int .i64 (.iv 14)), (.int .u8 (.iv 15)), (.str (.tv 13)), (.str (.tv 14)), (.str (.tv 15)), (.bool (.bv 7)), (.slc 6 (.nv 12) (.nv 13)), (.slc 7 (.nv 14) (.nv 15))] [])
@[reducible] def t_mnode_6 : Tree := (.call 91 [(.ptr 1 5), (.fn 92 [(.ptr 2 0)])] [⟨2, 4, [(.bool (.bin .bor (.bin .ieq (.iv 0) (.il 1)) (.bin .ieq (.iv 0) (.il 15))))]⟩, dd7_0_11] [] [dd7_0_7] (.bool (.bv 6)) kk3 t_mnode_5)
@[reducible] def t_mnode_7 : Tree := (.again 0 [(.bool (.bv 4)), (.str (.tv 8)), (.int .u8 (.iv 8)), (.int .i64 (.iv 9)), (.int .i64 (.iv 10)), (.int .u8 (.iv 11)), (.str (.tv 9)), (.str (.tv 10)), (.str (.tv 11)), (.bool (.bv 5)), (.slc 4 (.nv 8) (.nv 9)), (.slc 5 (.nv 10) (.nv 11))] [])
@[reducible] def t_mnode_8 : Tree := (.br (.bin .bor (.bin .ieq (.iv 3) (.il 4)) (.bin .ieq (.iv 3) (.il 5))) t_mnode_6 t_mnode_7)
@[reducible] def t_mnode_9 : Tree := (.again 0 [(.bool (.bin .band (.bv 8) (.bv 6))), (.str (.tv 16)), (.int .u8 (.iv 16)), (.int .i64 (.iv 17)), (.int .i64 (.iv 18)), (.int .u8 (.iv 19)), (.str (.tv 17)), (.str (.tv 18)), (.str (.tv 19)), (.bool (.bv 9)), (.slc 8 (.nv 16) (.nv 17)), (.slc 9 (.nv 18) (.nv 19))] [])
@[reducible] def t_mnode_10 : Tree := (.call 91 [(.ptr 1 6), (.fn 93 [])] [dd7_0_7] [] [dd7_0_8] (.bool (.bv 8)) kk3 t_mnode_9)
@[reducible] def t_mnode_11 : Tree := (.again 0 [(.bool (.bv 6)), (.str (.tv 12)), (.int .u8 (.iv 12)), (.int .i64 (.iv 13)), (.int .i64 (.iv 14)), (.int .u8 (.iv 15)), (.str (.tv 13)), (.str (.tv 14)), (.str (.tv 15)), (.bool (.bv 7)), (.slc 6 (.nv 12) (.nv 13)), (.slc 7 (.nv 14) (.nv 15))] [])
@[reducible] def t_mnode_12 : Tree := (.br (.bin .bor (.bin .bor (.bin .bor (.bin .ieq (.iv 0) (.il 4)) (.bin .ieq (.iv 0) (.il 12))) (.bin .ieq (.iv 3) (.il 2))) (.bin .ieq (.iv 3) (.il 3))) t_mnode_10 t_mnode_11)
@[reducible] def t_mnode_13 : Tree := (.again 0 [(.bool (.bin .band (.bv 10) (.bv 8))), (.str (.tv 20)), (.int .u8 (.iv 20)), (.int .i64 (.iv 21)), (.int .i64 (.iv 22)), (.int .u8 (.iv 23)), (.str (.tv 21)), (.str (.tv 22)), (.str (.tv 23)), (.bool (.bv 11)), (.slc 10 (.nv 20) (.nv 21)), (.slc 11 (.nv 22) (.nv 23))] [])
@[reducible] def t_mnode_14 : Tree := (.call 91 [(.ptr 1 7), (.fn 27 [])] [dd7_0_8] [] [dd7_0_0] (.bool (.bv 10)) kk3 t_mnode_13)
@[reducible] def t_mnode_15 : Tree := (.again 0 [(.bool (.bv 8)), (.str (.tv 16)), (.int .u8 (.iv 16)), (.int .i64 (.iv 17)), (.int .i64 (.iv 18)), (.int .u8 (.iv 19)), (.str (.tv 17)), (.str (.tv 18)), (.str (.tv 19)), (.bool (.bv 9)), (.slc 8 (.nv 16) (.nv 17)), (.slc 9 (.nv 18) (.nv 19))] [])
@[reducible] def t_mnode_16 : Tree := (.again 0 [(.bool (.bin .band (.bv 12) (.bv 10))), (.str (.tv 24)), (.int .u8 (.iv 24)), (.int .i64 (.iv 25)), (.int .i64 (.iv 26)), (.int .u8 (.iv 27)), (.str (.tv 25)), (.str (.tv 26)), (.str (.tv 27)), (.bool (.bv 13)), (.slc 12 (.nv 24) (.nv 25)), (.slc 13 (.nv 26) (.nv 27))] [])
@[reducible] def t_mnode_17 : Tree := (.call 94 [(.ptr 1 3), (.fn 95 [(.ptr 0 0)])] [dd7_0_0, dd7_0_16] [] [dd7_0_1] (.bool (.bv 12)) kk3 t_mnode_16)
@[reducible] def t_mnode_18 : Tree := (.again 0 [(.bool (.bin .band (.bv 14) (.bv 12))), (.str (.tv 28)), (.int .u8 (.iv 28)), (.int .i64 (.iv 29)), (.int .i64 (.iv 30)), (.int .u8 (.iv 31)), (.str (.tv 29)), (.str (.tv 30)), (.str (.tv 31)), (.bool (.bv 15)), (.slc 14 (.nv 28) (.nv 29)), (.slc 15 (.nv 30) (.nv 31))] [])
@[reducible] def t_mnode_19 : Tree := (.call 96 [(.ptr 1 8), (.fn 97 [(.ptr 0 0)])] [dd7_0_1, dd7_0_16] [] [dd7_0_2] (.bool (.bv 14)) kk3 t_mnode_18)
@[reducible] def t_mnode_20 : Tree := (.again 0 [(.bool (.bv 12)), (.str (.tv 24)), (.int .u8 (.iv 24)), (.int .i64 (.iv 25)), (.int .i64 (.iv 26)), (.int .u8 (.iv 27)), (.str (.tv 25)), (.str (.tv 26)), (.str (.tv 27)), (.bool (.bv 13)), (.slc 12 (.nv 24) (.nv 25)), (.slc 13 (.nv 26) (.nv 27))] [])
@[reducible] def t_mnode_21 : Tree := (.br (.bin .bor (.bin .bor (.bin .ieq (.iv 0) (.il 12)) (.bin .ieq (.iv 0) (.il 15))) (.bin .band (.bin .ieq (.iv 0) (.il 1)) (.un .not (.bin .ieq (.iv 3) (.il 0))))) t_mnode_19 t_mnode_20)
@[reducible] def t_mnode_22 : Tree := (.again 0 [(.bool (.bin .band (.bv 17) (.bv 14))), (.str (.tv 32)), (.int .u8 (.iv 32)), (.int .i64 (.iv 33)), (.int .i64 (.iv 34)), (.int .u8 (.iv 35)), (.str (.tv 33)), (.str (.tv 34)), (.str (.tv 35)), (.bool (.bv 18)), (.slc 16 (.nv 32) (.nv 33)), (.slc 17 (.nv 34) (.nv 35))] [])
@[reducible] def t_mnode_23 : Tree := (.call 98 [(.ptr 1 9), (.fn 99 [])] [dd7_0_2] [] [⟨1, 25, [(.str (.tv 32)), (.int .u8 (.iv 32)), (.int .i64 (.iv 33)), (.int .i64 (.iv 34)), (.int .u8 (.iv 35)), (.str (.tv 33)), (.str (.tv 34)), (.str (.tv 35)), (.bool (.bv 18)), (.slc 16 (.nv 32) (.nv 33)), (.slc 17 (.nv 34) (.nv 35))]⟩] (.bool (.bv 17)) kk3 t_mnode_22)
@[reducible] def t_mnode_24 : Tree := (.again 0 [(.bool (.bv 14)), (.str (.tv 28)), (.int .u8 (.iv 28)), (.int .i64 (.iv 29)), (.int .i64 (.iv 30)), (.int .u8 (.iv 31)), (.str (.tv 29)), (.str (.tv 30)), (.str (.tv 31)), (.bool (.bv 15)), (.slc 14 (.nv 28) (.nv 29)), (.slc 15 (.nv 30) (.nv 31))] [])
@[reducible] def t_mnode_25 : Tree := (.call 17 [(.int .u8 (.iv 0))] [] [] [] (.bool (.bv 16)) kk1 (.br (.bv 16) t_mnode_23 t_mnode_24))
@[reducible] def t_mnode_26 : Tree := (.again 0 [(.bool (.bin .band (.bv 18) (.bv 16))), (.str (.tv 36)), (.int .u8 (.iv 36)), (.int .i64 (.iv 37)), (.int .i64 (.iv 38)), (.int .u8 (.iv 39)), (.str (.tv 37)), (.str (.tv 38)), (.str (.tv 39)), (.bool (.bv 19)), (.slc 18 (.nv 36) (.nv 37)), (.slc 19 (.nv 38) (.nv 39))] [])
@[reducible] def t_mnode_27 : Tree := (.call 100 [(.ptr 1 10), (.fn 101 [])] [dd7_0_3] [] [⟨1, 25, [(.str (.tv 36)), (.int .u8 (.iv 36)), (.int .i64 (.iv 37)), (.int .i64 (.iv 38)), (.int .u8 (.iv 39)), (.str (.tv 37)), (.str (.tv 38)), (.str (.tv 39)), (.bool (.bv 19)), (.slc 18 (.nv 36) (.nv 37)), (.slc 19 (.nv 38) (.nv 39))]⟩] (.bool (.bv 18)) kk3 t_mnode_26)
@[reducible] def t_mnode_28 : Tree := (.again 0 [(.bool (.bv 16)), (.str (.tv 32)), (.int .u8 (.iv 32)), (.int .i64 (.iv 33)), (.int .i64 (.iv 34)), (.int .u8 (.iv 35)), (.str (.tv 33)), (.str (.tv 34)), (.str (.tv 35)), (.bool (.bv 17)), (.slc 16 (.nv 32) (.nv 33)), (.slc 17 (.nv 34) (.nv 35))] [])
@[reducible] def t_mnode_29 : Tree := (.br (.un .not (.bv 20)) (.ret (.int .i64 (.il 4)) [] [] []) (.ret (.int .i64 (.il 0)) [] [] []))
@[reducible] def t_mnode_30 : Tree := (.call 104 [(.agg [(.str (.tv 36)), (.int .u8 (.iv 36)), (.int .i64 (.iv 37)), (.int .i64 (.iv 38)), (.int .u8 (.iv 39)), (.str (.tv 37)), (.str (.tv 38)), (.str (.tv 39)), (.bool (.bv 19)), (.slc 18 (.nv 36) (.nv 37)), (.slc 19 (.nv 38) (.nv 39))]), dd7_0_20] [] [] [] (.bool (.bv 20)) kk1 t_mnode_29)
@[reducible] def t_mnode_31 : Tree := (.join (.br (.bin .ieq (.iv 0) (.il 14)) t_mnode_27 t_mnode_28) [(.bool (.bv 18)), (.str (.tv 36)), (.int .u8 (.iv 36)), (.int .i64 (.iv 37)), (.int .i64 (.iv 38)), (.int .u8 (.iv 39)), (.str (.tv 37)), (.str (.tv 38)), (.str (.tv 39)), (.bool (.bv 19)), (.slc 18 (.nv 36) (.nv 37)), (.slc 19 (.nv 38) (.nv 39))] [] kk3 (.br (.bv 18) t_mnode_30 (.ret (.int .i64 (.il 4)) [] [] [])))
@[reducible] def t_mnode_32 : Tree := (.join t_mnode_25 [(.bool (.bv 16)), (.str (.tv 32)), (.int .u8 (.iv 32)), (.int .i64 (.iv 33)), (.int .i64 (.iv 34)), (.int .u8 (.iv 35)), (.str (.tv 33)), (.str (.tv 34)), (.str (.tv 35)), (.bool (.bv 17)), (.slc 16 (.nv 32) (.nv 33)), (.slc 17 (.nv 34) (.nv 35))] [] kk3 t_mnode_31)
@[reducible] def t_mnode_33 : Tree := (.join t_mnode_21 [(.bool (.bv 14)), (.str (.tv 28)), (.int .u8 (.iv 28)), (.int .i64 (.iv 29)), (.int .i64 (.iv 30)), (.int .u8 (.iv 31)), (.str (.tv 29)), (.str (.tv 30)), (.str (.tv 31)), (.bool (.bv 15)), (.slc 14 (.nv 28) (.nv 29)), (.slc 15 (.nv 30) (.nv 31))] [] kk3 t_mnode_32)
@[reducible] def t_mnode_34 : Tree := (.join t_mnode_17 [(.bool (.bv 12)), (.str (.tv 24)), (.int .u8 (.iv 24)), (.int .i64 (.iv 25)), (.int .i64 (.iv 26)), (.int .u8 (.iv 27)), (.str (.tv 25)), (.str (.tv 26)), (.str (.tv 27)), (.bool (.bv 13)), (.slc 12 (.nv 24) (.nv 25)), (.slc 13 (.nv 26) (.nv 27))] [] kk3 t_mnode_33)
@[reducible] def t_mnode_35 : Tree := (.join (.br (.bin .ieq (.iv 0) (.il 4)) t_mnode_14 t_mnode_15) [(.bool (.bv 10)), (.str (.tv 20)), (.int .u8 (.iv 20)), (.int .i64 (.iv 21)), (.int .i64 (.iv 22)), (.int .u8 (.iv 23)), (.str (.tv 21)), (.str (.tv 22)), (.str (.tv 23)), (.bool (.bv 11)), (.slc 10 (.nv 20) (.nv 21)), (.slc 11 (.nv 22) (.nv 23))] [] kk3 t_mnode_34)
@[reducible] def t_mnode_36 : Tree := (.join t_mnode_12 [(.bool (.bv 8)), (.str (.tv 16)), (.int .u8 (.iv 16)), (.int .i64 (.iv 17)), (.int .i64 (.iv 18)), (.int .u8 (.iv 19)), (.str (.tv 17)), (.str (.tv 18)), (.str (.tv 19)), (.bool (.bv 9)), (.slc 8 (.nv 16) (.nv 17)), (.slc 9 (.nv 18) (.nv 19))] [] kk3 t_mnode_35)
@[reducible] def t_mnode_37 : Tree := (.join t_mnode_8 [(.bool (.bv 6)), (.str (.tv 12)), (.int .u8 (.iv 12)), (.int .i64 (.iv 13)), (.int .i64 (.iv 14)), (.int .u8 (.iv 15)), (.str (.tv 13)), (.str (.tv 14)), (.str (.tv 15)), (.bool (.bv 7)), (.slc 6 (.nv 12) (.nv 13)), (.slc 7 (.nv 14) (.nv 15))] [] kk3 t_mnode_36)
@[reducible] def t_mnode_38 : Tree := (.new (.wr (.new (.wr (.join t_mnode_4 [(.bool (.bv 4)), (.str (.tv 8)), (.int .u8 (.iv 8)), (.int .i64 (.iv 9)), (.int .i64 (.iv 10)), (.int .u8 (.iv 11)), (.str (.tv 9)), (.str (.tv 10)), (.str (.tv 11)), (.bool (.bv 5)), (.slc 4 (.nv 8) (.nv 9)), (.slc 5 (.nv 10) (.nv 11))] [] kk3 t_mnode_37)))))
@[reducible] def t_mnode_39 : Tree := (.call 90 [dd7_0_18] [] [] [] (.agg [(.str (.tv 4)), (.int .u8 (.iv 4)), (.int .i64 (.iv 5)), (.int .i64 (.iv 6)), (.int .u8 (.iv 7)), (.str (.tv 5)), (.str (.tv 6)), (.str (.tv 7)), (.bool (.bv 3)), (.slc 2 (.nv 4) (.nv 5)), (.slc 3 (.nv 6) (.nv 7))]) kk4 t_mnode_38)
@[reducible] def t_mnode_40 : Tree := (.call 89 [(.int .u8 (.iv 0)), (.int .u8 (.iv 3))] [] [] [] (.bool (.bv 2)) kk1 t_mnode_39)
@[reducible] def t_mnode_41 : Tree := (.again 0 [(.bool (.bl false)), (.str (.tv 8)), (.int .u8 (.iv 8)), (.int .i64 (.iv 9)), (.int .i64 (.iv 10)), (.int .u8 (.iv 11)), (.str (.tv 9)), (.str (.tv 10)), (.str (.tv 11)), (.bool (.bv 4)), (.slc 4 (.nv 8) (.nv 9)), (.slc 5 (.nv 10) (.nv 11))] [])
@[reducible] def t_mnode_42 : Tree := (.call 91 [(.ptr 1 5), (.fn 27 [])] [⟨1, 25, [(.str (.tv 4)), (.int .u8 (.iv 4)), (.int .i64 (.iv 5)), (.int .i64 (.iv 6)), (.int .u8 (.iv 7)), (.str (.tv 5)), (.str (.tv 6)), (.str (.tv 7)), (.bool (.bv 2)), (.slc 2 (.nv 4) (.nv 5)), (.slc 3 (.nv 6) (.nv 7))]⟩] [] [dd7_0_12] (.bool (.bv 3)) kk3 t_mnode_41)
@[reducible] def t_mnode_43 : Tree := (.again 0 [(.bool (.bl false)), (.str (.tv 4)), (.int .u8 (.iv 4)), (.int .i64 (.iv 5)), (.int .i64 (.iv 6)), (.int .u8 (.iv 7)), (.str (.tv 5)), (.str (.tv 6)), (.str (.tv 7)), (.bool (.bv 2)), (.slc 2 (.nv 4) (.nv 5)), (.slc 3 (.nv 6) (.nv 7))] [])
@[reducible] def t_mnode_44 : Tree := (.br (.bin .bor (.bin .bor (.bin .ieq (.iv 0) (.il 14)) (.bin .ieq (.iv 3) (.il 1))) (.bin .ieq (.iv 3) (.il 6))) t_mnode_42 t_mnode_43)
@[reducible] def t_mnode_45 : Tree := (.again 0 [(.bool (.bin .band (.bv 5) (.bv 3))), (.str (.tv 12)), (.int .u8 (.iv 12)), (.int .i64 (.iv 13)), (.int .i64 (.iv 14)), (.int .u8 (.iv 15)), (.str (.tv 13)), (.str (.tv 14)), (.str (.tv 15)), (.bool (.bv 6)), (.slc 6 (.nv 12) (.nv 13)), (.slc 7 (.nv 14) (.nv 15))] [])
@[reducible] def t_mnode_46 : Tree := (.call 91 [(.ptr 1 5), (.fn 92 [(.ptr 2 0)])] [⟨2, 4, [(.bool (.bin .bor (.bin .ieq (.iv 0) (.il 1)) (.bin .ieq (.iv 0) (.il 15))))]⟩, dd7_0_12] [] [dd7_0_9] (.bool (.bv 5)) kk3 t_mnode_45)
@[reducible] def t_mnode_47 : Tree := (.again 0 [(.bool (.bv 3)), (.str (.tv 8)), (.int .u8 (.iv 8)), (.int .i64 (.iv 9)), (.int .i64 (.iv 10)), (.int .u8 (.iv 11)), (.str (.tv 9)), (.str (.tv 10)), (.str (.tv 11)), (.bool (.bv 4)), (.slc 4 (.nv 8) (.nv 9)), (.slc 5 (.nv 10) (.nv 11))] [])
@[reducible] def t_mnode_48 : Tree := (.br (.bin .bor (.bin .ieq (.iv 3) (.il 4)) (.bin .ieq (.iv 3) (.il 5))) t_mnode_46 t_mnode_47)
@[reducible] def t_mnode_49 : Tree := (.again 0 [(.bool (.bin .band (.bv 7) (.bv 5))), (.str (.tv 16)), (.int .u8 (.iv 16)), (.int .i64 (.iv 17)), (.int .i64 (.iv 18)), (.int .u8 (.iv 19)), (.str (.tv 17)), (.str (.tv 18)), (.str (.tv 19)), (.bool (.bv 8)), (.slc 8 (.nv 16) (.nv 17)), (.slc 9 (.nv 18) (.nv 19))] [])
@[reducible] def t_mnode_50 : Tree := (.call 91 [(.ptr 1 6), (.fn 93 [])] [dd7_0_9] [] [dd7_0_10] (.bool (.bv 7)) kk3 t_mnode_49)
@[reducible] def t_mnode_51 : Tree := (.again 0 [(.bool (.bv 5)), (.str (.tv 12)), (.int .u8 (.iv 12)), (.int .i64 (.iv 13)), (.int .i64 (.iv 14)), (.int .u8 (.iv 15)), (.str (.tv 13)), (.str (.tv 14)), (.str (.tv 15)), (.bool (.bv 6)), (.slc 6 (.nv 12) (.nv 13)), (.slc 7 (.nv 14) (.nv 15))] [])
@[reducible] def t_mnode_52 : Tree := (.br (.bin .bor (.bin .bor (.bin .bor (.bin .ieq (.iv 0) (.il 4)) (.bin .ieq (.iv 0) (.il 12))) (.bin .ieq (.iv 3) (.il 2))) (.bin .ieq (.iv 3) (.il 3))) t_mnode_50 t_mnode_51)
@[reducible] def t_mnode_53 : Tree := (.again 0 [(.bool (.bin .band (.bv 9) (.bv 7))), (.str (.tv 20)), (.int .u8 (.iv 20)), (.int .i64 (.iv 21)), (.int .i64 (.iv 22)), (.int .u8 (.iv 23)), (.str (.tv 21)), (.str (.tv 22)), (.str (.tv 23)), (.bool (.bv 10)), (.slc 10 (.nv 20) (.nv 21)), (.slc 11 (.nv 22) (.nv 23))] [])
@[reducible] def t_mnode_54 : Tree := (.call 91 [(.ptr 1 7), (.fn 27 [])] [dd7_0_10] [] [dd7_0_4] (.bool (.bv 9)) kk3 t_mnode_53)
@[reducible] def t_mnode_55 : Tree := (.again 0 [(.bool (.bv 7)), (.str (.tv 16)), (.int .u8 (.iv 16)), (.int .i64 (.iv 17)), (.int .i64 (.iv 18)), (.int .u8 (.iv 19)), (.str (.tv 17)), (.str (.tv 18)), (.str (.tv 19)), (.bool (.bv 8)), (.slc 8 (.nv 16) (.nv 17)), (.slc 9 (.nv 18) (.nv 19))] [])
@[reducible] def t_mnode_56 : Tree := (.again 0 [(.bool (.bin .band (.bv 11) (.bv 9))), (.str (.tv 24)), (.int .u8 (.iv 24)), (.int .i64 (.iv 25)), (.int .i64 (.iv 26)), (.int .u8 (.iv 27)), (.str (.tv 25)), (.str (.tv 26)), (.str (.tv 27)), (.bool (.bv 12)), (.slc 12 (.nv 24) (.nv 25)), (.slc 13 (.nv 26) (.nv 27))] [])
@[reducible] def t_mnode_57 : Tree := (.call 94 [(.ptr 1 3), (.fn 95 [(.ptr 0 0)])] [dd7_0_4, dd7_0_16] [] [dd7_0_5] (.bool (.bv 11)) kk3 t_mnode_56)
@[reducible] def t_mnode_58 : Tree := (.again 0 [(.bool (.bin .band (.bv 13) (.bv 11))), (.str (.tv 28)), (.int .u8 (.iv 28)), (.int .i64 (.iv 29)), (.int .i64 (.iv 30)), (.int .u8 (.iv 31)), (.str (.tv 29)), (.str (.tv 30)), (.str (.tv 31)), (.bool (.bv 14)), (.slc 14 (.nv 28) (.nv 29)), (.slc 15 (.nv 30) (.nv 31))] [])
@[reducible] def t_mnode_59 : Tree := (.call 96 [(.ptr 1 8), (.fn 97 [(.ptr 0 0)])] [dd7_0_5, dd7_0_16] [] [dd7_0_6] (.bool (.bv 13)) kk3 t_mnode_58)
@[reducible] def t_mnode_60 : Tree := (.again 0 [(.bool (.bv 11)), (.str (.tv 24)), (.int .u8 (.iv 24)), (.int .i64 (.iv 25)), (.int .i64 (.iv 26)), (.int .u8 (.iv 27)), (.str (.tv 25)), (.str (.tv 26)), (.str (.tv 27)), (.bool (.bv 12)), (.slc 12 (.nv 24) (.nv 25)), (.slc 13 (.nv 26) (.nv 27))] [])
@[reducible] def t_mnode_61 : Tree := (.br (.bin .bor (.bin .bor (.bin .ieq (.iv 0) (.il 12)) (.bin .ieq (.iv 0) (.il 15))) (.bin .band (.bin .ieq (.iv 0) (.il 1)) (.un .not (.bin .ieq (.iv 3) (.il 0))))) t_mnode_59 t_mnode_60)
@[reducible] def t_mnode_62 : Tree := (.again 0 [(.bool (.bin .band (.bv 16) (.bv 13))), (.str (.tv 32)), (.int .u8 (.iv 32)), (.int .i64 (.iv 33)), (.int .i64 (.iv 34)), (.int .u8 (.iv 35)), (.str (.tv 33)), (.str (.tv 34)), (.str (.tv 35)), (.bool (.bv 17)), (.slc 16 (.nv 32) (.nv 33)), (.slc 17 (.nv 34) (.nv 35))] [])
@[reducible] def t_mnode_63 : Tree := (.call 98 [(.ptr 1 9), (.fn 99 [])] [dd7_0_6] [] [dd7_0_3] (.bool (.bv 16)) kk3 t_mnode_62)
@[reducible] def t_mnode_64 : Tree := (.again 0 [(.bool (.bv 13)), (.str (.tv 28)), (.int .u8 (.iv 28)), (.int .i64 (.iv 29)), (.int .i64 (.iv 30)), (.int .u8 (.iv 31)), (.str (.tv 29)), (.str (.tv 30)), (.str (.tv 31)), (.bool (.bv 14)), (.slc 14 (.nv 28) (.nv 29)), (.slc 15 (.nv 30) (.nv 31))] [])
@[reducible] def t_mnode_65 : Tree := (.call 17 [(.int .u8 (.iv 0))] [] [] [] (.bool (.bv 15)) kk1 (.br (.bv 15) t_mnode_63 t_mnode_64))
@[reducible] def t_mnode_66 : Tree := (.again 0 [(.bool (.bin .band (.bv 17) (.bv 15))), (.str (.tv 36)), (.int .u8 (.iv 36)), (.int .i64 (.iv 37)), (.int .i64 (.iv 38)), (.int .u8 (.iv 39)), (.str (.tv 37)), (.str (.tv 38)), (.str (.tv 39)), (.bool (.bv 18)), (.slc 18 (.nv 36) (.nv 37)), (.slc 19 (.nv 38) (.nv 39))] [])
@[reducible] def t_mnode_67 : Tree := (.call 100 [(.ptr 1 10), (.fn 101 [])] [⟨1, 25, [(.str (.tv 32)), (.int .u8 (.iv 32)), (.int .i64 (.iv 33)), (.int .i64 (.iv 34)), (.int .u8 (.iv 35)), (.str (.tv 33)), (.str (.tv 34)), (.str (.tv 35)), (.bool (.bv 16)), (.slc 16 (.nv 32) (.nv 33)), (.slc 17 (.nv 34) (.nv 35))]⟩] [] [⟨1, 25, [(.str (.tv 36)), (.int .u8 (.iv 36)), (.int .i64 (.iv 37)), (.int .i64 (.iv 38)), (.int .u8 (.iv 39)), (.str (.tv 37)), (.str (.tv 38)), (.str (.tv 39)), (.bool (.bv 18)), (.slc 18 (.nv 36) (.nv 37)), (.slc 19 (.nv 38) (.nv 39))]⟩] (.bool (.bv 17)) kk3 t_mnode_66)
@[reducible] def t_mnode_68 : Tree := (.again 0 [(.bool (.bv 15)), (.str (.tv 32)), (.int .u8 (.iv 32)), (.int .i64 (.iv 33)), (.int .i64 (.iv 34)), (.int .u8 (.iv 35)), (.str (.tv 33)), (.str (.tv 34)), (.str (.tv 35)), (.bool (.bv 16)), (.slc 16 (.nv 32) (.nv 33)), (.slc 17 (.nv 34) (.nv 35))] [])
@[reducible] def t_mnode_69 : Tree := (.br (.un .not (.bv 19)) (.ret (.int .i64 (.il 4)) [] [] []) (.ret (.int .i64 (.il 0)) [] [] []))
@[reducible] def t_mnode_70 : Tree := (.call 104 [(.agg [(.str (.tv 36)), (.int .u8 (.iv 36)), (.int .i64 (.iv 37)), (.int .i64 (.iv 38)), (.int .u8 (.iv 39)), (.str (.tv 37)), (.str (.tv 38)), (.str (.tv 39)), (.bool (.bv 18)), (.slc 18 (.nv 36) (.nv 37)), (.slc 19 (.nv 38) (.nv 39))]), dd7_0_20] [] [] [] (.bool (.bv 19)) kk1 t_mnode_69)
@[reducible] def t_mnode_71 : Tree := (.join (.br (.bin .ieq (.iv 0) (.il 14)) t_mnode_67 t_mnode_68) [(.bool (.bv 17)), (.str (.tv 36)), (.int .u8 (.iv 36)), (.int .i64 (.iv 37)), (.int .i64 (.iv 38)), (.int .u8 (.iv 39)), (.str (.tv 37)), (.str (.tv 38)), (.str (.tv 39)), (.bool (.bv 18)), (.slc 18 (.nv 36) (.nv 37)), (.slc 19 (.nv 38) (.nv 39))] [] kk3 (.br (.bv 17) t_mnode_70 (.ret (.int .i64 (.il 4)) [] [] [])))
@[reducible] def t_mnode_72 : Tree := (.join t_mnode_65 [(.bool (.bv 15)), (.str (.tv 32)), (.int .u8 (.iv 32)), (.int .i64 (.iv 33)), (.int .i64 (.iv 34)), (.int .u8 (.iv 35)), (.str (.tv 33)), (.str (.tv 34)), (.str (.tv 35)), (.bool (.bv 16)), (.slc 16 (.nv 32) (.nv 33)), (.slc 17 (.nv 34) (.nv 35))] [] kk3 t_mnode_71)
@[reducible] def t_mnode_73 : Tree := (.join t_mnode_61 [(.bool (.bv 13)), (.str (.tv 28)), (.int .u8 (.iv 28)), (.int .i64 (.iv 29)), (.int .i64 (.iv 30)), (.int .u8 (.iv 31)), (.str (.tv 29)), (.str (.tv 30)), (.str (.tv 31)), (.bool (.bv 14)), (.slc 14 (.nv 28) (.nv 29)), (.slc 15 (.nv 30) (.nv 31))] [] kk3 t_mnode_72)
@[reducible] def t_mnode_74 : Tree := (.join t_mnode_57 [(.bool (.bv 11)), (.str (.tv 24)), (.int .u8 (.iv 24)), (.int .i64 (.iv 25)), (.int .i64 (.iv 26)), (.int .u8 (.iv 27)), (.str (.tv 25)), (.str (.tv 26)), (.str (.tv 27)), (.bool (.bv 12)), (.slc 12 (.nv 24) (.nv 25)), (.slc 13 (.nv 26) (.nv 27))] [] kk3 t_mnode_73)
@[reducible] def t_mnode_75 : Tree := (.join (.br (.bin .ieq (.iv 0) (.il 4)) t_mnode_54 t_mnode_55) [(.bool (.bv 9)), (.str (.tv 20)), (.int .u8 (.iv 20)), (.int .i64 (.iv 21)), (.int .i64 (.iv 22)), (.int .u8 (.iv 23)), (.str (.tv 21)), (.str (.tv 22)), (.str (.tv 23)), (.bool (.bv 10)), (.slc 10 (.nv 20) (.nv 21)), (.slc 11 (.nv 22) (.nv 23))] [] kk3 t_mnode_74)
@[reducible] def t_mnode_76 : Tree := (.join t_mnode_52 [(.bool (.bv 7)), (.str (.tv 16)), (.int .u8 (.iv 16)), (.int .i64 (.iv 17)), (.int .i64 (.iv 18)), (.int .u8 (.iv 19)), (.str (.tv 17)), (.str (.tv 18)), (.str (.tv 19)), (.bool (.bv 8)), (.slc 8 (.nv 16) (.nv 17)), (.slc 9 (.nv 18) (.nv 19))] [] kk3 t_mnode_75)
@[reducible] def t_mnode_77 : Tree := (.join t_mnode_48 [(.bool (.bv 5)), (.str (.tv 12)), (.int .u8 (.iv 12)), (.int .i64 (.iv 13)), (.int .i64 (.iv 14)), (.int .u8 (.iv 15)), (.str (.tv 13)), (.str (.tv 14)), (.str (.tv 15)), (.bool (.bv 6)), (.slc 6 (.nv 12) (.nv 13)), (.slc 7 (.nv 14) (.nv 15))] [] kk3 t_mnode_76)
@[reducible] def t_mnode_78 : Tree := (.new (.wr (.new (.wr (.join t_mnode_44 [(.bool (.bv 3)), (.str (.tv 8)), (.int .u8 (.iv 8)), (.int .i64 (.iv 9)), (.int .i64 (.iv 10)), (.int .u8 (.iv 11)), (.str (.tv 9)), (.str (.tv 10)), (.str (.tv 11)), (.bool (.bv 4)), (.slc 4 (.nv 8) (.nv 9)), (.slc 5 (.nv 10) (.nv 11))] [] kk3 t_mnode_77)))))
@[reducible] def t_mnode_79 : Tree := (.call 90 [dd7_0_18] [] [] [] (.agg [(.str (.tv 4)), (.int .u8 (.iv 4)), (.int .i64 (.iv 5)), (.int .i64 (.iv 6)), (.int .u8 (.iv 7)), (.str (.tv 5)), (.str (.tv 6)), (.str (.tv 7)), (.bool (.bv 2)), (.slc 2 (.nv 4) (.nv 5)), (.slc 3 (.nv 6) (.nv 7))]) kk4 t_mnode_78)
@[reducible] def t_mnode_80 : Tree := (.call 27 [(.str (.tv 0))] [] [] [] (.bool (.bv 1)) kk1 (.br (.bin .band (.bv 1) (.bin .le (.il (-1)) (.iv 1))) t_mnode_40 t_mnode_79))
@[reducible] def t_mnode : Tree :=
(.new (.br (.bin .bor (.bin .bor (.bin .lt (.il 100) (.un .len (.tv 2))) (.bin .lt (.il 8) (.nv 0))) (.bin .lt (.il 8) (.nv 2))) (.ret (.int .i64 (.il 40)) [] [] []) t_mnode_80))
theorem x_mnode : xfn Tryz.prog { kc with mu := [(91, [0]), (94, [0]), (96, [0]), (98, [0]), (100, [0])], joins := [⟨8, [.tm 3, .cell 1 0, .cell 1 1, .cell 1 2, .cell 1 3, .cell 1 4, .cell 1 5, .cell 1 6, .cell 1 7, .cell 1 8, .cell 1 9, .cell 1 10]⟩, ⟨10, [.tm 3, .cell 1 0, .cell 1 1, .cell 1 2, .cell 1 3, .cell 1 4, .cell 1 5, .cell 1 6, .cell 1 7, .cell 1 8, .cell 1 9, .cell 1 10]⟩, ⟨12, [.tm 3, .cell 1 0, .cell 1 1, .cell 1 2, .cell 1 3, .cell 1 4, .cell 1 5, .cell 1 6, .cell 1 7, .cell 1 8, .cell 1 9, .cell 1 10]⟩, ⟨14, [.tm 3, .cell 1 0, .cell 1 1, .cell 1 2, .cell 1 3, .cell 1 4, .cell 1 5, .cell 1 6, .cell 1 7, .cell 1 8, .cell 1 9, .cell 1 10]⟩, ⟨15, [.tm 3, .cell 1 0, .cell 1 1, .cell 1 2, .cell 1 3, .cell 1 4, .cell 1 5, .cell 1 6, .cell 1 7, .cell 1 8, .cell 1 9, .cell 1 10]⟩, ⟨17, [.tm 3, .cell 1 0, .cell 1 1, .cell 1 2, .cell 1 3, .cell 1 4, .cell 1 5, .cell 1 6, .cell 1 7, .cell 1 8, .cell 1 9, .cell 1 10]⟩, ⟨19, [.tm 3, .cell 1 0, .cell 1 1, .cell 1 2, .cell 1 3, .cell 1 4, .cell 1 5, .cell 1 6, .cell 1 7, .cell 1 8, .cell 1 9, .cell 1 10]⟩, ⟨21, [.tm 3, .cell 1 0, .cell 1 1, .cell 1 2, .cell 1 3, .cell 1 4, .cell 1 5, .cell 1 6, .cell 1 7, .cell 1 8, .cell 1 9, .cell 1 10]⟩] } Tryz.f48 [dd7_0_18] [] [] kk4 = some t_mnode := by kernel_rfl
theorem vc_mnode (i0 i1 i2 i3 : Int) (n0 n1 n2 n3 : Nat) (b0 : Bool) (t0 t1 t2 t3 : ByteArray) (a0 a1 : Option Addr) (W : Wd) (R : Ending → World → Prop) (h : t_mnode.den Tryz.prog W.w.heap.size R [] { I := [i0, i1, i2, i3], N := [n0, n1, n2, n3], B := [b0], T := [t0, t1, t2, t3], A := [a0, a1] } W) : CallsE Tryz.prog 48 #[.agg #[.string t0, .int .u8 i0, .int .i64 i1, .int .i64 i2, .int .u8 i3, .string t1, .string t2, .string t3, .bool b0, .slice a0 n0 n1, .slice a1 n2 n3]] W R :=
 fn_calls Tryz.func48 _ _ { I := [i0, i1, i2, i3], N := [n0, n1, n2, n3], B := [b0], T := [t0, t1, t2, t3], A := [a0, a1] } _ x_mnode (fun v hv => by cases hv) h
@[reducible] def t_mflow_1 : Tree := (.br (.bin .bor (.bin .bor (.bin .lt (.iv 0) (.il 0)) (.bin .lt (.iv 1) (.il 0))) (.bin .band (.bv 0) (.un .not (.bin .teq (.tv 0) (.tl []))))) (.ret (.int .i64 (.il 4)) [] [] []) (.ret (.int .i64 (.il 0)) [] [] []))
@[reducible] def t_mflow : Tree :=
(.new (.br (.bin .lt (.il 100) (.un .len (.tv 0))) (.ret (.int .i64 (.il 40)) [] [] []) t_mflow_1))
theorem x_mflow : xfn Tryz.prog kc Tryz.f49 [(.agg [(.int .i64 (.iv 0)), (.int .i64 (.iv 1)), (.str (.tv 0)), (.bool (.bv 0))])] [] [] kk9 = some t_mflow := by kernel_rfl
theorem vc_mflow (i0 i1 : Int) (b0 : Bool) (t0 : ByteArray) (W : Wd) (R : Ending → World → Prop) (h : t_mflow.den Tryz.prog W.w.heap.size R [] { I := [i0, i1], B := [b0], T := [t0] } W) : CallsE Tryz.prog 49 #[.agg #[.int .i64 i0, .int .i64 i1, .string t0, .bool b0]] W R :=
 fn_calls Tryz.func49 _ _ { I := [i0, i1], B := [b0], T := [t0] } _ x_mflow (fun v hv => by cases hv) h
@[reducible] def t_mproc_1 : Tree := (.frz [⟨1, 25, [(.str (.tv 1)), (.int .u8 (.iv 2)), (.int .i64 (.iv 3)), (.int .i64 (.iv 4)), (.int .u8 (.iv 5)), (.str (.tv 2)), (.str (.tv 3)), (.str (.tv 4)), (.bool (.bv 1)), (.slc 3 (.nv 6) (.nv 7)), (.slc 4 (.nv 8) (.nv 9))]⟩] (.again 0 [(.int .i64 (.un (.wrap .i64) (.bin .add (.iv 1) (.il 1))))] []))
@[reducible] def t_mproc_2 : Tree := (.new (.wr (.call 48 [dd7_0_19] [] [] [] (.int .i64 (.iv 6)) kk0 (.br (.un .not (.bin .ieq (.iv 6) (.il 0))) (.ret (.int .i64 (.iv 6)) [] [] []) t_mproc_1))))
@[reducible] def t_mproc_3 : Tree := (.chk (.sm 1) (.chk (.bin .le (.il 0) (.iv 1)) (.look 25 (.elt 1 (.iv 1) 11 0) dd7_0_19 kk4 t_mproc_2)))
@[reducible] def t_mproc_4 : Tree := (.frz [⟨1, 33, [(.int .i64 (.iv 3)), (.int .i64 (.iv 4)), (.str (.tv 1)), (.bool (.bv 1))]⟩] (.again 1 [(.int .i64 (.un (.wrap .i64) (.bin .add (.iv 2) (.il 1))))] []))
@[reducible] def t_mproc_5 : Tree := (.new (.wr (.call 49 [(.agg [(.int .i64 (.iv 3)), (.int .i64 (.iv 4)), (.str (.tv 1)), (.bool (.bv 1))])] [] [] [] (.int .i64 (.iv 5)) kk0 (.br (.un .not (.bin .ieq (.iv 5) (.il 0))) (.ret (.int .i64 (.iv 5)) [] [] []) t_mproc_4))))
@[reducible] def t_mproc_6 : Tree := (.chk (.sm 2) (.chk (.bin .le (.il 0) (.iv 2)) (.look 33 (.elt 2 (.iv 2) 4 0) (.agg [(.int .i64 (.iv 3)), (.int .i64 (.iv 4)), (.str (.tv 1)), (.bool (.bv 1))]) kk9 t_mproc_5)))
@[reducible] def t_mproc_7 : Tree := (.loop [(.int .i64 (.il 0))] [] [(.int .i64 (.iv 2))] [] kk0 (.br (.bin .lt (.iv 2) (.nv 4)) t_mproc_6 (.ret (.int .i64 (.il 0)) [] [] [])))
@[reducible] def t_mproc_8 : Tree := (.loop [(.int .i64 (.il 0))] [] [(.int .i64 (.iv 1))] [] kk0 (.br (.bin .lt (.iv 1) (.nv 2)) t_mproc_3 t_mproc_7))
@[reducible] def t_mproc_9 : Tree := (.call 47 [(.slc 0 (.nv 0) (.nv 1))] [] [] [] (.int .i64 (.iv 0)) kk0 (.br (.un .not (.bin .ieq (.iv 0) (.il 0))) (.ret (.int .i64 (.iv 0)) [] [] []) t_mproc_8))
@[reducible] def t_mproc_10 : Tree := (.call 27 [(.str (.tv 0))] [] [] [] (.bool (.bv 0)) kk1 (.br (.un .not (.bv 0)) (.ret (.int .i64 (.il 4)) [] [] []) t_mproc_9))
@[reducible] def t_mproc_11 : Tree := (.br (.un .not (.bin .ieq (.nv 2) (.il 0))) t_mproc_10 (.ret (.int .i64 (.il 4)) [] [] []))
@[reducible] def t_mproc : Tree :=
(.new (.br (.bin .bor (.bin .lt (.il 40) (.nv 2)) (.bin .lt (.il 80) (.nv 4))) (.ret (.int .i64 (.il 40)) [] [] []) t_mproc_11))
theorem x_mproc : xfn Tryz.prog { kc with loops := [⟨9, [.tm 41]⟩, ⟨16, [.tm 54]⟩] } Tryz.f21 [(.agg [(.str (.tv 0)), (.slc 0 (.nv 0) (.nv 1)), (.slc 1 (.nv 2) (.nv 3)), (.slc 2 (.nv 4) (.nv 5))])] [] [] kk11 = some t_mproc := by kernel_rfl
theorem vc_mproc (n0 n1 n2 n3 n4 n5 : Nat) (t0 : ByteArray) (a0 a1 a2 : Option Addr) (W : Wd) (R : Ending → World → Prop) (h : t_mproc.den Tryz.prog W.w.heap.size R [] { N := [n0, n1, n2, n3, n4, n5], T := [t0], A := [a0, a1, a2] } W) : CallsE Tryz.prog 21 #[.agg #[.string t0, .slice a0 n0 n1, .slice a1 n2 n3, .slice a2 n4 n5]] W R :=
 fn_calls Tryz.func21 _ _ { N := [n0, n1, n2, n3, n4, n5], T := [t0], A := [a0, a1, a2] } _ x_mproc (fun v hv => by cases hv) h
end Go.Proofs.YtkpjmlnhhggenaaGreatDoor
end
section
/- model.Node: its parts, and the chain of what it must have and may have. -/
namespace Go.Proofs.YtkpjmlnhhggenaaGreatDoor
open Go Go.RowKit Go.SF
abbrev NdT : TypeId := 25
theorem bare_q (kd inn on ev : Int) (nm key txt set : Md.Bs) (brk : Bool) (va ba : Option Addr) (vn vc bn bc : Nat) (W : Wd) : CallsQ Tryz.prog 90 #[.agg #[.string ⟨(nm : Md.Bs).toArray⟩, .int .u8 kd, .int .i64 inn, .int .i64 on, .int .u8 ev, .string ⟨(key : Md.Bs).toArray⟩, .string ⟨(txt : Md.Bs).toArray⟩, .string ⟨(set : Md.Bs).toArray⟩, .bool brk, .slice va vn vc, .slice ba bn bc]] W (.agg #[.string ⟨([] : Md.Bs).toArray⟩, .int .u8 0, .int .i64 0, .int .i64 on, .int .u8 0, .string ⟨(key : Md.Bs).toArray⟩, .string ⟨(txt : Md.Bs).toArray⟩, .string ⟨(set : Md.Bs).toArray⟩, .bool brk, .slice va vn vc, .slice ba bn bc]) := by
 refine vc_bare kd inn on ev vn vc bn bc brk ⟨nm.toArray⟩ ⟨key.toArray⟩ ⟨txt.toArray⟩ ⟨set.toArray⟩ va ba W.all _ ?_
 exact den_new fun _ _ _ _ => den_new fun _ _ _ _ => den_wr fun _ _ => den_wr fun _ _ => den_wr fun _ _ => den_wr fun _ _ => den_wr fun _ _ => den_ret fun _ _ _ => ⟨_, rfl, rfl⟩
theorem node1_q (s : Md.Bs) (hd : Bool) (m : Nat) (W : Wd) (hG : GlobM W) (hm : W.w.heap[m]? = some (.cells #[.bool hd] 4)) :
  CallsQ Tryz.prog 92 #[.string ⟨s.toArray⟩, .pointer (some ⟨m, 0, none⟩)] W (.bool (Md.name s || (hd && s == []))) := by
 refine vc_node1 hd ⟨s.toArray⟩ m W.all _ hm (Array.getElem?_eq_some_iff.1 hm).1 ?_
 refine den_call_q (fun _ _ => mname_q s W.all (hG.ext W.all_ext)) ⟨Md.name s, rfl, fun W2 x2 => den_ret fun _ _ _ => ⟨_, rfl, rfl⟩⟩
theorem node2_q (s : Md.Bs) (W : Wd) : CallsQ Tryz.prog 93 #[.string ⟨s.toArray⟩] W (.bool (!(s == []))) :=
 vc_node2 ⟨s.toArray⟩ W.all _ (den_ret fun _ _ _ => ⟨_, rfl, rfl⟩)
theorem node3_q (k : Int) (kd inn on ev : Int) (nm key txt set : Md.Bs) (brk : Bool) (va ba : Option Addr) (vn vc bn bc : Nat) (m : Nat) (W : Wd) (hm : W.w.heap[m]? = some (.cells #[.string ⟨(nm : Md.Bs).toArray⟩, .int .u8 kd, .int .i64 inn, .int .i64 on, .int .u8 ev, .string ⟨(key : Md.Bs).toArray⟩, .string ⟨(txt : Md.Bs).toArray⟩, .string ⟨(set : Md.Bs).toArray⟩, .bool brk, .slice va vn vc, .slice ba bn bc] NdT)) :
  CallsQ Tryz.prog 95 #[.int .i64 k, .pointer (some ⟨m, 0, none⟩)] W (.bool ((leB 0 k && kd == 15) || (k == -1 && !(kd == 15)))) :=
 vc_node3 k kd inn on ev vn vc bn bc brk ⟨nm.toArray⟩ ⟨key.toArray⟩ ⟨txt.toArray⟩ ⟨set.toArray⟩ va ba m W.all _ hm (Array.getElem?_eq_some_iff.1 hm).1 (den_ret fun _ _ _ => ⟨_, rfl, rfl⟩)
theorem node4_q (b : Bool) (kd inn on ev : Int) (nm key txt set : Md.Bs) (brk : Bool) (va ba : Option Addr) (vn vc bn bc : Nat) (m : Nat) (W : Wd) (hm : W.w.heap[m]? = some (.cells #[.string ⟨(nm : Md.Bs).toArray⟩, .int .u8 kd, .int .i64 inn, .int .i64 on, .int .u8 ev, .string ⟨(key : Md.Bs).toArray⟩, .string ⟨(txt : Md.Bs).toArray⟩, .string ⟨(set : Md.Bs).toArray⟩, .bool brk, .slice va vn vc, .slice ba bn bc] NdT)) :
  CallsQ Tryz.prog 97 #[.bool b, .pointer (some ⟨m, 0, none⟩)] W (.bool ((b || !(kd == 15)) || !(ev == 4))) :=
 vc_node4 kd inn on ev vn vc bn bc b brk ⟨nm.toArray⟩ ⟨key.toArray⟩ ⟨txt.toArray⟩ ⟨set.toArray⟩ va ba m W.all _ hm (Array.getElem?_eq_some_iff.1 hm).1 (den_ret fun _ _ _ => ⟨_, rfl, rfl⟩)
theorem node5_q (l : List Md.Var) (a : Option Addr) (c : Nat) (W : Wd) (hl : l.length ≤ 1000000) (hf : ∀ v ∈ l, fitV v) (hV : SlW W.w a l.length c 4 (l.flatMap varC)) (hG : GlobM W) :
  CallsQ Tryz.prog 99 #[.slice a l.length c] W (.bool (Md.vars l == 0)) := by
 refine vc_node5 l.length c a W.all _ ?_
 refine den_call_q (fun _ _ => mvars_q l a c W.all hl hf hV (hG.ext W.all_ext)) ⟨Md.vars l, rfl, fun W2 x2 => den_ret fun _ _ _ => ⟨_, rfl, rfl⟩⟩
theorem node6_q (l : List Md.Bs) (a : Option Addr) (c : Nat) (W : Wd) (hl : l.length ≤ 1000000) (hV : SlW W.w a l.length c 1 (strs l)) (hG : GlobM W) :
  CallsQ Tryz.prog 101 #[.slice a l.length c] W (.bool (Md.unl id Md.name [] l)) := by
 refine vc_node6 l.length c a W.all _ ?_
 refine den_call_q (fun _ _ => uls_q l a c W.all hl hV (hG.ext W.all_ext)) ⟨Md.unl id Md.name [] l, rfl, fun W2 x2 => den_ret fun _ _ _ => ⟨_, rfl, rfl⟩⟩
theorem pkey_c (kd inn on ev : Int) (nm key txt set : Md.Bs) (brk : Bool) (va ba : Option Addr) (vn vc bn bc : Nat) (m : Nat) (V : Wd) (hG : GlobM V) (hm : V.w.heap[m]? = some (.cells #[.string ⟨(nm : Md.Bs).toArray⟩, .int .u8 kd, .int .i64 inn, .int .i64 on, .int .u8 ev, .string ⟨(key : Md.Bs).toArray⟩, .string ⟨(txt : Md.Bs).toArray⟩, .string ⟨(set : Md.Bs).toArray⟩, .bool brk, .slice va vn vc, .slice ba bn bc] NdT)) (hI : ¬ V.I m) :
  CallsE Tryz.prog 91 #[.pointer (some ⟨m, 5, none⟩), .func (.func 27) #[] #[]] V fun e w' => e = .returned (.bool (Md.name key)) ∧ w'.heap[m]? = some (.cells #[.string ⟨(nm : Md.Bs).toArray⟩, .int .u8 kd, .int .i64 inn, .int .i64 on, .int .u8 ev, .string ⟨([] : Md.Bs).toArray⟩, .string ⟨(txt : Md.Bs).toArray⟩, .string ⟨(set : Md.Bs).toArray⟩, .bool brk, .slice va vn vc, .slice ba bn bc] NdT) := by
 refine vc_pkey kd inn on ev vn vc bn bc brk ⟨nm.toArray⟩ ⟨key.toArray⟩ ⟨txt.toArray⟩ ⟨set.toArray⟩ va ba m V _ hm hI ?_
 refine den_call_q (fun hb _ => mname_q key V (hG)) ⟨Md.name key, rfl, fun W2 x2 => ?_⟩
 exact den_wr fun W3 x3 => den_ret fun h1 _ _ => ⟨rfl, h1 _ (List.mem_singleton.2 rfl)⟩
theorem pset_c (kd inn on ev : Int) (nm key txt set : Md.Bs) (brk : Bool) (va ba : Option Addr) (vn vc bn bc : Nat) (m : Nat) (V : Wd) (hG : GlobM V) (hm : V.w.heap[m]? = some (.cells #[.string ⟨(nm : Md.Bs).toArray⟩, .int .u8 kd, .int .i64 inn, .int .i64 on, .int .u8 ev, .string ⟨(key : Md.Bs).toArray⟩, .string ⟨(txt : Md.Bs).toArray⟩, .string ⟨(set : Md.Bs).toArray⟩, .bool brk, .slice va vn vc, .slice ba bn bc] NdT)) (hI : ¬ V.I m) :
  CallsE Tryz.prog 91 #[.pointer (some ⟨m, 7, none⟩), .func (.func 27) #[] #[]] V fun e w' => e = .returned (.bool (Md.name set)) ∧ w'.heap[m]? = some (.cells #[.string ⟨(nm : Md.Bs).toArray⟩, .int .u8 kd, .int .i64 inn, .int .i64 on, .int .u8 ev, .string ⟨(key : Md.Bs).toArray⟩, .string ⟨(txt : Md.Bs).toArray⟩, .string ⟨([] : Md.Bs).toArray⟩, .bool brk, .slice va vn vc, .slice ba bn bc] NdT) := by
 refine vc_pset kd inn on ev vn vc bn bc brk ⟨nm.toArray⟩ ⟨key.toArray⟩ ⟨txt.toArray⟩ ⟨set.toArray⟩ va ba m V _ hm hI ?_
 refine den_call_q (fun hb _ => mname_q set V (hG)) ⟨Md.name set, rfl, fun W2 x2 => ?_⟩
 exact den_wr fun W3 x3 => den_ret fun h1 _ _ => ⟨rfl, h1 _ (List.mem_singleton.2 rfl)⟩
theorem ptxt_c (kd inn on ev : Int) (nm key txt set : Md.Bs) (brk : Bool) (va ba : Option Addr) (vn vc bn bc : Nat) (m : Nat) (V : Wd) (hG : GlobM V) (hm : V.w.heap[m]? = some (.cells #[.string ⟨(nm : Md.Bs).toArray⟩, .int .u8 kd, .int .i64 inn, .int .i64 on, .int .u8 ev, .string ⟨(key : Md.Bs).toArray⟩, .string ⟨(txt : Md.Bs).toArray⟩, .string ⟨(set : Md.Bs).toArray⟩, .bool brk, .slice va vn vc, .slice ba bn bc] NdT)) (hI : ¬ V.I m) :
  CallsE Tryz.prog 91 #[.pointer (some ⟨m, 6, none⟩), .func (.func 93) #[] #[]] V fun e w' => e = .returned (.bool (!(txt == []))) ∧ w'.heap[m]? = some (.cells #[.string ⟨(nm : Md.Bs).toArray⟩, .int .u8 kd, .int .i64 inn, .int .i64 on, .int .u8 ev, .string ⟨(key : Md.Bs).toArray⟩, .string ⟨([] : Md.Bs).toArray⟩, .string ⟨(set : Md.Bs).toArray⟩, .bool brk, .slice va vn vc, .slice ba bn bc] NdT) := by
 refine vc_ptxt kd inn on ev vn vc bn bc brk ⟨nm.toArray⟩ ⟨key.toArray⟩ ⟨txt.toArray⟩ ⟨set.toArray⟩ va ba m V _ hm hI ?_
 refine den_call_q (fun hb _ => node2_q txt V) ⟨!(txt == []), rfl, fun W2 x2 => ?_⟩
 exact den_wr fun W3 x3 => den_ret fun h1 _ _ => ⟨rfl, h1 _ (List.mem_singleton.2 rfl)⟩
theorem pkey2_c (hd : Bool) (m2 : Nat) (kd inn on ev : Int) (nm key txt set : Md.Bs) (brk : Bool) (va ba : Option Addr) (vn vc bn bc : Nat) (m : Nat) (V : Wd) (hG : GlobM V) (hm : V.w.heap[m]? = some (.cells #[.string ⟨(nm : Md.Bs).toArray⟩, .int .u8 kd, .int .i64 inn, .int .i64 on, .int .u8 ev, .string ⟨(key : Md.Bs).toArray⟩, .string ⟨(txt : Md.Bs).toArray⟩, .string ⟨(set : Md.Bs).toArray⟩, .bool brk, .slice va vn vc, .slice ba bn bc] NdT)) (hI : ¬ V.I m) (hm2 : V.w.heap[m2]? = some (.cells #[.bool hd] 4)) (hI2 : V.I m2) :
  CallsE Tryz.prog 91 #[.pointer (some ⟨m, 5, none⟩), .func (.func 92) #[] #[.pointer (some ⟨m2, 0, none⟩)]] V fun e w' => e = .returned (.bool (Md.name key || (hd && key == []))) ∧ w'.heap[m]? = some (.cells #[.string ⟨(nm : Md.Bs).toArray⟩, .int .u8 kd, .int .i64 inn, .int .i64 on, .int .u8 ev, .string ⟨([] : Md.Bs).toArray⟩, .string ⟨(txt : Md.Bs).toArray⟩, .string ⟨(set : Md.Bs).toArray⟩, .bool brk, .slice va vn vc, .slice ba bn bc] NdT) := by
 refine vc_pkey2 kd inn on ev vn vc bn bc brk hd ⟨nm.toArray⟩ ⟨key.toArray⟩ ⟨txt.toArray⟩ ⟨set.toArray⟩ va ba m m2 V _ hm hI hm2 hI2 ?_
 refine den_call_q (fun hb _ => node1_q key hd m2 V hG hm2) ⟨Md.name key || (hd && key == []), rfl, fun W2 x2 => ?_⟩
 exact den_wr fun W3 x3 => den_ret fun h1 _ _ => ⟨rfl, h1 _ (List.mem_singleton.2 rfl)⟩
theorem pon_c (kd2 inn2 on2 ev2 : Int) (nm2 key2 txt2 set2 : Md.Bs) (brk2 : Bool) (va2 ba2 : Option Addr) (vn2 vc2 bn2 bc2 : Nat) (m2 : Nat) (kd inn on ev : Int) (nm key txt set : Md.Bs) (brk : Bool) (va ba : Option Addr) (vn vc bn bc : Nat) (m : Nat) (V : Wd) (hG : GlobM V) (hm : V.w.heap[m]? = some (.cells #[.string ⟨(nm : Md.Bs).toArray⟩, .int .u8 kd, .int .i64 inn, .int .i64 on, .int .u8 ev, .string ⟨(key : Md.Bs).toArray⟩, .string ⟨(txt : Md.Bs).toArray⟩, .string ⟨(set : Md.Bs).toArray⟩, .bool brk, .slice va vn vc, .slice ba bn bc] NdT)) (hI : ¬ V.I m) (hm2 : V.w.heap[m2]? = some (.cells #[.string ⟨(nm2 : Md.Bs).toArray⟩, .int .u8 kd2, .int .i64 inn2, .int .i64 on2, .int .u8 ev2, .string ⟨(key2 : Md.Bs).toArray⟩, .string ⟨(txt2 : Md.Bs).toArray⟩, .string ⟨(set2 : Md.Bs).toArray⟩, .bool brk2, .slice va2 vn2 vc2, .slice ba2 bn2 bc2] NdT)) (hI2 : V.I m2) :
  CallsE Tryz.prog 94 #[.pointer (some ⟨m, 3, none⟩), .func (.func 95) #[] #[.pointer (some ⟨m2, 0, none⟩)]] V fun e w' => e = .returned (.bool ((leB 0 on && kd2 == 15) || (on == -1 && !(kd2 == 15)))) ∧ w'.heap[m]? = some (.cells #[.string ⟨(nm : Md.Bs).toArray⟩, .int .u8 kd, .int .i64 inn, .int .i64 0, .int .u8 ev, .string ⟨(key : Md.Bs).toArray⟩, .string ⟨(txt : Md.Bs).toArray⟩, .string ⟨(set : Md.Bs).toArray⟩, .bool brk, .slice va vn vc, .slice ba bn bc] NdT) := by
 refine vc_pon kd inn on ev kd2 inn2 on2 ev2 vn vc bn bc vn2 vc2 bn2 bc2 brk brk2 ⟨nm.toArray⟩ ⟨key.toArray⟩ ⟨txt.toArray⟩ ⟨set.toArray⟩ ⟨nm2.toArray⟩ ⟨key2.toArray⟩ ⟨txt2.toArray⟩ ⟨set2.toArray⟩ va ba va2 ba2 m m2 V _ hm hI hm2 hI2 ?_
 refine den_call_q (fun hb _ => node3_q on kd2 inn2 on2 ev2 nm2 key2 txt2 set2 brk2 va2 ba2 vn2 vc2 bn2 bc2 m2 V hm2) ⟨(leB 0 on && kd2 == 15) || (on == -1 && !(kd2 == 15)), rfl, fun W2 x2 => ?_⟩
 exact den_wr fun W3 x3 => den_ret fun h1 _ _ => ⟨rfl, h1 _ (List.mem_singleton.2 rfl)⟩
theorem pbrk_c (kd2 inn2 on2 ev2 : Int) (nm2 key2 txt2 set2 : Md.Bs) (brk2 : Bool) (va2 ba2 : Option Addr) (vn2 vc2 bn2 bc2 : Nat) (m2 : Nat) (kd inn on ev : Int) (nm key txt set : Md.Bs) (brk : Bool) (va ba : Option Addr) (vn vc bn bc : Nat) (m : Nat) (V : Wd) (hG : GlobM V) (hm : V.w.heap[m]? = some (.cells #[.string ⟨(nm : Md.Bs).toArray⟩, .int .u8 kd, .int .i64 inn, .int .i64 on, .int .u8 ev, .string ⟨(key : Md.Bs).toArray⟩, .string ⟨(txt : Md.Bs).toArray⟩, .string ⟨(set : Md.Bs).toArray⟩, .bool brk, .slice va vn vc, .slice ba bn bc] NdT)) (hI : ¬ V.I m) (hm2 : V.w.heap[m2]? = some (.cells #[.string ⟨(nm2 : Md.Bs).toArray⟩, .int .u8 kd2, .int .i64 inn2, .int .i64 on2, .int .u8 ev2, .string ⟨(key2 : Md.Bs).toArray⟩, .string ⟨(txt2 : Md.Bs).toArray⟩, .string ⟨(set2 : Md.Bs).toArray⟩, .bool brk2, .slice va2 vn2 vc2, .slice ba2 bn2 bc2] NdT)) (hI2 : V.I m2) :
  CallsE Tryz.prog 96 #[.pointer (some ⟨m, 8, none⟩), .func (.func 97) #[] #[.pointer (some ⟨m2, 0, none⟩)]] V fun e w' => e = .returned (.bool ((brk || !(kd2 == 15)) || !(ev2 == 4))) ∧ w'.heap[m]? = some (.cells #[.string ⟨(nm : Md.Bs).toArray⟩, .int .u8 kd, .int .i64 inn, .int .i64 on, .int .u8 ev, .string ⟨(key : Md.Bs).toArray⟩, .string ⟨(txt : Md.Bs).toArray⟩, .string ⟨(set : Md.Bs).toArray⟩, .bool false, .slice va vn vc, .slice ba bn bc] NdT) := by
 refine vc_pbrk kd inn on ev kd2 inn2 on2 ev2 vn vc bn bc vn2 vc2 bn2 bc2 brk brk2 ⟨nm.toArray⟩ ⟨key.toArray⟩ ⟨txt.toArray⟩ ⟨set.toArray⟩ ⟨nm2.toArray⟩ ⟨key2.toArray⟩ ⟨txt2.toArray⟩ ⟨set2.toArray⟩ va ba va2 ba2 m m2 V _ hm hI hm2 hI2 ?_
 refine den_call_q (fun hb _ => node4_q brk kd2 inn2 on2 ev2 nm2 key2 txt2 set2 brk2 va2 ba2 vn2 vc2 bn2 bc2 m2 V hm2) ⟨(brk || !(kd2 == 15)) || !(ev2 == 4), rfl, fun W2 x2 => ?_⟩
 exact den_wr fun W3 x3 => den_ret fun h1 _ _ => ⟨rfl, h1 _ (List.mem_singleton.2 rfl)⟩
theorem pvars_c (l : List Md.Var) (kd inn on ev : Int) (nm key txt set : Md.Bs) (brk : Bool) (va ba : Option Addr) (vc bn bc : Nat) (m : Nat) (V : Wd) (hG : GlobM V) (hm : V.w.heap[m]? = some (.cells #[.string ⟨(nm : Md.Bs).toArray⟩, .int .u8 kd, .int .i64 inn, .int .i64 on, .int .u8 ev, .string ⟨(key : Md.Bs).toArray⟩, .string ⟨(txt : Md.Bs).toArray⟩, .string ⟨(set : Md.Bs).toArray⟩, .bool brk, .slice va l.length vc, .slice ba bn bc] NdT)) (hI : ¬ V.I m) (hl : l.length ≤ 1000000) (hf : ∀ v ∈ l, fitV v) (hV : SlW V.w va l.length vc 4 (l.flatMap varC)) :
  CallsE Tryz.prog 98 #[.pointer (some ⟨m, 9, none⟩), .func (.func 99) #[] #[]] V fun e w' => e = .returned (.bool (Md.vars l == 0)) ∧ w'.heap[m]? = some (.cells #[.string ⟨(nm : Md.Bs).toArray⟩, .int .u8 kd, .int .i64 inn, .int .i64 on, .int .u8 ev, .string ⟨(key : Md.Bs).toArray⟩, .string ⟨(txt : Md.Bs).toArray⟩, .string ⟨(set : Md.Bs).toArray⟩, .bool brk, .slice none 0 0, .slice ba bn bc] NdT) := by
 refine vc_pvars kd inn on ev l.length vc bn bc brk ⟨nm.toArray⟩ ⟨key.toArray⟩ ⟨txt.toArray⟩ ⟨set.toArray⟩ va ba m V _ hm hI ?_
 refine den_call_q (fun hb _ => node5_q l va vc V hl hf hV hG) ⟨Md.vars l == 0, rfl, fun W2 x2 => ?_⟩
 exact den_wr fun W3 x3 => den_ret fun h1 _ _ => ⟨rfl, h1 _ (List.mem_singleton.2 rfl)⟩
theorem pback_c (l : List Md.Bs) (kd inn on ev : Int) (nm key txt set : Md.Bs) (brk : Bool) (va ba : Option Addr) (vn vc bc : Nat) (m : Nat) (V : Wd) (hG : GlobM V) (hm : V.w.heap[m]? = some (.cells #[.string ⟨(nm : Md.Bs).toArray⟩, .int .u8 kd, .int .i64 inn, .int .i64 on, .int .u8 ev, .string ⟨(key : Md.Bs).toArray⟩, .string ⟨(txt : Md.Bs).toArray⟩, .string ⟨(set : Md.Bs).toArray⟩, .bool brk, .slice va vn vc, .slice ba l.length bc] NdT)) (hI : ¬ V.I m) (hl : l.length ≤ 1000000) (hV : SlW V.w ba l.length bc 1 (strs l)) :
  CallsE Tryz.prog 100 #[.pointer (some ⟨m, 10, none⟩), .func (.func 101) #[] #[]] V fun e w' => e = .returned (.bool (Md.unl id Md.name [] l)) ∧ w'.heap[m]? = some (.cells #[.string ⟨(nm : Md.Bs).toArray⟩, .int .u8 kd, .int .i64 inn, .int .i64 on, .int .u8 ev, .string ⟨(key : Md.Bs).toArray⟩, .string ⟨(txt : Md.Bs).toArray⟩, .string ⟨(set : Md.Bs).toArray⟩, .bool brk, .slice va vn vc, .slice none 0 0] NdT) := by
 refine vc_pback kd inn on ev vn vc l.length bc brk ⟨nm.toArray⟩ ⟨key.toArray⟩ ⟨txt.toArray⟩ ⟨set.toArray⟩ va ba m V _ hm hI ?_
 refine den_call_q (fun hb _ => node6_q l ba bc V hl hV hG) ⟨Md.unl id Md.name [] l, rfl, fun W2 x2 => ?_⟩
 exact den_wr fun W3 x3 => den_ret fun h1 _ _ => ⟨rfl, h1 _ (List.mem_singleton.2 rfl)⟩
end Go.Proofs.YtkpjmlnhhggenaaGreatDoor
end
section
/- model.Node: what it must have and may have, and nothing else. -/
namespace Md
open Go
def cKey (n : Nd) : Bool := (n.kd == 14 || n.ev == 1) || n.ev == 6
def cKey2 (n : Nd) : Bool := n.ev == 4 || n.ev == 5
def hnd (n : Nd) : Bool := n.kd == 1 || n.kd == 15
def cTxt (n : Nd) : Bool := ((n.kd == 4 || n.kd == 12) || n.ev == 2) || n.ev == 3
def cBrk (n : Nd) : Bool := (n.kd == 12 || n.kd == 15) || (n.kd == 1 && !(n.ev == 0))
def o0 (n : Nd) : Bool := name n.nm && (decide (-1 ≤ n.inn) && event n.kd n.ev)
def k1 (n : Nd) : Bs := if cKey n then [] else n.key
def o1 (n : Nd) : Bool := if cKey n then name n.key && o0 n else o0 n
def k2 (n : Nd) : Bs := if cKey2 n then [] else k1 n
def o2 (n : Nd) : Bool := if cKey2 n then (name (k1 n) || (hnd n && k1 n == [])) && o1 n else o1 n
def t3 (n : Nd) : Bs := if cTxt n then [] else n.txt
def o3 (n : Nd) : Bool := if cTxt n then !(n.txt == []) && o2 n else o2 n
def s4 (n : Nd) : Bs := if n.kd == 4 then [] else n.set
def o4 (n : Nd) : Bool := if n.kd == 4 then name n.set && o3 n else o3 n
def o5 (n : Nd) : Bool := ((decide (0 ≤ n.on) && n.kd == 15) || (n.on == -1 && !(n.kd == 15))) && o4 n
def b6 (n : Nd) : Bool := if cBrk n then false else n.brk
def o6 (n : Nd) : Bool := if cBrk n then ((n.brk || !(n.kd == 15)) || !(n.ev == 4)) && o5 n else o5 n
def o7 (n : Nd) : Bool := if scope n.kd then (vars n.vars == 0) && o6 n else o6 n
def o8 (n : Nd) : Bool := if n.kd == 14 then unl id name [] n.back && o7 n else o7 n
def v7 (n : Nd) : List Var := if scope n.kd then [] else n.vars
def w8 (n : Nd) : List Bs := if n.kd == 14 then [] else n.back
def bareNd (n : Nd) : Bool := k2 n == [] && (t3 n == [] && (s4 n == [] && (b6 n == false && ((v7 n).length == 0 && (w8 n).length == 0))))
def node (n : Nd) : Int := if 100 < n.txt.length ∨ 8 < n.vars.length ∨ 8 < n.back.length then 40 else if o8 n && bareNd n then 0 else 4
end Md
namespace Go.Proofs.YtkpjmlnhhggenaaGreatDoor
open Go Go.RowKit Go.SF
theorem eqv0_q (n c : Nat) (a : Option Addr) (W : Wd) : CallsQ Tryz.prog 135 #[.slice a n c, .slice none 0 0] W (.bool (n == 0)) := by
 refine vc_eqv n c 0 0 a none W.all _ ?_
 refine den_br (fun c1 => den_ret fun _ _ _ => ⟨_, rfl, ?_⟩) fun c1 => ?_
 ·have : (n == 0) = false := by
   simp only [zE, Bool.not_eq_true', beq_eq_false_iff_ne, ne_eq] at c1
   simp; omega
  rw [this]; rfl
 ·have h0 : n = 0 := by
   simp only [zE, Bool.not_eq_false', beq_iff_eq] at c1
   omega
  subst h0
  refine den_loop (fun j vs ls _ => vs = [.int .i64 0] ∧ ls = []) 0 ⟨rfl, rfl⟩ ?_
  rintro j vs ls' W2 x2 ⟨rfl, rfl⟩
  exact ⟨0, rfl, rfl, fun _ => den_br (fun c2 => by simp [Sy.dens, Sy.den, E.i, E.b, E.t, gd, Env.push, z_a, z_b, z_c, z_d, ltB] at c2) fun c2 => den_ret fun _ _ _ => ⟨_, rfl, rfl⟩⟩
theorem eqs0_q (n c : Nat) (a : Option Addr) (W : Wd) : CallsQ Tryz.prog 136 #[.slice a n c, .slice none 0 0] W (.bool (n == 0)) := by
 refine vc_eqs n c 0 0 a none W.all _ ?_
 refine den_br (fun c1 => den_ret fun _ _ _ => ⟨_, rfl, ?_⟩) fun c1 => ?_
 ·have : (n == 0) = false := by
   simp only [zE, Bool.not_eq_true', beq_eq_false_iff_ne, ne_eq] at c1
   simp; omega
  rw [this]; rfl
 ·have h0 : n = 0 := by
   simp only [zE, Bool.not_eq_false', beq_iff_eq] at c1
   omega
  subst h0
  refine den_loop (fun j vs ls _ => vs = [.int .i64 0] ∧ ls = []) 0 ⟨rfl, rfl⟩ ?_
  rintro j vs ls' W2 x2 ⟨rfl, rfl⟩
  exact ⟨0, rfl, rfl, fun _ => den_br (fun c2 => by simp [Sy.dens, Sy.den, E.i, E.b, E.t, gd, Env.push, z_a, z_b, z_c, z_d, ltB] at c2) fun c2 => den_ret fun _ _ _ => ⟨_, rfl, rfl⟩⟩
theorem snode0_q (kd inn on ev : Int) (nm key txt set : Md.Bs) (brk : Bool) (va ba : Option Addr) (vn vc bn bc : Nat) (W : Wd) :
  CallsQ Tryz.prog 104 #[.agg #[.string ⟨nm.toArray⟩, .int .u8 kd, .int .i64 inn, .int .i64 on, .int .u8 ev, .string ⟨key.toArray⟩, .string ⟨txt.toArray⟩, .string ⟨set.toArray⟩, .bool brk, .slice va vn vc, .slice ba bn bc], .agg #[.string ⟨([] : Md.Bs).toArray⟩, .int .u8 0, .int .i64 0, .int .i64 0, .int .u8 0, .string ⟨([] : Md.Bs).toArray⟩, .string ⟨([] : Md.Bs).toArray⟩, .string ⟨([] : Md.Bs).toArray⟩, .bool false, .slice none 0 0, .slice none 0 0]] W
   (.bool (((nm == []) && ((kd == 0) && ((inn == 0) && ((on == 0) && ((ev == 0) && ((key == []) && ((txt == []) && ((set == []) && (brk == false))))))))) && (vn == 0 && bn == 0))) := by
 refine vc_snode kd inn on ev 0 0 0 0 vn vc bn bc 0 0 0 0 brk false ⟨nm.toArray⟩ ⟨key.toArray⟩ ⟨txt.toArray⟩ ⟨set.toArray⟩ ⟨([] : Md.Bs).toArray⟩ ⟨([] : Md.Bs).toArray⟩ ⟨([] : Md.Bs).toArray⟩ ⟨([] : Md.Bs).toArray⟩ va ba none none W.all _ ?_
 refine den_new fun m1 W1 _ x1 => den_new fun m2 W2 _ x2 => den_br (fun c => ?_) fun c => den_grow fun _ _ => den_ret fun _ _ _ => ⟨_, rfl, ?_⟩
 ·simp only [zP]
  have c : ((nm == []) && ((kd == 0) && ((inn == 0) && ((on == 0) && ((ev == 0) && ((key == []) && ((txt == []) && ((set == []) && (brk == false))))))))) = true := c
  rw [c, Bool.true_and]
  refine den_callq ⟨vn == 0, fun V _ _ _ => eqv0_q vn vc va V, ?_⟩
  simp only [zP]
  refine den_br (fun c1 => ?_) fun c1 => den_grow fun _ _ => den_ret fun _ _ _ => ⟨_, rfl, ?_⟩
  ·have c1 : (vn == 0) = true := c1
   rw [c1, Bool.true_and]
   refine den_callq ⟨bn == 0, fun V _ _ _ => eqs0_q bn bc ba V, ?_⟩
   simp only [zP]
   exact den_grow fun _ _ => den_ret fun _ _ _ => ⟨_, rfl, rfl⟩
  ·have c1 : (vn == 0) = false := c1
   rw [c1]; rfl
 ·have c : ((nm == []) && ((kd == 0) && ((inn == 0) && ((on == 0) && ((ev == 0) && ((key == []) && ((txt == []) && ((set == []) && (brk == false))))))))) = false := c
  rw [c]; rfl
theorem mnode_q (n : Md.Nd) (va ba : Option Addr) (vc bc : Nat) (W : Wd) (hk0 : 0 ≤ n.kd) (hk : n.kd < 256) (hlv : n.vars.length ≤ 1000000) (hlb : n.back.length ≤ 1000000) (hf : ∀ v ∈ n.vars, fitV v)
  (hV : SlW W.w va n.vars.length vc 4 (n.vars.flatMap varC)) (hB : SlW W.w ba n.back.length bc 1 (strs n.back)) (hG : GlobM W) :
  CallsQ Tryz.prog 48 #[.agg #[.string ⟨(n.nm : Md.Bs).toArray⟩, .int .u8 n.kd, .int .i64 n.inn, .int .i64 n.on, .int .u8 n.ev, .string ⟨(n.key : Md.Bs).toArray⟩, .string ⟨(n.txt : Md.Bs).toArray⟩, .string ⟨(n.set : Md.Bs).toArray⟩, .bool n.brk, .slice va n.vars.length vc, .slice ba n.back.length bc]] W (.int .i64 (Md.node n)) := by
 have hG := hG.ext W.all_ext
 have hV := hV.all
 have hB := hB.all
 refine vc_mnode n.kd n.inn n.on n.ev n.vars.length vc n.back.length bc n.brk ⟨n.nm.toArray⟩ ⟨n.key.toArray⟩ ⟨n.txt.toArray⟩ ⟨n.set.toArray⟩ va ba W.all _ ?_
 have hbare : Md.bareNd n = (((([] : Md.Bs) == []) && (((0 : Int) == 0) && (((0 : Int) == 0) && (((0 : Int) == 0) && (((0 : Int) == 0) && ((Md.k2 n == []) && ((Md.t3 n == []) && ((Md.s4 n == []) && (Md.b6 n == false))))))))) && ((if Md.scope n.kd then 0 else n.vars.length) == 0 && (if n.kd == 14 then 0 else n.back.length) == 0)) := by
  rw [Md.bareNd, Md.v7, Md.w8]
  have h1 : (if Md.scope n.kd = true then [] else n.vars).length = (if Md.scope n.kd then 0 else n.vars.length) := by split <;> rfl
  have h2 : (if (n.kd == 14) = true then [] else n.back).length = (if n.kd == 14 then 0 else n.back.length) := by split <;> rfl
  rw [h1, h2]
  simp only [beq_self_eq_true, Bool.true_and, Bool.and_assoc]
 refine den_new fun m0 W1 _ x1 => den_br (fun c1 => den_ret fun _ _ _ => ⟨_, rfl, ?_⟩) fun c1 => ?_
 ·have c1 : 100 < n.txt.length ∨ 8 < n.vars.length ∨ 8 < n.back.length := by
   simp only [zE, mb_size, Bool.or_eq_true, ltB_true] at c1
   omega
  rw [Md.node, if_pos c1]; rfl
 ·have hN : Md.node n = if Md.o8 n && Md.bareNd n then 0 else 4 := by
   rw [Md.node, if_neg]
   simp only [zE, mb_size, Bool.or_eq_false_iff, ltB_false] at c1
   omega
  refine den_call_q (fun _ _ => mname_q n.nm W1 (hG.ext x1)) ⟨Md.name n.nm, rfl, fun W2 x2 => ?_⟩
  simp only [zP]
  have y2 := ext_trans x1 x2
  refine den_br (fun c2 => ?_) fun c2 => ?_
  ·have c2 : (Md.name n.nm && decide (-1 ≤ n.inn)) = true := c2
   refine den_call_q (fun _ _ => mevent_q n.kd n.ev hk0 hk W2 (hG.ext y2)) ⟨Md.event n.kd n.ev, rfl, fun W3 x3 => ?_⟩
   simp only [zP]
   have h0 : Md.o0 n = Md.event n.kd n.ev := by rw [Md.o0, ← Bool.and_assoc, c2, Bool.true_and]
   refine den_call_q (fun _ _ => bare_q n.kd n.inn n.on n.ev n.nm n.key n.txt n.set n.brk va ba n.vars.length vc n.back.length bc W3) ⟨0, 0, n.on, 0, n.vars.length, vc, n.back.length, bc, n.brk, ⟨([] : Md.Bs).toArray⟩, ⟨n.key.toArray⟩, ⟨n.txt.toArray⟩, ⟨n.set.toArray⟩, va, ba, rfl, fun W4 x4 => ?_⟩
   simp only [zP]
   refine den_new fun m1 W4a _ x4a => den_wr fun W4b x4b => den_new fun m2 W4c _ x4c => den_wr fun W5 x5 => ?_
   have y5 := ext_trans (ext_trans y2 x3) (ext_trans (ext_trans x4 x4a) (ext_trans (ext_trans x4b x4c) x5))
   simp only [zP]
   refine den_join (fun vs ls _ => vs = [.bool (Md.o1 n), .string ⟨([] : Md.Bs).toArray⟩, .int .u8 0, .int .i64 0, .int .i64 n.on, .int .u8 0, .string ⟨(Md.k1 n : Md.Bs).toArray⟩, .string ⟨(n.txt : Md.Bs).toArray⟩, .string ⟨(n.set : Md.Bs).toArray⟩, .bool n.brk, .slice va n.vars.length vc, .slice ba n.back.length bc] ∧ ls = []) ?_ ?_
   ·refine den_br (fun c => ?_) fun c => ?_
    ·have c : (Md.cKey n) = true := c
     refine den_call_d fun hb hd _ => ?_
     have hx := ext_trans y5 hd.ext
     have hc := pkey_c 0 0 (n.on) 0 [] (n.key) (n.txt) (n.set) (n.brk) (va) (ba) (n.vars.length) (vc) (n.back.length) (bc) m1 _ (hG.ext hx) (hb _ (List.mem_singleton.2 rfl)) (fun h => h.2 (List.mem_singleton.2 rfl))
     refine CallsE.mono hc fun e w' _ ⟨he, hm⟩ => ?_
     subst he
     refine ⟨0, 0, n.on, 0, n.vars.length, vc, n.back.length, bc, Md.name n.key, n.brk, ⟨([] : Md.Bs).toArray⟩, ⟨([] : Md.Bs).toArray⟩, ⟨(n.txt : Md.Bs).toArray⟩, ⟨(n.set : Md.Bs).toArray⟩, va, ba, rfl, fun b hb' => by obtain rfl := List.mem_singleton.1 hb'; exact hm, fun W' _ x _ => den_again ⟨?_, rfl⟩⟩
     have e1 : Md.o1 n = (Md.name n.key && Md.o0 n) := if_pos c
     have e2 : Md.k1 n = [] := if_pos c
     rw [e1, e2, h0]
     first | rfl | (rw [Bool.and_false]; rfl)
    ·have c : (Md.cKey n) = false := c
     refine den_again ⟨?_, rfl⟩
     have e1 : Md.o1 n = (Md.o0 n) := if_neg (fun h => by rw [c] at h; cases h)
     have e2 : Md.k1 n = n.key := if_neg (fun h => by rw [c] at h; cases h)
     rw [e1, e2, h0]
     first | rfl | (rw [Bool.and_false]; rfl)
   rintro _ _ V1 u1 ⟨rfl, rfl⟩
   refine ⟨0, 0, n.on, 0, n.vars.length, vc, n.back.length, bc, Md.o1 n, n.brk, ⟨([] : Md.Bs).toArray⟩, ⟨(Md.k1 n : Md.Bs).toArray⟩, ⟨(n.txt : Md.Bs).toArray⟩, ⟨(n.set : Md.Bs).toArray⟩, va, ba, rfl, rfl, fun _ => ?_⟩
   simp only [zP]
   have z1 := ext_trans y5 u1
   refine den_join (fun vs ls _ => vs = [.bool (Md.o2 n), .string ⟨([] : Md.Bs).toArray⟩, .int .u8 0, .int .i64 0, .int .i64 n.on, .int .u8 0, .string ⟨(Md.k2 n : Md.Bs).toArray⟩, .string ⟨(n.txt : Md.Bs).toArray⟩, .string ⟨(n.set : Md.Bs).toArray⟩, .bool n.brk, .slice va n.vars.length vc, .slice ba n.back.length bc] ∧ ls = []) ?_ ?_
   ·refine den_br (fun c => ?_) fun c => ?_
    ·have c : (Md.cKey2 n) = true := c
     refine den_call_d fun hb hd _ => ?_
     have hx := ext_trans z1 hd.ext
     have hc := pkey2_c (Md.hnd n) m2 0 0 (n.on) 0 [] (Md.k1 n) (n.txt) (n.set) (n.brk) (va) (ba) (n.vars.length) (vc) (n.back.length) (bc) m1 _ (hG.ext hx) (hb _ (List.mem_cons_of_mem _ (List.mem_singleton.2 rfl))) (fun h => h.2 (List.mem_singleton.2 rfl)) (hb _ (List.mem_cons_self ..)) ⟨(Array.getElem?_eq_some_iff.1 (hb _ (List.mem_cons_self ..))).1, fun h => hd.1 _ (List.mem_cons_self ..) _ (List.mem_singleton.2 rfl) (by decide) (List.mem_singleton.1 h)⟩
     refine CallsE.mono hc fun e w' _ ⟨he, hm⟩ => ?_
     subst he
     refine ⟨0, 0, n.on, 0, n.vars.length, vc, n.back.length, bc, (Md.name (Md.k1 n) || (Md.hnd n && Md.k1 n == [])), n.brk, ⟨([] : Md.Bs).toArray⟩, ⟨([] : Md.Bs).toArray⟩, ⟨(n.txt : Md.Bs).toArray⟩, ⟨(n.set : Md.Bs).toArray⟩, va, ba, rfl, fun b hb' => by obtain rfl := List.mem_singleton.1 hb'; exact hm, fun W' _ x _ => den_again ⟨?_, rfl⟩⟩
     have e1 : Md.o2 n = ((Md.name (Md.k1 n) || (Md.hnd n && Md.k1 n == [])) && Md.o1 n) := if_pos c
     have e2 : Md.k2 n = [] := if_pos c
     rw [e1, e2]
     rfl
    ·have c : (Md.cKey2 n) = false := c
     refine den_again ⟨?_, rfl⟩
     have e1 : Md.o2 n = (Md.o1 n) := if_neg (fun h => by rw [c] at h; cases h)
     have e2 : Md.k2 n = Md.k1 n := if_neg (fun h => by rw [c] at h; cases h)
     rw [e1, e2]
     rfl
   rintro _ _ V2 u2 ⟨rfl, rfl⟩
   refine ⟨0, 0, n.on, 0, n.vars.length, vc, n.back.length, bc, Md.o2 n, n.brk, ⟨([] : Md.Bs).toArray⟩, ⟨(Md.k2 n : Md.Bs).toArray⟩, ⟨(n.txt : Md.Bs).toArray⟩, ⟨(n.set : Md.Bs).toArray⟩, va, ba, rfl, rfl, fun _ => ?_⟩
   simp only [zP]
   have z2 := ext_trans z1 u2
   refine den_join (fun vs ls _ => vs = [.bool (Md.o3 n), .string ⟨([] : Md.Bs).toArray⟩, .int .u8 0, .int .i64 0, .int .i64 n.on, .int .u8 0, .string ⟨(Md.k2 n : Md.Bs).toArray⟩, .string ⟨(Md.t3 n : Md.Bs).toArray⟩, .string ⟨(n.set : Md.Bs).toArray⟩, .bool n.brk, .slice va n.vars.length vc, .slice ba n.back.length bc] ∧ ls = []) ?_ ?_
   ·refine den_br (fun c => ?_) fun c => ?_
    ·have c : (Md.cTxt n) = true := c
     refine den_call_d fun hb hd _ => ?_
     have hx := ext_trans z2 hd.ext
     have hc := ptxt_c 0 0 (n.on) 0 [] (Md.k2 n) (n.txt) (n.set) (n.brk) (va) (ba) (n.vars.length) (vc) (n.back.length) (bc) m1 _ (hG.ext hx) (hb _ (List.mem_singleton.2 rfl)) (fun h => h.2 (List.mem_singleton.2 rfl))
     refine CallsE.mono hc fun e w' _ ⟨he, hm⟩ => ?_
     subst he
     refine ⟨0, 0, n.on, 0, n.vars.length, vc, n.back.length, bc, (!(n.txt == [])), n.brk, ⟨([] : Md.Bs).toArray⟩, ⟨(Md.k2 n : Md.Bs).toArray⟩, ⟨([] : Md.Bs).toArray⟩, ⟨(n.set : Md.Bs).toArray⟩, va, ba, rfl, fun b hb' => by obtain rfl := List.mem_singleton.1 hb'; exact hm, fun W' _ x _ => den_again ⟨?_, rfl⟩⟩
     have e1 : Md.o3 n = ((!(n.txt == [])) && Md.o2 n) := if_pos c
     have e2 : Md.t3 n = [] := if_pos c
     rw [e1, e2]
     rfl
    ·have c : (Md.cTxt n) = false := c
     refine den_again ⟨?_, rfl⟩
     have e1 : Md.o3 n = (Md.o2 n) := if_neg (fun h => by rw [c] at h; cases h)
     have e2 : Md.t3 n = n.txt := if_neg (fun h => by rw [c] at h; cases h)
     rw [e1, e2]
     rfl
   rintro _ _ V3 u3 ⟨rfl, rfl⟩
   refine ⟨0, 0, n.on, 0, n.vars.length, vc, n.back.length, bc, Md.o3 n, n.brk, ⟨([] : Md.Bs).toArray⟩, ⟨(Md.k2 n : Md.Bs).toArray⟩, ⟨(Md.t3 n : Md.Bs).toArray⟩, ⟨(n.set : Md.Bs).toArray⟩, va, ba, rfl, rfl, fun _ => ?_⟩
   simp only [zP]
   have z3 := ext_trans z2 u3
   refine den_join (fun vs ls _ => vs = [.bool (Md.o4 n), .string ⟨([] : Md.Bs).toArray⟩, .int .u8 0, .int .i64 0, .int .i64 n.on, .int .u8 0, .string ⟨(Md.k2 n : Md.Bs).toArray⟩, .string ⟨(Md.t3 n : Md.Bs).toArray⟩, .string ⟨(Md.s4 n : Md.Bs).toArray⟩, .bool n.brk, .slice va n.vars.length vc, .slice ba n.back.length bc] ∧ ls = []) ?_ ?_
   ·refine den_br (fun c => ?_) fun c => ?_
    ·have c : (n.kd == 4) = true := c
     refine den_call_d fun hb hd _ => ?_
     have hx := ext_trans z3 hd.ext
     have hc := pset_c 0 0 (n.on) 0 [] (Md.k2 n) (Md.t3 n) (n.set) (n.brk) (va) (ba) (n.vars.length) (vc) (n.back.length) (bc) m1 _ (hG.ext hx) (hb _ (List.mem_singleton.2 rfl)) (fun h => h.2 (List.mem_singleton.2 rfl))
     refine CallsE.mono hc fun e w' _ ⟨he, hm⟩ => ?_
     subst he
     refine ⟨0, 0, n.on, 0, n.vars.length, vc, n.back.length, bc, Md.name n.set, n.brk, ⟨([] : Md.Bs).toArray⟩, ⟨(Md.k2 n : Md.Bs).toArray⟩, ⟨(Md.t3 n : Md.Bs).toArray⟩, ⟨([] : Md.Bs).toArray⟩, va, ba, rfl, fun b hb' => by obtain rfl := List.mem_singleton.1 hb'; exact hm, fun W' _ x _ => den_again ⟨?_, rfl⟩⟩
     have e1 : Md.o4 n = (Md.name n.set && Md.o3 n) := if_pos c
     have e2 : Md.s4 n = [] := if_pos c
     rw [e1, e2]
     rfl
    ·have c : (n.kd == 4) = false := c
     refine den_again ⟨?_, rfl⟩
     have e1 : Md.o4 n = (Md.o3 n) := if_neg (fun h => by rw [c] at h; cases h)
     have e2 : Md.s4 n = n.set := if_neg (fun h => by rw [c] at h; cases h)
     rw [e1, e2]
     rfl
   rintro _ _ V4 u4 ⟨rfl, rfl⟩
   refine ⟨0, 0, n.on, 0, n.vars.length, vc, n.back.length, bc, Md.o4 n, n.brk, ⟨([] : Md.Bs).toArray⟩, ⟨(Md.k2 n : Md.Bs).toArray⟩, ⟨(Md.t3 n : Md.Bs).toArray⟩, ⟨(Md.s4 n : Md.Bs).toArray⟩, va, ba, rfl, rfl, fun _ => ?_⟩
   simp only [zP]
   have z4 := ext_trans z3 u4
   refine den_join (fun vs ls _ => vs = [.bool (Md.o5 n), .string ⟨([] : Md.Bs).toArray⟩, .int .u8 0, .int .i64 0, .int .i64 0, .int .u8 0, .string ⟨(Md.k2 n : Md.Bs).toArray⟩, .string ⟨(Md.t3 n : Md.Bs).toArray⟩, .string ⟨(Md.s4 n : Md.Bs).toArray⟩, .bool n.brk, .slice va n.vars.length vc, .slice ba n.back.length bc] ∧ ls = []) ?_ ?_
   ·refine den_call_d fun hb hd _ => ?_
    have hx := ext_trans z4 hd.ext
    have hc := pon_c n.kd n.inn n.on n.ev n.nm n.key n.txt n.set n.brk va ba n.vars.length vc n.back.length bc m0 0 0 (n.on) 0 [] (Md.k2 n) (Md.t3 n) (Md.s4 n) (n.brk) (va) (ba) (n.vars.length) (vc) (n.back.length) (bc) m1 _ (hG.ext hx) (hb _ (List.mem_cons_self ..)) (fun h => h.2 (List.mem_singleton.2 rfl)) (hb _ (List.mem_cons_of_mem _ (List.mem_singleton.2 rfl))) ⟨(Array.getElem?_eq_some_iff.1 (hb _ (List.mem_cons_of_mem _ (List.mem_singleton.2 rfl)))).1, fun h => hd.1 _ (List.mem_cons_of_mem _ (List.mem_singleton.2 rfl)) _ (List.mem_singleton.2 rfl) (by decide) (List.mem_singleton.1 h)⟩
    refine CallsE.mono hc fun e w' _ ⟨he, hm⟩ => ?_
    subst he
    refine ⟨0, 0, 0, 0, n.vars.length, vc, n.back.length, bc, ((decide (0 ≤ n.on) && n.kd == 15) || (n.on == -1 && !(n.kd == 15))), n.brk, ⟨([] : Md.Bs).toArray⟩, ⟨(Md.k2 n : Md.Bs).toArray⟩, ⟨(Md.t3 n : Md.Bs).toArray⟩, ⟨(Md.s4 n : Md.Bs).toArray⟩, va, ba, rfl, fun b hb' => by obtain rfl := List.mem_singleton.1 hb'; exact hm, fun W' _ x _ => den_again ⟨?_, rfl⟩⟩
    rfl
   rintro _ _ V5 u5 ⟨rfl, rfl⟩
   refine ⟨0, 0, 0, 0, n.vars.length, vc, n.back.length, bc, Md.o5 n, n.brk, ⟨([] : Md.Bs).toArray⟩, ⟨(Md.k2 n : Md.Bs).toArray⟩, ⟨(Md.t3 n : Md.Bs).toArray⟩, ⟨(Md.s4 n : Md.Bs).toArray⟩, va, ba, rfl, rfl, fun _ => ?_⟩
   simp only [zP]
   have z5 := ext_trans z4 u5
   refine den_join (fun vs ls _ => vs = [.bool (Md.o6 n), .string ⟨([] : Md.Bs).toArray⟩, .int .u8 0, .int .i64 0, .int .i64 0, .int .u8 0, .string ⟨(Md.k2 n : Md.Bs).toArray⟩, .string ⟨(Md.t3 n : Md.Bs).toArray⟩, .string ⟨(Md.s4 n : Md.Bs).toArray⟩, .bool (Md.b6 n), .slice va n.vars.length vc, .slice ba n.back.length bc] ∧ ls = []) ?_ ?_
   ·refine den_br (fun c => ?_) fun c => ?_
    ·have c : (Md.cBrk n) = true := c
     refine den_call_d fun hb hd _ => ?_
     have hx := ext_trans z5 hd.ext
     have hc := pbrk_c n.kd n.inn n.on n.ev n.nm n.key n.txt n.set n.brk va ba n.vars.length vc n.back.length bc m0 0 0 (0) 0 [] (Md.k2 n) (Md.t3 n) (Md.s4 n) (n.brk) (va) (ba) (n.vars.length) (vc) (n.back.length) (bc) m1 _ (hG.ext hx) (hb _ (List.mem_cons_self ..)) (fun h => h.2 (List.mem_singleton.2 rfl)) (hb _ (List.mem_cons_of_mem _ (List.mem_singleton.2 rfl))) ⟨(Array.getElem?_eq_some_iff.1 (hb _ (List.mem_cons_of_mem _ (List.mem_singleton.2 rfl)))).1, fun h => hd.1 _ (List.mem_cons_of_mem _ (List.mem_singleton.2 rfl)) _ (List.mem_singleton.2 rfl) (by decide) (List.mem_singleton.1 h)⟩
     refine CallsE.mono hc fun e w' _ ⟨he, hm⟩ => ?_
     subst he
     refine ⟨0, 0, 0, 0, n.vars.length, vc, n.back.length, bc, ((n.brk || !(n.kd == 15)) || !(n.ev == 4)), false, ⟨([] : Md.Bs).toArray⟩, ⟨(Md.k2 n : Md.Bs).toArray⟩, ⟨(Md.t3 n : Md.Bs).toArray⟩, ⟨(Md.s4 n : Md.Bs).toArray⟩, va, ba, rfl, fun b hb' => by obtain rfl := List.mem_singleton.1 hb'; exact hm, fun W' _ x _ => den_again ⟨?_, rfl⟩⟩
     have e1 : Md.o6 n = (((n.brk || !(n.kd == 15)) || !(n.ev == 4)) && Md.o5 n) := if_pos c
     have e2 : Md.b6 n = false := if_pos c
     rw [e1, e2]
     rfl
    ·have c : (Md.cBrk n) = false := c
     refine den_again ⟨?_, rfl⟩
     have e1 : Md.o6 n = (Md.o5 n) := if_neg (fun h => by rw [c] at h; cases h)
     have e2 : Md.b6 n = n.brk := if_neg (fun h => by rw [c] at h; cases h)
     rw [e1, e2]
     rfl
   rintro _ _ V6 u6 ⟨rfl, rfl⟩
   refine ⟨0, 0, 0, 0, n.vars.length, vc, n.back.length, bc, Md.o6 n, (Md.b6 n), ⟨([] : Md.Bs).toArray⟩, ⟨(Md.k2 n : Md.Bs).toArray⟩, ⟨(Md.t3 n : Md.Bs).toArray⟩, ⟨(Md.s4 n : Md.Bs).toArray⟩, va, ba, rfl, rfl, fun _ => ?_⟩
   simp only [zP]
   have z6 := ext_trans z5 u6
   refine den_join (fun vs ls _ => vs = [.bool (Md.o7 n), .string ⟨([] : Md.Bs).toArray⟩, .int .u8 0, .int .i64 0, .int .i64 0, .int .u8 0, .string ⟨(Md.k2 n : Md.Bs).toArray⟩, .string ⟨(Md.t3 n : Md.Bs).toArray⟩, .string ⟨(Md.s4 n : Md.Bs).toArray⟩, .bool (Md.b6 n), .slice (if Md.scope n.kd then none else va) (if Md.scope n.kd then 0 else n.vars.length) (if Md.scope n.kd then 0 else vc), .slice ba n.back.length bc] ∧ ls = []) ?_ ?_
   ·refine den_call_q (fun _ _ => mscope_q n.kd _) ⟨Md.scope n.kd, rfl, fun W6 x6 => ?_⟩
    simp only [zP]
    have y6 := ext_trans z6 x6
    refine den_br (fun c => ?_) fun c => ?_
    ·have c : (Md.scope n.kd) = true := c
     refine den_call_d fun hb hd _ => ?_
     have hx := ext_trans y6 hd.ext
     have hc := pvars_c n.vars 0 0 (0) 0 [] (Md.k2 n) (Md.t3 n) (Md.s4 n) ((Md.b6 n)) va ba vc n.back.length bc m1 _ (hG.ext hx) (hb _ (List.mem_singleton.2 rfl)) (fun h => h.2 (List.mem_singleton.2 rfl)) hlv hf (SlAt.w (hV.ext hx))
     refine CallsE.mono hc fun e w' _ ⟨he, hm⟩ => ?_
     subst he
     refine ⟨0, 0, 0, 0, 0, 0, n.back.length, bc, (Md.vars n.vars == 0), (Md.b6 n), ⟨([] : Md.Bs).toArray⟩, ⟨(Md.k2 n : Md.Bs).toArray⟩, ⟨(Md.t3 n : Md.Bs).toArray⟩, ⟨(Md.s4 n : Md.Bs).toArray⟩, none, ba, rfl, fun b hb' => by obtain rfl := List.mem_singleton.1 hb'; exact hm, fun W' _ x _ => den_again ⟨?_, rfl⟩⟩
     have e1 : Md.o7 n = ((Md.vars n.vars == 0) && Md.o6 n) := if_pos c
     have e_va : (if Md.scope n.kd then none else va) = none := if_pos c
     have e_vn : (if Md.scope n.kd then 0 else n.vars.length) = 0 := if_pos c
     have e_vc : (if Md.scope n.kd then 0 else vc) = 0 := if_pos c
     rw [e1, e_va, e_vn, e_vc]
     rfl
    ·have c : (Md.scope n.kd) = false := c
     refine den_again ⟨?_, rfl⟩
     have e1 : Md.o7 n = (Md.o6 n) := if_neg (fun h => by rw [c] at h; cases h)
     have e_va : (if Md.scope n.kd then none else va) = va := if_neg (fun h => by rw [c] at h; cases h)
     have e_vn : (if Md.scope n.kd then 0 else n.vars.length) = n.vars.length := if_neg (fun h => by rw [c] at h; cases h)
     have e_vc : (if Md.scope n.kd then 0 else vc) = vc := if_neg (fun h => by rw [c] at h; cases h)
     rw [e1, e_va, e_vn, e_vc]
     rfl
   rintro _ _ V7 u7 ⟨rfl, rfl⟩
   refine ⟨0, 0, 0, 0, (if Md.scope n.kd then 0 else n.vars.length), (if Md.scope n.kd then 0 else vc), n.back.length, bc, Md.o7 n, (Md.b6 n), ⟨([] : Md.Bs).toArray⟩, ⟨(Md.k2 n : Md.Bs).toArray⟩, ⟨(Md.t3 n : Md.Bs).toArray⟩, ⟨(Md.s4 n : Md.Bs).toArray⟩, (if Md.scope n.kd then none else va), ba, rfl, rfl, fun _ => ?_⟩
   simp only [zP]
   have z7 := ext_trans z6 u7
   refine den_join (fun vs ls _ => vs = [.bool (Md.o8 n), .string ⟨([] : Md.Bs).toArray⟩, .int .u8 0, .int .i64 0, .int .i64 0, .int .u8 0, .string ⟨(Md.k2 n : Md.Bs).toArray⟩, .string ⟨(Md.t3 n : Md.Bs).toArray⟩, .string ⟨(Md.s4 n : Md.Bs).toArray⟩, .bool (Md.b6 n), .slice (if Md.scope n.kd then none else va) (if Md.scope n.kd then 0 else n.vars.length) (if Md.scope n.kd then 0 else vc), .slice (if n.kd == 14 then none else ba) (if n.kd == 14 then 0 else n.back.length) (if n.kd == 14 then 0 else bc)] ∧ ls = []) ?_ ?_
   ·refine den_br (fun c => ?_) fun c => ?_
    ·have c : (n.kd == 14) = true := c
     refine den_call_d fun hb hd _ => ?_
     have hx := ext_trans z7 hd.ext
     have hc := pback_c n.back 0 0 (0) 0 [] (Md.k2 n) (Md.t3 n) (Md.s4 n) ((Md.b6 n)) ((if Md.scope n.kd then none else va)) ba ((if Md.scope n.kd then 0 else n.vars.length)) ((if Md.scope n.kd then 0 else vc)) bc m1 _ (hG.ext hx) (hb _ (List.mem_singleton.2 rfl)) (fun h => h.2 (List.mem_singleton.2 rfl)) hlb (SlAt.w (hB.ext hx))
     refine CallsE.mono hc fun e w' _ ⟨he, hm⟩ => ?_
     subst he
     refine ⟨0, 0, 0, 0, (if Md.scope n.kd then 0 else n.vars.length), (if Md.scope n.kd then 0 else vc), 0, 0, Md.unl id Md.name [] n.back, (Md.b6 n), ⟨([] : Md.Bs).toArray⟩, ⟨(Md.k2 n : Md.Bs).toArray⟩, ⟨(Md.t3 n : Md.Bs).toArray⟩, ⟨(Md.s4 n : Md.Bs).toArray⟩, (if Md.scope n.kd then none else va), none, rfl, fun b hb' => by obtain rfl := List.mem_singleton.1 hb'; exact hm, fun W' _ x _ => den_again ⟨?_, rfl⟩⟩
     have e1 : Md.o8 n = (Md.unl id Md.name [] n.back && Md.o7 n) := if_pos c
     have e_ba : (if n.kd == 14 then none else ba) = none := if_pos c
     have e_bn : (if n.kd == 14 then 0 else n.back.length) = 0 := if_pos c
     have e_bc : (if n.kd == 14 then 0 else bc) = 0 := if_pos c
     rw [e1, e_ba, e_bn, e_bc]
     rfl
    ·have c : (n.kd == 14) = false := c
     refine den_again ⟨?_, rfl⟩
     have e1 : Md.o8 n = (Md.o7 n) := if_neg (fun h => by rw [c] at h; cases h)
     have e_ba : (if n.kd == 14 then none else ba) = ba := if_neg (fun h => by rw [c] at h; cases h)
     have e_bn : (if n.kd == 14 then 0 else n.back.length) = n.back.length := if_neg (fun h => by rw [c] at h; cases h)
     have e_bc : (if n.kd == 14 then 0 else bc) = bc := if_neg (fun h => by rw [c] at h; cases h)
     rw [e1, e_ba, e_bn, e_bc]
     rfl
   rintro _ _ V8 u8 ⟨rfl, rfl⟩
   refine ⟨0, 0, 0, 0, (if Md.scope n.kd then 0 else n.vars.length), (if Md.scope n.kd then 0 else vc), (if n.kd == 14 then 0 else n.back.length), (if n.kd == 14 then 0 else bc), Md.o8 n, (Md.b6 n), ⟨([] : Md.Bs).toArray⟩, ⟨(Md.k2 n : Md.Bs).toArray⟩, ⟨(Md.t3 n : Md.Bs).toArray⟩, ⟨(Md.s4 n : Md.Bs).toArray⟩, (if Md.scope n.kd then none else va), (if n.kd == 14 then none else ba), rfl, rfl, fun _ => ?_⟩
   simp only [zP]
   have z8 := ext_trans z7 u8
   refine den_br (fun c => ?_) fun c => den_ret fun _ _ _ => ⟨_, rfl, ?_⟩
   ·have c : Md.o8 n = true := c
    refine den_call_q (v := .bool (Md.bareNd n)) (fun _ _ => by rw [hbare]; exact snode0_q 0 0 0 0 [] (Md.k2 n) (Md.t3 n) (Md.s4 n) (Md.b6 n) (if Md.scope n.kd then none else va) (if n.kd == 14 then none else ba) (if Md.scope n.kd then 0 else n.vars.length) (if Md.scope n.kd then 0 else vc) (if n.kd == 14 then 0 else n.back.length) (if n.kd == 14 then 0 else bc) V8) ⟨Md.bareNd n, rfl, fun W9 x9 => ?_⟩
    simp only [zP]
    rw [hN, c, Bool.true_and]
    refine den_br (fun c2 => den_ret fun _ _ _ => ⟨_, rfl, ?_⟩) fun c2 => den_ret fun _ _ _ => ⟨_, rfl, ?_⟩
    ·have c2 : (!Md.bareNd n) = true := c2
     rw [if_neg (fun h => by rw [h] at c2; cases c2)]; rfl
    ·have c2 : (!Md.bareNd n) = false := c2
     rw [if_pos (by simpa using c2)]; rfl
   ·have c : Md.o8 n = false := c
    rw [hN, c]; rfl
  ·have c2 : (Md.name n.nm && decide (-1 ≤ n.inn)) = false := c2
   have h0 : Md.o0 n = false := by rw [Md.o0, ← Bool.and_assoc, c2, Bool.false_and]
   refine den_call_q (fun _ _ => bare_q n.kd n.inn n.on n.ev n.nm n.key n.txt n.set n.brk va ba n.vars.length vc n.back.length bc W2) ⟨0, 0, n.on, 0, n.vars.length, vc, n.back.length, bc, n.brk, ⟨([] : Md.Bs).toArray⟩, ⟨n.key.toArray⟩, ⟨n.txt.toArray⟩, ⟨n.set.toArray⟩, va, ba, rfl, fun W4 x4 => ?_⟩
   simp only [zP]
   refine den_new fun m1 W4a _ x4a => den_wr fun W4b x4b => den_new fun m2 W4c _ x4c => den_wr fun W5 x5 => ?_
   have y5 := ext_trans y2 (ext_trans (ext_trans x4 x4a) (ext_trans (ext_trans x4b x4c) x5))
   simp only [zP]
   refine den_join (fun vs ls _ => vs = [.bool (Md.o1 n), .string ⟨([] : Md.Bs).toArray⟩, .int .u8 0, .int .i64 0, .int .i64 n.on, .int .u8 0, .string ⟨(Md.k1 n : Md.Bs).toArray⟩, .string ⟨(n.txt : Md.Bs).toArray⟩, .string ⟨(n.set : Md.Bs).toArray⟩, .bool n.brk, .slice va n.vars.length vc, .slice ba n.back.length bc] ∧ ls = []) ?_ ?_
   ·refine den_br (fun c => ?_) fun c => ?_
    ·have c : (Md.cKey n) = true := c
     refine den_call_d fun hb hd _ => ?_
     have hx := ext_trans y5 hd.ext
     have hc := pkey_c 0 0 (n.on) 0 [] (n.key) (n.txt) (n.set) (n.brk) (va) (ba) (n.vars.length) (vc) (n.back.length) (bc) m1 _ (hG.ext hx) (hb _ (List.mem_singleton.2 rfl)) (fun h => h.2 (List.mem_singleton.2 rfl))
     refine CallsE.mono hc fun e w' _ ⟨he, hm⟩ => ?_
     subst he
     refine ⟨0, 0, n.on, 0, n.vars.length, vc, n.back.length, bc, Md.name n.key, n.brk, ⟨([] : Md.Bs).toArray⟩, ⟨([] : Md.Bs).toArray⟩, ⟨(n.txt : Md.Bs).toArray⟩, ⟨(n.set : Md.Bs).toArray⟩, va, ba, rfl, fun b hb' => by obtain rfl := List.mem_singleton.1 hb'; exact hm, fun W' _ x _ => den_again ⟨?_, rfl⟩⟩
     have e1 : Md.o1 n = (Md.name n.key && Md.o0 n) := if_pos c
     have e2 : Md.k1 n = [] := if_pos c
     rw [e1, e2, h0]
     first | rfl | (rw [Bool.and_false]; rfl)
    ·have c : (Md.cKey n) = false := c
     refine den_again ⟨?_, rfl⟩
     have e1 : Md.o1 n = (Md.o0 n) := if_neg (fun h => by rw [c] at h; cases h)
     have e2 : Md.k1 n = n.key := if_neg (fun h => by rw [c] at h; cases h)
     rw [e1, e2, h0]
     first | rfl | (rw [Bool.and_false]; rfl)
   rintro _ _ V1 u1 ⟨rfl, rfl⟩
   refine ⟨0, 0, n.on, 0, n.vars.length, vc, n.back.length, bc, Md.o1 n, n.brk, ⟨([] : Md.Bs).toArray⟩, ⟨(Md.k1 n : Md.Bs).toArray⟩, ⟨(n.txt : Md.Bs).toArray⟩, ⟨(n.set : Md.Bs).toArray⟩, va, ba, rfl, rfl, fun _ => ?_⟩
   simp only [zP]
   have z1 := ext_trans y5 u1
   refine den_join (fun vs ls _ => vs = [.bool (Md.o2 n), .string ⟨([] : Md.Bs).toArray⟩, .int .u8 0, .int .i64 0, .int .i64 n.on, .int .u8 0, .string ⟨(Md.k2 n : Md.Bs).toArray⟩, .string ⟨(n.txt : Md.Bs).toArray⟩, .string ⟨(n.set : Md.Bs).toArray⟩, .bool n.brk, .slice va n.vars.length vc, .slice ba n.back.length bc] ∧ ls = []) ?_ ?_
   ·refine den_br (fun c => ?_) fun c => ?_
    ·have c : (Md.cKey2 n) = true := c
     refine den_call_d fun hb hd _ => ?_
     have hx := ext_trans z1 hd.ext
     have hc := pkey2_c (Md.hnd n) m2 0 0 (n.on) 0 [] (Md.k1 n) (n.txt) (n.set) (n.brk) (va) (ba) (n.vars.length) (vc) (n.back.length) (bc) m1 _ (hG.ext hx) (hb _ (List.mem_cons_of_mem _ (List.mem_singleton.2 rfl))) (fun h => h.2 (List.mem_singleton.2 rfl)) (hb _ (List.mem_cons_self ..)) ⟨(Array.getElem?_eq_some_iff.1 (hb _ (List.mem_cons_self ..))).1, fun h => hd.1 _ (List.mem_cons_self ..) _ (List.mem_singleton.2 rfl) (by decide) (List.mem_singleton.1 h)⟩
     refine CallsE.mono hc fun e w' _ ⟨he, hm⟩ => ?_
     subst he
     refine ⟨0, 0, n.on, 0, n.vars.length, vc, n.back.length, bc, (Md.name (Md.k1 n) || (Md.hnd n && Md.k1 n == [])), n.brk, ⟨([] : Md.Bs).toArray⟩, ⟨([] : Md.Bs).toArray⟩, ⟨(n.txt : Md.Bs).toArray⟩, ⟨(n.set : Md.Bs).toArray⟩, va, ba, rfl, fun b hb' => by obtain rfl := List.mem_singleton.1 hb'; exact hm, fun W' _ x _ => den_again ⟨?_, rfl⟩⟩
     have e1 : Md.o2 n = ((Md.name (Md.k1 n) || (Md.hnd n && Md.k1 n == [])) && Md.o1 n) := if_pos c
     have e2 : Md.k2 n = [] := if_pos c
     rw [e1, e2]
     rfl
    ·have c : (Md.cKey2 n) = false := c
     refine den_again ⟨?_, rfl⟩
     have e1 : Md.o2 n = (Md.o1 n) := if_neg (fun h => by rw [c] at h; cases h)
     have e2 : Md.k2 n = Md.k1 n := if_neg (fun h => by rw [c] at h; cases h)
     rw [e1, e2]
     rfl
   rintro _ _ V2 u2 ⟨rfl, rfl⟩
   refine ⟨0, 0, n.on, 0, n.vars.length, vc, n.back.length, bc, Md.o2 n, n.brk, ⟨([] : Md.Bs).toArray⟩, ⟨(Md.k2 n : Md.Bs).toArray⟩, ⟨(n.txt : Md.Bs).toArray⟩, ⟨(n.set : Md.Bs).toArray⟩, va, ba, rfl, rfl, fun _ => ?_⟩
   simp only [zP]
   have z2 := ext_trans z1 u2
   refine den_join (fun vs ls _ => vs = [.bool (Md.o3 n), .string ⟨([] : Md.Bs).toArray⟩, .int .u8 0, .int .i64 0, .int .i64 n.on, .int .u8 0, .string ⟨(Md.k2 n : Md.Bs).toArray⟩, .string ⟨(Md.t3 n : Md.Bs).toArray⟩, .string ⟨(n.set : Md.Bs).toArray⟩, .bool n.brk, .slice va n.vars.length vc, .slice ba n.back.length bc] ∧ ls = []) ?_ ?_
   ·refine den_br (fun c => ?_) fun c => ?_
    ·have c : (Md.cTxt n) = true := c
     refine den_call_d fun hb hd _ => ?_
     have hx := ext_trans z2 hd.ext
     have hc := ptxt_c 0 0 (n.on) 0 [] (Md.k2 n) (n.txt) (n.set) (n.brk) (va) (ba) (n.vars.length) (vc) (n.back.length) (bc) m1 _ (hG.ext hx) (hb _ (List.mem_singleton.2 rfl)) (fun h => h.2 (List.mem_singleton.2 rfl))
     refine CallsE.mono hc fun e w' _ ⟨he, hm⟩ => ?_
     subst he
     refine ⟨0, 0, n.on, 0, n.vars.length, vc, n.back.length, bc, (!(n.txt == [])), n.brk, ⟨([] : Md.Bs).toArray⟩, ⟨(Md.k2 n : Md.Bs).toArray⟩, ⟨([] : Md.Bs).toArray⟩, ⟨(n.set : Md.Bs).toArray⟩, va, ba, rfl, fun b hb' => by obtain rfl := List.mem_singleton.1 hb'; exact hm, fun W' _ x _ => den_again ⟨?_, rfl⟩⟩
     have e1 : Md.o3 n = ((!(n.txt == [])) && Md.o2 n) := if_pos c
     have e2 : Md.t3 n = [] := if_pos c
     rw [e1, e2]
     rfl
    ·have c : (Md.cTxt n) = false := c
     refine den_again ⟨?_, rfl⟩
     have e1 : Md.o3 n = (Md.o2 n) := if_neg (fun h => by rw [c] at h; cases h)
     have e2 : Md.t3 n = n.txt := if_neg (fun h => by rw [c] at h; cases h)
     rw [e1, e2]
     rfl
   rintro _ _ V3 u3 ⟨rfl, rfl⟩
   refine ⟨0, 0, n.on, 0, n.vars.length, vc, n.back.length, bc, Md.o3 n, n.brk, ⟨([] : Md.Bs).toArray⟩, ⟨(Md.k2 n : Md.Bs).toArray⟩, ⟨(Md.t3 n : Md.Bs).toArray⟩, ⟨(n.set : Md.Bs).toArray⟩, va, ba, rfl, rfl, fun _ => ?_⟩
   simp only [zP]
   have z3 := ext_trans z2 u3
   refine den_join (fun vs ls _ => vs = [.bool (Md.o4 n), .string ⟨([] : Md.Bs).toArray⟩, .int .u8 0, .int .i64 0, .int .i64 n.on, .int .u8 0, .string ⟨(Md.k2 n : Md.Bs).toArray⟩, .string ⟨(Md.t3 n : Md.Bs).toArray⟩, .string ⟨(Md.s4 n : Md.Bs).toArray⟩, .bool n.brk, .slice va n.vars.length vc, .slice ba n.back.length bc] ∧ ls = []) ?_ ?_
   ·refine den_br (fun c => ?_) fun c => ?_
    ·have c : (n.kd == 4) = true := c
     refine den_call_d fun hb hd _ => ?_
     have hx := ext_trans z3 hd.ext
     have hc := pset_c 0 0 (n.on) 0 [] (Md.k2 n) (Md.t3 n) (n.set) (n.brk) (va) (ba) (n.vars.length) (vc) (n.back.length) (bc) m1 _ (hG.ext hx) (hb _ (List.mem_singleton.2 rfl)) (fun h => h.2 (List.mem_singleton.2 rfl))
     refine CallsE.mono hc fun e w' _ ⟨he, hm⟩ => ?_
     subst he
     refine ⟨0, 0, n.on, 0, n.vars.length, vc, n.back.length, bc, Md.name n.set, n.brk, ⟨([] : Md.Bs).toArray⟩, ⟨(Md.k2 n : Md.Bs).toArray⟩, ⟨(Md.t3 n : Md.Bs).toArray⟩, ⟨([] : Md.Bs).toArray⟩, va, ba, rfl, fun b hb' => by obtain rfl := List.mem_singleton.1 hb'; exact hm, fun W' _ x _ => den_again ⟨?_, rfl⟩⟩
     have e1 : Md.o4 n = (Md.name n.set && Md.o3 n) := if_pos c
     have e2 : Md.s4 n = [] := if_pos c
     rw [e1, e2]
     rfl
    ·have c : (n.kd == 4) = false := c
     refine den_again ⟨?_, rfl⟩
     have e1 : Md.o4 n = (Md.o3 n) := if_neg (fun h => by rw [c] at h; cases h)
     have e2 : Md.s4 n = n.set := if_neg (fun h => by rw [c] at h; cases h)
     rw [e1, e2]
     rfl
   rintro _ _ V4 u4 ⟨rfl, rfl⟩
   refine ⟨0, 0, n.on, 0, n.vars.length, vc, n.back.length, bc, Md.o4 n, n.brk, ⟨([] : Md.Bs).toArray⟩, ⟨(Md.k2 n : Md.Bs).toArray⟩, ⟨(Md.t3 n : Md.Bs).toArray⟩, ⟨(Md.s4 n : Md.Bs).toArray⟩, va, ba, rfl, rfl, fun _ => ?_⟩
   simp only [zP]
   have z4 := ext_trans z3 u4
   refine den_join (fun vs ls _ => vs = [.bool (Md.o5 n), .string ⟨([] : Md.Bs).toArray⟩, .int .u8 0, .int .i64 0, .int .i64 0, .int .u8 0, .string ⟨(Md.k2 n : Md.Bs).toArray⟩, .string ⟨(Md.t3 n : Md.Bs).toArray⟩, .string ⟨(Md.s4 n : Md.Bs).toArray⟩, .bool n.brk, .slice va n.vars.length vc, .slice ba n.back.length bc] ∧ ls = []) ?_ ?_
   ·refine den_call_d fun hb hd _ => ?_
    have hx := ext_trans z4 hd.ext
    have hc := pon_c n.kd n.inn n.on n.ev n.nm n.key n.txt n.set n.brk va ba n.vars.length vc n.back.length bc m0 0 0 (n.on) 0 [] (Md.k2 n) (Md.t3 n) (Md.s4 n) (n.brk) (va) (ba) (n.vars.length) (vc) (n.back.length) (bc) m1 _ (hG.ext hx) (hb _ (List.mem_cons_self ..)) (fun h => h.2 (List.mem_singleton.2 rfl)) (hb _ (List.mem_cons_of_mem _ (List.mem_singleton.2 rfl))) ⟨(Array.getElem?_eq_some_iff.1 (hb _ (List.mem_cons_of_mem _ (List.mem_singleton.2 rfl)))).1, fun h => hd.1 _ (List.mem_cons_of_mem _ (List.mem_singleton.2 rfl)) _ (List.mem_singleton.2 rfl) (by decide) (List.mem_singleton.1 h)⟩
    refine CallsE.mono hc fun e w' _ ⟨he, hm⟩ => ?_
    subst he
    refine ⟨0, 0, 0, 0, n.vars.length, vc, n.back.length, bc, ((decide (0 ≤ n.on) && n.kd == 15) || (n.on == -1 && !(n.kd == 15))), n.brk, ⟨([] : Md.Bs).toArray⟩, ⟨(Md.k2 n : Md.Bs).toArray⟩, ⟨(Md.t3 n : Md.Bs).toArray⟩, ⟨(Md.s4 n : Md.Bs).toArray⟩, va, ba, rfl, fun b hb' => by obtain rfl := List.mem_singleton.1 hb'; exact hm, fun W' _ x _ => den_again ⟨?_, rfl⟩⟩
    rfl
   rintro _ _ V5 u5 ⟨rfl, rfl⟩
   refine ⟨0, 0, 0, 0, n.vars.length, vc, n.back.length, bc, Md.o5 n, n.brk, ⟨([] : Md.Bs).toArray⟩, ⟨(Md.k2 n : Md.Bs).toArray⟩, ⟨(Md.t3 n : Md.Bs).toArray⟩, ⟨(Md.s4 n : Md.Bs).toArray⟩, va, ba, rfl, rfl, fun _ => ?_⟩
   simp only [zP]
   have z5 := ext_trans z4 u5
   refine den_join (fun vs ls _ => vs = [.bool (Md.o6 n), .string ⟨([] : Md.Bs).toArray⟩, .int .u8 0, .int .i64 0, .int .i64 0, .int .u8 0, .string ⟨(Md.k2 n : Md.Bs).toArray⟩, .string ⟨(Md.t3 n : Md.Bs).toArray⟩, .string ⟨(Md.s4 n : Md.Bs).toArray⟩, .bool (Md.b6 n), .slice va n.vars.length vc, .slice ba n.back.length bc] ∧ ls = []) ?_ ?_
   ·refine den_br (fun c => ?_) fun c => ?_
    ·have c : (Md.cBrk n) = true := c
     refine den_call_d fun hb hd _ => ?_
     have hx := ext_trans z5 hd.ext
     have hc := pbrk_c n.kd n.inn n.on n.ev n.nm n.key n.txt n.set n.brk va ba n.vars.length vc n.back.length bc m0 0 0 (0) 0 [] (Md.k2 n) (Md.t3 n) (Md.s4 n) (n.brk) (va) (ba) (n.vars.length) (vc) (n.back.length) (bc) m1 _ (hG.ext hx) (hb _ (List.mem_cons_self ..)) (fun h => h.2 (List.mem_singleton.2 rfl)) (hb _ (List.mem_cons_of_mem _ (List.mem_singleton.2 rfl))) ⟨(Array.getElem?_eq_some_iff.1 (hb _ (List.mem_cons_of_mem _ (List.mem_singleton.2 rfl)))).1, fun h => hd.1 _ (List.mem_cons_of_mem _ (List.mem_singleton.2 rfl)) _ (List.mem_singleton.2 rfl) (by decide) (List.mem_singleton.1 h)⟩
     refine CallsE.mono hc fun e w' _ ⟨he, hm⟩ => ?_
     subst he
     refine ⟨0, 0, 0, 0, n.vars.length, vc, n.back.length, bc, ((n.brk || !(n.kd == 15)) || !(n.ev == 4)), false, ⟨([] : Md.Bs).toArray⟩, ⟨(Md.k2 n : Md.Bs).toArray⟩, ⟨(Md.t3 n : Md.Bs).toArray⟩, ⟨(Md.s4 n : Md.Bs).toArray⟩, va, ba, rfl, fun b hb' => by obtain rfl := List.mem_singleton.1 hb'; exact hm, fun W' _ x _ => den_again ⟨?_, rfl⟩⟩
     have e1 : Md.o6 n = (((n.brk || !(n.kd == 15)) || !(n.ev == 4)) && Md.o5 n) := if_pos c
     have e2 : Md.b6 n = false := if_pos c
     rw [e1, e2]
     rfl
    ·have c : (Md.cBrk n) = false := c
     refine den_again ⟨?_, rfl⟩
     have e1 : Md.o6 n = (Md.o5 n) := if_neg (fun h => by rw [c] at h; cases h)
     have e2 : Md.b6 n = n.brk := if_neg (fun h => by rw [c] at h; cases h)
     rw [e1, e2]
     rfl
   rintro _ _ V6 u6 ⟨rfl, rfl⟩
   refine ⟨0, 0, 0, 0, n.vars.length, vc, n.back.length, bc, Md.o6 n, (Md.b6 n), ⟨([] : Md.Bs).toArray⟩, ⟨(Md.k2 n : Md.Bs).toArray⟩, ⟨(Md.t3 n : Md.Bs).toArray⟩, ⟨(Md.s4 n : Md.Bs).toArray⟩, va, ba, rfl, rfl, fun _ => ?_⟩
   simp only [zP]
   have z6 := ext_trans z5 u6
   refine den_join (fun vs ls _ => vs = [.bool (Md.o7 n), .string ⟨([] : Md.Bs).toArray⟩, .int .u8 0, .int .i64 0, .int .i64 0, .int .u8 0, .string ⟨(Md.k2 n : Md.Bs).toArray⟩, .string ⟨(Md.t3 n : Md.Bs).toArray⟩, .string ⟨(Md.s4 n : Md.Bs).toArray⟩, .bool (Md.b6 n), .slice (if Md.scope n.kd then none else va) (if Md.scope n.kd then 0 else n.vars.length) (if Md.scope n.kd then 0 else vc), .slice ba n.back.length bc] ∧ ls = []) ?_ ?_
   ·refine den_call_q (fun _ _ => mscope_q n.kd _) ⟨Md.scope n.kd, rfl, fun W6 x6 => ?_⟩
    simp only [zP]
    have y6 := ext_trans z6 x6
    refine den_br (fun c => ?_) fun c => ?_
    ·have c : (Md.scope n.kd) = true := c
     refine den_call_d fun hb hd _ => ?_
     have hx := ext_trans y6 hd.ext
     have hc := pvars_c n.vars 0 0 (0) 0 [] (Md.k2 n) (Md.t3 n) (Md.s4 n) ((Md.b6 n)) va ba vc n.back.length bc m1 _ (hG.ext hx) (hb _ (List.mem_singleton.2 rfl)) (fun h => h.2 (List.mem_singleton.2 rfl)) hlv hf (SlAt.w (hV.ext hx))
     refine CallsE.mono hc fun e w' _ ⟨he, hm⟩ => ?_
     subst he
     refine ⟨0, 0, 0, 0, 0, 0, n.back.length, bc, (Md.vars n.vars == 0), (Md.b6 n), ⟨([] : Md.Bs).toArray⟩, ⟨(Md.k2 n : Md.Bs).toArray⟩, ⟨(Md.t3 n : Md.Bs).toArray⟩, ⟨(Md.s4 n : Md.Bs).toArray⟩, none, ba, rfl, fun b hb' => by obtain rfl := List.mem_singleton.1 hb'; exact hm, fun W' _ x _ => den_again ⟨?_, rfl⟩⟩
     have e1 : Md.o7 n = ((Md.vars n.vars == 0) && Md.o6 n) := if_pos c
     have e_va : (if Md.scope n.kd then none else va) = none := if_pos c
     have e_vn : (if Md.scope n.kd then 0 else n.vars.length) = 0 := if_pos c
     have e_vc : (if Md.scope n.kd then 0 else vc) = 0 := if_pos c
     rw [e1, e_va, e_vn, e_vc]
     rfl
    ·have c : (Md.scope n.kd) = false := c
     refine den_again ⟨?_, rfl⟩
     have e1 : Md.o7 n = (Md.o6 n) := if_neg (fun h => by rw [c] at h; cases h)
     have e_va : (if Md.scope n.kd then none else va) = va := if_neg (fun h => by rw [c] at h; cases h)
     have e_vn : (if Md.scope n.kd then 0 else n.vars.length) = n.vars.length := if_neg (fun h => by rw [c] at h; cases h)
     have e_vc : (if Md.scope n.kd then 0 else vc) = vc := if_neg (fun h => by rw [c] at h; cases h)
     rw [e1, e_va, e_vn, e_vc]
     rfl
   rintro _ _ V7 u7 ⟨rfl, rfl⟩
   refine ⟨0, 0, 0, 0, (if Md.scope n.kd then 0 else n.vars.length), (if Md.scope n.kd then 0 else vc), n.back.length, bc, Md.o7 n, (Md.b6 n), ⟨([] : Md.Bs).toArray⟩, ⟨(Md.k2 n : Md.Bs).toArray⟩, ⟨(Md.t3 n : Md.Bs).toArray⟩, ⟨(Md.s4 n : Md.Bs).toArray⟩, (if Md.scope n.kd then none else va), ba, rfl, rfl, fun _ => ?_⟩
   simp only [zP]
   have z7 := ext_trans z6 u7
   refine den_join (fun vs ls _ => vs = [.bool (Md.o8 n), .string ⟨([] : Md.Bs).toArray⟩, .int .u8 0, .int .i64 0, .int .i64 0, .int .u8 0, .string ⟨(Md.k2 n : Md.Bs).toArray⟩, .string ⟨(Md.t3 n : Md.Bs).toArray⟩, .string ⟨(Md.s4 n : Md.Bs).toArray⟩, .bool (Md.b6 n), .slice (if Md.scope n.kd then none else va) (if Md.scope n.kd then 0 else n.vars.length) (if Md.scope n.kd then 0 else vc), .slice (if n.kd == 14 then none else ba) (if n.kd == 14 then 0 else n.back.length) (if n.kd == 14 then 0 else bc)] ∧ ls = []) ?_ ?_
   ·refine den_br (fun c => ?_) fun c => ?_
    ·have c : (n.kd == 14) = true := c
     refine den_call_d fun hb hd _ => ?_
     have hx := ext_trans z7 hd.ext
     have hc := pback_c n.back 0 0 (0) 0 [] (Md.k2 n) (Md.t3 n) (Md.s4 n) ((Md.b6 n)) ((if Md.scope n.kd then none else va)) ba ((if Md.scope n.kd then 0 else n.vars.length)) ((if Md.scope n.kd then 0 else vc)) bc m1 _ (hG.ext hx) (hb _ (List.mem_singleton.2 rfl)) (fun h => h.2 (List.mem_singleton.2 rfl)) hlb (SlAt.w (hB.ext hx))
     refine CallsE.mono hc fun e w' _ ⟨he, hm⟩ => ?_
     subst he
     refine ⟨0, 0, 0, 0, (if Md.scope n.kd then 0 else n.vars.length), (if Md.scope n.kd then 0 else vc), 0, 0, Md.unl id Md.name [] n.back, (Md.b6 n), ⟨([] : Md.Bs).toArray⟩, ⟨(Md.k2 n : Md.Bs).toArray⟩, ⟨(Md.t3 n : Md.Bs).toArray⟩, ⟨(Md.s4 n : Md.Bs).toArray⟩, (if Md.scope n.kd then none else va), none, rfl, fun b hb' => by obtain rfl := List.mem_singleton.1 hb'; exact hm, fun W' _ x _ => den_again ⟨?_, rfl⟩⟩
     have e1 : Md.o8 n = (Md.unl id Md.name [] n.back && Md.o7 n) := if_pos c
     have e_ba : (if n.kd == 14 then none else ba) = none := if_pos c
     have e_bn : (if n.kd == 14 then 0 else n.back.length) = 0 := if_pos c
     have e_bc : (if n.kd == 14 then 0 else bc) = 0 := if_pos c
     rw [e1, e_ba, e_bn, e_bc]
     rfl
    ·have c : (n.kd == 14) = false := c
     refine den_again ⟨?_, rfl⟩
     have e1 : Md.o8 n = (Md.o7 n) := if_neg (fun h => by rw [c] at h; cases h)
     have e_ba : (if n.kd == 14 then none else ba) = ba := if_neg (fun h => by rw [c] at h; cases h)
     have e_bn : (if n.kd == 14 then 0 else n.back.length) = n.back.length := if_neg (fun h => by rw [c] at h; cases h)
     have e_bc : (if n.kd == 14 then 0 else bc) = bc := if_neg (fun h => by rw [c] at h; cases h)
     rw [e1, e_ba, e_bn, e_bc]
     rfl
   rintro _ _ V8 u8 ⟨rfl, rfl⟩
   refine ⟨0, 0, 0, 0, (if Md.scope n.kd then 0 else n.vars.length), (if Md.scope n.kd then 0 else vc), (if n.kd == 14 then 0 else n.back.length), (if n.kd == 14 then 0 else bc), Md.o8 n, (Md.b6 n), ⟨([] : Md.Bs).toArray⟩, ⟨(Md.k2 n : Md.Bs).toArray⟩, ⟨(Md.t3 n : Md.Bs).toArray⟩, ⟨(Md.s4 n : Md.Bs).toArray⟩, (if Md.scope n.kd then none else va), (if n.kd == 14 then none else ba), rfl, rfl, fun _ => ?_⟩
   simp only [zP]
   have z8 := ext_trans z7 u8
   refine den_br (fun c => ?_) fun c => den_ret fun _ _ _ => ⟨_, rfl, ?_⟩
   ·have c : Md.o8 n = true := c
    refine den_call_q (v := .bool (Md.bareNd n)) (fun _ _ => by rw [hbare]; exact snode0_q 0 0 0 0 [] (Md.k2 n) (Md.t3 n) (Md.s4 n) (Md.b6 n) (if Md.scope n.kd then none else va) (if n.kd == 14 then none else ba) (if Md.scope n.kd then 0 else n.vars.length) (if Md.scope n.kd then 0 else vc) (if n.kd == 14 then 0 else n.back.length) (if n.kd == 14 then 0 else bc) V8) ⟨Md.bareNd n, rfl, fun W9 x9 => ?_⟩
    simp only [zP]
    rw [hN, c, Bool.true_and]
    refine den_br (fun c2 => den_ret fun _ _ _ => ⟨_, rfl, ?_⟩) fun c2 => den_ret fun _ _ _ => ⟨_, rfl, ?_⟩
    ·have c2 : (!Md.bareNd n) = true := c2
     rw [if_neg (fun h => by rw [h] at c2; cases c2)]; rfl
    ·have c2 : (!Md.bareNd n) = false := c2
     rw [if_pos (by simpa using c2)]; rfl
   ·have c : Md.o8 n = false := c
    rw [hN, c]; rfl
end Go.Proofs.YtkpjmlnhhggenaaGreatDoor
end
section
/- The walks of package model: flows and processes; how nodes, flows and processes lie in memory. -/
namespace Md
open Go
def flow (f : Fl) : Int := if 100 < f.cond.length then 40 else if (decide (f.frm < 0) || decide (f.to < 0)) || (f.els && !(f.cond == [])) then 4 else 0
def firstN {α : Type} (e : α → Int) : List α → Int
 | [] => 0
 | x :: l => if e x = 0 then firstN e l else e x
theorem firstN_map {α β : Type} (e : β → Int) (g : α → β) : ∀ l : List α, firstN e (l.map g) = firstN (fun x => e (g x)) l
 | [] => rfl
 | x :: l => by simp only [z_e, firstN, firstN_map e g l]
def proc (p : Pr) : Int :=
 if 40 < p.nodes.length ∨ 80 < p.flows.length then 40
 else if p.nodes.length = 0 ∨ name p.nm = false then 4
 else if vars p.vars ≠ 0 then vars p.vars
 else if firstN node p.nodes ≠ 0 then firstN node p.nodes
 else firstN flow p.flows
end Md
namespace Go.Proofs.YtkpjmlnhhggenaaGreatDoor
open Go Go.RowKit Go.SF
structure NV where
 n : Md.Nd
 va : Option Addr
 vc : Nat
 ba : Option Addr
 bc : Nat
abbrev ndC (v : NV) : List Value := [strB v.n.nm, .int .u8 v.n.kd, .int .i64 v.n.inn, .int .i64 v.n.on, .int .u8 v.n.ev, strB v.n.key, strB v.n.txt, strB v.n.set, .bool v.n.brk, .slice v.va v.n.vars.length v.vc, .slice v.ba v.n.back.length v.bc]
theorem ndC_len (v : NV) : (ndC v).length = 11 := rfl
structure FitN (v : NV) (W : Wd) : Prop where
 k0 : 0 ≤ v.n.kd
 k1 : v.n.kd < 256
 lv : v.n.vars.length ≤ 1000000
 lb : v.n.back.length ≤ 1000000
 fv : ∀ x ∈ v.n.vars, fitV x
 vs : SlI W v.va v.n.vars.length v.vc 4 (v.n.vars.flatMap varC)
 bs : SlI W v.ba v.n.back.length v.bc 1 (strs v.n.back)
theorem FitN.ext {v : NV} {W W' : Wd} (h : FitN v W) (x : Ext W W') : FitN v W' := ⟨h.k0, h.k1, h.lv, h.lb, h.fv, h.vs.ext x, h.bs.ext x⟩
theorem nd_aggT : aggT Tryz.prog NdT = some true := by kernel_rfl
theorem nd_sizeT : sizeT Tryz.prog NdT = some 11 := by kernel_rfl
abbrev flC (f : Md.Fl) : List Value := [.int .i64 f.frm, .int .i64 f.to, strB f.cond, .bool f.els]
theorem flC_len (f : Md.Fl) : (flC f).length = 4 := rfl
theorem fl_aggT : aggT Tryz.prog 33 = some true := by kernel_rfl
theorem fl_sizeT : sizeT Tryz.prog 33 = some 4 := by kernel_rfl
structure PV where
 nm : Md.Bs
 vars : List Md.Var
 va : Option Addr
 vc : Nat
 nodes : List NV
 na : Option Addr
 nc : Nat
 flows : List Md.Fl
 fa : Option Addr
 fc : Nat
def PV.pr (p : PV) : Md.Pr := ⟨p.nm, p.vars, p.nodes.map (·.n), p.flows⟩
abbrev prC (p : PV) : List Value := [strB p.nm, .slice p.va p.vars.length p.vc, .slice p.na p.nodes.length p.nc, .slice p.fa p.flows.length p.fc]
theorem prC_len (p : PV) : (prC p).length = 4 := rfl
structure FitP (p : PV) (W : Wd) : Prop where
 lv : p.vars.length ≤ 1000000
 ln : p.nodes.length ≤ 1000000
 lf : p.flows.length ≤ 1000000
 fv : ∀ x ∈ p.vars, fitV x
 fn : ∀ v ∈ p.nodes, FitN v W
 vs : SlI W p.va p.vars.length p.vc 4 (p.vars.flatMap varC)
 ns : SlI W p.na p.nodes.length p.nc 11 (p.nodes.flatMap ndC)
 fs : SlI W p.fa p.flows.length p.fc 4 (p.flows.flatMap flC)
theorem FitP.ext {p : PV} {W W' : Wd} (h : FitP p W) (x : Ext W W') : FitP p W' :=
 ⟨h.lv, h.ln, h.lf, h.fv, fun v hv => (h.fn v hv).ext x, h.vs.ext x, h.ns.ext x, h.fs.ext x⟩
theorem node_q (v : NV) (W : Wd) (h : FitN v W) (hG : GlobM W) : CallsQ Tryz.prog 48 #[.agg (ndC v).toArray] W (.int .i64 (Md.node v.n)) :=
 mnode_q v.n v.va v.ba v.vc v.bc W h.k0 h.k1 h.lv h.lb h.fv (SlAt.w h.vs) (SlAt.w h.bs) hG
theorem mflow_q (f : Md.Fl) (W : Wd) : CallsQ Tryz.prog 49 #[.agg (flC f).toArray] W (.int .i64 (Md.flow f)) := by
 refine vc_mflow f.frm f.to f.els ⟨f.cond.toArray⟩ W.all _ ?_
 refine den_new fun m W1 _ x1 => den_br (fun c1 => den_ret fun _ _ _ => ⟨_, rfl, ?_⟩) fun c1 => den_br (fun c2 => den_ret fun _ _ _ => ⟨_, rfl, ?_⟩) fun c2 => den_ret fun _ _ _ => ⟨_, rfl, ?_⟩
 ·simp only [zE, mb_size, ltB_true] at c1
  rw [Md.flow, if_pos (by omega)]; rfl
 ·simp only [zE, mb_size, ltB_false] at c1
  have c2 : ((decide (f.frm < 0) || decide (f.to < 0)) || (f.els && !(f.cond == []))) = true := c2
  rw [Md.flow, if_neg (by omega), if_pos c2]; rfl
 ·simp only [zE, mb_size, ltB_false] at c1
  have c2 : ((decide (f.frm < 0) || decide (f.to < 0)) || (f.els && !(f.cond == []))) = false := c2
  rw [Md.flow, if_neg (by omega), if_neg (fun h => by rw [c2] at h; cases h)]; rfl
theorem mproc_q (p : PV) (W : Wd) (hp : FitP p W) (hG : GlobM W) : CallsQ Tryz.prog 21 #[.agg (prC p).toArray] W (.int .i64 (Md.proc p.pr)) := by
 have hG := hG.ext W.all_ext
 have hp := hp.ext W.all_ext
 have hln := hp.ln
 have hlf := hp.lf
 refine vc_mproc p.vars.length p.vc p.nodes.length p.nc p.flows.length p.fc ⟨p.nm.toArray⟩ p.va p.na p.fa W.all _ ?_
 have e1 : p.pr.nodes.length = p.nodes.length := List.length_map ..
 refine den_new fun m0 W1 _ x1 => den_br (fun c1 => den_ret fun _ _ _ => ⟨_, rfl, ?_⟩) fun c1 => den_br (fun c2 => ?_) fun c2 => den_ret fun _ _ _ => ⟨_, rfl, ?_⟩
 ·have c1 : 40 < p.pr.nodes.length ∨ 80 < p.pr.flows.length := by
   rw [e1]; show _ ∨ 80 < p.flows.length
   simp only [zE, Bool.or_eq_true, ltB_true] at c1
   omega
  rw [Md.proc, if_pos c1]; rfl
 ·have c1 : ¬ (40 < p.pr.nodes.length ∨ 80 < p.pr.flows.length) := by
   rw [e1]; show ¬ (_ ∨ 80 < p.flows.length)
   simp only [zE, Bool.or_eq_false_iff, ltB_false] at c1
   omega
  have c2 : ¬ p.pr.nodes.length = 0 := by
   rw [e1]
   simp only [zE, Bool.not_eq_true', beq_eq_false_iff_ne, ne_eq] at c2
   omega
  have hN : Md.proc p.pr = if Md.name p.nm = false then 4 else if Md.vars p.vars ≠ 0 then Md.vars p.vars else if Md.firstN Md.node p.pr.nodes ≠ 0 then Md.firstN Md.node p.pr.nodes else Md.firstN Md.flow p.flows := by
   rw [Md.proc, if_neg c1]
   by_cases h : Md.name p.nm = false
   ·rw [if_pos (.inr h), if_pos h]
   ·rw [if_neg (fun h2 => h2.elim c2 h), if_neg h]; rfl
  refine den_call_q (fun _ _ => mname_q p.nm W1 (hG.ext x1)) ⟨Md.name p.nm, rfl, fun W2 x2 => ?_⟩
  simp only [zP]
  have y2 := ext_trans x1 x2
  refine den_br (fun c3 => den_ret fun _ _ _ => ⟨_, rfl, ?_⟩) fun c3 => ?_
  ·have c3 : (!Md.name p.nm) = true := c3
   rw [hN, if_pos (by simpa using c3)]; rfl
  ·have c3 : (!Md.name p.nm) = false := c3
   rw [hN, if_neg (by simpa using c3)]
   refine den_call_q (fun _ _ => mvars_q p.vars p.va p.vc W2 hp.lv hp.fv (SlAt.w (hp.vs.ext y2)) (hG.ext y2)) ⟨Md.vars p.vars, rfl, fun W3 x3 => ?_⟩
   simp only [zP]
   have y3 := ext_trans y2 x3
   refine den_br (fun c4 => den_ret fun _ _ _ => ⟨_, rfl, ?_⟩) fun c4 => ?_
   ·have c4 : (!(Md.vars p.vars == 0)) = true := c4
    rw [if_pos (by simpa using c4)]; rfl
   ·have c4 : (!(Md.vars p.vars == 0)) = false := c4
    rw [if_neg (by simpa using c4)]
    have e2 : Md.firstN Md.node p.pr.nodes = Md.firstN (fun v : NV => Md.node v.n) p.nodes := Md.firstN_map ..
    rw [e2]
    refine den_loop (fun j vs ls V => ∃ i : Nat, vs = [.int .i64 (i : Nat)] ∧ ls = [] ∧ i ≤ p.nodes.length ∧ j = p.nodes.length - i ∧ Md.firstN (fun v : NV => Md.node v.n) p.nodes = Md.firstN (fun v : NV => Md.node v.n) (p.nodes.drop i)) p.nodes.length ⟨0, by simp [Sy.dens, Sy.den, E.i, E.b, E.t, gd, Env.push, z_a, z_b, z_c, z_d], rfl, Nat.zero_le _, rfl, rfl⟩ ?_
    rintro j vs ls' W4 x4 ⟨i, rfl, rfl, hi, rfl, ha⟩
    have y4 := ext_trans y3 x4
    refine ⟨(i : Int), rfl, rfl, fun _ => den_br (fun d1 => ?_) fun d1 => ?_⟩
    ·simp only [zE, ltB_true] at d1
     have hil : i < p.nodes.length := by omega
     have hx : p.nodes[i]? = some p.nodes[i] := List.getElem?_eq_getElem hil
     have hv := (hp.fn _ (List.getElem_mem hil))
     rw [tdrop_get hil] at ha
     generalize p.nodes[i] = v at hx hv ha
     refine den_chk ?_ (den_chk ?_ (den_look ⟨v.n.kd, v.n.inn, v.n.on, v.n.ev, v.n.vars.length, v.vc, v.n.back.length, v.bc, v.n.brk, ⟨v.n.nm.toArray⟩, ⟨v.n.key.toArray⟩, ⟨v.n.txt.toArray⟩, ⟨v.n.set.toArray⟩, v.va, v.ba, fun W5 x5 => ?_, ?_⟩))
     ·simp only [E.b, gd, Env.push]; exact SlI.some_of hp.ns (by omega)
     ·simp only [zE]; exact leB_t (by omega)
     ·have := sl_look (P := Tryz.prog) ndC_len (by decide) hp.ns nd_aggT nd_sizeT hx (ext_trans y4 x5)
      simp only [zE, Nat.add_zero] at this ⊢
      exact this
     ·simp only [zP]
      refine den_new fun m1 W5 _ x5 => den_wr fun W6 x6 => ?_
      have y6 := ext_trans y4 (ext_trans x5 x6)
      simp only [zP]
      have hq := node_q v W6 (hv.ext y6) (hG.ext y6)
      refine den_call_q (v := .int .i64 (Md.node v.n)) (fun _ _ => hq) ⟨Md.node v.n, rfl, fun W7 x7 => ?_⟩
      simp only [zP]
      refine den_br (fun d2 => den_ret fun _ _ _ => ⟨_, rfl, ?_⟩) fun d2 => den_frz fun W8 _ x8 _ _ => den_again ⟨p.nodes.length - (i + 1), by omega, i + 1, ?_, rfl, by omega, rfl, ?_⟩
      ·have d2 : (!(Md.node v.n == 0)) = true := d2
       have d2 : ¬ Md.node v.n = 0 := by simpa using d2
       rw [ha, Md.firstN, if_neg d2, if_pos d2]; rfl
      ·simp only [zE]; rw [w64i (by omega) (by omega)]; rfl
      ·have d2 : (!(Md.node v.n == 0)) = false := d2
       have d2 : Md.node v.n = 0 := by simpa using d2
       rw [ha, Md.firstN, if_pos d2]
    ·simp only [zE, ltB_false] at d1
     rw [List.drop_eq_nil_of_le (by omega)] at ha
     rw [if_neg (by rw [ha]; exact fun h => h rfl)]
     refine den_loop (fun j vs ls V => ∃ i : Nat, vs = [.int .i64 (i : Nat)] ∧ ls = [] ∧ i ≤ p.flows.length ∧ j = p.flows.length - i ∧ Md.firstN Md.flow p.flows = Md.firstN Md.flow (p.flows.drop i)) p.flows.length ⟨0, by simp [Sy.dens, Sy.den, E.i, E.b, E.t, gd, Env.push, z_a, z_b, z_c, z_d], rfl, Nat.zero_le _, rfl, rfl⟩ ?_
     rintro j vs ls' W5 x5 ⟨k, rfl, rfl, hk, rfl, hb⟩
     have y5 := ext_trans y4 x5
     refine ⟨(k : Int), rfl, rfl, fun _ => den_br (fun d3 => ?_) fun d3 => den_ret fun _ _ _ => ⟨_, rfl, ?_⟩⟩
     ·simp only [zE, ltB_true] at d3
      have hkl : k < p.flows.length := by omega
      have hx : p.flows[k]? = some p.flows[k] := List.getElem?_eq_getElem hkl
      rw [tdrop_get hkl] at hb
      generalize p.flows[k] = f at hx hb
      refine den_chk ?_ (den_chk ?_ (den_look ⟨f.frm, f.to, f.els, ⟨f.cond.toArray⟩, fun W6 x6 => ?_, ?_⟩))
      ·simp only [E.b, gd, Env.push]; exact SlI.some_of hp.fs (by omega)
      ·simp only [zE]; exact leB_t (by omega)
      ·have := sl_look (P := Tryz.prog) flC_len (by decide) hp.fs fl_aggT fl_sizeT hx (ext_trans y5 x6)
       simp only [zE, Nat.add_zero] at this ⊢
       exact this
      ·simp only [zP]
       refine den_new fun m1 W6 _ x6 => den_wr fun W7 x7 => ?_
       simp only [zP]
       have hq := mflow_q f W7
       refine den_call_q (v := .int .i64 (Md.flow f)) (fun _ _ => hq) ⟨Md.flow f, rfl, fun W8 x8 => ?_⟩
       simp only [zP]
       refine den_br (fun d4 => den_ret fun _ _ _ => ⟨_, rfl, ?_⟩) fun d4 => den_frz fun W9 _ x9 _ _ => den_again ⟨p.flows.length - (k + 1), by omega, k + 1, ?_, rfl, by omega, rfl, ?_⟩
       ·have d4 : (!(Md.flow f == 0)) = true := d4
        have d4 : ¬ Md.flow f = 0 := by simpa using d4
        rw [hb, Md.firstN, if_neg d4]; rfl
       ·simp only [zE]; rw [w64i (by omega) (by omega)]; rfl
       ·have d4 : (!(Md.flow f == 0)) = false := d4
        have d4 : Md.flow f = 0 := by simpa using d4
        rw [hb, Md.firstN, if_pos d4]
     ·simp only [zE, ltB_false] at d3
      rw [hb, List.drop_eq_nil_of_le (by omega)]; rfl
 ·have c1 : ¬ (40 < p.pr.nodes.length ∨ 80 < p.pr.flows.length) := by
   rw [e1]; show ¬ (_ ∨ 80 < p.flows.length)
   simp only [zE, Bool.or_eq_false_iff, ltB_false] at c1
   omega
  have c2 : p.pr.nodes.length = 0 := by
   rw [e1]
   simp only [zE, Bool.not_eq_false', beq_iff_eq] at c2
   omega
  rw [Md.proc, if_neg c1, if_pos (.inl c2)]; rfl
end Go.Proofs.YtkpjmlnhhggenaaGreatDoor
end
section
/- Package valid in plain Lean, as the program asks it. No program in sight. -/
namespace Vd
open Go Md
def none0 : Nd := ⟨[], 0, 0, 0, 0, [], [], [], false, [], []⟩
def nd (p : Pr) (i : Nat) : Nd := p.nodes.getD i none0
def around (p : Pr) (n : Nat) : Int := if decide (0 ≤ (nd p n).inn) && decide ((nd p n).inn < (n : Int)) then (nd p n).inn else -1
theorem around_lt (p : Pr) (n : Nat) : around p n < n := by
 unfold around; split
 ·rename_i h; simp at h; omega
 ·omega
theorem around_ge (p : Pr) (n : Nat) : -1 ≤ around p n := by
 unfold around; split
 ·rename_i h; simp at h; omega
 ·omega
def kind (p : Pr) (s : Int) : Int := if s < 0 then 0 else (nd p s.toNat).kd
def link (n : Nd) (k : Int) : Bool := n.kd == k && n.ev == 6
def aboveN (p : Pr) : Nat → Int → List Var
 | 0, _ => []
 | k + 1, at' => if 0 ≤ at' then (nd p at'.toNat).vars ++ aboveN p k (around p at'.toNat) else []
theorem aboveN_enough (p : Pr) : ∀ (k k' : Nat) (at' : Int), at' < k → at' < k' → aboveN p k at' = aboveN p k' at'
 | 0, 0, _, _, _ => rfl
 | 0, k' + 1, a, h, _ => by rw [aboveN, aboveN, if_neg (by omega)]
 | k + 1, 0, a, _, h => by rw [aboveN, aboveN, if_neg (by omega)]
 | k + 1, k' + 1, a, h, h' => by
  rw [aboveN, aboveN]
  by_cases ha : 0 ≤ a
  ·rw [if_pos ha, if_pos ha, aboveN_enough p k k' _ (by have := around_lt p a.toNat; omega) (by have := around_lt p a.toNat; omega)]
  ·rw [if_neg ha, if_neg ha]
def above (p : Pr) (at' : Int) : List Var := aboveN p (at'.toNat + 1) at'
theorem above_step (p : Pr) {at' : Int} (h : 0 ≤ at') : above p at' = (nd p at'.toNat).vars ++ above p (around p at'.toNat) := by
 rw [above, aboveN, if_pos h, above]
 congr 1
 exact aboveN_enough p _ _ _ (by have := around_lt p at'.toNat; omega) (by omega)
theorem above_none (p : Pr) {at' : Int} (h : at' < 0) : above p at' = [] := by rw [above, aboveN, if_neg (by omega)]
def seen (p : Pr) (n : Int) : List Var :=
 (if decide (0 ≤ n) && decide (n < (p.nodes.length : Int)) then
  if (nd p n.toNat).kd == 12 then (nd p n.toNat).vars ++ above p (around p n.toNat)
  else if (nd p n.toNat).kd == 1 then
   if kind p (around p n.toNat) == 13 then above p (around p (around p n.toNat).toNat) else above p (around p n.toNat)
  else above p (around p n.toNat)
 else []) ++ p.vars
def allAt {α : Type} (f : Nat → α → Bool) : Nat → List α → Bool
 | _, [] => true
 | i, x :: l => f i x && allAt f (i + 1) l
def placed (p : Pr) (i : Nat) (n : Nd) : Bool :=
 !((p.nodes.take i).any fun m => m.nm == n.nm) && ((n.inn == around p i) && (!(decide (0 ≤ n.inn)) || scope (nd p n.inn.toNat).kd))
def bound (p : Pr) (n : Nd) : Bool :=
 !(n.kd == 15) || (decide (n.on < (p.nodes.length : Int)) && (act (nd p n.on.toNat).kd && (nd p n.on.toNat).inn == n.inn))
def places (p : Pr) : Bool := allAt (placed p) 0 p.nodes && p.nodes.all (bound p)
def apart (n : Nd) : Bool := n.kd == 15 || n.kd == 13
def linkedN (p : Pr) (fr to : List Int) (i : Nat) (n : Nd) : Bool :=
 kind p n.inn == 12 ||
  (!(((to.getD i 0 == 0 && !apart n) && !(n.kd == 1)) && !link n 6) && !(((fr.getD i 0 == 0 && !apart n) && !(n.kd == 2)) && !link n 5))
def linked (p : Pr) (fr to : List Int) : Bool := allAt (linkedN p fr to) 0 p.nodes
def fits (n m : Nd) : Bool := (link m 6 && m.inn == n.inn) && m.key == n.key
def links (p : Pr) : Bool := p.nodes.all fun n => !link n 5 || (p.nodes.countP (fits n) == 1)
end Vd
end
section
/- What is left to show of functions, as the walk that the kernel computes finds it (written by wip/vc2.py). -/
namespace Go.Proofs.YtkpjmlnhhggenaaGreatDoor
open Go Go.RowKit Go.SF
set_option maxRecDepth 100000
@[reducible] def dd8_0_0 : Sy := (.agg [(.str (.tv 6)), (.int .u8 (.iv 7)), (.int .i64 (.iv 8)), (.int .i64 (.iv 9)), (.int .u8 (.iv 10)), (.str (.tv 7)), (.str (.tv 8)), (.str (.tv 9)), (.bool (.bv 2)), (.slc 12 (.nv 22) (.nv 23)), (.slc 13 (.nv 24) (.nv 25))])
@[reducible] def dd8_0_1 : Blk := ⟨2, 25, [(.str (.tv 5)), (.int .u8 (.iv 7)), (.int .i64 (.iv 8)), (.int .i64 (.iv 9)), (.int .u8 (.iv 10)), (.str (.tv 6)), (.str (.tv 7)), (.str (.tv 8)), (.bool (.bv 2)), (.slc 8 (.nv 16) (.nv 17)), (.slc 9 (.nv 18) (.nv 19))]⟩
@[reducible] def dd8_0_2 : Blk := ⟨1, 25, [(.str (.tv 1)), (.int .u8 (.iv 1)), (.int .i64 (.iv 2)), (.int .i64 (.iv 3)), (.int .u8 (.iv 4)), (.str (.tv 2)), (.str (.tv 3)), (.str (.tv 4)), (.bool (.bv 0)), (.slc 6 (.nv 12) (.nv 13)), (.slc 7 (.nv 14) (.nv 15))]⟩
@[reducible] def dd8_0_3 : Sy := (.agg [(.str (.tv 2)), (.int .u8 (.iv 3)), (.int .i64 (.iv 4)), (.int .i64 (.iv 5)), (.int .u8 (.iv 6)), (.str (.tv 3)), (.str (.tv 4)), (.str (.tv 5)), (.bool (.bv 1)), (.slc 10 (.nv 18) (.nv 19)), (.slc 11 (.nv 20) (.nv 21))])
@[reducible] def dd8_0_4 : Blk := ⟨1, 25, [(.str (.tv 1)), (.int .u8 (.iv 2)), (.int .i64 (.iv 3)), (.int .i64 (.iv 4)), (.int .u8 (.iv 5)), (.str (.tv 2)), (.str (.tv 3)), (.str (.tv 4)), (.bool (.bv 0)), (.slc 7 (.nv 14) (.nv 15)), (.slc 8 (.nv 16) (.nv 17))]⟩
@[reducible] def dd8_0_5 : Blk := ⟨2, 25, [(.str (.tv 2)), (.int .u8 (.iv 3)), (.int .i64 (.iv 4)), (.int .i64 (.iv 5)), (.int .u8 (.iv 6)), (.str (.tv 3)), (.str (.tv 4)), (.str (.tv 5)), (.bool (.bv 1)), (.slc 8 (.nv 15) (.nv 16)), (.slc 9 (.nv 17) (.nv 18))]⟩
@[reducible] def dd8_0_6 : Sy := (.agg [(.str (.tv 5)), (.int .u8 (.iv 7)), (.int .i64 (.iv 8)), (.int .i64 (.iv 9)), (.int .u8 (.iv 10)), (.str (.tv 6)), (.str (.tv 7)), (.str (.tv 8)), (.bool (.bv 2)), (.slc 8 (.nv 16) (.nv 17)), (.slc 9 (.nv 18) (.nv 19))])
@[reducible] def dd8_0_7 : Sy := (.agg [(.str (.tv 1)), (.int .u8 (.iv 1)), (.int .i64 (.iv 2)), (.int .i64 (.iv 3)), (.int .u8 (.iv 4)), (.str (.tv 2)), (.str (.tv 3)), (.str (.tv 4)), (.bool (.bv 0)), (.slc 6 (.nv 12) (.nv 13)), (.slc 7 (.nv 14) (.nv 15))])
@[reducible] def dd8_0_8 : Blk := ⟨0, 25, [(.str (.tv 4)), (.int .u8 (.iv 4)), (.int .i64 (.iv 5)), (.int .i64 (.iv 6)), (.int .u8 (.iv 7)), (.str (.tv 5)), (.str (.tv 6)), (.str (.tv 7)), (.bool (.bv 1)), (.slc 2 (.nv 4) (.nv 5)), (.slc 3 (.nv 6) (.nv 7))]⟩
@[reducible] def dd8_0_9 : Blk := ⟨0, 25, [(.str (.tv 0)), (.int .u8 (.iv 0)), (.int .i64 (.iv 1)), (.int .i64 (.iv 2)), (.int .u8 (.iv 3)), (.str (.tv 1)), (.str (.tv 2)), (.str (.tv 3)), (.bool (.bv 0)), (.slc 1 (.nv 2) (.nv 3)), (.slc 2 (.nv 4) (.nv 5))]⟩
@[reducible] def dd8_0_10 : Sy := (.agg [(.str (.tv 0)), (.int .u8 (.iv 0)), (.int .i64 (.iv 1)), (.int .i64 (.iv 2)), (.int .u8 (.iv 3)), (.str (.tv 1)), (.str (.tv 2)), (.str (.tv 3)), (.bool (.bv 0)), (.slc 0 (.nv 0) (.nv 1)), (.slc 1 (.nv 2) (.nv 3))])
@[reducible] def dd8_0_11 : Sy := (.agg [(.str (.tv 4)), (.int .u8 (.iv 5)), (.int .i64 (.iv 6)), (.int .i64 (.iv 7)), (.int .u8 (.iv 8)), (.str (.tv 5)), (.str (.tv 6)), (.str (.tv 7)), (.bool (.bv 1)), (.slc 3 (.nv 6) (.nv 7)), (.slc 4 (.nv 8) (.nv 9))])
@[reducible] def dd8_0_12 : Sy := (.agg [(.str (.tv 0)), (.int .u8 (.iv 1)), (.int .i64 (.iv 2)), (.int .i64 (.iv 3)), (.int .u8 (.iv 4)), (.str (.tv 1)), (.str (.tv 2)), (.str (.tv 3)), (.bool (.bv 0)), (.slc 1 (.nv 2) (.nv 3)), (.slc 2 (.nv 4) (.nv 5))])
@[reducible] def dd8_0_13 : Blk := ⟨0, 71, [(.slc 0 (.nv 0) (.nv 1)), (.str (.tv 0)), (.slc 1 (.nv 2) (.nv 3)), (.slc 2 (.nv 4) (.nv 5)), (.slc 3 (.nv 6) (.nv 7)), (.slc 8 (.nv 14) (.nv 15)), (.slc 9 (.nv 16) (.nv 17))]⟩
@[reducible] def dd8_0_14 : Blk := ⟨0, 71, [(.slc 0 (.nv 0) (.nv 1)), (.str (.tv 0)), (.slc 1 (.nv 2) (.nv 3)), (.slc 2 (.nv 4) (.nv 5)), (.slc 3 (.nv 6) (.nv 7)), (.slc 4 (.nv 8) (.nv 9)), (.slc 5 (.nv 10) (.nv 11))]⟩
@[reducible] def dd8_0_15 : Sy := (.agg [(.str (.tv 2)), (.slc 6 (.nv 12) (.nv 13)), (.slc 7 (.nv 14) (.nv 15)), (.slc 8 (.nv 16) (.nv 17))])
@[reducible] def dd8_0_16 : RowS := ⟨(.slc 7 (.bin .add (.nv 9) (.nv 11)) (.nv 13)), (.bin .add (.nv 9) (.nv 11)), 41, 4, [(.l 1), (.l 2)]⟩
@[reducible] def dd8_0_17 : Sy := (.agg [(.str (.tv 0)), (.slc 0 (.nv 0) (.nv 1)), (.slc 1 (.nv 2) (.nv 3)), (.slc 2 (.nv 4) (.nv 5))])
@[reducible] def dd8_0_18 : RowS := ⟨(.slc 5 (.bin .add (.nv 6) (.nv 8)) (.nv 10)), (.bin .add (.nv 6) (.nv 8)), 41, 4, [(.l 0), (.l 1)]⟩
@[reducible] def dd8_0_19 : Sy := (.agg [(.str (.tv 0)), (.slc 1 (.nv 2) (.nv 3)), (.slc 2 (.nv 4) (.nv 5)), (.slc 3 (.nv 6) (.nv 7))])
@[reducible] def dd8_0_20 : Sy := (.agg [(.str (.tv 1)), (.slc 1 (.nv 2) (.nv 3)), (.slc 2 (.nv 4) (.nv 5)), (.slc 3 (.nv 6) (.nv 7))])
@[reducible] def dd8_0_21 : Blk := ⟨1, 33, [(.int .i64 (.iv 1)), (.int .i64 (.iv 2)), (.str (.tv 1)), (.bool (.bv 0))]⟩
@[reducible] def t_around_1 : Tree := (.br (.bin .band (.bin .le (.il 0) (.iv 1)) (.bin .lt (.iv 1) (.iv 0))) (.ret (.int .i64 (.iv 1)) [] [] []) (.ret (.int .i64 (.il (-1))) [] [] []))
@[reducible] def t_around : Tree :=
(.new (.chk (.sm 1) (.chk (.bin .le (.il 0) (.iv 0)) (.chk (.bin .lt (.iv 0) (.nv 2)) (.look 3 (.elt 1 (.iv 0) 11 2) (.int .i64 (.iv 1)) kk0 t_around_1)))))
theorem x_around : xfn Tryz.prog kc Tryz.f45 [dd8_0_17, (.int .i64 (.iv 0))] [] [] ⟨1, 6, 0, 1, 0, 3, 0, 0⟩ = some t_around := by kernel_rfl
theorem vc_around (i0 : Int) (n0 n1 n2 n3 n4 n5 : Nat) (t0 : ByteArray) (a0 a1 a2 : Option Addr) (W : Wd) (R : Ending → World → Prop) (h : t_around.den Tryz.prog W.w.heap.size R [] { I := [i0], N := [n0, n1, n2, n3, n4, n5], T := [t0], A := [a0, a1, a2] } W) : CallsE Tryz.prog 45 #[.agg #[.string t0, .slice a0 n0 n1, .slice a1 n2 n3, .slice a2 n4 n5], .int .i64 i0] W R :=
 fn_calls Tryz.func45 _ _ { I := [i0], N := [n0, n1, n2, n3, n4, n5], T := [t0], A := [a0, a1, a2] } _ x_around (fun v hv => by cases hv) h
@[reducible] def t_vkind_1 : Tree := (.chk (.sm 1) (.chk (.bin .le (.il 0) (.iv 0)) (.chk (.bin .lt (.iv 0) (.nv 2)) (.look 5 (.elt 1 (.iv 0) 11 1) (.int .u8 (.iv 1)) kk0 (.ret (.int .u8 (.iv 1)) [] [] [])))))
@[reducible] def t_vkind : Tree :=
(.new (.br (.bin .lt (.iv 0) (.il 0)) (.ret (.int .u8 (.il 0)) [] [] []) t_vkind_1))
theorem x_vkind : xfn Tryz.prog kc Tryz.f46 [dd8_0_17, (.int .i64 (.iv 0))] [] [] ⟨1, 6, 0, 1, 0, 3, 0, 0⟩ = some t_vkind := by kernel_rfl
theorem vc_vkind (i0 : Int) (n0 n1 n2 n3 n4 n5 : Nat) (t0 : ByteArray) (a0 a1 a2 : Option Addr) (W : Wd) (R : Ending → World → Prop) (h : t_vkind.den Tryz.prog W.w.heap.size R [] { I := [i0], N := [n0, n1, n2, n3, n4, n5], T := [t0], A := [a0, a1, a2] } W) : CallsE Tryz.prog 46 #[.agg #[.string t0, .slice a0 n0 n1, .slice a1 n2 n3, .slice a2 n4 n5], .int .i64 i0] W R :=
 fn_calls Tryz.func46 _ _ { I := [i0], N := [n0, n1, n2, n3, n4, n5], T := [t0], A := [a0, a1, a2] } _ x_vkind (fun v hv => by cases hv) h
@[reducible] def t_vseen_1 : Tree := (.again 0 [(.slc 7 (.bin .add (.nv 9) (.nv 11)) (.nv 13)), (.int .i64 (.iv 4))] [dd8_0_16])
@[reducible] def t_vseen_2 : Tree := (.chk (.bin .le (.bin .add (.nv 9) (.nv 11)) (.il 2932031007402)) (.cells 6 (.nv 11) (.nv 12) 4 [⟨(.slc 5 (.nv 9) (.nv 10)), (.nv 9), 41, 4, [(.l 1)]⟩] (.app (.bin .add (.nv 9) (.nv 11)) (.call 45 [dd8_0_17, (.int .i64 (.iv 3))] [] [dd8_0_16] [] (.int .i64 (.iv 4)) kk0 t_vseen_1))))
@[reducible] def t_vseen_3 : Tree := (.chk (.bin .lt (.iv 3) (.nv 2)) (.look 22 (.elt 1 (.iv 3) 11 9) (.slc 6 (.nv 11) (.nv 12)) kk2 t_vseen_2))
@[reducible] def t_vseen_4 : Tree := (.chk (.bin .le (.bin .add (.nv 9) (.nv 0)) (.il 2932031007402)) (.cells 0 (.nv 0) (.nv 1) 4 [⟨(.slc 5 (.nv 9) (.nv 10)), (.nv 9), 41, 4, [(.l 1)]⟩] (.app (.bin .add (.nv 9) (.nv 0)) (.ret (.slc 6 (.bin .add (.nv 9) (.nv 0)) (.nv 11)) [] [] [⟨(.slc 6 (.bin .add (.nv 9) (.nv 0)) (.nv 11)), (.bin .add (.nv 9) (.nv 0)), 41, 4, [(.l 1), (.l 2)]⟩]))))
@[reducible] def t_vseen_5 : Tree := (.chk (.bin .le (.nv 6) (.il 2932031007402)) (.cells 3 (.nv 6) (.nv 7) 4 [] (.app (.nv 6) (.loop [(.slc 4 (.nv 6) (.nv 8)), (.int .i64 (.iv 1))] [⟨(.slc 4 (.nv 6) (.nv 8)), (.nv 6), 41, 4, [(.l 0)]⟩] [(.slc 5 (.nv 9) (.nv 10)), (.int .i64 (.iv 3))] [⟨(.slc 5 (.nv 9) (.nv 10)), (.nv 9), 41, 4, [(.l 1)]⟩] kk7 (.br (.bin .le (.il 0) (.iv 3)) t_vseen_3 t_vseen_4)))))
@[reducible] def t_vseen_6 : Tree := (.look 22 (.elt 1 (.iv 0) 11 9) (.slc 3 (.nv 6) (.nv 7)) kk2 t_vseen_5)
@[reducible] def t_vseen_7 : Tree := (.again 0 [(.slc 5 (.bin .add (.nv 6) (.nv 8)) (.nv 10)), (.int .i64 (.iv 6))] [dd8_0_18])
@[reducible] def t_vseen_8 : Tree := (.chk (.bin .le (.bin .add (.nv 6) (.nv 8)) (.il 2932031007402)) (.cells 4 (.nv 8) (.nv 9) 4 [⟨(.slc 3 (.nv 6) (.nv 7)), (.nv 6), 41, 4, [(.l 0)]⟩] (.app (.bin .add (.nv 6) (.nv 8)) (.call 45 [dd8_0_17, (.int .i64 (.iv 5))] [] [dd8_0_18] [] (.int .i64 (.iv 6)) kk0 t_vseen_7))))
@[reducible] def t_vseen_9 : Tree := (.chk (.bin .lt (.iv 5) (.nv 2)) (.look 22 (.elt 1 (.iv 5) 11 9) (.slc 4 (.nv 8) (.nv 9)) kk2 t_vseen_8))
@[reducible] def t_vseen_10 : Tree := (.chk (.bin .le (.bin .add (.nv 6) (.nv 0)) (.il 2932031007402)) (.cells 0 (.nv 0) (.nv 1) 4 [⟨(.slc 3 (.nv 6) (.nv 7)), (.nv 6), 41, 4, [(.l 0)]⟩] (.app (.bin .add (.nv 6) (.nv 0)) (.ret (.slc 4 (.bin .add (.nv 6) (.nv 0)) (.nv 8)) [] [] [⟨(.slc 4 (.bin .add (.nv 6) (.nv 0)) (.nv 8)), (.bin .add (.nv 6) (.nv 0)), 41, 4, [(.l 0), (.l 1)]⟩]))))
@[reducible] def t_vseen_11 : Tree := (.loop [.nils, (.int .i64 (.iv 4))] [⟨.nils, (.il 0), 41, 4, []⟩] [(.slc 3 (.nv 6) (.nv 7)), (.int .i64 (.iv 5))] [⟨(.slc 3 (.nv 6) (.nv 7)), (.nv 6), 41, 4, [(.l 0)]⟩] kk7 (.br (.bin .le (.il 0) (.iv 5)) t_vseen_9 t_vseen_10))
@[reducible] def t_vseen_12 : Tree := (.call 45 [dd8_0_17, (.int .i64 (.iv 1))] [] [] [] (.int .i64 (.iv 4)) kk0 t_vseen_11)
@[reducible] def t_vseen_13 : Tree := (.again 0 [(.slc 5 (.bin .add (.nv 6) (.nv 8)) (.nv 10)), (.int .i64 (.iv 5))] [dd8_0_18])
@[reducible] def t_vseen_14 : Tree := (.chk (.bin .le (.bin .add (.nv 6) (.nv 8)) (.il 2932031007402)) (.cells 4 (.nv 8) (.nv 9) 4 [⟨(.slc 3 (.nv 6) (.nv 7)), (.nv 6), 41, 4, [(.l 0)]⟩] (.app (.bin .add (.nv 6) (.nv 8)) (.call 45 [dd8_0_17, (.int .i64 (.iv 4))] [] [dd8_0_18] [] (.int .i64 (.iv 5)) kk0 t_vseen_13))))
@[reducible] def t_vseen_15 : Tree := (.chk (.bin .lt (.iv 4) (.nv 2)) (.look 22 (.elt 1 (.iv 4) 11 9) (.slc 4 (.nv 8) (.nv 9)) kk2 t_vseen_14))
@[reducible] def t_vseen_16 : Tree := (.loop [.nils, (.int .i64 (.iv 1))] [⟨.nils, (.il 0), 41, 4, []⟩] [(.slc 3 (.nv 6) (.nv 7)), (.int .i64 (.iv 4))] [⟨(.slc 3 (.nv 6) (.nv 7)), (.nv 6), 41, 4, [(.l 0)]⟩] kk7 (.br (.bin .le (.il 0) (.iv 4)) t_vseen_15 t_vseen_10))
@[reducible] def t_vseen_17 : Tree := (.call 46 [dd8_0_17, (.int .i64 (.iv 1))] [] [] [] (.int .u8 (.iv 3)) kk0 (.br (.bin .ieq (.iv 3) (.il 13)) t_vseen_12 t_vseen_16))
@[reducible] def t_vseen_18 : Tree := (.again 0 [(.slc 5 (.bin .add (.nv 6) (.nv 8)) (.nv 10)), (.int .i64 (.iv 4))] [dd8_0_18])
@[reducible] def t_vseen_19 : Tree := (.chk (.bin .le (.bin .add (.nv 6) (.nv 8)) (.il 2932031007402)) (.cells 4 (.nv 8) (.nv 9) 4 [⟨(.slc 3 (.nv 6) (.nv 7)), (.nv 6), 41, 4, [(.l 0)]⟩] (.app (.bin .add (.nv 6) (.nv 8)) (.call 45 [dd8_0_17, (.int .i64 (.iv 3))] [] [dd8_0_18] [] (.int .i64 (.iv 4)) kk0 t_vseen_18))))
@[reducible] def t_vseen_20 : Tree := (.chk (.bin .lt (.iv 3) (.nv 2)) (.look 22 (.elt 1 (.iv 3) 11 9) (.slc 4 (.nv 8) (.nv 9)) kk2 t_vseen_19))
@[reducible] def t_vseen_21 : Tree := (.loop [.nils, (.int .i64 (.iv 1))] [⟨.nils, (.il 0), 41, 4, []⟩] [(.slc 3 (.nv 6) (.nv 7)), (.int .i64 (.iv 3))] [⟨(.slc 3 (.nv 6) (.nv 7)), (.nv 6), 41, 4, [(.l 0)]⟩] kk7 (.br (.bin .le (.il 0) (.iv 3)) t_vseen_20 t_vseen_10))
@[reducible] def t_vseen_22 : Tree := (.br (.bin .ieq (.iv 2) (.il 12)) t_vseen_6 (.br (.bin .ieq (.iv 2) (.il 1)) t_vseen_17 t_vseen_21))
@[reducible] def t_vseen_23 : Tree := (.chk (.sm 1) (.look 5 (.elt 1 (.iv 0) 11 1) (.int .u8 (.iv 2)) kk0 t_vseen_22))
@[reducible] def t_vseen_24 : Tree := (.call 45 [dd8_0_17, (.int .i64 (.iv 0))] [] [] [] (.int .i64 (.iv 1)) kk0 t_vseen_23)
@[reducible] def t_vseen_25 : Tree := (.chk (.bin .le (.nv 0) (.il 2932031007402)) (.cells 0 (.nv 0) (.nv 1) 4 [] (.app (.nv 0) (.ret (.slc 3 (.nv 0) (.nv 6)) [] [] [⟨(.slc 3 (.nv 0) (.nv 6)), (.nv 0), 41, 4, [(.l 0)]⟩]))))
@[reducible] def t_vseen : Tree :=
(.new (.br (.bin .band (.bin .le (.il 0) (.iv 0)) (.bin .lt (.iv 0) (.nv 2))) t_vseen_24 t_vseen_25))
theorem x_vseen : xfn Tryz.prog { kc with loops := [⟨9, [.row 5 22, .tm 6]⟩] } Tryz.f18 [dd8_0_17, (.int .i64 (.iv 0))] [] [] ⟨1, 6, 0, 1, 0, 3, 0, 0⟩ = some t_vseen := by kernel_rfl
theorem vc_vseen (i0 : Int) (n0 n1 n2 n3 n4 n5 : Nat) (t0 : ByteArray) (a0 a1 a2 : Option Addr) (W : Wd) (R : Ending → World → Prop) (h : t_vseen.den Tryz.prog W.w.heap.size R [] { I := [i0], N := [n0, n1, n2, n3, n4, n5], T := [t0], A := [a0, a1, a2] } W) : CallsE Tryz.prog 18 #[.agg #[.string t0, .slice a0 n0 n1, .slice a1 n2 n3, .slice a2 n4 n5], .int .i64 i0] W R :=
 fn_calls Tryz.func18 _ _ { I := [i0], N := [n0, n1, n2, n3, n4, n5], T := [t0], A := [a0, a1, a2] } _ x_vseen (fun v hv => by cases hv) h
@[reducible] def t_link : Tree :=
(.new (.ret (.bool (.bin .band (.bin .ieq (.iv 0) (.iv 4)) (.bin .ieq (.iv 3) (.il 6)))) [] [] []))
theorem x_link : xfn Tryz.prog kc Tryz.f63 [dd8_0_10, (.int .u8 (.iv 4))] [] [] ⟨5, 4, 1, 4, 0, 2, 0, 0⟩ = some t_link := by kernel_rfl
theorem vc_link (i0 i1 i2 i3 i4 : Int) (n0 n1 n2 n3 : Nat) (b0 : Bool) (t0 t1 t2 t3 : ByteArray) (a0 a1 : Option Addr) (W : Wd) (R : Ending → World → Prop) (h : t_link.den Tryz.prog W.w.heap.size R [] { I := [i0, i1, i2, i3, i4], N := [n0, n1, n2, n3], B := [b0], T := [t0, t1, t2, t3], A := [a0, a1] } W) : CallsE Tryz.prog 63 #[.agg #[.string t0, .int .u8 i0, .int .i64 i1, .int .i64 i2, .int .u8 i3, .string t1, .string t2, .string t3, .bool b0, .slice a0 n0 n1, .slice a1 n2 n3], .int .u8 i4] W R :=
 fn_calls Tryz.func63 _ _ { I := [i0, i1, i2, i3, i4], N := [n0, n1, n2, n3], B := [b0], T := [t0, t1, t2, t3], A := [a0, a1] } _ x_link (fun v hv => by cases hv) h
@[reducible] def t_pl1 : Tree :=
(.new (.ret (.bool (.bin .teq (.tv 0) (.tv 4))) [] [] []))
theorem x_pl1 : xfn Tryz.prog kc Tryz.f61 [dd8_0_10, (.ptr 0 0)] [] [dd8_0_8] ⟨8, 8, 2, 8, 0, 4, 1, 0⟩ = some t_pl1 := by kernel_rfl
theorem vc_pl1 (i0 i1 i2 i3 i4 i5 i6 i7 : Int) (n0 n1 n2 n3 n4 n5 n6 n7 : Nat) (b0 b1 : Bool) (t0 t1 t2 t3 t4 t5 t6 t7 : ByteArray) (a0 a1 a2 a3 : Option Addr) (m0 : Nat) (W : Wd) (R : Ending → World → Prop) (hm0 : W.w.heap[m0]? = some (.cells #[.string t4, .int .u8 i4, .int .i64 i5, .int .i64 i6, .int .u8 i7, .string t5, .string t6, .string t7, .bool b1, .slice a2 n4 n5, .slice a3 n6 n7] 25)) (Im0 : W.I m0) (h : t_pl1.den Tryz.prog W.w.heap.size R [] { I := [i0, i1, i2, i3, i4, i5, i6, i7], N := [n0, n1, n2, n3, n4, n5, n6, n7], B := [b0, b1], T := [t0, t1, t2, t3, t4, t5, t6, t7], A := [a0, a1, a2, a3], M := [m0] } W) : CallsE Tryz.prog 61 #[.agg #[.string t0, .int .u8 i0, .int .i64 i1, .int .i64 i2, .int .u8 i3, .string t1, .string t2, .string t3, .bool b0, .slice a0 n0 n1, .slice a1 n2 n3], .pointer (some ⟨m0, 0, none⟩)] W R :=
 fn_calls_ro Tryz.func61 _ _ [dd8_0_8] { I := [i0, i1, i2, i3, i4, i5, i6, i7], N := [n0, n1, n2, n3, n4, n5, n6, n7], B := [b0, b1], T := [t0, t1, t2, t3, t4, t5, t6, t7], A := [a0, a1, a2, a3], M := [m0] } _ x_pl1 (fun v hv => by cases hv) (fun b hb => by simp only [List.mem_cons, List.not_mem_nil, or_false] at hb; rcases hb with rfl <;> (first | exact hm0)) (fun b hb => by simp only [List.mem_cons, List.not_mem_nil, or_false] at hb; rcases hb with rfl <;> (first | exact Im0)) h
@[reducible] def t_ixn_1 : Tree := (.br (.bv 2) (.ret (.int .i64 (.iv 4)) [] [] []) (.again 0 [(.int .i64 (.un (.wrap .i64) (.bin .add (.iv 4) (.il 1))))] []))
@[reducible] def t_ixn_2 : Tree := (.call 61 [dd8_0_11, (.ptr 0 0)] [dd8_0_9] [] [] (.bool (.bv 2)) kk1 t_ixn_1)
@[reducible] def t_ixn_3 : Tree := (.chk (.sm 0) (.chk (.bin .le (.il 0) (.iv 4)) (.look 25 (.elt 0 (.iv 4) 11 0) dd8_0_11 kk4 t_ixn_2)))
@[reducible] def t_ixn : Tree :=
(.loop [(.int .i64 (.il 0))] [] [(.int .i64 (.iv 4))] [] kk0 (.br (.bin .lt (.iv 4) (.nv 0)) t_ixn_3 (.ret (.int .i64 (.il (-1))) [] [] [])))
theorem x_ixn : xfn Tryz.prog { kc with loops := [⟨2, [.tm 8]⟩] } Tryz.f117 [(.slc 0 (.nv 0) (.nv 1)), (.fn 61 [(.ptr 0 0)])] [] [dd8_0_9] ⟨4, 6, 1, 4, 0, 3, 1, 0⟩ = some t_ixn := by kernel_rfl
theorem vc_ixn (i0 i1 i2 i3 : Int) (n0 n1 n2 n3 n4 n5 : Nat) (b0 : Bool) (t0 t1 t2 t3 : ByteArray) (a0 a1 a2 : Option Addr) (m0 : Nat) (W : Wd) (R : Ending → World → Prop) (hm0 : W.w.heap[m0]? = some (.cells #[.string t0, .int .u8 i0, .int .i64 i1, .int .i64 i2, .int .u8 i3, .string t1, .string t2, .string t3, .bool b0, .slice a1 n2 n3, .slice a2 n4 n5] 25)) (Im0 : W.I m0) (h : t_ixn.den Tryz.prog W.w.heap.size R [] { I := [i0, i1, i2, i3], N := [n0, n1, n2, n3, n4, n5], B := [b0], T := [t0, t1, t2, t3], A := [a0, a1, a2], M := [m0] } W) : CallsE Tryz.prog 117 #[.slice a0 n0 n1, .func (.func 61) #[] #[.pointer (some ⟨m0, 0, none⟩)]] W R :=
 fn_calls_ro Tryz.func117 _ _ [dd8_0_9] { I := [i0, i1, i2, i3], N := [n0, n1, n2, n3, n4, n5], B := [b0], T := [t0, t1, t2, t3], A := [a0, a1, a2], M := [m0] } _ x_ixn (fun v hv => by cases hv) (fun b hb => by simp only [List.mem_cons, List.not_mem_nil, or_false] at hb; rcases hb with rfl <;> (first | exact hm0)) (fun b hb => by simp only [List.mem_cons, List.not_mem_nil, or_false] at hb; rcases hb with rfl <;> (first | exact Im0)) h
@[reducible] def t_ctn : Tree :=
(.call 117 [(.slc 0 (.nv 0) (.nv 1)), (.fn 61 [(.ptr 0 0)])] [dd8_0_9] [] [] (.int .i64 (.iv 4)) kk0 (.ret (.bool (.bin .le (.il 0) (.iv 4))) [] [] []))
theorem x_ctn : xfn Tryz.prog kc Tryz.f60 [(.slc 0 (.nv 0) (.nv 1)), (.fn 61 [(.ptr 0 0)])] [] [dd8_0_9] ⟨4, 6, 1, 4, 0, 3, 1, 0⟩ = some t_ctn := by kernel_rfl
theorem vc_ctn (i0 i1 i2 i3 : Int) (n0 n1 n2 n3 n4 n5 : Nat) (b0 : Bool) (t0 t1 t2 t3 : ByteArray) (a0 a1 a2 : Option Addr) (m0 : Nat) (W : Wd) (R : Ending → World → Prop) (hm0 : W.w.heap[m0]? = some (.cells #[.string t0, .int .u8 i0, .int .i64 i1, .int .i64 i2, .int .u8 i3, .string t1, .string t2, .string t3, .bool b0, .slice a1 n2 n3, .slice a2 n4 n5] 25)) (Im0 : W.I m0) (h : t_ctn.den Tryz.prog W.w.heap.size R [] { I := [i0, i1, i2, i3], N := [n0, n1, n2, n3, n4, n5], B := [b0], T := [t0, t1, t2, t3], A := [a0, a1, a2], M := [m0] } W) : CallsE Tryz.prog 60 #[.slice a0 n0 n1, .func (.func 61) #[] #[.pointer (some ⟨m0, 0, none⟩)]] W R :=
 fn_calls_ro Tryz.func60 _ _ [dd8_0_9] { I := [i0, i1, i2, i3], N := [n0, n1, n2, n3, n4, n5], B := [b0], T := [t0, t1, t2, t3], A := [a0, a1, a2], M := [m0] } _ x_ctn (fun v hv => by cases hv) (fun b hb => by simp only [List.mem_cons, List.not_mem_nil, or_false] at hb; rcases hb with rfl <;> (first | exact hm0)) (fun b hb => by simp only [List.mem_cons, List.not_mem_nil, or_false] at hb; rcases hb with rfl <;> (first | exact Im0)) h
@[reducible] def t_places_1 : Tree := (.ret (.bool (.bl false)) [dd8_0_14] [] [])
@[reducible] def t_places_2 : Tree := (.frz [dd8_0_2] (.again 0 [(.int .i64 (.un (.wrap .i64) (.bin .add (.iv 0) (.il 1))))] []))
@[reducible] def t_places_3 : Tree := (.callq 17 [(.int .u8 (.iv 6))] [] [] (.bool (.bv 2)) kk1 (.grow (.br (.un .not (.bv 2)) t_places_1 t_places_2)))
@[reducible] def t_places_4 : Tree := (.chk (.bin .bor (.un .not (.bin .band (.bin .ieq (.iv 2) (.iv 5)) (.bin .le (.il 0) (.iv 2)))) (.bin .le (.il 0) (.iv 2))) (.chk (.bin .bor (.un .not (.bin .band (.bin .ieq (.iv 2) (.iv 5)) (.bin .le (.il 0) (.iv 2)))) (.bin .lt (.iv 2) (.nv 4))) (.br (.bin .band (.bin .ieq (.iv 2) (.iv 5)) (.bin .le (.il 0) (.iv 2))) (.look 5 (.elt 2 (.iv 2) 11 1) (.int .u8 (.iv 6)) kk0 t_places_3) (.grow (.br (.un .not (.bin .ieq (.iv 2) (.iv 5))) t_places_1 t_places_2)))))
@[reducible] def t_places_5 : Tree := (.callq 45 [dd8_0_19, (.int .i64 (.iv 0))] [] [] (.int .i64 (.iv 5)) kk0 t_places_4)
@[reducible] def t_places_6 : Tree := (.new (.wr (.chk (.bin .le (.iv 0) (.nv 5)) (.sub 2 (.il 0) (.iv 0) (.nv 5) 11 (.call 60 [(.slc 8 (.nv 16) (.nv 5)), (.fn 61 [(.ptr 1 0)])] [dd8_0_2] [] [] (.bool (.bv 1)) kk1 (.br (.bv 1) t_places_1 t_places_5))))))
@[reducible] def t_places_7 : Tree := (.chk (.sm 2) (.chk (.bin .le (.il 0) (.iv 0)) (.look 25 (.elt 2 (.iv 0) 11 0) dd8_0_7 kk4 t_places_6)))
@[reducible] def t_places_8 : Tree := (.frz [⟨1, 25, [(.str (.tv 1)), (.int .u8 (.iv 2)), (.int .i64 (.iv 3)), (.int .i64 (.iv 4)), (.int .u8 (.iv 5)), (.str (.tv 2)), (.str (.tv 3)), (.str (.tv 4)), (.bool (.bv 0)), (.slc 6 (.nv 12) (.nv 13)), (.slc 7 (.nv 14) (.nv 15))]⟩] (.again 1 [(.int .i64 (.un (.wrap .i64) (.bin .add (.iv 1) (.il 1))))] []))
@[reducible] def t_places_9 : Tree := (.look 3 (.elt 2 (.iv 4) 11 2) (.int .i64 (.iv 7)) kk0 (.grow (.br (.un .not (.bin .ieq (.iv 7) (.iv 3))) t_places_1 t_places_8)))
@[reducible] def t_places_10 : Tree := (.grow (.ret (.bool (.bl false)) [dd8_0_14] [] []))
@[reducible] def t_places_11 : Tree := (.callq 62 [(.int .u8 (.iv 6))] [] [] (.bool (.bv 1)) kk1 (.br (.bv 1) t_places_9 t_places_10))
@[reducible] def t_places_12 : Tree := (.chk (.bin .bor (.bin .le (.nv 4) (.iv 4)) (.bin .le (.il 0) (.iv 4))) (.chk (.bin .bor (.bin .le (.nv 4) (.iv 4)) (.bin .lt (.iv 4) (.nv 4))) (.br (.un .not (.bin .le (.nv 4) (.iv 4))) (.look 5 (.elt 2 (.iv 4) 11 1) (.int .u8 (.iv 6)) kk0 t_places_11) t_places_10)))
@[reducible] def t_places_13 : Tree := (.chk (.sm 2) (.chk (.bin .le (.il 0) (.iv 1)) (.look 25 (.elt 2 (.iv 1) 11 0) (.agg [(.str (.tv 1)), (.int .u8 (.iv 2)), (.int .i64 (.iv 3)), (.int .i64 (.iv 4)), (.int .u8 (.iv 5)), (.str (.tv 2)), (.str (.tv 3)), (.str (.tv 4)), (.bool (.bv 0)), (.slc 6 (.nv 12) (.nv 13)), (.slc 7 (.nv 14) (.nv 15))]) kk4 (.new (.wr (.br (.un .not (.bin .ieq (.iv 2) (.il 15))) t_places_8 t_places_12))))))
@[reducible] def t_places_14 : Tree := (.ret (.bool (.bl true)) [dd8_0_14] [] [])
@[reducible] def t_places_15 : Tree := (.loop [(.int .i64 (.il 0))] [] [(.int .i64 (.iv 1))] [] kk0 (.br (.bin .lt (.iv 1) (.nv 4)) t_places_13 t_places_14))
@[reducible] def t_places : Tree :=
(.loop [(.int .i64 (.il 0))] [] [(.int .i64 (.iv 0))] [] kk0 (.br (.bin .lt (.iv 0) (.nv 4)) t_places_7 t_places_15))
theorem x_places : xfn Tryz.prog { kc with loops := [⟨2, [.tm 13]⟩, ⟨10, [.tm 62]⟩] } Tryz.f28 [(.ptr 0 0)] [dd8_0_14] [] kk12 = some t_places := by kernel_rfl
theorem vc_places (n0 n1 n2 n3 n4 n5 n6 n7 n8 n9 n10 n11 : Nat) (t0 : ByteArray) (a0 a1 a2 a3 a4 a5 : Option Addr) (m0 : Nat) (W : Wd) (R : Ending → World → Prop) (hm : W.w.heap[m0]? = some (.cells #[.slice a0 n0 n1, .string t0, .slice a1 n2 n3, .slice a2 n4 n5, .slice a3 n6 n7, .slice a4 n8 n9, .slice a5 n10 n11] 71)) (hI : ¬ W.I m0) (h : t_places.den Tryz.prog W.w.heap.size R [] { N := [n0, n1, n2, n3, n4, n5, n6, n7, n8, n9, n10, n11], T := [t0], A := [a0, a1, a2, a3, a4, a5], M := [m0] } W) : CallsE Tryz.prog 28 #[.pointer (some ⟨m0, 0, none⟩)] W R :=
 fn_calls_mu Tryz.func28 _ _ [dd8_0_14] { N := [n0, n1, n2, n3, n4, n5, n6, n7, n8, n9, n10, n11], T := [t0], A := [a0, a1, a2, a3, a4, a5], M := [m0] } _ x_places (fun v hv => by cases hv) (fun b hb => by simp only [List.mem_singleton] at hb; subst hb; exact hm) (fun b hb => by simp only [List.mem_singleton] at hb; subst hb; exact hI) (List.pairwise_singleton _ _) h
@[reducible] def t_ways_1 : Tree := (.ret (.bool (.bl false)) [dd8_0_13] [] [⟨(.slc 9 (.nv 16) (.nv 17)), (.nv 16), 3, 1, [(.l 1)]⟩, ⟨(.slc 8 (.nv 14) (.nv 15)), (.nv 14), 3, 1, [(.l 0)]⟩])
@[reducible] def t_ways_2 : Tree := (.frz [⟨3, 25, [(.str (.tv 6)), (.int .u8 (.iv 7)), (.int .i64 (.iv 8)), (.int .i64 (.iv 9)), (.int .u8 (.iv 10)), (.str (.tv 7)), (.str (.tv 8)), (.str (.tv 9)), (.bool (.bv 2)), (.slc 12 (.nv 22) (.nv 23)), (.slc 13 (.nv 24) (.nv 25))]⟩, ⟨2, 25, [(.str (.tv 2)), (.int .u8 (.iv 3)), (.int .i64 (.iv 4)), (.int .i64 (.iv 5)), (.int .u8 (.iv 6)), (.str (.tv 3)), (.str (.tv 4)), (.str (.tv 5)), (.bool (.bv 1)), (.slc 10 (.nv 18) (.nv 19)), (.slc 11 (.nv 20) (.nv 21))]⟩, dd8_0_21] (.again 0 [(.int .i64 (.un (.wrap .i64) (.bin .add (.iv 0) (.il 1)))), (.slc 8 (.nv 14) (.nv 15)), (.slc 9 (.nv 16) (.nv 17))] [⟨(.slc 8 (.nv 14) (.nv 15)), (.nv 14), 3, 1, [(.l 2)]⟩, ⟨(.slc 9 (.nv 16) (.nv 17)), (.nv 16), 3, 1, [(.l 3)]⟩]))
@[reducible] def t_ways_3 : Tree := (.chk (.sm 9) (.chk (.bin .lt (.iv 2) (.nv 16)) (.rlook 3 (.elt 9 (.iv 2) 1 0) (.int .i64 (.iv 12)) ⟨(.slc 9 (.nv 16) (.nv 17)), (.nv 16), 3, 1, [(.l 1)]⟩ kk0 (.grow (.rset [(.l 1)] (.iv 2) 0 1 [(.int .i64 (.un (.wrap .i64) (.bin .add (.iv 12) (.il 1))))] t_ways_2)))))
@[reducible] def t_ways_4 : Tree := (.chk (.sm 8) (.chk (.bin .lt (.iv 1) (.nv 14)) (.rlook 3 (.elt 8 (.iv 1) 1 0) (.int .i64 (.iv 11)) ⟨(.slc 8 (.nv 14) (.nv 15)), (.nv 14), 3, 1, [(.l 0)]⟩ kk0 (.grow (.rset [(.l 0)] (.iv 1) 0 1 [(.int .i64 (.un (.wrap .i64) (.bin .add (.iv 11) (.il 1))))] t_ways_3)))))
@[reducible] def t_ways_5 : Tree := (.call 63 [dd8_0_3, (.int .u8 (.il 5))] [] [⟨(.slc 9 (.nv 16) (.nv 17)), (.nv 16), 3, 1, [(.l 1)]⟩, ⟨(.slc 8 (.nv 14) (.nv 15)), (.nv 14), 3, 1, [(.l 0)]⟩] [] (.bool (.bv 4)) kk1 (.br (.bv 4) t_ways_1 t_ways_4))
@[reducible] def t_ways_6 : Tree := (.br (.un .not (.bin .bor (.bin .bor (.bin .bor (.un .not (.bin .ieq (.iv 4) (.iv 8))) (.bv 3)) (.bin .ieq (.iv 3) (.il 2))) (.bin .ieq (.iv 3) (.il 13)))) t_ways_5 t_ways_1)
@[reducible] def t_ways_7 : Tree := (.call 63 [dd8_0_0, (.int .u8 (.il 6))] [] [⟨(.slc 9 (.nv 16) (.nv 17)), (.nv 16), 3, 1, [(.l 1)]⟩, ⟨(.slc 8 (.nv 14) (.nv 15)), (.nv 14), 3, 1, [(.l 0)]⟩] [] (.bool (.bv 3)) kk1 t_ways_6)
@[reducible] def t_ways_8 : Tree := (.grow (.new (.grow (.new (.grow (.wr (.grow (.wr (.br (.un .not (.bin .bor (.bin .bor (.bin .ieq (.iv 7) (.il 1)) (.bin .ieq (.iv 7) (.il 15))) (.bin .ieq (.iv 7) (.il 13)))) t_ways_7 t_ways_1)))))))))
@[reducible] def t_ways_9 : Tree := (.frz [⟨3, 25, [(.str (.tv 2)), (.int .u8 (.iv 3)), (.int .i64 (.iv 4)), (.int .i64 (.iv 5)), (.int .u8 (.iv 6)), (.str (.tv 3)), (.str (.tv 4)), (.str (.tv 5)), (.bool (.bv 1)), (.slc 10 (.nv 18) (.nv 19)), (.slc 11 (.nv 20) (.nv 21))]⟩, ⟨2, 25, [(.str (.tv 6)), (.int .u8 (.iv 7)), (.int .i64 (.iv 8)), (.int .i64 (.iv 9)), (.int .u8 (.iv 10)), (.str (.tv 7)), (.str (.tv 8)), (.str (.tv 9)), (.bool (.bv 2)), (.slc 12 (.nv 22) (.nv 23)), (.slc 13 (.nv 24) (.nv 25))]⟩, dd8_0_21] (.again 0 [(.int .i64 (.un (.wrap .i64) (.bin .add (.iv 0) (.il 1)))), (.slc 8 (.nv 14) (.nv 15)), (.slc 9 (.nv 16) (.nv 17))] [⟨(.slc 8 (.nv 14) (.nv 15)), (.nv 14), 3, 1, [(.l 2)]⟩, ⟨(.slc 9 (.nv 16) (.nv 17)), (.nv 16), 3, 1, [(.l 3)]⟩]))
@[reducible] def t_ways_10 : Tree := (.chk (.sm 9) (.chk (.bin .lt (.iv 2) (.nv 16)) (.rlook 3 (.elt 9 (.iv 2) 1 0) (.int .i64 (.iv 12)) ⟨(.slc 9 (.nv 16) (.nv 17)), (.nv 16), 3, 1, [(.l 1)]⟩ kk0 (.grow (.rset [(.l 1)] (.iv 2) 0 1 [(.int .i64 (.un (.wrap .i64) (.bin .add (.iv 12) (.il 1))))] t_ways_9)))))
@[reducible] def t_ways_11 : Tree := (.chk (.sm 8) (.chk (.bin .lt (.iv 1) (.nv 14)) (.rlook 3 (.elt 8 (.iv 1) 1 0) (.int .i64 (.iv 11)) ⟨(.slc 8 (.nv 14) (.nv 15)), (.nv 14), 3, 1, [(.l 0)]⟩ kk0 (.grow (.rset [(.l 0)] (.iv 1) 0 1 [(.int .i64 (.un (.wrap .i64) (.bin .add (.iv 11) (.il 1))))] t_ways_10)))))
@[reducible] def t_ways_12 : Tree := (.call 63 [dd8_0_3, (.int .u8 (.il 5))] [] [⟨(.slc 9 (.nv 16) (.nv 17)), (.nv 16), 3, 1, [(.l 1)]⟩, ⟨(.slc 8 (.nv 14) (.nv 15)), (.nv 14), 3, 1, [(.l 0)]⟩] [] (.bool (.bv 4)) kk1 (.br (.bv 4) t_ways_1 t_ways_11))
@[reducible] def t_ways_13 : Tree := (.br (.un .not (.bin .bor (.bin .bor (.bin .bor (.un .not (.bin .ieq (.iv 4) (.iv 8))) (.bv 3)) (.bin .ieq (.iv 3) (.il 2))) (.bin .ieq (.iv 3) (.il 13)))) t_ways_12 t_ways_1)
@[reducible] def t_ways_14 : Tree := (.call 63 [dd8_0_0, (.int .u8 (.il 6))] [] [⟨(.slc 9 (.nv 16) (.nv 17)), (.nv 16), 3, 1, [(.l 1)]⟩, ⟨(.slc 8 (.nv 14) (.nv 15)), (.nv 14), 3, 1, [(.l 0)]⟩] [] (.bool (.bv 3)) kk1 t_ways_13)
@[reducible] def t_ways_15 : Tree := (.grow (.new (.grow (.new (.grow (.wr (.grow (.wr (.br (.un .not (.bin .bor (.bin .bor (.bin .ieq (.iv 7) (.il 1)) (.bin .ieq (.iv 7) (.il 15))) (.bin .ieq (.iv 7) (.il 13)))) t_ways_14 t_ways_1)))))))))
@[reducible] def t_ways_16 : Tree := (.chk (.bin .le (.il 0) (.iv 2)) (.chk (.bin .lt (.iv 2) (.nv 4)) (.look 25 (.elt 2 (.iv 2) 11 0) dd8_0_0 kk4 (.both t_ways_8 t_ways_15))))
@[reducible] def t_ways_17 : Tree := (.chk (.sm 2) (.chk (.bin .le (.il 0) (.iv 1)) (.chk (.bin .lt (.iv 1) (.nv 4)) (.look 25 (.elt 2 (.iv 1) 11 0) dd8_0_3 kk4 t_ways_16))))
@[reducible] def t_ways_18 : Tree := (.new (.wr (.grow (.br (.bin .le (.nv 4) (.bin .max (.iv 1) (.iv 2))) t_ways_1 t_ways_17))))
@[reducible] def t_ways_19 : Tree := (.chk (.sm 3) (.chk (.bin .le (.il 0) (.iv 0)) (.look 33 (.elt 3 (.iv 0) 4 0) (.agg [(.int .i64 (.iv 1)), (.int .i64 (.iv 2)), (.str (.tv 1)), (.bool (.bv 0))]) kk9 t_ways_18)))
@[reducible] def t_ways_20 : Tree := (.ret (.bool (.bl true)) [dd8_0_13] [] [⟨(.slc 9 (.nv 16) (.nv 17)), (.nv 16), 3, 1, [(.l 1)]⟩, ⟨(.slc 8 (.nv 14) (.nv 15)), (.nv 14), 3, 1, [(.l 0)]⟩])
@[reducible] def t_ways_21 : Tree := (.chk (.bin .le (.nv 4) (.il 17592186044416)) (.grow (.app (.nv 4) (.grow (.wr (.grow (.wr (.loop [(.int .i64 (.il 0)), (.slc 6 (.nv 4) (.nv 12)), (.slc 7 (.nv 4) (.nv 13))] [⟨(.slc 6 (.nv 4) (.nv 12)), (.nv 4), 3, 1, [(.z (.nv 4))]⟩, ⟨(.slc 7 (.nv 4) (.nv 13)), (.nv 4), 3, 1, [(.z (.nv 4))]⟩] [(.int .i64 (.iv 0)), (.slc 8 (.nv 14) (.nv 15)), (.slc 9 (.nv 16) (.nv 17))] [⟨(.slc 8 (.nv 14) (.nv 15)), (.nv 14), 3, 1, [(.l 0)]⟩, ⟨(.slc 9 (.nv 16) (.nv 17)), (.nv 16), 3, 1, [(.l 1)]⟩] kk19 (.br (.bin .lt (.iv 0) (.nv 6)) t_ways_19 t_ways_20)))))))))
@[reducible] def t_ways_22 : Tree := (.grow (.wr (.chk (.bin .le (.nv 4) (.il 17592186044416)) (.grow (.app (.nv 4) (.grow (.wr (.loop [(.int .i64 (.il 0)), (.slc 6 (.nv 4) (.nv 12)), (.slc 7 (.nv 4) (.nv 13))] [⟨(.slc 6 (.nv 4) (.nv 12)), (.nv 4), 3, 1, [(.z (.nv 4))]⟩, ⟨(.slc 7 (.nv 4) (.nv 13)), (.nv 4), 3, 1, [(.z (.nv 4))]⟩] [(.int .i64 (.iv 0)), (.slc 8 (.nv 14) (.nv 15)), (.slc 9 (.nv 16) (.nv 17))] [⟨(.slc 8 (.nv 14) (.nv 15)), (.nv 14), 3, 1, [(.l 0)]⟩, ⟨(.slc 9 (.nv 16) (.nv 17)), (.nv 16), 3, 1, [(.l 1)]⟩] kk19 (.br (.bin .lt (.iv 0) (.nv 6)) t_ways_19 t_ways_20)))))))))
@[reducible] def t_ways_23 : Tree := (.chk (.bin .le (.nv 4) (.il 17592186044416)) (.grow (.app (.nv 4) (.grow (.both t_ways_21 t_ways_22)))))
@[reducible] def t_ways_24 : Tree := (.chk (.bin .le (.nv 4) (.il 17592186044416)) (.grow (.app (.nv 4) (.both t_ways_21 t_ways_22))))
@[reducible] def t_ways_25 : Tree := (.chk (.bin .le (.nv 4) (.il 17592186044416)) (.grow (.app (.nv 4) (.chk (.bin .le (.nv 4) (.il 17592186044416)) (.grow (.app (.nv 4) (.grow (.wr (.grow (.wr (.loop [(.int .i64 (.il 0)), (.slc 7 (.nv 4) (.nv 13)), (.slc 6 (.nv 4) (.nv 12))] [⟨(.slc 7 (.nv 4) (.nv 13)), (.nv 4), 3, 1, [(.z (.nv 4))]⟩, ⟨(.slc 6 (.nv 4) (.nv 12)), (.nv 4), 3, 1, [(.z (.nv 4))]⟩] [(.int .i64 (.iv 0)), (.slc 8 (.nv 14) (.nv 15)), (.slc 9 (.nv 16) (.nv 17))] [⟨(.slc 8 (.nv 14) (.nv 15)), (.nv 14), 3, 1, [(.l 0)]⟩, ⟨(.slc 9 (.nv 16) (.nv 17)), (.nv 16), 3, 1, [(.l 1)]⟩] kk19 (.br (.bin .lt (.iv 0) (.nv 6)) t_ways_19 t_ways_20))))))))))))
@[reducible] def t_ways_26 : Tree := (.chk (.bin .le (.nv 4) (.il 17592186044416)) (.grow (.app (.nv 4) (.grow (.chk (.bin .le (.nv 4) (.il 17592186044416)) (.grow (.app (.nv 4) (.grow (.wr (.grow (.wr (.loop [(.int .i64 (.il 0)), (.slc 7 (.nv 4) (.nv 13)), (.slc 6 (.nv 4) (.nv 12))] [⟨(.slc 7 (.nv 4) (.nv 13)), (.nv 4), 3, 1, [(.z (.nv 4))]⟩, ⟨(.slc 6 (.nv 4) (.nv 12)), (.nv 4), 3, 1, [(.z (.nv 4))]⟩] [(.int .i64 (.iv 0)), (.slc 8 (.nv 14) (.nv 15)), (.slc 9 (.nv 16) (.nv 17))] [⟨(.slc 8 (.nv 14) (.nv 15)), (.nv 14), 3, 1, [(.l 0)]⟩, ⟨(.slc 9 (.nv 16) (.nv 17)), (.nv 16), 3, 1, [(.l 1)]⟩] kk19 (.br (.bin .lt (.iv 0) (.nv 6)) t_ways_19 t_ways_20)))))))))))))
@[reducible] def t_ways : Tree :=
(.both (.grow (.both t_ways_23 (.grow (.both t_ways_24 t_ways_25)))) (.grow (.both (.grow (.both t_ways_24 t_ways_25)) t_ways_26)))
theorem x_ways : xfn Tryz.prog { kc with loops := [⟨3, [.tm 34, .rowc 0 5 69, .rowc 0 6 69]⟩], rwx := true, musR := [(1, [0]), (7, [2, 3])] } Tryz.f29 [(.ptr 0 0)] [dd8_0_14] [] kk12 = some t_ways := by kernel_rfl
theorem vc_ways (n0 n1 n2 n3 n4 n5 n6 n7 n8 n9 n10 n11 : Nat) (t0 : ByteArray) (a0 a1 a2 a3 a4 a5 : Option Addr) (m0 : Nat) (W : Wd) (R : Ending → World → Prop) (hm : W.w.heap[m0]? = some (.cells #[.slice a0 n0 n1, .string t0, .slice a1 n2 n3, .slice a2 n4 n5, .slice a3 n6 n7, .slice a4 n8 n9, .slice a5 n10 n11] 71)) (hI : ¬ W.I m0) (h : t_ways.den Tryz.prog W.w.heap.size R [] { N := [n0, n1, n2, n3, n4, n5, n6, n7, n8, n9, n10, n11], T := [t0], A := [a0, a1, a2, a3, a4, a5], M := [m0] } W) : CallsE Tryz.prog 29 #[.pointer (some ⟨m0, 0, none⟩)] W R :=
 fn_calls_mu Tryz.func29 _ _ [dd8_0_14] { N := [n0, n1, n2, n3, n4, n5, n6, n7, n8, n9, n10, n11], T := [t0], A := [a0, a1, a2, a3, a4, a5], M := [m0] } _ x_ways (fun v hv => by cases hv) (fun b hb => by simp only [List.mem_singleton] at hb; subst hb; exact hm) (fun b hb => by simp only [List.mem_singleton] at hb; subst hb; exact hI) (List.pairwise_singleton _ _) h
@[reducible] def t_starts_1 : Tree := (.new (.chk (.bin .le (.bin .add (.nv 12) (.il 1)) (.il 925904528653)) (.app (.bin .add (.nv 12) (.il 1)) (.frz [⟨2, 25, [(.str (.tv 1)), (.int .u8 (.iv 2)), (.int .i64 (.iv 3)), (.int .i64 (.iv 4)), (.int .u8 (.iv 5)), (.str (.tv 2)), (.str (.tv 3)), (.str (.tv 4)), (.bool (.bv 0)), (.slc 7 (.nv 14) (.nv 15)), (.slc 8 (.nv 16) (.nv 17))]⟩, dd8_0_4] (.again 0 [(.int .i64 (.un (.wrap .i64) (.bin .add (.iv 1) (.il 1)))), (.slc 9 (.bin .add (.nv 12) (.il 1)) (.nv 18))] [⟨(.slc 9 (.bin .add (.nv 12) (.il 1)) (.nv 18)), (.bin .add (.nv 12) (.il 1)), 25, 11, [(.l 0), (.s (.str (.tv 1))), (.s (.int .u8 (.iv 2))), (.s (.int .i64 (.iv 3))), (.s (.int .i64 (.iv 4))), (.s (.int .u8 (.iv 5))), (.s (.str (.tv 2))), (.s (.str (.tv 3))), (.s (.str (.tv 4))), (.s (.bool (.bv 0))), (.s (.slc 7 (.nv 14) (.nv 15))), (.s (.slc 8 (.nv 16) (.nv 17)))]⟩])))))
@[reducible] def t_starts_2 : Tree := (.frz [dd8_0_4] (.again 0 [(.int .i64 (.un (.wrap .i64) (.bin .add (.iv 1) (.il 1)))), (.slc 6 (.nv 12) (.nv 13))] [⟨(.slc 6 (.nv 12) (.nv 13)), (.nv 12), 25, 11, [(.l 0)]⟩]))
@[reducible] def t_starts_3 : Tree := (.new (.wr (.br (.bin .band (.bin .ieq (.iv 3) (.iv 0)) (.bin .ieq (.iv 2) (.il 1))) t_starts_1 t_starts_2)))
@[reducible] def t_starts_4 : Tree := (.chk (.sm 2) (.chk (.bin .le (.il 0) (.iv 1)) (.look 25 (.elt 2 (.iv 1) 11 0) (.agg [(.str (.tv 1)), (.int .u8 (.iv 2)), (.int .i64 (.iv 3)), (.int .i64 (.iv 4)), (.int .u8 (.iv 5)), (.str (.tv 2)), (.str (.tv 3)), (.str (.tv 4)), (.bool (.bv 0)), (.slc 7 (.nv 14) (.nv 15)), (.slc 8 (.nv 16) (.nv 17))]) kk4 t_starts_3)))
@[reducible] def t_starts_5 : Tree := (.ret (.slc 6 (.nv 12) (.nv 13)) [dd8_0_14] [] [⟨(.slc 6 (.nv 12) (.nv 13)), (.nv 12), 25, 11, [(.l 0)]⟩])
@[reducible] def t_starts : Tree :=
(.loop [(.int .i64 (.il 0)), .nils] [⟨.nils, (.il 0), 25, 11, []⟩] [(.int .i64 (.iv 1)), (.slc 6 (.nv 12) (.nv 13))] [⟨(.slc 6 (.nv 12) (.nv 13)), (.nv 12), 25, 11, [(.l 0)]⟩] kk7 (.br (.bin .lt (.iv 1) (.nv 4)) t_starts_4 t_starts_5))
theorem x_starts : xfn Tryz.prog { kc with loops := [⟨3, [.tm 14, .row 5 28]⟩] } Tryz.f64 [(.ptr 0 0), (.int .i64 (.iv 0))] [dd8_0_14] [] ⟨1, 12, 0, 1, 0, 6, 1, 0⟩ = some t_starts := by kernel_rfl
theorem vc_starts (i0 : Int) (n0 n1 n2 n3 n4 n5 n6 n7 n8 n9 n10 n11 : Nat) (t0 : ByteArray) (a0 a1 a2 a3 a4 a5 : Option Addr) (m0 : Nat) (W : Wd) (R : Ending → World → Prop) (hm : W.w.heap[m0]? = some (.cells #[.slice a0 n0 n1, .string t0, .slice a1 n2 n3, .slice a2 n4 n5, .slice a3 n6 n7, .slice a4 n8 n9, .slice a5 n10 n11] 71)) (hI : ¬ W.I m0) (h : t_starts.den Tryz.prog W.w.heap.size R [] { I := [i0], N := [n0, n1, n2, n3, n4, n5, n6, n7, n8, n9, n10, n11], T := [t0], A := [a0, a1, a2, a3, a4, a5], M := [m0] } W) : CallsE Tryz.prog 64 #[.pointer (some ⟨m0, 0, none⟩), .int .i64 i0] W R :=
 fn_calls_mu Tryz.func64 _ _ [dd8_0_14] { I := [i0], N := [n0, n1, n2, n3, n4, n5, n6, n7, n8, n9, n10, n11], T := [t0], A := [a0, a1, a2, a3, a4, a5], M := [m0] } _ x_starts (fun v hv => by cases hv) (fun b hb => by simp only [List.mem_singleton] at hb; subst hb; exact hm) (fun b hb => by simp only [List.mem_singleton] at hb; subst hb; exact hI) (List.pairwise_singleton _ _) h
@[reducible] def t_linked_1 : Tree := (.frz [dd8_0_2] (.again 0 [(.int .i64 (.un (.wrap .i64) (.bin .add (.iv 0) (.il 1))))] []))
@[reducible] def t_linked_2 : Tree := (.ret (.bool (.bl false)) [dd8_0_14] [] [])
@[reducible] def t_linked_3 : Tree := (.call 63 [dd8_0_7, (.int .u8 (.il 5))] [] [] [] (.bool (.bv 2)) kk1 (.br (.un .not (.bv 2)) t_linked_2 t_linked_1))
@[reducible] def t_linked_4 : Tree := (.br (.bin .band (.bin .band (.bin .ieq (.iv 7) (.il 0)) (.un .not (.bin .bor (.bin .ieq (.iv 1) (.il 15)) (.bin .ieq (.iv 1) (.il 13))))) (.un .not (.bin .ieq (.iv 1) (.il 2)))) t_linked_3 t_linked_1)
@[reducible] def t_linked_5 : Tree := (.chk (.sm 4) (.chk (.bin .lt (.iv 0) (.nv 8)) (.look 3 (.elt 4 (.iv 0) 1 0) (.int .i64 (.iv 7)) kk0 t_linked_4)))
@[reducible] def t_linked_6 : Tree := (.call 63 [dd8_0_7, (.int .u8 (.il 6))] [] [] [] (.bool (.bv 1)) kk1 (.br (.un .not (.bv 1)) t_linked_2 t_linked_5))
@[reducible] def t_linked_7 : Tree := (.call 63 [dd8_0_7, (.int .u8 (.il 5))] [] [] [] (.bool (.bv 1)) kk1 (.br (.un .not (.bv 1)) t_linked_2 t_linked_1))
@[reducible] def t_linked_8 : Tree := (.br (.bin .band (.bin .band (.bin .ieq (.iv 7) (.il 0)) (.un .not (.bin .bor (.bin .ieq (.iv 1) (.il 15)) (.bin .ieq (.iv 1) (.il 13))))) (.un .not (.bin .ieq (.iv 1) (.il 2)))) t_linked_7 t_linked_1)
@[reducible] def t_linked_9 : Tree := (.chk (.sm 4) (.chk (.bin .lt (.iv 0) (.nv 8)) (.look 3 (.elt 4 (.iv 0) 1 0) (.int .i64 (.iv 7)) kk0 t_linked_8)))
@[reducible] def t_linked_10 : Tree := (.br (.bin .band (.bin .band (.bin .ieq (.iv 6) (.il 0)) (.un .not (.bin .bor (.bin .ieq (.iv 1) (.il 15)) (.bin .ieq (.iv 1) (.il 13))))) (.un .not (.bin .ieq (.iv 1) (.il 1)))) t_linked_6 t_linked_9)
@[reducible] def t_linked_11 : Tree := (.chk (.sm 5) (.chk (.bin .lt (.iv 0) (.nv 10)) (.look 3 (.elt 5 (.iv 0) 1 0) (.int .i64 (.iv 6)) kk0 t_linked_10)))
@[reducible] def t_linked_12 : Tree := (.new (.wr (.callq 46 [dd8_0_19, (.int .i64 (.iv 2))] [] [] (.int .u8 (.iv 5)) kk0 (.grow (.br (.bin .ieq (.iv 5) (.il 12)) t_linked_1 t_linked_11)))))
@[reducible] def t_linked_13 : Tree := (.chk (.sm 2) (.chk (.bin .le (.il 0) (.iv 0)) (.look 25 (.elt 2 (.iv 0) 11 0) dd8_0_7 kk4 t_linked_12)))
@[reducible] def t_linked_14 : Tree := (.ret (.bool (.bl true)) [dd8_0_14] [] [])
@[reducible] def t_linked : Tree :=
(.loop [(.int .i64 (.il 0))] [] [(.int .i64 (.iv 0))] [] kk0 (.br (.bin .lt (.iv 0) (.nv 4)) t_linked_13 t_linked_14))
theorem x_linked : xfn Tryz.prog { kc with loops := [⟨2, [.tm 12]⟩] } Tryz.f31 [(.ptr 0 0)] [dd8_0_14] [] kk12 = some t_linked := by kernel_rfl
theorem vc_linked (n0 n1 n2 n3 n4 n5 n6 n7 n8 n9 n10 n11 : Nat) (t0 : ByteArray) (a0 a1 a2 a3 a4 a5 : Option Addr) (m0 : Nat) (W : Wd) (R : Ending → World → Prop) (hm : W.w.heap[m0]? = some (.cells #[.slice a0 n0 n1, .string t0, .slice a1 n2 n3, .slice a2 n4 n5, .slice a3 n6 n7, .slice a4 n8 n9, .slice a5 n10 n11] 71)) (hI : ¬ W.I m0) (h : t_linked.den Tryz.prog W.w.heap.size R [] { N := [n0, n1, n2, n3, n4, n5, n6, n7, n8, n9, n10, n11], T := [t0], A := [a0, a1, a2, a3, a4, a5], M := [m0] } W) : CallsE Tryz.prog 31 #[.pointer (some ⟨m0, 0, none⟩)] W R :=
 fn_calls_mu Tryz.func31 _ _ [dd8_0_14] { N := [n0, n1, n2, n3, n4, n5, n6, n7, n8, n9, n10, n11], T := [t0], A := [a0, a1, a2, a3, a4, a5], M := [m0] } _ x_linked (fun v hv => by cases hv) (fun b hb => by simp only [List.mem_singleton] at hb; subst hb; exact hm) (fun b hb => by simp only [List.mem_singleton] at hb; subst hb; exact hI) (List.pairwise_singleton _ _) h
@[reducible] def t_gates_1 : Tree := (.ret (.bool (.bl false)) [dd8_0_14] [] [⟨(.slc 7 (.nv 13) (.nv 14)), (.nv 13), 3, 1, [(.l 0)]⟩])
@[reducible] def t_gates_2 : Tree := (.ret (.bool (.bl false)) [dd8_0_14] [] [⟨(.slc 7 (.nv 13) (.nv 14)), (.nv 13), 3, 1, [(.l 1)]⟩])
@[reducible] def t_gates_3 : Tree := (.frz [dd8_0_5, dd8_0_21] (.again 0 [(.int .i64 (.un (.wrap .i64) (.bin .add (.iv 0) (.il 1)))), (.slc 7 (.nv 13) (.nv 14))] [⟨(.slc 7 (.nv 13) (.nv 14)), (.nv 13), 3, 1, [(.l 1)]⟩]))
@[reducible] def t_gates_4 : Tree := (.look 3 (.elt 5 (.iv 2) 1 0) (.int .i64 (.iv 10)) kk0 (.grow (.br (.un .not (.bin .ieq (.iv 10) (.il 1))) t_gates_2 t_gates_3)))
@[reducible] def t_gates_5 : Tree := (.grow (.ret (.bool (.bl false)) [dd8_0_14] [] [⟨(.slc 7 (.nv 13) (.nv 14)), (.nv 13), 3, 1, [(.l 1)]⟩]))
@[reducible] def t_gates_6 : Tree := (.chk (.bin .bor (.un .not (.bin .ieq (.iv 9) (.il 6))) (.sm 5)) (.chk (.bin .bor (.un .not (.bin .ieq (.iv 9) (.il 6))) (.bin .lt (.iv 2) (.nv 10))) (.br (.bin .ieq (.iv 9) (.il 6)) t_gates_4 t_gates_5)))
@[reducible] def t_gates_7 : Tree := (.grow (.frz [dd8_0_5, dd8_0_21] (.again 0 [(.int .i64 (.un (.wrap .i64) (.bin .add (.iv 0) (.il 1)))), (.slc 7 (.nv 13) (.nv 14))] [⟨(.slc 7 (.nv 13) (.nv 14)), (.nv 13), 3, 1, [(.l 1)]⟩])))
@[reducible] def t_gates_8 : Tree := (.chk (.bin .bor (.un .not (.bin .ieq (.iv 3) (.il 10))) (.bin .le (.il 0) (.iv 2))) (.chk (.bin .bor (.un .not (.bin .ieq (.iv 3) (.il 10))) (.bin .lt (.iv 2) (.nv 4))) (.br (.bin .ieq (.iv 3) (.il 10)) (.look 5 (.elt 2 (.iv 2) 11 1) (.int .u8 (.iv 9)) kk0 t_gates_6) t_gates_7)))
@[reducible] def t_gates_9 : Tree := (.chk (.sm 7) (.chk (.bin .lt (.iv 1) (.nv 13)) (.rlook 3 (.elt 7 (.iv 1) 1 0) (.int .i64 (.iv 8)) ⟨(.slc 7 (.nv 13) (.nv 14)), (.nv 13), 3, 1, [(.l 0)]⟩ kk0 (.rset [(.l 0)] (.iv 1) 0 1 [(.int .i64 (.un (.wrap .i64) (.bin .add (.iv 8) (.il 1))))] t_gates_8))))
@[reducible] def t_gates_10 : Tree := (.frz [dd8_0_5, dd8_0_21] (.again 0 [(.int .i64 (.un (.wrap .i64) (.bin .add (.iv 0) (.il 1)))), (.slc 7 (.nv 13) (.nv 14))] [⟨(.slc 7 (.nv 13) (.nv 14)), (.nv 13), 3, 1, [(.l 0)]⟩]))
@[reducible] def t_gates_11 : Tree := (.look 3 (.elt 5 (.iv 2) 1 0) (.int .i64 (.iv 9)) kk0 (.grow (.br (.un .not (.bin .ieq (.iv 9) (.il 1))) t_gates_1 t_gates_10)))
@[reducible] def t_gates_12 : Tree := (.grow (.ret (.bool (.bl false)) [dd8_0_14] [] [⟨(.slc 7 (.nv 13) (.nv 14)), (.nv 13), 3, 1, [(.l 0)]⟩]))
@[reducible] def t_gates_13 : Tree := (.chk (.bin .bor (.un .not (.bin .ieq (.iv 8) (.il 6))) (.sm 5)) (.chk (.bin .bor (.un .not (.bin .ieq (.iv 8) (.il 6))) (.bin .lt (.iv 2) (.nv 10))) (.br (.bin .ieq (.iv 8) (.il 6)) t_gates_11 t_gates_12)))
@[reducible] def t_gates_14 : Tree := (.grow (.frz [dd8_0_5, dd8_0_21] (.again 0 [(.int .i64 (.un (.wrap .i64) (.bin .add (.iv 0) (.il 1)))), (.slc 7 (.nv 13) (.nv 14))] [⟨(.slc 7 (.nv 13) (.nv 14)), (.nv 13), 3, 1, [(.l 0)]⟩])))
@[reducible] def t_gates_15 : Tree := (.chk (.bin .bor (.un .not (.bin .ieq (.iv 3) (.il 10))) (.bin .le (.il 0) (.iv 2))) (.chk (.bin .bor (.un .not (.bin .ieq (.iv 3) (.il 10))) (.bin .lt (.iv 2) (.nv 4))) (.br (.bin .ieq (.iv 3) (.il 10)) (.look 5 (.elt 2 (.iv 2) 11 1) (.int .u8 (.iv 8)) kk0 t_gates_13) t_gates_14)))
@[reducible] def t_gates_16 : Tree := (.grow (.br (.un .not (.bin .beq (.bin .lt (.il 1) (.iv 7)) (.bin .bor (.bv 0) (.un .not (.bin .teq (.tv 1) (.tl [])))))) t_gates_1 (.br (.bv 0) t_gates_9 t_gates_15)))
@[reducible] def t_gates_17 : Tree := (.look 3 (.elt 5 (.iv 2) 1 0) (.int .i64 (.iv 9)) kk0 (.grow (.br (.un .not (.bin .ieq (.iv 9) (.il 1))) t_gates_2 t_gates_3)))
@[reducible] def t_gates_18 : Tree := (.chk (.bin .bor (.un .not (.bin .ieq (.iv 8) (.il 6))) (.sm 5)) (.chk (.bin .bor (.un .not (.bin .ieq (.iv 8) (.il 6))) (.bin .lt (.iv 2) (.nv 10))) (.br (.bin .ieq (.iv 8) (.il 6)) t_gates_17 t_gates_5)))
@[reducible] def t_gates_19 : Tree := (.chk (.bin .bor (.un .not (.bin .ieq (.iv 3) (.il 10))) (.bin .le (.il 0) (.iv 2))) (.chk (.bin .bor (.un .not (.bin .ieq (.iv 3) (.il 10))) (.bin .lt (.iv 2) (.nv 4))) (.br (.bin .ieq (.iv 3) (.il 10)) (.look 5 (.elt 2 (.iv 2) 11 1) (.int .u8 (.iv 8)) kk0 t_gates_18) t_gates_7)))
@[reducible] def t_gates_20 : Tree := (.chk (.sm 7) (.chk (.bin .lt (.iv 1) (.nv 13)) (.rlook 3 (.elt 7 (.iv 1) 1 0) (.int .i64 (.iv 7)) ⟨(.slc 7 (.nv 13) (.nv 14)), (.nv 13), 3, 1, [(.l 0)]⟩ kk0 (.rset [(.l 0)] (.iv 1) 0 1 [(.int .i64 (.un (.wrap .i64) (.bin .add (.iv 7) (.il 1))))] t_gates_19))))
@[reducible] def t_gates_21 : Tree := (.look 3 (.elt 5 (.iv 2) 1 0) (.int .i64 (.iv 8)) kk0 (.grow (.br (.un .not (.bin .ieq (.iv 8) (.il 1))) t_gates_1 t_gates_10)))
@[reducible] def t_gates_22 : Tree := (.chk (.bin .bor (.un .not (.bin .ieq (.iv 7) (.il 6))) (.sm 5)) (.chk (.bin .bor (.un .not (.bin .ieq (.iv 7) (.il 6))) (.bin .lt (.iv 2) (.nv 10))) (.br (.bin .ieq (.iv 7) (.il 6)) t_gates_21 t_gates_12)))
@[reducible] def t_gates_23 : Tree := (.chk (.bin .bor (.un .not (.bin .ieq (.iv 3) (.il 10))) (.bin .le (.il 0) (.iv 2))) (.chk (.bin .bor (.un .not (.bin .ieq (.iv 3) (.il 10))) (.bin .lt (.iv 2) (.nv 4))) (.br (.bin .ieq (.iv 3) (.il 10)) (.look 5 (.elt 2 (.iv 2) 11 1) (.int .u8 (.iv 7)) kk0 t_gates_22) t_gates_14)))
@[reducible] def t_gates_24 : Tree := (.grow (.br (.un .not (.bin .beq (.bl false) (.bin .bor (.bv 0) (.un .not (.bin .teq (.tv 1) (.tl [])))))) t_gates_1 (.br (.bv 0) t_gates_20 t_gates_23)))
@[reducible] def t_gates_25 : Tree := (.grow (.new (.grow (.wr (.chk (.bin .bor (.un .not (.bin .bor (.bin .ieq (.iv 3) (.il 7)) (.bin .ieq (.iv 3) (.il 9)))) (.sm 4)) (.chk (.bin .bor (.un .not (.bin .bor (.bin .ieq (.iv 3) (.il 7)) (.bin .ieq (.iv 3) (.il 9)))) (.bin .lt (.iv 1) (.nv 8))) (.br (.bin .bor (.bin .ieq (.iv 3) (.il 7)) (.bin .ieq (.iv 3) (.il 9))) (.look 3 (.elt 4 (.iv 1) 1 0) (.int .i64 (.iv 7)) kk0 t_gates_16) t_gates_24)))))))
@[reducible] def t_gates_26 : Tree := (.new (.wr (.chk (.sm 2) (.chk (.bin .le (.il 0) (.iv 1)) (.chk (.bin .lt (.iv 1) (.nv 4)) (.look 25 (.elt 2 (.iv 1) 11 0) (.agg [(.str (.tv 2)), (.int .u8 (.iv 3)), (.int .i64 (.iv 4)), (.int .i64 (.iv 5)), (.int .u8 (.iv 6)), (.str (.tv 3)), (.str (.tv 4)), (.str (.tv 5)), (.bool (.bv 1)), (.slc 8 (.nv 15) (.nv 16)), (.slc 9 (.nv 17) (.nv 18))]) kk4 t_gates_25))))))
@[reducible] def t_gates_27 : Tree := (.chk (.sm 3) (.chk (.bin .le (.il 0) (.iv 0)) (.look 33 (.elt 3 (.iv 0) 4 0) (.agg [(.int .i64 (.iv 1)), (.int .i64 (.iv 2)), (.str (.tv 1)), (.bool (.bv 0))]) kk9 t_gates_26)))
@[reducible] def t_gates_28 : Tree := (.frz [⟨1, 25, [(.str (.tv 1)), (.int .u8 (.iv 2)), (.int .i64 (.iv 3)), (.int .i64 (.iv 4)), (.int .u8 (.iv 5)), (.str (.tv 2)), (.str (.tv 3)), (.str (.tv 4)), (.bool (.bv 0)), (.slc 8 (.nv 15) (.nv 16)), (.slc 9 (.nv 17) (.nv 18))]⟩] (.again 1 [(.int .i64 (.un (.wrap .i64) (.bin .add (.iv 1) (.il 1))))] []))
@[reducible] def t_gates_29 : Tree := (.look 3 (.elt 4 (.iv 1) 1 0) (.int .i64 (.iv 7)) kk0 (.br (.bin .lt (.iv 7) (.il 2)) t_gates_1 t_gates_28))
@[reducible] def t_gates_30 : Tree := (.new (.wr (.chk (.sm 7) (.chk (.bin .lt (.iv 1) (.nv 13)) (.rlook 3 (.elt 7 (.iv 1) 1 0) (.int .i64 (.iv 6)) ⟨(.slc 7 (.nv 13) (.nv 14)), (.nv 13), 3, 1, [(.l 0)]⟩ kk0 (.chk (.bin .bor (.un .not (.bin .band (.un .not (.bin .lt (.il 1) (.iv 6))) (.bin .ieq (.iv 2) (.il 10)))) (.sm 4)) (.chk (.bin .bor (.un .not (.bin .band (.un .not (.bin .lt (.il 1) (.iv 6))) (.bin .ieq (.iv 2) (.il 10)))) (.bin .lt (.iv 1) (.nv 8))) (.br (.bin .band (.un .not (.bin .lt (.il 1) (.iv 6))) (.bin .ieq (.iv 2) (.il 10))) t_gates_29 (.br (.bin .lt (.il 1) (.iv 6)) t_gates_1 t_gates_28)))))))))
@[reducible] def t_gates_31 : Tree := (.chk (.sm 2) (.chk (.bin .le (.il 0) (.iv 1)) (.look 25 (.elt 2 (.iv 1) 11 0) (.agg [(.str (.tv 1)), (.int .u8 (.iv 2)), (.int .i64 (.iv 3)), (.int .i64 (.iv 4)), (.int .u8 (.iv 5)), (.str (.tv 2)), (.str (.tv 3)), (.str (.tv 4)), (.bool (.bv 0)), (.slc 8 (.nv 15) (.nv 16)), (.slc 9 (.nv 17) (.nv 18))]) kk4 t_gates_30)))
@[reducible] def t_gates_32 : Tree := (.ret (.bool (.bl true)) [dd8_0_14] [] [⟨(.slc 7 (.nv 13) (.nv 14)), (.nv 13), 3, 1, [(.l 0)]⟩])
@[reducible] def t_gates_33 : Tree := (.loop [(.int .i64 (.il 0))] [] [(.int .i64 (.iv 1))] [] kk0 (.br (.bin .lt (.iv 1) (.nv 4)) t_gates_31 t_gates_32))
@[reducible] def t_gates : Tree :=
(.chk (.bin .le (.nv 4) (.il 17592186044416)) (.app (.nv 4) (.loop [(.int .i64 (.il 0)), (.slc 6 (.nv 4) (.nv 12))] [⟨(.slc 6 (.nv 4) (.nv 12)), (.nv 4), 3, 1, [(.z (.nv 4))]⟩] [(.int .i64 (.iv 0)), (.slc 7 (.nv 13) (.nv 14))] [⟨(.slc 7 (.nv 13) (.nv 14)), (.nv 13), 3, 1, [(.l 0)]⟩] kk7 (.br (.bin .lt (.iv 0) (.nv 6)) t_gates_27 t_gates_33))))
theorem x_gates : xfn Tryz.prog { kc with loops := [⟨3, [.tm 23, .row 3 69]⟩, ⟨15, [.tm 107]⟩] } Tryz.f32 [(.ptr 0 0)] [dd8_0_14] [] kk12 = some t_gates := by kernel_rfl
theorem vc_gates (n0 n1 n2 n3 n4 n5 n6 n7 n8 n9 n10 n11 : Nat) (t0 : ByteArray) (a0 a1 a2 a3 a4 a5 : Option Addr) (m0 : Nat) (W : Wd) (R : Ending → World → Prop) (hm : W.w.heap[m0]? = some (.cells #[.slice a0 n0 n1, .string t0, .slice a1 n2 n3, .slice a2 n4 n5, .slice a3 n6 n7, .slice a4 n8 n9, .slice a5 n10 n11] 71)) (hI : ¬ W.I m0) (h : t_gates.den Tryz.prog W.w.heap.size R [] { N := [n0, n1, n2, n3, n4, n5, n6, n7, n8, n9, n10, n11], T := [t0], A := [a0, a1, a2, a3, a4, a5], M := [m0] } W) : CallsE Tryz.prog 32 #[.pointer (some ⟨m0, 0, none⟩)] W R :=
 fn_calls_mu Tryz.func32 _ _ [dd8_0_14] { N := [n0, n1, n2, n3, n4, n5, n6, n7, n8, n9, n10, n11], T := [t0], A := [a0, a1, a2, a3, a4, a5], M := [m0] } _ x_gates (fun v hv => by cases hv) (fun b hb => by simp only [List.mem_singleton] at hb; subst hb; exact hm) (fun b hb => by simp only [List.mem_singleton] at hb; subst hb; exact hI) (List.pairwise_singleton _ _) h
@[reducible] def t_links_1 : Tree := (.frz [dd8_0_2] (.again 0 [(.int .i64 (.un (.wrap .i64) (.bin .add (.iv 0) (.il 1))))] []))
@[reducible] def t_links_2 : Tree := (.frz [dd8_0_1] (.again 1 [(.int .i64 (.un (.wrap .i64) (.bin .add (.iv 5) (.il 1)))), (.int .i64 (.un (.wrap .i64) (.bin .add (.iv 6) (.il 1))))] []))
@[reducible] def t_links_3 : Tree := (.frz [dd8_0_1] (.again 1 [(.int .i64 (.un (.wrap .i64) (.bin .add (.iv 5) (.il 1)))), (.int .i64 (.iv 6))] []))
@[reducible] def t_links_4 : Tree := (.br (.bin .band (.bin .band (.bv 3) (.bin .ieq (.iv 8) (.iv 2))) (.bin .teq (.tv 6) (.tv 2))) t_links_2 t_links_3)
@[reducible] def t_links_5 : Tree := (.new (.wr (.call 63 [dd8_0_6, (.int .u8 (.il 6))] [] [] [] (.bool (.bv 3)) kk1 t_links_4)))
@[reducible] def t_links_6 : Tree := (.chk (.bin .le (.il 0) (.iv 5)) (.look 25 (.elt 2 (.iv 5) 11 0) dd8_0_6 kk4 t_links_5))
@[reducible] def t_links_7 : Tree := (.ret (.bool (.bl false)) [dd8_0_14] [] [])
@[reducible] def t_links_8 : Tree := (.br (.bin .lt (.iv 5) (.nv 4)) t_links_6 (.br (.un .not (.bin .ieq (.iv 6) (.il 1))) t_links_7 t_links_1))
@[reducible] def t_links_9 : Tree := (.loop [(.int .i64 (.il 0)), (.int .i64 (.il 0))] [] [(.int .i64 (.iv 5)), (.int .i64 (.iv 6))] [] kk6 t_links_8)
@[reducible] def t_links_10 : Tree := (.new (.wr (.call 63 [dd8_0_7, (.int .u8 (.il 5))] [] [] [] (.bool (.bv 1)) kk1 (.br (.un .not (.bv 1)) t_links_1 t_links_9))))
@[reducible] def t_links_11 : Tree := (.chk (.sm 2) (.chk (.bin .le (.il 0) (.iv 0)) (.look 25 (.elt 2 (.iv 0) 11 0) dd8_0_7 kk4 t_links_10)))
@[reducible] def t_links_12 : Tree := (.ret (.bool (.bl true)) [dd8_0_14] [] [])
@[reducible] def t_links : Tree :=
(.loop [(.int .i64 (.il 0))] [] [(.int .i64 (.iv 0))] [] kk0 (.br (.bin .lt (.iv 0) (.nv 4)) t_links_11 t_links_12))
theorem x_links : xfn Tryz.prog { kc with loops := [⟨2, [.tm 14]⟩, ⟨7, [.tm 27, .tm 5]⟩] } Tryz.f33 [(.ptr 0 0)] [dd8_0_14] [] kk12 = some t_links := by kernel_rfl
theorem vc_links (n0 n1 n2 n3 n4 n5 n6 n7 n8 n9 n10 n11 : Nat) (t0 : ByteArray) (a0 a1 a2 a3 a4 a5 : Option Addr) (m0 : Nat) (W : Wd) (R : Ending → World → Prop) (hm : W.w.heap[m0]? = some (.cells #[.slice a0 n0 n1, .string t0, .slice a1 n2 n3, .slice a2 n4 n5, .slice a3 n6 n7, .slice a4 n8 n9, .slice a5 n10 n11] 71)) (hI : ¬ W.I m0) (h : t_links.den Tryz.prog W.w.heap.size R [] { N := [n0, n1, n2, n3, n4, n5, n6, n7, n8, n9, n10, n11], T := [t0], A := [a0, a1, a2, a3, a4, a5], M := [m0] } W) : CallsE Tryz.prog 33 #[.pointer (some ⟨m0, 0, none⟩)] W R :=
 fn_calls_mu Tryz.func33 _ _ [dd8_0_14] { N := [n0, n1, n2, n3, n4, n5, n6, n7, n8, n9, n10, n11], T := [t0], A := [a0, a1, a2, a3, a4, a5], M := [m0] } _ x_links (fun v hv => by cases hv) (fun b hb => by simp only [List.mem_singleton] at hb; subst hb; exact hm) (fun b hb => by simp only [List.mem_singleton] at hb; subst hb; exact hI) (List.pairwise_singleton _ _) h
@[reducible] def t_named1 : Tree :=
(.new (.ret (.bool (.bin .teq (.tv 0) (.tv 2))) [] [] []))
theorem x_named1 : xfn Tryz.prog kc Tryz.f118 [(.agg [(.str (.tv 0)), (.int .u8 (.iv 0)), (.int .i64 (.iv 1)), (.str (.tv 1))]), (.ptr 0 0)] [] [⟨0, 9, [(.str (.tv 2))]⟩] ⟨2, 0, 0, 3, 0, 0, 1, 0⟩ = some t_named1 := by kernel_rfl
theorem vc_named1 (i0 i1 : Int) (t0 t1 t2 : ByteArray) (m0 : Nat) (W : Wd) (R : Ending → World → Prop) (hm0 : W.w.heap[m0]? = some (.cells #[.string t2] 9)) (Im0 : W.I m0) (h : t_named1.den Tryz.prog W.w.heap.size R [] { I := [i0, i1], T := [t0, t1, t2], M := [m0] } W) : CallsE Tryz.prog 118 #[.agg #[.string t0, .int .u8 i0, .int .i64 i1, .string t1], .pointer (some ⟨m0, 0, none⟩)] W R :=
 fn_calls_ro Tryz.func118 _ _ [⟨0, 9, [(.str (.tv 2))]⟩] { I := [i0, i1], T := [t0, t1, t2], M := [m0] } _ x_named1 (fun v hv => by cases hv) (fun b hb => by simp only [List.mem_cons, List.not_mem_nil, or_false] at hb; rcases hb with rfl <;> (first | exact hm0)) (fun b hb => by simp only [List.mem_cons, List.not_mem_nil, or_false] at hb; rcases hb with rfl <;> (first | exact Im0)) h
@[reducible] def t_ixnm_1 : Tree := (.br (.bv 0) (.ret (.int .i64 (.iv 0)) [] [] []) (.again 0 [(.int .i64 (.un (.wrap .i64) (.bin .add (.iv 0) (.il 1))))] []))
@[reducible] def t_ixnm_2 : Tree := (.call 118 [(.agg [(.str (.tv 1)), (.int .u8 (.iv 1)), (.int .i64 (.iv 2)), (.str (.tv 2))]), (.ptr 0 0)] [⟨0, 9, [(.str (.tv 0))]⟩] [] [] (.bool (.bv 0)) kk1 t_ixnm_1)
@[reducible] def t_ixnm_3 : Tree := (.chk (.sm 0) (.chk (.bin .le (.il 0) (.iv 0)) (.look 41 (.elt 0 (.iv 0) 4 0) (.agg [(.str (.tv 1)), (.int .u8 (.iv 1)), (.int .i64 (.iv 2)), (.str (.tv 2))]) kk10 t_ixnm_2)))
@[reducible] def t_ixnm : Tree :=
(.loop [(.int .i64 (.il 0))] [] [(.int .i64 (.iv 0))] [] kk0 (.br (.bin .lt (.iv 0) (.nv 0)) t_ixnm_3 (.ret (.int .i64 (.il (-1))) [] [] [])))
theorem x_ixnm : xfn Tryz.prog { kc with loops := [⟨2, [.tm 8]⟩] } Tryz.f112 [(.slc 0 (.nv 0) (.nv 1)), (.fn 118 [(.ptr 0 0)])] [] [⟨0, 9, [(.str (.tv 0))]⟩] kk17 = some t_ixnm := by kernel_rfl
theorem vc_ixnm (n0 n1 : Nat) (t0 : ByteArray) (a0 : Option Addr) (m0 : Nat) (W : Wd) (R : Ending → World → Prop) (hm0 : W.w.heap[m0]? = some (.cells #[.string t0] 9)) (Im0 : W.I m0) (h : t_ixnm.den Tryz.prog W.w.heap.size R [] { N := [n0, n1], T := [t0], A := [a0], M := [m0] } W) : CallsE Tryz.prog 112 #[.slice a0 n0 n1, .func (.func 118) #[] #[.pointer (some ⟨m0, 0, none⟩)]] W R :=
 fn_calls_ro Tryz.func112 _ _ [⟨0, 9, [(.str (.tv 0))]⟩] { N := [n0, n1], T := [t0], A := [a0], M := [m0] } _ x_ixnm (fun v hv => by cases hv) (fun b hb => by simp only [List.mem_cons, List.not_mem_nil, or_false] at hb; rcases hb with rfl <;> (first | exact hm0)) (fun b hb => by simp only [List.mem_cons, List.not_mem_nil, or_false] at hb; rcases hb with rfl <;> (first | exact Im0)) h
@[reducible] def t_named_1 : Tree := (.chk (.sm 0) (.chk (.bin .le (.il 0) (.iv 0)) (.chk (.bin .lt (.iv 0) (.nv 0)) (.look 5 (.elt 0 (.iv 0) 4 1) (.int .u8 (.iv 1)) kk0 (.ret (.int .u8 (.iv 1)) [] [] [])))))
@[reducible] def t_named : Tree :=
(.new (.call 112 [(.slc 0 (.nv 0) (.nv 1)), (.fn 118 [(.ptr 0 0)])] [⟨0, 9, [(.str (.tv 0))]⟩] [] [] (.int .i64 (.iv 0)) kk0 (.br (.bin .lt (.iv 0) (.il 0)) (.ret (.int .u8 (.il 0)) [] [] []) t_named_1)))
theorem x_named : xfn Tryz.prog kc Tryz.f66 [(.slc 0 (.nv 0) (.nv 1)), (.str (.tv 0))] [] [] ⟨0, 2, 0, 1, 0, 1, 0, 0⟩ = some t_named := by kernel_rfl
theorem vc_named (n0 n1 : Nat) (t0 : ByteArray) (a0 : Option Addr) (W : Wd) (R : Ending → World → Prop) (h : t_named.den Tryz.prog W.w.heap.size R [] { N := [n0, n1], T := [t0], A := [a0] } W) : CallsE Tryz.prog 66 #[.slice a0 n0 n1, .string t0] W R :=
 fn_calls Tryz.func66 _ _ { N := [n0, n1], T := [t0], A := [a0] } _ x_named (fun v hv => by cases hv) h
@[reducible] def t_cal1 : Tree :=
(.new (.ret (.bool (.bin .teq (.tv 0) (.tv 1))) [] [] []))
theorem x_cal1 : xfn Tryz.prog kc Tryz.f120 [dd8_0_17, (.ptr 0 0)] [] [⟨0, 9, [(.str (.tv 1))]⟩] ⟨0, 6, 0, 2, 0, 3, 1, 0⟩ = some t_cal1 := by kernel_rfl
theorem vc_cal1 (n0 n1 n2 n3 n4 n5 : Nat) (t0 t1 : ByteArray) (a0 a1 a2 : Option Addr) (m0 : Nat) (W : Wd) (R : Ending → World → Prop) (hm0 : W.w.heap[m0]? = some (.cells #[.string t1] 9)) (Im0 : W.I m0) (h : t_cal1.den Tryz.prog W.w.heap.size R [] { N := [n0, n1, n2, n3, n4, n5], T := [t0, t1], A := [a0, a1, a2], M := [m0] } W) : CallsE Tryz.prog 120 #[.agg #[.string t0, .slice a0 n0 n1, .slice a1 n2 n3, .slice a2 n4 n5], .pointer (some ⟨m0, 0, none⟩)] W R :=
 fn_calls_ro Tryz.func120 _ _ [⟨0, 9, [(.str (.tv 1))]⟩] { N := [n0, n1, n2, n3, n4, n5], T := [t0, t1], A := [a0, a1, a2], M := [m0] } _ x_cal1 (fun v hv => by cases hv) (fun b hb => by simp only [List.mem_cons, List.not_mem_nil, or_false] at hb; rcases hb with rfl <;> (first | exact hm0)) (fun b hb => by simp only [List.mem_cons, List.not_mem_nil, or_false] at hb; rcases hb with rfl <;> (first | exact Im0)) h
@[reducible] def t_ixp_1 : Tree := (.br (.bv 0) (.ret (.int .i64 (.iv 0)) [] [] []) (.again 0 [(.int .i64 (.un (.wrap .i64) (.bin .add (.iv 0) (.il 1))))] []))
@[reducible] def t_ixp_2 : Tree := (.call 120 [dd8_0_20, (.ptr 0 0)] [⟨0, 9, [(.str (.tv 0))]⟩] [] [] (.bool (.bv 0)) kk1 t_ixp_1)
@[reducible] def t_ixp_3 : Tree := (.chk (.sm 0) (.chk (.bin .le (.il 0) (.iv 0)) (.look 31 (.elt 0 (.iv 0) 4 0) dd8_0_20 kk11 t_ixp_2)))
@[reducible] def t_ixp : Tree :=
(.loop [(.int .i64 (.il 0))] [] [(.int .i64 (.iv 0))] [] kk0 (.br (.bin .lt (.iv 0) (.nv 0)) t_ixp_3 (.ret (.int .i64 (.il (-1))) [] [] [])))
theorem x_ixp : xfn Tryz.prog { kc with loops := [⟨2, [.tm 8]⟩] } Tryz.f119 [(.slc 0 (.nv 0) (.nv 1)), (.fn 120 [(.ptr 0 0)])] [] [⟨0, 9, [(.str (.tv 0))]⟩] kk17 = some t_ixp := by kernel_rfl
theorem vc_ixp (n0 n1 : Nat) (t0 : ByteArray) (a0 : Option Addr) (m0 : Nat) (W : Wd) (R : Ending → World → Prop) (hm0 : W.w.heap[m0]? = some (.cells #[.string t0] 9)) (Im0 : W.I m0) (h : t_ixp.den Tryz.prog W.w.heap.size R [] { N := [n0, n1], T := [t0], A := [a0], M := [m0] } W) : CallsE Tryz.prog 119 #[.slice a0 n0 n1, .func (.func 120) #[] #[.pointer (some ⟨m0, 0, none⟩)]] W R :=
 fn_calls_ro Tryz.func119 _ _ [⟨0, 9, [(.str (.tv 0))]⟩] { N := [n0, n1], T := [t0], A := [a0], M := [m0] } _ x_ixp (fun v hv => by cases hv) (fun b hb => by simp only [List.mem_cons, List.not_mem_nil, or_false] at hb; rcases hb with rfl <;> (first | exact hm0)) (fun b hb => by simp only [List.mem_cons, List.not_mem_nil, or_false] at hb; rcases hb with rfl <;> (first | exact Im0)) h
@[reducible] def t_cal2 : Tree :=
(.new (.ret (.bool (.bin .band (.bin .band (.bin .ieq (.iv 1) (.il (-1))) (.bin .ieq (.iv 0) (.il 1))) (.bin .ieq (.iv 3) (.il 0)))) [] [] []))
theorem x_cal2 : xfn Tryz.prog kc Tryz.f121 [dd8_0_10] [] [] kk4 = some t_cal2 := by kernel_rfl
theorem vc_cal2 (i0 i1 i2 i3 : Int) (n0 n1 n2 n3 : Nat) (b0 : Bool) (t0 t1 t2 t3 : ByteArray) (a0 a1 : Option Addr) (W : Wd) (R : Ending → World → Prop) (h : t_cal2.den Tryz.prog W.w.heap.size R [] { I := [i0, i1, i2, i3], N := [n0, n1, n2, n3], B := [b0], T := [t0, t1, t2, t3], A := [a0, a1] } W) : CallsE Tryz.prog 121 #[.agg #[.string t0, .int .u8 i0, .int .i64 i1, .int .i64 i2, .int .u8 i3, .string t1, .string t2, .string t3, .bool b0, .slice a0 n0 n1, .slice a1 n2 n3]] W R :=
 fn_calls Tryz.func121 _ _ { I := [i0, i1, i2, i3], N := [n0, n1, n2, n3], B := [b0], T := [t0, t1, t2, t3], A := [a0, a1] } _ x_cal2 (fun v hv => by cases hv) h
@[reducible] def t_ixn2_1 : Tree := (.br (.bv 1) (.ret (.int .i64 (.iv 0)) [] [] []) (.again 0 [(.int .i64 (.un (.wrap .i64) (.bin .add (.iv 0) (.il 1))))] []))
@[reducible] def t_ixn2_2 : Tree := (.call 121 [dd8_0_12] [] [] [] (.bool (.bv 1)) kk1 t_ixn2_1)
@[reducible] def t_ixn2_3 : Tree := (.chk (.sm 0) (.chk (.bin .le (.il 0) (.iv 0)) (.look 25 (.elt 0 (.iv 0) 11 0) dd8_0_12 kk4 t_ixn2_2)))
@[reducible] def t_ixn2 : Tree :=
(.loop [(.int .i64 (.il 0))] [] [(.int .i64 (.iv 0))] [] kk0 (.br (.bin .lt (.iv 0) (.nv 0)) t_ixn2_3 (.ret (.int .i64 (.il (-1))) [] [] [])))
theorem x_ixn2 : xfn Tryz.prog { kc with loops := [⟨2, [.tm 8]⟩] } Tryz.f117 [(.slc 0 (.nv 0) (.nv 1)), (.fn 121 [])] [] [] kk2 = some t_ixn2 := by kernel_rfl
theorem vc_ixn2 (n0 n1 : Nat) (a0 : Option Addr) (W : Wd) (R : Ending → World → Prop) (h : t_ixn2.den Tryz.prog W.w.heap.size R [] { N := [n0, n1], A := [a0] } W) : CallsE Tryz.prog 117 #[.slice a0 n0 n1, .func (.func 121) #[] #[]] W R :=
 fn_calls Tryz.func117 _ _ { N := [n0, n1], A := [a0] } _ x_ixn2 (fun v hv => by cases hv) h
@[reducible] def t_ctn2 : Tree :=
(.call 117 [(.slc 0 (.nv 0) (.nv 1)), (.fn 121 [])] [] [] [] (.int .i64 (.iv 0)) kk0 (.ret (.bool (.bin .le (.il 0) (.iv 0))) [] [] []))
theorem x_ctn2 : xfn Tryz.prog kc Tryz.f60 [(.slc 0 (.nv 0) (.nv 1)), (.fn 121 [])] [] [] kk2 = some t_ctn2 := by kernel_rfl
theorem vc_ctn2 (n0 n1 : Nat) (a0 : Option Addr) (W : Wd) (R : Ending → World → Prop) (h : t_ctn2.den Tryz.prog W.w.heap.size R [] { N := [n0, n1], A := [a0] } W) : CallsE Tryz.prog 60 #[.slice a0 n0 n1, .func (.func 121) #[] #[]] W R :=
 fn_calls Tryz.func60 _ _ { N := [n0, n1], A := [a0] } _ x_ctn2 (fun v hv => by cases hv) h
@[reducible] def t_called_1 : Tree := (.wr (.ret (.tup [(.agg [(.str (.tl [])), .nils, .nils, .nils]), (.bool (.bl false))]) [dd8_0_14] [] []))
@[reducible] def t_called_2 : Tree := (.grow (.wr (.grow (.ret (.tup [dd8_0_15, (.bool (.bv 0))]) [dd8_0_14] [] []))))
@[reducible] def t_called_3 : Tree := (.callq 60 [(.slc 9 (.nv 18) (.nv 19)), (.fn 121 [])] [] [] (.bool (.bv 0)) kk1 t_called_2)
@[reducible] def t_called_4 : Tree := (.look 28 (.elt 0 (.iv 0) 4 2) (.slc 9 (.nv 18) (.nv 19)) kk2 t_called_3)
@[reducible] def t_called_5 : Tree := (.chk (.sm 0) (.chk (.bin .le (.il 0) (.iv 0)) (.chk (.bin .lt (.iv 0) (.nv 0)) (.look 31 (.elt 0 (.iv 0) 4 0) dd8_0_15 kk11 t_called_4))))
@[reducible] def t_called : Tree :=
(.new (.new (.call 119 [(.slc 0 (.nv 0) (.nv 1)), (.fn 120 [(.ptr 1 0)])] [⟨1, 9, [(.str (.tv 1))]⟩] [] [] (.int .i64 (.iv 0)) kk0 (.br (.bin .lt (.iv 0) (.il 0)) t_called_1 t_called_5))))
theorem x_called : xfn Tryz.prog { kc with musR := [(5, [2])] } Tryz.f67 [(.ptr 0 0), (.str (.tv 1))] [dd8_0_14] [] ⟨0, 12, 0, 2, 0, 6, 1, 0⟩ = some t_called := by kernel_rfl
theorem vc_called (n0 n1 n2 n3 n4 n5 n6 n7 n8 n9 n10 n11 : Nat) (t0 t1 : ByteArray) (a0 a1 a2 a3 a4 a5 : Option Addr) (m0 : Nat) (W : Wd) (R : Ending → World → Prop) (hm : W.w.heap[m0]? = some (.cells #[.slice a0 n0 n1, .string t0, .slice a1 n2 n3, .slice a2 n4 n5, .slice a3 n6 n7, .slice a4 n8 n9, .slice a5 n10 n11] 71)) (hI : ¬ W.I m0) (h : t_called.den Tryz.prog W.w.heap.size R [] { N := [n0, n1, n2, n3, n4, n5, n6, n7, n8, n9, n10, n11], T := [t0, t1], A := [a0, a1, a2, a3, a4, a5], M := [m0] } W) : CallsE Tryz.prog 67 #[.pointer (some ⟨m0, 0, none⟩), .string t1] W R :=
 fn_calls_mu Tryz.func67 _ _ [dd8_0_14] { N := [n0, n1, n2, n3, n4, n5, n6, n7, n8, n9, n10, n11], T := [t0, t1], A := [a0, a1, a2, a3, a4, a5], M := [m0] } _ x_called (fun v hv => by cases hv) (fun b hb => by simp only [List.mem_singleton] at hb; subst hb; exact hm) (fun b hb => by simp only [List.mem_singleton] at hb; subst hb; exact hI) (List.pairwise_singleton _ _) h
@[reducible] def t_says_1 : Tree := (.ret (.int .i64 (.iv 5)) [dd8_0_14] [] [])
@[reducible] def t_says_2 : Tree := (.call 35 [(.str (.tv 3)), (.slc 8 (.nv 16) (.nv 17)), (.int .u8 (.il 1))] [] [] [] (.int .i64 (.iv 5)) kk0 t_says_1)
@[reducible] def t_says_3 : Tree := (.call 35 [(.str (.tv 3)), (.slc 8 (.nv 16) (.nv 17)), (.int .u8 (.il 2))] [] [] [] (.int .i64 (.iv 5)) kk0 t_says_1)
@[reducible] def t_says_4 : Tree := (.ret (.int .i64 (.il 22)) [dd8_0_14] [] [])
@[reducible] def t_says_5 : Tree := (.ret (.int .i64 (.iv 6)) [dd8_0_14] [] [])
@[reducible] def t_says_6 : Tree := (.call 35 [(.str (.tv 3)), (.slc 8 (.nv 16) (.nv 17)), (.int .u8 (.iv 5))] [] [] [] (.int .i64 (.iv 6)) kk0 t_says_5)
@[reducible] def t_says_7 : Tree := (.call 66 [(.slc 8 (.nv 16) (.nv 17)), (.str (.tv 4))] [] [] [] (.int .u8 (.iv 5)) kk0 (.br (.bin .ieq (.iv 5) (.il 0)) t_says_4 t_says_6))
@[reducible] def t_says_8 : Tree := (.ret (.int .i64 (.il 0)) [dd8_0_14] [] [])
@[reducible] def t_says_9 : Tree := (.ret (.int .i64 (.il 23)) [dd8_0_14] [] [])
@[reducible] def t_says_10 : Tree := (.br (.un .not (.bin .ieq (.iv 6) (.iv 7))) t_says_9 (.again 0 [(.int .i64 (.un (.wrap .i64) (.bin .add (.iv 5) (.il 1))))] []))
@[reducible] def t_says_11 : Tree := (.br (.bin .bor (.bin .ieq (.iv 6) (.il 0)) (.bin .ieq (.iv 7) (.il 0))) t_says_4 t_says_10)
@[reducible] def t_says_12 : Tree := (.call 66 [(.slc 8 (.nv 16) (.nv 17)), (.str (.tv 6))] [] [] [] (.int .u8 (.iv 7)) kk0 t_says_11)
@[reducible] def t_says_13 : Tree := (.call 66 [(.slc 9 (.nv 18) (.nv 19)), (.str (.tv 6))] [] [] [] (.int .u8 (.iv 6)) kk0 t_says_12)
@[reducible] def t_says_14 : Tree := (.chk (.sm 7) (.chk (.bin .le (.il 0) (.iv 5)) (.look 9 (.elt 7 (.iv 5) 1 0) (.str (.tv 6)) kk5 t_says_13)))
@[reducible] def t_says_15 : Tree := (.loop [(.int .i64 (.il 0))] [] [(.int .i64 (.iv 5))] [] kk0 (.br (.bin .lt (.iv 5) (.nv 14)) t_says_14 t_says_8))
@[reducible] def t_says_16 : Tree := (.call 67 [(.ptr 0 0), (.str (.tv 2))] [dd8_0_14] [] [] (.tup [(.agg [(.str (.tv 5)), (.slc 9 (.nv 18) (.nv 19)), (.slc 10 (.nv 20) (.nv 21)), (.slc 11 (.nv 22) (.nv 23))]), (.bool (.bv 1))]) ⟨0, 6, 1, 1, 0, 3, 0, 0⟩ (.new (.wr (.br (.un .not (.bv 1)) t_says_4 t_says_15))))
@[reducible] def t_says_17 : Tree := (.br (.bin .ieq (.iv 1) (.il 4)) t_says_7 (.br (.un .not (.bin .ieq (.iv 1) (.il 14))) t_says_8 t_says_16))
@[reducible] def t_says_18 : Tree := (.br (.bin .bor (.bin .ieq (.iv 4) (.il 3)) (.bin .ieq (.iv 1) (.il 12))) t_says_3 t_says_17)
@[reducible] def t_says_19 : Tree := (.grow (.call 18 [dd8_0_19, (.int .i64 (.iv 0))] [] [] [] (.slc 8 (.nv 16) (.nv 17)) kk2 (.grow (.new (.grow (.wr (.grow (.br (.bin .ieq (.iv 4) (.il 2)) t_says_2 t_says_18))))))))
@[reducible] def t_says_20 : Tree := (.grow (.new (.grow (.call 18 [dd8_0_19, (.int .i64 (.iv 0))] [] [] [] (.slc 8 (.nv 16) (.nv 17)) kk2 (.grow (.wr (.grow (.br (.bin .ieq (.iv 4) (.il 2)) t_says_2 t_says_18))))))))
@[reducible] def t_says : Tree :=
(.chk (.sm 2) (.chk (.bin .le (.il 0) (.iv 0)) (.chk (.bin .lt (.iv 0) (.nv 4)) (.look 25 (.elt 2 (.iv 0) 11 0) dd8_0_7 kk4 (.both t_says_19 t_says_20)))))
theorem x_says : xfn Tryz.prog { kc with loops := [⟨17, [.tm 80]⟩], rwx := true, musR := [(1, [1])] } Tryz.f34 [(.ptr 0 0), (.int .i64 (.iv 0))] [dd8_0_14] [] ⟨1, 12, 0, 1, 0, 6, 1, 0⟩ = some t_says := by kernel_rfl
theorem vc_says (i0 : Int) (n0 n1 n2 n3 n4 n5 n6 n7 n8 n9 n10 n11 : Nat) (t0 : ByteArray) (a0 a1 a2 a3 a4 a5 : Option Addr) (m0 : Nat) (W : Wd) (R : Ending → World → Prop) (hm : W.w.heap[m0]? = some (.cells #[.slice a0 n0 n1, .string t0, .slice a1 n2 n3, .slice a2 n4 n5, .slice a3 n6 n7, .slice a4 n8 n9, .slice a5 n10 n11] 71)) (hI : ¬ W.I m0) (h : t_says.den Tryz.prog W.w.heap.size R [] { I := [i0], N := [n0, n1, n2, n3, n4, n5, n6, n7, n8, n9, n10, n11], T := [t0], A := [a0, a1, a2, a3, a4, a5], M := [m0] } W) : CallsE Tryz.prog 34 #[.pointer (some ⟨m0, 0, none⟩), .int .i64 i0] W R :=
 fn_calls_mu Tryz.func34 _ _ [dd8_0_14] { I := [i0], N := [n0, n1, n2, n3, n4, n5, n6, n7, n8, n9, n10, n11], T := [t0], A := [a0, a1, a2, a3, a4, a5], M := [m0] } _ x_says (fun v hv => by cases hv) (fun b hb => by simp only [List.mem_singleton] at hb; subst hb; exact hm) (fun b hb => by simp only [List.mem_singleton] at hb; subst hb; exact hI) (List.pairwise_singleton _ _) h
end Go.Proofs.YtkpjmlnhhggenaaGreatDoor
end
section
/- The walks of package valid: scopes, names, links. -/
namespace Go.Proofs.YtkpjmlnhhggenaaGreatDoor
open Go Go.RowKit Go.SF
theorem k8_aggT : aggT Tryz.prog 5 = some false := by kernel_rfl
theorem vd_nd {p : PV} {i : Nat} {v : NV} (h : p.nodes[i]? = some v) : Vd.nd p.pr i = v.n := by
 unfold Vd.nd PV.pr
 simp only [List.getD_eq_getElem?_getD, List.getElem?_map, h, Option.map_some, Option.getD_some]
theorem pr_len (p : PV) : p.pr.nodes.length = p.nodes.length := List.length_map ..
theorem around_q (p : PV) (W : Wd) (hp : FitP p W) (n : Nat) (hn : n < p.nodes.length) :
  CallsQ Tryz.prog 45 #[.agg (prC p).toArray, .int .i64 (n : Int)] W (.int .i64 (Vd.around p.pr n)) := by
 have hp := hp.ext W.all_ext
 have hln := hp.ln
 have hx : p.nodes[n]? = some p.nodes[n] := List.getElem?_eq_getElem hn
 generalize p.nodes[n] = v at hx
 refine vc_around n p.vars.length p.vc p.nodes.length p.nc p.flows.length p.fc ⟨p.nm.toArray⟩ p.va p.na p.fa W.all _ ?_
 refine den_new fun m W1 _ x1 => den_chk ?_ (den_chk ?_ (den_chk ?_ (den_look ⟨v.n.inn, fun W3 x3 => ?_, ?_⟩)))
 ·simp only [E.b, gd, Env.push]; exact SlI.some_of hp.ns (by omega)
 ·simp only [zE]; exact leB_t (by omega)
 ·simp only [zE]; exact ltB_t (by omega)
 ·have := sl_look_f (P := Tryz.prog) ndC_len hp.ns i64_aggT (k := 2) hx (by decide) (u := .int .i64 v.n.inn) rfl (ext_trans x1 x3)
  simp only [zE] at this ⊢
  exact this
 ·simp only [zP]
  have e : Vd.around p.pr n = if decide (0 ≤ v.n.inn) && decide (v.n.inn < (n : Int)) then v.n.inn else -1 := by rw [Vd.around, vd_nd hx]
  rw [e]
  refine den_br (fun c => den_ret fun _ _ _ => ⟨_, rfl, ?_⟩) fun c => den_ret fun _ _ _ => ⟨_, rfl, ?_⟩
  ·have c : (decide (0 ≤ v.n.inn) && decide (v.n.inn < (n : Int))) = true := c
   rw [if_pos c]; rfl
  ·rw [if_neg (fun h => by have c : (decide (0 ≤ v.n.inn) && decide (v.n.inn < (n : Int))) = false := c; rw [c] at h; cases h)]; rfl
theorem kind_q (p : PV) (W : Wd) (hp : FitP p W) (s : Int) (hn : s < p.nodes.length) :
  CallsQ Tryz.prog 46 #[.agg (prC p).toArray, .int .i64 s] W (.int .u8 (Vd.kind p.pr s)) := by
 have hp := hp.ext W.all_ext
 have hln := hp.ln
 refine vc_vkind s p.vars.length p.vc p.nodes.length p.nc p.flows.length p.fc ⟨p.nm.toArray⟩ p.va p.na p.fa W.all _ ?_
 refine den_new fun m W1 _ x1 => den_br (fun c => den_ret fun _ _ _ => ⟨_, rfl, ?_⟩) fun c => ?_
 ·simp only [zE, ltB_true] at c
  rw [Vd.kind, if_pos c]; rfl
 ·simp only [zE, ltB_false] at c
  obtain ⟨n, rfl⟩ : ∃ n : Nat, s = (n : Int) := ⟨s.toNat, by omega⟩
  have hn : n < p.nodes.length := by omega
  have hx : p.nodes[n]? = some p.nodes[n] := List.getElem?_eq_getElem hn
  generalize p.nodes[n] = v at hx
  refine den_chk ?_ (den_chk ?_ (den_chk ?_ (den_look ⟨v.n.kd, fun W3 x3 => ?_, ?_⟩)))
  ·simp only [E.b, gd, Env.push]; exact SlI.some_of hp.ns (by omega)
  ·simp only [zE]; exact leB_t (by omega)
  ·simp only [zE]; exact ltB_t (by omega)
  ·have := sl_look_f (P := Tryz.prog) ndC_len hp.ns k8_aggT (k := 1) hx (by decide) (u := .int .u8 v.n.kd) rfl (ext_trans x1 x3)
   simp only [zE] at this ⊢
   exact this
  ·simp only [zP]
   refine den_ret fun _ _ _ => ⟨_, rfl, ?_⟩
   rw [Vd.kind, if_neg (by omega), Int.toNat_natCast, vd_nd hx]; rfl
theorem link_q (v : NV) (k : Int) (W : Wd) : CallsQ Tryz.prog 63 #[.agg (ndC v).toArray, .int .u8 k] W (.bool (Vd.link v.n k)) := by
 refine vc_link v.n.kd v.n.inn v.n.on v.n.ev k v.n.vars.length v.vc v.n.back.length v.bc v.n.brk ⟨v.n.nm.toArray⟩ ⟨v.n.key.toArray⟩ ⟨v.n.txt.toArray⟩ ⟨v.n.set.toArray⟩ v.va v.ba W.all _ ?_
 exact den_new fun m W1 _ x1 => den_ret fun _ _ _ => ⟨_, rfl, rfl⟩
theorem pl1_q (v u : NV) (m : Nat) (W : Wd) (hm : W.w.heap[m]? = some (.cells (ndC u).toArray NdT)) : CallsQ Tryz.prog 61 #[.agg (ndC v).toArray, .pointer (some ⟨m, 0, none⟩)] W (.bool (v.n.nm == u.n.nm)) := by
 refine vc_pl1 v.n.kd v.n.inn v.n.on v.n.ev u.n.kd u.n.inn u.n.on u.n.ev v.n.vars.length v.vc v.n.back.length v.bc u.n.vars.length u.vc u.n.back.length u.bc v.n.brk u.n.brk ⟨v.n.nm.toArray⟩ ⟨v.n.key.toArray⟩ ⟨v.n.txt.toArray⟩ ⟨v.n.set.toArray⟩ ⟨u.n.nm.toArray⟩ ⟨u.n.key.toArray⟩ ⟨u.n.txt.toArray⟩ ⟨u.n.set.toArray⟩ v.va v.ba u.va u.ba m W.all _ hm (Array.getElem?_eq_some_iff.1 hm).1 ?_
 exact den_new fun m W1 _ x1 => den_ret fun _ _ _ => ⟨_, rfl, rfl⟩
theorem ixn_i (u : NV) (l : List NV) (a : Option Addr) (c : Nat) (m : Nat) (W : Wd) (hl : l.length ≤ 1000000) (hV : SlI W a l.length c 11 (l.flatMap ndC)) (hm : W.w.heap[m]? = some (.cells (ndC u).toArray NdT)) (hI : W.I m) :
  CallsI Tryz.prog 117 #[.slice a l.length c, .func (.func 61) #[] #[.pointer (some ⟨m, 0, none⟩)]] W.all fun v w' => ∃ r : Int, v = .int .i64 r ∧ leB 0 r = l.any fun y => y.n.nm == u.n.nm := by
 refine vc_ixn u.n.kd u.n.inn u.n.on u.n.ev l.length c u.n.vars.length u.vc u.n.back.length u.bc u.n.brk ⟨u.n.nm.toArray⟩ ⟨u.n.key.toArray⟩ ⟨u.n.txt.toArray⟩ ⟨u.n.set.toArray⟩ a u.va u.ba m W.all _ hm (W.lt m hI) ?_
 refine den_loop (fun j vs ls _ => ∃ i : Nat, vs = [.int .i64 (i : Nat)] ∧ ls = [] ∧ i ≤ l.length ∧ j = l.length - i ∧ (l.any fun y => y.n.nm == u.n.nm) = ((l.drop i).any fun y => y.n.nm == u.n.nm)) l.length ⟨0, by simp [Sy.dens, Sy.den, E.i, E.b, E.t, gd, Env.push, z_a, z_b, z_c, z_d], rfl, Nat.zero_le _, rfl, rfl⟩ ?_
 rintro j vs ls' W2 x2 ⟨i, rfl, rfl, hi, rfl, ha⟩
 have x2' := ext_trans W.all_ext x2
 refine ⟨(i : Int), rfl, rfl, fun _ => den_br (fun c1 => ?_) fun c1 => den_ret fun _ _ _ => ⟨_, rfl, -1, rfl, ?_⟩⟩
 ·simp only [zE, ltB_true] at c1
  have hil : i < l.length := by omega
  have hx : l[i]? = some l[i] := List.getElem?_eq_getElem hil
  rw [tdrop_get hil] at ha
  generalize l[i] = v at hx ha
  refine den_chk ?_ (den_chk ?_ (den_look ⟨v.n.kd, v.n.inn, v.n.on, v.n.ev, v.n.vars.length, v.vc, v.n.back.length, v.bc, v.n.brk, ⟨v.n.nm.toArray⟩, ⟨v.n.key.toArray⟩, ⟨v.n.txt.toArray⟩, ⟨v.n.set.toArray⟩, v.va, v.ba, fun W3 x3 => ?_, ?_⟩))
  ·simp only [E.b, gd, Env.push]; exact SlI.some_of hV (by omega)
  ·simp only [zE]; exact leB_t (by omega)
  ·have := sl_look (P := Tryz.prog) ndC_len (by decide) hV nd_aggT nd_sizeT hx (ext_trans x2' x3)
   simp only [zE, Nat.add_zero] at this ⊢
   exact this
  ·simp only [zP]
   refine den_call_q (v := .bool (v.n.nm == u.n.nm)) (fun hb _ => pl1_q v u m W2 (hb _ (List.mem_singleton.2 rfl))) ⟨v.n.nm == u.n.nm, rfl, fun W3 x3 => ?_⟩
   simp only [zP]
   refine den_br (fun c2 => den_ret fun _ _ _ => ⟨_, rfl, (i : Int), rfl, ?_⟩) fun c2 => den_again ⟨l.length - (i + 1), by omega, i + 1, ?_, rfl, by omega, rfl, ?_⟩
   ·have c2 : (v.n.nm == u.n.nm) = true := c2
    rw [ha, List.any_cons, c2]; exact leB_t (by omega)
   ·simp only [zE]; rw [w64i (by omega) (by omega)]; rfl
   ·have c2 : (v.n.nm == u.n.nm) = false := c2
    rw [ha, List.any_cons, c2, Bool.false_or]
 ·simp only [zE, ltB_false] at c1
  rw [ha, List.drop_eq_nil_of_le (by omega)]; rfl
theorem ctn_q (u : NV) (l : List NV) (a : Option Addr) (c : Nat) (m : Nat) (W : Wd) (hl : l.length ≤ 1000000) (hV : SlW W.w a l.length c 11 (l.flatMap ndC)) (hm : W.w.heap[m]? = some (.cells (ndC u).toArray NdT)) :
  CallsQ Tryz.prog 60 #[.slice a l.length c, .func (.func 61) #[] #[.pointer (some ⟨m, 0, none⟩)]] W (.bool (l.any fun y => y.n.nm == u.n.nm)) := by
 have hmI : m < W.w.heap.size := (Array.getElem?_eq_some_iff.1 hm).1
 refine vc_ctn u.n.kd u.n.inn u.n.on u.n.ev l.length c u.n.vars.length u.vc u.n.back.length u.bc u.n.brk ⟨u.n.nm.toArray⟩ ⟨u.n.key.toArray⟩ ⟨u.n.txt.toArray⟩ ⟨u.n.set.toArray⟩ a u.va u.ba m W.all _ hm hmI ?_
 refine den_call_i (fun _ _ => ixn_i u l a c m W.all hl hV.all hm hmI) fun v w' _ ⟨r, hv, hr⟩ => ⟨r, hv, fun W2 _ _ _ => den_ret fun _ _ _ => ⟨_, rfl, ?_⟩⟩
 show Value.bool (leB 0 r) = _
 rw [hr]
structure Sl3 where
 a : Option Addr
 n : Nat
 c : Nat
abbrev Sl3.v (s : Sl3) : Value := .slice s.a s.n s.c
abbrev chkC (D : Sl3) (p : PV) (fr to : Sl3) : List Value := [D.v, strB p.nm, .slice p.va p.vars.length p.vc, .slice p.na p.nodes.length p.nc, .slice p.fa p.flows.length p.fc, fr.v, to.v]
abbrev ChT : TypeId := 71
theorem CallsE.raise {P : Program} {f : FuncId} {args : Array Value} {W : Wd} {m : Nat} {R : Ending → World → Prop} {c : _} (h : CallsE P f args (W.but [m]) R) (hm : W.w.heap[m]? = some c) (hr : ∀ e w', R e w' → w'.heap[m]? = some c) : CallsE P f args W.all R := by
 unfold CallsE at *
 refine Calls.mono h fun e w' ⟨hk, hR⟩ => ⟨⟨hk.os, hk.tape, hk.output, hk.size, fun b hb => ?_⟩, hR⟩
 by_cases e1 : b = m
 ·subst e1; rw [hr e w' hR]; exact hm.symm
 ·exact hk.keep b ⟨hb, fun h => e1 (List.mem_singleton.1 h)⟩
theorem chk_q {f : FuncId} {args : Array Value} {W : Wd} {m : Nat} {cs : Array Value} {v : Value} (hI : ¬ W.I m) (hm : W.w.heap[m]? = some (.cells cs ChT))
  (h : ∀ V, V.w = W.w → Ext W V → ¬ V.I m → CallsE Tryz.prog f args V fun e w' => e = .returned v ∧ w'.heap[m]? = some (.cells cs ChT)) : CallsQ Tryz.prog f args W v := by
 have := CallsE.raise (h (W.but [m]) rfl (W.but_ext fun b hb hm => hI (by rw [← List.mem_singleton.1 hm]; exact hb)) fun h => h.2 (List.mem_singleton.2 rfl)) hm fun e w' hR => hR.2
 exact CallsE.mono this fun e w' _ hR => ⟨v, hR.1, rfl⟩
theorem allAt_drop {α : Type} {f : Nat → α → Bool} {l : List α} {i : Nat} (h : i < l.length) : Vd.allAt f i (l.drop i) = (f i l[i] && Vd.allAt f (i + 1) (l.drop (i + 1))) := by
 rw [tdrop_get h]; rfl
theorem pr_get {p : PV} {i : Nat} {v : NV} (h : p.nodes[i]? = some v) (hi : i < p.pr.nodes.length) : p.pr.nodes[i] = v.n := by
 have : p.pr.nodes[i]? = some v.n := by unfold PV.pr; simp only [List.getElem?_map, h, Option.map_some]
 rw [List.getElem?_eq_getElem hi] at this
 exact Option.some.inj this
end Go.Proofs.YtkpjmlnhhggenaaGreatDoor
end
section
/- The walks of package valid: linked, links, places. -/
namespace Go.Proofs.YtkpjmlnhhggenaaGreatDoor
open Go Go.RowKit Go.SF
theorem int_ones : ∀ l : List Int, (l.map (Value.int .i64)) = l.flatMap fun x => [Value.int .i64 x]
 | [] => rfl
 | x :: l => by rw [List.map_cons, int_ones l]; rfl
theorem linked_q (D : Sl3) (p : PV) (fr to : List Int) (fa ta : Option Addr) (fc tc : Nat) (m : Nat) (W : Wd) (hp : FitP p W) (hfl : fr.length = p.nodes.length) (htl : to.length = p.nodes.length)
  (hF : SlI W fa fr.length fc 1 (fr.map (Value.int .i64))) (hT : SlI W ta to.length tc 1 (to.map (Value.int .i64))) (hin : ∀ v ∈ p.nodes, v.n.inn < p.nodes.length)
  (hI : ¬ W.I m) (hm : W.w.heap[m]? = some (.cells (chkC D p ⟨fa, fr.length, fc⟩ ⟨ta, to.length, tc⟩).toArray ChT)) :
  CallsQ Tryz.prog 31 #[.pointer (some ⟨m, 0, none⟩)] W (.bool (Vd.linked p.pr fr to)) := by
 refine chk_q hI hm fun V hVw hx hVI => ?_
 rw [← hVw] at hm
 have hp := hp.ext hx
 have hln := hp.ln
 have hF := hF.ext hx
 have hT := hT.ext hx
 rw [int_ones] at hF hT
 refine vc_linked D.n D.c p.vars.length p.vc p.nodes.length p.nc p.flows.length p.fc fr.length fc to.length tc ⟨p.nm.toArray⟩ D.a p.va p.na p.fa fa ta m V _ hm hVI ?_
 refine den_loop (fun j vs ls _ => ∃ i : Nat, vs = [.int .i64 (i : Nat)] ∧ ls = [] ∧ i ≤ p.nodes.length ∧ j = p.nodes.length - i ∧ Vd.linked p.pr fr to = Vd.allAt (Vd.linkedN p.pr fr to) i (p.pr.nodes.drop i)) p.nodes.length ⟨0, by simp [Sy.dens, Sy.den, E.i, E.b, E.t, gd, Env.push, z_a, z_b, z_c, z_d], rfl, Nat.zero_le _, rfl, rfl⟩ ?_
 rintro j vs ls' W2 x2 ⟨i, rfl, rfl, hi, rfl, ha⟩
 refine ⟨(i : Int), rfl, rfl, fun _ => den_br (fun c1 => ?_) fun c1 => den_ret fun h1 _ _ => ⟨?_, h1 _ (List.mem_singleton.2 rfl)⟩⟩
 ·simp only [zE, ltB_true] at c1
  have hil : i < p.nodes.length := by omega
  have hx1 : p.nodes[i]? = some p.nodes[i] := List.getElem?_eq_getElem hil
  have hin1 := hin _ (List.getElem_mem hil)
  have hpl : i < p.pr.nodes.length := by rw [pr_len]; exact hil
  rw [allAt_drop hpl, pr_get hx1 hpl] at ha
  have hto : to[i]? = some (to.getD i 0) := by rw [List.getD_eq_getElem?_getD, List.getElem?_eq_getElem (by omega)]; rfl
  have hfo : fr[i]? = some (fr.getD i 0) := by rw [List.getD_eq_getElem?_getD, List.getElem?_eq_getElem (by omega)]; rfl
  generalize p.nodes[i] = v at hx1 hin1 ha
  refine den_chk ?_ (den_chk ?_ (den_look ⟨v.n.kd, v.n.inn, v.n.on, v.n.ev, v.n.vars.length, v.vc, v.n.back.length, v.bc, v.n.brk, ⟨v.n.nm.toArray⟩, ⟨v.n.key.toArray⟩, ⟨v.n.txt.toArray⟩, ⟨v.n.set.toArray⟩, v.va, v.ba, fun W3 x3 => ?_, ?_⟩))
  ·simp only [E.b, gd, Env.push]; exact SlI.some_of hp.ns (by omega)
  ·simp only [zE]; exact leB_t (by omega)
  ·have := sl_look (P := Tryz.prog) ndC_len (by decide) hp.ns nd_aggT nd_sizeT hx1 (ext_trans x2 x3)
   simp only [zE, Nat.add_zero] at this ⊢
   exact this
  simp only [zP]
  have hagain : ∀ (b : Bool), Vd.linkedN p.pr fr to i v.n = true → Vd.linked p.pr fr to = Vd.allAt (Vd.linkedN p.pr fr to) (i + 1) (p.pr.nodes.drop (i + 1)) := fun _ h => by rw [ha, h, Bool.true_and]
  have hend : Vd.linkedN p.pr fr to i v.n = false → Vd.linked p.pr fr to = false := fun h => by rw [ha, h, Bool.false_and]
  refine den_new fun m1 W3 _ x3 => den_wr fun W4 x4 => den_callq ⟨Vd.kind p.pr v.n.inn, fun U xU _ _ => kind_q p U (hp.ext (ext_trans x2 (ext_trans x3 (ext_trans x4 xU)))) v.n.inn hin1, ?_⟩
  simp only [zP]
  have y4 := ext_trans x2 (ext_trans x3 x4)
  refine den_grow fun W5 x5 => ?_
  have y5 := ext_trans y4 x5
  refine den_br (fun c2 => ?_) fun c2 => ?_
  ·have c2 : (Vd.kind p.pr v.n.inn == 12) = true := c2
   refine den_frz fun W8 _ x8 _ _ => den_again ⟨p.nodes.length - (i + 1), by omega, i + 1, ?_, rfl, by omega, rfl, hagain true (by rw [Vd.linkedN, c2, Bool.true_or])⟩
   simp only [zE]; rw [w64i (by omega) (by omega)]; rfl
  ·have c2 : (Vd.kind p.pr v.n.inn == 12) = false := c2
   have hN : Vd.linkedN p.pr fr to i v.n = (!(((to.getD i 0 == 0 && !Vd.apart v.n) && !(v.n.kd == 1)) && !Vd.link v.n 6) && !(((fr.getD i 0 == 0 && !Vd.apart v.n) && !(v.n.kd == 2)) && !Vd.link v.n 5)) := by rw [Vd.linkedN, c2, Bool.false_or]
   refine den_chk ?_ (den_chk ?_ (den_look ⟨to.getD i 0, fun W6 x6 => ?_, ?_⟩))
   ·simp only [E.b, gd, Env.push]; exact SlI.some_of hT (by omega)
   ·simp only [zE]; exact ltB_t (by omega)
   ·have := sl_look_f (P := Tryz.prog) (f := fun x => [Value.int .i64 x]) (sz := 1) (fun _ => rfl) hT i64_aggT (k := 0) hto (by decide) (u := .int .i64 (to.getD i 0)) rfl (ext_trans y5 x6)
    simp only [zE] at this ⊢
    exact this
   simp only [zP]
   have from1 : ∀ (Z : Tree) (U : Wd), True := fun _ _ => trivial
   refine den_br (fun c3 => ?_) fun c3 => ?_
   ·have c3 : ((to.getD i 0 == 0 && !Vd.apart v.n) && !(v.n.kd == 1)) = true := c3
    refine den_call_q (v := .bool (Vd.link v.n 6)) (fun _ _ => link_q v 6 W5) ⟨Vd.link v.n 6, rfl, fun W6 x6 => ?_⟩
    simp only [zP]
    have y6 := ext_trans y5 x6
    refine den_br (fun c4 => den_ret fun h1 _ _ => ⟨?_, h1 _ (List.mem_singleton.2 rfl)⟩) fun c4 => ?_
    ·have c4 : (!Vd.link v.n 6) = true := c4
     rw [hend (by rw [hN, c3, c4]; rfl)]; rfl
    ·have c4 : (!Vd.link v.n 6) = false := c4
     rw [c3, c4, Bool.and_false, Bool.not_false, Bool.true_and] at hN
     refine den_chk ?_ (den_chk ?_ (den_look ⟨fr.getD i 0, fun W7 x7 => ?_, ?_⟩))
     ·simp only [E.b, gd, Env.push]; exact SlI.some_of hF (by omega)
     ·simp only [zE]; exact ltB_t (by omega)
     ·have := sl_look_f (P := Tryz.prog) (f := fun x => [Value.int .i64 x]) (sz := 1) (fun _ => rfl) hF i64_aggT (k := 0) hfo (by decide) (u := .int .i64 (fr.getD i 0)) rfl (ext_trans y6 x7)
      simp only [zE] at this ⊢
      exact this
     simp only [zP]
     refine den_br (fun c5 => ?_) fun c5 => ?_
     ·have c5 : ((fr.getD i 0 == 0 && !Vd.apart v.n) && !(v.n.kd == 2)) = true := c5
      refine den_call_q (v := .bool (Vd.link v.n 5)) (fun _ _ => link_q v 5 W6) ⟨Vd.link v.n 5, rfl, fun W7 x7 => ?_⟩
      simp only [zP]
      refine den_br (fun c6 => den_ret fun h1 _ _ => ⟨?_, h1 _ (List.mem_singleton.2 rfl)⟩) fun c6 => ?_
      ·have c6 : (!Vd.link v.n 5) = true := c6
       rw [hend (by rw [hN, c5, c6]; rfl)]; rfl
      ·have c6 : (!Vd.link v.n 5) = false := c6
       refine den_frz fun W8 _ x8 _ _ => den_again ⟨p.nodes.length - (i + 1), by omega, i + 1, ?_, rfl, by omega, rfl, hagain true (by rw [hN, c5, c6]; rfl)⟩
       simp only [zE]; rw [w64i (by omega) (by omega)]; rfl
     ·have c5 : ((fr.getD i 0 == 0 && !Vd.apart v.n) && !(v.n.kd == 2)) = false := c5
      refine den_frz fun W8 _ x8 _ _ => den_again ⟨p.nodes.length - (i + 1), by omega, i + 1, ?_, rfl, by omega, rfl, hagain true (by rw [hN, c5]; rfl)⟩
      simp only [zE]; rw [w64i (by omega) (by omega)]; rfl
   ·have c3 : ((to.getD i 0 == 0 && !Vd.apart v.n) && !(v.n.kd == 1)) = false := c3
    rw [c3, Bool.false_and, Bool.not_false, Bool.true_and] at hN
    refine den_chk ?_ (den_chk ?_ (den_look ⟨fr.getD i 0, fun W7 x7 => ?_, ?_⟩))
    ·simp only [E.b, gd, Env.push]; exact SlI.some_of hF (by omega)
    ·simp only [zE]; exact ltB_t (by omega)
    ·have := sl_look_f (P := Tryz.prog) (f := fun x => [Value.int .i64 x]) (sz := 1) (fun _ => rfl) hF i64_aggT (k := 0) hfo (by decide) (u := .int .i64 (fr.getD i 0)) rfl (ext_trans y5 x7)
     simp only [zE] at this ⊢
     exact this
    simp only [zP]
    refine den_br (fun c5 => ?_) fun c5 => ?_
    ·have c5 : ((fr.getD i 0 == 0 && !Vd.apart v.n) && !(v.n.kd == 2)) = true := c5
     refine den_call_q (v := .bool (Vd.link v.n 5)) (fun _ _ => link_q v 5 W5) ⟨Vd.link v.n 5, rfl, fun W7 x7 => ?_⟩
     simp only [zP]
     refine den_br (fun c6 => den_ret fun h1 _ _ => ⟨?_, h1 _ (List.mem_singleton.2 rfl)⟩) fun c6 => ?_
     ·have c6 : (!Vd.link v.n 5) = true := c6
      rw [hend (by rw [hN, c5, c6]; rfl)]; rfl
     ·have c6 : (!Vd.link v.n 5) = false := c6
      refine den_frz fun W8 _ x8 _ _ => den_again ⟨p.nodes.length - (i + 1), by omega, i + 1, ?_, rfl, by omega, rfl, hagain true (by rw [hN, c5, c6]; rfl)⟩
      simp only [zE]; rw [w64i (by omega) (by omega)]; rfl
    ·have c5 : ((fr.getD i 0 == 0 && !Vd.apart v.n) && !(v.n.kd == 2)) = false := c5
     refine den_frz fun W8 _ x8 _ _ => den_again ⟨p.nodes.length - (i + 1), by omega, i + 1, ?_, rfl, by omega, rfl, hagain true (by rw [hN, c5]; rfl)⟩
     simp only [zE]; rw [w64i (by omega) (by omega)]; rfl
 ·simp only [zE, ltB_false] at c1
  rw [ha, List.drop_eq_nil_of_le (by rw [pr_len]; omega)]; rfl
end Go.Proofs.YtkpjmlnhhggenaaGreatDoor
end
section
/- The walks of package valid: links, places. -/
namespace Go.Proofs.YtkpjmlnhhggenaaGreatDoor
open Go Go.RowKit Go.SF
theorem links_q (D fr to : Sl3) (p : PV) (m : Nat) (W : Wd) (hp : FitP p W) (hI : ¬ W.I m) (hm : W.w.heap[m]? = some (.cells (chkC D p fr to).toArray ChT)) :
  CallsQ Tryz.prog 33 #[.pointer (some ⟨m, 0, none⟩)] W (.bool (Vd.links p.pr)) := by
 refine chk_q hI hm fun V hVw hx hVI => ?_
 rw [← hVw] at hm
 have hp := hp.ext hx
 have hln := hp.ln
 refine vc_links D.n D.c p.vars.length p.vc p.nodes.length p.nc p.flows.length p.fc fr.n fr.c to.n to.c ⟨p.nm.toArray⟩ D.a p.va p.na p.fa fr.a to.a m V _ hm hVI ?_
 have hall : Vd.links p.pr = p.nodes.all fun v => !Vd.link v.n 5 || (p.nodes.countP (fun u => Vd.fits v.n u.n) == 1) := by
  unfold Vd.links PV.pr
  simp only [List.all_map, List.countP_map, Function.comp_def]
 rw [hall]
 generalize hg : (fun v : NV => !Vd.link v.n 5 || (p.nodes.countP (fun u => Vd.fits v.n u.n) == 1)) = g
 refine den_loop (fun j vs ls _ => ∃ i : Nat, vs = [.int .i64 (i : Nat)] ∧ ls = [] ∧ i ≤ p.nodes.length ∧ j = p.nodes.length - i ∧ p.nodes.all g = (p.nodes.drop i).all g) p.nodes.length ⟨0, by simp [Sy.dens, Sy.den, E.i, E.b, E.t, gd, Env.push, z_a, z_b, z_c, z_d], rfl, Nat.zero_le _, rfl, rfl⟩ ?_
 rintro j vs ls' W2 x2 ⟨i, rfl, rfl, hi, rfl, ha⟩
 refine ⟨(i : Int), rfl, rfl, fun _ => den_br (fun c1 => ?_) fun c1 => den_ret fun h1 _ _ => ⟨?_, h1 _ (List.mem_singleton.2 rfl)⟩⟩
 ·simp only [zE, ltB_true] at c1
  have hil : i < p.nodes.length := by omega
  have hx1 : p.nodes[i]? = some p.nodes[i] := List.getElem?_eq_getElem hil
  rw [tdrop_get hil, List.all_cons] at ha
  generalize p.nodes[i] = v at hx1 ha
  have hgv : g v = (!Vd.link v.n 5 || (p.nodes.countP (fun u => Vd.fits v.n u.n) == 1)) := by rw [← hg]
  refine den_chk ?_ (den_chk ?_ (den_look ⟨v.n.kd, v.n.inn, v.n.on, v.n.ev, v.n.vars.length, v.vc, v.n.back.length, v.bc, v.n.brk, ⟨v.n.nm.toArray⟩, ⟨v.n.key.toArray⟩, ⟨v.n.txt.toArray⟩, ⟨v.n.set.toArray⟩, v.va, v.ba, fun W3 x3 => ?_, ?_⟩))
  ·simp only [E.b, gd, Env.push]; exact SlI.some_of hp.ns (by omega)
  ·simp only [zE]; exact leB_t (by omega)
  ·have := sl_look (P := Tryz.prog) ndC_len (by decide) hp.ns nd_aggT nd_sizeT hx1 (ext_trans x2 x3)
   simp only [zE, Nat.add_zero] at this ⊢
   exact this
  simp only [zP]
  refine den_new fun m1 W3 _ x3 => den_wr fun W4 x4 => den_call_q (v := .bool (Vd.link v.n 5)) (fun _ _ => link_q v 5 W4) ⟨Vd.link v.n 5, rfl, fun W5 x5 => ?_⟩
  have y5 := ext_trans x2 (ext_trans x3 (ext_trans x4 x5))
  simp only [zP]
  refine den_br (fun c2 => ?_) fun c2 => ?_
  ·have c2 : (!Vd.link v.n 5) = true := c2
   refine den_frz fun W8 _ x8 _ _ => den_again ⟨p.nodes.length - (i + 1), by omega, i + 1, ?_, rfl, by omega, rfl, by rw [ha, hgv, c2, Bool.true_or, Bool.true_and]⟩
   simp only [zE]; rw [w64i (by omega) (by omega)]; rfl
  ·have c2 : (!Vd.link v.n 5) = false := c2
   rw [c2, Bool.false_or] at hgv
   refine den_loop (fun j vs ls _ => ∃ i k : Nat, vs = [.int .i64 (i : Nat), .int .i64 (k : Nat)] ∧ ls = [] ∧ i ≤ p.nodes.length ∧ k ≤ i ∧ j = p.nodes.length - i ∧ p.nodes.countP (fun u => Vd.fits v.n u.n) = k + (p.nodes.drop i).countP (fun u => Vd.fits v.n u.n)) p.nodes.length ⟨0, 0, by simp [Sy.dens, Sy.den, E.i, E.b, E.t, gd, Env.push, z_a, z_b, z_c, z_d], rfl, Nat.zero_le _, Nat.zero_le _, rfl, by simp⟩ ?_
   rintro j2 vs ls' W6 x6 ⟨i2, k, rfl, rfl, hi2, hk, rfl, hb⟩
   have y6 := ext_trans y5 x6
   refine ⟨(i2 : Int), (k : Int), rfl, rfl, fun _ => den_br (fun d1 => ?_) fun d1 => ?_⟩
   ·simp only [zE, ltB_true] at d1
    have hil2 : i2 < p.nodes.length := by omega
    have hx2 : p.nodes[i2]? = some p.nodes[i2] := List.getElem?_eq_getElem hil2
    rw [tdrop_get hil2, List.countP_cons] at hb
    generalize p.nodes[i2] = u at hx2 hb
    refine den_chk ?_ (den_look ⟨u.n.kd, u.n.inn, u.n.on, u.n.ev, u.n.vars.length, u.vc, u.n.back.length, u.bc, u.n.brk, ⟨u.n.nm.toArray⟩, ⟨u.n.key.toArray⟩, ⟨u.n.txt.toArray⟩, ⟨u.n.set.toArray⟩, u.va, u.ba, fun W3 x3 => ?_, ?_⟩)
    ·simp only [zE]; exact leB_t (by omega)
    ·have := sl_look (P := Tryz.prog) ndC_len (by decide) hp.ns nd_aggT nd_sizeT hx2 (ext_trans y6 x3)
     simp only [zE, Nat.add_zero] at this ⊢
     exact this
    simp only [zP]
    refine den_new fun m2 W7 _ x7 => den_wr fun W8 x8 => den_call_q (v := .bool (Vd.link u.n 6)) (fun _ _ => link_q u 6 W8) ⟨Vd.link u.n 6, rfl, fun W9 x9 => ?_⟩
    simp only [zP]
    refine den_br (fun d2 => ?_) fun d2 => ?_
    ·have d2 : Vd.fits v.n u.n = true := d2
     refine den_frz fun W10 _ x10 _ _ => den_again ⟨p.nodes.length - (i2 + 1), by omega, i2 + 1, k + 1, ?_, rfl, by omega, by omega, rfl, ?_⟩
     ·simp only [zE]; rw [w64i (by omega) (by omega), w64i (by omega) (by omega)]; rfl
     ·rw [hb, if_pos d2]; omega
    ·have d2 : Vd.fits v.n u.n = false := d2
     refine den_frz fun W10 _ x10 _ _ => den_again ⟨p.nodes.length - (i2 + 1), by omega, i2 + 1, k, ?_, rfl, by omega, by omega, rfl, ?_⟩
     ·simp only [zE]; rw [w64i (by omega) (by omega)]; rfl
     ·rw [hb, if_neg (by rw [d2]; exact fun h => nomatch h)]; omega
   ·simp only [zE, ltB_false] at d1
    rw [List.drop_eq_nil_of_le (by omega), List.countP_nil, Nat.add_zero] at hb
    refine den_br (fun d2 => den_ret fun h1 _ _ => ⟨?_, h1 _ (List.mem_singleton.2 rfl)⟩) fun d2 => ?_
    ·have d2 : (!((k : Int) == 1)) = true := d2
     have d2 : k ≠ 1 := by rintro rfl; simp at d2
     rw [ha, hgv, hb, show (k == 1) = false by simpa using d2]; rfl
    ·have d2 : (!((k : Int) == 1)) = false := d2
     have d2 : k = 1 := by
      simp only [Bool.not_eq_false', beq_iff_eq] at d2
      omega
     refine den_frz fun W10 _ x10 _ _ => den_again ⟨p.nodes.length - (i + 1), by omega, i + 1, ?_, rfl, by omega, rfl, by rw [ha, hgv, hb, d2]; rfl⟩
     simp only [zE]; rw [w64i (by omega) (by omega)]; rfl
 ·simp only [zE, ltB_false] at c1
  rw [ha, List.drop_eq_nil_of_le (by omega)]; rfl
end Go.Proofs.YtkpjmlnhhggenaaGreatDoor
end
section
/- The walks of package valid: places. -/
namespace Go.Proofs.YtkpjmlnhhggenaaGreatDoor
open Go Go.RowKit Go.SF
theorem places_q (D fr to : Sl3) (p : PV) (m : Nat) (W : Wd) (hp : FitP p W) (hon : ∀ v ∈ p.nodes, v.n.kd = 15 → 0 ≤ v.n.on) (hI : ¬ W.I m) (hm : W.w.heap[m]? = some (.cells (chkC D p fr to).toArray ChT)) :
  CallsQ Tryz.prog 28 #[.pointer (some ⟨m, 0, none⟩)] W (.bool (Vd.places p.pr)) := by
 refine chk_q hI hm fun V hVw hx hVI => ?_
 rw [← hVw] at hm
 have hp := hp.ext hx
 have hln := hp.ln
 have hcap : p.nodes.length ≤ p.nc := hp.ns.2.1
 refine vc_places D.n D.c p.vars.length p.vc p.nodes.length p.nc p.flows.length p.fc fr.n fr.c to.n to.c ⟨p.nm.toArray⟩ D.a p.va p.na p.fa fr.a to.a m V _ hm hVI ?_
 generalize hA : Vd.allAt (Vd.placed p.pr) 0 p.pr.nodes = A
 have hall : Vd.places p.pr = (A && p.nodes.all fun v => Vd.bound p.pr v.n) := by
  rw [Vd.places, hA]; congr 1
  unfold PV.pr
  simp only [List.all_map, Function.comp_def]
 rw [hall]
 refine den_loop (fun j vs ls _ => ∃ i : Nat, vs = [.int .i64 (i : Nat)] ∧ ls = [] ∧ i ≤ p.nodes.length ∧ j = p.nodes.length - i ∧ A = Vd.allAt (Vd.placed p.pr) i (p.pr.nodes.drop i)) p.nodes.length ⟨0, by simp [Sy.dens, Sy.den, E.i, E.b, E.t, gd, Env.push, z_a, z_b, z_c, z_d], rfl, Nat.zero_le _, rfl, hA.symm⟩ ?_
 rintro j vs ls' W2 x2 ⟨i, rfl, rfl, hi, rfl, ha⟩
 refine ⟨(i : Int), rfl, rfl, fun _ => den_br (fun c1 => ?_) fun c1 => ?_⟩
 ·simp only [zE, ltB_true] at c1
  have hil : i < p.nodes.length := by omega
  have hx1 : p.nodes[i]? = some p.nodes[i] := List.getElem?_eq_getElem hil
  have hpl : i < p.pr.nodes.length := by rw [pr_len]; exact hil
  rw [allAt_drop hpl, pr_get hx1 hpl] at ha
  generalize p.nodes[i] = v at hx1 ha
  have hend : Vd.placed p.pr i v.n = false → (A && p.nodes.all fun v => Vd.bound p.pr v.n) = false := fun h => by rw [ha, h, Bool.false_and, Bool.false_and]
  have hgo : Vd.placed p.pr i v.n = true → A = Vd.allAt (Vd.placed p.pr) (i + 1) (p.pr.nodes.drop (i + 1)) := fun h => by rw [ha, h, Bool.true_and]
  have hany : (p.pr.nodes.take i).any (fun k => k.nm == v.n.nm) = (p.nodes.take i).any fun y => y.n.nm == v.n.nm := by
   unfold PV.pr
   simp only [← List.map_take, List.any_map, Function.comp_def]
  refine den_chk ?_ (den_chk ?_ (den_look ⟨v.n.kd, v.n.inn, v.n.on, v.n.ev, v.n.vars.length, v.vc, v.n.back.length, v.bc, v.n.brk, ⟨v.n.nm.toArray⟩, ⟨v.n.key.toArray⟩, ⟨v.n.txt.toArray⟩, ⟨v.n.set.toArray⟩, v.va, v.ba, fun W3 x3 => ?_, ?_⟩))
  ·simp only [E.b, gd, Env.push]; exact SlI.some_of hp.ns (by omega)
  ·simp only [zE]; exact leB_t (by omega)
  ·have := sl_look (P := Tryz.prog) ndC_len (by decide) hp.ns nd_aggT nd_sizeT hx1 (ext_trans x2 x3)
   simp only [zE, Nat.add_zero] at this ⊢
   exact this
  simp only [zP]
  refine den_new fun m1 W3 _ x3 => den_wr fun W4 x4 => den_chk (by simp only [zE]; exact leB_t (by omega)) (den_sub ?_)
  have y4 := ext_trans x2 (ext_trans x3 x4)
  simp only [zP]
  have hT : SlI W4 p.na i p.nc 11 ((p.nodes.take i).flatMap ndC) := by rw [← flat_take ndC_len]; exact sl_take (hp.ns.ext y4) hi
  have hlen : (p.nodes.take i).length = i := by rw [List.length_take]; omega
  refine den_call_q (v := .bool ((p.nodes.take i).any fun y => y.n.nm == v.n.nm)) (fun hb _ => ?_) ⟨(p.nodes.take i).any fun y => y.n.nm == v.n.nm, rfl, fun W5 x5 => ?_⟩
  ·have := ctn_q v (p.nodes.take i) p.na p.nc m1 W4 (by omega) (by rw [hlen]; exact SlAt.w hT) (hb _ (List.mem_singleton.2 rfl))
   rw [hlen] at this
   simp only [Sy.dens, Sy.den, E.i, gd, z_d, Int.toNat_zero, Nat.sub_zero, subA_zero]
   exact this
  simp only [zP]
  have y5 := ext_trans y4 x5
  refine den_br (fun c2 => den_ret fun h1 _ _ => ⟨?_, h1 _ (List.mem_singleton.2 rfl)⟩) fun c2 => ?_
  ·have c2 : ((p.nodes.take i).any fun y => y.n.nm == v.n.nm) = true := c2
   rw [hend (by rw [Vd.placed, hany, c2]; rfl)]; rfl
  ·have c2 : ((p.nodes.take i).any fun y => y.n.nm == v.n.nm) = false := c2
   have hN : Vd.placed p.pr i v.n = ((v.n.inn == Vd.around p.pr i) && (!(decide (0 ≤ v.n.inn)) || Md.scope (Vd.nd p.pr v.n.inn.toNat).kd)) := by rw [Vd.placed, hany, c2]; rfl
   refine den_callq ⟨Vd.around p.pr i, fun U xU _ _ => around_q p U (hp.ext (ext_trans y5 xU)) i hil, ?_⟩
   simp only [zP]
   have hlt := Vd.around_lt p.pr i
   have hcase : ∀ {b : Bool}, ((v.n.inn == Vd.around p.pr i) && decide (0 ≤ v.n.inn)) = b → (b = true → v.n.inn = Vd.around p.pr i ∧ 0 ≤ v.n.inn) := by
    intro b hb h; rw [h] at hb; simpa using hb
   refine den_chk ?_ (den_chk ?_ ?_)
   ·show (!((v.n.inn == Vd.around p.pr i) && decide (0 ≤ v.n.inn)) || decide (0 ≤ v.n.inn)) = true
    cases h : decide (0 ≤ v.n.inn) <;> simp
   ·show (!((v.n.inn == Vd.around p.pr i) && decide (0 ≤ v.n.inn)) || ltB v.n.inn (p.nodes.length : Int)) = true
    cases h : ((v.n.inn == Vd.around p.pr i) && decide (0 ≤ v.n.inn)) with
    | false => rfl
    | true => have := hcase h rfl; exact ltB_t (by omega)
   refine den_br (fun c3 => ?_) fun c3 => ?_
   ·have c3 : ((v.n.inn == Vd.around p.pr i) && decide (0 ≤ v.n.inn)) = true := c3
    have c4 := hcase c3 rfl
    obtain ⟨k, hk⟩ : ∃ k : Nat, v.n.inn = (k : Int) := ⟨v.n.inn.toNat, by omega⟩
    have hkl : k < p.nodes.length := by omega
    have hx3 : p.nodes[k]? = some p.nodes[k] := List.getElem?_eq_getElem hkl
    generalize p.nodes[k] = u at hx3
    have hN : Vd.placed p.pr i v.n = Md.scope u.n.kd := by
     rw [hN, ← c4.1, hk, Int.toNat_natCast, vd_nd hx3, decide_eq_true (by omega : (0 : Int) ≤ (k : Int))]
     simp
    refine den_look ⟨u.n.kd, fun W6 x6 => ?_, ?_⟩
    ·have := sl_look_f (P := Tryz.prog) ndC_len hp.ns k8_aggT (k := 1) hx3 (by decide) (u := .int .u8 u.n.kd) rfl (ext_trans y5 x6)
     simp only [zE, hk, z_d] at this ⊢
     exact this
    simp only [zP]
    refine den_callq ⟨Md.scope u.n.kd, fun U xU _ _ => mscope_q u.n.kd U, ?_⟩
    simp only [zP]
    refine den_grow fun W6 x6 => den_br (fun c5 => den_ret fun h1 _ _ => ⟨?_, h1 _ (List.mem_singleton.2 rfl)⟩) fun c5 => ?_
    ·have c5 : (!Md.scope u.n.kd) = true := c5
     rw [hend (by rw [hN]; simpa using c5)]; rfl
    ·have c5 : (!Md.scope u.n.kd) = false := c5
     refine den_frz fun W8 _ x8 _ _ => den_again ⟨p.nodes.length - (i + 1), by omega, i + 1, ?_, rfl, by omega, rfl, hgo (by rw [hN]; simpa using c5)⟩
     simp only [zE]; rw [w64i (by omega) (by omega)]; rfl
   ·have c3 : ((v.n.inn == Vd.around p.pr i) && decide (0 ≤ v.n.inn)) = false := c3
    refine den_grow fun W6 x6 => den_br (fun c5 => den_ret fun h1 _ _ => ⟨?_, h1 _ (List.mem_singleton.2 rfl)⟩) fun c5 => ?_
    ·have c5 : (!(v.n.inn == Vd.around p.pr i)) = true := c5
     have c5 : (v.n.inn == Vd.around p.pr i) = false := by simpa using c5
     rw [hend (by rw [hN, c5, Bool.false_and])]; rfl
    ·have c5 : (!(v.n.inn == Vd.around p.pr i)) = false := c5
     have c5 : (v.n.inn == Vd.around p.pr i) = true := by simpa using c5
     rw [c5, Bool.true_and] at c3
     refine den_frz fun W8 _ x8 _ _ => den_again ⟨p.nodes.length - (i + 1), by omega, i + 1, ?_, rfl, by omega, rfl, hgo (by rw [hN, c5, c3]; rfl)⟩
     simp only [zE]; rw [w64i (by omega) (by omega)]; rfl
 ·simp only [zE, ltB_false] at c1
  rw [List.drop_eq_nil_of_le (by rw [pr_len]; omega)] at ha
  have ha : A = true := ha
  rw [ha, Bool.true_and]
  generalize hg : (fun v : NV => Vd.bound p.pr v.n) = g
  refine den_loop (fun j vs ls _ => ∃ i : Nat, vs = [.int .i64 (i : Nat)] ∧ ls = [] ∧ i ≤ p.nodes.length ∧ j = p.nodes.length - i ∧ p.nodes.all g = (p.nodes.drop i).all g) p.nodes.length ⟨0, by simp [Sy.dens, Sy.den, E.i, E.b, E.t, gd, Env.push, z_a, z_b, z_c, z_d], rfl, Nat.zero_le _, rfl, rfl⟩ ?_
  rintro j2 vs ls' W3 x3 ⟨i2, rfl, rfl, hi2, rfl, hb⟩
  have y3 := ext_trans x2 x3
  refine ⟨(i2 : Int), rfl, rfl, fun _ => den_br (fun d1 => ?_) fun d1 => den_ret fun h1 _ _ => ⟨?_, h1 _ (List.mem_singleton.2 rfl)⟩⟩
  ·simp only [zE, ltB_true] at d1
   have hil2 : i2 < p.nodes.length := by omega
   have hx1 : p.nodes[i2]? = some p.nodes[i2] := List.getElem?_eq_getElem hil2
   have hon1 := hon _ (List.getElem_mem hil2)
   rw [tdrop_get hil2, List.all_cons] at hb
   generalize p.nodes[i2] = v at hx1 hb hon1
   have hgv : g v = (!(v.n.kd == 15) || (decide (v.n.on < (p.nodes.length : Int)) && (Md.act (Vd.nd p.pr v.n.on.toNat).kd && (Vd.nd p.pr v.n.on.toNat).inn == v.n.inn))) := by rw [← hg, ← pr_len]; rfl
   have hend : g v = false → p.nodes.all g = false := fun h => by rw [hb, h, Bool.false_and]
   have hgo : g v = true → p.nodes.all g = (p.nodes.drop (i2 + 1)).all g := fun h => by rw [hb, h, Bool.true_and]
   refine den_chk ?_ (den_chk ?_ (den_look ⟨v.n.kd, v.n.inn, v.n.on, v.n.ev, v.n.vars.length, v.vc, v.n.back.length, v.bc, v.n.brk, ⟨v.n.nm.toArray⟩, ⟨v.n.key.toArray⟩, ⟨v.n.txt.toArray⟩, ⟨v.n.set.toArray⟩, v.va, v.ba, fun W4 x4 => ?_, ?_⟩))
   ·simp only [E.b, gd, Env.push]; exact SlI.some_of hp.ns (by omega)
   ·simp only [zE]; exact leB_t (by omega)
   ·have := sl_look (P := Tryz.prog) ndC_len (by decide) hp.ns nd_aggT nd_sizeT hx1 (ext_trans y3 x4)
    simp only [zE, Nat.add_zero] at this ⊢
    exact this
   simp only [zP]
   refine den_new fun m1 W4 _ x4 => den_wr fun W5 x5 => den_br (fun d2 => ?_) fun d2 => ?_
   ·have d2 : (!(v.n.kd == 15)) = true := d2
    refine den_frz fun W8 _ x8 _ _ => den_again ⟨p.nodes.length - (i2 + 1), by omega, i2 + 1, ?_, rfl, by omega, rfl, hgo (by rw [hgv, d2, Bool.true_or])⟩
    simp only [zE]; rw [w64i (by omega) (by omega)]; rfl
   ·have d2 : (!(v.n.kd == 15)) = false := d2
    rw [d2, Bool.false_or] at hgv
    have h0 : 0 ≤ v.n.on := hon1 (by simpa using d2)
    have y5 := ext_trans y3 (ext_trans x4 x5)
    refine den_chk (by simp only [zE]; rw [leB_t (by omega : (0 : Int) ≤ v.n.on), Bool.or_true]) (den_chk ?_ ?_)
    ·show (leB (p.nodes.length : Int) v.n.on || ltB v.n.on (p.nodes.length : Int)) = true
     by_cases h : (p.nodes.length : Int) ≤ v.n.on
     ·rw [leB_t h, Bool.true_or]
     ·rw [ltB_t (by omega), Bool.or_true]
    refine den_br (fun d3 => ?_) fun d3 => ?_
    ·have d3 : (!leB (p.nodes.length : Int) v.n.on) = true := d3
     have d3 : v.n.on < (p.nodes.length : Int) := by
      simp only [Bool.not_eq_true', leB_false] at d3; exact d3
     rw [decide_eq_true d3, Bool.true_and] at hgv
     obtain ⟨k, hk⟩ : ∃ k : Nat, v.n.on = (k : Int) := ⟨v.n.on.toNat, by omega⟩
     have hkl : k < p.nodes.length := by omega
     have hx3 : p.nodes[k]? = some p.nodes[k] := List.getElem?_eq_getElem hkl
     generalize p.nodes[k] = u at hx3
     rw [hk, Int.toNat_natCast, vd_nd hx3] at hgv
     refine den_look ⟨u.n.kd, fun W6 x6 => ?_, ?_⟩
     ·have := sl_look_f (P := Tryz.prog) ndC_len hp.ns k8_aggT (k := 1) hx3 (by decide) (u := .int .u8 u.n.kd) rfl (ext_trans y5 x6)
      simp only [zE, hk, z_d] at this ⊢
      exact this
     simp only [zP]
     refine den_callq ⟨Md.act u.n.kd, fun U xU _ _ => mact_q u.n.kd U, ?_⟩
     simp only [zP]
     refine den_br (fun d4 => ?_) fun d4 => ?_
     ·have d4 : Md.act u.n.kd = true := d4
      rw [d4, Bool.true_and] at hgv
      refine den_look ⟨u.n.inn, fun W6 x6 => ?_, ?_⟩
      ·have := sl_look_f (P := Tryz.prog) ndC_len hp.ns i64_aggT (k := 2) hx3 (by decide) (u := .int .i64 u.n.inn) rfl (ext_trans y5 x6)
       simp only [zE, hk, z_d] at this ⊢
       exact this
      simp only [zP]
      refine den_grow fun W6 x6 => den_br (fun d5 => den_ret fun h1 _ _ => ⟨?_, h1 _ (List.mem_singleton.2 rfl)⟩) fun d5 => ?_
      ·have d5 : (!(u.n.inn == v.n.inn)) = true := d5
       rw [hend (by rw [hgv]; simpa using d5)]; rfl
      ·have d5 : (!(u.n.inn == v.n.inn)) = false := d5
       refine den_frz fun W8 _ x8 _ _ => den_again ⟨p.nodes.length - (i2 + 1), by omega, i2 + 1, ?_, rfl, by omega, rfl, hgo (by rw [hgv]; simpa using d5)⟩
       simp only [zE]; rw [w64i (by omega) (by omega)]; rfl
     ·have d4 : Md.act u.n.kd = false := d4
      refine den_grow fun W6 x6 => den_ret fun h1 _ _ => ⟨?_, h1 _ (List.mem_singleton.2 rfl)⟩
      rw [hend (by rw [hgv, d4, Bool.false_and])]; rfl
    ·have d3 : (!leB (p.nodes.length : Int) v.n.on) = false := d3
     have d3 : (p.nodes.length : Int) ≤ v.n.on := by
      simp only [Bool.not_eq_false', leB_true] at d3; exact d3
     refine den_grow fun W6 x6 => den_ret fun h1 _ _ => ⟨?_, h1 _ (List.mem_singleton.2 rfl)⟩
     rw [hend (by rw [hgv, decide_eq_false (by omega), Bool.false_and])]; rfl
  ·simp only [zE, ltB_false] at d1
   rw [hb, List.drop_eq_nil_of_le (by omega)]; rfl
end Go.Proofs.YtkpjmlnhhggenaaGreatDoor
end
section
/- The walks of package valid: starts. -/
namespace Vd
open Go Md
def isStart (s : Int) (n : Nd) : Bool := n.inn == s && n.kd == 1
end Vd
namespace Go.Proofs.YtkpjmlnhhggenaaGreatDoor
open Go Go.RowKit Go.SF
theorem chk_le {a b : E} {ρ : Env} (h : a.i ρ ≤ b.i ρ) : (E.bin .le a b).b ρ = true := leB_t h
def NewNodes (n : Nat) (w' : World) (v : Value) (l : List NV) : Prop := ∃ a c, v = .slice a l.length c ∧ SlAt w' (fun b => n ≤ b) a l.length c 11 (l.flatMap ndC)
theorem chk_i {f : FuncId} {args : Array Value} {W : Wd} {m : Nat} {cs : Array Value} {R : Value → World → Prop} (hI : ¬ W.I m) (hm : W.w.heap[m]? = some (.cells cs ChT))
  (h : ∀ V, V.w = W.w → Ext W V → ¬ V.I m → CallsE Tryz.prog f args V fun e w' => ∃ v, e = .returned v ∧ R v w' ∧ w'.heap[m]? = some (.cells cs ChT)) : CallsI Tryz.prog f args W.all R := by
 have := CallsE.raise (h (W.but [m]) rfl (W.but_ext fun b hb hm => hI (by rw [← List.mem_singleton.1 hm]; exact hb)) fun h => h.2 (List.mem_singleton.2 rfl)) hm fun e w' hR => by obtain ⟨v, _, _, h⟩ := hR; exact h
 exact CallsE.mono this fun e w' _ hR => by obtain ⟨v, h1, h2, _⟩ := hR; exact ⟨v, h1, h2⟩
theorem starts_i (D fr to : Sl3) (p : PV) (s : Int) (m : Nat) (W : Wd) (hp : FitP p W) (hI : ¬ W.I m) (hm : W.w.heap[m]? = some (.cells (chkC D p fr to).toArray ChT)) :
  CallsI Tryz.prog 64 #[.pointer (some ⟨m, 0, none⟩), .int .i64 s] W.all fun v w' => NewNodes W.w.heap.size w' v (p.nodes.filter fun v => Vd.isStart s v.n) := by
 refine chk_i hI hm fun V hVw hx hVI => ?_
 rw [← hVw] at hm
 have hp := hp.ext hx
 have hln := hp.ln
 refine vc_starts s D.n D.c p.vars.length p.vc p.nodes.length p.nc p.flows.length p.fc fr.n fr.c to.n to.c ⟨p.nm.toArray⟩ D.a p.va p.na p.fa fr.a to.a m V _ hm hVI ?_
 refine den_loop (fun j vs ls _ => ∃ (i : Nat) (zs : List NV) (a' : Option Addr) (c' : Nat), vs = [.int .i64 (i : Nat), .slice a' zs.length c'] ∧ ls = [zs.flatMap ndC] ∧ zs = (p.nodes.take i).filter (fun v => Vd.isStart s v.n) ∧ i ≤ p.nodes.length ∧ j = p.nodes.length - i) p.nodes.length ⟨0, [], none, 0, rfl, rfl, by simp, Nat.zero_le _, rfl⟩ ?_
 rintro j vs ls W2 x2 ⟨i, zs, a', c', rfl, rfl, hzs, hi, rfl⟩
 refine ⟨(i : Int), zs.length, c', a', zs.flatMap ndC, rfl, by simp only [zR], fun hrow => ?_⟩
 simp only [zP]
 have hzl : zs.length ≤ 1000000 := by
  have := List.length_filter_le (fun v : NV => Vd.isStart s v.n) (p.nodes.take i)
  rw [← hzs, List.length_take] at this; omega
 refine den_br (fun c1 => ?_) fun c1 => den_ret fun h1 _ hr => ⟨_, rfl, ⟨a', c', ?_, ?_⟩, h1 _ (List.mem_singleton.2 rfl)⟩
 ·simp only [zE, ltB_true] at c1
  have hil : i < p.nodes.length := by omega
  have hts : p.nodes.take (i + 1) = p.nodes.take i ++ [p.nodes[i]] := List.take_succ_eq_append_getElem hil
  have hx1 : p.nodes[i]? = some p.nodes[i] := List.getElem?_eq_getElem hil
  generalize p.nodes[i] = v at hx1 hts
  refine den_chk ?_ (den_chk ?_ (den_look ⟨v.n.kd, v.n.inn, v.n.on, v.n.ev, v.n.vars.length, v.vc, v.n.back.length, v.bc, v.n.brk, ⟨v.n.nm.toArray⟩, ⟨v.n.key.toArray⟩, ⟨v.n.txt.toArray⟩, ⟨v.n.set.toArray⟩, v.va, v.ba, fun W3 x3 => ?_, ?_⟩))
  ·simp only [E.b, gd, Env.push]; exact SlI.some_of hp.ns (by omega)
  ·simp only [zE]; exact leB_t (by omega)
  ·have := sl_look (P := Tryz.prog) ndC_len (by decide) hp.ns nd_aggT nd_sizeT hx1 (ext_trans x2 x3)
   simp only [zE, Nat.add_zero] at this ⊢
   exact this
  simp only [zP]
  refine den_new fun m1 W3 _ x3 => den_wr fun W4 x4 => den_br (fun c2 => ?_) fun c2 => ?_
  ·have c2 : Vd.isStart s v.n = true := c2
   refine den_new fun m2 W5 _ x5 => den_chk (chk_le (by simp only [zE]; omega)) (den_app fun a6 c6 W6 _ x6 => den_frz fun W7 _ x7 _ _ => den_again ⟨p.nodes.length - (i + 1), by omega, i + 1, zs ++ [v], a6, c6, ?_, ?_, ?_, by omega, rfl⟩)
   ·simp only [zE]
    rw [w64i (by omega) (by omega), List.length_append]; rfl
   ·simp only [rowConts, conts, Seg.den, gd, Env.push, z_e, z_f, z_g, z_h, z_c, List.flatMap_append]
    rfl
   ·rw [hts, List.filter_append, ← hzs, List.filter_cons_of_pos (by exact c2), List.filter_nil]
  ·have c2 : Vd.isStart s v.n = false := c2
   refine den_frz fun W7 _ x7 _ _ => den_again ⟨p.nodes.length - (i + 1), by omega, i + 1, zs, a', c', ?_, by simp only [zR], ?_, by omega, rfl⟩
   ·simp only [zE]
    rw [w64i (by omega) (by omega)]; rfl
   ·rw [hts, List.filter_append, ← hzs, List.filter_cons_of_neg (by rw [c2]; exact fun h => nomatch h), List.filter_nil, List.append_nil]
 ·simp only [zE, ltB_false] at c1
  rw [List.take_of_length_le (by omega)] at hzs
  rw [← hzs]; rfl
 ·simp only [zE, ltB_false] at c1
  rw [List.take_of_length_le (by omega)] at hzs
  have h5 := (hr _ (List.mem_cons_self ..)).1
  simp only [zR, Sy.den, E.i, z_d] at h5
  rw [← hzs, ← hVw]
  exact owns_sl h5
end Go.Proofs.YtkpjmlnhhggenaaGreatDoor
end
section
/- The walks of package valid: named, called. -/
namespace Vd
open Go Md
def named (l : List Var) (nm : Bs) : Int := match l.find? fun v => v.name == nm with
 | some v => v.k
 | none => 0
def begun (n : Nd) : Bool := ((n.inn == -1) && (n.kd == 1)) && (n.ev == 0)
end Vd
namespace Go.Proofs.YtkpjmlnhhggenaaGreatDoor
open Go Go.RowKit Go.SF
def FoundAt {α : Type} (f : α → Bool) (l : List α) (r : Int) : Prop := (r < 0 ∧ l.find? f = none) ∨ ∃ (i : Nat) (x : α), r = (i : Int) ∧ l[i]? = some x ∧ l.find? f = some x
theorem find_drop {α : Type} {f : α → Bool} {l : List α} {i : Nat} {x : α} (h : l[i]? = some x) : (l.drop i).find? f = if f x then some x else (l.drop (i + 1)).find? f := by
 have hi : i < l.length := by rw [List.getElem?_eq_some_iff] at h; exact h.1
 rw [tdrop_get hi]
 rw [List.getElem?_eq_getElem hi, Option.some.injEq] at h
 rw [h, List.find?_cons]
 cases f x <;> rfl
theorem named1_q (v : Md.Var) (s : Md.Bs) (m : Nat) (W : Wd) (hm : W.w.heap[m]? = some (.cells #[strB s] 9)) : CallsQ Tryz.prog 118 #[.agg (varC v).toArray, .pointer (some ⟨m, 0, none⟩)] W (.bool (v.name == s)) := by
 refine vc_named1 v.k v.n ⟨v.name.toArray⟩ ⟨v.t.toArray⟩ ⟨s.toArray⟩ m W.all _ hm (Array.getElem?_eq_some_iff.1 hm).1 ?_
 exact den_new fun m W1 _ x1 => den_ret fun _ _ _ => ⟨_, rfl, rfl⟩
theorem ixnm_i (s : Md.Bs) (l : List Md.Var) (a : Option Addr) (c : Nat) (m : Nat) (W : Wd) (hl : l.length ≤ 2000000000000) (hV : SlI W a l.length c 4 (l.flatMap varC)) (hm : W.w.heap[m]? = some (.cells #[strB s] 9)) (hI : W.I m) :
  CallsI Tryz.prog 112 #[.slice a l.length c, .func (.func 118) #[] #[.pointer (some ⟨m, 0, none⟩)]] W.all fun v w' => ∃ r : Int, v = .int .i64 r ∧ FoundAt (fun v => v.name == s) l r := by
 refine vc_ixnm l.length c ⟨s.toArray⟩ a m W.all _ hm (W.lt m hI) ?_
 refine den_loop (fun j vs ls _ => ∃ i : Nat, vs = [.int .i64 (i : Nat)] ∧ ls = [] ∧ i ≤ l.length ∧ j = l.length - i ∧ l.find? (fun v => v.name == s) = (l.drop i).find? (fun v => v.name == s)) l.length ⟨0, by simp [Sy.dens, Sy.den, E.i, E.b, E.t, gd, Env.push, z_a, z_b, z_c, z_d], rfl, Nat.zero_le _, rfl, rfl⟩ ?_
 rintro j vs ls' W2 x2 ⟨i, rfl, rfl, hi, rfl, ha⟩
 have x2' := ext_trans W.all_ext x2
 refine ⟨(i : Int), rfl, rfl, fun _ => den_br (fun c1 => ?_) fun c1 => den_ret fun _ _ _ => ⟨_, rfl, -1, rfl, .inl ⟨by omega, ?_⟩⟩⟩
 ·simp only [zE, ltB_true] at c1
  have hil : i < l.length := by omega
  have hx : l[i]? = some l[i] := List.getElem?_eq_getElem hil
  generalize l[i] = x at hx
  rw [find_drop hx] at ha
  refine den_chk ?_ (den_chk ?_ (den_look ⟨x.k, x.n, ⟨x.name.toArray⟩, ⟨x.t.toArray⟩, fun W3 x3 => ?_, ?_⟩))
  ·simp only [E.b, gd, Env.push]; exact SlI.some_of hV (by omega)
  ·simp only [zE]; exact leB_t (by omega)
  ·have := sl_look (P := Tryz.prog) varC_len (by decide) hV var_aggT var_sizeT hx (ext_trans x2' x3)
   simp only [zE, Nat.add_zero] at this ⊢
   exact this
  ·simp only [zP]
   refine den_call_q (v := .bool (x.name == s)) (fun hb _ => named1_q x s m W2 (hb _ (List.mem_singleton.2 rfl))) ⟨x.name == s, rfl, fun W3 x3 => ?_⟩
   simp only [zP]
   refine den_br (fun c2 => den_ret fun _ _ _ => ⟨_, rfl, (i : Int), rfl, .inr ⟨i, x, rfl, hx, ?_⟩⟩) fun c2 => den_again ⟨l.length - (i + 1), by omega, i + 1, ?_, rfl, by omega, rfl, ?_⟩
   ·have c2 : (x.name == s) = true := c2
    rw [ha, if_pos c2]
   ·simp only [zE]; rw [w64i (by omega) (by omega)]; rfl
   ·have c2 : (x.name == s) = false := c2
    rw [ha, if_neg (by rw [c2]; exact fun h => nomatch h)]
 ·simp only [zE, ltB_false] at c1
  rw [ha, List.drop_eq_nil_of_le (by omega)]; rfl
theorem named_q (s : Md.Bs) (l : List Md.Var) (a : Option Addr) (c : Nat) (W : Wd) (hl : l.length ≤ 2000000000000) (hV : SlI W a l.length c 4 (l.flatMap varC)) :
  CallsQ Tryz.prog 66 #[.slice a l.length c, .string ⟨s.toArray⟩] W (.int .u8 (Vd.named l s)) := by
 have hV := hV.ext W.all_ext
 refine vc_named l.length c ⟨s.toArray⟩ a W.all _ ?_
 refine den_new fun m W1 _ x1 => den_call_i (fun hb _ => ixnm_i s l a c m W1.all hl (hV.ext (ext_trans x1 W1.all_ext)) (hb _ (List.mem_singleton.2 rfl)) (Array.getElem?_eq_some_iff.1 (hb _ (List.mem_singleton.2 rfl))).1) fun v w' _ ⟨r, hv, hr⟩ => ⟨r, hv, fun W2 _ x2 _ => ?_⟩
 have y2 := ext_trans x1 x2
 simp only [zP]
 rcases hr with ⟨h1, h2⟩ | ⟨i, x, rfl, hx, h2⟩
 ·have e : Vd.named l s = 0 := by rw [Vd.named, h2]
  rw [e]
  refine den_br (fun c => den_ret fun _ _ _ => ⟨_, rfl, rfl⟩) fun c => ?_
  simp only [zE, ltB_false] at c
  omega
 ·have e : Vd.named l s = x.k := by rw [Vd.named, h2]
  rw [e]
  have hil : i < l.length := (List.getElem?_eq_some_iff.1 hx).1
  refine den_br (fun c => by simp only [zE, ltB_true] at c; omega) fun c => den_chk ?_ (den_chk ?_ (den_chk ?_ (den_look ⟨x.k, fun W3 x3 => ?_, ?_⟩)))
  ·simp only [E.b, gd, Env.push]; exact SlI.some_of hV (by omega)
  ·simp only [zE]; exact leB_t (by omega)
  ·simp only [zE]; exact ltB_t (by omega)
  ·have := sl_look_f (P := Tryz.prog) varC_len hV k8_aggT (k := 1) hx (by decide) (u := .int .u8 x.k) rfl (ext_trans y2 x3)
   simp only [zE] at this ⊢
   exact this
  ·simp only [zP]
   exact den_ret fun _ _ _ => ⟨_, rfl, rfl⟩
theorem cal1_q (q : PV) (s : Md.Bs) (m : Nat) (W : Wd) (hm : W.w.heap[m]? = some (.cells #[strB s] 9)) : CallsQ Tryz.prog 120 #[.agg (prC q).toArray, .pointer (some ⟨m, 0, none⟩)] W (.bool (q.nm == s)) := by
 refine vc_cal1 q.vars.length q.vc q.nodes.length q.nc q.flows.length q.fc ⟨q.nm.toArray⟩ ⟨s.toArray⟩ q.va q.na q.fa m W.all _ hm (Array.getElem?_eq_some_iff.1 hm).1 ?_
 exact den_new fun m W1 _ x1 => den_ret fun _ _ _ => ⟨_, rfl, rfl⟩
theorem pr_aggT : aggT Tryz.prog 31 = some true := by kernel_rfl
theorem pr_sizeT : sizeT Tryz.prog 31 = some 4 := by kernel_rfl
theorem ixp_i (s : Md.Bs) (l : List PV) (a : Option Addr) (c : Nat) (m : Nat) (W : Wd) (hl : l.length ≤ 1000000) (hV : SlI W a l.length c 4 (l.flatMap prC)) (hm : W.w.heap[m]? = some (.cells #[strB s] 9)) (hI : W.I m) :
  CallsI Tryz.prog 119 #[.slice a l.length c, .func (.func 120) #[] #[.pointer (some ⟨m, 0, none⟩)]] W.all fun v w' => ∃ r : Int, v = .int .i64 r ∧ FoundAt (fun q => q.nm == s) l r := by
 refine vc_ixp l.length c ⟨s.toArray⟩ a m W.all _ hm (W.lt m hI) ?_
 refine den_loop (fun j vs ls _ => ∃ i : Nat, vs = [.int .i64 (i : Nat)] ∧ ls = [] ∧ i ≤ l.length ∧ j = l.length - i ∧ l.find? (fun q => q.nm == s) = (l.drop i).find? (fun q => q.nm == s)) l.length ⟨0, by simp [Sy.dens, Sy.den, E.i, E.b, E.t, gd, Env.push, z_a, z_b, z_c, z_d], rfl, Nat.zero_le _, rfl, rfl⟩ ?_
 rintro j vs ls' W2 x2 ⟨i, rfl, rfl, hi, rfl, ha⟩
 have x2' := ext_trans W.all_ext x2
 refine ⟨(i : Int), rfl, rfl, fun _ => den_br (fun c1 => ?_) fun c1 => den_ret fun _ _ _ => ⟨_, rfl, -1, rfl, .inl ⟨by omega, ?_⟩⟩⟩
 ·simp only [zE, ltB_true] at c1
  have hil : i < l.length := by omega
  have hx : l[i]? = some l[i] := List.getElem?_eq_getElem hil
  generalize l[i] = q at hx
  rw [find_drop hx] at ha
  refine den_chk ?_ (den_chk ?_ (den_look ⟨q.vars.length, q.vc, q.nodes.length, q.nc, q.flows.length, q.fc, ⟨q.nm.toArray⟩, q.va, q.na, q.fa, fun W3 x3 => ?_, ?_⟩))
  ·simp only [E.b, gd, Env.push]; exact SlI.some_of hV (by omega)
  ·simp only [zE]; exact leB_t (by omega)
  ·have := sl_look (P := Tryz.prog) prC_len (by decide) hV pr_aggT pr_sizeT hx (ext_trans x2' x3)
   simp only [zE, Nat.add_zero] at this ⊢
   exact this
  ·simp only [zP]
   refine den_call_q (v := .bool (q.nm == s)) (fun hb _ => cal1_q q s m W2 (hb _ (List.mem_singleton.2 rfl))) ⟨q.nm == s, rfl, fun W3 x3 => ?_⟩
   simp only [zP]
   refine den_br (fun c2 => den_ret fun _ _ _ => ⟨_, rfl, (i : Int), rfl, .inr ⟨i, q, rfl, hx, ?_⟩⟩) fun c2 => den_again ⟨l.length - (i + 1), by omega, i + 1, ?_, rfl, by omega, rfl, ?_⟩
   ·have c2 : (q.nm == s) = true := c2
    rw [ha, if_pos c2]
   ·simp only [zE]; rw [w64i (by omega) (by omega)]; rfl
   ·have c2 : (q.nm == s) = false := c2
    rw [ha, if_neg (by rw [c2]; exact fun h => nomatch h)]
 ·simp only [zE, ltB_false] at c1
  rw [ha, List.drop_eq_nil_of_le (by omega)]; rfl
theorem cal2_q (v : NV) (W : Wd) : CallsQ Tryz.prog 121 #[.agg (ndC v).toArray] W (.bool (Vd.begun v.n)) := by
 refine vc_cal2 v.n.kd v.n.inn v.n.on v.n.ev v.n.vars.length v.vc v.n.back.length v.bc v.n.brk ⟨v.n.nm.toArray⟩ ⟨v.n.key.toArray⟩ ⟨v.n.txt.toArray⟩ ⟨v.n.set.toArray⟩ v.va v.ba W.all _ ?_
 exact den_new fun m W1 _ x1 => den_ret fun _ _ _ => ⟨_, rfl, rfl⟩
theorem ixn2_i (l : List NV) (a : Option Addr) (c : Nat) (W : Wd) (hl : l.length ≤ 1000000) (hV : SlI W a l.length c 11 (l.flatMap ndC)) :
  CallsI Tryz.prog 117 #[.slice a l.length c, .func (.func 121) #[] #[]] W.all fun v w' => ∃ r : Int, v = .int .i64 r ∧ leB 0 r = l.any fun y => Vd.begun y.n := by
 refine vc_ixn2 l.length c a W.all _ ?_
 refine den_loop (fun j vs ls _ => ∃ i : Nat, vs = [.int .i64 (i : Nat)] ∧ ls = [] ∧ i ≤ l.length ∧ j = l.length - i ∧ (l.any fun y => Vd.begun y.n) = ((l.drop i).any fun y => Vd.begun y.n)) l.length ⟨0, by simp [Sy.dens, Sy.den, E.i, E.b, E.t, gd, Env.push, z_a, z_b, z_c, z_d], rfl, Nat.zero_le _, rfl, rfl⟩ ?_
 rintro j vs ls' W2 x2 ⟨i, rfl, rfl, hi, rfl, ha⟩
 have x2' := ext_trans W.all_ext x2
 refine ⟨(i : Int), rfl, rfl, fun _ => den_br (fun c1 => ?_) fun c1 => den_ret fun _ _ _ => ⟨_, rfl, -1, rfl, ?_⟩⟩
 ·simp only [zE, ltB_true] at c1
  have hil : i < l.length := by omega
  have hx : l[i]? = some l[i] := List.getElem?_eq_getElem hil
  rw [tdrop_get hil] at ha
  generalize l[i] = v at hx ha
  refine den_chk ?_ (den_chk ?_ (den_look ⟨v.n.kd, v.n.inn, v.n.on, v.n.ev, v.n.vars.length, v.vc, v.n.back.length, v.bc, v.n.brk, ⟨v.n.nm.toArray⟩, ⟨v.n.key.toArray⟩, ⟨v.n.txt.toArray⟩, ⟨v.n.set.toArray⟩, v.va, v.ba, fun W3 x3 => ?_, ?_⟩))
  ·simp only [E.b, gd, Env.push]; exact SlI.some_of hV (by omega)
  ·simp only [zE]; exact leB_t (by omega)
  ·have := sl_look (P := Tryz.prog) ndC_len (by decide) hV nd_aggT nd_sizeT hx (ext_trans x2' x3)
   simp only [zE, Nat.add_zero] at this ⊢
   exact this
  ·simp only [zP]
   refine den_call_q (v := .bool (Vd.begun v.n)) (fun hb _ => cal2_q v W2) ⟨Vd.begun v.n, rfl, fun W3 x3 => ?_⟩
   simp only [zP]
   refine den_br (fun c2 => den_ret fun _ _ _ => ⟨_, rfl, (i : Int), rfl, ?_⟩) fun c2 => den_again ⟨l.length - (i + 1), by omega, i + 1, ?_, rfl, by omega, rfl, ?_⟩
   ·have c2 : Vd.begun v.n = true := c2
    rw [ha, List.any_cons, c2]; exact leB_t (by omega)
   ·simp only [zE]; rw [w64i (by omega) (by omega)]; rfl
   ·have c2 : Vd.begun v.n = false := c2
    rw [ha, List.any_cons, c2, Bool.false_or]
 ·simp only [zE, ltB_false] at c1
  rw [ha, List.drop_eq_nil_of_le (by omega)]; rfl
theorem ctn2_q (l : List NV) (a : Option Addr) (c : Nat) (W : Wd) (hl : l.length ≤ 1000000) (hV : SlI W a l.length c 11 (l.flatMap ndC)) :
  CallsQ Tryz.prog 60 #[.slice a l.length c, .func (.func 121) #[] #[]] W (.bool (l.any fun y => Vd.begun y.n)) := by
 refine vc_ctn2 l.length c a W.all _ ?_
 refine den_call_i (fun _ _ => ixn2_i l a c W.all hl (hV.ext W.all_ext)) fun v w' _ ⟨r, hv, hr⟩ => ⟨r, hv, fun W2 _ _ _ => den_ret fun _ _ _ => ⟨_, rfl, ?_⟩⟩
 show Value.bool (leB 0 r) = _
 rw [hr]
def CalledV (defs : List PV) (s : Md.Bs) (v : Value) : Prop :=
 (defs.find? (fun q => q.nm == s) = none ∧ v = .tuple #[.agg #[.string ⟨#[]⟩, .slice none 0 0, .slice none 0 0, .slice none 0 0], .bool false]) ∨
 ∃ q, q ∈ defs ∧ defs.find? (fun q => q.nm == s) = some q ∧ v = .tuple #[.agg (prC q).toArray, .bool (q.nodes.any fun y => Vd.begun y.n)]
theorem called_i (defs : List PV) (da : Option Addr) (dc : Nat) (fr to : Sl3) (p : PV) (s : Md.Bs) (m : Nat) (W : Wd) (hd : defs.length ≤ 1000000) (hD : SlI W da defs.length dc 4 (defs.flatMap prC)) (hF : ∀ q ∈ defs, FitP q W)
  (hI : ¬ W.I m) (hm : W.w.heap[m]? = some (.cells (chkC ⟨da, defs.length, dc⟩ p fr to).toArray ChT)) :
  CallsI Tryz.prog 67 #[.pointer (some ⟨m, 0, none⟩), .string ⟨s.toArray⟩] W.all fun v w' => CalledV defs s v := by
 refine chk_i hI hm fun V hVw hx hVI => ?_
 rw [← hVw] at hm
 have hD := hD.ext hx
 refine vc_called defs.length dc p.vars.length p.vc p.nodes.length p.nc p.flows.length p.fc fr.n fr.c to.n to.c ⟨p.nm.toArray⟩ ⟨s.toArray⟩ da p.va p.na p.fa fr.a to.a m V _ hm hVI ?_
 refine den_new fun m1 W1 _ x1 => den_new fun m2 W2 _ x2 => ?_
 have y2 := ext_trans x1 x2
 refine den_call_i (fun hb _ => ixp_i s defs da dc m1 W2.all hd (hD.ext (ext_trans y2 W2.all_ext)) (hb _ (List.mem_singleton.2 rfl)) (Array.getElem?_eq_some_iff.1 (hb _ (List.mem_singleton.2 rfl))).1) fun v w' _ ⟨r, hv, hr⟩ => ⟨r, hv, fun W3 _ x3 _ => ?_⟩
 have y3 := ext_trans y2 x3
 simp only [zP]
 rcases hr with ⟨h1, h2⟩ | ⟨i, q, rfl, hx1, h2⟩
 ·refine den_br (fun c => den_wr fun W4 _ => den_ret fun h5 _ _ => ⟨_, rfl, .inl ⟨h2, rfl⟩, h5 _ (List.mem_singleton.2 rfl)⟩) fun c => ?_
  simp only [zE, ltB_false] at c
  omega
 ·have hil : i < defs.length := (List.getElem?_eq_some_iff.1 hx1).1
  have hq : q ∈ defs := List.mem_of_getElem? hx1
  have hqF := (hF q hq).ext hx
  refine den_br (fun c => by simp only [zE, ltB_true] at c; omega) fun c => den_chk ?_ (den_chk ?_ (den_chk ?_ (den_look ⟨q.vars.length, q.vc, q.nodes.length, q.nc, q.flows.length, q.fc, ⟨q.nm.toArray⟩, q.va, q.na, q.fa, fun W4 x4 => ?_, ?_⟩)))
  ·simp only [E.b, gd, Env.push]; exact SlI.some_of hD (by omega)
  ·simp only [zE]; exact leB_t (by omega)
  ·simp only [zE]; exact ltB_t (by omega)
  ·have := sl_look (P := Tryz.prog) prC_len (by decide) hD pr_aggT pr_sizeT hx1 (ext_trans y3 x4)
   simp only [zE, Nat.add_zero] at this ⊢
   exact this
  simp only [zP]
  refine den_look ⟨q.nodes.length, q.nc, q.na, fun W4 x4 => ?_, ?_⟩
  ·have := sl_look_f (P := Tryz.prog) prC_len hD (by kernel_rfl : aggT Tryz.prog 28 = some false) (k := 2) hx1 (by decide) (u := .slice q.na q.nodes.length q.nc) rfl (ext_trans y3 x4)
   simp only [zE] at this ⊢
   exact this
  simp only [zP]
  refine den_callq ⟨q.nodes.any fun y => Vd.begun y.n, fun U xU _ _ => ctn2_q q.nodes q.na q.nc U hqF.ln (hqF.ns.ext (ext_trans y3 xU)), ?_⟩
  simp only [zP]
  exact den_grow fun W4 _ => den_wr fun W5 _ => den_grow fun W6 _ => den_ret fun h5 _ _ => ⟨_, rfl, .inr ⟨q, hq, h2, rfl⟩, h5 _ (List.mem_singleton.2 rfl)⟩
end Go.Proofs.YtkpjmlnhhggenaaGreatDoor
end
