/- The walk that the kernel computes: symbolic values and worlds, and that they are sound. -/
import Derived.Test.YtckgdgkkmhochaaGreatDoorSfD
set_option linter.unusedSimpArgs false
set_option linter.unusedVariables false
section
set_option linter.unusedVariables false
namespace Go.SF
open Go Go.RowKit

variable {P : Program}

/-- a cut: ahead of region k; the state there, and what is left to show from there -/
structure Cut where
  k : Nat
  S : St
  T : Tree
def atB (k : Nat) (b : Code) : Bool := match firstR b with
  | some j => Nat.beq j k
  | none => false
def cutIn (k : Nat) : Code → Bool
  | .seq a b => atB k b || (cutIn k a || cutIn k b)
  | _ => false
def oneAt (k : Nat) (a b : Code) : Bool := if cutIn k a then !(atB k b) && !(cutIn k b) else !(atB k b && cutIn k b)
def cntSame (a b : Cnt) : Bool := Nat.beq a.I b.I && (Nat.beq a.N b.N && (Nat.beq a.B b.B && (Nat.beq a.T b.T && (Nat.beq a.V b.V && (Nat.beq a.A b.A && (Nat.beq a.M b.M && Nat.beq a.L b.L))))))
theorem cntSame_eq {a b : Cnt} (h : cntSame a b = true) : a = b := by
  cases a; cases b
  simp only [cntSame, Bool.and_eq_true] at h
  obtain ⟨h1, h2, h3, h4, h5, h6, h7, h8⟩ := h
  rw [Nat.eq_of_beq_eq_true h1, Nat.eq_of_beq_eq_true h2, Nat.eq_of_beq_eq_true h3, Nat.eq_of_beq_eq_true h4, Nat.eq_of_beq_eq_true h5, Nat.eq_of_beq_eq_true h6, Nat.eq_of_beq_eq_true h7, Nat.eq_of_beq_eq_true h8]
def xtab (x : Cut) (s' : St) : Option Tree :=
  if cover s' x.S && (rowsSame s'.rw x.S.rw && (x.S.kn.isEmpty && (cntSame s'.c x.S.c && Nat.beq x.S.lp s'.lp))) then some x.T else none
theorem xtab_ok {x : Cut} {s' : St} {t : Tree} (h : xtab x s' = some t) {N : Nat} {W0 : Wd} {ρ : Env} {a : Act} {W : Wd} (hh : Holds N W0 ρ s' a W) : t = x.T ∧ x.S.lp = s'.lp ∧ Holds N W0 ρ x.S a W := by
  unfold xtab at h
  split at h
  · rename_i hc
    simp only [Bool.and_eq_true] at hc
    obtain ⟨h1, h2, h3, h4, h5⟩ := hc
    refine ⟨(Option.some.inj h).symm, Nat.eq_of_beq_eq_true h5, ?_⟩
    have hr := rowsSame_eq h2
    have hk : x.S.kn = [] := List.isEmpty_iff.1 h3
    have := hh.cover h1 (by rw [← hr]; exact hh.rowsGood) (by rw [hk]; intro p hp; cases hp)
    rw [cntSame_eq h4] at this
    exact this
  · cases h
/-- the code from its start to the cuts -/
def xm (P : Program) (cf : Cfg) (inl : Inl) (cs : List Cut) : Code → St → (X → St → Option Tree) → Option Tree
  | .seq a b, s, K => if cs.all fun x => oneAt x.k a b then
      xm P cf inl cs a s fun x s' => match x with
        | .nrm => match cs.find? fun y => atB y.k b with
          | some y => xtab y s'
          | none => xm P cf inl cs b s' K
        | x => K x s'
    else none
  | c, s, K => xcode P cf inl c s K
/-- the code from a cut to the next ones -/
def xf (P : Program) (cf : Cfg) (inl : Inl) (k : Nat) (cs : List Cut) : Code → St → (X → St → Option Tree) → Option Tree
  | .seq a b, s, K => if cs.all fun x => oneAt x.k a b then
      if cutIn k a then xf P cf inl k cs a s fun x s' => match x with
        | .nrm => match cs.find? fun y => atB y.k b with
          | some y => xtab y s'
          | none => xm P cf inl cs b s' K
        | x => K x s'
      else if atB k b then xm P cf inl cs b s K else xf P cf inl k cs b s K
    else none
  | _, _, _ => none
/-- what the code from a cut on does -/
def wpFrom (P : Program) (k : Nat) : Code → (Exit → Act → World → Prop) → Act → World → Prop
  | .seq a b, Q, act, w => if cutIn k a then wpFrom P k a (Exit.then (fun act w => b.wp P Q act w) Q) act w else if atB k b then b.wp P Q act w else wpFrom P k b Q act w
  | _, _, _, _ => False
def Claim (P : Program) (N : Nat) (W0 : Wd) (R : Ending → World → Prop) (c : Code) (Q : Exit → Act → World → Prop) (L : Lv) (ρ : Env) (W : Wd) (x : Cut) : Prop :=
  ∀ d M a' W', Ext W W' → Holds N W0 (ρ.push d) x.S a' W' → x.S.lp = (L ++ M).length → x.T.den P N R (L ++ M) (ρ.push d) W' → wpFrom P x.k c Q a' W'.w
theorem Claim.step {N : Nat} {W0 : Wd} {R : Ending → World → Prop} {c : Code} {Q : Exit → Act → World → Prop} {L M : Lv} {ρ d : Env} {W W1 : Wd} {y : Cut} (h : Claim P N W0 R c Q L ρ W y) (x : Ext W W1) : Claim P N W0 R c Q (L ++ M) (ρ.push d) W1 y :=
  fun e M' a' W' hx h1 h2 h3 => h (d.push e) (M ++ M') a' W' (x.trans hx) (by rw [← push_push]; exact h1) (by rw [← List.append_assoc]; exact h2) (by rw [← push_push, ← List.append_assoc]; exact h3)
section
variable {N : Nat} {W0 : Wd} {R : Ending → World → Prop} {cf : Cfg} {inl : Inl} {cs : List Cut}
theorem Claim.left {a b : Code} {Q : Exit → Act → World → Prop} {L : Lv} {ρ : Env} {W : Wd} {y : Cut} (h : Claim P N W0 R (.seq a b) Q L ρ W y) (hc : cutIn y.k a = true) : Claim P N W0 R a (Exit.then (fun act w => b.wp P Q act w) Q) L ρ W y :=
  fun d M a' W' hx h1 h2 h3 => by
    have := h d M a' W' hx h1 h2 h3
    simp only [wpFrom, hc, if_true] at this
    exact this
theorem Claim.right {a b : Code} {Q : Exit → Act → World → Prop} {L : Lv} {ρ : Env} {W : Wd} {y : Cut} (h : Claim P N W0 R (.seq a b) Q L ρ W y) (ha : cutIn y.k a = false) (hb : atB y.k b = false) : Claim P N W0 R b Q L ρ W y :=
  fun d M a' W' hx h1 h2 h3 => by
    have := h d M a' W' hx h1 h2 h3
    simp only [wpFrom, ha, hb] at this
    exact this
theorem oneAt_b {k : Nat} {a b : Code} (h : oneAt k a b = true) (hb : cutIn k b = true) : cutIn k a = false ∧ atB k b = false := by
  unfold oneAt at h
  split at h
  · simp [hb] at h
  · rename_i ha
    simp only [hb, Bool.and_true, Bool.not_eq_true'] at h
    exact ⟨by simpa using ha, h⟩
theorem oneAt_at {k : Nat} {a b : Code} (h : oneAt k a b = true) (hb : atB k b = true) : cutIn k a = false := by
  unfold oneAt at h
  split at h
  · simp [hb] at h
  · rename_i ha; simpa using ha
theorem seqK {a b : Code} {K : X → St → Option Tree} {Q : Exit → Act → World → Prop} {L : Lv} {ρ : Env} {W : Wd} (hall : (cs.all fun x => oneAt x.k a b) = true) (hK : KOkX P N W0 R L ρ W K Q)
    (hcl : ∀ x ∈ cs, cutIn x.k (.seq a b) = true → Claim P N W0 R (.seq a b) Q L ρ W x)
    (ihb : ∀ s K t L ρ act W Q, PanOk W0 R Q → xm P cf inl cs b s K = some t → Holds N W0 ρ s act W → s.lp = L.length → t.den P N R L ρ W → KOkX P N W0 R L ρ W K Q → (∀ x ∈ cs, cutIn x.k b = true → Claim P N W0 R b Q L ρ W x) → b.wp P Q act W.w) (hP : PanOk W0 R Q) :
    KOkX P N W0 R L ρ W (fun x s' => match x with
        | .nrm => match cs.find? fun y => atB y.k b with
          | some y => xtab y s'
          | none => xm P cf inl cs b s' K
        | x => K x s') (Exit.then (fun act w => b.wp P Q act w) Q) := by
  intro z s' t' e M a' W' h1 hx' hl' h2 h3
  cases z with
  | nrm =>
    dsimp only at h1
    split at h1
    · rename_i y hy
      have hm := List.mem_of_find?_eq_some hy
      have hat : atB y.k b = true := by have := List.find?_some hy; simpa using this
      have ha := oneAt_at (List.all_eq_true.1 hall y hm) hat
      obtain ⟨rfl, hl2, h4⟩ := xtab_ok h1 h2
      have := hcl y hm (by simp [cutIn, hat]) e M a' W' hx' h4 (hl2.trans hl') h3
      simp only [wpFrom, ha, hat, if_true] at this
      exact this
    · exact ihb s' K t' (L ++ M) (ρ.push e) a' W' Q hP h1 h2 hl' h3 (hK.step hx') fun x hx hc => by
        have ho := oneAt_b (List.all_eq_true.1 hall x hx) hc
        exact ((hcl x hx (by simp [cutIn, hc])).step hx').right ho.1 ho.2
  | exit id => exact hK (.exit id) s' t' e M a' W' h1 hx' hl' h2 h3
  | ret => exact hK .ret s' t' e M a' W' h1 hx' hl' h2 h3
theorem xm_ok (hI : InlOk P inl) : ∀ (c : Code) (s : St) (K : X → St → Option Tree) (t : Tree) (L : Lv) (ρ : Env) (a : Act) (W : Wd) (Q : Exit → Act → World → Prop), PanOk W0 R Q →
    xm P cf inl cs c s K = some t → Holds N W0 ρ s a W → s.lp = L.length → t.den P N R L ρ W → KOkX P N W0 R L ρ W K Q → (∀ x ∈ cs, cutIn x.k c = true → Claim P N W0 R c Q L ρ W x) → c.wp P Q a W.w := by
  intro c
  induction c with
  | seq a b iha ihb =>
    intro s K t L ρ act W Q hP hx hh hl ht hK hcl
    simp only [xm] at hx
    split at hx
    · rename_i hall
      refine wp_seq ?_
      refine iha s _ t L ρ act W _ (hP.thn _) hx hh hl ht (seqK hall hK hcl ihb hP) fun x hx hc => ?_
      exact (hcl x hx (by simp [cutIn, hc])).left hc
    · cases hx
  | _ => intro s K t L ρ act W Q hP hx hh hl ht hK hcl; exact xcode_ok hI _ s K t L ρ act W Q hP hx hh hl ht hK
theorem xf_ok (hI : InlOk P inl) {k : Nat} : ∀ (c : Code) (s : St) (K : X → St → Option Tree) (t : Tree) (L : Lv) (ρ : Env) (a : Act) (W : Wd) (Q : Exit → Act → World → Prop), PanOk W0 R Q →
    xf P cf inl k cs c s K = some t → Holds N W0 ρ s a W → s.lp = L.length → t.den P N R L ρ W → KOkX P N W0 R L ρ W K Q → (∀ x ∈ cs, cutIn x.k c = true → Claim P N W0 R c Q L ρ W x) → wpFrom P k c Q a W.w := by
  intro c
  induction c with
  | seq a b iha ihb =>
    intro s K t L ρ act W Q hP hx hh hl ht hK hcl
    simp only [xf] at hx
    simp only [wpFrom]
    split at hx
    · rename_i hall
      split at hx
      · rename_i hc
        rw [if_pos hc]
        refine iha s _ t L ρ act W _ (hP.thn _) hx hh hl ht (seqK hall hK hcl (xm_ok hI b) hP) fun x hx hc => ?_
        exact (hcl x hx (by simp [cutIn, hc])).left hc
      · rename_i hc
        rw [if_neg hc]
        split at hx
        · rename_i hb
          rw [if_pos hb]
          refine xm_ok hI b s K t L ρ act W Q hP hx hh hl ht hK fun x hx hc => ?_
          have ho := oneAt_b (List.all_eq_true.1 hall x hx) hc
          exact (hcl x hx (by simp [cutIn, hc])).right ho.1 ho.2
        · rename_i hb
          rw [if_neg hb]
          refine ihb s K t L ρ act W Q hP hx hh hl ht hK fun x hx hc => ?_
          have ho := oneAt_b (List.all_eq_true.1 hall x hx) hc
          exact (hcl x hx (by simp [cutIn, hc])).right ho.1 ho.2
    · cases hx
  | _ => intro s K t L ρ act W Q hP hx; simp [xf] at hx
end
/-- the end of a function -/
def endK (P : Program) (fn : Func) : X → St → Option Tree := fun x s => match x with
  | .exit _ => none
  | _ => match resS P s fn.results.toList with
    | some r => some (.ret (oneS r) (reach s.hp r) (reach s.ro r) s.rw)
    | none => none
def xfnM (P : Program) (cf : Cfg) (fn : Func) (cs : List Cut) (args : List Sy) (c : Cnt) : Option Tree := match fn.body with
  | some code => xm P cf (inlD P cf cf.depth) cs code (startS args fn.ntmps [] [] [] c) (endK P fn)
  | none => none
def xfnF (P : Program) (cf : Cfg) (fn : Func) (k : Nat) (cs : List Cut) (s : St) : Option Tree := match fn.body with
  | some code => xf P cf (inlD P cf cf.depth) k cs code s (endK P fn)
  | none => none
def ChainOk (P : Program) (cf : Cfg) (fn : Func) : List Cut → Prop
  | [] => True
  | x :: l => xfnF P cf fn x.k (l.take 1) x.S = some x.T ∧ ChainOk P cf fn l
/-- a function in pieces -/
theorem fn_calls_cuts {f : FuncId} {fn : Func} (hf : P.funcs[f]? = some fn) (cf : Cfg) (cs : List Cut) (hcs : ChainOk P cf fn cs) (args : List Sy) (ρ : Env) (t : Tree) (hx : xfnM P cf fn (cs.take 1) args ρ.cnt = some t) (hg : ρ.good) {W : Wd} {R : Ending → World → Prop}
    (hden : t.den P W.w.heap.size R [] ρ W) : CallsE P f (Sy.dens ρ args).toArray W R := by
  unfold xfnM at hx
  split at hx
  · rename_i code hb
    refine calls_of_wp hf hb ?_
    have hP : PanOk W R (bodyPost P fn fun e w' => Keeps W w' ∧ R e w') := ⟨fun ch a w' h1 h2 h3 => ⟨h1, h2, h3⟩, fun ch a d v w' h => by
      obtain ⟨h1, h2⟩ := h
      exact ⟨by cases d <;> exact h1, h2⟩⟩
    have hI := inlD_ok (P := P) cf cf.depth
    have hE : ∀ (L : Lv) (ρ : Env) (W1 : Wd), KOkX P W.w.heap.size W R L ρ W1 (endK P fn) (bodyPost P fn fun e w' => Keeps W w' ∧ R e w') := by
      intro L ρ W1 x s' t' e M a' W' h1 hx' hl' h2 h3
      have fin : ∀ r, resS P s' fn.results.toList = some r → t' = .ret (oneS r) (reach s'.hp r) (reach s'.ro r) s'.rw →
          a'.defers = [] ∧ ∃ v, (results fn a'.tmps).run P W'.w = .ok v W'.w ∧ (Keeps W W'.w ∧ R (.returned v) W'.w) := by
        rintro r hr rfl
        refine ⟨h2.df, _, run_results h2 hr, Keeps.of_ext h2.ext, ?_⟩
        exact h3 (fun b hb => h2.hp b (reach_sub b hb)) (fun b hb => h2.ro b (reach_sub b hb)) h2.rw
      cases x with
      | exit i => cases h1
      | nrm =>
        dsimp only [endK] at h1
        split at h1
        · rename_i r hr; exact fin r hr (Option.some.inj h1).symm
        · cases h1
      | ret =>
        dsimp only [endK] at h1
        split at h1
        · rename_i r hr; exact fin r hr (Option.some.inj h1).symm
        · cases h1
    have hC : ∀ (l : List Cut), ChainOk P cf fn l → ∀ x ∈ l.take 1, ∀ (L : Lv) (ρ : Env) (W1 : Wd), Claim P W.w.heap.size W R code (bodyPost P fn fun e w' => Keeps W w' ∧ R e w') L ρ W1 x := by
      intro l
      induction l with
      | nil => intro _ x hx; cases hx
      | cons y l ih =>
        rintro ⟨h1, h2⟩ x hx L ρ W1 d M a' W' hx' k1 k2 k3
        simp only [List.take_succ_cons, List.take_zero, List.mem_singleton] at hx
        subst hx
        unfold xfnF at h1
        rw [hb] at h1
        exact xf_ok hI code _ _ _ _ _ a' W' _ hP h1 k1 k2 k3 (hE _ _ _) fun x hx hc => ih h2 x hx _ _ _
    exact xm_ok hI code _ _ t [] ρ _ W _ hP hx (start_holds args fn.ntmps ρ hg [] [] [] W (Nat.le_refl _) (fun r hr => by cases hr) (fun r hr => by cases hr) List.Pairwise.nil (fun b hb => by cases hb) (fun b hb => by cases hb) List.Pairwise.nil (fun b hb => by cases hb) (fun b hb => by cases hb)) rfl hden (hE _ _ _) fun x hx hc => hC cs hcs x hx _ _ _
  · cases hx
end Go.SF
end
