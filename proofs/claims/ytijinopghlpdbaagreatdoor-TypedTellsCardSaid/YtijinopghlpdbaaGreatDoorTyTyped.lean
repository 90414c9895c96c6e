/- The walks of package typed: the type. -/
import Derived.Test.YtijinopghlpdbaaGreatDoorTySe
namespace Go.Proofs.YtijinopghlpdbaaGreatDoor
open Go Go.RowKit Go.SF
set_option linter.unusedSimpArgs false
set_option linter.unusedVariables false

def tupV (p : Int × Int) : Value := .tuple #[.int .u8 p.1, .int .i64 p.2]
theorem known_q (k : Int) (W : Wd) : CallsQ Tryz.prog 31 #[.int .u8 k] W (tupV (Tx.known k)) := by
  refine vc_known k W.all _ ?_
  refine den_br (fun c => den_ret fun _ _ _ => ⟨_, rfl, ?_⟩) fun c => den_ret fun _ _ _ => ⟨_, rfl, ?_⟩
  · have c : k < 1 ∨ 3 < k := by simpa only [Sy.dens, Sy.den, E.i, E.b, E.t, gd, Env.push, List.cons_append, List.nil_append, List.append_nil, Int.toNat_natCast, Bool.or_eq_true, ltB_true] using c
    rw [Tx.known, if_pos c]; rfl
  · have c : ¬ (k < 1 ∨ 3 < k) := by
      simp only [Sy.dens, Sy.den, E.i, E.b, E.t, gd, Env.push, List.cons_append, List.nil_append, List.append_nil, Int.toNat_natCast, Bool.or_eq_false_iff, ltB_false] at c; omega
    rw [Tx.known, if_neg c]; rfl

/-! ### variables in memory -/
def varC (v : Tx.Var) : List Value := [.string ⟨v.name.toArray⟩, .int .u8 v.k, .int .i64 v.n, .string ⟨v.t.toArray⟩]
theorem varC_len (v : Tx.Var) : (varC v).length = 4 := rfl
def VarsI (W : Wd) (a : Option Addr) (c : Nat) (vars : List Tx.Var) : Prop := SlI W a vars.length c 4 (vars.flatMap varC)
theorem VarsI.ext {W W' : Wd} {a : Option Addr} {c : Nat} {vars : List Tx.Var} (h : VarsI W a c vars) (x : Ext W W') : VarsI W' a c vars := SlI.ext h x
theorem VarsI.all {W : Wd} {a : Option Addr} {c : Nat} {vars : List Tx.Var} (h : VarsI W a c vars) : VarsI W.all a c vars := SlI.ext h W.all_ext
def Found (vars : List Tx.Var) (nm : Lx.Bs) (r : Int) : Prop := (r = -1 ∧ vars.find? (fun v => v.name == nm) = none) ∨ ∃ (i : Nat) (v : Tx.Var), r = (i : Int) ∧ vars[i]? = some v ∧ vars.find? (fun v => v.name == nm) = some v
theorem tba (a b : Lx.Bs) : ((⟨a.toArray⟩ : ByteArray).data.toList == (⟨b.toArray⟩ : ByteArray).data.toList) = (a == b) := by simp
theorem nidx_i (op k n : Int) (t nm : ByteArray) (al : Option Addr) (len cl : Nat) (nml : Lx.Bs) (hnm : nm = ⟨nml.toArray⟩) (vars : List Tx.Var) (a : Option Addr) (c : Nat) (W : Wd) (hl : vars.length ≤ 1000000) (hV : VarsI W a c vars) (p : Nat) (hp : W.w.heap[p]? = some (.cells #[.int .u8 op, .int .u8 k, .int .i64 n, .string t, .string nm, .slice al len cl] 26)) (hI : W.I p) :
    CallsI Tryz.prog 32 #[.slice a vars.length c, .func (.func 33) #[] #[.pointer (some ⟨p, 0, none⟩)]] W.all fun v w' => ∃ r : Int, v = .int .i64 r ∧ Found vars nml r := by
  subst hnm
  refine vc_nidx op k n vars.length c len cl t ⟨nml.toArray⟩ a al p W.all _ hp (W.lt p hI) ?_
  refine den_loop (fun j vs ls _ => ∃ i : Nat, vs = [.int .i64 (i : Nat)] ∧ ls = [] ∧ i ≤ vars.length ∧ j = vars.length - i ∧ vars.find? (fun v => v.name == nml) = (vars.drop i).find? fun v => v.name == nml) vars.length ⟨0, by simp [Sy.dens, Sy.den, E.i, E.b, E.t, gd, Env.push, List.cons_append, List.nil_append, List.append_nil, Int.toNat_natCast], rfl, Nat.zero_le _, rfl, rfl⟩ ?_
  rintro j vs ls' W2 x2 ⟨i, rfl, rfl, hi, rfl, ha⟩
  have x2' := ext_trans W.all_ext x2
  refine ⟨(i : Int), rfl, rfl, fun _ => den_br (fun c1 => ?_) fun c1 => den_ret fun _ _ _ => ⟨_, rfl, -1, rfl, .inl ⟨rfl, ?_⟩⟩⟩
  · simp only [Sy.dens, Sy.den, E.i, E.b, E.t, gd, Env.push, List.cons_append, List.nil_append, List.append_nil, Int.toNat_natCast, ltB_true] at c1
    have hil : i < vars.length := by omega
    have hx : vars[i]? = some vars[i] := List.getElem?_eq_getElem hil
    have ha1 : vars.find? (fun v => v.name == nml) = (vars[i] :: vars.drop (i + 1)).find? fun v => v.name == nml := by rw [ha, tdrop_get hil]
    refine den_chk ?_ (den_chk ?_ (den_look ⟨vars[i].k, vars[i].n, ⟨vars[i].name.toArray⟩, ⟨vars[i].t.toArray⟩, fun W3 x3 => ?_, ?_⟩))
    · simp only [E.b, gd, Env.push]; exact SlI.some_of hV (by omega)
    · simp only [Sy.dens, Sy.den, E.i, E.b, E.t, gd, Env.push, List.cons_append, List.nil_append, List.append_nil, Int.toNat_natCast]; exact leB_t (by omega)
    · have := sl_look varC_len (by decide) hV var_aggT var_sizeT hx (ext_trans x2' x3)
      simp only [Sy.dens, Sy.den, E.i, E.b, E.t, gd, Env.push, List.cons_append, List.nil_append, List.append_nil, Int.toNat_natCast] at this ⊢
      exact this
    · simp only [Env.push, List.cons_append, List.nil_append, List.append_nil]
      have hq : ∀ V, Ext W2 V → CallsQ Tryz.prog 33 #[.agg #[.string ⟨vars[i].name.toArray⟩, .int .u8 vars[i].k, .int .i64 vars[i].n, .string ⟨vars[i].t.toArray⟩], .pointer (some ⟨p, 0, none⟩)] V (.bool (vars[i].name == nml)) := fun V xV => by
        refine vc_namec vars[i].k vars[i].n op k n len cl ⟨vars[i].name.toArray⟩ ⟨vars[i].t.toArray⟩ t ⟨nml.toArray⟩ al p V.all _ (by rw [(ext_trans (ext_trans x2' xV) V.all_ext).keep p hI]; exact hp) ((ext_trans (ext_trans x2' xV) V.all_ext).sub p hI) ?_
        refine den_new fun _ _ _ _ => den_ret fun _ _ _ => ⟨_, rfl, ?_⟩
        simp only [Sy.dens, Sy.den, E.i, E.b, E.t, gd, Env.push, List.cons_append, List.nil_append, List.append_nil, Int.toNat_natCast, tba]
      refine den_call_q (fun _ _ => hq W2 (Ext.refl _)) ⟨vars[i].name == nml, rfl, fun W3 x3 => den_br (fun c2 => den_ret fun _ _ _ => ⟨_, rfl, (i : Int), rfl, .inr ⟨i, vars[i], rfl, hx, ?_⟩⟩) fun c2 => den_again ⟨vars.length - (i + 1), by omega, i + 1, ?_, rfl, by omega, rfl, ?_⟩⟩
      · have c2 : (vars[i].name == nml) = true := by simpa only [Sy.dens, Sy.den, E.i, E.b, E.t, gd, Env.push, List.cons_append, List.nil_append, List.append_nil, Int.toNat_natCast] using c2
        rw [ha1, List.find?_cons, c2]
      · simp only [Sy.dens, Sy.den, E.i, E.b, E.t, gd, Env.push, List.cons_append, List.nil_append, List.append_nil, Int.toNat_natCast]; rw [w64i (by omega) (by omega)]; rfl
      · have c2 : (vars[i].name == nml) = false := by simpa only [Sy.dens, Sy.den, E.i, E.b, E.t, gd, Env.push, List.cons_append, List.nil_append, List.append_nil, Int.toNat_natCast] using c2
        rw [ha1, List.find?_cons, c2]
  · simp only [Sy.dens, Sy.den, E.i, E.b, E.t, gd, Env.push, List.cons_append, List.nil_append, List.append_nil, Int.toNat_natCast, ltB_false] at c1
    rw [ha, List.drop_eq_nil_of_le (by omega)]; rfl

/-! ### sides of one type -/
def u8s (l : List Int) : List Value := l.flatMap fun t => [Value.int .u8 t]
theorem u8s_len (l : List Int) : (u8s l).length = l.length * 1 := flat_len (sz := 1) (f := fun t => [Value.int .u8 t]) (fun _ => rfl) l
theorem sidx_i (s : Int × Int) (sides : List Int) (a : Option Addr) (c : Nat) (W : Wd) (hl : sides.length ≤ 1000000) (hV : SlI W a sides.length c 1 (u8s sides)) (p : Nat) (hp : W.w.heap[p]? = some (.cells #[.int .u8 s.1, .int .u8 s.2] 64)) (hI : W.I p) :
    CallsI Tryz.prog 49 #[.slice a sides.length c, .func (.func 35) #[] #[.pointer (some ⟨p, 0, none⟩)]] W.all fun v w' => ∃ r : Int, v = .int .i64 r ∧ leB 0 r = !sides.all (· == s.1) := by
  refine vc_sidx s.1 s.2 sides.length c a p W.all _ hp (W.lt p hI) ?_
  refine den_loop (fun j vs ls _ => ∃ i : Nat, vs = [.int .i64 (i : Nat)] ∧ ls = [] ∧ i ≤ sides.length ∧ j = sides.length - i ∧ sides.all (· == s.1) = (sides.drop i).all (· == s.1)) sides.length ⟨0, by simp [Sy.dens, Sy.den, E.i, E.b, E.t, gd, Env.push, List.cons_append, List.nil_append, List.append_nil, Int.toNat_natCast], rfl, Nat.zero_le _, rfl, rfl⟩ ?_
  rintro j vs ls' W2 x2 ⟨i, rfl, rfl, hi, rfl, ha⟩
  have x2' := ext_trans W.all_ext x2
  refine ⟨(i : Int), rfl, rfl, fun _ => den_br (fun c1 => ?_) fun c1 => den_ret fun _ _ _ => ⟨_, rfl, -1, rfl, ?_⟩⟩
  · simp only [Sy.dens, Sy.den, E.i, E.b, E.t, gd, Env.push, List.cons_append, List.nil_append, List.append_nil, Int.toNat_natCast, ltB_true] at c1
    have hil : i < sides.length := by omega
    have hx : sides[i]? = some sides[i] := List.getElem?_eq_getElem hil
    have ha1 : sides.all (· == s.1) = ((sides[i] == s.1) && (sides.drop (i + 1)).all (· == s.1)) := by rw [ha, tdrop_get hil]; rfl
    refine den_chk ?_ (den_chk ?_ (den_look ⟨sides[i], fun W3 x3 => ?_, ?_⟩))
    · simp only [E.b, gd, Env.push]; exact SlI.some_of hV (by omega)
    · simp only [Sy.dens, Sy.den, E.i, E.b, E.t, gd, Env.push, List.cons_append, List.nil_append, List.append_nil, Int.toNat_natCast]; exact leB_t (by omega)
    · have := sl_look_f (P := Tryz.prog) (f := fun t => [Value.int .u8 t]) (sz := 1) (fun _ => rfl) hV u8_aggT (k := 0) hx (by decide) (u := .int .u8 sides[i]) rfl (ext_trans x2' x3)
      simp only [Sy.dens, Sy.den, E.i, E.b, E.t, gd, Env.push, List.cons_append, List.nil_append, List.append_nil, Int.toNat_natCast] at this ⊢
      exact this
    · simp only [Env.push, List.cons_append, List.nil_append, List.append_nil]
      have hq : ∀ V, Ext W2 V → CallsQ Tryz.prog 35 #[.int .u8 sides[i], .pointer (some ⟨p, 0, none⟩)] V (.bool (!(sides[i] == s.1))) := fun V xV => by
        refine vc_sortc sides[i] s.1 s.2 p V.all _ (by rw [(ext_trans (ext_trans x2' xV) V.all_ext).keep p hI]; exact hp) ((ext_trans (ext_trans x2' xV) V.all_ext).sub p hI) ?_
        exact den_ret fun _ _ _ => ⟨_, rfl, rfl⟩
      refine den_call_q (fun _ _ => hq W2 (Ext.refl _)) ⟨!(sides[i] == s.1), rfl, fun W3 x3 => den_br (fun c2 => den_ret fun _ _ _ => ⟨_, rfl, (i : Int), rfl, ?_⟩) fun c2 => den_again ⟨sides.length - (i + 1), by omega, i + 1, ?_, rfl, by omega, rfl, ?_⟩⟩
      · have c2 : (sides[i] == s.1) = false := by simpa only [Sy.dens, Sy.den, E.i, E.b, E.t, gd, Env.push, List.cons_append, List.nil_append, List.append_nil, Int.toNat_natCast, Bool.not_eq_true'] using c2
        rw [ha1, c2]; exact leB_t (by omega)
      · simp only [Sy.dens, Sy.den, E.i, E.b, E.t, gd, Env.push, List.cons_append, List.nil_append, List.append_nil, Int.toNat_natCast]; rw [w64i (by omega) (by omega)]; rfl
      · have c2 : (sides[i] == s.1) = true := by simpa only [Sy.dens, Sy.den, E.i, E.b, E.t, gd, Env.push, List.cons_append, List.nil_append, List.append_nil, Int.toNat_natCast, Bool.not_eq_false'] using c2
        rw [ha1, c2, Bool.true_and]
  · simp only [Sy.dens, Sy.den, E.i, E.b, E.t, gd, Env.push, List.cons_append, List.nil_append, List.append_nil, Int.toNat_natCast, ltB_false] at c1
    rw [ha, List.drop_eq_nil_of_le (by omega)]; rfl
theorem scont_q (s : Int × Int) (sides : List Int) (a : Option Addr) (c : Nat) (W : Wd) (hl : sides.length ≤ 1000000) (hV : SlW W.w a sides.length c 1 (u8s sides)) (p : Nat) (hp : W.w.heap[p]? = some (.cells #[.int .u8 s.1, .int .u8 s.2] 64)) :
    CallsQ Tryz.prog 34 #[.slice a sides.length c, .func (.func 35) #[] #[.pointer (some ⟨p, 0, none⟩)]] W (.bool (!sides.all (· == s.1))) := by
  have hI : p < W.w.heap.size := (Array.getElem?_eq_some_iff.1 hp).1
  refine vc_scont s.1 s.2 sides.length c a p W.all _ hp hI ?_
  refine den_call_i (fun _ _ => sidx_i s sides a c W.all hl hV.all p hp hI) fun v w' _ ⟨r, hv, hr⟩ => ⟨r, hv, fun W2 _ _ _ => den_ret fun _ _ _ => ⟨_, rfl, ?_⟩⟩
  show Value.bool (leB 0 r) = _
  rw [hr]

/-! ### the type -/
theorem sort_at {op : Int} (h : 1 ≤ op) (h2 : op ≤ 16) : ∃ i : Nat, op = (i : Int) ∧ i < 17 ∧ Tx.sortsOf op = Tx.sortTab.getD i [] := ⟨op.toNat, by omega, by omega, rfl⟩
theorem sorts_len (o : Int) : (Tx.sortsOf o).length ≤ 3 := by
  unfold Tx.sortsOf
  rw [List.getD_eq_getElem?_getD]
  cases h : Tx.sortTab[o.toNat]? with
  | none => simp
  | some l =>
    have : ∀ l ∈ Tx.sortTab, l.length ≤ 3 := by decide
    exact this l (List.mem_of_getElem? h)
def TypedOk (n : Nat) : Prop := ∀ (x : Px.Ex) (vs : List Value) (vars : List Tx.Var) (a : Option Addr) (c : Nat) (W : Wd), Px.thin x = true → Tx.whole n x = true → vars.length ≤ 1000000 → ExI W x vs → VarsI W a c vars → GlobT W →
  CallsQ Tryz.prog 18 #[.agg vs.toArray, .slice a vars.length c] W (tupV (Tx.typed vars x))
theorem typed_ok : ∀ n : Nat, TypedOk n := by
  intro n
  induction n with
  | zero => intro x vs vars a c W _ h; cases h
  | succ n ih =>
    intro x vs vars a c W hth hwh hvl hx hV hG
    obtain ⟨op, k, nn, t, nm, args⟩ := x
    have hx := hx.ext W.all_ext
    have hG := hG.ext W.all_ext
    have hV := hV.all
    simp only [ExI, ExAt] at hx
    obtain ⟨al, cl, ls, rfl, hS, hE⟩ := hx
    simp only [Px.thin, Bool.and_eq_true, decide_eq_true_eq] at hth
    obtain ⟨⟨hal, htl, hnl, hf0, hf1⟩, hth⟩ := hth
    simp only [Tx.whole, Bool.and_eq_true, decide_eq_true_eq] at hwh
    obtain ⟨⟨ho1, ho2⟩, hln, hmy, hwa⟩ := hwh
    refine vc_typed op k nn args.length cl vars.length c ⟨t.toArray⟩ ⟨nm.toArray⟩ al a W.all _ ?_
    refine den_new fun m0 W1 hm0 x1 => den_br (fun c1 => ?_) fun c1 => den_br (fun c2 => ?_) fun c2 => ?_
    · have c1 : op = 1 := by simpa [Sy.dens, Sy.den, E.i, E.b, E.t, gd, Env.push, List.cons_append, List.nil_append, List.append_nil, Int.toNat_natCast] using c1
      refine den_call_q (fun _ _ => known_q k W1) ⟨(Tx.known k).1, (Tx.known k).2, rfl, fun _ _ => den_ret fun _ _ _ => ⟨_, rfl, ?_⟩⟩
      rw [Tx.typed, if_pos c1]; rfl
    · have c1 : ¬ op = 1 := by simpa [Sy.dens, Sy.den, E.i, E.b, E.t, gd, Env.push, List.cons_append, List.nil_append, List.append_nil, Int.toNat_natCast] using c1
      have c2 : op = 2 := by simpa [Sy.dens, Sy.den, E.i, E.b, E.t, gd, Env.push, List.cons_append, List.nil_append, List.append_nil, Int.toNat_natCast] using c2
      have hgo : Tx.typed vars (.mk op k nn t nm args) = Tx.named vars nm := by rw [Tx.typed, if_neg c1, if_pos c2]
      rw [hgo]
      refine den_call_i (fun hb _ => nidx_i op k nn ⟨t.toArray⟩ ⟨nm.toArray⟩ al args.length cl nm rfl vars a c W1.all hvl (hV.ext (ext_trans x1 W1.all_ext)) m0 (hb _ (List.mem_singleton.2 rfl)) (Array.getElem?_eq_some_iff.1 (hb _ (List.mem_singleton.2 rfl))).1) fun v w' _ ⟨r, hv, hr⟩ => ⟨r, hv, fun W2 e2 x2 n2 => ?_⟩
      simp only [Env.push, List.cons_append, List.nil_append, List.append_nil]
      refine den_br (fun c3 => den_ret fun _ _ _ => ⟨_, rfl, ?_⟩) fun c3 => ?_
      · have c3 : r < 0 := by simpa only [Sy.dens, Sy.den, E.i, E.b, E.t, gd, Env.push, List.cons_append, List.nil_append, List.append_nil, Int.toNat_natCast, ltB_true] using c3
        rcases hr with ⟨_, hr⟩ | ⟨i, v, rfl, _, _⟩
        · rw [Tx.named, hr]; rfl
        · omega
      · have c3 : 0 ≤ r := by simpa only [Sy.dens, Sy.den, E.i, E.b, E.t, gd, Env.push, List.cons_append, List.nil_append, List.append_nil, Int.toNat_natCast, ltB_false] using c3
        rcases hr with ⟨h, _⟩ | ⟨i, v, rfl, hiv, hfd⟩
        · omega
        · have hil : i < vars.length := (List.getElem?_eq_some_iff.1 hiv).1
          refine den_chk ?_ (den_chk ?_ (den_chk ?_ (den_look ⟨v.k, fun V xV => ?_, ?_⟩)))
          · simp only [E.b, gd, Env.push]; exact SlI.some_of hV (by omega)
          · simp only [Sy.dens, Sy.den, E.i, E.b, E.t, gd, Env.push, List.cons_append, List.nil_append, List.append_nil, Int.toNat_natCast]; exact leB_t (by omega)
          · simp only [Sy.dens, Sy.den, E.i, E.b, E.t, gd, Env.push, List.cons_append, List.nil_append, List.append_nil, Int.toNat_natCast]; exact ltB_t (by omega)
          · have := sl_look_f (P := Tryz.prog) varC_len hV u8_aggT (k := 1) hiv (by decide) (u := .int .u8 v.k) rfl (ext_trans (ext_trans x1 x2) xV)
            simp only [Sy.dens, Sy.den, E.i, E.b, E.t, gd, Env.push, List.cons_append, List.nil_append, List.append_nil, Int.toNat_natCast] at this ⊢
            exact this
          · simp only [Env.push, List.cons_append, List.nil_append, List.append_nil]
            refine den_call_q (fun _ _ => known_q v.k W2) ⟨(Tx.known v.k).1, (Tx.known v.k).2, rfl, fun _ _ => den_ret fun _ _ _ => ⟨_, rfl, ?_⟩⟩
            rw [Tx.named, hfd]; rfl
    · have c1 : ¬ op = 1 := by simpa [Sy.dens, Sy.den, E.i, E.b, E.t, gd, Env.push, List.cons_append, List.nil_append, List.append_nil, Int.toNat_natCast] using c1
      have c2 : ¬ op = 2 := by simpa [Sy.dens, Sy.den, E.i, E.b, E.t, gd, Env.push, List.cons_append, List.nil_append, List.append_nil, Int.toNat_natCast] using c2
      have hgo : Tx.typed vars (.mk op k nn t nm args) = match Tx.typeds vars args with | .error f => (0, f) | .ok sides => Tx.sorted op sides := by
        rw [Tx.typed, if_neg c1, if_neg c2]
        cases Tx.typeds vars args <;> rfl
      rw [hgo]
      refine den_loop (fun j vs ls _ => ∃ (i : Nat) (sides : List Int) (a2 : Option Addr) (c2 : Nat), vs = [.int .i64 (i : Nat), .slice a2 sides.length c2] ∧ ls = [u8s sides] ∧ i ≤ args.length ∧ j = args.length - i ∧ Tx.typeds vars (args.take i) = .ok sides) args.length ⟨0, [], none, 0, rfl, rfl, Nat.zero_le _, rfl, rfl⟩ ?_
      rintro j vs ls' W2 x2 ⟨i, sides, a2, cc2, rfl, rfl, hi, rfl, hsd⟩
      have x2' := ext_trans x1 x2
      have hsl : sides.length = i := by rw [Tx.typeds_len hsd, List.length_take]; omega
      refine ⟨(i : Int), sides.length, cc2, a2, u8s sides, rfl, (by simp [rowConts, conts, Seg.den, gd, Env.push]), fun hR => den_br (fun c3 => ?_) fun c3 => ?_⟩
      · simp only [Sy.dens, Sy.den, E.i, E.b, E.t, gd, Env.push, List.cons_append, List.nil_append, List.append_nil, Int.toNat_natCast, ltB_true] at c3
        have hil : i < args.length := by omega
        have hx : args[i]? = some args[i] := List.getElem?_eq_getElem hil
        obtain ⟨us, hu, hg⟩ := exs_get hE hx
        obtain ⟨op', k', nn', t', nm', al', len', cl', rfl⟩ := hu.shape
        have hu2 : ExI W.all args[i] _ := hu
        have htk : args.take (i + 1) = args.take i ++ [args[i]] := by rw [List.take_add_one, hx]; rfl
        have hnx := Tx.typeds_snoc vars (args.take i) args[i]
        rw [← htk, hsd] at hnx
        refine den_chk ?_ (den_chk ?_ (den_look ⟨op', k', nn', len', cl', t', nm', al', fun W3 x3 => ?_, ?_⟩))
        · simp only [E.b, gd, Env.push]; exact SlI.some_of hS (by omega)
        · simp only [Sy.dens, Sy.den, E.i, E.b, E.t, gd, Env.push, List.cons_append, List.nil_append, List.append_nil, Int.toNat_natCast]; exact leB_t (by omega)
        · have := sl_look_at (W := W.all) hS ex_agg ex_size rfl (by decide) hg (ext_trans x2' x3)
          simp only [Sy.dens, Sy.den, E.i, E.b, E.t, gd, Env.push, List.cons_append, List.nil_append, List.append_nil, Int.toNat_natCast] at this ⊢
          exact this
        · simp only [Env.push, List.cons_append, List.nil_append, List.append_nil]
          refine den_new fun m1 W3 _ x3 => den_wr fun W4 x4 => ?_
          have y4 := ext_trans x2' (ext_trans x3 x4)
          have hq := ih args[i] _ vars a c W4 (Px.thin_mem hth (List.getElem_mem hil)) (Tx.whole_all hwa (List.getElem_mem hil)) hvl (hu2.ext y4) (hV.ext y4) (hG.ext y4)
          refine den_call_q (fun _ _ => hq) ⟨(Tx.typed vars args[i]).1, (Tx.typed vars args[i]).2, rfl, fun W5 x5 => ?_⟩
          simp only [Env.push, List.cons_append, List.nil_append, List.append_nil]
          refine den_br (fun c4 => den_ret fun _ _ _ => ⟨_, rfl, ?_⟩) fun c4 => ?_
          · have c4 : ¬ (Tx.typed vars args[i]).2 = 0 := by simpa [Sy.dens, Sy.den, E.i, E.b, E.t, gd, Env.push, List.cons_append, List.nil_append, List.append_nil, Int.toNat_natCast] using c4
            dsimp only at hnx
            rw [if_neg c4] at hnx
            have := Tx.typeds_err (args.drop (i + 1)) hnx
            rw [List.take_append_drop] at this
            rw [this]; rfl
          · have c4 : (Tx.typed vars args[i]).2 = 0 := by simpa [Sy.dens, Sy.den, E.i, E.b, E.t, gd, Env.push, List.cons_append, List.nil_append, List.append_nil, Int.toNat_natCast] using c4
            dsimp only at hnx
            rw [if_pos c4] at hnx
            refine den_new fun m2 W6 _ x6 => den_chk ?_ (den_app fun a3 c3' W7 _ x7 => den_frz fun W8 _ x8 _ _ => den_again ⟨args.length - (i + 1), by omega, i + 1, sides ++ [(Tx.typed vars args[i]).1], a3, c3', ?_, ?_, by omega, rfl, hnx⟩)
            · simp only [Sy.dens, Sy.den, E.i, E.b, E.t, gd, Env.push, List.cons_append, List.nil_append, List.append_nil, Int.toNat_natCast]; exact leB_t (by omega)
            · simp only [Sy.dens, Sy.den, E.i, E.b, E.t, gd, Env.push, List.cons_append, List.nil_append, List.append_nil, Int.toNat_natCast]
              rw [w64i (by omega) (by omega)]
              simp only [List.length_append, List.length_cons, List.length_nil]
              congr 2
            · simp [rowConts, conts, Seg.den, gd, Env.push, Sy.den, E.i, u8s]
      · simp only [Sy.dens, Sy.den, E.i, E.b, E.t, gd, Env.push, List.cons_append, List.nil_append, List.append_nil, Int.toNat_natCast, ltB_false] at c3
        obtain rfl : i = args.length := by omega
        rw [List.take_length] at hsd
        rw [hsd]
        obtain ⟨oi, hoi, hol, hso⟩ := sort_at ho1 ho2
        obtain ⟨sl, ty, hsl17, hgs, hsls⟩ := hG.sorts
        have hsls := hsls oi hol
        rw [← hso] at hsls
        have hslen := sorts_len op
        refine den_chk ?_ (den_chk ?_ (den_adr (den_look ⟨(Tx.sortsOf op).length, (sl.getD oi (none, 0)).2, (sl.getD oi (none, 0)).1, fun V xV => ?_, ?_⟩)))
        · simp only [Sy.dens, Sy.den, E.i, E.b, E.t, gd, Env.push, List.cons_append, List.nil_append, List.append_nil, Int.toNat_natCast]; exact leB_t (by omega)
        · simp only [Sy.dens, Sy.den, E.i, E.b, E.t, gd, Env.push, List.cons_append, List.nil_append, List.append_nil, Int.toNat_natCast]; exact ltB_t (by omega)
        · simp only [Sy.dens, Sy.den, E.i, E.b, E.t, gd, Env.push, List.cons_append, List.nil_append, List.append_nil, Int.toNat_natCast]
          refine glob_look hgs hG.sortsI sorts_aggT ?_ (ext_trans x2' xV)
          rw [hoi, Int.toNat_natCast, List.getElem?_map, List.getElem?_range hol, Option.map_some]
          rw [← hoi, hso]
        simp only [Env.push, List.cons_append, List.nil_append, List.append_nil]
        refine den_loop (fun j vs ls _ => ∃ (i : Nat) (a2 : Option Addr) (c2 : Nat), vs = [.int .i64 (i : Nat), .slice a2 sides.length c2] ∧ ls = [u8s sides] ∧ i ≤ (Tx.sortsOf op).length ∧ j = (Tx.sortsOf op).length - i ∧ ((Tx.sortsOf op).find? fun s => sides.all (· == s.1)) = ((Tx.sortsOf op).drop i).find? fun s => sides.all (· == s.1)) (Tx.sortsOf op).length ⟨0, a2, cc2, rfl, (by simp [rowConts, conts, Seg.den, gd, Env.push]), Nat.zero_le _, rfl, rfl⟩ ?_
        rintro j vs ls'' W3 x3 ⟨i, a3, cc3, rfl, rfl, hi, rfl, hfd⟩
        have y3 := ext_trans x2' x3
        refine ⟨(i : Int), sides.length, cc3, a3, u8s sides, rfl, (by simp [rowConts, conts, Seg.den, gd, Env.push]), fun hR => den_br (fun c4 => ?_) fun c4 => den_ret fun _ _ _ => ⟨_, rfl, ?_⟩⟩
        · simp only [Sy.dens, Sy.den, E.i, E.b, E.t, gd, Env.push, List.cons_append, List.nil_append, List.append_nil, Int.toNat_natCast, ltB_true] at c4
          have hil : i < (Tx.sortsOf op).length := by omega
          have hx : (Tx.sortsOf op)[i]? = some (Tx.sortsOf op)[i] := List.getElem?_eq_getElem hil
          rw [tdrop_get hil] at hfd
          refine den_chk ?_ (den_chk ?_ (den_look ⟨(Tx.sortsOf op)[i].1, (Tx.sortsOf op)[i].2, fun V xV => ?_, ?_⟩))
          · simp only [E.b, gd, Env.push]; exact SlI.some_of hsls (by omega)
          · simp only [Sy.dens, Sy.den, E.i, E.b, E.t, gd, Env.push, List.cons_append, List.nil_append, List.append_nil, Int.toNat_natCast]; exact leB_t (by omega)
          · have := sl_look (f := sortC) (sz := 2) (fun _ => rfl) (by decide) hsls sort_aggT sort_sizeT hx (ext_trans y3 xV)
            simp only [Sy.dens, Sy.den, E.i, E.b, E.t, gd, Env.push, List.cons_append, List.nil_append, List.append_nil, Int.toNat_natCast] at this ⊢
            exact this
          simp only [Env.push, List.cons_append, List.nil_append, List.append_nil]
          refine den_new fun m1 W4 _ x4 => den_wr fun W5 x5 => den_call_q (fun hb hr => ?_) ⟨!sides.all (· == (Tx.sortsOf op)[i].1), rfl, fun W6 x6 => den_br (fun c5 => den_ret fun _ _ _ => ⟨_, rfl, ?_⟩) fun c5 => den_frz fun W7 _ x7 _ _ => den_again ⟨(Tx.sortsOf op).length - (i + 1), by omega, i + 1, a3, cc3, ?_, ?_, by omega, rfl, ?_⟩⟩
          · have hr := hr _ (List.mem_singleton.2 rfl)
            have hsl : SlAt W5.w (fun b => W.all.w.heap.size ≤ b) a3 sides.length cc3 1 (u8s sides ++ []) := owns_sl hr.1
            rw [List.append_nil] at hsl
            exact scont_q (Tx.sortsOf op)[i] sides a3 cc3 W5 (by omega) hsl.w m1 (hb _ (List.mem_singleton.2 rfl))
          · have c5 : sides.all (· == (Tx.sortsOf op)[i].1) = true := by simpa only [Sy.dens, Sy.den, E.i, E.b, E.t, gd, Env.push, List.cons_append, List.nil_append, List.append_nil, Int.toNat_natCast, Bool.not_not] using c5
            have hs : ((Tx.sortsOf op).find? fun s => sides.all (· == s.1)) = some (Tx.sortsOf op)[i] := by rw [hfd, List.find?_cons, c5]
            simp only [Tx.sorted, hs]
            rfl
          · simp only [Sy.dens, Sy.den, E.i, E.b, E.t, gd, Env.push, List.cons_append, List.nil_append, List.append_nil, Int.toNat_natCast]; rw [w64i (by omega) (by omega)]; rfl
          · exact (by simp [rowConts, conts, Seg.den, gd, Env.push])
          · have c5 : sides.all (· == (Tx.sortsOf op)[i].1) = false := by simpa only [Sy.dens, Sy.den, E.i, E.b, E.t, gd, Env.push, List.cons_append, List.nil_append, List.append_nil, Int.toNat_natCast, Bool.not_not] using c5
            rw [hfd, List.find?_cons, c5]
        · simp only [Sy.dens, Sy.den, E.i, E.b, E.t, gd, Env.push, List.cons_append, List.nil_append, List.append_nil, Int.toNat_natCast, ltB_false] at c4
          have hs : ((Tx.sortsOf op).find? fun s => sides.all (· == s.1)) = none := by rw [hfd, List.drop_eq_nil_of_le (by omega)]; rfl
          simp only [Tx.sorted, hs]
          rfl
theorem tType_q (x : Px.Ex) (vs : List Value) (vars : List Tx.Var) (a : Option Addr) (c : Nat) (W : Wd) (hth : Px.thin x = true) (hvl : vars.length ≤ 1000000) (hx : ExI W x vs) (hV : VarsI W a c vars) (hG : GlobT W) :
    CallsQ Tryz.prog 8 #[.agg vs.toArray, .slice a vars.length c] W (tupV (Tx.type vars x)) := by
  obtain ⟨op, k, nn, t, nm, al, len, cl, rfl⟩ := hx.shape
  refine vc_tType op k nn len cl vars.length c t nm al a W.all _ ?_
  refine den_new fun m0 W1 _ x1 => ?_
  have x1 := ext_trans W.all_ext x1
  refine den_call_q (fun _ _ => tWhole_q x _ W1 hth (hx.ext x1) (hG.ext x1)) ⟨Tx.whole 16 x, rfl, fun W2 x2 => den_br (fun c1 => den_ret fun _ _ _ => ⟨_, rfl, ?_⟩) fun c1 => ?_⟩
  · have c1 : Tx.whole 16 x = false := by simpa [Sy.dens, Sy.den, E.i, E.b, E.t, gd, Env.push, List.cons_append, List.nil_append, List.append_nil, Int.toNat_natCast] using c1
    rw [Tx.type, c1]; rfl
  · have c1 : Tx.whole 16 x = true := by simpa [Sy.dens, Sy.den, E.i, E.b, E.t, gd, Env.push, List.cons_append, List.nil_append, List.append_nil, Int.toNat_natCast] using c1
    have x2 := ext_trans x1 x2
    refine den_call_q (fun _ _ => typed_ok 16 x _ vars a c W2 hth c1 hvl (hx.ext x2) (hV.ext x2) (hG.ext x2)) ⟨(Tx.typed vars x).1, (Tx.typed vars x).2, rfl, fun _ _ => den_ret fun _ _ _ => ⟨_, rfl, ?_⟩⟩
    rw [Tx.type, c1]; rfl
end Go.Proofs.YtijinopghlpdbaaGreatDoor
