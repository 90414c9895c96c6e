/- The document's reader: its ways. -/
import Derived.Test.YtckgdgkkmhochaaDoorPxX2
namespace Go.Proofs.YtckgdgkkmhochaaDoor
open Go Go.RowKit Go.SF
set_option linter.unusedSimpArgs false
set_option linter.unusedVariables false
def waysC (p : Nat → Option Addr) : List Value := [.slice (p 0) 1 1, .slice (p 1) 1 1, .slice (p 2) 4 4, .slice (p 3) 2 2, .slice (p 4) 3 3]
def strV (s : Lx.Bs) : List Value := [.string ⟨s.toArray⟩]
def pAt (a b c d e : Option Addr) : Nat → Option Addr
  | 0 => a
  | 1 => b
  | 2 => c
  | 3 => d
  | _ => e
theorem xways_i (W : Wd) : CallsI Tryd.prog 23 #[] W.all fun v w' => ∃ (a : Option Addr) (p : Nat → Option Addr), v = .slice a 5 5 ∧ SlAt w' (fun b => W.w.heap.size ≤ b) a 5 5 1 (waysC p) ∧
    ∀ l, l < 5 → SlAt w' (fun b => W.w.heap.size ≤ b) (p l) (Px.sgsAt l).length (Px.sgsAt l).length 1 ((Px.sgsAt l).flatMap strV) := by
  refine vc_xways W.all _ ?_
  refine den_new fun m0 W1 h0 _ => den_new fun m1 W2 h1 _ => den_new fun m2 W3 h2 _ => den_new fun m3 W4 h3 _ => den_new fun m4 W5 h4 _ => den_new fun m5 W6 h5 _ => den_ret fun hb _ _ => ?_
  have b5 : W6.w.heap[m5]? = some (.cells (waysC (pAt (some ⟨m0, 0, none⟩) (some ⟨m1, 0, none⟩) (some ⟨m2, 0, none⟩) (some ⟨m3, 0, none⟩) (some ⟨m4, 0, none⟩))).toArray 60) := hb _ (List.mem_cons_self ..)
  have b4 : W6.w.heap[m4]? = some (.cells ((Px.sgsAt 4).flatMap strV).toArray 9) := hb _ (List.mem_cons_of_mem _ (List.mem_cons_self ..))
  have b3 : W6.w.heap[m3]? = some (.cells ((Px.sgsAt 3).flatMap strV).toArray 9) := hb _ (List.mem_cons_of_mem _ (List.mem_cons_of_mem _ (List.mem_cons_self ..)))
  have b2 : W6.w.heap[m2]? = some (.cells ((Px.sgsAt 2).flatMap strV).toArray 9) := hb _ (List.mem_cons_of_mem _ (List.mem_cons_of_mem _ (List.mem_cons_of_mem _ (List.mem_cons_self ..))))
  have b1 : W6.w.heap[m1]? = some (.cells ((Px.sgsAt 1).flatMap strV).toArray 9) := hb _ (List.mem_cons_of_mem _ (List.mem_cons_of_mem _ (List.mem_cons_of_mem _ (List.mem_cons_of_mem _ (List.mem_cons_self ..)))))
  have b0 : W6.w.heap[m0]? = some (.cells ((Px.sgsAt 0).flatMap strV).toArray 9) := hb _ (List.mem_cons_of_mem _ (List.mem_cons_of_mem _ (List.mem_cons_of_mem _ (List.mem_cons_of_mem _ (List.mem_cons_of_mem _ (List.mem_cons_self ..))))))
  refine ⟨_, rfl, some ⟨m5, 0, none⟩, (pAt (some ⟨m0, 0, none⟩) (some ⟨m1, 0, none⟩) (some ⟨m2, 0, none⟩) (some ⟨m3, 0, none⟩) (some ⟨m4, 0, none⟩)), rfl, blk_slJ b5 h5 rfl, fun l hl => ?_⟩
  match l, hl with
  | 0, _ => exact blk_slJ b0 h0 rfl
  | 1, _ => exact blk_slJ b1 h1 rfl
  | 2, _ => exact blk_slJ b2 h2 rfl
  | 3, _ => exact blk_slJ b3 h3 rfl
  | 4, _ => exact blk_slJ b4 h4 rfl
theorem stops_six (r : List Lx.Tok) : Px.Stops 6 r := by
  cases r with
  | nil => trivial
  | cons t s => exact fun b hb => by have := Px.lv_much hb; omega
theorem rel_six' (ts : List Lx.Tok) : Px.Rel 6 (Px.One ts) (Px.Two 6 ts) := by
  rw [Px.rel_six ts fun _ _ => trivial]
  cases Px.One ts with
  | none => exact .inl rfl
  | some p => exact ⟨rfl, stops_six _⟩
/-- what is known where a way goes round -/
def WInv (n0 : Nat) (M : Int) (ts : List Lx.Tok) (V : Wd) (times : Nat) (q : List Lx.Tok) (b : Bool) (vs : List Value) : Prop :=
  (b = true ∧ Px.Rel M none (Px.Two M ts)) ∨ (b = false ∧ ∃ x lim, ExS V n0 x vs ∧ Px.Stops (M + 1) q ∧ (times = 0 → M ≤ lim) ∧ (0 < times → lim = if M = 3 then 2 else M) ∧ Px.Two M ts = Px.Loop M lim x q ∧ TsOk q ∧ times + q.length ≤ ts.length)
theorem ways_at (p : Nat → Option Addr) : ∀ l, l < 5 → (waysC p)[l]? = some (.slice (p l) (Px.sgsAt l).length (Px.sgsAt l).length)
  | 0, _ => rfl
  | 1, _ => rfl
  | 2, _ => rfl
  | 3, _ => rfl
  | 4, _ => rfl
  | n + 5, h => by omega
theorem sl_agg60 : aggT Tryd.prog 60 = some false := by kernel_rfl
set_option maxHeartbeats 1000000 in
theorem xway_ok (n : Nat) (ihp : XPre n) (ih : XWay n) : XWay (n + 1) := by
  intro l m a c ts W hl hm hI hT hts hts1 hn
  refine vc_xway (l : Int) ts.length c false a m W _ hm hI ?_
  refine den_new fun m1 W1 _ x1 => ?_
  by_cases hl5 : l = 5
  · subst hl5
    refine den_br_t rfl (den_call fun hb _ => CallsE.mono (ihp m a c ts (W1.but [m]) (hb _ (List.mem_singleton.2 rfl)) (but_not W1 m) (fun h => (hT h).ext (ext_but x1 hI)) hts hts1 (by omega)) fun e w' hk ⟨op, k, nn, t', nm, al, len, cl, a', c', q, bd, he, hh, hs, ho⟩ => ?_)
    subst he
    refine ⟨op, k, nn, len, cl, q.length, c', bd, t', nm, al, a', rfl, fun b hb => by obtain rfl := List.mem_singleton.1 hb; exact hh, fun W2 e2 y2 n2 => ?_⟩
    simp only [Env.push, List.cons_append, List.nil_append, List.append_nil]
    refine den_wr fun W3 y3 => den_ret fun hb _ _ => ⟨Px.One ts, rel_six' ts, op, k, nn, t', nm, al, len, cl, a', c', q, bd, rfl, hb _ (List.mem_singleton.2 rfl), hs, ?_⟩
    rcases ho with ho | ⟨x, ho, hbd, hx⟩
    · exact .inl ho
    · exact .inr ⟨x, ho, hbd, ((ExAt.stay hx e2 n2 (by exact x1.size)).ext y3).new⟩
  have hl4 : l < 5 := by omega
  have hw : IntKind.i64.wrap ((l : Int) + 1) = ((l + 1 : Nat) : Int) := by rw [w64i (by omega) (by omega)]; rfl
  obtain ⟨M, hM⟩ : ∃ M : Int, M = (l : Int) + 1 := ⟨_, rfl⟩
  have hM2 : (((l + 1 : Nat) : Int) + 1) = M + 1 := by omega
  have hM1 : 1 ≤ M ∧ M ≤ 5 := by omega
  have hsl : (Px.sgsAt l).length ≤ 4 := (show ∀ l, l < 5 → (Px.sgsAt l).length ≤ 4 by decide) l hl4
  have hway : ∀ (V : Wd) (a' : Option Addr) (c' : Nat) (q : List Lx.Tok), Ext W V → V.w.heap[m]? = some (.cells #[.slice a' q.length c', .bool false] 43) → TokSub a c ts a' c' q → TsOk q → q.length ≤ ts.length →
      CallsE Tryd.prog 11 #[.pointer (some ⟨m, 0, none⟩), .int .i64 (IntKind.i64.wrap ((l : Int) + 1))] (V.but [m]) (fun e w' => ∃ o, Px.Rel (M + 1) o (Px.Two (M + 1) q) ∧ XEnd V.w.heap.size m a' c' q o e w') := fun V a' c' q xV hh hs hq hlq => by
    rw [hw, ← hM2]
    exact ih (l + 1) m a' c' q (V.but [m]) (by omega) hh (but_not V m) (fun h => (hs W (hT fun e => h (List.length_eq_zero_iff.1 (by rw [e] at hlq; simpa using hlq)))).ext (ext_but xV hI)) hq (by omega) (by omega)
  rw [show ((l : Int) + 1) = M from hM.symm]
  refine den_br_f (by simp only [Sy.dens, Sy.den, E.i, E.b, E.t, gd, Env.push, List.cons_append, List.nil_append, List.append_nil, Int.toNat_natCast, Bool.false_or, ltB_false]; omega) (den_call fun hb _ => CallsE.mono (hway W1 a c ts x1 (hb _ (List.mem_singleton.2 rfl)) (TokSub.refl _ _ _) hts (Nat.le_refl _)) fun e w' hk ⟨o, hrel, op, k, nn, t', nm, al, len, cl, a', c', q, bd, he, hh, hs, ho⟩ => ?_)
  subst he
  refine ⟨op, k, nn, len, cl, q.length, c', bd, t', nm, al, a', rfl, fun b hb => by obtain rfl := List.mem_singleton.1 hb; exact hh, fun W2 e2 y2 n2 => ?_⟩
  have x2 := ext_trans x1 y2
  simp only [Env.push, List.cons_append, List.nil_append, List.append_nil]
  refine den_new fun m2 W3 hm2 y3 => den_wr fun W4 y4 => ?_
  have x4 := ext_trans (ext_trans x2 y3) y4
  have hdown := Px.rel_down hM1.1 hM1.2 hrel
  have first : WInv W.w.heap.size M ts W4 0 q bd [.int .u8 op, .int .u8 k, .int .i64 nn, .string t', .string nm, .slice al len cl] := by
    rcases ho with ⟨ho, hbd⟩ | ⟨x, ho, hbd, hx⟩
    · subst ho
      exact .inl ⟨hbd, hdown⟩
    · subst ho
      obtain ⟨h1, lim, h2, h3⟩ := hdown
      have hless := Px.Two_less (m := M + 1) (ts := ts) (e := x) (r := q) hrel.1
      have hX := ExAt.stay hx e2 n2 (by exact x1.size)
      exact .inr ⟨hbd, x, lim, (hX.ext y3).ext y4, h1, fun _ => h2, fun h => absurd h (by decide), h3, hts.less hless.2, by have := hless.1; omega⟩
  refine den_loop (fun j vs ls V => ∃ (times : Nat) (op k nn : Int) (t nm : ByteArray) (al : Option Addr) (len cl : Nat) (q : List Lx.Tok) (aq : Option Addr) (cq : Nat) (bd : Bool), vs = [.int .i64 (times : Nat), .slice aq q.length cq, .bool bd, .int .u8 op, .int .u8 k, .int .i64 nn, .string t, .string nm, .slice al len cl] ∧ ls = [] ∧ j = (if bd = true then 0 else q.length + 1) ∧
    TokSub a c ts aq cq q ∧ WInv W.w.heap.size M ts V times q bd [.int .u8 op, .int .u8 k, .int .i64 nn, .string t, .string nm, .slice al len cl]) (if bd = true then 0 else q.length + 1) ⟨0, op, k, nn, t', nm, al, len, cl, q, a', c', bd, rfl, rfl, rfl, hs, first⟩ ?_
  clear first hdown ho hs hh hrel
  rintro j vs ls V xV ⟨times, op, k, nn, t, nm, al, len, cl, q, aq, cq, bd, rfl, rfl, rfl, hs, hinv⟩
  have xV' := ext_trans x4 xV
  refine ⟨(times : Int), op, k, nn, q.length, cq, len, cl, bd, t, nm, aq, al, rfl, rfl, fun _ => ?_⟩
  simp only [Env.push, List.cons_append, List.nil_append, List.append_nil]
  refine den_br (fun c0 => ?_) fun c0 => ?_
  rotate_left
  · -- it ends
    have hbd : bd = true := by
      rcases hinv with ⟨h, _⟩ | ⟨h, x, lim, _, _, _, _, _, _, h2⟩
      · exact h
      · subst h
        simp only [Sy.dens, Sy.den, E.i, E.b, E.t, gd, Env.push, List.cons_append, List.nil_append, List.append_nil, Int.toNat_natCast, Bool.not_false, Bool.and_true, ltB_false] at c0
        omega
    refine den_wr fun V1 y1 => den_ret fun hb _ _ => ⟨none, ?_, op, k, nn, t, nm, al, len, cl, aq, cq, q, bd, rfl, hb _ (List.mem_singleton.2 rfl), hs, .inl ⟨rfl, hbd⟩⟩
    rcases hinv with ⟨_, h⟩ | ⟨h, _⟩
    · exact h
    · rw [hbd] at h; cases h
  have hbd : bd = false := by
    simp only [Sy.dens, Sy.den, E.i, E.b, E.t, gd, Env.push, List.cons_append, List.nil_append, List.append_nil, Int.toNat_natCast, Bool.and_eq_true, Bool.not_eq_true'] at c0
    exact c0.2
  subst hbd
  rcases hinv with ⟨h, _⟩ | ⟨_, x, lim, hX, hst, ht0, ht1, hTwo, hq, hlq⟩
  · cases h
  refine den_call_i (fun _ _ => xways_i V) fun v w' _ ⟨aw, p, hv, hA, hP⟩ => ⟨5, 5, aw, hv, fun V1 e1 y1 n1 => ?_⟩
  have hA1 : SlI V1 aw 5 5 1 (waysC p) := SlAt.stay hA e1 n1
  have hP1 : SlI V1 (p l) (Px.sgsAt l).length (Px.sgsAt l).length 1 ((Px.sgsAt l).flatMap strV) := SlAt.stay (hP l hl4) e1 n1
  simp only [Env.push, List.cons_append, List.nil_append, List.append_nil]
  refine den_chk ?_ (den_chk ?_ (den_chk ?_ (den_look ⟨(Px.sgsAt l).length, (Px.sgsAt l).length, p l, fun U xU => ?_, ?_⟩)))
  · simp only [E.b, gd, Env.push]; exact SlI.some_of hA1 (by omega)
  · simp only [Sy.dens, Sy.den, E.i, E.b, E.t, gd, Env.push, List.cons_append, List.nil_append, List.append_nil, Int.toNat_natCast]; exact leB_t (by omega)
  · simp only [Sy.dens, Sy.den, E.i, E.b, E.t, gd, Env.push, List.cons_append, List.nil_append, List.append_nil, Int.toNat_natCast]; exact ltB_t (by omega)
  · have hA2 : SlI V1 aw 5 5 1 ((waysC p).flatMap fun v => [v]) := by
      have e : (waysC p).flatMap (fun v => [v]) = waysC p := rfl
      rw [e]; exact hA1
    have hx := ways_at p l hl4
    have := sl_look_f (P := Tryd.prog) (f := fun v : Value => [v]) (fun _ => rfl) hA2 sl_agg60 (k := 0) hx (by decide) (u := .slice (p l) (Px.sgsAt l).length (Px.sgsAt l).length) rfl xU
    simp only [Sy.dens, Sy.den, E.i, E.b, E.t, gd, Env.push, List.cons_append, List.nil_append, List.append_nil, Int.toNat_natCast] at this ⊢
    exact this
  simp only [Env.push, List.cons_append, List.nil_append, List.append_nil]
  refine den_loop (fun j vs ls _ => ∃ (i : Nat) (sg : Lx.Bs) (q' : List Lx.Tok) (aq' : Option Addr) (cq' : Nat), vs = [.string ⟨sg.toArray⟩, .int .i64 (i : Nat), .slice aq' q'.length cq', .bool false] ∧ ls = [] ∧ j = (Px.sgsAt l).length - i ∧ i ≤ (Px.sgsAt l).length ∧ TokSub a c ts aq' cq' q' ∧
    ((sg = [] ∧ q' = q ∧ ∀ s ∈ (Px.sgsAt l).take i, Px.sign s q = none) ∨ (sg ∈ Px.sgsAt l ∧ Px.sign sg q = some q'))) (Px.sgsAt l).length ⟨0, [], q, aq, cq, rfl, rfl, rfl, Nat.zero_le _, hs, .inl ⟨rfl, rfl, fun s hs => by simp at hs⟩⟩ ?_
  rintro j vs ls V2 y2' ⟨i, sg, q', aq', cq', rfl, rfl, rfl, hi, hs', hsg⟩
  have xV2 := ext_trans xV' (ext_trans y1 y2')
  refine ⟨(i : Int), q'.length, cq', false, ⟨sg.toArray⟩, aq', rfl, rfl, fun _ => ?_⟩
  simp only [Env.push, List.cons_append, List.nil_append, List.append_nil]
  have tbl : (⟨sg.toArray⟩ : ByteArray).data.toList = sg := by simp
  refine den_br (fun c1 => ?_) fun c1 => ?_
  · -- the next sign
    have c1 : i < (Px.sgsAt l).length ∧ sg = [] := by
      simp only [Sy.dens, Sy.den, E.i, E.b, E.t, gd, Env.push, List.cons_append, List.nil_append, List.append_nil, Int.toNat_natCast, Bool.and_eq_true, ltB_true, tbl, beq_iff_eq] at c1
      exact ⟨by omega, c1.2⟩
    obtain ⟨hil, rfl⟩ := c1
    have hsn : q' = q ∧ ∀ s ∈ (Px.sgsAt l).take i, Px.sign s q = none := by
      rcases hsg with ⟨_, h⟩ | ⟨h, _⟩
      · exact h
      · exact absurd rfl (Px.sg_lv l hl4 _ h).1
    obtain ⟨rfl, hno⟩ := hsn
    have hgx : (Px.sgsAt l)[i]? = some (Px.sgsAt l)[i] := List.getElem?_eq_getElem hil
    have hmem : (Px.sgsAt l)[i] ∈ Px.sgsAt l := List.getElem_mem hil
    have tbl2 : (⟨(Px.sgsAt l)[i].toArray⟩ : ByteArray).data.toList = (Px.sgsAt l)[i] := by simp
    have lk : ∀ U, Ext V2 U → _ := fun U xU => sl_look_f (P := Tryd.prog) (f := strV) (fun _ => rfl) hP1 xstr_agg (k := 0) hgx (by decide) (u := .string ⟨(Px.sgsAt l)[i].toArray⟩) rfl (ext_trans y2' xU)
    refine den_chk ?_ (den_chk ?_ (den_look ⟨⟨(Px.sgsAt l)[i].toArray⟩, fun U xU => ?_, ?_⟩))
    · simp only [E.b, gd, Env.push]; exact SlI.some_of hP1 (by omega)
    · simp only [Sy.dens, Sy.den, E.i, E.b, E.t, gd, Env.push, List.cons_append, List.nil_append, List.append_nil, Int.toNat_natCast]; exact leB_t (by omega)
    · have := lk U xU
      simp only [Sy.dens, Sy.den, E.i, E.b, E.t, gd, Env.push, List.cons_append, List.nil_append, List.append_nil, Int.toNat_natCast] at this ⊢
      exact this
    simp only [Env.push, List.cons_append, List.nil_append, List.append_nil]
    refine den_call fun hb _ => CallsE.mono (nx_e m false aq' cq' q' ⟨(Px.sgsAt l)[i].toArray⟩ (V2.but [m]) (hb _ (List.mem_singleton.2 rfl)) (but_not V2 m) (fun h => (hs' W (hT fun e => h (List.length_eq_zero_iff.1 (by rw [e] at hlq; simp only [List.length_nil] at hlq; omega)))).ext (ext_but xV2 hI))) fun e w' hk ⟨a3, c3, r3, b3, he, hh, hs3, hc3⟩ => ?_
    subst he
    rw [tbl2] at hc3
    refine ⟨r3.length, c3, b3, false, a3, rfl, fun b hb => by obtain rfl := List.mem_singleton.1 hb; exact hh, fun V3 e3 y3' n3 => ?_⟩
    simp only [Env.push, List.cons_append, List.nil_append, List.append_nil]
    refine den_br (fun cb => den_look ⟨⟨(Px.sgsAt l)[i].toArray⟩, fun U xU => ?_, ?_⟩) fun cb => den_again ⟨(Px.sgsAt l).length - (i + 1), by omega, i + 1, [], r3, a3, c3, ?_, rfl, rfl, by omega, hs'.trans hs3, .inl ⟨rfl, ?_, ?_⟩⟩
    · have := lk U (ext_trans y3' xU)
      simp only [Sy.dens, Sy.den, E.i, E.b, E.t, gd, Env.push, List.cons_append, List.nil_append, List.append_nil, Int.toNat_natCast] at this ⊢
      exact this
    · simp only [Env.push, List.cons_append, List.nil_append, List.append_nil]
      have cb : b3 = true := cb
      refine den_again ⟨(Px.sgsAt l).length - (i + 1), by omega, i + 1, (Px.sgsAt l)[i], r3, a3, c3, ?_, rfl, rfl, by omega, hs'.trans hs3, .inr ⟨hmem, ?_⟩⟩
      · simp only [Sy.dens, Sy.den, E.i, E.b, E.t, gd, Env.push, List.cons_append, List.nil_append, List.append_nil, Int.toNat_natCast]; rw [w64i (by omega) (by omega)]; rfl
      · rcases hc3 with ⟨_, h⟩ | ⟨h, _⟩
        · exact h
        · rw [cb] at h; cases h
    · simp only [Sy.dens, Sy.den, E.i, E.b, E.t, gd, Env.push, List.cons_append, List.nil_append, List.append_nil, Int.toNat_natCast]; rw [w64i (by omega) (by omega)]; rfl
    · have cb : b3 = false := cb
      rcases hc3 with ⟨h, _⟩ | ⟨_, _, h, _⟩
      · rw [cb] at h; cases h
      · exact h
    · have cb : b3 = false := cb
      intro s hs
      rw [List.take_add_one, hgx] at hs
      rcases List.mem_append.1 hs with h | h
      · exact hno s h
      · obtain rfl : s = (Px.sgsAt l)[i] := by simpa using h
        rcases hc3 with ⟨h, _⟩ | ⟨_, h, _⟩
        · rw [cb] at h; cases h
        · exact h
  · -- all signs are tried, or one is found
    have c1' : sg = [] → i = (Px.sgsAt l).length := by
      rintro rfl
      simp only [Sy.dens, Sy.den, E.i, E.b, E.t, gd, Env.push, List.cons_append, List.nil_append, List.append_nil, Int.toNat_natCast, Bool.and_eq_false_iff, ltB_false] at c1
      rcases c1 with h | h
      · omega
      · cases h
    have hMM : M = (l : Int) + 1 := hM
    refine den_br (fun c2 => den_wr fun V3 y3' => den_wr fun V4 y4' => den_ret fun hb _ _ => ?_) fun c2 => ?_
    · rcases hsg with ⟨rfl, rfl, hno⟩ | ⟨hmem, hsign⟩
      · rw [c1' rfl, List.take_length] at hno
        have hstop : Px.Stops M q' := by
          rw [hMM]
          exact Px.stops_sg hl4 (by rw [show (l : Int) + 2 = M + 1 from by omega]; exact hst) hno
        refine ⟨some (x, q'), ⟨by rw [hTwo]; exact Px.loop_stop hstop, hstop⟩, op, k, nn, t, nm, al, len, cl, aq', cq', q', false, rfl, hb _ (List.mem_singleton.2 rfl), hs', .inr ⟨x, rfl, rfl, (hX.ext (ext_trans y1 (ext_trans y2' (ext_trans y3' y4')))).new⟩⟩
      · obtain ⟨t1, rfl, hlv⟩ := Px.sign_lv hl4 hmem hsign
        have hne := (Px.sg_lv l hl4 _ hmem).1
        have c2 : l = 2 ∧ 0 < times := by
          simp only [Sy.dens, Sy.den, E.i, E.b, E.t, gd, Env.push, List.cons_append, List.nil_append, List.append_nil, Int.toNat_natCast, tbl, Bool.or_eq_true, Bool.and_eq_true, beq_iff_eq, ltB_true] at c2
          rcases c2 with h | h
          · exact absurd h hne
          · exact ⟨by omega, by omega⟩
        have hM3 : M = 3 := by omega
        have hlim := ht1 c2.2
        rw [if_pos hM3] at hlim
        refine ⟨none, ?_, op, k, nn, t, nm, al, len, cl, aq', cq', q', true, rfl, ?_, hs', .inl ⟨rfl, rfl⟩⟩
        · rw [hTwo, hM3]
          exact Px.loop_bad hlv (by show (l : Int) + 1 = 3; omega) hlim
        · have := hb _ (List.mem_singleton.2 rfl)
          have e : (sg == []) = false := by rw [beq_eq_false_iff_ne]; exact hne
          simpa [Sy.dens, Sy.den, E.i, E.b, E.t, gd, Env.push, List.cons_append, List.nil_append, List.append_nil, Int.toNat_natCast, Blk.at, e, hne] using this
    · rcases hsg with ⟨rfl, rfl, hno⟩ | ⟨hmem, hsign⟩
      · simp [Sy.dens, Sy.den, E.i, E.b, E.t, gd, Env.push, List.cons_append, List.nil_append, List.append_nil, Int.toNat_natCast] at c2
      obtain ⟨t1, rfl, hlv⟩ := Px.sign_lv hl4 hmem hsign
      have c2 : ¬ (l = 2 ∧ 0 < times) := by
        rintro ⟨h1, h2⟩
        have e1 : ltB 0 (times : Int) = true := ltB_t (by omega)
        simp [Sy.dens, Sy.den, E.i, E.b, E.t, gd, Env.push, List.cons_append, List.nil_append, List.append_nil, Int.toNat_natCast, h1, e1] at c2
      have hlim : M ≤ lim := by
        rcases Nat.eq_zero_or_pos times with h | h
        · exact ht0 h
        · rw [ht1 h]
          by_cases h3 : M = 3
          · exact absurd ⟨by omega, h⟩ c2
          · rw [if_neg h3]; omega
      have hbM : ((Px.opX sg, (l : Int) + 1) : Int × Int).2 = M := hMM.symm
      have hgo := Px.loop_go (x := x) (l := lim) (r := q') hlv hbM hlim
      simp only [List.length_cons] at hlq
      rw [show ((l : Int) + 1) = M from hMM.symm] at *
      refine den_call fun hb _ => CallsE.mono (hway V2 aq' cq' q' xV2 (hb _ (List.mem_singleton.2 rfl)) hs' hq.tail (by omega)) fun e w' hk ⟨o, hrel, op', k', nn', t', nm', al', len', cl', a', c', r', bd', he, hh, hs3, ho⟩ => ?_
      subst he
      refine ⟨op', k', nn', len', cl', r'.length, c', bd', t', nm', al', a', rfl, fun b hb => by obtain rfl := List.mem_singleton.1 hb; exact hh, fun V3 e3 y3' n3 => ?_⟩
      simp only [Env.push, List.cons_append, List.nil_append, List.append_nil]
      refine den_new fun m3 V4 hm3 y4' => den_wr fun V5 y5' => ?_
      refine den_callq ⟨Px.opX sg, fun U _ _ _ => by have := xop_q ⟨sg.toArray⟩ U; rw [tbl] at this; exact this, ?_⟩
      refine den_grow fun V7 y7 => den_new fun m4 V8 hm4 y8 => den_grow fun V9 y9 => den_wr fun V10 y10 => den_frz fun V11 e11 y11 hI11 hb11 => den_again ?_
      have z3 := ext_trans y1 (ext_trans y2' y3')
      have z11 := ext_trans y4' (ext_trans y5' (ext_trans y7 (ext_trans y8 (ext_trans y9 (ext_trans y10 y11)))))
      have hv : ∀ b : Bool, [Value.int .i64 (IntKind.i64.wrap ((times : Int) + 1)), .slice a' r'.length c', .bool b, .int .u8 (Px.opX sg), .int .u8 0, .int .i64 0, .string ⟨#[]⟩, .string ⟨#[]⟩, .slice (some ⟨m4, 0, none⟩) 2 2] = [.int .i64 ((times + 1 : Nat) : Int), .slice a' r'.length c', .bool b, .int .u8 (Px.opX sg), .int .u8 0, .int .i64 0, .string ⟨#[]⟩, .string ⟨#[]⟩, .slice (some ⟨m4, 0, none⟩) 2 2] := fun b => by
        rw [w64i (by omega) (by omega)]; rfl
      rcases ho with ⟨ho, hbd⟩ | ⟨y, ho, hbd, hy⟩
      · subst ho hbd
        refine ⟨0, by simp, times + 1, Px.opX sg, 0, 0, ⟨#[]⟩, ⟨#[]⟩, some ⟨m4, 0, none⟩, 2, 2, r', a', c', true, hv true, rfl, rfl, hs'.trans hs3, .inl ⟨rfl, ?_⟩⟩
        rw [hTwo]
        exact Px.loop_none hM1.1 hlv hbM hlim hrel
      · subst ho hbd
        have hlt := Px.Two_less (m := M + 1) (ts := q') (e := y) (r := r') hrel.1
        have hlt1 := hlt.1
        have hY := ExAt.stay hy e3 n3 (by exact xV2.size)
        refine ⟨r'.length + 1, by simp only [List.length_cons]; simp; omega, times + 1, Px.opX sg, 0, 0, ⟨#[]⟩, ⟨#[]⟩, some ⟨m4, 0, none⟩, 2, 2, r', a', c', false, hv false, rfl, by simp, hs'.trans hs3, .inr ⟨rfl, Px.op2 (Px.opX sg) x y, if M = 3 then 2 else M, ?_, hrel.2, fun h => absurd h (by omega), fun _ => rfl, ?_, hq.tail.less hlt.2, by omega⟩⟩
        · have hbm : V11.w.heap[m4]? = some (.cells ([.int .u8 op, .int .u8 k, .int .i64 nn, .string t, .string nm, .slice al len cl] ++ [.int .u8 op', .int .u8 k', .int .i64 nn', .string t', .string nm', .slice al' len' cl'] : List Value).toArray 26) := hb11 _ (List.mem_cons_self ..)
          exact ExAt.two hbm ⟨hI11 _ (List.mem_cons_self ..) hm4, hm4⟩ (hX.ext (ext_trans z3 z11)) (hY.ext z11) (Px.opX sg)
        · rw [hTwo, hgo, hrel.1]; rfl
theorem xread_ok : ∀ n : Nat, XPre n ∧ XWay n := by
  intro n
  induction n with
  | zero => exact ⟨fun m a c ts W _ _ _ _ _ h => by omega, fun l m a c ts W hl _ _ _ _ _ h => by omega⟩
  | succ n ih => exact ⟨xpre_ok n ih.1 ih.2, xway_ok n ih.1 ih.2⟩
end Go.Proofs.YtckgdgkkmhochaaDoor
