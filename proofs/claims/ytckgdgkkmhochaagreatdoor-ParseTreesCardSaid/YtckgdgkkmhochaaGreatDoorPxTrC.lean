/- The document's text of a tree: the contracts (written by wip/gen_pxtrc.py). -/
import Derived.Test.YtckgdgkkmhochaaGreatDoorPxTrB
namespace Go.Proofs.YtckgdgkkmhochaaGreatDoor
open Go Go.RowKit Go.SF
set_option linter.unusedSimpArgs false
set_option linter.unusedVariables false
def TextOk (n : Nat) : Prop := ∀ (x : Px.Ex) (vs : List Value) (W : Wd), Px.may n x = true → Px.thin x = true → ExI W x vs → CallsQ Tryz.prog 31 #[.agg vs.toArray] W (.string ⟨(Px.show_ n x).toArray⟩)
theorem at_q (n : Nat) (hn : n ≤ 16) (ih : TextOk n) (x : Px.Ex) (vs : List Value) (need : Int) (W : Wd) (hm : Px.may n x = true) (hth : Px.thin x = true) (hx : ExI W x vs) : CallsQ Tryz.prog 46 #[.agg vs.toArray, .int .i64 need] W (.string ⟨(Px.within (Px.show_ n x) (Px.much x) (need + 1)).toArray⟩) := by
  have hl := Nat.le_trans (show_len n x hm hth) (lim_16 n hn)
  have hlm := Px.level_much x
  have hsh := hx.shape
  obtain ⟨op, k, nn, t, nm, al, len, cl, rfl⟩ := hx.shape
  have hop : Px.opOf x = op := by
    obtain ⟨o1, k1, n1, t1, m1, l1⟩ := x
    simp only [ExI, ExAt] at hx
    obtain ⟨a, c, ls, e, _⟩ := hx
    simp only [exV, List.cons.injEq, Value.int.injEq, true_and] at e
    exact e.1.symm
  rw [hop] at hlm
  refine vc_rat op k nn need len cl t nm al W.all _ ?_
  have e1 : (⟨#[40]⟩ : ByteArray).size = 1 := rfl
  have e2 : (⟨#[41]⟩ : ByteArray).size = 1 := rfl
  have w : ∀ V, Ext W.all V → Ext W V := fun V xV => ext_trans W.all_ext xV
  refine den_new fun m0 W1 _ x1 => den_call_q (fun _ _ => level_q op W1) ⟨(Px.levelX op).1, ⟨(Px.levelX op).2.toArray⟩, rfl, fun W2 x2 => ?_⟩
  simp only [Env.push, List.cons_append, List.nil_append, List.append_nil]
  have y2 := w _ (ext_trans x1 x2)
  refine den_br (fun c => ?_) fun c => ?_
  · have c : ¬ need + 1 ≤ Px.much x := by simp only [Sy.dens, Sy.den, E.i, E.b, E.t, gd, Env.push, List.cons_append, List.nil_append, List.append_nil, Int.toNat_natCast, ltB_true] at c; omega
    refine den_call_q (fun _ _ => ih x _ W2 hm hth (hx.ext y2)) ⟨⟨(Px.show_ n x).toArray⟩, rfl, fun W3 x3 => den_chk ?_ (den_chk ?_ (den_ret fun _ _ _ => ⟨_, rfl, ?_⟩))⟩
    · simp only [Sy.dens, Sy.den, E.i, E.b, E.t, gd, Env.push, List.cons_append, List.nil_append, List.append_nil, Int.toNat_natCast]; rw [ba_size]; refine leB_t ?_; rw [ba_size]; simp only [List.length_cons, List.length_nil]; omega
    · simp only [Sy.dens, Sy.den, E.i, E.b, E.t, gd, Env.push, List.cons_append, List.nil_append, List.append_nil, Int.toNat_natCast]; rw [ByteArray.size_append, ba_size, ba_size, ba_size]; refine leB_t ?_; simp only [List.length_cons, List.length_nil]; omega
    · simp only [Px.within, if_neg c, Sy.dens, Sy.den, E.i, E.b, E.t, gd, Env.push, List.cons_append, List.nil_append, List.append_nil, Int.toNat_natCast]
      rw [ba_app, ba_app]; rfl
  · have c : need + 1 ≤ Px.much x := by simp only [Sy.dens, Sy.den, E.i, E.b, E.t, gd, Env.push, List.cons_append, List.nil_append, List.append_nil, Int.toNat_natCast, ltB_false] at c; omega
    refine den_call_q (fun _ _ => ih x _ W2 hm hth (hx.ext y2)) ⟨⟨(Px.show_ n x).toArray⟩, rfl, fun W3 x3 => den_ret fun _ _ _ => ⟨_, rfl, ?_⟩⟩
    simp only [Px.within, if_pos c]; rfl
set_option maxRecDepth 100000 in
theorem text_ok : ∀ n : Nat, n ≤ 16 → TextOk n := by
  intro n
  induction n with
  | zero => intro _ x vs W h; simp [Px.may] at h
  | succ n ih =>
    intro hn x vs W hm hth hx
    have ih := ih (by omega)
    have hat := fun (y : Px.Ex) (us : List Value) (need : Int) (V : Wd) => at_q n (by omega) ih y us need V
    obtain ⟨op, k, nn, t, nm, l⟩ := x
    have hx := hx.ext W.all_ext
    simp only [ExI, ExAt] at hx
    obtain ⟨a, c, ls, rfl, hS, hE⟩ := hx
    have hS : SlI W.all a l.length c 6 ls := hS
    have hh : Px.head (.mk op k nn t nm l) = true := by
      simp only [Px.may, Bool.and_eq_true] at hm; exact hm.1
    obtain ⟨h1, h2, h3, h4, h5⟩ := head_facts hh
    have hth' := hth
    simp only [Px.thin, Bool.and_eq_true, decide_eq_true_eq] at hth'
    have htt : (⟨t.toArray⟩ : ByteArray).data.toList = t := by simp
    have hlen : ∀ i, i < l.length → (Px.show_ n (Px.arg (.mk op k nn t nm l) i)).length ≤ 274877906944 := fun i hi => by
      obtain ⟨_, g1, g2⟩ := arg_facts hm hth hi
      exact Nat.le_trans (show_len n _ g1 g2) (lim_16 n (by omega))
    refine vc_rtext op k nn l.length c ⟨t.toArray⟩ ⟨nm.toArray⟩ a W.all _ ?_
    rw [show_eq]
    refine den_new fun m0 W1 _ x1 => den_call_q (fun _ _ => level_q op W1) ⟨(Px.levelX op).1, ⟨(Px.levelX op).2.toArray⟩, rfl, fun W2 x2 => ?_⟩
    have x2 := ext_trans x1 x2
    simp only [Env.push, List.cons_append, List.nil_append, List.append_nil]
    refine den_br (fun c1 => ?_) fun c1 => den_br (fun c2 => den_ret fun _ _ _ => ⟨_, rfl, ?_⟩) fun c2 => den_br (fun c5 => ?_) fun c5 => den_br (fun c3 => ?_) fun c3 => ?_
    · have c1 : op = 1 := by simpa [Sy.dens, Sy.den, E.i, E.b, E.t, gd, Env.push, List.cons_append, List.nil_append, List.append_nil, Int.toNat_natCast] using c1
      rw [if_pos c1]
      have hv := (h5 c1).1
      have hts := may_tlen hv
      have hnn : k = 1 → 0 ≤ nn := fun hk => by
        have hh := hh
        simp only [Px.head, Bool.and_eq_true, Bool.or_eq_true, beq_iff_eq, Bool.not_eq_true', decide_eq_false_iff_not, c1] at hh
        have := hh.2.2.2.2
        rcases this with h | h
        · simp at h
        · have h := h.2.2
          rw [hk] at h
          simpa using h
      refine den_call_q (fun _ _ => rshow9_q k nn ⟨t.toArray⟩ hnn hth'.1.2.2.2.2 (by rw [ba_size]; omega) W2) ⟨Va.shown ⟨k, nn, ⟨t.toArray⟩⟩, rfl, fun W3 x3 => den_ret fun _ _ _ => ⟨_, rfl, ?_⟩⟩
      show Value.string _ = _
      rw [ba_list]; rfl
    · have c1 : ¬ op = 1 := by simpa [Sy.dens, Sy.den, E.i, E.b, E.t, gd, Env.push, List.cons_append, List.nil_append, List.append_nil, Int.toNat_natCast] using c1
      have c2 : op = 2 := by simpa [Sy.dens, Sy.den, E.i, E.b, E.t, gd, Env.push, List.cons_append, List.nil_append, List.append_nil, Int.toNat_natCast] using c2
      rw [if_neg c1, if_pos c2]; rfl
    · have c1 : ¬ op = 1 := by simpa [Sy.dens, Sy.den, E.i, E.b, E.t, gd, Env.push, List.cons_append, List.nil_append, List.append_nil, Int.toNat_natCast] using c1
      have c2 : ¬ op = 2 := by simpa [Sy.dens, Sy.den, E.i, E.b, E.t, gd, Env.push, List.cons_append, List.nil_append, List.append_nil, Int.toNat_natCast] using c2
      have c5 : op = 16 := by simpa [Sy.dens, Sy.den, E.i, E.b, E.t, gd, Env.push, List.cons_append, List.nil_append, List.append_nil, Int.toNat_natCast] using c5
      rw [if_neg c1, if_neg c2, if_neg (by omega), if_neg (by omega), if_pos c5]
      have hl0 : 0 < l.length := by rw [h3, c5]; decide
      obtain ⟨g1, g2, g3⟩ := arg_facts hm hth hl0
      obtain ⟨op', k', n', t', nm', al', len', cl', hy, hlk⟩ := arg_look hS hE g1
      refine den_chk ?_ (den_chk rfl (den_chk ?_ (den_look ⟨op', k', n', len', cl', t', nm', al', fun W' x => hlk W' (ext_trans x2 x), ?_⟩)))
      · simp only [E.b, gd, Env.push]; exact hS.some_of hl0
      · simp only [Sy.dens, Sy.den, E.i, E.b, E.t, gd, Env.push, List.cons_append, List.nil_append, List.append_nil, Int.toNat_natCast]; exact ltB_t (by omega)
      · simp only [Env.push, List.cons_append, List.nil_append, List.append_nil]
        have hle := hlen 0 hl0
        refine den_call_q (fun _ _ => ih _ _ W2 g2 g3 (hy.ext x2)) ⟨⟨(Px.show_ n (Px.arg (.mk op k nn t nm l) 0)).toArray⟩, rfl, fun W3 x3 => den_chk ?_ (den_chk ?_ (den_ret fun _ _ _ => ⟨_, rfl, ?_⟩))⟩
        · simp only [Sy.dens, Sy.den, E.i, E.b, E.t, gd, Env.push, List.cons_append, List.nil_append, List.append_nil, Int.toNat_natCast]; rw [ba_size, ba_size]; refine leB_t ?_; simp only [List.length_cons, List.length_nil]; omega
        · simp only [Sy.dens, Sy.den, E.i, E.b, E.t, gd, Env.push, List.cons_append, List.nil_append, List.append_nil, Int.toNat_natCast]; rw [ByteArray.size_append, ba_size, ba_size, ba_size]; refine leB_t ?_; simp only [List.length_cons, List.length_nil]; omega
        · simp only [Sy.dens, Sy.den, E.i, E.b, E.t, gd, Env.push, List.cons_append, List.nil_append, List.append_nil, Int.toNat_natCast]; rw [ba_app, ba_app]; simp
    · have c1 : ¬ op = 1 := by simpa [Sy.dens, Sy.den, E.i, E.b, E.t, gd, Env.push, List.cons_append, List.nil_append, List.append_nil, Int.toNat_natCast] using c1
      have c2 : ¬ op = 2 := by simpa [Sy.dens, Sy.den, E.i, E.b, E.t, gd, Env.push, List.cons_append, List.nil_append, List.append_nil, Int.toNat_natCast] using c2
      have c5 : ¬ op = 16 := by simpa [Sy.dens, Sy.den, E.i, E.b, E.t, gd, Env.push, List.cons_append, List.nil_append, List.append_nil, Int.toNat_natCast] using c5
      have c3 : (Px.levelX op).1 = 5 := by simpa [Sy.dens, Sy.den, E.i, E.b, E.t, gd, Env.push, List.cons_append, List.nil_append, List.append_nil, Int.toNat_natCast] using c3
      have h34 : (op = 3 ∧ (Px.levelX op).2 = [45]) ∨ (op = 4 ∧ (Px.levelX op).2 = [33]) := by
        by_cases h3' : op = 3
        · subst h3'; exact .inl ⟨rfl, rfl⟩
        · by_cases h4' : op = 4
          · subst h4'; exact .inr ⟨rfl, rfl⟩
          · exfalso
            obtain ⟨b, hb⟩ := by_op h1 h2 c1 c2 h3' h4' c5
            have := (by_much hb).2
            simp only [Px.levelX, hb] at c3
            omega
      rcases h34 with ⟨ho, hlv⟩ | ⟨ho, hlv⟩
      · rw [if_neg c1, if_neg c2, if_pos ho]
        have hl0 : 0 < l.length := by rw [h3, ho]; decide
        obtain ⟨g1, g2, g3⟩ := arg_facts hm hth hl0
        obtain ⟨op', k', n', t', nm', al', len', cl', hy, hlk⟩ := arg_look hS hE g1
        refine den_chk ?_ (den_chk rfl (den_chk ?_ (den_look ⟨op', k', n', len', cl', t', nm', al', fun W' x => hlk W' (ext_trans x2 x), ?_⟩)))
        · simp only [E.b, gd, Env.push]; exact hS.some_of hl0
        · simp only [Sy.dens, Sy.den, E.i, E.b, E.t, gd, Env.push, List.cons_append, List.nil_append, List.append_nil, Int.toNat_natCast]; exact ltB_t (by omega)
        · simp only [Env.push, List.cons_append, List.nil_append, List.append_nil]
          have hq := hat _ _ 5 W2 g2 g3 (hy.ext x2)
          have hle := hlen 0 hl0
          have hwl := Px.within_len (Px.show_ n (Px.arg (.mk op k nn t nm l) 0)) (Px.much (Px.arg (.mk op k nn t nm l) 0)) 6
          refine den_call_q (fun _ _ => hq) ⟨⟨(Px.within (Px.show_ n (Px.arg (.mk op k nn t nm l) 0)) (Px.much (Px.arg (.mk op k nn t nm l) 0)) 6).toArray⟩, rfl, fun W3 x3 => den_chk ?_ (den_ret fun _ _ _ => ⟨_, rfl, ?_⟩)⟩
          · simp only [Sy.dens, Sy.den, E.i, E.b, E.t, gd, Env.push, List.cons_append, List.nil_append, List.append_nil, Int.toNat_natCast, hlv]; rw [ba_size, ba_size]; refine leB_t ?_; simp only [List.length_cons, List.length_nil]; omega
          · simp only [Sy.dens, Sy.den, E.i, E.b, E.t, gd, Env.push, List.cons_append, List.nil_append, List.append_nil, Int.toNat_natCast, hlv]; rw [ba_app]; rfl
      · rw [if_neg c1, if_neg c2, if_neg (by omega), if_pos ho]
        have hl0 : 0 < l.length := by rw [h3, ho]; decide
        obtain ⟨g1, g2, g3⟩ := arg_facts hm hth hl0
        obtain ⟨op', k', n', t', nm', al', len', cl', hy, hlk⟩ := arg_look hS hE g1
        refine den_chk ?_ (den_chk rfl (den_chk ?_ (den_look ⟨op', k', n', len', cl', t', nm', al', fun W' x => hlk W' (ext_trans x2 x), ?_⟩)))
        · simp only [E.b, gd, Env.push]; exact hS.some_of hl0
        · simp only [Sy.dens, Sy.den, E.i, E.b, E.t, gd, Env.push, List.cons_append, List.nil_append, List.append_nil, Int.toNat_natCast]; exact ltB_t (by omega)
        · simp only [Env.push, List.cons_append, List.nil_append, List.append_nil]
          have hq := hat _ _ 5 W2 g2 g3 (hy.ext x2)
          have hle := hlen 0 hl0
          have hwl := Px.within_len (Px.show_ n (Px.arg (.mk op k nn t nm l) 0)) (Px.much (Px.arg (.mk op k nn t nm l) 0)) 6
          refine den_call_q (fun _ _ => hq) ⟨⟨(Px.within (Px.show_ n (Px.arg (.mk op k nn t nm l) 0)) (Px.much (Px.arg (.mk op k nn t nm l) 0)) 6).toArray⟩, rfl, fun W3 x3 => den_chk ?_ (den_ret fun _ _ _ => ⟨_, rfl, ?_⟩)⟩
          · simp only [Sy.dens, Sy.den, E.i, E.b, E.t, gd, Env.push, List.cons_append, List.nil_append, List.append_nil, Int.toNat_natCast, hlv]; rw [ba_size, ba_size]; refine leB_t ?_; simp only [List.length_cons, List.length_nil]; omega
          · simp only [Sy.dens, Sy.den, E.i, E.b, E.t, gd, Env.push, List.cons_append, List.nil_append, List.append_nil, Int.toNat_natCast, hlv]; rw [ba_app]; rfl
    · have c1 : ¬ op = 1 := by simpa [Sy.dens, Sy.den, E.i, E.b, E.t, gd, Env.push, List.cons_append, List.nil_append, List.append_nil, Int.toNat_natCast] using c1
      have c2 : ¬ op = 2 := by simpa [Sy.dens, Sy.den, E.i, E.b, E.t, gd, Env.push, List.cons_append, List.nil_append, List.append_nil, Int.toNat_natCast] using c2
      have c5 : ¬ op = 16 := by simpa [Sy.dens, Sy.den, E.i, E.b, E.t, gd, Env.push, List.cons_append, List.nil_append, List.append_nil, Int.toNat_natCast] using c5
      have c3 : ¬ (Px.levelX op).1 = 5 := by simpa [Sy.dens, Sy.den, E.i, E.b, E.t, gd, Env.push, List.cons_append, List.nil_append, List.append_nil, Int.toNat_natCast] using c3
      have k3 : ¬ op = 3 := fun h => by subst h; exact c3 rfl
      have k4 : ¬ op = 4 := fun h => by subst h; exact c3 rfl
      have ha : Px.argsOf op = 2 := by simp [Px.argsOf, c1, c2, k3, k4, c5]
      have hl0 : 0 < l.length := by omega
      have hl1 : 1 < l.length := by omega
      rw [if_neg c1, if_neg c2, if_neg k3, if_neg k4, if_neg c5]
      obtain ⟨b, hb⟩ := by_op h1 h2 c1 c2 k3 k4 c5
      have hlv : Px.levelX op = (b.2.2 - 1, b.1) := by simp only [Px.levelX, hb]
      rw [hb]
      dsimp only
      obtain ⟨hb1, hb5⟩ := by_much hb
      have hbs := Px.by_sign hb
      obtain ⟨g1, g2, g3⟩ := arg_facts hm hth hl0
      obtain ⟨op', k', n', t', nm', al', len', cl', hy, hlk⟩ := arg_look hS hE g1
      obtain ⟨f1, f2, f3⟩ := arg_facts hm hth hl1
      obtain ⟨oq, kq, nq, tq, nmq, alq, lenq, clq, hz, hlq⟩ := arg_look hS hE f1
      have hle0 := hlen 0 hl0
      have hle1 := hlen 1 hl1
      generalize hA : Px.arg (.mk op k nn t nm l) 0 = A at *
      generalize hB : Px.arg (.mk op k nn t nm l) 1 = B at *
      rw [hlv]
      refine den_br (fun c6 => ?_) fun c6 => ?_
      · have c6 : b.2.2 - 1 = 2 := by simpa [Sy.dens, Sy.den, E.i, E.b, E.t, gd, Env.push, List.cons_append, List.nil_append, List.append_nil, Int.toNat_natCast] using c6
        have c6 : b.2.2 = 3 := by omega
        rw [if_pos c6]
        refine den_chk ?_ (den_chk rfl (den_chk ?_ (den_look ⟨op', k', n', len', cl', t', nm', al', fun W' x => hlk W' (ext_trans x2 x), ?_⟩)))
        · simp only [E.b, gd, Env.push]; exact hS.some_of hl0
        · simp only [Sy.dens, Sy.den, E.i, E.b, E.t, gd, Env.push, List.cons_append, List.nil_append, List.append_nil, Int.toNat_natCast]; exact ltB_t (by omega)
        simp only [Env.push, List.cons_append, List.nil_append, List.append_nil]
        have hq0 := fun V (xV : Ext W2 V) => hat _ _ 3 V g2 g3 (hy.ext (ext_trans x2 xV))
        have hq1 := fun V (xV : Ext W2 V) => hat _ _ 3 V f2 f3 (hz.ext (ext_trans x2 xV))
        rw [show (3 : Int) + 1 = 4 from rfl] at hq0
        rw [show (3 : Int) + 1 = b.2.2 + 1 from by omega] at hq1
        have w0 := Px.within_len (Px.show_ n A) (Px.much A) 4
        have w1 := Px.within_len (Px.show_ n B) (Px.much B) (b.2.2 + 1)
        refine den_callq ⟨⟨(Px.within (Px.show_ n A) (Px.much A) 4).toArray⟩, fun V xV _ _ => hq0 V xV, ?_⟩
        simp only [Env.push, List.cons_append, List.nil_append, List.append_nil]
        refine den_chk ?_ (den_chk ?_ (den_chk ?_ (den_chk rfl (den_chk ?_ (den_look ⟨oq, kq, nq, lenq, clq, tq, nmq, alq, fun W' x => hlq W' (ext_trans x2 x), ?_⟩)))))
        · simp only [Sy.dens, Sy.den, E.i, E.b, E.t, gd, Env.push, List.cons_append, List.nil_append, List.append_nil, Int.toNat_natCast]; rw [ba_size, ba_size]; refine leB_t ?_; simp only [List.length_cons, List.length_nil]; omega
        · simp only [Sy.dens, Sy.den, E.i, E.b, E.t, gd, Env.push, List.cons_append, List.nil_append, List.append_nil, Int.toNat_natCast]; rw [ByteArray.size_append, ba_size, ba_size, ba_size]; refine leB_t ?_; simp only [List.length_cons, List.length_nil]; omega
        · simp only [Sy.dens, Sy.den, E.i, E.b, E.t, gd, Env.push, List.cons_append, List.nil_append, List.append_nil, Int.toNat_natCast]; rw [ByteArray.size_append, ByteArray.size_append, ba_size, ba_size, ba_size]; refine leB_t ?_; simp only [List.length_cons, List.length_nil]; omega
        · simp only [Sy.dens, Sy.den, E.i, E.b, E.t, gd, Env.push, List.cons_append, List.nil_append, List.append_nil, Int.toNat_natCast]; exact ltB_t (by omega)
        simp only [Env.push, List.cons_append, List.nil_append, List.append_nil]
        refine den_callq ⟨⟨(Px.within (Px.show_ n B) (Px.much B) (b.2.2 + 1)).toArray⟩, fun V xV _ _ => hq1 V xV, ?_⟩
        simp only [Env.push, List.cons_append, List.nil_append, List.append_nil]
        refine den_chk ?_ (den_grow fun _ _ => den_ret fun _ _ _ => ⟨_, rfl, ?_⟩)
        · simp only [Sy.dens, Sy.den, E.i, E.b, E.t, gd, Env.push, List.cons_append, List.nil_append, List.append_nil, Int.toNat_natCast]; rw [ByteArray.size_append, ByteArray.size_append, ByteArray.size_append, ba_size, ba_size, ba_size, ba_size]; refine leB_t ?_; simp only [List.length_cons, List.length_nil]; omega
        · simp only [Sy.dens, Sy.den, E.i, E.b, E.t, gd, Env.push, List.cons_append, List.nil_append, List.append_nil, Int.toNat_natCast]; rw [ba_app, ba_app, ba_app, ba_app]
      · have c6 : ¬ b.2.2 - 1 = 2 := by simpa [Sy.dens, Sy.den, E.i, E.b, E.t, gd, Env.push, List.cons_append, List.nil_append, List.append_nil, Int.toNat_natCast] using c6
        have c6 : ¬ b.2.2 = 3 := by omega
        rw [if_neg c6]
        have hw : IntKind.i64.wrap (b.2.2 - 1 + 1) = b.2.2 - 1 + 1 := w64i (by omega) (by omega)
        refine den_chk ?_ (den_chk rfl (den_chk ?_ (den_look ⟨op', k', n', len', cl', t', nm', al', fun W' x => hlk W' (ext_trans x2 x), ?_⟩)))
        · simp only [E.b, gd, Env.push]; exact hS.some_of hl0
        · simp only [Sy.dens, Sy.den, E.i, E.b, E.t, gd, Env.push, List.cons_append, List.nil_append, List.append_nil, Int.toNat_natCast]; exact ltB_t (by omega)
        simp only [Env.push, List.cons_append, List.nil_append, List.append_nil]
        have hq0 := fun V (xV : Ext W2 V) => hat _ _ (b.2.2 - 1) V g2 g3 (hy.ext (ext_trans x2 xV))
        have hq1 := fun V (xV : Ext W2 V) => hat _ _ (IntKind.i64.wrap (b.2.2 - 1 + 1)) V f2 f3 (hz.ext (ext_trans x2 xV))
        rw [show b.2.2 - 1 + 1 = b.2.2 from by omega] at hq0
        rw [show IntKind.i64.wrap (b.2.2 - 1 + 1) + 1 = b.2.2 + 1 from by omega] at hq1
        have w0 := Px.within_len (Px.show_ n A) (Px.much A) b.2.2
        have w1 := Px.within_len (Px.show_ n B) (Px.much B) (b.2.2 + 1)
        refine den_callq ⟨⟨(Px.within (Px.show_ n A) (Px.much A) b.2.2).toArray⟩, fun V xV _ _ => hq0 V xV, ?_⟩
        simp only [Env.push, List.cons_append, List.nil_append, List.append_nil]
        refine den_chk ?_ (den_chk ?_ (den_chk ?_ (den_chk rfl (den_chk ?_ (den_look ⟨oq, kq, nq, lenq, clq, tq, nmq, alq, fun W' x => hlq W' (ext_trans x2 x), ?_⟩)))))
        · simp only [Sy.dens, Sy.den, E.i, E.b, E.t, gd, Env.push, List.cons_append, List.nil_append, List.append_nil, Int.toNat_natCast]; rw [ba_size, ba_size]; refine leB_t ?_; simp only [List.length_cons, List.length_nil]; omega
        · simp only [Sy.dens, Sy.den, E.i, E.b, E.t, gd, Env.push, List.cons_append, List.nil_append, List.append_nil, Int.toNat_natCast]; rw [ByteArray.size_append, ba_size, ba_size, ba_size]; refine leB_t ?_; simp only [List.length_cons, List.length_nil]; omega
        · simp only [Sy.dens, Sy.den, E.i, E.b, E.t, gd, Env.push, List.cons_append, List.nil_append, List.append_nil, Int.toNat_natCast]; rw [ByteArray.size_append, ByteArray.size_append, ba_size, ba_size, ba_size]; refine leB_t ?_; simp only [List.length_cons, List.length_nil]; omega
        · simp only [Sy.dens, Sy.den, E.i, E.b, E.t, gd, Env.push, List.cons_append, List.nil_append, List.append_nil, Int.toNat_natCast]; exact ltB_t (by omega)
        simp only [Env.push, List.cons_append, List.nil_append, List.append_nil]
        refine den_callq ⟨⟨(Px.within (Px.show_ n B) (Px.much B) (b.2.2 + 1)).toArray⟩, fun V xV _ _ => hq1 V xV, ?_⟩
        simp only [Env.push, List.cons_append, List.nil_append, List.append_nil]
        refine den_chk ?_ (den_grow fun _ _ => den_ret fun _ _ _ => ⟨_, rfl, ?_⟩)
        · simp only [Sy.dens, Sy.den, E.i, E.b, E.t, gd, Env.push, List.cons_append, List.nil_append, List.append_nil, Int.toNat_natCast]; rw [ByteArray.size_append, ByteArray.size_append, ByteArray.size_append, ba_size, ba_size, ba_size, ba_size]; refine leB_t ?_; simp only [List.length_cons, List.length_nil]; omega
        · simp only [Sy.dens, Sy.den, E.i, E.b, E.t, gd, Env.push, List.cons_append, List.nil_append, List.append_nil, Int.toNat_natCast]; rw [ba_app, ba_app, ba_app, ba_app]
theorem rMayT_q (x : Px.Ex) (vs : List Value) (W : Wd) (hth : Px.thin x = true) (hx : ExI W x vs) : CallsQ Tryz.prog 15 #[.agg vs.toArray] W (.bool (Px.may 16 x)) := by
  obtain ⟨op, k, nn, t, nm, al, len, cl, rfl⟩ := hx.shape
  refine vc_rMay11 op k nn len cl t nm al W.all _ ?_
  have h := rmay_ok 16 (by decide)
  refine den_new fun m0 W1 _ x1 => den_call_q (fun _ _ => h x _ W1 hth (hx.ext (ext_trans W.all_ext x1))) ⟨Px.may 16 x, rfl, fun W2 x2 => den_ret fun _ _ _ => ⟨_, rfl, rfl⟩⟩
theorem rShowT_q (x : Px.Ex) (vs : List Value) (W : Wd) (hth : Px.thin x = true) (hx : ExI W x vs) : CallsQ Tryz.prog 11 #[.agg vs.toArray] W (.tuple #[.string ⟨(Px.show' x).1.toArray⟩, .int .i64 (Px.show' x).2]) := by
  obtain ⟨op, k, nn, t, nm, al, len, cl, rfl⟩ := hx.shape
  have w : ∀ V, Ext W.all V → Ext W V := fun V xV => ext_trans W.all_ext xV
  refine vc_rShow11 op k nn len cl t nm al W.all _ ?_
  refine den_new fun m0 W1 _ x1 => den_call_q (fun _ _ => rMayT_q x _ W1 hth (hx.ext (w _ x1))) ⟨Px.may 16 x, rfl, fun W2 x2 => den_br (fun c => den_ret fun _ _ _ => ⟨_, rfl, ?_⟩) fun c => ?_⟩
  · have c : Px.may 16 x = false := by simpa [Sy.dens, Sy.den, E.i, E.b, E.t, gd, Env.push, List.cons_append, List.nil_append, List.append_nil, Int.toNat_natCast] using c
    simp only [Px.show', c, if_false, Bool.false_eq_true]; rfl
  · have c : Px.may 16 x = true := by simpa [Sy.dens, Sy.den, E.i, E.b, E.t, gd, Env.push, List.cons_append, List.nil_append, List.append_nil, Int.toNat_natCast] using c
    have x2' := w _ (ext_trans x1 x2)
    have hl := ba_size (Px.show_ 16 x)
    refine den_call_q (fun _ _ => text_ok 16 (Nat.le_refl _) x _ W2 c hth (hx.ext x2')) ⟨⟨(Px.show_ 16 x).toArray⟩, rfl, fun W3 x3 => ?_⟩
    simp only [Env.push, List.cons_append, List.nil_append, List.append_nil]
    refine den_br (fun c2 => den_ret fun _ _ _ => ⟨_, rfl, ?_⟩) fun c2 => den_ret fun _ _ _ => ⟨_, rfl, ?_⟩
    · have c2 : 100 < (Px.show_ 16 x).length := by simp only [Sy.dens, Sy.den, E.i, E.b, E.t, gd, Env.push, List.cons_append, List.nil_append, List.append_nil, Int.toNat_natCast, ltB_true] at c2; omega
      simp only [Px.show', c, if_true, if_pos c2]; rfl
    · have c2 : ¬ 100 < (Px.show_ 16 x).length := by simp only [Sy.dens, Sy.den, E.i, E.b, E.t, gd, Env.push, List.cons_append, List.nil_append, List.append_nil, Int.toNat_natCast, ltB_false] at c2; omega
      simp only [Px.show', c, if_true, if_neg c2]; rfl
end Go.Proofs.YtckgdgkkmhochaaGreatDoor
