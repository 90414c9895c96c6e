/- A tree's text: the contracts. -/
import Derived.Test.YtckgdgkkmhochaaGreatDoorPxShow
namespace Go.Proofs.YtckgdgkkmhochaaGreatDoor
open Go Go.RowKit Go.SF
set_option linter.unusedSimpArgs false
set_option linter.unusedVariables false

theorem ba_app (a b : Lx.Bs) : (⟨a.toArray⟩ : ByteArray) ++ ⟨b.toArray⟩ = ⟨(a ++ b).toArray⟩ := ba_ext (by simp)
theorem ba_size (a : Lx.Bs) : (⟨a.toArray⟩ : ByteArray).size = a.length := by rw [← size_len]
theorem may_tlen {k n : Int} {t : Lx.Bs} (h : Va.may ⟨k, n, ⟨t.toArray⟩⟩ = true) : t.length ≤ 40 := by
  unfold Va.may at h
  split at h
  · simp at h; rw [h.2]; simp
  · split at h
    · simp at h; rw [h]; simp
    · split at h
      · simp at h; rw [h.2]; simp
      · split at h
        · simp only [Va.plain, Bool.and_eq_true, decide_eq_true_eq] at h
          have h2 := h.2.2
          rw [ba_size] at h2
          omega
        · cases h
def ShowOk (n : Nat) : Prop := ∀ (x : Px.Ex) (vs : List Value) (W : Wd), Px.may n x = true → Px.thin x = true → ExI W x vs → Vs.Tabs W → CallsQ Tryz.prog 30 #[.agg vs.toArray] W (.string ⟨(Px.show_ n x).toArray⟩)
theorem within_q (n : Nat) (hn : n ≤ 16) (ih : ShowOk n) (x : Px.Ex) (vs : List Value) (need : Int) (W : Wd) (hm : Px.may n x = true) (hth : Px.thin x = true) (hx : ExI W x vs) (hT : Vs.Tabs W) : CallsQ Tryz.prog 42 #[.agg vs.toArray, .int .i64 need] W (.string ⟨(Px.within (Px.show_ n x) (Px.much x) need).toArray⟩) := by
  have hl := Nat.le_trans (show_len n x hm hth) (lim_16 n hn)
  obtain ⟨op, k, nn, t, nm, al, len, cl, rfl⟩ := hx.shape
  refine vc_within op k nn need len cl t nm al W.all _ ?_
  have e1 : (⟨#[40]⟩ : ByteArray).size = 1 := rfl
  have e2 : (⟨#[41]⟩ : ByteArray).size = 1 := rfl
  have w : ∀ V, Ext W.all V → Ext W V := fun V xV => ext_trans W.all_ext xV
  refine den_new fun m0 W1 _ x1 => den_call_q (fun _ _ => ih x _ W1 hm hth (hx.ext (w _ x1)) (hT.ext (w _ x1))) ⟨⟨(Px.show_ n x).toArray⟩, rfl, fun W2 x2 => ?_⟩
  simp only [Env.push, List.cons_append, List.nil_append, List.append_nil]
  refine den_call_q (fun _ _ => much_q x _ W2 (hx.ext (w _ (ext_trans x1 x2)))) ⟨Px.much x, rfl, fun W3 x3 => ?_⟩
  simp only [Env.push, List.cons_append, List.nil_append, List.append_nil]
  have x3' := w _ (ext_trans (ext_trans x1 x2) x3)
  refine den_br (fun c => den_ret fun _ _ _ => ⟨_, rfl, ?_⟩) fun c => den_call_q (fun _ _ => ih x _ W3 hm hth (hx.ext x3') (hT.ext x3')) ⟨⟨(Px.show_ n x).toArray⟩, rfl, fun W4 x4 => ?_⟩
  · have c : need ≤ Px.much x := by simp only [Sy.dens, Sy.den, E.i, E.b, E.t, gd, Env.push, List.cons_append, List.nil_append, List.append_nil, Int.toNat_natCast, leB_true] at c; exact c
    simp only [Px.within, if_pos c]; rfl
  · have c : ¬ need ≤ Px.much x := by simp only [Sy.dens, Sy.den, E.i, E.b, E.t, gd, Env.push, List.cons_append, List.nil_append, List.append_nil, Int.toNat_natCast, leB_false] at c; omega
    simp only [Env.push, List.cons_append, List.nil_append, List.append_nil]
    refine den_chk ?_ (den_chk ?_ (den_ret fun _ _ _ => ⟨_, rfl, ?_⟩))
    · simp only [Sy.dens, Sy.den, E.i, E.b, E.t, gd, Env.push, List.cons_append, List.nil_append, List.append_nil, Int.toNat_natCast]; rw [ba_size]; refine leB_t ?_; rw [ba_size]; simp only [List.length_cons, List.length_nil]; omega
    · simp only [Sy.dens, Sy.den, E.i, E.b, E.t, gd, Env.push, List.cons_append, List.nil_append, List.append_nil, Int.toNat_natCast]; rw [ByteArray.size_append, ba_size, ba_size, ba_size]; refine leB_t ?_; simp only [List.length_cons, List.length_nil]; omega
    · simp only [Px.within, if_neg c, Sy.dens, Sy.den, E.i, E.b, E.t, gd, Env.push, List.cons_append, List.nil_append, List.append_nil, Int.toNat_natCast]
      rw [ba_app, ba_app]; rfl

theorem by_op {o : Int} (h1 : 1 ≤ o) (h2 : o ≤ 16) (n1 : ¬ o = 1) (n2 : ¬ o = 2) (n3 : ¬ o = 3) (n4 : ¬ o = 4) (n5 : ¬ o = 16) : ∃ b, Px.by_ [110, 111, 110, 101] o = some b := by
  have : o = 5 ∨ o = 6 ∨ o = 7 ∨ o = 8 ∨ o = 9 ∨ o = 10 ∨ o = 11 ∨ o = 12 ∨ o = 13 ∨ o = 14 ∨ o = 15 := by omega
  rcases this with rfl | rfl | rfl | rfl | rfl | rfl | rfl | rfl | rfl | rfl | rfl <;> exact ⟨_, rfl⟩
theorem arg_look {W : Wd} {a : Option Addr} {c : Nat} {ls : List Value} {l : List Px.Ex} (hS : SlI W a l.length c 6 ls) (hE : ExsAt W.w W.I l ls) {i : Nat} {y : Px.Ex} (hy : l[i]? = some y) : ∃ op k n t nm al len cl, ExI W y [.int .u8 op, .int .u8 k, .int .i64 n, .string t, .string nm, .slice al len cl] ∧
    ∀ W', Ext W W' → (Instr.loadAt 26 (.pointer (some ((a.getD default).add (i * 6 + 0))))).run Tryz.prog W'.w = .ok (.agg #[.int .u8 op, .int .u8 k, .int .i64 n, .string t, .string nm, .slice al len cl]) W'.w := by
  obtain ⟨us, hu, hg⟩ := exs_get hE hy
  obtain ⟨op', k', nn', t', nm', al', len', cl', rfl⟩ := hu.shape
  exact ⟨_, _, _, _, _, _, _, _, hu, fun W' x => sl_look_at hS ex_agg ex_size rfl (by decide) hg x⟩
theorem show_ok : ∀ n : Nat, n ≤ 16 → ShowOk n := by
  intro n
  induction n with
  | zero => intro _ x vs W h; simp [Px.may] at h
  | succ n ih =>
    intro hn x vs W hm hth hx hT
    have ih := ih (by omega)
    have hwi := fun (y : Px.Ex) (us : List Value) (need : Int) (V : Wd) => within_q n (by omega) ih y us need V
    obtain ⟨op, k, nn, t, nm, l⟩ := x
    have hx := hx.ext W.all_ext
    have hT := hT.ext W.all_ext
    simp only [ExI, ExAt] at hx
    obtain ⟨a, c, ls, rfl, hS, hE⟩ := hx
    have hS : SlI W.all a l.length c 6 ls := hS
    have hh : Px.head (.mk op k nn t nm l) = true := by
      simp only [Px.may, Bool.and_eq_true] at hm; exact hm.1
    obtain ⟨h1, h2, h3, h4, h5⟩ := head_facts hh
    have hth' := hth
    simp only [Px.thin, Bool.and_eq_true, decide_eq_true_eq] at hth'
    have htt : (⟨t.toArray⟩ : ByteArray).data.toList = t := by simp
    have hlen : ∀ i, i < l.length → (Px.show_ n (Px.arg (.mk op k nn t nm l) i)).length ≤ 274877906944 := fun i hi => by
      obtain ⟨_, g1, g2⟩ := arg_facts hm hth hi
      exact Nat.le_trans (show_len n _ g1 g2) (lim_16 n (by omega))
    refine vc_pshow op k nn l.length c ⟨t.toArray⟩ ⟨nm.toArray⟩ a W.all _ ?_
    rw [show_eq]
    refine den_new fun m0 W1 _ x1 => den_br (fun c1 => ?_) fun c1 => den_br (fun c2 => den_ret fun _ _ _ => ⟨_, rfl, ?_⟩) fun c2 => den_br (fun c3 => ?_) fun c3 => den_br (fun c4 => ?_) fun c4 => den_br (fun c5 => ?_) fun c5 => ?_
    · have c1 : op = 1 := by simpa [Sy.dens, Sy.den, E.i, E.b, E.t, gd, Env.push, List.cons_append, List.nil_append, List.append_nil, Int.toNat_natCast] using c1
      rw [if_pos c1]
      have hv := (h5 c1).1
      have hts : t.length ≤ 1000000 := by
        have := may_tlen hv
        omega
      refine den_call_q (fun _ _ => Vs.show_q k nn ⟨t.toArray⟩ hth'.1.2.2.2 (by rw [ba_size]; exact hts) W1 (hT.ext x1)) ⟨Va.shown ⟨k, nn, ⟨t.toArray⟩⟩, rfl, fun W2 x2 => den_ret fun _ _ _ => ⟨_, rfl, ?_⟩⟩
      show Value.string _ = _
      rw [ba_list]; rfl
    · have c1 : ¬ op = 1 := by simpa [Sy.dens, Sy.den, E.i, E.b, E.t, gd, Env.push, List.cons_append, List.nil_append, List.append_nil, Int.toNat_natCast] using c1
      have c2 : op = 2 := by simpa [Sy.dens, Sy.den, E.i, E.b, E.t, gd, Env.push, List.cons_append, List.nil_append, List.append_nil, Int.toNat_natCast] using c2
      rw [if_neg c1, if_pos c2]; rfl
    · have c1 : ¬ op = 1 := by simpa [Sy.dens, Sy.den, E.i, E.b, E.t, gd, Env.push, List.cons_append, List.nil_append, List.append_nil, Int.toNat_natCast] using c1
      have c2 : ¬ op = 2 := by simpa [Sy.dens, Sy.den, E.i, E.b, E.t, gd, Env.push, List.cons_append, List.nil_append, List.append_nil, Int.toNat_natCast] using c2
      have c3 : op = 3 := by simpa [Sy.dens, Sy.den, E.i, E.b, E.t, gd, Env.push, List.cons_append, List.nil_append, List.append_nil, Int.toNat_natCast] using c3
      rw [if_neg c1, if_neg c2, if_pos c3]
      have hl0 : 0 < l.length := by rw [h3, c3]; decide
      obtain ⟨g1, g2, g3⟩ := arg_facts hm hth hl0
      obtain ⟨op', k', n', t', nm', al', len', cl', hy, hlk⟩ := arg_look hS hE g1
      refine den_chk ?_ (den_chk rfl (den_chk ?_ (den_look ⟨op', k', n', len', cl', t', nm', al', fun W' x => hlk W' (ext_trans x1 x), ?_⟩)))
      · simp only [E.b, gd, Env.push]; exact hS.some_of hl0
      · simp only [Sy.dens, Sy.den, E.i, E.b, E.t, gd, Env.push, List.cons_append, List.nil_append, List.append_nil, Int.toNat_natCast]; exact ltB_t (by omega)
      · simp only [Env.push, List.cons_append, List.nil_append, List.append_nil]
        have hq := hwi _ _ 6 W1 g2 g3 (hy.ext x1) (hT.ext x1)
        have hle := hlen 0 hl0
        have hwl := Px.within_len (Px.show_ n (Px.arg (.mk op k nn t nm l) 0)) (Px.much (Px.arg (.mk op k nn t nm l) 0)) 6
        refine den_call_q (fun _ _ => hq) ⟨⟨(Px.within (Px.show_ n (Px.arg (.mk op k nn t nm l) 0)) (Px.much (Px.arg (.mk op k nn t nm l) 0)) 6).toArray⟩, rfl, fun W2 x2 => den_chk ?_ (den_ret fun _ _ _ => ⟨_, rfl, ?_⟩)⟩
        · simp only [Sy.dens, Sy.den, E.i, E.b, E.t, gd, Env.push, List.cons_append, List.nil_append, List.append_nil, Int.toNat_natCast]; rw [ba_size, ba_size]; refine leB_t ?_; simp only [List.length_cons, List.length_nil]; omega
        · simp only [Sy.dens, Sy.den, E.i, E.b, E.t, gd, Env.push, List.cons_append, List.nil_append, List.append_nil, Int.toNat_natCast]; rw [ba_app]; rfl
    · have c1 : ¬ op = 1 := by simpa [Sy.dens, Sy.den, E.i, E.b, E.t, gd, Env.push, List.cons_append, List.nil_append, List.append_nil, Int.toNat_natCast] using c1
      have c2 : ¬ op = 2 := by simpa [Sy.dens, Sy.den, E.i, E.b, E.t, gd, Env.push, List.cons_append, List.nil_append, List.append_nil, Int.toNat_natCast] using c2
      have c3 : ¬ op = 3 := by simpa [Sy.dens, Sy.den, E.i, E.b, E.t, gd, Env.push, List.cons_append, List.nil_append, List.append_nil, Int.toNat_natCast] using c3
      have c4 : op = 4 := by simpa [Sy.dens, Sy.den, E.i, E.b, E.t, gd, Env.push, List.cons_append, List.nil_append, List.append_nil, Int.toNat_natCast] using c4
      rw [if_neg c1, if_neg c2, if_neg c3, if_pos c4]
      have hl0 : 0 < l.length := by rw [h3, c4]; decide
      obtain ⟨g1, g2, g3⟩ := arg_facts hm hth hl0
      obtain ⟨op', k', n', t', nm', al', len', cl', hy, hlk⟩ := arg_look hS hE g1
      refine den_chk ?_ (den_chk rfl (den_chk ?_ (den_look ⟨op', k', n', len', cl', t', nm', al', fun W' x => hlk W' (ext_trans x1 x), ?_⟩)))
      · simp only [E.b, gd, Env.push]; exact hS.some_of hl0
      · simp only [Sy.dens, Sy.den, E.i, E.b, E.t, gd, Env.push, List.cons_append, List.nil_append, List.append_nil, Int.toNat_natCast]; exact ltB_t (by omega)
      · simp only [Env.push, List.cons_append, List.nil_append, List.append_nil]
        have hq := hwi _ _ 6 W1 g2 g3 (hy.ext x1) (hT.ext x1)
        have hle := hlen 0 hl0
        have hwl := Px.within_len (Px.show_ n (Px.arg (.mk op k nn t nm l) 0)) (Px.much (Px.arg (.mk op k nn t nm l) 0)) 6
        refine den_call_q (fun _ _ => hq) ⟨⟨(Px.within (Px.show_ n (Px.arg (.mk op k nn t nm l) 0)) (Px.much (Px.arg (.mk op k nn t nm l) 0)) 6).toArray⟩, rfl, fun W2 x2 => den_chk ?_ (den_ret fun _ _ _ => ⟨_, rfl, ?_⟩)⟩
        · simp only [Sy.dens, Sy.den, E.i, E.b, E.t, gd, Env.push, List.cons_append, List.nil_append, List.append_nil, Int.toNat_natCast]; rw [ba_size, ba_size]; refine leB_t ?_; simp only [List.length_cons, List.length_nil]; omega
        · simp only [Sy.dens, Sy.den, E.i, E.b, E.t, gd, Env.push, List.cons_append, List.nil_append, List.append_nil, Int.toNat_natCast]; rw [ba_app]; rfl
    · have c1 : ¬ op = 1 := by simpa [Sy.dens, Sy.den, E.i, E.b, E.t, gd, Env.push, List.cons_append, List.nil_append, List.append_nil, Int.toNat_natCast] using c1
      have c2 : ¬ op = 2 := by simpa [Sy.dens, Sy.den, E.i, E.b, E.t, gd, Env.push, List.cons_append, List.nil_append, List.append_nil, Int.toNat_natCast] using c2
      have c3 : ¬ op = 3 := by simpa [Sy.dens, Sy.den, E.i, E.b, E.t, gd, Env.push, List.cons_append, List.nil_append, List.append_nil, Int.toNat_natCast] using c3
      have c4 : ¬ op = 4 := by simpa [Sy.dens, Sy.den, E.i, E.b, E.t, gd, Env.push, List.cons_append, List.nil_append, List.append_nil, Int.toNat_natCast] using c4
      have c5 : op = 16 := by simpa [Sy.dens, Sy.den, E.i, E.b, E.t, gd, Env.push, List.cons_append, List.nil_append, List.append_nil, Int.toNat_natCast] using c5
      rw [if_neg c1, if_neg c2, if_neg c3, if_neg c4, if_pos c5]
      have hl0 : 0 < l.length := by rw [h3, c5]; decide
      obtain ⟨g1, g2, g3⟩ := arg_facts hm hth hl0
      obtain ⟨op', k', n', t', nm', al', len', cl', hy, hlk⟩ := arg_look hS hE g1
      refine den_chk ?_ (den_chk rfl (den_chk ?_ (den_look ⟨op', k', n', len', cl', t', nm', al', fun W' x => hlk W' (ext_trans x1 x), ?_⟩)))
      · simp only [E.b, gd, Env.push]; exact hS.some_of hl0
      · simp only [Sy.dens, Sy.den, E.i, E.b, E.t, gd, Env.push, List.cons_append, List.nil_append, List.append_nil, Int.toNat_natCast]; exact ltB_t (by omega)
      · simp only [Env.push, List.cons_append, List.nil_append, List.append_nil]
        have hle := hlen 0 hl0
        refine den_call_q (fun _ _ => ih _ _ W1 g2 g3 (hy.ext x1) (hT.ext x1)) ⟨⟨(Px.show_ n (Px.arg (.mk op k nn t nm l) 0)).toArray⟩, rfl, fun W2 x2 => den_chk ?_ (den_chk ?_ (den_ret fun _ _ _ => ⟨_, rfl, ?_⟩))⟩
        · simp only [Sy.dens, Sy.den, E.i, E.b, E.t, gd, Env.push, List.cons_append, List.nil_append, List.append_nil, Int.toNat_natCast]; rw [ba_size, ba_size]; refine leB_t ?_; simp only [List.length_cons, List.length_nil]; omega
        · simp only [Sy.dens, Sy.den, E.i, E.b, E.t, gd, Env.push, List.cons_append, List.nil_append, List.append_nil, Int.toNat_natCast]; rw [ByteArray.size_append, ba_size, ba_size, ba_size]; refine leB_t ?_; simp only [List.length_cons, List.length_nil]; omega
        · simp only [Sy.dens, Sy.den, E.i, E.b, E.t, gd, Env.push, List.cons_append, List.nil_append, List.append_nil, Int.toNat_natCast]; rw [ba_app, ba_app]; simp
    · have c1 : ¬ op = 1 := by simpa [Sy.dens, Sy.den, E.i, E.b, E.t, gd, Env.push, List.cons_append, List.nil_append, List.append_nil, Int.toNat_natCast] using c1
      have c2 : ¬ op = 2 := by simpa [Sy.dens, Sy.den, E.i, E.b, E.t, gd, Env.push, List.cons_append, List.nil_append, List.append_nil, Int.toNat_natCast] using c2
      have c3 : ¬ op = 3 := by simpa [Sy.dens, Sy.den, E.i, E.b, E.t, gd, Env.push, List.cons_append, List.nil_append, List.append_nil, Int.toNat_natCast] using c3
      have c4 : ¬ op = 4 := by simpa [Sy.dens, Sy.den, E.i, E.b, E.t, gd, Env.push, List.cons_append, List.nil_append, List.append_nil, Int.toNat_natCast] using c4
      have c5 : ¬ op = 16 := by simpa [Sy.dens, Sy.den, E.i, E.b, E.t, gd, Env.push, List.cons_append, List.nil_append, List.append_nil, Int.toNat_natCast] using c5
      have ha : Px.argsOf op = 2 := by simp [Px.argsOf, c1, c2, c3, c4, c5]
      have hl0 : 0 < l.length := by omega
      have hl1 : 1 < l.length := by omega
      rw [if_neg c1, if_neg c2, if_neg c3, if_neg c4, if_neg c5]
      obtain ⟨b, hb⟩ := by_op h1 h2 c1 c2 c3 c4 c5
      have hbq := by_q ⟨#[110, 111, 110, 101]⟩ op
      rw [show (⟨#[110, 111, 110, 101]⟩ : ByteArray).data.toList = [110, 111, 110, 101] from rfl, hb] at hbq
      rw [hb]
      obtain ⟨hb1, hb5⟩ := by_much hb
      have hbs := Px.by_sign hb
      obtain ⟨g1, g2, g3⟩ := arg_facts hm hth hl0
      obtain ⟨op', k', n', t', nm', al', len', cl', hy, hlk⟩ := arg_look hS hE g1
      obtain ⟨f1, f2, f3⟩ := arg_facts hm hth hl1
      obtain ⟨oq, kq, nq, tq, nmq, alq, lenq, clq, hz, hlq⟩ := arg_look hS hE f1
      have hle0 := hlen 0 hl0
      have hle1 := hlen 1 hl1
      have hw : IntKind.i64.wrap (b.2.2 + 1) = b.2.2 + 1 := w64i (by omega) (by omega)
      generalize hA : Px.arg (.mk op k nn t nm l) 0 = A at *
      generalize hB : Px.arg (.mk op k nn t nm l) 1 = B at *
      refine den_call_q (fun _ _ => hbq W1) ⟨b.2.1, b.2.2, true, ⟨b.1.toArray⟩, rfl, fun W2 x2 => ?_⟩
      simp only [Env.push, List.cons_append, List.nil_append, List.append_nil]
      refine den_new fun m1 W3 _ x3 => den_wr fun W4 x4 => ?_
      have x4' := ext_trans (ext_trans (ext_trans x1 x2) x3) x4
      refine den_br (fun c6 => ?_) fun c6 => ?_
      · have c6 : b.2.2 = 3 := by simpa [Sy.dens, Sy.den, E.i, E.b, E.t, gd, Env.push, List.cons_append, List.nil_append, List.append_nil, Int.toNat_natCast] using c6
        rw [if_pos c6]
        refine den_chk ?_ (den_chk rfl (den_chk ?_ (den_look ⟨op', k', n', len', cl', t', nm', al', fun W' x => hlk W' (ext_trans x4' x), ?_⟩)))
        · simp only [E.b, gd, Env.push]; exact hS.some_of hl0
        · simp only [Sy.dens, Sy.den, E.i, E.b, E.t, gd, Env.push, List.cons_append, List.nil_append, List.append_nil, Int.toNat_natCast]; exact ltB_t (by omega)
        simp only [Env.push, List.cons_append, List.nil_append, List.append_nil]
        have hq0 := fun V (xV : Ext W4 V) => hwi _ _ 4 V g2 g3 (hy.ext (ext_trans x4' xV)) (hT.ext (ext_trans x4' xV))
        have hq1 := fun V (xV : Ext W4 V) => hwi _ _ (b.2.2 + 1) V f2 f3 (hz.ext (ext_trans x4' xV)) (hT.ext (ext_trans x4' xV))
        rw [← hw] at hq1
        have w0 := Px.within_len (Px.show_ n A) (Px.much A) 4
        have w1 := Px.within_len (Px.show_ n B) (Px.much B) (IntKind.i64.wrap (b.2.2 + 1))
        have hw4 : IntKind.i64.wrap (b.2.2 + 1) = 4 := by rw [hw, c6]; rfl
        rw [← hw4] at hq0 w0
        refine den_callq ⟨⟨(Px.within (Px.show_ n A) (Px.much A) (IntKind.i64.wrap (b.2.2 + 1))).toArray⟩, fun V xV _ _ => hq0 V xV, ?_⟩
        simp only [Env.push, List.cons_append, List.nil_append, List.append_nil]
        refine den_chk ?_ (den_chk ?_ (den_chk ?_ (den_chk rfl (den_chk ?_ (den_look ⟨oq, kq, nq, lenq, clq, tq, nmq, alq, fun W' x => hlq W' (ext_trans x4' x), ?_⟩)))))
        · simp only [Sy.dens, Sy.den, E.i, E.b, E.t, gd, Env.push, List.cons_append, List.nil_append, List.append_nil, Int.toNat_natCast]; rw [ba_size, ba_size]; refine leB_t ?_; simp only [List.length_cons, List.length_nil]; omega
        · simp only [Sy.dens, Sy.den, E.i, E.b, E.t, gd, Env.push, List.cons_append, List.nil_append, List.append_nil, Int.toNat_natCast]; rw [ByteArray.size_append, ba_size, ba_size, ba_size]; refine leB_t ?_; simp only [List.length_cons, List.length_nil]; omega
        · simp only [Sy.dens, Sy.den, E.i, E.b, E.t, gd, Env.push, List.cons_append, List.nil_append, List.append_nil, Int.toNat_natCast]; rw [ByteArray.size_append, ByteArray.size_append, ba_size, ba_size, ba_size]; refine leB_t ?_; simp only [List.length_cons, List.length_nil]; omega
        · simp only [Sy.dens, Sy.den, E.i, E.b, E.t, gd, Env.push, List.cons_append, List.nil_append, List.append_nil, Int.toNat_natCast]; exact ltB_t (by omega)
        simp only [Env.push, List.cons_append, List.nil_append, List.append_nil]
        refine den_callq ⟨⟨(Px.within (Px.show_ n B) (Px.much B) (IntKind.i64.wrap (b.2.2 + 1))).toArray⟩, fun V xV _ _ => hq1 V xV, ?_⟩
        simp only [Env.push, List.cons_append, List.nil_append, List.append_nil]
        refine den_chk ?_ (den_grow fun _ _ => den_ret fun _ _ _ => ⟨_, rfl, ?_⟩)
        · simp only [Sy.dens, Sy.den, E.i, E.b, E.t, gd, Env.push, List.cons_append, List.nil_append, List.append_nil, Int.toNat_natCast]; rw [ByteArray.size_append, ByteArray.size_append, ByteArray.size_append, ba_size, ba_size, ba_size, ba_size]; refine leB_t ?_; simp only [List.length_cons, List.length_nil]; omega
        · simp only [Sy.dens, Sy.den, E.i, E.b, E.t, gd, Env.push, List.cons_append, List.nil_append, List.append_nil, Int.toNat_natCast]; rw [ba_app, ba_app, ba_app, ba_app, hw4, show b.2.2 + 1 = 4 from by omega]
      · have c6 : ¬ b.2.2 = 3 := by simpa [Sy.dens, Sy.den, E.i, E.b, E.t, gd, Env.push, List.cons_append, List.nil_append, List.append_nil, Int.toNat_natCast] using c6
        rw [if_neg c6]
        refine den_chk ?_ (den_chk rfl (den_chk ?_ (den_look ⟨op', k', n', len', cl', t', nm', al', fun W' x => hlk W' (ext_trans x4' x), ?_⟩)))
        · simp only [E.b, gd, Env.push]; exact hS.some_of hl0
        · simp only [Sy.dens, Sy.den, E.i, E.b, E.t, gd, Env.push, List.cons_append, List.nil_append, List.append_nil, Int.toNat_natCast]; exact ltB_t (by omega)
        simp only [Env.push, List.cons_append, List.nil_append, List.append_nil]
        have hq0 := fun V (xV : Ext W4 V) => hwi _ _ b.2.2 V g2 g3 (hy.ext (ext_trans x4' xV)) (hT.ext (ext_trans x4' xV))
        have hq1 := fun V (xV : Ext W4 V) => hwi _ _ (b.2.2 + 1) V f2 f3 (hz.ext (ext_trans x4' xV)) (hT.ext (ext_trans x4' xV))
        rw [← hw] at hq1
        have w0 := Px.within_len (Px.show_ n A) (Px.much A) b.2.2
        have w1 := Px.within_len (Px.show_ n B) (Px.much B) (IntKind.i64.wrap (b.2.2 + 1))
        skip
        refine den_callq ⟨⟨(Px.within (Px.show_ n A) (Px.much A) b.2.2).toArray⟩, fun V xV _ _ => hq0 V xV, ?_⟩
        simp only [Env.push, List.cons_append, List.nil_append, List.append_nil]
        refine den_chk ?_ (den_chk ?_ (den_chk ?_ (den_chk rfl (den_chk ?_ (den_look ⟨oq, kq, nq, lenq, clq, tq, nmq, alq, fun W' x => hlq W' (ext_trans x4' x), ?_⟩)))))
        · simp only [Sy.dens, Sy.den, E.i, E.b, E.t, gd, Env.push, List.cons_append, List.nil_append, List.append_nil, Int.toNat_natCast]; rw [ba_size, ba_size]; refine leB_t ?_; simp only [List.length_cons, List.length_nil]; omega
        · simp only [Sy.dens, Sy.den, E.i, E.b, E.t, gd, Env.push, List.cons_append, List.nil_append, List.append_nil, Int.toNat_natCast]; rw [ByteArray.size_append, ba_size, ba_size, ba_size]; refine leB_t ?_; simp only [List.length_cons, List.length_nil]; omega
        · simp only [Sy.dens, Sy.den, E.i, E.b, E.t, gd, Env.push, List.cons_append, List.nil_append, List.append_nil, Int.toNat_natCast]; rw [ByteArray.size_append, ByteArray.size_append, ba_size, ba_size, ba_size]; refine leB_t ?_; simp only [List.length_cons, List.length_nil]; omega
        · simp only [Sy.dens, Sy.den, E.i, E.b, E.t, gd, Env.push, List.cons_append, List.nil_append, List.append_nil, Int.toNat_natCast]; exact ltB_t (by omega)
        simp only [Env.push, List.cons_append, List.nil_append, List.append_nil]
        refine den_callq ⟨⟨(Px.within (Px.show_ n B) (Px.much B) (IntKind.i64.wrap (b.2.2 + 1))).toArray⟩, fun V xV _ _ => hq1 V xV, ?_⟩
        simp only [Env.push, List.cons_append, List.nil_append, List.append_nil]
        refine den_chk ?_ (den_grow fun _ _ => den_ret fun _ _ _ => ⟨_, rfl, ?_⟩)
        · simp only [Sy.dens, Sy.den, E.i, E.b, E.t, gd, Env.push, List.cons_append, List.nil_append, List.append_nil, Int.toNat_natCast]; rw [ByteArray.size_append, ByteArray.size_append, ByteArray.size_append, ba_size, ba_size, ba_size, ba_size]; refine leB_t ?_; simp only [List.length_cons, List.length_nil]; omega
        · simp only [Sy.dens, Sy.den, E.i, E.b, E.t, gd, Env.push, List.cons_append, List.nil_append, List.append_nil, Int.toNat_natCast]; rw [ba_app, ba_app, ba_app, ba_app, hw]
end Go.Proofs.YtckgdgkkmhochaaGreatDoor
