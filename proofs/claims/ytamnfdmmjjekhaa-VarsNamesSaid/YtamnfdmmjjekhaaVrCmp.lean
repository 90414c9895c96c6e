/- How cells are compared: the walk. -/
import Derived.Test.YtamnfdmmjjekhaaVrP
import Derived.Test.YtamnfdmmjjekhaaSeKit
import Derived.Test.YtamnfdmmjjekhaaVcSort0
namespace Go.Proofs.Ytamnfdmmjjekhaa
open Go Go.RowKit Go.SF
set_option linter.unusedSimpArgs false
set_option linter.unusedVariables false
theorem tlt_ba (a b : Vr.Bs) : Op.bytesLess (⟨a.toArray⟩ : ByteArray).data.toList (⟨b.toArray⟩ : ByteArray).data.toList = decide (a < b) := by rw [← Vr.bless_eq]
theorem teq_ba (a b : Vr.Bs) : ((⟨a.toArray⟩ : ByteArray).data.toList == (⟨b.toArray⟩ : ByteArray).data.toList) = decide (a = b) := by
  simp only [ba_list]; by_cases h : a = b <;> simp [h]
theorem cmi_q (a b : Int) (W : Wd) : CallsQ Try.prog 31 #[.int .i64 a, .int .i64 b] W (.int .i64 (Vr.cmpI a b)) := by
  refine vc_cmi a b W.all _ ?_
  unfold Vr.cmpI
  refine den_grow fun W1 x1 => den_grow fun W2 x2 => den_br_f (by simp [Sy.dens, Sy.den, E.i, E.b, E.t, gd, Env.push, List.cons_append, List.nil_append, List.append_nil, Int.toNat_natCast]) (den_br_f (by simp [Sy.dens, Sy.den, E.i, E.b, E.t, gd, Env.push, List.cons_append, List.nil_append, List.append_nil, Int.toNat_natCast]) (den_br (fun c => ?_) fun c => den_br (fun d => ?_) fun d => ?_))
  · simp only [Sy.dens, Sy.den, E.i, E.b, E.t, gd, Env.push, List.cons_append, List.nil_append, List.append_nil, Int.toNat_natCast, ltB_true] at c
    exact den_ret fun _ _ _ => ⟨_, rfl, by simp [Sy.dens, Sy.den, E.i, E.b, E.t, gd, Env.push, List.cons_append, List.nil_append, List.append_nil, Int.toNat_natCast, c]⟩
  · simp only [Sy.dens, Sy.den, E.i, E.b, E.t, gd, Env.push, List.cons_append, List.nil_append, List.append_nil, Int.toNat_natCast, ltB_true, ltB_false] at c d
    exact den_ret fun _ _ _ => ⟨_, rfl, by rw [if_neg (by omega), if_pos d]; rfl⟩
  · simp only [Sy.dens, Sy.den, E.i, E.b, E.t, gd, Env.push, List.cons_append, List.nil_append, List.append_nil, Int.toNat_natCast, ltB_true, ltB_false] at c d
    exact den_ret fun _ _ _ => ⟨_, rfl, by rw [if_neg (by omega), if_neg (by omega)]; rfl⟩
theorem cmb_q (a b : Vr.Bs) (W : Wd) : CallsQ Try.prog 32 #[.string ⟨a.toArray⟩, .string ⟨b.toArray⟩] W (.int .i64 (Vr.cmpB a b)) := by
  refine vc_cmb ⟨a.toArray⟩ ⟨b.toArray⟩ W.all _ ?_
  unfold Vr.cmpB
  refine den_grow fun W1 x1 => den_grow fun W2 x2 => den_br_f (by simp [Sy.dens, Sy.den, E.i, E.b, E.t, gd, Env.push, List.cons_append, List.nil_append, List.append_nil, Int.toNat_natCast]) (den_br_f (by simp [Sy.dens, Sy.den, E.i, E.b, E.t, gd, Env.push, List.cons_append, List.nil_append, List.append_nil, Int.toNat_natCast]) (den_br (fun c => ?_) fun c => den_br (fun d => ?_) fun d => ?_))
  · simp only [Sy.dens, Sy.den, E.i, E.b, E.t, gd, Env.push, List.cons_append, List.nil_append, List.append_nil, Int.toNat_natCast, Vr.bless_eq, decide_eq_true_eq] at c
    exact den_ret fun _ _ _ => ⟨_, rfl, by simp [Sy.dens, Sy.den, E.i, E.b, E.t, gd, Env.push, List.cons_append, List.nil_append, List.append_nil, Int.toNat_natCast, c]⟩
  · simp only [Sy.dens, Sy.den, E.i, E.b, E.t, gd, Env.push, List.cons_append, List.nil_append, List.append_nil, Int.toNat_natCast, Vr.bless_eq, beq_iff_eq, beq_eq_false_iff_ne, decide_eq_false_iff_not, decide_eq_true_eq, decide_eq_false_iff_not, Bool.not_eq_true', Bool.or_eq_false_iff] at c d
    have : b < a := by
      by_cases h : b < a
      · exact h
      · exact absurd (Vr.blt_tri d.1 h) d.2
    exact den_ret fun _ _ _ => ⟨_, rfl, by rw [if_neg d.1, if_pos this]; rfl⟩
  · simp only [Sy.dens, Sy.den, E.i, E.b, E.t, gd, Env.push, List.cons_append, List.nil_append, List.append_nil, Int.toNat_natCast, Vr.bless_eq, beq_iff_eq, beq_eq_false_iff_ne, decide_eq_false_iff_not, decide_eq_true_eq, decide_eq_false_iff_not, Bool.not_eq_false', Bool.or_eq_true] at c d
    have : a = b := d.resolve_left c
    subst this
    exact den_ret fun _ _ _ => ⟨_, rfl, by rw [if_neg (List.lt_irrefl _), if_neg (List.lt_irrefl _)]; rfl⟩
theorem or_q (a b : Int) (ad : Option Addr) (W : Wd) (hw : SlW W.w ad 2 2 1 [.int .i64 a, .int .i64 b]) : CallsQ Try.prog 30 #[.slice ad 2 2] W (.int .i64 (if a ≠ 0 then a else b)) := by
  have h := hw.all
  refine vc_or 2 2 ad W.all _ ?_
  refine den_loop (fun k vs ls _ => ∃ i : Nat, vs = [.int .i64 (i : Int)] ∧ ls = [] ∧ (i = 0 ∨ (i = 1 ∧ a = 0) ∨ (i = 2 ∧ a = 0 ∧ b = 0)) ∧ k = 2 - i) 2 ⟨0, rfl, rfl, .inl rfl, rfl⟩ ?_
  rintro k vs ls W1 x1 ⟨i, rfl, rfl, hi, rfl⟩
  refine ⟨(i : Int), rfl, rfl, fun _ => ?_⟩
  simp only [Env.push, List.cons_append, List.nil_append, List.append_nil]
  have hs : ad.isSome = true := h.some_of (by omega)
  refine den_br (fun c => ?_) fun c => ?_
  · simp only [Sy.dens, Sy.den, E.i, E.b, E.t, gd, Env.push, List.cons_append, List.nil_append, List.append_nil, Int.toNat_natCast, ltB_true] at c
    refine den_chk (by simp only [E.b, gd]; exact hs) (den_chk (by simp only [Sy.dens, Sy.den, E.i, E.b, E.t, gd, Env.push, List.cons_append, List.nil_append, List.append_nil, Int.toNat_natCast]; exact leB_t (by omega)) ?_)
    have look : ∀ (u : Int) (k : Nat), i = k → ([Value.int .i64 a, .int .i64 b] : List Value)[k]? = some (.int .i64 u) → ∀ W', Ext W1 W' → (Instr.loadAt 3 (.pointer (some ((ad.getD default).add ((i : Int).toNat * 1 + 0))))).run Try.prog W'.w = .ok (.int .i64 u) W'.w := fun u k e hu W' xW => by
      subst e
      refine look_one (by kernel_rfl) ?_
      obtain ⟨_, _, ⟨_, z, _⟩ | ⟨bb, o, rfl, hI, hb, hc⟩⟩ := h.ext (ext_trans x1 xW)
      · cases z
      · simp only [Option.getD_some, Int.toNat_natCast, Nat.mul_one, Nat.add_zero]
        rw [add_none]; exact hc i _ hu
    rcases hi with rfl | ⟨rfl, ha⟩ | ⟨rfl, _⟩
    · refine den_look ⟨a, look a 0 rfl rfl, ?_⟩
      simp only [Env.push, List.cons_append, List.nil_append, List.append_nil]
      refine den_br (fun d => den_ret fun _ _ _ => ⟨_, rfl, ?_⟩) fun d => den_again ⟨1, by omega, 1, by simp [Sy.dens, Sy.den, E.i, E.b, E.t, gd, Env.push, List.cons_append, List.nil_append, List.append_nil, Int.toNat_natCast]; decide, rfl, ?_, rfl⟩
      · have d : ¬ a = 0 := by simpa [Sy.dens, Sy.den, E.i, E.b, E.t, gd, Env.push, List.cons_append, List.nil_append, List.append_nil, Int.toNat_natCast] using d
        simp [Sy.dens, Sy.den, E.i, E.b, E.t, gd, Env.push, List.cons_append, List.nil_append, List.append_nil, Int.toNat_natCast, d]
      · have d : a = 0 := by simpa [Sy.dens, Sy.den, E.i, E.b, E.t, gd, Env.push, List.cons_append, List.nil_append, List.append_nil, Int.toNat_natCast] using d
        exact .inr (.inl ⟨rfl, d⟩)
    · refine den_look ⟨b, look b 1 rfl rfl, ?_⟩
      simp only [Env.push, List.cons_append, List.nil_append, List.append_nil]
      refine den_br (fun d => den_ret fun _ _ _ => ⟨_, rfl, ?_⟩) fun d => den_again ⟨0, by omega, 2, by simp [Sy.dens, Sy.den, E.i, E.b, E.t, gd, Env.push, List.cons_append, List.nil_append, List.append_nil, Int.toNat_natCast]; decide, rfl, ?_, rfl⟩
      · simp [Sy.dens, Sy.den, E.i, E.b, E.t, gd, Env.push, List.cons_append, List.nil_append, List.append_nil, Int.toNat_natCast, ha]
      · have d : b = 0 := by simpa [Sy.dens, Sy.den, E.i, E.b, E.t, gd, Env.push, List.cons_append, List.nil_append, List.append_nil, Int.toNat_natCast] using d
        exact .inr (.inr ⟨rfl, ha, d⟩)
    · omega
  · simp only [Sy.dens, Sy.den, E.i, E.b, E.t, gd, Env.push, List.cons_append, List.nil_append, List.append_nil, Int.toNat_natCast, ltB_false] at c
    refine den_ret fun _ _ _ => ⟨_, rfl, ?_⟩
    rcases hi with rfl | ⟨rfl, _⟩ | ⟨rfl, ha, hb⟩
    · omega
    · omega
    · simp [Sy.dens, Sy.den, E.i, E.b, E.t, gd, Env.push, List.cons_append, List.nil_append, List.append_nil, Int.toNat_natCast, ha, hb]
theorem ocmp_q (x y : Vr.Ce) (W : Wd) : CallsQ Try.prog 29 #[.agg x.enc.toArray, .agg y.enc.toArray] W (.int .i64 (Vr.cmp x y)) := by
  refine vc_ocmp x.sc x.v.k x.v.n y.sc y.v.k y.v.n ⟨x.nm.toArray⟩ ⟨x.v.t.toArray⟩ ⟨y.nm.toArray⟩ ⟨y.v.t.toArray⟩ W.all _ ?_
  refine den_new fun _ W1 _ x1 => den_new fun _ W2 _ x2 => ?_
  refine den_callq ⟨Vr.cmpI x.sc y.sc, fun V _ _ _ => cmi_q _ _ V, ?_⟩
  simp only [Env.push, List.cons_append, List.nil_append, List.append_nil]
  refine den_callq ⟨Vr.cmpB x.nm y.nm, fun V _ _ _ => cmb_q _ _ V, ?_⟩
  simp only [Env.push, List.cons_append, List.nil_append, List.append_nil]
  refine den_grow fun W3 x3 => den_new fun m W4 _ x4 => ?_
  simp only [Env.push, List.cons_append, List.nil_append, List.append_nil]
  refine den_callq ⟨Vr.cmp x y, fun V _ hb _ => ?_, den_grow fun W5 x5 => den_ret fun _ _ _ => ⟨_, rfl, rfl⟩⟩
  have hbk := hb _ (List.mem_cons_self ..)
  unfold Blk.at at hbk
  exact or_q (Vr.cmpI x.sc y.sc) (Vr.cmpB x.nm y.nm) (some ⟨m, 0, none⟩) V (blk_sl hbk rfl)
end Go.Proofs.Ytamnfdmmjjekhaa
