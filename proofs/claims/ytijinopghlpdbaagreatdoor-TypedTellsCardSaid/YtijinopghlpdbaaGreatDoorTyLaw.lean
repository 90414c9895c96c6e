/- What the statements of layer 12 ask first: how much it is, the type of a text, the examples. -/
import Derived.Test.YtijinopghlpdbaaGreatDoorTyTyped
import Derived.Test.YtijinopghlpdbaaGreatDoorTyLaws
import Derived.Test.YtijinopghlpdbaaGreatDoorVcTypedL
namespace Go.Proofs.YtijinopghlpdbaaGreatDoor
open Go Go.RowKit Go.SF
set_option linter.unusedSimpArgs false
set_option linter.unusedVariables false

def MuchOk (d : Nat) : Prop := ∀ (x : Px.Ex) (vs : List Value) (W : Wd), Tx.wide x = true → ExI W x vs →
  CallsQ Tryz.prog 16 #[.agg vs.toArray, .int .i64 ((41 - d : Nat) : Int)] W (.tuple #[.int .i64 ((Tx.much d x).1 : Nat), .bool (Tx.much d x).2])
theorem much_ok : ∀ d : Nat, d ≤ 41 → MuchOk d := by
  intro d
  induction d with
  | zero =>
    intro _ x vs W hw hx
    obtain ⟨op, k, nn, t, nm, al, len, cl, rfl⟩ := hx.shape
    refine vc_lmuch op k nn ((41 : Nat) : Int) len cl t nm al W.all _ ?_
    refine den_new fun _ _ _ _ => den_br_t ?_ (den_ret fun _ _ _ => ⟨_, rfl, rfl⟩)
    simp [Sy.dens, Sy.den, E.i, E.b, E.t, gd, Env.push, List.cons_append, List.nil_append, List.append_nil, Int.toNat_natCast, ltB]
  | succ d ih =>
    intro hd x vs W hw hx
    have ih := ih (by omega)
    obtain ⟨op, k, nn, t, nm, args⟩ := x
    have hx := hx.ext W.all_ext
    simp only [ExI, ExAt] at hx
    obtain ⟨a, c, ls, rfl, hS, hE⟩ := hx
    simp only [Tx.wide, Bool.and_eq_true, decide_eq_true_eq] at hw
    obtain ⟨⟨hal, htl, hnl, hf0, hf1⟩, hw⟩ := hw
    refine vc_lmuch op k nn ((41 - (d + 1) : Nat) : Int) args.length c ⟨t.toArray⟩ ⟨nm.toArray⟩ a W.all _ ?_
    have htz : (⟨t.toArray⟩ : ByteArray).size = t.length := by rw [← size_len]
    have hnz : (⟨nm.toArray⟩ : ByteArray).size = nm.length := by rw [← size_len]
    have hgo : Tx.much (d + 1) (.mk op k nn t nm args) = if 8 < args.length ∨ 500 < t.length + nm.length then (0, true) else Tx.muchs (Tx.much d) 1 args := rfl
    rw [hgo]
    refine den_new fun m0 W1 hm0 x1 => den_br (fun c0 => den_ret fun _ _ _ => ⟨_, rfl, ?_⟩) fun c0 => ?_
    · simp only [Sy.dens, Sy.den, E.i, E.b, E.t, gd, Env.push, List.cons_append, List.nil_append, List.append_nil, Int.toNat_natCast, Bool.or_eq_true, ltB_true, htz, hnz] at c0
      rw [w64i (by omega) (by omega)] at c0
      rw [if_pos (by omega)]; rfl
    · simp only [Sy.dens, Sy.den, E.i, E.b, E.t, gd, Env.push, List.cons_append, List.nil_append, List.append_nil, Int.toNat_natCast, Bool.or_eq_false_iff, ltB_false, htz, hnz] at c0
      rw [w64i (by omega) (by omega)] at c0
      rw [if_neg (by omega)]
      refine den_loop (fun j vs ls _ => ∃ (i n : Nat), vs = [.int .i64 (n : Nat), .int .i64 (i : Nat)] ∧ ls = [] ∧ i ≤ args.length ∧ j = args.length - i ∧ n ≤ 300 ∧ Tx.muchs (Tx.much d) 1 args = Tx.muchs (Tx.much d) n (args.drop i)) args.length ⟨0, 1, by simp [Sy.dens, Sy.den, E.i, E.b, E.t, gd, Env.push, List.cons_append, List.nil_append, List.append_nil, Int.toNat_natCast], rfl, Nat.zero_le _, rfl, by omega, rfl⟩ ?_
      rintro j vs ls' W2 x2 ⟨i, n, rfl, rfl, hi, rfl, hn, hm⟩
      have x2' := ext_trans x1 x2
      refine ⟨(n : Int), (i : Int), rfl, rfl, fun _ => den_br (fun c1 => ?_) fun c1 => den_ret fun _ _ _ => ⟨_, rfl, ?_⟩⟩
      · simp only [Sy.dens, Sy.den, E.i, E.b, E.t, gd, Env.push, List.cons_append, List.nil_append, List.append_nil, Int.toNat_natCast, ltB_true] at c1
        have hil : i < args.length := by omega
        have hx : args[i]? = some args[i] := List.getElem?_eq_getElem hil
        obtain ⟨us, hu, hg⟩ := exs_get hE hx
        have hu2 : ExI W.all args[i] us := hu
        obtain ⟨op', k', nn', t', nm', al', len', cl', rfl⟩ := hu.shape
        rw [tdrop_get hil] at hm
        refine den_chk ?_ (den_chk ?_ (den_look ⟨op', k', nn', len', cl', t', nm', al', fun W3 x3 => ?_, ?_⟩))
        · simp only [E.b, gd, Env.push]; exact SlI.some_of hS (by omega)
        · simp only [Sy.dens, Sy.den, E.i, E.b, E.t, gd, Env.push, List.cons_append, List.nil_append, List.append_nil, Int.toNat_natCast]; exact leB_t (by omega)
        · have := sl_look_at (W := W.all) hS ex_agg ex_size rfl (by decide) hg (ext_trans x2' x3)
          simp only [Sy.dens, Sy.den, E.i, E.b, E.t, gd, Env.push, List.cons_append, List.nil_append, List.append_nil, Int.toNat_natCast] at this ⊢
          exact this
        · simp only [Env.push, List.cons_append, List.nil_append, List.append_nil]
          have hq := ih args[i] _ W2 (Tx.wide_mem hw (List.getElem_mem hil)) (hu2.ext x2')
          have hdd : IntKind.i64.wrap (((41 - (d + 1) : Nat) : Int) + 1) = ((41 - d : Nat) : Int) := by rw [w64i (by omega) (by omega)]; omega
          rw [← hdd] at hq
          have hle := Tx.much_le d args[i]
          refine den_call_q (fun _ _ => hq) ⟨((Tx.much d args[i]).1 : Int), (Tx.much d args[i]).2, rfl, fun W3 x3 => den_br (fun c2 => den_ret fun _ _ _ => ⟨_, rfl, ?_⟩) fun c2 => den_again ⟨args.length - (i + 1), by omega, i + 1, n + (Tx.much d args[i]).1, ?_, rfl, by omega, rfl, ?_, ?_⟩⟩
          · simp only [Sy.dens, Sy.den, E.i, E.b, E.t, gd, Env.push, List.cons_append, List.nil_append, List.append_nil, Int.toNat_natCast, Bool.or_eq_true, ltB_true] at c2
            rw [w64i (by omega) (by omega)] at c2
            rw [hm, Tx.muchs, if_pos (c2.imp id fun h => by omega)]; rfl
          · simp only [Sy.dens, Sy.den, E.i, E.b, E.t, gd, Env.push, List.cons_append, List.nil_append, List.append_nil, Int.toNat_natCast]
            rw [w64i (by omega) (by omega), w64i (by omega) (by omega)]; rfl
          · simp only [Sy.dens, Sy.den, E.i, E.b, E.t, gd, Env.push, List.cons_append, List.nil_append, List.append_nil, Int.toNat_natCast, Bool.or_eq_false_iff, ltB_false] at c2
            rw [w64i (by omega) (by omega)] at c2
            omega
          · simp only [Sy.dens, Sy.den, E.i, E.b, E.t, gd, Env.push, List.cons_append, List.nil_append, List.append_nil, Int.toNat_natCast, Bool.or_eq_false_iff, ltB_false] at c2
            rw [w64i (by omega) (by omega)] at c2
            have : ¬ ((Tx.much d args[i]).2 = true ∨ 300 < n + (Tx.much d args[i]).1) := fun h => by
              rcases h with h | h
              · rw [c2.1] at h; cases h
              · omega
            rw [hm, Tx.muchs, if_neg this]
      · simp only [Sy.dens, Sy.den, E.i, E.b, E.t, gd, Env.push, List.cons_append, List.nil_append, List.append_nil, Int.toNat_natCast, ltB_false] at c1
        rw [hm, List.drop_eq_nil_of_le (by omega)]; rfl
theorem large_q (x : Px.Ex) (vs : List Value) (vars : List Tx.Var) (a : Option Addr) (c : Nat) (W : Wd) (hw : Tx.wide x = true) (hx : ExI W x vs) :
    CallsQ Tryz.prog 6 #[.agg vs.toArray, .slice a vars.length c] W (.bool (Tx.large x vars)) := by
  obtain ⟨op, k, nn, t, nm, al, len, cl, rfl⟩ := hx.shape
  refine vc_llarge op k nn len cl vars.length c t nm al a W.all _ ?_
  have h := much_ok 41 (by decide)
  refine den_new fun m0 W1 _ x1 => den_call_q (fun _ _ => h x _ W1 hw (hx.ext (ext_trans W.all_ext x1))) ⟨((Tx.much 41 x).1 : Int), (Tx.much 41 x).2, rfl, fun W2 x2 => den_ret fun _ _ _ => ⟨_, rfl, ?_⟩⟩
  simp only [Sy.dens, Sy.den, E.i, E.b, E.t, gd, Env.push, List.cons_append, List.nil_append, List.append_nil, Int.toNat_natCast, Tx.large, ltB]
  congr 2
  rw [decide_eq_decide]; omega

/-! ### a new list of one variable -/
theorem vars_one {w : World} {m : Nat} {v : Tx.Var} {ty : TypeId} (W : Wd) (e : W.w = w) (h : w.heap[m]? = some (.cells (varC v).toArray ty)) : VarsI W.all (some ⟨m, 0, none⟩) 1 [v] := by
  subst e
  exact (blk_sl (n := 1) (sz := 4) h (by rw [varC_len])).all
/-! ### the type of a text -/
theorem parse_thinT (s : Lx.Bs) : Px.thin (Px.parse s).1 = true ∧ Px.deep (Px.parse s).1 ≤ 100 := by
  unfold Px.parse
  split
  · split
    · exact ⟨by decide, by decide⟩
    · rename_i e h
      have := whole_fine (lex_ok _) h
      have hl := lex_len s
      split
      · exact ⟨by decide, by decide⟩
      · exact ⟨this.1, by show Px.deep e ≤ 100; omega⟩
  · exact ⟨show Px.thin Px.none_ = true by decide, show Px.deep Px.none_ ≤ 100 by decide⟩
theorem of_q (s : Lx.Bs) (W : Wd) (hG : Glob W) (hT : GlobT W) : CallsQ Tryz.prog 17 #[.string ⟨s.toArray⟩] W (tupV (Tx.ofR s)) := by
  refine vc_lof ⟨s.toArray⟩ W.all _ ?_
  have hp := fun V h => parse_i' ⟨s.toArray⟩ V h
  simp only [show (⟨s.toArray⟩ : ByteArray).data.toList = s from by simp] at hp
  have ht := parse_thinT s
  refine den_call_i (fun _ _ => hp W.all (hG.ext W.all_ext)) fun v w' _ ⟨op', k', n', t', nm', al', len', cl', hv, hX⟩ => ⟨op', k', n', (Px.parse s).2, len', cl', t', nm', al', hv, fun W2 e2 y2 n2 => ?_⟩
  have hX2 := ExAt.i hX e2 n2
  simp only [Env.push, List.cons_append, List.nil_append, List.append_nil]
  refine den_new fun m1 W3 _ x3 => den_wr fun W4 x4 => den_br (fun c => den_ret fun _ _ _ => ⟨_, rfl, ?_⟩) fun c => ?_
  · have c : ¬ (Px.parse s).2 = 0 := by simpa [Sy.dens, Sy.den, E.i, E.b, E.t, gd, Env.push, List.cons_append, List.nil_append, List.append_nil, Int.toNat_natCast] using c
    rw [Tx.ofR, if_neg c]; rfl
  · have c : (Px.parse s).2 = 0 := by simpa [Sy.dens, Sy.den, E.i, E.b, E.t, gd, Env.push, List.cons_append, List.nil_append, List.append_nil, Int.toNat_natCast] using c
    refine den_new fun m2 W5 _ x5 => ?_
    have y5 := ext_trans (ext_trans x3 x4) x5
    refine den_call_q (fun hb _ => ?_) ⟨(Tx.ofR s).1, (Tx.ofR s).2, rfl, fun _ _ => den_ret fun _ _ _ => ⟨_, rfl, rfl⟩⟩
    have := tType_q (Px.parse s).1 _ [⟨[97], 1, 5, []⟩] (some ⟨m2, 0, none⟩) 1 W5.all ht.1 (by decide) (hX2.ext (ext_trans y5 W5.all_ext)) (vars_one W5 rfl (hb _ (List.mem_singleton.2 rfl))) (hT.ext (ext_trans W.all_ext (ext_trans y2 (ext_trans y5 W5.all_ext))))
    rw [Tx.ofR, if_pos c]
    exact this
theorem check_q (s : Lx.Bs) (vars : List Tx.Var) (kind : Int) (a : Option Addr) (c : Nat) (W : Wd) (hvl : vars.length ≤ 1000000) (hV : VarsI W a c vars) (hG : Glob W) (hT : GlobT W) :
    CallsQ Tryz.prog 12 #[.string ⟨s.toArray⟩, .slice a vars.length c, .int .u8 kind] W (.int .i64 (Tx.check s vars kind)) := by
  refine vc_tCheck kind vars.length c ⟨s.toArray⟩ a W.all _ ?_
  have hp := fun V h => parse_i' ⟨s.toArray⟩ V h
  simp only [show (⟨s.toArray⟩ : ByteArray).data.toList = s from by simp] at hp
  have ht := parse_thinT s
  refine den_call_i (fun _ _ => hp W.all (hG.ext W.all_ext)) fun v w' _ ⟨op', k', n', t', nm', al', len', cl', hv, hX⟩ => ⟨op', k', n', (Px.parse s).2, len', cl', t', nm', al', hv, fun W2 e2 y2 n2 => ?_⟩
  have hX2 := ExAt.i hX e2 n2
  simp only [Env.push, List.cons_append, List.nil_append, List.append_nil]
  refine den_new fun m1 W3 _ x3 => den_wr fun W4 x4 => den_br (fun c => den_ret fun _ _ _ => ⟨_, rfl, ?_⟩) fun c => ?_
  · have c : ¬ (Px.parse s).2 = 0 := by simpa [Sy.dens, Sy.den, E.i, E.b, E.t, gd, Env.push, List.cons_append, List.nil_append, List.append_nil, Int.toNat_natCast] using c
    rw [Tx.check, if_neg c]; rfl
  · have c : (Px.parse s).2 = 0 := by simpa [Sy.dens, Sy.den, E.i, E.b, E.t, gd, Env.push, List.cons_append, List.nil_append, List.append_nil, Int.toNat_natCast] using c
    have y4 := ext_trans x3 x4
    refine den_call_q (fun hb _ => tType_q (Px.parse s).1 _ vars a _ W4 ht.1 hvl (hX2.ext y4) (hV.ext (ext_trans W.all_ext (ext_trans y2 y4))) (hT.ext (ext_trans W.all_ext (ext_trans y2 y4)))) ⟨(Tx.type vars (Px.parse s).1).1, (Tx.type vars (Px.parse s).1).2, rfl, fun _ _ => ?_⟩
    simp only [Env.push, List.cons_append, List.nil_append, List.append_nil]
    rw [Tx.check, if_pos c]
    refine den_br (fun c2 => den_ret fun _ _ _ => ⟨_, rfl, ?_⟩) fun c2 => den_ret fun _ _ _ => ⟨_, rfl, ?_⟩
    · have c2 : (Tx.type vars (Px.parse s).1).2 = 0 ∧ (Tx.type vars (Px.parse s).1).1 ≠ kind := by simpa [Sy.dens, Sy.den, E.i, E.b, E.t, gd, Env.push, List.cons_append, List.nil_append, List.append_nil, Int.toNat_natCast] using c2
      rw [if_pos c2]; rfl
    · have c2 : ¬ ((Tx.type vars (Px.parse s).1).2 = 0 ∧ (Tx.type vars (Px.parse s).1).1 ≠ kind) := by simpa [Sy.dens, Sy.den, E.i, E.b, E.t, gd, Env.push, List.cons_append, List.nil_append, List.append_nil, Int.toNat_natCast] using c2
      rw [if_neg c2]; rfl
/-! ### the examples -/
theorem awake_q (W : Wd) (hG : Glob W) (hT : GlobT W) : CallsQ Tryz.prog 7 #[] W (.bool true) := by
  refine vc_lawake W.all _ ?_
  have hG := hG.ext W.all_ext
  have hT := hT.ext W.all_ext
  have o2 := Tx.of2
  have o3 := Tx.of3
  refine den_call_q (fun _ _ => of_q [97, 32, 43, 32, 49] W.all hG hT) ⟨1, 0, by rw [Tx.of1]; rfl, fun W1 x1 => ?_⟩
  refine den_call_q (fun _ _ => of_q [97, 32, 43, 32, 39, 120, 39] W1 (hG.ext x1) (hT.ext x1)) ⟨(Tx.ofR [97, 32, 43, 32, 39, 120, 39]).1, 23, by rw [← o2]; rfl, fun W2 x2 => ?_⟩
  have x2 := ext_trans x1 x2
  refine den_call_q (fun _ _ => of_q [98] W2 (hG.ext x2) (hT.ext x2)) ⟨(Tx.ofR [98]).1, 22, by rw [← o3]; rfl, fun W3 x3 => ?_⟩
  have x3 := ext_trans x2 x3
  refine den_call_q (fun _ _ => of_q [40, 49, 32, 60, 32, 50, 41, 32, 61, 61, 32, 121, 101, 115] W3 (hG.ext x3) (hT.ext x3)) ⟨2, 0, by rw [Tx.of4]; rfl, fun W4 x4 => ?_⟩
  have x4 := ext_trans x3 x4
  refine den_br_t rfl (den_new fun m W5 _ x5 => ?_)
  have x5 := ext_trans (ext_trans x4 x5) W5.all_ext
  refine den_call_q (v := .int .i64 23) (fun hb _ => ?_) ⟨23, rfl, fun _ _ => den_ret fun _ _ _ => ⟨_, rfl, rfl⟩⟩
  have := check_q [97, 32, 60, 32, 51] [⟨[97], 1, 0, []⟩] 1 (some ⟨m, 0, none⟩) 1 W5.all (by decide) (vars_one W5 rfl (hb _ (List.mem_singleton.2 rfl))) (hG.ext x5) (hT.ext x5)
  rw [Tx.check1] at this
  exact this
end Go.Proofs.YtijinopghlpdbaaGreatDoor
