/- How much a tree has. -/
import Derived.Test.YtckgdgkkmhochaaGreatDoorPxLaw
import Derived.Test.YtckgdgkkmhochaaGreatDoorPyP
import Derived.Test.YtckgdgkkmhochaaGreatDoorVcBack
namespace Go.Proofs.YtckgdgkkmhochaaGreatDoor
open Go Go.RowKit Go.SF
set_option linter.unusedSimpArgs false
set_option linter.unusedVariables false
def SizeOk (d : Nat) : Prop := ∀ (x : Px.Ex) (n : Nat) (vs : List Value) (W : Wd), Px.deep x ≤ d → n ≤ 300 → Tx.wide x = true → ExI W x vs →
  CallsQ Tryz.prog 29 #[.agg vs.toArray, .int .i64 (n : Nat)] W (.int .i64 (Tx.sz x n : Nat))
theorem size_ok : ∀ d : Nat, SizeOk d := by
  intro d
  induction d with
  | zero => intro x n vs W hd; have := Px.deep_pos x; omega
  | succ d ih =>
    intro x n vs W hd hn hw hx
    obtain ⟨op, k, nn, t, nm, args⟩ := x
    have hx := hx.ext W.all_ext
    simp only [ExI, ExAt] at hx
    obtain ⟨a, c, ls, rfl, hS, hE⟩ := hx
    simp only [Tx.wide, Bool.and_eq_true, decide_eq_true_eq] at hw
    obtain ⟨⟨hal, -⟩, hw⟩ := hw
    simp only [Px.deep] at hd
    refine vc_lsize op k nn (n : Int) args.length c ⟨t.toArray⟩ ⟨nm.toArray⟩ a W.all _ ?_
    refine den_new fun m0 W1 hm0 x1 => den_loop (fun j vs ls _ => ∃ (i m : Nat), vs = [.int .i64 (m : Nat), .int .i64 (i : Nat)] ∧ ls = [] ∧ i ≤ args.length ∧ j = args.length - i ∧ (m ≤ n ∨ m ≤ 1) ∧ Tx.szs args 1 n = Tx.szs (args.drop i) m n) args.length ⟨0, 1, by simp [Sy.dens, Sy.den, E.i, E.b, E.t, gd, Env.push, List.cons_append, List.nil_append, List.append_nil, Int.toNat_natCast], rfl, Nat.zero_le _, rfl, .inr (Nat.le_refl _), rfl⟩ ?_
    rintro j vs ls' W2 x2 ⟨i, m, rfl, rfl, hi, rfl, hm, hz⟩
    have x2' := ext_trans x1 x2
    refine ⟨(m : Int), (i : Int), rfl, rfl, fun _ => den_br (fun c1 => ?_) fun c1 => den_ret fun _ _ _ => ⟨_, rfl, ?_⟩⟩
    · simp only [Sy.dens, Sy.den, E.i, E.b, E.t, gd, Env.push, List.cons_append, List.nil_append, List.append_nil, Int.toNat_natCast, Bool.and_eq_true, ltB_true] at c1
      have hil : i < args.length := by omega
      have hmn : m < n := by omega
      have hx : args[i]? = some args[i] := List.getElem?_eq_getElem hil
      obtain ⟨us, hu, hg⟩ := exs_get hE hx
      have hu2 : ExI W.all args[i] us := hu
      obtain ⟨op', k', nn', t', nm', al', len', cl', rfl⟩ := hu.shape
      have hdr : args.drop i = args[i] :: args.drop (i + 1) := List.drop_eq_getElem_cons hil
      rw [hdr] at hz
      refine den_chk ?_ (den_chk ?_ (den_look ⟨op', k', nn', len', cl', t', nm', al', fun W3 x3 => ?_, ?_⟩))
      · simp only [E.b, gd, Env.push]; exact SlI.some_of hS (by omega)
      · simp only [Sy.dens, Sy.den, E.i, E.b, E.t, gd, Env.push, List.cons_append, List.nil_append, List.append_nil, Int.toNat_natCast]; exact leB_t (by omega)
      · have := sl_look_at (W := W.all) hS ex_agg ex_size rfl (by decide) hg (ext_trans x2' x3)
        simp only [Sy.dens, Sy.den, E.i, E.b, E.t, gd, Env.push, List.cons_append, List.nil_append, List.append_nil, Int.toNat_natCast] at this ⊢
        exact this
      · simp only [Env.push, List.cons_append, List.nil_append, List.append_nil]
        have hde := Px.deep_mem (List.getElem_mem hil)
        have hq := ih args[i] (n - m) _ W2 (by omega) (by omega) (Tx.wide_mem hw (List.getElem_mem hil)) (hu2.ext x2')
        have hdd : IntKind.i64.wrap ((n : Int) - (m : Int)) = ((n - m : Nat) : Int) := by rw [w64i (by omega) (by omega)]; omega
        rw [← hdd] at hq
        have hle := Tx.sz_le args[i] (n - m) (by omega)
        refine den_call_q (fun _ _ => hq) ⟨(Tx.sz args[i] (n - m) : Int), rfl, fun W3 x3 => den_again ⟨args.length - (i + 1), by omega, i + 1, m + Tx.sz args[i] (n - m), ?_, rfl, by omega, rfl, .inl (by omega), ?_⟩⟩
        · simp only [Sy.dens, Sy.den, E.i, E.b, E.t, gd, Env.push, List.cons_append, List.nil_append, List.append_nil, Int.toNat_natCast]
          rw [w64i (by omega) (by omega), w64i (by omega) (by omega)]; rfl
        · rw [hz, Tx.szs, if_pos hmn]
    · simp only [Sy.dens, Sy.den, E.i, E.b, E.t, gd, Env.push, List.cons_append, List.nil_append, List.append_nil, Int.toNat_natCast, Bool.and_eq_false_iff, ltB_false] at c1
      have : Tx.szs (args.drop i) m n = m := by
        rcases Nat.lt_or_ge i args.length with hil | hil
        · rw [List.drop_eq_getElem_cons hil, Tx.szs, if_neg (by omega)]
        · rw [List.drop_eq_nil_of_le hil, Tx.szs]
      simp only [Tx.sz]
      rw [hz, this]; rfl
theorem large_q (x : Px.Ex) (vs : List Value) (W : Wd) (hw : Tx.wide x = true) (hx : ExI W x vs) :
    CallsQ Tryz.prog 9 #[.agg vs.toArray] W (.bool (Tx.large x)) := by
  obtain ⟨op, k, nn, t, nm, al, len, cl, rfl⟩ := hx.shape
  refine vc_llarge op k nn len cl t nm al W.all _ ?_
  have h := size_ok (Px.deep x)
  refine den_new fun m0 W1 _ x1 => den_call_q (fun _ _ => h x 300 _ W1 (Nat.le_refl _) (Nat.le_refl _) hw (hx.ext (ext_trans W.all_ext x1))) ⟨(Tx.sz x 300 : Int), rfl, fun W2 x2 => den_ret fun _ _ _ => ⟨_, rfl, ?_⟩⟩
  simp only [Sy.dens, Sy.den, E.i, E.b, E.t, gd, Env.push, List.cons_append, List.nil_append, List.append_nil, Int.toNat_natCast, Tx.large, leB]
  congr 2
  exact propext (by omega)
end Go.Proofs.YtckgdgkkmhochaaGreatDoor
