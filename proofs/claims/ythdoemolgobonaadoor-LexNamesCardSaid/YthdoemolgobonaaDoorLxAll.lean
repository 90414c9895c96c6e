/- The bytes that stand in no part are spaces. -/
import Derived.Test.YthdoemolgobonaaDoorLxShow
import Derived.Test.YthdoemolgobonaaDoorLxAllP
namespace Go.Proofs.YthdoemolgobonaaDoor
open Go Go.RowKit Go.SF
set_option linter.unusedSimpArgs false
set_option linter.unusedVariables false

theorem extract_one (t : ByteArray) (i : Nat) (h : i < t.size) : (t.extract i (i + 1)).data.toList = [gd t.data.toList i 0] := by
  have hs := size_len t
  have : (t.extract i (i + 1)).data.toList = (t.data.toList.drop i).take 1 := by
    simp [ByteArray.data_extract, Array.toList_extract, List.take_drop, Nat.min_eq_left, List.extract_eq_take_drop]
  rw [this, gd_drop _ _ (by omega)]; rfl
theorem cat_list (a : Lx.Bs) (b : ByteArray) : (⟨a.toArray⟩ : ByteArray) ++ b = ⟨(a ++ b.data.toList).toArray⟩ := ba_ext (by simp)
theorem fold_len : ∀ (l : Lx.Bs) (b : Lx.Bs × Bool), (l.foldl Lx.bstep b).1.length ≤ b.1.length + l.length
  | [], b => by simp
  | c :: l, b => by
    rw [List.foldl_cons]
    have := fold_len l (Lx.bstep b c)
    have h2 : (Lx.bstep b c).1.length ≤ b.1.length + 1 := by unfold Lx.bstep; split <;> (try split) <;> simp
    simp only [List.length_cons]; omega
theorem take_gd (l : List UInt8) (i : Nat) (h : i < l.length) : l.take (i + 1) = l.take i ++ [gd l i 0] := by rw [gd_get' h]; exact take_succ (List.getElem?_eq_getElem h)
theorem fold_next (l : Lx.Bs) (i : Nat) (h : i < l.length) : Lx.bareF (l.take (i + 1)) = Lx.bstep (Lx.bareF (l.take i)) (gd l i 0) := by
  unfold Lx.bareF; rw [take_gd l i h, List.foldl_append]; rfl
theorem u8_eq (c : UInt8) (n : Nat) (h : n < 256) : ((c.toNat : Int) == (n : Int)) = decide (c = UInt8.ofNat n) := by
  rw [Bool.eq_iff_iff, beq_iff_eq, decide_eq_true_iff]
  constructor
  · intro e
    have : c.toNat = n := by omega
    rw [← this]; simp
  · intro e
    subst e
    simp [Nat.mod_eq_of_lt h]
theorem u8_agg : aggT Tryd.prog 5 = some false := by kernel_rfl
set_option maxRecDepth 100000 in
theorem lexAll_q (t : ByteArray) (W : Wd) (hG : Glob W) : CallsQ Tryd.prog 5 #[.string t] W (.bool true) := by
  refine vc_lexAll t W.all _ ?_
  have hs := size_len t
  have hG := hG.ext W.all_ext
  have h1 := awake_q W.all hG
  refine den_br (fun c1 => ?_) fun c1 => ?_
  · have c1 : (!ltB 1000 (t.size : Int)) = true := c1
    have hle : t.size ≤ 1000 := by simp only [Bool.not_eq_true', ltB_false] at c1; omega
    refine den_call_q (fun _ _ => h1) ⟨true, rfl, fun W2 x2 => den_br_f rfl ?_⟩
    simp only [Env.push, List.cons_append, List.nil_append, List.append_nil]
    have hG2 := hG.ext x2
    have h2 := lex_i t W2 hG2
    refine den_call_i (fun _ _ => h2) fun v w3 _ ⟨a3, c3, hv3, ht3⟩ => ⟨(Lx.lex t.data.toList).2, (Lx.lex t.data.toList).1.length, c3, a3, hv3, fun W3 e3 x3 n3 => ?_⟩
    have T3 := ht3.stay e3 n3
    simp only [Env.push, List.cons_append, List.nil_append, List.append_nil]
    generalize hlx : Lx.lex t.data.toList = r at T3 ⊢
    obtain ⟨ts, e⟩ := r
    simp only at T3 ⊢
    rcases Lx.lex_ok hlx with ⟨he, rfl⟩ | ⟨rfl, hl, hb, hfl, hall⟩
    · refine den_br_t (by simp [E.b, E.i, gd, he]) (den_ret fun _ _ _ => ⟨_, rfl, rfl⟩)
    · refine den_br_f rfl ?_
      have hcnt := Lx.count_le hall
      refine den_loop (fun k vs ls _ => ∃ i : Nat, vs = [.string ⟨(Lx.bareF (t.data.toList.take i)).1.toArray⟩, .bool (Lx.bareF (t.data.toList.take i)).2, .int .i64 (i : Int)] ∧ ls = [] ∧ i ≤ t.size ∧ k = t.size - i) t.size ⟨0, rfl, rfl, Nat.zero_le _, rfl⟩ ?_
      rintro k vs ls W4 x4 ⟨i, rfl, rfl, hi, rfl⟩
      refine ⟨(i : Int), (Lx.bareF (t.data.toList.take i)).2, ⟨(Lx.bareF (t.data.toList.take i)).1.toArray⟩, rfl, rfl, fun _ => ?_⟩
      have hbl : (⟨(Lx.bareF (t.data.toList.take i)).1.toArray⟩ : ByteArray).size ≤ i := by
        rw [← size_len]
        have := fold_len (t.data.toList.take i) ([], false)
        have h5 : (t.data.toList.take i).length ≤ i := by rw [List.length_take]; omega
        show (Lx.bareF (t.data.toList.take i)).1.length ≤ i
        unfold Lx.bareF
        simp only [List.length_nil] at this
        omega
      simp only [Env.push, List.cons_append, List.nil_append, List.append_nil]
      refine den_br (fun c2 => ?_) fun c2 => ?_
      · simp only [Sy.dens, Sy.den, E.i, E.b, E.t, gd, Env.push, List.cons_append, List.nil_append, List.append_nil, Int.toNat_natCast, ltB_true] at c2
        have hil : i < t.size := by omega
        have hex := extract_one t i hil
        have hexs : (t.extract i (i + 1)).size = 1 := by rw [← size_len, hex]; rfl
        have hn := fold_next t.data.toList i (by omega)
        have hw : IntKind.i64.wrap ((i : Int) + 1) = ((i + 1 : Nat) : Int) := by rw [w64i (by omega) (by omega)]; rfl
        have htn : ((i : Int) + 1).toNat = i + 1 := by omega
        have hcat : (⟨(Lx.bareF (t.data.toList.take i)).1.toArray⟩ : ByteArray) ++ t.extract i (i + 1) = ⟨((Lx.bareF (t.data.toList.take i)).1 ++ [gd t.data.toList i 0]).toArray⟩ := by rw [cat_list, hex]
        refine den_chk ?_ (den_br (fun c3 => ?_) fun c3 => ?_)
        · simp only [Sy.dens, Sy.den, E.i, E.b, E.t, gd, Env.push, List.cons_append, List.nil_append, List.append_nil, Int.toNat_natCast]; exact leB_t (by omega)
        · simp only [Sy.dens, Sy.den, E.i, E.b, E.t, gd, Env.push, List.cons_append, List.nil_append, List.append_nil, Int.toNat_natCast] at c3
          have c3 : gd t.data.toList i 0 = 39 := by
            have := u8_eq (gd t.data.toList i 0) 39 (by decide)
            simpa [c3] using this.symm
          rw [c3] at hn hcat
          have hn : Lx.bareF (t.data.toList.take (i + 1)) = ((Lx.bareF (t.data.toList.take i)).1 ++ [39], !(Lx.bareF (t.data.toList.take i)).2) := by rw [hn]; simp [Lx.bstep]
          refine den_chk ?_ (den_chk ?_ (den_chk ?_ (den_again ⟨t.size - (i + 1), by omega, i + 1, ?_, rfl, by omega, rfl⟩)))
          · simp only [Sy.dens, Sy.den, E.i, E.b, E.t, gd, Env.push, List.cons_append, List.nil_append, List.append_nil, Int.toNat_natCast, hw]; exact leB_t (by omega)
          · simp only [Sy.dens, Sy.den, E.i, E.b, E.t, gd, Env.push, List.cons_append, List.nil_append, List.append_nil, Int.toNat_natCast, hw]; exact leB_t (by omega)
          · simp only [Sy.dens, Sy.den, E.i, E.b, E.t, gd, Env.push, List.cons_append, List.nil_append, List.append_nil, Int.toNat_natCast, hw, hexs]; exact leB_t (by omega)
          · simp only [Sy.dens, Sy.den, E.i, E.b, E.t, gd, Env.push, List.cons_append, List.nil_append, List.append_nil, Int.toNat_natCast, hw, hn, hcat]
        · simp only [Sy.dens, Sy.den, E.i, E.b, E.t, gd, Env.push, List.cons_append, List.nil_append, List.append_nil, Int.toNat_natCast] at c3
          have c3 : gd t.data.toList i 0 ≠ 39 := by
            have := u8_eq (gd t.data.toList i 0) 39 (by decide)
            intro e; rw [e] at c3; revert c3; decide
          refine den_br (fun c4 => ?_) fun c4 => ?_
          · simp only [Sy.dens, Sy.den, E.i, E.b, E.t, gd, Env.push, List.cons_append, List.nil_append, List.append_nil, Int.toNat_natCast] at c4
            have c4 : gd t.data.toList i 0 ≠ 32 ∨ (Lx.bareF (t.data.toList.take i)).2 = true := by
              rcases Bool.or_eq_true_iff.1 c4 with h | h
              · left; intro e; rw [e] at h; revert h; decide
              · exact .inr h
            have hn : Lx.bareF (t.data.toList.take (i + 1)) = ((Lx.bareF (t.data.toList.take i)).1 ++ [gd t.data.toList i 0], (Lx.bareF (t.data.toList.take i)).2) := by rw [hn]; simp only [Lx.bstep, if_neg c3, if_pos c4]
            refine den_chk ?_ (den_chk ?_ (den_chk ?_ (den_again ⟨t.size - (i + 1), by omega, i + 1, ?_, rfl, by omega, rfl⟩)))
            · simp only [Sy.dens, Sy.den, E.i, E.b, E.t, gd, Env.push, List.cons_append, List.nil_append, List.append_nil, Int.toNat_natCast, hw]; exact leB_t (by omega)
            · simp only [Sy.dens, Sy.den, E.i, E.b, E.t, gd, Env.push, List.cons_append, List.nil_append, List.append_nil, Int.toNat_natCast, hw]; exact leB_t (by omega)
            · simp only [Sy.dens, Sy.den, E.i, E.b, E.t, gd, Env.push, List.cons_append, List.nil_append, List.append_nil, Int.toNat_natCast, hw, hexs]; exact leB_t (by omega)
            · simp only [Sy.dens, Sy.den, E.i, E.b, E.t, gd, Env.push, List.cons_append, List.nil_append, List.append_nil, Int.toNat_natCast, hw, hn, hcat]
          · simp only [Sy.dens, Sy.den, E.i, E.b, E.t, gd, Env.push, List.cons_append, List.nil_append, List.append_nil, Int.toNat_natCast] at c4
            have c4 : ¬ (gd t.data.toList i 0 ≠ 32 ∨ (Lx.bareF (t.data.toList.take i)).2 = true) := by
              rintro (h | h)
              · simp at c4
                have h9 : (gd t.data.toList i 0).toNat = 32 := by omega
                exact h (UInt8.toNat_inj.1 (by rw [h9]; rfl))
              · rw [h] at c4; simp at c4
            have hn : Lx.bareF (t.data.toList.take (i + 1)) = Lx.bareF (t.data.toList.take i) := by rw [hn]; simp only [Lx.bstep, if_neg c3, if_neg c4]
            refine den_again ⟨t.size - (i + 1), by omega, i + 1, ?_, rfl, by omega, rfl⟩
            simp only [Sy.dens, Sy.den, E.i, E.b, E.t, gd, Env.push, List.cons_append, List.nil_append, List.append_nil, Int.toNat_natCast, hw, hn]
      · simp only [Sy.dens, Sy.den, E.i, E.b, E.t, gd, Env.push, List.cons_append, List.nil_append, List.append_nil, Int.toNat_natCast, ltB_false] at c2
        obtain rfl : i = t.size := by omega
        rw [← hs, List.take_length, hb] at hbl ⊢
        refine den_loop (fun k vs ls _ => ∃ j : Nat, vs = [.string ⟨((ts.take j).map Lx.text).flatten.toArray⟩, .int .i64 (j : Int)] ∧ ls = [] ∧ j ≤ ts.length ∧ k = ts.length - j) ts.length ⟨0, rfl, rfl, Nat.zero_le _, rfl⟩ ?_
        rintro k vs ls W5 x5 ⟨j, rfl, rfl, hj, rfl⟩
        refine ⟨(j : Int), ⟨((ts.take j).map Lx.text).flatten.toArray⟩, rfl, rfl, fun _ => ?_⟩
        simp only [Env.push, List.cons_append, List.nil_append, List.append_nil]
        refine den_br (fun c3 => ?_) fun c3 => ?_
        · simp only [Sy.dens, Sy.den, E.i, E.b, E.t, gd, Env.push, List.cons_append, List.nil_append, List.append_nil, Int.toNat_natCast, ltB_true] at c3
          have hil : j < ts.length := by omega
          have hx : ts[j]? = some ts[j] := List.getElem?_eq_getElem hil
          have T5 := (T3.ext x4).ext x5
          have hsz : (⟨ts[j].t.toArray⟩ : ByteArray).size = ts[j].t.length := by rw [← size_len]
          have hm1 := Lx.mem_le (List.getElem_mem hil)
          have hm2 := Lx.tt_le ts[j]
          have hpre : (⟨((ts.take j).map Lx.text).flatten.toArray⟩ : ByteArray).size ≤ 100 := by
            rw [← size_len]
            have : ((ts.map Lx.text).flatten).length = ((ts.take j).map Lx.text).flatten.length + ((ts.drop j).map Lx.text).flatten.length := by
              conv => lhs; rw [← List.take_append_drop j ts]
              rw [List.map_append, List.flatten_append, List.length_append]
            show ((ts.take j).map Lx.text).flatten.length ≤ 100
            omega
          have hnext : ((ts.take (j + 1)).map Lx.text).flatten = ((ts.take j).map Lx.text).flatten ++ Lx.text ts[j] := by rw [take_succ hx]; simp only [List.map_append, List.flatten_append, List.map_cons, List.map_nil, List.flatten_cons, List.flatten_nil, List.append_nil]
          have hw : IntKind.i64.wrap ((j : Int) + 1) = ((j + 1 : Nat) : Int) := by rw [w64i (by omega) (by omega)]; rfl
          refine den_chk ?_ (den_chk ?_ (den_look ⟨ts[j].k, fun W6 x6 => ?_, ?_⟩))
          · simp only [E.b, gd, Env.push]; exact T5.some_of (by omega)
          · simp only [Sy.dens, Sy.den, E.i, E.b, E.t, gd, Env.push, List.cons_append, List.nil_append, List.append_nil, Int.toNat_natCast]; exact leB_t (by omega)
          · have := sl_look_f (P := Tryd.prog) tokC_len T5 u8_agg (k := 0) hx (by decide) (u := .int .u8 ts[j].k) rfl x6
            simp only [Sy.den, gd, E.i, Env.push, Int.toNat_natCast, List.nil_append, List.cons_append]
            exact this
          simp only [Env.push, List.cons_append, List.nil_append, List.append_nil]
          have hlk : ∀ W6, Ext W5 W6 → _ := fun W6 x6 => sl_look_f (P := Tryd.prog) tokC_len T5 str_agg (k := 1) hx (by decide) (u := .string ⟨ts[j].t.toArray⟩) rfl x6
          refine den_br (fun c4 => ?_) fun c4 => ?_
          · simp only [Sy.dens, Sy.den, E.i, E.b, E.t, gd, Env.push, List.cons_append, List.nil_append, List.append_nil, Int.toNat_natCast, beq_iff_eq] at c4
            have ht3 : Lx.text ts[j] = 39 :: (ts[j].t ++ [39]) := by simp [Lx.text, c4]
            have hcat : (⟨((ts.take j).map Lx.text).flatten.toArray⟩ : ByteArray) ++ ⟨[39].toArray⟩ ++ ⟨ts[j].t.toArray⟩ ++ ⟨[39].toArray⟩ = ⟨((ts.take (j + 1)).map Lx.text).flatten.toArray⟩ := by
              rw [hnext, ht3]; exact ba_ext (by simp)
            refine den_chk ?_ (den_look ⟨⟨ts[j].t.toArray⟩, fun W6 x6 => ?_, den_chk ?_ (den_chk ?_ (den_again ⟨ts.length - (j + 1), by omega, j + 1, ?_, rfl, by omega, rfl⟩))⟩)
            · simp only [Sy.dens, Sy.den, E.i, E.b, E.t, gd, Env.push, List.cons_append, List.nil_append, List.append_nil, Int.toNat_natCast]; refine leB_t ?_; rw [show (⟨[39].toArray⟩ : ByteArray).size = 1 from rfl]; omega
            · have := hlk W6 x6
              simp only [Sy.den, gd, E.i, Env.push, Int.toNat_natCast, List.nil_append, List.cons_append]
              exact this
            · simp only [Sy.dens, Sy.den, E.i, E.b, E.t, gd, Env.push, List.cons_append, List.nil_append, List.append_nil, Int.toNat_natCast, ByteArray.size_append]; refine leB_t ?_; rw [show (⟨[39].toArray⟩ : ByteArray).size = 1 from rfl]; omega
            · simp only [Sy.dens, Sy.den, E.i, E.b, E.t, gd, Env.push, List.cons_append, List.nil_append, List.append_nil, Int.toNat_natCast, ByteArray.size_append]; refine leB_t ?_; rw [show (⟨[39].toArray⟩ : ByteArray).size = 1 from rfl]; omega
            · simp only [Sy.dens, Sy.den, E.i, E.b, E.t, gd, Env.push, List.cons_append, List.nil_append, List.append_nil, Int.toNat_natCast, hw, hcat]
          · simp only [Sy.dens, Sy.den, E.i, E.b, E.t, gd, Env.push, List.cons_append, List.nil_append, List.append_nil, Int.toNat_natCast, beq_eq_false_iff_ne] at c4
            have ht3 : Lx.text ts[j] = ts[j].t := by simp [Lx.text, c4]
            have hcat : (⟨((ts.take j).map Lx.text).flatten.toArray⟩ : ByteArray) ++ ⟨ts[j].t.toArray⟩ = ⟨((ts.take (j + 1)).map Lx.text).flatten.toArray⟩ := by
              rw [hnext, ht3]; exact ba_ext (by simp)
            refine den_look ⟨⟨ts[j].t.toArray⟩, fun W6 x6 => ?_, den_chk ?_ (den_again ⟨ts.length - (j + 1), by omega, j + 1, ?_, rfl, by omega, rfl⟩)⟩
            · have := hlk W6 x6
              simp only [Sy.den, gd, E.i, Env.push, Int.toNat_natCast, List.nil_append, List.cons_append]
              exact this
            · simp only [Sy.dens, Sy.den, E.i, E.b, E.t, gd, Env.push, List.cons_append, List.nil_append, List.append_nil, Int.toNat_natCast]; refine leB_t ?_; omega
            · simp only [Sy.dens, Sy.den, E.i, E.b, E.t, gd, Env.push, List.cons_append, List.nil_append, List.append_nil, Int.toNat_natCast, hw, hcat]
        · simp only [Sy.dens, Sy.den, E.i, E.b, E.t, gd, Env.push, List.cons_append, List.nil_append, List.append_nil, Int.toNat_natCast, ltB_false] at c3
          obtain rfl : j = ts.length := by omega
          rw [List.take_length]
          refine den_ret fun _ _ _ => ⟨_, rfl, ?_⟩
          simp [Sy.den, E.b, E.t, gd]
  · refine den_call_q (fun _ _ => h1) ⟨true, rfl, fun W2 x2 => den_ret fun _ _ _ => ⟨_, rfl, rfl⟩⟩
end Go.Proofs.YthdoemolgobonaaDoor
