/- What is shown is read again. -/
import Derived.Test.YthdoemolgobonaaDoorLxShow
import Derived.Test.YthdoemolgobonaaDoorLxBackP
namespace Go.Proofs.YthdoemolgobonaaDoor
open Go Go.RowKit Go.SF
set_option linter.unusedSimpArgs false
set_option linter.unusedVariables false

set_option maxRecDepth 100000 in
theorem lexBack_q (W : Wd) (hG : Glob W) (a : Option Addr) (c : Nat) (ts : List Lx.Tok) (h : SlW W.w a ts.length c 2 (toksC ts)) :
    CallsQ Tryd.prog 8 #[.slice a ts.length c] W (.bool true) := by
  refine vc_lexBack ts.length c a W.all _ ?_
  have hI := h.all
  have hG := hG.ext W.all_ext
  have h0 := large_q W.all a c ts hI.w
  refine den_call_q (fun _ _ => h0) ⟨largeL ts, rfl, fun W1 x1 => ?_⟩
  simp only [Env.push, List.cons_append, List.nil_append, List.append_nil]
  have hG1 := hG.ext x1
  have h1 := awake_q W1 hG1
  refine den_br (fun c1 => ?_) fun c1 => ?_
  · have c1 : (!largeL ts) = true := c1
    obtain ⟨hb, ht⟩ := large_no (by simpa using c1 : largeL ts = false)
    refine den_call_q (fun _ _ => h1) ⟨true, rfl, fun W2 x2 => den_br_f rfl ?_⟩
    simp only [Env.push, List.cons_append, List.nil_append, List.append_nil]
    have hI2 := (hI.ext x1).ext x2
    have hG2 := hG1.ext x2
    have h2 := given_i W2 a c ts hI2.w (by omega)
    refine den_call_i (fun _ _ => h2) fun v w3 _ ⟨a3, c3, hv3, ht3⟩ => ⟨ts.length, c3, a3, hv3, fun W3 e3 x3 n3 => ?_⟩
    have T3 := ht3.stay e3 n3
    have hI3 := hI2.ext x3
    have hG3 := hG2.ext x3
    simp only [Env.push, List.cons_append, List.nil_append, List.append_nil]
    have h3 := show_q W3 hG3 a3 c3 ts T3.w (by omega) fun t hm => by have := ht t hm; omega
    refine den_call_q (fun _ _ => h3) ⟨(Lx.show_ ts).2, ⟨(Lx.show_ ts).1.toArray⟩, rfl, fun W4 x4 => ?_⟩
    have T4 := T3.ext x4
    have hI4 := hI3.ext x4
    have hG4 := hG3.ext x4
    simp only [Env.push, List.cons_append, List.nil_append, List.append_nil]
    refine den_loop (fun k vs ls _ => ∃ i : Nat, vs = [.int .i64 (i : Int), .bool ((ts.take i).all fun t => Lx.may t.k t.t)] ∧ ls = [] ∧ i ≤ ts.length ∧ k = ts.length - i) ts.length ⟨0, rfl, rfl, Nat.zero_le _, rfl⟩ ?_
    rintro k vs ls W5 x5 ⟨i, rfl, rfl, hi, rfl⟩
    refine ⟨(i : Int), _, rfl, rfl, fun _ => ?_⟩
    simp only [Env.push, List.cons_append, List.nil_append, List.append_nil]
    refine den_br (fun c2 => ?_) fun c2 => ?_
    · simp only [Sy.dens, Sy.den, E.i, E.b, E.t, gd, Env.push, List.cons_append, List.nil_append, List.append_nil, Int.toNat_natCast, ltB_true] at c2
      have hil : i < ts.length := by omega
      have hx : ts[i]? = some ts[i] := List.getElem?_eq_getElem hil
      have hsz : (⟨ts[i].t.toArray⟩ : ByteArray).size = ts[i].t.length := by rw [← size_len]
      have htl := ht _ (List.getElem_mem hil)
      have hsm := (T4.ext x5).some_of (by omega)
      have hle : leB (0 : Int) (i : Int) = true := leB_t (by omega)
      refine den_chk ?_ (den_chk ?_ (den_br (fun c3 => ?_) fun c3 => ?_))
      · simp only [Sy.dens, Sy.den, E.i, E.b, E.t, gd, Env.push, List.cons_append, List.nil_append, List.append_nil, Int.toNat_natCast, gd, hsm, Bool.or_true]
      · simp only [Sy.dens, Sy.den, E.i, E.b, E.t, gd, Env.push, List.cons_append, List.nil_append, List.append_nil, Int.toNat_natCast, hle, Bool.or_true]
      · have c3 : ((ts.take i).all fun t => Lx.may t.k t.t) = true := c3
        refine den_look ⟨ts[i].k, ⟨ts[i].t.toArray⟩, fun W6 x6 => ?_, ?_⟩
        · have := sl_look (P := Tryd.prog) tokC_len (by decide) (T4.ext x5) tokL_agg tokL_size hx x6
          simp only [Sy.den, gd, E.i, Env.push, Int.toNat_natCast, List.nil_append, List.cons_append]
          exact this
        simp only [Env.push, List.cons_append, List.nil_append, List.append_nil]
        have hm := may_q ts[i].k ⟨ts[i].t.toArray⟩ (by omega) W5 (hG4.ext x5)
        refine den_call_q (fun _ _ => hm) ⟨Lx.may ts[i].k ts[i].t, rfl, fun W6 x6 => den_again ⟨ts.length - (i + 1), by omega, i + 1, ?_, rfl, by omega, rfl⟩⟩
        simp only [Sy.dens, Sy.den, E.i, E.b, E.t, gd, Env.push, List.cons_append, List.nil_append, List.append_nil, Int.toNat_natCast]
        rw [w64i (by omega) (by omega), take_succ hx, List.all_append, c3]
        simp
      · have c3 : ((ts.take i).all fun t => Lx.may t.k t.t) = false := c3
        refine den_again ⟨ts.length - (i + 1), by omega, i + 1, ?_, rfl, by omega, rfl⟩
        simp only [Sy.dens, Sy.den, E.i, E.b, E.t, gd, Env.push, List.cons_append, List.nil_append, List.append_nil, Int.toNat_natCast]
        rw [w64i (by omega) (by omega), take_succ hx, List.all_append, c3]
        simp
    · simp only [Sy.dens, Sy.den, E.i, E.b, E.t, gd, Env.push, List.cons_append, List.nil_append, List.append_nil, Int.toNat_natCast, ltB_false] at c2
      obtain rfl : i = ts.length := by omega
      rw [List.take_length]
      have hcase : (Lx.show_ ts = ([], 4) ∧ (ts.all fun t => Lx.may t.k t.t) = false) ∨ (Lx.show_ ts = ([], 40) ∧ (ts.all fun t => Lx.may t.k t.t) = true) ∨ (Lx.show_ ts = (Lx.shown ts, 0) ∧ (ts.all fun t => Lx.may t.k t.t) = true ∧ Lx.lex (Lx.shown ts) = (ts, 0)) := by
        unfold Lx.show_
        cases hall : (ts.all fun t => Lx.may t.k t.t) with
        | false => exact .inl ⟨by simp, rfl⟩
        | true =>
          by_cases hl : 100 < (Lx.shown ts).length
          · exact .inr (.inl ⟨by simp [hl], rfl⟩)
          · exact .inr (.inr ⟨by simp [hl], rfl, Lx.lex_shown hall (by omega)⟩)
      rcases hcase with ⟨e, hall⟩ | ⟨e, hall⟩ | ⟨e, hall, hlex⟩
      · refine den_br_t (by rw [e]; rfl) (den_ret fun _ _ _ => ⟨_, rfl, ?_⟩)
        rw [hall, e]; rfl
      · refine den_br_t (by rw [e]; rfl) (den_ret fun _ _ _ => ⟨_, rfl, ?_⟩)
        rw [hall, e]; rfl
      · refine den_br_f (by rw [e]; rfl) ?_
        rw [hall, e]
        have h6 := lexC (Lx.shown ts) ts 0 hlex W5 (hG4.ext x5)
        refine den_call_i (fun _ _ => h6) fun v w7 _ ⟨a7, c7, hv7, ht7⟩ => ⟨0, ts.length, c7, a7, hv7, fun W7 e7 x7 n7 => ?_⟩
        have T7 := ht7.stay e7 n7
        simp only [Env.push, List.cons_append, List.nil_append, List.append_nil]
        refine den_br_t rfl ?_
        have h7 := told_i W7 a7 c7 ts T7.w (by omega)
        refine den_call_i (fun _ _ => h7) fun v w8 _ ⟨a8, c8, hv8, ht8⟩ => ⟨ts.length, c8, a8, hv8, fun W8 e8 x8 n8 => ?_⟩
        have T8 := ht8.stay e8 n8
        simp only [Env.push, List.cons_append, List.nil_append, List.append_nil]
        have h8 := same_q W8 a8 a c8 c ts ts T8.w (((hI4.ext x5).ext x7).ext x8).w (by omega)
        refine den_call_q (fun _ _ => h8) ⟨_, rfl, fun W9 x9 => den_ret fun _ _ _ => ⟨_, rfl, ?_⟩⟩
        show Value.bool (decide (ts = ts)) = Value.bool true
        rw [decide_eq_true rfl]
  · refine den_call_q (fun _ _ => h1) ⟨true, rfl, fun W2 x2 => den_ret fun _ _ _ => ⟨_, rfl, rfl⟩⟩
end Go.Proofs.YthdoemolgobonaaDoor
