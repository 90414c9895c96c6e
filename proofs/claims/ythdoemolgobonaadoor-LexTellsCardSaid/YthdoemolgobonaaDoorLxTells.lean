/- The document's answers for parts. -/
import Derived.Test.YthdoemolgobonaaDoorLxRlex
import Derived.Test.YthdoemolgobonaaDoorLxPieces
namespace Go.Proofs.YthdoemolgobonaaDoor
open Go Go.RowKit Go.SF
set_option linter.unusedSimpArgs false
set_option linter.unusedVariables false

theorem shown_len {ts : List Lx.Tok} {n : Nat} (hn : ts.length ≤ n) (ht : ∀ t ∈ ts, t.t.length ≤ 1000000) : (Lx.shown ts).length ≤ n * 1000003 := by
  have := join_len 1000002 (ts.map Lx.text) fun x hx => by
    obtain ⟨t, htm, rfl⟩ := List.mem_map.1 hx
    exact text_len (ht t htm)
  rw [List.length_map] at this
  exact Nat.le_trans this (Nat.mul_le_mul_right _ hn)
set_option maxRecDepth 100000 in
theorem rshow_q (W : Wd) (a : Option Addr) (c : Nat) (ts : List Lx.Tok) (h : SlW W.w a ts.length c 2 (toksC ts)) (hb : ts.length ≤ 1000000) (ht : ∀ t ∈ ts, t.t.length ≤ 1000000) :
    CallsQ Tryd.prog 20 #[.slice a ts.length c] W (.tuple #[.string ⟨(Lx.show_ ts).1.toArray⟩, .int .i64 (Lx.show_ ts).2]) := by
  refine vc_rshow ts.length c a W.all _ ?_
  have hI := h.all
  refine den_loop (fun k vs ls _ => ∃ i : Nat, vs = [.int .i64 (i : Int), .string ⟨(Lx.shown (ts.take i)).toArray⟩] ∧ ls = [] ∧ i ≤ ts.length ∧ k = ts.length - i ∧ (ts.take i).all (fun t => Lx.may t.k t.t) = true) ts.length ⟨0, rfl, rfl, Nat.zero_le _, rfl, rfl⟩ ?_
  rintro k vs ls W1 x1 ⟨i, rfl, rfl, hi, rfl, hall⟩
  refine ⟨(i : Int), ⟨(Lx.shown (ts.take i)).toArray⟩, rfl, rfl, fun _ => ?_⟩
  simp only [Env.push, List.cons_append, List.nil_append, List.append_nil]
  refine den_br (fun c1 => ?_) fun c1 => ?_
  · simp only [Sy.dens, Sy.den, E.i, E.b, E.t, gd, Env.push, List.cons_append, List.nil_append, List.append_nil, Int.toNat_natCast, ltB_true] at c1
    have hil : i < ts.length := by omega
    have hx : ts[i]? = some ts[i] := List.getElem?_eq_getElem hil
    have htl := ht _ (List.getElem_mem hil)
    have hsz : (⟨ts[i].t.toArray⟩ : ByteArray).size = ts[i].t.length := by rw [← size_len]
    have hlk : ∀ W2, Ext W1 W2 → _ := fun W2 x2 => sl_look_f (P := Tryd.prog) tokC_len (hI.ext (x1.trans x2)) u8_agg (k := 0) hx (by decide) (u := .int .u8 ts[i].k) rfl (Ext.refl W2)
    have hlt : ∀ W2, Ext W1 W2 → _ := fun W2 x2 => sl_look_f (P := Tryd.prog) tokC_len (hI.ext (x1.trans x2)) str_agg (k := 1) hx (by decide) (u := .string ⟨ts[i].t.toArray⟩) rfl (Ext.refl W2)
    refine den_chk ?_ (den_chk ?_ (den_look ⟨ts[i].k, ⟨ts[i].t.toArray⟩, fun W2 x2 => ?_, ?_⟩))
    · simp only [E.b, gd, Env.push]; exact hI.some_of (by omega)
    · simp only [Sy.dens, Sy.den, E.i, E.b, E.t, gd, Env.push, List.cons_append, List.nil_append, List.append_nil, Int.toNat_natCast]; exact leB_t (by omega)
    · have := sl_look (P := Tryd.prog) tokC_len (by decide) (hI.ext x1) tokR_agg tokR_size hx x2
      simp only [Sy.den, gd, E.i, Env.push, Int.toNat_natCast, List.nil_append, List.cons_append]
      exact this
    simp only [Env.push, List.cons_append, List.nil_append, List.append_nil]
    have hm := rmay_q ts[i].k ⟨ts[i].t.toArray⟩ (by omega) W1
    refine den_call_q (fun _ _ => hm) ⟨Lx.may ts[i].k ts[i].t, rfl, fun W4 x4 => den_br (fun c2 => ?_) fun c2 => ?_⟩
    · have c2 : (!Lx.may ts[i].k ts[i].t) = true := c2
      have hno : (ts.all fun t => Lx.may t.k t.t) = false := by
        rw [List.all_eq_false]
        exact ⟨ts[i], List.getElem_mem hil, by simpa using c2⟩
      refine den_ret fun _ _ _ => ⟨_, rfl, ?_⟩
      simp [Lx.show_, hno, Sy.den, Sy.dens, E.t, E.i]
    · have c2 : (!Lx.may ts[i].k ts[i].t) = false := c2
      have c2 : Lx.may ts[i].k ts[i].t = true := by simpa using c2
      have hall' : (ts.take (i + 1)).all (fun t => Lx.may t.k t.t) = true := by rw [take_succ hx, List.all_append, hall]; simp [c2]
      have hw : IntKind.i64.wrap ((i : Int) + 1) = ((i + 1 : Nat) : Int) := by rw [w64i (by omega) (by omega)]; rfl
      have hsn := Lx.shown_snoc (ts.take i) ts[i]
      rw [← take_succ hx] at hsn
      have hss := shown_len (ts := ts.take i) (n := 1000000) (by rw [List.length_take]; omega) (fun t h => ht t (List.mem_of_mem_take h))
      have hsb : (⟨(Lx.shown (ts.take i)).toArray⟩ : ByteArray).size = (Lx.shown (ts.take i)).length := by rw [← size_len]
      have e39 : (⟨[39].toArray⟩ : ByteArray).size = 1 := rfl
      have e32 : (⟨[32].toArray⟩ : ByteArray).size = 1 := rfl
      simp only [Env.push, List.cons_append, List.nil_append, List.append_nil]
      refine den_br (fun c3 => ?_) fun c3 => ?_
      · simp only [Sy.dens, Sy.den, E.i, E.b, E.t, gd, Env.push, List.cons_append, List.nil_append, List.append_nil, Int.toNat_natCast, ltB_true] at c3
        rw [if_neg (by intro e; have := congrArg List.length e; rw [List.length_take, List.length_nil] at this; omega)] at hsn
        refine den_chk ?_ (den_look ⟨ts[i].k, fun W5 x5 => ?_, ?_⟩)
        · simp only [Sy.dens, Sy.den, E.i, E.b, E.t, gd, Env.push, List.cons_append, List.nil_append, List.append_nil, Int.toNat_natCast]; exact leB_t (by omega)
        · have := hlk W5 (x4.trans x5)
          simp only [Sy.den, gd, E.i, Env.push, Int.toNat_natCast, List.nil_append, List.cons_append]
          exact this
        simp only [Env.push, List.cons_append, List.nil_append, List.append_nil]
        refine den_br (fun c4 => ?_) fun c4 => ?_
        · simp only [Sy.dens, Sy.den, E.i, E.b, E.t, gd, Env.push, List.cons_append, List.nil_append, List.append_nil, Int.toNat_natCast, beq_iff_eq] at c4
          have htx : Lx.text ts[i] = 39 :: (ts[i].t ++ [39]) := by simp [Lx.text, c4]
          have hcat : (⟨(Lx.shown (ts.take i)).toArray⟩ : ByteArray) ++ ⟨[32].toArray⟩ ++ ⟨[39].toArray⟩ ++ ⟨ts[i].t.toArray⟩ ++ ⟨[39].toArray⟩ = ⟨(Lx.shown (ts.take (i + 1))).toArray⟩ := by
            rw [hsn, htx]; simp only [cat_list]; simp
          refine den_chk ?_ (den_look ⟨⟨ts[i].t.toArray⟩, fun W5 x5 => ?_, den_chk ?_ (den_chk ?_ (den_again ⟨ts.length - (i + 1), by omega, i + 1, ?_, rfl, by omega, rfl, hall'⟩))⟩)
          · simp only [Sy.dens, Sy.den, E.i, E.b, E.t, gd, Env.push, List.cons_append, List.nil_append, List.append_nil, Int.toNat_natCast, ByteArray.size_append]; exact leB_t (by omega)
          · have := hlt W5 (x4.trans x5)
            simp only [Sy.den, gd, E.i, Env.push, Int.toNat_natCast, List.nil_append, List.cons_append]
            exact this
          · simp only [Sy.dens, Sy.den, E.i, E.b, E.t, gd, Env.push, List.cons_append, List.nil_append, List.append_nil, Int.toNat_natCast, ByteArray.size_append]; exact leB_t (by omega)
          · simp only [Sy.dens, Sy.den, E.i, E.b, E.t, gd, Env.push, List.cons_append, List.nil_append, List.append_nil, Int.toNat_natCast, ByteArray.size_append]; exact leB_t (by omega)
          · simp only [Sy.dens, Sy.den, E.i, E.b, E.t, gd, Env.push, List.cons_append, List.nil_append, List.append_nil, Int.toNat_natCast, hw, hcat]
        · simp only [Sy.dens, Sy.den, E.i, E.b, E.t, gd, Env.push, List.cons_append, List.nil_append, List.append_nil, Int.toNat_natCast, beq_eq_false_iff_ne] at c4
          have htx : Lx.text ts[i] = ts[i].t := by simp [Lx.text, c4]
          have hcat : (⟨(Lx.shown (ts.take i)).toArray⟩ : ByteArray) ++ ⟨[32].toArray⟩ ++ ⟨ts[i].t.toArray⟩ = ⟨(Lx.shown (ts.take (i + 1))).toArray⟩ := by
            rw [hsn, htx]; simp only [cat_list]; simp
          refine den_look ⟨⟨ts[i].t.toArray⟩, fun W5 x5 => ?_, den_chk ?_ (den_again ⟨ts.length - (i + 1), by omega, i + 1, ?_, rfl, by omega, rfl, hall'⟩)⟩
          · have := hlt W5 (x4.trans x5)
            simp only [Sy.den, gd, E.i, Env.push, Int.toNat_natCast, List.nil_append, List.cons_append]
            exact this
          · simp only [Sy.dens, Sy.den, E.i, E.b, E.t, gd, Env.push, List.cons_append, List.nil_append, List.append_nil, Int.toNat_natCast, ByteArray.size_append]; exact leB_t (by omega)
          · simp only [Sy.dens, Sy.den, E.i, E.b, E.t, gd, Env.push, List.cons_append, List.nil_append, List.append_nil, Int.toNat_natCast, hw, hcat]
      · simp only [Sy.dens, Sy.den, E.i, E.b, E.t, gd, Env.push, List.cons_append, List.nil_append, List.append_nil, Int.toNat_natCast, ltB_false] at c3
        obtain rfl : i = 0 := by omega
        rw [if_pos (by simp)] at hsn
        refine den_look ⟨ts[0].k, fun W5 x5 => ?_, ?_⟩
        · have := hlk W5 (x4.trans x5)
          simp only [Sy.den, gd, E.i, Env.push, Int.toNat_natCast, List.nil_append, List.cons_append]
          exact this
        simp only [Env.push, List.cons_append, List.nil_append, List.append_nil]
        refine den_br (fun c4 => ?_) fun c4 => ?_
        · simp only [Sy.dens, Sy.den, E.i, E.b, E.t, gd, Env.push, List.cons_append, List.nil_append, List.append_nil, Int.toNat_natCast, beq_iff_eq] at c4
          have htx : Lx.text ts[0] = ((39 : UInt8) :: (ts[0].t ++ [(39 : UInt8)]) : List UInt8) := by simp [Lx.text, c4]
          have hcat : (⟨(Lx.shown (ts.take 0)).toArray⟩ : ByteArray) ++ ⟨[39].toArray⟩ ++ ⟨ts[0].t.toArray⟩ ++ ⟨[39].toArray⟩ = ⟨(Lx.shown (ts.take (0 + 1))).toArray⟩ := by
            rw [hsn, htx]; simp only [cat_list]; simp [Lx.shown, Lib.join]
          refine den_chk ?_ (den_look ⟨⟨ts[0].t.toArray⟩, fun W5 x5 => ?_, den_chk ?_ (den_chk ?_ (den_again ⟨ts.length - (0 + 1), by omega, 0 + 1, ?_, rfl, by omega, rfl, hall'⟩))⟩)
          · simp only [Sy.dens, Sy.den, E.i, E.b, E.t, gd, Env.push, List.cons_append, List.nil_append, List.append_nil, Int.toNat_natCast, ByteArray.size_append]; exact leB_t (by omega)
          · have := hlt W5 (x4.trans x5)
            simp only [Sy.den, gd, E.i, Env.push, Int.toNat_natCast, List.nil_append, List.cons_append]
            exact this
          · simp only [Sy.dens, Sy.den, E.i, E.b, E.t, gd, Env.push, List.cons_append, List.nil_append, List.append_nil, Int.toNat_natCast, ByteArray.size_append]; exact leB_t (by omega)
          · simp only [Sy.dens, Sy.den, E.i, E.b, E.t, gd, Env.push, List.cons_append, List.nil_append, List.append_nil, Int.toNat_natCast, ByteArray.size_append]; exact leB_t (by omega)
          · simp only [Sy.dens, Sy.den, E.i, E.b, E.t, gd, Env.push, List.cons_append, List.nil_append, List.append_nil, Int.toNat_natCast, hw, hcat]
        · simp only [Sy.dens, Sy.den, E.i, E.b, E.t, gd, Env.push, List.cons_append, List.nil_append, List.append_nil, Int.toNat_natCast, beq_eq_false_iff_ne] at c4
          have htx : Lx.text ts[0] = ts[0].t := by simp [Lx.text, c4]
          have hcat : (⟨(Lx.shown (ts.take 0)).toArray⟩ : ByteArray) ++ ⟨ts[0].t.toArray⟩ = ⟨(Lx.shown (ts.take (0 + 1))).toArray⟩ := by
            rw [hsn, htx]; simp only [cat_list]; simp [Lx.shown, Lib.join]
          refine den_look ⟨⟨ts[0].t.toArray⟩, fun W5 x5 => ?_, den_chk ?_ (den_again ⟨ts.length - (0 + 1), by omega, 0 + 1, ?_, rfl, by omega, rfl, hall'⟩)⟩
          · have := hlt W5 (x4.trans x5)
            simp only [Sy.den, gd, E.i, Env.push, Int.toNat_natCast, List.nil_append, List.cons_append]
            exact this
          · simp only [Sy.dens, Sy.den, E.i, E.b, E.t, gd, Env.push, List.cons_append, List.nil_append, List.append_nil, Int.toNat_natCast, ByteArray.size_append]; exact leB_t (by omega)
          · simp only [Sy.dens, Sy.den, E.i, E.b, E.t, gd, Env.push, List.cons_append, List.nil_append, List.append_nil, Int.toNat_natCast, hw, hcat]
  · simp only [Sy.dens, Sy.den, E.i, E.b, E.t, gd, Env.push, List.cons_append, List.nil_append, List.append_nil, Int.toNat_natCast, ltB_false] at c1
    obtain rfl : i = ts.length := by omega
    rw [List.take_length] at hall ⊢
    have hsz : ((⟨(Lx.shown ts).toArray⟩ : ByteArray).size : Int) = ((Lx.shown ts).length : Int) := by rw [← size_len]
    refine den_br (fun c2 => den_ret fun _ _ _ => ⟨_, rfl, ?_⟩) fun c2 => den_ret fun _ _ _ => ⟨_, rfl, ?_⟩
    · simp only [Sy.dens, Sy.den, E.i, E.b, E.t, gd, Env.push, List.cons_append, List.nil_append, List.append_nil, Int.toNat_natCast, ltB_true, hsz] at c2
      have e : Lx.show_ ts = ([], 40) := by unfold Lx.show_; rw [hall]; simp; omega
      rw [e]; rfl
    · simp only [Sy.dens, Sy.den, E.i, E.b, E.t, gd, Env.push, List.cons_append, List.nil_append, List.append_nil, Int.toNat_natCast, ltB_false, hsz] at c2
      have e : Lx.show_ ts = (Lx.shown ts, 0) := by unfold Lx.show_; rw [hall]; simp; omega
      rw [e]; rfl
theorem owns_some {w : World} {n0 : Nat} {e : TypeId} {sz : Nat} {a : Option Addr} {n c k : Nat} {xs : List Value} (h : w.ownsRow n0 e sz (.slice a n c) k xs) (hk : 0 < k) : a.isSome = true := by
  rcases h.2 with ⟨_, h2⟩ | ⟨g, cap, cur, h1, _⟩
  · omega
  · injection h1 with e1; rw [e1]; rfl
set_option maxRecDepth 100000 in
set_option maxHeartbeats 1000000 in
theorem lexTells_q (s : ByteArray) (a : Option Addr) (c : Nat) (ts : List Lx.Tok) (W : Wd) (hG : Glob W) (h : SlW W.w a ts.length c 2 (toksC ts)) :
    CallsQ Tryd.prog 6 #[.string s, .slice a ts.length c] W (.bool true) := by
  refine vc_lexTells ts.length c s a W.all _ ?_
  have hI := h.all
  have hG := hG.ext W.all_ext
  have hss := size_len s
  refine den_br (fun c1 => ?_) fun c1 => ?_
  rotate_left
  · exact den_call_q (fun _ _ => awake_q W.all hG) ⟨true, rfl, fun W2 x2 => den_ret fun _ _ _ => ⟨_, rfl, rfl⟩⟩
  simp only [Sy.dens, Sy.den, E.i, E.b, E.t, gd, Env.push, List.cons_append, List.nil_append, List.append_nil, Int.toNat_natCast, Bool.not_eq_true', ltB_false] at c1
  refine den_call_q (fun _ _ => large_q W.all a c ts hI.w) ⟨largeL ts, rfl, fun W1 x1 => ?_⟩
  simp only [Env.push, List.cons_append, List.nil_append, List.append_nil]
  have hG1 := hG.ext x1
  have hI1 := hI.ext x1
  refine den_br (fun c2 => ?_) fun c2 => ?_
  · exact den_call_q (fun _ _ => awake_q W1 hG1) ⟨true, rfl, fun W2 x2 => den_ret fun _ _ _ => ⟨_, rfl, rfl⟩⟩
  have c2 : largeL ts = false := c2
  obtain ⟨hlen, htl⟩ := large_no c2
  refine den_loop (fun k vs ls _ => ∃ i : Nat, vs = [.int .i64 (i : Int)] ∧ ls = [] ∧ i ≤ ts.length ∧ k = ts.length - i) ts.length ⟨0, rfl, rfl, Nat.zero_le _, rfl⟩ ?_
  rintro k vs ls W2 x2 ⟨i, rfl, rfl, hi, rfl⟩
  refine ⟨(i : Int), rfl, rfl, fun _ => ?_⟩
  simp only [Env.push, List.cons_append, List.nil_append, List.append_nil]
  have hG2 := hG1.ext x2
  have hI2 := hI1.ext x2
  refine den_br (fun c3 => ?_) fun c3 => ?_
  · simp only [Sy.dens, Sy.den, E.i, E.b, E.t, gd, Env.push, List.cons_append, List.nil_append, List.append_nil, Int.toNat_natCast, ltB_true] at c3
    have hil : i < ts.length := by omega
    have hx : ts[i]? = some ts[i] := List.getElem?_eq_getElem hil
    have hti := htl _ (List.getElem_mem hil)
    have hsz : (⟨ts[i].t.toArray⟩ : ByteArray).size = ts[i].t.length := by rw [← size_len]
    refine den_chk ?_ (den_chk ?_ (den_look ⟨ts[i].k, ⟨ts[i].t.toArray⟩, fun W3 x3 => ?_, ?_⟩))
    · simp only [E.b, gd, Env.push]; exact hI2.some_of (by omega)
    · simp only [Sy.dens, Sy.den, E.i, E.b, E.t, gd, Env.push, List.cons_append, List.nil_append, List.append_nil, Int.toNat_natCast]; exact leB_t (by omega)
    · have := sl_look (P := Tryd.prog) tokC_len (by decide) hI2 tokR_agg tokR_size hx x3
      simp only [Sy.den, gd, E.i, Env.push, Int.toNat_natCast, List.nil_append, List.cons_append]
      exact this
    simp only [Env.push, List.cons_append, List.nil_append, List.append_nil]
    refine den_callq ⟨Lx.may ts[i].k ts[i].t, fun W3 x3 _ _ => may_q ts[i].k ⟨ts[i].t.toArray⟩ (by omega) W3 (hG2.ext x3), ?_⟩
    simp only [Env.push, List.cons_append, List.nil_append, List.append_nil]
    refine den_look ⟨ts[i].k, ⟨ts[i].t.toArray⟩, fun W3 x3 => ?_, ?_⟩
    · have := sl_look (P := Tryd.prog) tokC_len (by decide) hI2 tokR_agg tokR_size hx x3
      simp only [Sy.den, gd, E.i, Env.push, Int.toNat_natCast, List.nil_append, List.cons_append]
      exact this
    simp only [Env.push, List.cons_append, List.nil_append, List.append_nil]
    refine den_callq ⟨Lx.may ts[i].k ts[i].t, fun W3 x3 _ _ => rmay_q ts[i].k ⟨ts[i].t.toArray⟩ (by omega) W3, ?_⟩
    simp only [Env.push, List.cons_append, List.nil_append, List.append_nil]
    refine den_grow fun W3 x3 => den_br_f ?_ (den_again ⟨ts.length - (i + 1), by omega, i + 1, ?_, rfl, by omega, rfl⟩)
    · simp only [Sy.dens, Sy.den, E.i, E.b, E.t, gd, Env.push, List.cons_append, List.nil_append, List.append_nil, Int.toNat_natCast, beq_self_eq_true]; rfl
    · simp only [Sy.dens, Sy.den, E.i, E.b, E.t, gd, Env.push, List.cons_append, List.nil_append, List.append_nil, Int.toNat_natCast]; rw [w64i (by omega) (by omega)]; rfl
  refine den_loop (fun k vs ls _ => ∃ i : Nat, vs = [.int .i64 (i : Int)] ∧ ls = [] ∧ i ≤ 2 ∧ k = 2 - i) 2 ⟨0, rfl, rfl, by omega, rfl⟩ ?_
  rintro k vs ls W3 x3 ⟨j, rfl, rfl, hj, rfl⟩
  refine ⟨(j : Int), rfl, rfl, fun _ => ?_⟩
  simp only [Env.push, List.cons_append, List.nil_append, List.append_nil]
  have hG3 := hG2.ext x3
  have hI3 := hI2.ext x3
  have z1 := x1.size
  have z2 := x2.size
  have z3 := x3.size
  refine den_br (fun c4 => ?_) fun c4 => ?_
  · simp only [Sy.dens, Sy.den, E.i, E.b, E.t, gd, Env.push, List.cons_append, List.nil_append, List.append_nil, Int.toNat_natCast, ltB_true] at c4
    have hLx : (Lx.lex s.data.toList).1.length ≤ 100 := by
      generalize hl : Lx.lex s.data.toList = r
      obtain ⟨us, e⟩ := r
      rcases Lx.lex_ok hl with ⟨_, h2⟩ | ⟨_, h2, h3, h4, h5⟩
      · simp only [h2]; simp
      · have := Lx.count_le h5; simp only; omega
    have hL1 := toksC_one (Lx.lex s.data.toList).1
    refine den_callr_i (fun _ _ => lex_r s W3 hG3) fun v w4 _ ⟨a4, c4, hv4, ho4⟩ => ⟨(Lx.lex s.data.toList).2, (Lx.lex s.data.toList).1.length, c4, a4, toksC (Lx.lex s.data.toList).1, hv4, rowsNew_one (by omega) ?_ ?_, fun W4 e4 x4 n4 => ?_⟩
    · simp only [conts, List.flatMap_cons, List.flatMap_nil, Seg.den, Sy.dens, Sy.den, E.i, E.b, E.t, gd, Env.push, List.cons_append, List.nil_append, List.append_nil, Int.toNat_natCast]; exact ho4
    · simp only [conts, List.flatMap_cons, List.flatMap_nil, Seg.den, Sy.dens, Sy.den, E.i, E.b, E.t, gd, Env.push, List.cons_append, List.nil_append, List.append_nil, Int.toNat_natCast]; exact hL1
    simp only [Env.push, List.cons_append, List.nil_append, List.append_nil]
    refine den_call_i (fun _ _ => rlex_i s W4) fun v w5 _ ⟨a5, c5, hv5, ht5⟩ => ⟨(Lx.lex s.data.toList).2, (Lx.lex s.data.toList).1.length, c5, a5, hv5, fun W5 e5 x5 n5 => ?_⟩
    have T5 := ht5.stay e5 n5
    simp only [Env.push, List.cons_append, List.nil_append, List.append_nil]
    refine den_call_i (fun _ hr => told_i W5 a4 c4 (Lx.lex s.data.toList).1 ?_ (by omega)) fun v w6 _ ⟨a6, c6, hv6, ht6⟩ => ⟨(Lx.lex s.data.toList).1.length, c6, a6, hv6, fun W6 e6 x6 n6 => ?_⟩
    · have := (hr _ (List.mem_singleton.2 rfl)).1
      simp only [conts, List.flatMap_cons, List.flatMap_nil, Seg.den, Sy.dens, Sy.den, E.i, E.b, E.t, gd, Env.push, List.cons_append, List.nil_append, List.append_nil, Int.toNat_natCast] at this
      exact (owns_sl this).w
    have T6 := ht6.stay e6 n6
    have T5 := T5.ext x6
    simp only [Env.push, List.cons_append, List.nil_append, List.append_nil]
    have hsm := same_q W6 a6 a5 c6 c5 _ _ T6.w T5.w (by omega)
    rw [decide_eq_true rfl] at hsm
    refine den_call_q (fun _ _ => hsm) ⟨true, rfl, fun W7 x7 => den_br_f ?_ ?_⟩
    · simp only [Sy.dens, Sy.den, E.i, E.b, E.t, gd, Env.push, List.cons_append, List.nil_append, List.append_nil, Int.toNat_natCast, beq_self_eq_true]; rfl
    simp only [Env.push, List.cons_append, List.nil_append, List.append_nil]
    refine den_loop (fun k vs ls _ => ∃ (m : Nat) (a' : Option Addr) (c' : Nat) (l : List Value), vs = [.int .i64 (m : Int), .slice a' (Lx.lex s.data.toList).1.length c'] ∧ ls = [l] ∧ m ≤ (Lx.lex s.data.toList).1.length ∧ k = (Lx.lex s.data.toList).1.length - m) (Lx.lex s.data.toList).1.length ⟨0, a4, c4, _, rfl, rfl, by omega, rfl⟩ ?_
    rintro k vs ls W8 x8 ⟨m, a', c', l, rfl, rfl, hm, rfl⟩
    refine ⟨(m : Int), (Lx.lex s.data.toList).1.length, c', a', l, rfl, (by simp [rowConts, conts, Seg.den, gd, Env.push]), fun hrow => ?_⟩
    simp only [Env.push, List.cons_append, List.nil_append, List.append_nil]
    refine den_br (fun c9 => ?_) fun c9 => ?_
    · simp only [Sy.dens, Sy.den, E.i, E.b, E.t, gd, Env.push, List.cons_append, List.nil_append, List.append_nil, Int.toNat_natCast, ltB_true] at c9
      refine den_chk ?_ (den_chk ?_ (den_rset fun W9 x9 => den_again ⟨(Lx.lex s.data.toList).1.length - (m + 1), by omega, m + 1, a', c', _, ?_, rfl, by omega, rfl⟩))
      · have := (hrow _ (List.mem_singleton.2 rfl)).1
        simp only [conts, List.flatMap_cons, List.flatMap_nil, Seg.den, Sy.dens, Sy.den, E.i, E.b, E.t, gd, Env.push, List.cons_append, List.nil_append, List.append_nil, Int.toNat_natCast] at this
        simp only [Sy.dens, Sy.den, E.i, E.b, E.t, gd, Env.push, List.cons_append, List.nil_append, List.append_nil, Int.toNat_natCast]
        exact owns_some this (by omega)
      · simp only [Sy.dens, Sy.den, E.i, E.b, E.t, gd, Env.push, List.cons_append, List.nil_append, List.append_nil, Int.toNat_natCast]; exact leB_t (by omega)
      · simp only [Sy.dens, Sy.den, E.i, E.b, E.t, gd, Env.push, List.cons_append, List.nil_append, List.append_nil, Int.toNat_natCast]; rw [w64i (by omega) (by omega)]; rfl
    · refine den_again ⟨2 - (j + 1), by omega, j + 1, ?_, rfl, by omega, rfl⟩
      simp only [Sy.dens, Sy.den, E.i, E.b, E.t, gd, Env.push, List.cons_append, List.nil_append, List.append_nil, Int.toNat_natCast]; rw [w64i (by omega) (by omega)]; rfl
  have hb : ts.length ≤ 1000000 := by omega
  have hbt : ∀ t ∈ ts, t.t.length ≤ 1000000 := fun t h => by have := htl t h; omega
  refine den_call_i (fun _ _ => given_i W3 a c ts hI3.w hb) fun v w4 _ ⟨a4, c4, hv4, ht4⟩ => ⟨ts.length, c4, a4, hv4, fun W4 e4 x4 n4 => ?_⟩
  have T4 := ht4.stay e4 n4
  have hG4 := hG3.ext x4
  have hI4 := hI3.ext x4
  simp only [Env.push, List.cons_append, List.nil_append, List.append_nil]
  refine den_call_q (fun _ _ => show_q W4 hG4 a4 c4 ts T4.w hb hbt) ⟨(Lx.show_ ts).2, ⟨(Lx.show_ ts).1.toArray⟩, rfl, fun W5 x5 => ?_⟩
  have T5 := T4.ext x5
  have hG5 := hG4.ext x5
  have hI5 := hI4.ext x5
  simp only [Env.push, List.cons_append, List.nil_append, List.append_nil]
  refine den_call_q (fun _ _ => rshow_q W5 a c ts hI5.w hb hbt) ⟨(Lx.show_ ts).2, ⟨(Lx.show_ ts).1.toArray⟩, rfl, fun W6 x6 => den_br_t ?_ ?_⟩
  · simp only [Sy.dens, Sy.den, E.i, E.b, E.t, gd, Env.push, List.cons_append, List.nil_append, List.append_nil, Int.toNat_natCast, beq_self_eq_true]; rfl
  have T6 := T5.ext x6
  have hG6 := hG5.ext x6
  have hI6 := hI5.ext x6
  simp only [Env.push, List.cons_append, List.nil_append, List.append_nil]
  refine den_call_i (fun _ _ => told_i W6 a4 c4 ts T6.w hb) fun v w7 _ ⟨a7, c7, hv7, ht7⟩ => ⟨ts.length, c7, a7, hv7, fun W7 e7 x7 n7 => ?_⟩
  have T7 := ht7.stay e7 n7
  have hG7 := hG6.ext x7
  have hI7 := hI6.ext x7
  simp only [Env.push, List.cons_append, List.nil_append, List.append_nil]
  have hsm := same_q W7 a7 a c7 c ts ts T7.w hI7.w hb
  rw [decide_eq_true rfl] at hsm
  refine den_call_q (fun _ _ => hsm) ⟨true, rfl, fun W8 x8 => den_br_t rfl ?_⟩
  simp only [Env.push, List.cons_append, List.nil_append, List.append_nil]
  exact den_call_q (fun _ _ => awake_q W8 (hG7.ext x8)) ⟨true, rfl, fun W9 x9 => den_ret fun _ _ _ => ⟨_, rfl, rfl⟩⟩
end Go.Proofs.YthdoemolgobonaaDoor
