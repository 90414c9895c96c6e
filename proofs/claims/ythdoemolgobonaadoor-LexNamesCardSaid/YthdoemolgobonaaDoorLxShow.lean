/- How parts stand there. -/
import Derived.Test.YthdoemolgobonaaDoorLxAwake
namespace Go.Proofs.YthdoemolgobonaaDoor
open Go Go.RowKit Go.SF
set_option linter.unusedSimpArgs false
set_option linter.unusedVariables false

def strC (l : Lx.Bs) : List Value := [.string ⟨l.toArray⟩]
theorem strC_len (l : Lx.Bs) : (strC l).length = 1 := rfl
theorem join_len (B : Nat) : ∀ l : List Lx.Bs, (∀ x ∈ l, x.length ≤ B) → (Lib.join l [32]).length ≤ l.length * (B + 1)
  | [], _ => by simp [Lib.join_nil]
  | x :: r, h => by
    rw [Lib.join_cons, List.length_append]
    have h1 := h x (List.mem_cons_self ..)
    have h2 : (Lib.joinTail [32] r).length ≤ r.length * (B + 1) := by
      have h3 : ∀ y ∈ r, y.length ≤ B := fun y hy => h y (List.mem_cons_of_mem _ hy)
      clear h h1
      induction r with
      | nil => simp [Lib.joinTail]
      | cons y r ih =>
        have i1 := ih (fun z hz => h3 z (List.mem_cons_of_mem _ hz))
        have i2 := h3 y (List.mem_cons_self ..)
        simp only [Lib.joinTail, List.map_cons, List.flatten_cons, List.length_append, List.length_cons, List.length_nil] at i1 ⊢
        rw [Nat.add_mul, Nat.one_mul]
        omega
    simp only [List.length_cons]
    rw [Nat.add_mul, Nat.one_mul]
    omega
theorem join_q (W : Wd) (a : Option Addr) (c : Nat) (l : List Lx.Bs) (h : SlW W.w a l.length c 1 (l.flatMap strC)) (hl : l.length ≤ 1000000) (hx : ∀ x ∈ l, x.length ≤ 1000002) :
    CallsQ Tryd.prog 33 #[.slice a l.length c, .string ⟨#[32]⟩] W (.string ⟨(Lib.join l [32]).toArray⟩) := by
  obtain ⟨h1, h2, h3⟩ := h
  rcases h3 with ⟨rfl, h4, rfl⟩ | ⟨b, o, rfl, _, hb, hc⟩
  · have hl0 : l = [] := List.eq_nil_of_length_eq_zero h4
    subst hl0
    exact .of_below (Calls.mono (Tryd.strings_Join_none none 0 ⟨#[32]⟩ W.w) fun e w' ⟨he, hw⟩ => ⟨he, hw ▸ Below.refl _ _⟩)
  · have e1 : (l.map fun x => (⟨x.toArray⟩ : ByteArray)).map (·.data.toList) = l := by simp [Function.comp_def]
    have hj := join_len 1000002 l hx
    have := Tryd.strings_Join b o c (l.map fun x => (⟨x.toArray⟩ : ByteArray)) ⟨#[32]⟩ W.w (fun j x hj => by
      rw [List.getElem?_map] at hj
      obtain ⟨y, hy, rfl⟩ := Option.map_eq_some_iff.1 hj
      refine hc j _ ?_
      have := flat_get strC_len (j := 0) hy (by decide)
      rw [Nat.mul_one, Nat.add_zero] at this
      rw [this]; rfl) hb (by simp; omega) (by simpa using h2) (by
        rw [e1]
        have : l.length * 1000003 ≤ 1000000 * 1000003 := Nat.mul_le_mul_right _ hl
        show (Lib.join l [32]).length ≤ _
        omega)
    rw [e1, List.length_map] at this
    exact .of_below this
theorem text_len {t : Lx.Tok} (h : t.t.length ≤ 1000000) : (Lx.text t).length ≤ 1000002 := by
  unfold Lx.text
  split
  · simp; omega
  · omega
theorem show_q (W : Wd) (hG : Glob W) (a : Option Addr) (c : Nat) (ts : List Lx.Tok) (h : SlW W.w a ts.length c 2 (toksC ts)) (hb : ts.length ≤ 1000000) (ht : ∀ t ∈ ts, t.t.length ≤ 1000000) :
    CallsQ Tryd.prog 19 #[.slice a ts.length c] W (.tuple #[.string ⟨(Lx.show_ ts).1.toArray⟩, .int .i64 (Lx.show_ ts).2]) := by
  refine vc_show ts.length c a W.all _ ?_
  have hI := h.all
  have hG := hG.ext W.all_ext
  refine den_loop (fun k vs ls _ => ∃ (i : Nat) (a' : Option Addr) (c' : Nat), vs = [.int .i64 (i : Int), .slice a' i c'] ∧ ls = [((ts.take i).map Lx.text).flatMap strC] ∧ i ≤ ts.length ∧ k = ts.length - i ∧ (ts.take i).all (fun t => Lx.may t.k t.t) = true) ts.length ⟨0, none, 0, rfl, rfl, Nat.zero_le _, rfl, rfl⟩ ?_
  rintro k vs ls W1 x1 ⟨i, a', c', rfl, rfl, hi, rfl, hall⟩
  refine ⟨(i : Int), i, c', a', ((ts.take i).map Lx.text).flatMap strC, rfl, (by simp [rowConts, conts, Seg.den, gd, Env.push]), fun hrow => ?_⟩
  simp only [Env.push, List.cons_append, List.nil_append, List.append_nil]
  refine den_br (fun c1 => ?_) fun c1 => ?_
  · simp only [Sy.dens, Sy.den, E.i, E.b, E.t, gd, Env.push, List.cons_append, List.nil_append, List.append_nil, Int.toNat_natCast, ltB_true] at c1
    have hil : i < ts.length := by omega
    have hx : ts[i]? = some ts[i] := List.getElem?_eq_getElem hil
    have htl := ht _ (List.getElem_mem hil)
    have hsz : (⟨ts[i].t.toArray⟩ : ByteArray).size = ts[i].t.length := by rw [← size_len]
    refine den_chk ?_ (den_chk ?_ (den_look ⟨ts[i].k, ⟨ts[i].t.toArray⟩, fun W2 x2 => ?_, ?_⟩))
    · simp only [E.b, gd, Env.push]; exact hI.some_of (by omega)
    · simp only [Sy.dens, Sy.den, E.i, E.b, E.t, gd, Env.push, List.cons_append, List.nil_append, List.append_nil, Int.toNat_natCast]; exact leB_t (by omega)
    · have := sl_look (P := Tryd.prog) tokC_len (by decide) (hI.ext x1) tokL_agg tokL_size hx x2
      simp only [Sy.den, gd, E.i, Env.push, Int.toNat_natCast, List.nil_append, List.cons_append]
      exact this
    simp only [Env.push, List.cons_append, List.nil_append, List.append_nil]
    refine den_new fun m W2 _ x2 => den_wr fun W3 x3 => ?_
    have hG3 := ((hG.ext x1).ext x2).ext x3
    have hm := may_q ts[i].k ⟨ts[i].t.toArray⟩ (by omega) W3 hG3
    refine den_call_q (fun _ _ => hm) ⟨Lx.may ts[i].k ts[i].t, rfl, fun W4 x4 => den_br (fun c2 => ?_) fun c2 => ?_⟩
    · have c2 : (!Lx.may ts[i].k ts[i].t) = true := c2
      have hno : (ts.all fun t => Lx.may t.k t.t) = false := by
        rw [List.all_eq_false]
        exact ⟨ts[i], List.getElem_mem hil, by simpa using c2⟩
      refine den_ret fun _ _ _ => ⟨_, rfl, ?_⟩
      simp [Lx.show_, hno, Sy.den, Sy.dens, E.t, E.i]
    · have c2 : (!Lx.may ts[i].k ts[i].t) = false := c2
      have c2 : Lx.may ts[i].k ts[i].t = true := by simpa using c2
      have hall' : (ts.take (i + 1)).all (fun t => Lx.may t.k t.t) = true := by rw [take_succ hx, List.all_append, hall]; simp [c2]
      simp only [Env.push, List.cons_append, List.nil_append, List.append_nil]
      refine den_br (fun c3 => ?_) fun c3 => ?_
      · simp only [Sy.dens, Sy.den, E.i, E.b, E.t, gd, Env.push, List.cons_append, List.nil_append, List.append_nil, Int.toNat_natCast, beq_iff_eq] at c3
        have e39 : (⟨#[39]⟩ : ByteArray).size = 1 := rfl
        refine den_chk ?_ (den_chk ?_ (den_new fun m2 W5 _ x5 => den_chk ?_ (den_app fun a2 c2 W6 ha2 x6 => den_again ⟨ts.length - (i + 1), by omega, i + 1, a2, c2, ?_, ?_, by omega, rfl, hall'⟩)))
        · simp only [Sy.dens, Sy.den, E.i, E.b, E.t, gd, Env.push, List.cons_append, List.nil_append, List.append_nil, Int.toNat_natCast]; refine leB_t ?_; rw [show (⟨[39].toArray⟩ : ByteArray).size = 1 from rfl]; omega
        · simp only [Sy.dens, Sy.den, E.i, E.b, E.t, gd, Env.push, List.cons_append, List.nil_append, List.append_nil, Int.toNat_natCast, ByteArray.size_append]; refine leB_t ?_; rw [show (⟨[39].toArray⟩ : ByteArray).size = 1 from rfl]; omega
        · simp only [Sy.dens, Sy.den, E.i, E.b, E.t, gd, Env.push, List.cons_append, List.nil_append, List.append_nil, Int.toNat_natCast]; exact leB_t (by omega)
        · simp only [Sy.dens, Sy.den, E.i, E.b, E.t, gd, Env.push, List.cons_append, List.nil_append, List.append_nil, Int.toNat_natCast]
          rw [w64i (by omega) (by omega)]
          rfl
        · simp only [rowConts, conts, List.map_cons, List.map_nil, List.flatMap_cons, List.flatMap_nil, Seg.den, Sy.dens, Sy.den, E.i, E.b, E.t, gd, Env.push, List.cons_append, List.nil_append, List.append_nil, Int.toNat_natCast]
          rw [take_succ hx, List.map_append, List.flatMap_append]
          simp only [List.map_cons, List.map_nil, List.flatMap_cons, List.flatMap_nil, strC, Lx.text, c3, if_true, List.append_nil]
          congr 4
      · simp only [Sy.dens, Sy.den, E.i, E.b, E.t, gd, Env.push, List.cons_append, List.nil_append, List.append_nil, Int.toNat_natCast, beq_eq_false_iff_ne] at c3
        refine den_new fun m2 W5 _ x5 => den_chk ?_ (den_app fun a2 c2 W6 ha2 x6 => den_again ⟨ts.length - (i + 1), by omega, i + 1, a2, c2, ?_, ?_, by omega, rfl, hall'⟩)
        · simp only [Sy.dens, Sy.den, E.i, E.b, E.t, gd, Env.push, List.cons_append, List.nil_append, List.append_nil, Int.toNat_natCast]; exact leB_t (by omega)
        · simp only [Sy.dens, Sy.den, E.i, E.b, E.t, gd, Env.push, List.cons_append, List.nil_append, List.append_nil, Int.toNat_natCast]
          rw [w64i (by omega) (by omega)]
          rfl
        · simp only [rowConts, conts, List.map_cons, List.map_nil, List.flatMap_cons, List.flatMap_nil, Seg.den, Sy.dens, Sy.den, E.i, E.b, E.t, gd, Env.push, List.cons_append, List.nil_append, List.append_nil, Int.toNat_natCast]
          rw [take_succ hx, List.map_append, List.flatMap_append]
          simp only [List.map_cons, List.map_nil, List.flatMap_cons, List.flatMap_nil, strC, Lx.text, c3, if_false, List.append_nil]
  · simp only [Sy.dens, Sy.den, E.i, E.b, E.t, gd, Env.push, List.cons_append, List.nil_append, List.append_nil, Int.toNat_natCast, ltB_false] at c1
    obtain rfl : i = ts.length := by omega
    rw [List.take_length] at hall
    refine den_call_q (v := .string ⟨(Lx.shown ts).toArray⟩) (fun _ hr => ?_) ⟨_, rfl, fun W2 x2 => ?_⟩
    · have := (hr _ (List.mem_singleton.2 rfl)).1
      simp only [conts, List.flatMap_cons, List.flatMap_nil, Seg.den, Sy.dens, Sy.den, E.i, E.b, E.t, gd, Env.push, List.cons_append, List.nil_append, List.append_nil, Int.toNat_natCast, List.take_length] at this
      have hq := join_q W1 a' c' (ts.map Lx.text) (by rw [List.length_map]; exact (owns_sl this).w) (by simpa using hb) (fun x hx => by
        obtain ⟨t, htm, rfl⟩ := List.mem_map.1 hx
        exact text_len (ht t htm))
      rw [List.length_map] at hq
      exact hq
    simp only [Env.push, List.cons_append, List.nil_append, List.append_nil]
    have hsz : ((⟨(Lx.shown ts).toArray⟩ : ByteArray).size : Int) = ((Lx.shown ts).length : Int) := by rw [← size_len]
    refine den_br (fun c2 => den_ret fun _ _ _ => ⟨_, rfl, ?_⟩) fun c2 => den_ret fun _ _ _ => ⟨_, rfl, ?_⟩
    · simp only [Sy.dens, Sy.den, E.i, E.b, E.t, gd, Env.push, List.cons_append, List.nil_append, List.append_nil, Int.toNat_natCast, ltB_true, hsz] at c2
      have e : Lx.show_ ts = ([], 40) := by unfold Lx.show_; rw [hall]; simp; omega
      rw [e]; rfl
    · simp only [Sy.dens, Sy.den, E.i, E.b, E.t, gd, Env.push, List.cons_append, List.nil_append, List.append_nil, Int.toNat_natCast, ltB_false, hsz] at c2
      have e : Lx.show_ ts = (Lx.shown ts, 0) := by unfold Lx.show_; rw [hall]; simp; omega
      rw [e]; rfl
end Go.Proofs.YthdoemolgobonaaDoor
