/- Parts that are handed over, compared, measured; the examples. -/
import Derived.Test.YthdoemolgobonaaDoorLxLex
namespace Go.Proofs.YthdoemolgobonaaDoor
open Go Go.RowKit Go.SF
set_option linter.unusedSimpArgs false
set_option linter.unusedVariables false

theorem tokL_agg : aggT Tryd.prog 30 = some true := by kernel_rfl
theorem tokL_size : sizeT Tryd.prog 30 = some 2 := by kernel_rfl
theorem tokR_agg : aggT Tryd.prog 39 = some true := by kernel_rfl
theorem tokR_size : sizeT Tryd.prog 39 = some 2 := by kernel_rfl
theorem str_agg : aggT Tryd.prog 9 = some false := by kernel_rfl
theorem take_succ {α : Type} {l : List α} {i : Nat} {x : α} (h : l[i]? = some x) : l.take (i + 1) = l.take i ++ [x] := by rw [List.take_add_one, h]; rfl

theorem told_r (W : Wd) (a : Option Addr) (c : Nat) (ts : List Lx.Tok) (h : SlW W.w a ts.length c 2 (toksC ts)) (hb : ts.length ≤ 1000000) : CallsI Tryd.prog 14 #[.slice a ts.length c] W.all fun v w' => ∃ a' c', v = .slice a' ts.length c' ∧ w'.ownsRow W.w.heap.size 39 2 (.slice a' ts.length c') ts.length (toksC ts) := by
  refine vc_told ts.length c a W.all _ ?_
  have hI := h.all
  refine den_loop (fun k vs ls _ => ∃ (i : Nat) (a' : Option Addr) (c' : Nat), vs = [.int .i64 (i : Int), .slice a' i c'] ∧ ls = [toksC (ts.take i)] ∧ i ≤ ts.length ∧ k = ts.length - i) ts.length ⟨0, none, 0, rfl, rfl, Nat.zero_le _, rfl⟩ ?_
  rintro k vs ls W1 x1 ⟨i, a', c', rfl, rfl, hi, rfl⟩
  refine ⟨(i : Int), i, c', a', toksC (ts.take i), rfl, (by simp [rowConts, conts, Seg.den, gd, Env.push]), fun hrow => ?_⟩
  simp only [Env.push, List.cons_append, List.nil_append, List.append_nil]
  refine den_br (fun c1 => ?_) fun c1 => ?_
  · simp only [Sy.dens, Sy.den, E.i, E.b, E.t, gd, Env.push, List.cons_append, List.nil_append, List.append_nil, Int.toNat_natCast, ltB_true] at c1
    have hil : i < ts.length := by omega
    have hx : ts[i]? = some ts[i] := List.getElem?_eq_getElem hil
    refine den_chk ?_ (den_chk ?_ (den_look ⟨ts[i].k, ⟨ts[i].t.toArray⟩, fun W2 x2 => ?_, ?_⟩))
    · simp only [E.b, gd, Env.push]; exact hI.some_of (by omega)
    · simp only [Sy.dens, Sy.den, E.i, E.b, E.t, gd, Env.push, List.cons_append, List.nil_append, List.append_nil, Int.toNat_natCast]; exact leB_t (by omega)
    · have := sl_look (P := Tryd.prog) tokC_len (by decide) (hI.ext x1) tokL_agg tokL_size hx x2
      simp only [Sy.den, gd, E.i, Env.push, Int.toNat_natCast, List.nil_append, List.cons_append]
      exact this
    · simp only [Env.push, List.cons_append, List.nil_append, List.append_nil]
      refine den_new fun m W2 _ x2 => den_chk ?_ (den_app fun a2 c2 W3 ha2 x3 => den_again ⟨ts.length - (i + 1), by omega, i + 1, a2, c2, ?_, ?_, by omega, rfl⟩)
      · simp only [Sy.dens, Sy.den, E.i, E.b, E.t, gd, Env.push, List.cons_append, List.nil_append, List.append_nil, Int.toNat_natCast]; exact leB_t (by omega)
      · simp only [Sy.dens, Sy.den, E.i, E.b, E.t, gd, Env.push, List.cons_append, List.nil_append, List.append_nil, Int.toNat_natCast]
        rw [w64i (by omega) (by omega)]
        rfl
      · simp only [rowConts, conts, List.map_cons, List.map_nil, List.flatMap_cons, List.flatMap_nil, Seg.den, Sy.dens, Sy.den, E.i, E.b, E.t, gd, Env.push, List.cons_append, List.nil_append, List.append_nil, Int.toNat_natCast]
        rw [take_succ hx, toksC_app]
        rfl
  · simp only [Sy.dens, Sy.den, E.i, E.b, E.t, gd, Env.push, List.cons_append, List.nil_append, List.append_nil, Int.toNat_natCast, ltB_false] at c1
    obtain rfl : i = ts.length := by omega
    refine den_ret fun _ _ hr => ⟨_, rfl, a', c', rfl, ?_⟩
    have := (hr _ (List.mem_singleton.2 rfl)).1
    simp only [conts, List.flatMap_cons, List.flatMap_nil, Seg.den, Sy.dens, Sy.den, E.i, E.b, E.t, gd, Env.push, List.cons_append, List.nil_append, List.append_nil, Int.toNat_natCast, List.take_length] at this
    exact this

theorem told_i (W : Wd) (a : Option Addr) (c : Nat) (ts : List Lx.Tok) (h : SlW W.w a ts.length c 2 (toksC ts)) (hb : ts.length ≤ 1000000) : CallsI Tryd.prog 14 #[.slice a ts.length c] W.all fun v w' => ∃ a' c', v = .slice a' ts.length c' ∧ ToksN W.w.heap.size w' a' c' ts :=
  CallsI.mono (told_r W a c ts h hb) fun v w' _ ⟨a', c', hv, ho⟩ => ⟨a', c', hv, owns_sl ho⟩

theorem given_i (W : Wd) (a : Option Addr) (c : Nat) (ts : List Lx.Tok) (h : SlW W.w a ts.length c 2 (toksC ts)) (hb : ts.length ≤ 1000000) : CallsI Tryd.prog 18 #[.slice a ts.length c] W.all fun v w' => ∃ a' c', v = .slice a' ts.length c' ∧ ToksN W.w.heap.size w' a' c' ts := by
  refine vc_given ts.length c a W.all _ ?_
  have hI := h.all
  refine den_loop (fun k vs ls _ => ∃ (i : Nat) (a' : Option Addr) (c' : Nat), vs = [.int .i64 (i : Int), .slice a' i c'] ∧ ls = [toksC (ts.take i)] ∧ i ≤ ts.length ∧ k = ts.length - i) ts.length ⟨0, none, 0, rfl, rfl, Nat.zero_le _, rfl⟩ ?_
  rintro k vs ls W1 x1 ⟨i, a', c', rfl, rfl, hi, rfl⟩
  refine ⟨(i : Int), i, c', a', toksC (ts.take i), rfl, (by simp [rowConts, conts, Seg.den, gd, Env.push]), fun hrow => ?_⟩
  simp only [Env.push, List.cons_append, List.nil_append, List.append_nil]
  refine den_br (fun c1 => ?_) fun c1 => ?_
  · simp only [Sy.dens, Sy.den, E.i, E.b, E.t, gd, Env.push, List.cons_append, List.nil_append, List.append_nil, Int.toNat_natCast, ltB_true] at c1
    have hil : i < ts.length := by omega
    have hx : ts[i]? = some ts[i] := List.getElem?_eq_getElem hil
    refine den_chk ?_ (den_chk ?_ (den_look ⟨ts[i].k, ⟨ts[i].t.toArray⟩, fun W2 x2 => ?_, ?_⟩))
    · simp only [E.b, gd, Env.push]; exact hI.some_of (by omega)
    · simp only [Sy.dens, Sy.den, E.i, E.b, E.t, gd, Env.push, List.cons_append, List.nil_append, List.append_nil, Int.toNat_natCast]; exact leB_t (by omega)
    · have := sl_look (P := Tryd.prog) tokC_len (by decide) (hI.ext x1) tokR_agg tokR_size hx x2
      simp only [Sy.den, gd, E.i, Env.push, Int.toNat_natCast, List.nil_append, List.cons_append]
      exact this
    · simp only [Env.push, List.cons_append, List.nil_append, List.append_nil]
      refine den_new fun m W2 _ x2 => den_chk ?_ (den_app fun a2 c2 W3 ha2 x3 => den_again ⟨ts.length - (i + 1), by omega, i + 1, a2, c2, ?_, ?_, by omega, rfl⟩)
      · simp only [Sy.dens, Sy.den, E.i, E.b, E.t, gd, Env.push, List.cons_append, List.nil_append, List.append_nil, Int.toNat_natCast]; exact leB_t (by omega)
      · simp only [Sy.dens, Sy.den, E.i, E.b, E.t, gd, Env.push, List.cons_append, List.nil_append, List.append_nil, Int.toNat_natCast]
        rw [w64i (by omega) (by omega)]
        rfl
      · simp only [rowConts, conts, List.map_cons, List.map_nil, List.flatMap_cons, List.flatMap_nil, Seg.den, Sy.dens, Sy.den, E.i, E.b, E.t, gd, Env.push, List.cons_append, List.nil_append, List.append_nil, Int.toNat_natCast]
        rw [take_succ hx, toksC_app]
        rfl
  · simp only [Sy.dens, Sy.den, E.i, E.b, E.t, gd, Env.push, List.cons_append, List.nil_append, List.append_nil, Int.toNat_natCast, ltB_false] at c1
    obtain rfl : i = ts.length := by omega
    refine den_ret fun _ _ hr => ⟨_, rfl, a', c', rfl, ?_⟩
    have := (hr _ (List.mem_singleton.2 rfl)).1
    simp only [conts, List.flatMap_cons, List.flatMap_nil, Seg.den, Sy.dens, Sy.den, E.i, E.b, E.t, gd, Env.push, List.cons_append, List.nil_append, List.append_nil, Int.toNat_natCast, List.take_length] at this
    exact owns_sl this

theorem tok_eq (x y : Lx.Tok) : ((x.k == y.k) && ((⟨x.t.toArray⟩ : ByteArray).data.toList == (⟨y.t.toArray⟩ : ByteArray).data.toList)) = decide (x = y) := by
  obtain ⟨k, t⟩ := x; obtain ⟨k', t'⟩ := y
  rw [Bool.eq_iff_iff]; simp
theorem same_q (W : Wd) (a b : Option Addr) (c d : Nat) (ts us : List Lx.Tok) (h : SlW W.w a ts.length c 2 (toksC ts)) (k : SlW W.w b us.length d 2 (toksC us)) (hb : ts.length ≤ 1000000) : CallsQ Tryd.prog 13 #[.slice a ts.length c, .slice b us.length d] W (.bool (decide (ts = us))) := by
  refine vc_same ts.length c us.length d a b W.all _ ?_
  have hI := h.all
  have kI := k.all
  refine den_br (fun c1 => ?_) fun c1 => ?_
  · simp only [Sy.dens, Sy.den, E.i, E.b, E.t, gd, Env.push, List.cons_append, List.nil_append, List.append_nil, Int.toNat_natCast] at c1
    have hne : ts ≠ us := by rintro rfl; simp at c1
    refine den_ret fun _ _ _ => ⟨_, rfl, ?_⟩
    simp [hne, Sy.den, E.b]
  · simp only [Sy.dens, Sy.den, E.i, E.b, E.t, gd, Env.push, List.cons_append, List.nil_append, List.append_nil, Int.toNat_natCast] at c1
    have hlen : ts.length = us.length := by
      simp only [Bool.not_eq_false', beq_iff_eq] at c1; omega
    refine den_loop (fun j vs ls _ => ∃ i : Nat, vs = [.int .i64 (i : Int)] ∧ ls = [] ∧ i ≤ ts.length ∧ j = ts.length - i ∧ ts.take i = us.take i) ts.length ⟨0, rfl, rfl, Nat.zero_le _, rfl, rfl⟩ ?_
    rintro j vs ls W1 x1 ⟨i, rfl, rfl, hi, rfl, he⟩
    refine ⟨(i : Int), rfl, rfl, fun _ => ?_⟩
    simp only [Env.push, List.cons_append, List.nil_append, List.append_nil]
    refine den_br (fun c2 => ?_) fun c2 => ?_
    · simp only [Sy.dens, Sy.den, E.i, E.b, E.t, gd, Env.push, List.cons_append, List.nil_append, List.append_nil, Int.toNat_natCast, ltB_true] at c2
      have hil : i < ts.length := by omega
      have hx : ts[i]? = some ts[i] := List.getElem?_eq_getElem hil
      have hy : us[i]? = some us[i] := List.getElem?_eq_getElem (by omega)
      refine den_chk ?_ (den_chk ?_ (den_look ⟨ts[i].k, ⟨ts[i].t.toArray⟩, fun W2 x2 => ?_, ?_⟩))
      · simp only [E.b, gd, Env.push]; exact hI.some_of (by omega)
      · simp only [Sy.dens, Sy.den, E.i, E.b, E.t, gd, Env.push, List.cons_append, List.nil_append, List.append_nil, Int.toNat_natCast]; exact leB_t (by omega)
      · have := sl_look (P := Tryd.prog) tokC_len (by decide) (hI.ext x1) tokR_agg tokR_size hx x2
        simp only [Sy.den, gd, E.i, Env.push, Int.toNat_natCast, List.nil_append, List.cons_append]
        exact this
      simp only [Env.push, List.cons_append, List.nil_append, List.append_nil]
      refine den_chk ?_ (den_chk ?_ (den_look ⟨us[i].k, ⟨us[i].t.toArray⟩, fun W2 x2 => ?_, ?_⟩))
      · simp only [E.b, gd, Env.push]; exact kI.some_of (by omega)
      · simp only [Sy.dens, Sy.den, E.i, E.b, E.t, gd, Env.push, List.cons_append, List.nil_append, List.append_nil, Int.toNat_natCast]; exact ltB_t (by omega)
      · have := sl_look (P := Tryd.prog) tokC_len (by decide) (kI.ext x1) tokR_agg tokR_size hy x2
        simp only [Sy.den, gd, E.i, Env.push, Int.toNat_natCast, List.nil_append, List.cons_append]
        exact this
      simp only [Env.push, List.cons_append, List.nil_append, List.append_nil]
      refine den_grow fun W2 x2 => den_br (fun c3 => ?_) fun c3 => ?_
      · simp only [Sy.dens, Sy.den, E.i, E.b, E.t, gd, Env.push, List.cons_append, List.nil_append, List.append_nil, Int.toNat_natCast] at c3
        rw [tok_eq] at c3
        have hne : ts ≠ us := by rintro rfl; simp at c3
        refine den_ret fun _ _ _ => ⟨_, rfl, ?_⟩
        simp [hne, Sy.den, E.b]
      · simp only [Sy.dens, Sy.den, E.i, E.b, E.t, gd, Env.push, List.cons_append, List.nil_append, List.append_nil, Int.toNat_natCast] at c3
        rw [tok_eq] at c3
        have hee : ts[i] = us[i] := by simpa using c3
        refine den_again ⟨ts.length - (i + 1), by omega, i + 1, ?_, rfl, by omega, rfl, ?_⟩
        · simp only [Sy.dens, Sy.den, E.i, E.b, E.t, gd, Env.push, List.cons_append, List.nil_append, List.append_nil, Int.toNat_natCast]
          rw [w64i (by omega) (by omega)]
          rfl
        · rw [take_succ hx, take_succ hy, he, hee]
    · simp only [Sy.dens, Sy.den, E.i, E.b, E.t, gd, Env.push, List.cons_append, List.nil_append, List.append_nil, Int.toNat_natCast, ltB_false] at c2
      have hee : ts = us := by
        have e1 : ts.take i = ts := List.take_of_length_le (by omega)
        have e2 : us.take i = us := List.take_of_length_le (by omega)
        rw [e1, e2] at he; exact he
      refine den_ret fun _ _ _ => ⟨_, rfl, ?_⟩
      simp [hee, Sy.den, E.b]
/-- are parts more than a statement goes over? -/
def largeL (ts : List Lx.Tok) : Bool := decide (200 < ts.length) || ts.any fun t => decide (300 < t.t.length)
theorem large_q (W : Wd) (a : Option Addr) (c : Nat) (ts : List Lx.Tok) (h : SlW W.w a ts.length c 2 (toksC ts)) : CallsQ Tryd.prog 15 #[.slice a ts.length c] W (.bool (largeL ts)) := by
  refine vc_large ts.length c a W.all _ ?_
  have hI := h.all
  refine den_br (fun c1 => ?_) fun c1 => ?_
  · simp only [Sy.dens, Sy.den, E.i, E.b, E.t, gd, Env.push, List.cons_append, List.nil_append, List.append_nil, Int.toNat_natCast, ltB_true] at c1
    refine den_ret fun _ _ _ => ⟨_, rfl, ?_⟩
    have : 200 < ts.length := by omega
    simp [largeL, this, Sy.den, E.b]
  · simp only [Sy.dens, Sy.den, E.i, E.b, E.t, gd, Env.push, List.cons_append, List.nil_append, List.append_nil, Int.toNat_natCast, ltB_false] at c1
    have hl : ¬ 200 < ts.length := by omega
    refine den_loop (fun j vs ls _ => ∃ i : Nat, vs = [.int .i64 (i : Int)] ∧ ls = [] ∧ i ≤ ts.length ∧ j = ts.length - i ∧ (ts.take i).any (fun t => decide (300 < t.t.length)) = false) ts.length ⟨0, rfl, rfl, Nat.zero_le _, rfl, rfl⟩ ?_
    rintro j vs ls W1 x1 ⟨i, rfl, rfl, hi, rfl, he⟩
    refine ⟨(i : Int), rfl, rfl, fun _ => ?_⟩
    simp only [Env.push, List.cons_append, List.nil_append, List.append_nil]
    refine den_br (fun c2 => ?_) fun c2 => ?_
    · simp only [Sy.dens, Sy.den, E.i, E.b, E.t, gd, Env.push, List.cons_append, List.nil_append, List.append_nil, Int.toNat_natCast, ltB_true] at c2
      have hil : i < ts.length := by omega
      have hx : ts[i]? = some ts[i] := List.getElem?_eq_getElem hil
      refine den_chk ?_ (den_chk ?_ (den_look ⟨⟨ts[i].t.toArray⟩, fun W2 x2 => ?_, ?_⟩))
      · simp only [E.b, gd, Env.push]; exact hI.some_of (by omega)
      · simp only [Sy.dens, Sy.den, E.i, E.b, E.t, gd, Env.push, List.cons_append, List.nil_append, List.append_nil, Int.toNat_natCast]; exact leB_t (by omega)
      · have := sl_look_f (P := Tryd.prog) tokC_len (hI.ext x1) str_agg (k := 1) hx (by decide) (u := .string ⟨ts[i].t.toArray⟩) rfl x2
        simp only [Sy.den, gd, E.i, Env.push, Int.toNat_natCast, List.nil_append, List.cons_append]
        exact this
      simp only [Env.push, List.cons_append, List.nil_append, List.append_nil]
      have hsz : ((⟨ts[i].t.toArray⟩ : ByteArray).size : Int) = (ts[i].t.length : Int) := by rw [← size_len]
      refine den_br (fun c3 => ?_) fun c3 => ?_
      · simp only [Sy.dens, Sy.den, E.i, E.b, E.t, gd, Env.push, List.cons_append, List.nil_append, List.append_nil, Int.toNat_natCast, ltB_true, hsz] at c3
        refine den_ret fun _ _ _ => ⟨_, rfl, ?_⟩
        have : (ts.any fun t => decide (300 < t.t.length)) = true := List.any_eq_true.2 ⟨ts[i], List.getElem_mem hil, by simp; omega⟩
        simp [largeL, this, Sy.den, E.b]
      · simp only [Sy.dens, Sy.den, E.i, E.b, E.t, gd, Env.push, List.cons_append, List.nil_append, List.append_nil, Int.toNat_natCast, ltB_false, hsz] at c3
        refine den_again ⟨ts.length - (i + 1), by omega, i + 1, ?_, rfl, by omega, rfl, ?_⟩
        · simp only [Sy.dens, Sy.den, E.i, E.b, E.t, gd, Env.push, List.cons_append, List.nil_append, List.append_nil, Int.toNat_natCast]
          rw [w64i (by omega) (by omega)]
          rfl
        · rw [take_succ hx, List.any_append, he]
          simp; omega
    · simp only [Sy.dens, Sy.den, E.i, E.b, E.t, gd, Env.push, List.cons_append, List.nil_append, List.append_nil, Int.toNat_natCast, ltB_false] at c2
      rw [List.take_of_length_le (by omega)] at he
      refine den_ret fun _ _ _ => ⟨_, rfl, ?_⟩
      simp [largeL, he, hl, Sy.den, E.b]
theorem large_no {ts : List Lx.Tok} (h : largeL ts = false) : ts.length ≤ 200 ∧ ∀ t ∈ ts, t.t.length ≤ 300 := by
  simp only [largeL, Bool.or_eq_false_iff, decide_eq_false_iff_not, List.any_eq_false, decide_eq_true_eq] at h
  exact ⟨by omega, fun t ht => by have := h.2 t ht; omega⟩

end Go.Proofs.YthdoemolgobonaaDoor
