/- The walks of slices.IndexFunc, at each function that asks (written by wip/gen_vridx.py). -/
import Derived.Test.YtamnfdmmjjekhaaVrCmp
import Derived.Test.YtamnfdmmjjekhaaVrP2
import Derived.Test.YtamnfdmmjjekhaaVcVars1
import Derived.Test.YtamnfdmmjjekhaaVcVars2
namespace Go.Proofs.Ytamnfdmmjjekhaa
open Go Go.RowKit Go.SF
set_option linter.unusedSimpArgs false
set_option linter.unusedVariables false
theorem ca_agg : aggT Try.prog 39 = some true := by kernel_rfl
theorem ca_size : sizeT Try.prog 39 = some 5 := by kernel_rfl
theorem ia_agg : aggT Try.prog 54 = some true := by kernel_rfl
theorem ia_size : sizeT Try.prog 54 = some 8 := by kernel_rfl
theorem heap_lt {w : World} {m : Nat} {o : Obj} (h : w.heap[m]? = some o) : m < w.heap.size := (Array.getElem?_eq_some_iff.1 h).1
/-- arena.place$1 -/
theorem apl1_q (id : Int) (x : Vr.It) (m : Nat) (W : Wd) (hm : W.w.heap[m]? = some (.cells #[.int .i64 id] 3)) : CallsQ Try.prog 63 #[.agg x.enc.toArray, .pointer (some ⟨m, 0, none⟩)] W (.bool (Vr.isId id x)) := by
  refine vc_apl1 x.id x.up x.is x.node x.frm x.wait id ⟨x.proc.toArray⟩ ⟨x.code.toArray⟩ m W.all _ hm (heap_lt hm) ?_
  exact den_new fun _ W1 _ x1 => den_ret fun _ _ _ => ⟨_, rfl, rfl⟩
/-- vars.place$1 -/
theorem vpl1_q (id : Int) (nm : Vr.Bs) (x : Vr.Ce) (m k : Nat) (W : Wd) (hm : W.w.heap[m]? = some (.cells #[.int .i64 id] 3)) (hk : W.w.heap[k]? = some (.cells #[.string ⟨nm.toArray⟩] 9)) : CallsQ Try.prog 49 #[.agg x.enc.toArray, .pointer (some ⟨m, 0, none⟩), .pointer (some ⟨k, 0, none⟩)] W (.bool (Vr.isCe id nm x)) := by
  refine vc_vpl1 x.sc x.v.k x.v.n id ⟨x.nm.toArray⟩ ⟨x.v.t.toArray⟩ ⟨nm.toArray⟩ m k W.all _ hm (heap_lt hm) hk (heap_lt hk) ?_
  refine den_new fun _ W1 _ x1 => den_ret fun _ _ _ => ⟨_, rfl, ?_⟩
  simp only [Sy.dens, Sy.den, E.i, E.b, E.t, gd, Env.push, List.cons_append, List.nil_append, List.append_nil, Int.toNat_natCast, Vr.isCe]
theorem op11_q (id : Int) (nm : Vr.Bs) (x : Vr.Ce) (m k : Nat) (W : Wd) (hm : W.w.heap[m]? = some (.cells #[.int .i64 id] 3)) (hk : W.w.heap[k]? = some (.cells #[.string ⟨nm.toArray⟩] 9)) : CallsQ Try.prog 27 #[.agg x.enc.toArray, .pointer (some ⟨m, 0, none⟩), .pointer (some ⟨k, 0, none⟩)] W (.bool (Vr.isCe id nm x)) := by
  refine vc_op11 x.sc x.v.k x.v.n id ⟨x.nm.toArray⟩ ⟨x.v.t.toArray⟩ ⟨nm.toArray⟩ m k W.all _ hm (heap_lt hm) hk (heap_lt hk) ?_
  refine den_new fun _ W1 _ x1 => den_ret fun _ _ _ => ⟨_, rfl, ?_⟩
  simp only [Sy.dens, Sy.den, E.i, E.b, E.t, gd, Env.push, List.cons_append, List.nil_append, List.append_nil, Int.toNat_natCast, Vr.isCe]
theorem ixi_q (id : Int) (m : Nat) (l : List Vr.It) (hl : l.length ≤ 1000000) (ad : Option Addr) (n c : Nat) (W : Wd) (hS : SlW W.w ad n c 8 (l.flatMap Vr.It.enc)) (hm : W.w.heap[m]? = some (.cells #[.int .i64 id] 3))  :
    CallsQ Try.prog 62 #[.slice ad n c, .func (.func 63) #[] #[.pointer (some ⟨m, 0, none⟩)]] W (.int .i64 (Vr.idx (Vr.isId id) l)) := by
  have hS := hS.all
  have hn : l.length = n := by have := hS.1; rw [flat_len Vr.It.enc_len] at this; omega
  refine vc_ixi id n c ad m W.all _ hm (heap_lt hm) ?_
  refine den_loop (fun k vs ls _ => ∃ i : Nat, vs = [.int .i64 (i : Int)] ∧ ls = [] ∧ i ≤ l.length ∧ (∀ (j : Nat) x, j < i → l[j]? = some x → (Vr.isId id) x = false) ∧ k = l.length - i) l.length ⟨0, rfl, rfl, Nat.zero_le _, fun j x h => absurd h (by omega), rfl⟩ ?_
  rintro k vs ls W1 x1 ⟨i, rfl, rfl, hi, hb, rfl⟩
  refine ⟨(i : Int), rfl, rfl, fun _ => ?_⟩
  simp only [Env.push, List.cons_append, List.nil_append, List.append_nil]
  refine den_br (fun c1 => ?_) fun c1 => ?_
  · simp only [Sy.dens, Sy.den, E.i, E.b, E.t, gd, Env.push, List.cons_append, List.nil_append, List.append_nil, Int.toNat_natCast, ltB_true] at c1
    have hil : i < l.length := by omega
    obtain ⟨x, hx⟩ : ∃ x, l[i]? = some x := ⟨l[i], List.getElem?_eq_getElem hil⟩
    refine den_chk (by simp only [E.b, gd]; exact hS.some_of (by omega)) (den_chk (chk_le (by simp only [Sy.dens, Sy.den, E.i, E.b, E.t, gd, Env.push, List.cons_append, List.nil_append, List.append_nil, Int.toNat_natCast]; omega)) (den_look ⟨x.id, x.up, x.is, x.node, x.frm, x.wait, ⟨x.proc.toArray⟩, ⟨x.code.toArray⟩, fun W' xW => ?_, ?_⟩))
    · have := sl_look (P := Try.prog) Vr.It.enc_len (by decide) hS ia_agg ia_size hx (ext_trans x1 xW)
      simp only [Sy.dens, Sy.den, E.i, E.b, E.t, gd, Env.push, List.cons_append, List.nil_append, List.append_nil, Int.toNat_natCast, Nat.add_zero] at this ⊢
      exact this
    simp only [Env.push, List.cons_append, List.nil_append, List.append_nil]
    refine den_call_q (fun hbk _ => apl1_q id x m _ (hbk _ (List.mem_cons_self ..))) ⟨(Vr.isId id) x, rfl, fun W2 x2 => ?_⟩
    simp only [Env.push, List.cons_append, List.nil_append, List.append_nil]
    refine den_br (fun c2 => ?_) fun c2 => ?_
    · have c2 : (Vr.isId id) x = true := by simpa only [Sy.dens, Sy.den, E.i, E.b, E.t, gd, Env.push, List.cons_append, List.nil_append, List.append_nil, Int.toNat_natCast] using c2
      refine den_ret fun _ _ _ => ⟨_, rfl, ?_⟩
      simp only [Sy.dens, Sy.den, E.i, E.b, E.t, gd, Env.push, List.cons_append, List.nil_append, List.append_nil, Int.toNat_natCast]
      rw [Vr.idx_some hx c2 hb]
    · have c2 : (Vr.isId id) x = false := by simpa only [Sy.dens, Sy.den, E.i, E.b, E.t, gd, Env.push, List.cons_append, List.nil_append, List.append_nil, Int.toNat_natCast] using c2
      refine den_again ⟨l.length - (i + 1), by omega, i + 1, ?_, rfl, by omega, fun j y hj hy => ?_, rfl⟩
      · simp only [Sy.dens, Sy.den, E.i, E.b, E.t, gd, Env.push, List.cons_append, List.nil_append, List.append_nil, Int.toNat_natCast]; rw [w64i (by omega) (by omega)]; rfl
      · by_cases e : j = i
        · subst e; rw [hx] at hy; obtain rfl := Option.some.inj hy; exact c2
        · exact hb j y (by omega) hy
  · simp only [Sy.dens, Sy.den, E.i, E.b, E.t, gd, Env.push, List.cons_append, List.nil_append, List.append_nil, Int.toNat_natCast, ltB_false] at c1
    refine den_ret fun _ _ _ => ⟨_, rfl, ?_⟩
    rw [Vr.idx_none (fun j x hx => hb j x (by have := (List.getElem?_eq_some_iff.1 hx).1; omega) hx)]
    rfl
theorem ixc_q (id : Int) (nm : Vr.Bs) (m k : Nat) (l : List Vr.Ce) (hl : l.length ≤ 1000000) (ad : Option Addr) (n c : Nat) (W : Wd) (hS : SlW W.w ad n c 5 (l.flatMap Vr.Ce.enc)) (hm : W.w.heap[m]? = some (.cells #[.int .i64 id] 3)) (hk : W.w.heap[k]? = some (.cells #[.string ⟨nm.toArray⟩] 9))  :
    CallsQ Try.prog 42 #[.slice ad n c, .func (.func 49) #[] #[.pointer (some ⟨m, 0, none⟩), .pointer (some ⟨k, 0, none⟩)]] W (.int .i64 (Vr.idx (Vr.isCe id nm) l)) := by
  have hS := hS.all
  have hn : l.length = n := by have := hS.1; rw [flat_len Vr.Ce.enc_len] at this; omega
  refine vc_ixc id n c ⟨nm.toArray⟩ ad m k W.all _ hm (heap_lt hm) hk (heap_lt hk) ?_
  refine den_loop (fun k vs ls _ => ∃ i : Nat, vs = [.int .i64 (i : Int)] ∧ ls = [] ∧ i ≤ l.length ∧ (∀ (j : Nat) x, j < i → l[j]? = some x → (Vr.isCe id nm) x = false) ∧ k = l.length - i) l.length ⟨0, rfl, rfl, Nat.zero_le _, fun j x h => absurd h (by omega), rfl⟩ ?_
  rintro k vs ls W1 x1 ⟨i, rfl, rfl, hi, hb, rfl⟩
  refine ⟨(i : Int), rfl, rfl, fun _ => ?_⟩
  simp only [Env.push, List.cons_append, List.nil_append, List.append_nil]
  refine den_br (fun c1 => ?_) fun c1 => ?_
  · simp only [Sy.dens, Sy.den, E.i, E.b, E.t, gd, Env.push, List.cons_append, List.nil_append, List.append_nil, Int.toNat_natCast, ltB_true] at c1
    have hil : i < l.length := by omega
    obtain ⟨x, hx⟩ : ∃ x, l[i]? = some x := ⟨l[i], List.getElem?_eq_getElem hil⟩
    refine den_chk (by simp only [E.b, gd]; exact hS.some_of (by omega)) (den_chk (chk_le (by simp only [Sy.dens, Sy.den, E.i, E.b, E.t, gd, Env.push, List.cons_append, List.nil_append, List.append_nil, Int.toNat_natCast]; omega)) (den_look ⟨x.sc, x.v.k, x.v.n, ⟨x.nm.toArray⟩, ⟨x.v.t.toArray⟩, fun W' xW => ?_, ?_⟩))
    · have := sl_look (P := Try.prog) Vr.Ce.enc_len (by decide) hS ca_agg ca_size hx (ext_trans x1 xW)
      simp only [Sy.dens, Sy.den, E.i, E.b, E.t, gd, Env.push, List.cons_append, List.nil_append, List.append_nil, Int.toNat_natCast, Nat.add_zero] at this ⊢
      exact this
    simp only [Env.push, List.cons_append, List.nil_append, List.append_nil]
    refine den_call_q (fun hbk _ => vpl1_q id nm x m k _ (hbk _ (List.mem_cons_self ..)) (hbk _ (List.mem_cons_of_mem _ (List.mem_cons_self ..)))) ⟨(Vr.isCe id nm) x, rfl, fun W2 x2 => ?_⟩
    simp only [Env.push, List.cons_append, List.nil_append, List.append_nil]
    refine den_br (fun c2 => ?_) fun c2 => ?_
    · have c2 : (Vr.isCe id nm) x = true := by simpa only [Sy.dens, Sy.den, E.i, E.b, E.t, gd, Env.push, List.cons_append, List.nil_append, List.append_nil, Int.toNat_natCast] using c2
      refine den_ret fun _ _ _ => ⟨_, rfl, ?_⟩
      simp only [Sy.dens, Sy.den, E.i, E.b, E.t, gd, Env.push, List.cons_append, List.nil_append, List.append_nil, Int.toNat_natCast]
      rw [Vr.idx_some hx c2 hb]
    · have c2 : (Vr.isCe id nm) x = false := by simpa only [Sy.dens, Sy.den, E.i, E.b, E.t, gd, Env.push, List.cons_append, List.nil_append, List.append_nil, Int.toNat_natCast] using c2
      refine den_again ⟨l.length - (i + 1), by omega, i + 1, ?_, rfl, by omega, fun j y hj hy => ?_, rfl⟩
      · simp only [Sy.dens, Sy.den, E.i, E.b, E.t, gd, Env.push, List.cons_append, List.nil_append, List.append_nil, Int.toNat_natCast]; rw [w64i (by omega) (by omega)]; rfl
      · by_cases e : j = i
        · subst e; rw [hx] at hy; obtain rfl := Option.some.inj hy; exact c2
        · exact hb j y (by omega) hy
  · simp only [Sy.dens, Sy.den, E.i, E.b, E.t, gd, Env.push, List.cons_append, List.nil_append, List.append_nil, Int.toNat_natCast, ltB_false] at c1
    refine den_ret fun _ _ _ => ⟨_, rfl, ?_⟩
    rw [Vr.idx_none (fun j x hx => hb j x (by have := (List.getElem?_eq_some_iff.1 hx).1; omega) hx)]
    rfl
theorem ixo_q (id : Int) (nm : Vr.Bs) (m k : Nat) (l : List Vr.Ce) (hl : l.length ≤ 1000000) (ad : Option Addr) (n c : Nat) (W : Wd) (hS : SlW W.w ad n c 5 (l.flatMap Vr.Ce.enc)) (hm : W.w.heap[m]? = some (.cells #[.int .i64 id] 3)) (hk : W.w.heap[k]? = some (.cells #[.string ⟨nm.toArray⟩] 9))  :
    CallsQ Try.prog 42 #[.slice ad n c, .func (.func 27) #[] #[.pointer (some ⟨m, 0, none⟩), .pointer (some ⟨k, 0, none⟩)]] W (.int .i64 (Vr.idx (Vr.isCe id nm) l)) := by
  have hS := hS.all
  have hn : l.length = n := by have := hS.1; rw [flat_len Vr.Ce.enc_len] at this; omega
  refine vc_ixo id n c ⟨nm.toArray⟩ ad m k W.all _ hm (heap_lt hm) hk (heap_lt hk) ?_
  refine den_loop (fun k vs ls _ => ∃ i : Nat, vs = [.int .i64 (i : Int)] ∧ ls = [] ∧ i ≤ l.length ∧ (∀ (j : Nat) x, j < i → l[j]? = some x → (Vr.isCe id nm) x = false) ∧ k = l.length - i) l.length ⟨0, rfl, rfl, Nat.zero_le _, fun j x h => absurd h (by omega), rfl⟩ ?_
  rintro k vs ls W1 x1 ⟨i, rfl, rfl, hi, hb, rfl⟩
  refine ⟨(i : Int), rfl, rfl, fun _ => ?_⟩
  simp only [Env.push, List.cons_append, List.nil_append, List.append_nil]
  refine den_br (fun c1 => ?_) fun c1 => ?_
  · simp only [Sy.dens, Sy.den, E.i, E.b, E.t, gd, Env.push, List.cons_append, List.nil_append, List.append_nil, Int.toNat_natCast, ltB_true] at c1
    have hil : i < l.length := by omega
    obtain ⟨x, hx⟩ : ∃ x, l[i]? = some x := ⟨l[i], List.getElem?_eq_getElem hil⟩
    refine den_chk (by simp only [E.b, gd]; exact hS.some_of (by omega)) (den_chk (chk_le (by simp only [Sy.dens, Sy.den, E.i, E.b, E.t, gd, Env.push, List.cons_append, List.nil_append, List.append_nil, Int.toNat_natCast]; omega)) (den_look ⟨x.sc, x.v.k, x.v.n, ⟨x.nm.toArray⟩, ⟨x.v.t.toArray⟩, fun W' xW => ?_, ?_⟩))
    · have := sl_look (P := Try.prog) Vr.Ce.enc_len (by decide) hS ca_agg ca_size hx (ext_trans x1 xW)
      simp only [Sy.dens, Sy.den, E.i, E.b, E.t, gd, Env.push, List.cons_append, List.nil_append, List.append_nil, Int.toNat_natCast, Nat.add_zero] at this ⊢
      exact this
    simp only [Env.push, List.cons_append, List.nil_append, List.append_nil]
    refine den_call_q (fun hbk _ => op11_q id nm x m k _ (hbk _ (List.mem_cons_self ..)) (hbk _ (List.mem_cons_of_mem _ (List.mem_cons_self ..)))) ⟨(Vr.isCe id nm) x, rfl, fun W2 x2 => ?_⟩
    simp only [Env.push, List.cons_append, List.nil_append, List.append_nil]
    refine den_br (fun c2 => ?_) fun c2 => ?_
    · have c2 : (Vr.isCe id nm) x = true := by simpa only [Sy.dens, Sy.den, E.i, E.b, E.t, gd, Env.push, List.cons_append, List.nil_append, List.append_nil, Int.toNat_natCast] using c2
      refine den_ret fun _ _ _ => ⟨_, rfl, ?_⟩
      simp only [Sy.dens, Sy.den, E.i, E.b, E.t, gd, Env.push, List.cons_append, List.nil_append, List.append_nil, Int.toNat_natCast]
      rw [Vr.idx_some hx c2 hb]
    · have c2 : (Vr.isCe id nm) x = false := by simpa only [Sy.dens, Sy.den, E.i, E.b, E.t, gd, Env.push, List.cons_append, List.nil_append, List.append_nil, Int.toNat_natCast] using c2
      refine den_again ⟨l.length - (i + 1), by omega, i + 1, ?_, rfl, by omega, fun j y hj hy => ?_, rfl⟩
      · simp only [Sy.dens, Sy.den, E.i, E.b, E.t, gd, Env.push, List.cons_append, List.nil_append, List.append_nil, Int.toNat_natCast]; rw [w64i (by omega) (by omega)]; rfl
      · by_cases e : j = i
        · subst e; rw [hx] at hy; obtain rfl := Option.some.inj hy; exact c2
        · exact hb j y (by omega) hy
  · simp only [Sy.dens, Sy.den, E.i, E.b, E.t, gd, Env.push, List.cons_append, List.nil_append, List.append_nil, Int.toNat_natCast, ltB_false] at c1
    refine den_ret fun _ _ _ => ⟨_, rfl, ?_⟩
    rw [Vr.idx_none (fun j x hx => hb j x (by have := (List.getElem?_eq_some_iff.1 hx).1; omega) hx)]
    rfl
/-- slices.Index at numbers -/
theorem ixn_q (v : Int) (l : List Int) (hl : l.length ≤ 1000000) (ad : Option Addr) (n c : Nat) (W : Wd) (hS : SlW W.w ad n c 1 (l.map (Value.int .i64))) : CallsQ Try.prog 53 #[.slice ad n c, .int .i64 v] W (.int .i64 (Vr.idx (fun x => x == v) l)) := by
  have hS := hS.all
  have hn : l.length = n := by have := hS.1; simpa using this
  refine vc_ixn v n c ad W.all _ ?_
  refine den_loop (fun k vs ls _ => ∃ i : Nat, vs = [.int .i64 (i : Int)] ∧ ls = [] ∧ i ≤ l.length ∧ (∀ (j : Nat) x, j < i → l[j]? = some x → (x == v) = false) ∧ k = l.length - i) l.length ⟨0, rfl, rfl, Nat.zero_le _, fun j x h => absurd h (by omega), rfl⟩ ?_
  rintro k vs ls W1 x1 ⟨i, rfl, rfl, hi, hb, rfl⟩
  refine ⟨(i : Int), rfl, rfl, fun _ => ?_⟩
  simp only [Env.push, List.cons_append, List.nil_append, List.append_nil]
  refine den_br (fun c1 => ?_) fun c1 => ?_
  · simp only [Sy.dens, Sy.den, E.i, E.b, E.t, gd, Env.push, List.cons_append, List.nil_append, List.append_nil, Int.toNat_natCast, ltB_true] at c1
    have hil : i < l.length := by omega
    obtain ⟨x, hx⟩ : ∃ x, l[i]? = some x := ⟨l[i], List.getElem?_eq_getElem hil⟩
    refine den_chk (by simp only [E.b, gd]; exact hS.some_of (by omega)) (den_chk (chk_le (by simp only [Sy.dens, Sy.den, E.i, E.b, E.t, gd, Env.push, List.cons_append, List.nil_append, List.append_nil, Int.toNat_natCast]; omega)) (den_look ⟨x, fun W' xW => ?_, ?_⟩))
    · refine look_one (by kernel_rfl) ?_
      obtain ⟨_, _, ⟨_, z, _⟩ | ⟨bb, o, rfl, hI, hbb, hc⟩⟩ := hS.ext (ext_trans x1 xW)
      · omega
      · simp only [Sy.dens, Sy.den, E.i, E.b, E.t, gd, Env.push, List.cons_append, List.nil_append, List.append_nil, Int.toNat_natCast, Option.getD_some, Nat.mul_one, Nat.add_zero]
        rw [add_none]; exact hc i _ (by simp [hx])
    simp only [Env.push, List.cons_append, List.nil_append, List.append_nil]
    refine den_br (fun c2 => ?_) fun c2 => ?_
    · have c2 : v = x := by simpa [Sy.dens, Sy.den, E.i, E.b, E.t, gd, Env.push, List.cons_append, List.nil_append, List.append_nil, Int.toNat_natCast] using c2
      refine den_ret fun _ _ _ => ⟨_, rfl, ?_⟩
      simp only [Sy.dens, Sy.den, E.i, E.b, E.t, gd, Env.push, List.cons_append, List.nil_append, List.append_nil, Int.toNat_natCast]
      rw [Vr.idx_some hx (by simp [c2]) hb]
    · have c4 : ¬ v = x := by simpa [Sy.dens, Sy.den, E.i, E.b, E.t, gd, Env.push, List.cons_append, List.nil_append, List.append_nil, Int.toNat_natCast] using c2
      refine den_again ⟨l.length - (i + 1), by omega, i + 1, ?_, rfl, by omega, fun j y hj hy => ?_, rfl⟩
      · simp only [Sy.dens, Sy.den, E.i, E.b, E.t, gd, Env.push, List.cons_append, List.nil_append, List.append_nil, Int.toNat_natCast]; rw [w64i (by omega) (by omega)]; rfl
      · by_cases e : j = i
        · subst e; rw [hx] at hy; obtain rfl := Option.some.inj hy; simp; exact fun h => c4 h.symm
        · exact hb j y (by omega) hy
  · simp only [Sy.dens, Sy.den, E.i, E.b, E.t, gd, Env.push, List.cons_append, List.nil_append, List.append_nil, Int.toNat_natCast, ltB_false] at c1
    refine den_ret fun _ _ _ => ⟨_, rfl, ?_⟩
    rw [Vr.idx_none (fun j x hx => hb j x (by have := (List.getElem?_eq_some_iff.1 hx).1; omega) hx)]
    rfl
theorem conn_q (v : Int) (l : List Int) (hl : l.length ≤ 1000000) (ad : Option Addr) (n c : Nat) (W : Wd) (hS : SlW W.w ad n c 1 (l.map (Value.int .i64))) : CallsQ Try.prog 41 #[.slice ad n c, .int .i64 v] W (.bool (l.any fun x => x == v)) := by
  refine vc_conn v n c ad W.all _ ?_
  refine den_call_q (fun _ _ => ixn_q v l hl ad n c W.all hS) ⟨Vr.idx (fun x => x == v) l, rfl, fun W2 x2 => den_ret fun _ _ _ => ⟨_, rfl, ?_⟩⟩
  simp only [Sy.dens, Sy.den, E.i, E.b, E.t, gd, Env.push, List.cons_append, List.nil_append, List.append_nil, Int.toNat_natCast]
  rw [Vr.idx_le]
/-- vars.Drop$1 -/
theorem dr1_q (l : List Int) (hl : l.length ≤ 1000000) (sa : Option Addr) (sn sc : Nat) (x : Vr.Ce) (m : Nat) (W : Wd) (hm : W.w.heap[m]? = some (.cells #[.slice sa sn sc] 32)) (hS : SlW W.w sa sn sc 1 (l.map (Value.int .i64))) : CallsQ Try.prog 40 #[.agg x.enc.toArray, .pointer (some ⟨m, 0, none⟩)] W (.bool (Vr.isIn l x)) := by
  refine vc_dr1 x.sc x.v.k x.v.n sn sc ⟨x.nm.toArray⟩ ⟨x.v.t.toArray⟩ sa m W.all _ hm (heap_lt hm) ?_
  refine den_new fun _ W1 _ x1 => ?_
  simp only [Env.push, List.cons_append, List.nil_append, List.append_nil]
  refine den_call_q (fun _ _ => conn_q x.sc l hl sa sn sc W1 (SlAt.w ((hS.all).ext x1))) ⟨l.any fun y => y == x.sc, rfl, fun W2 x2 => den_ret fun _ _ _ => ⟨_, rfl, ?_⟩⟩
  simp only [Sy.dens, Sy.den, E.i, E.b, E.t, gd, Env.push, List.cons_append, List.nil_append, List.append_nil, Int.toNat_natCast, Vr.isIn]
theorem ixd_q (zs : List Int) (hz : zs.length ≤ 1000000) (sa : Option Addr) (sn sc m : Nat) (l : List Vr.Ce) (hl : l.length ≤ 1000000) (ad : Option Addr) (n c : Nat) (W : Wd) (hS : SlW W.w ad n c 5 (l.flatMap Vr.Ce.enc)) (hm : W.w.heap[m]? = some (.cells #[.slice sa sn sc] 32)) (hZ : SlW W.w sa sn sc 1 (zs.map (Value.int .i64))) :
    CallsQ Try.prog 42 #[.slice ad n c, .func (.func 40) #[] #[.pointer (some ⟨m, 0, none⟩)]] W (.int .i64 (Vr.idx (Vr.isIn zs) l)) := by
  have hS := hS.all
  have hn : l.length = n := by have := hS.1; rw [flat_len Vr.Ce.enc_len] at this; omega
  refine vc_ixd n c sn sc ad sa m W.all _ hm (heap_lt hm) ?_
  refine den_loop (fun k vs ls _ => ∃ i : Nat, vs = [.int .i64 (i : Int)] ∧ ls = [] ∧ i ≤ l.length ∧ (∀ (j : Nat) x, j < i → l[j]? = some x → (Vr.isIn zs) x = false) ∧ k = l.length - i) l.length ⟨0, rfl, rfl, Nat.zero_le _, fun j x h => absurd h (by omega), rfl⟩ ?_
  rintro k vs ls W1 x1 ⟨i, rfl, rfl, hi, hb, rfl⟩
  refine ⟨(i : Int), rfl, rfl, fun _ => ?_⟩
  simp only [Env.push, List.cons_append, List.nil_append, List.append_nil]
  refine den_br (fun c1 => ?_) fun c1 => ?_
  · simp only [Sy.dens, Sy.den, E.i, E.b, E.t, gd, Env.push, List.cons_append, List.nil_append, List.append_nil, Int.toNat_natCast, ltB_true] at c1
    have hil : i < l.length := by omega
    obtain ⟨x, hx⟩ : ∃ x, l[i]? = some x := ⟨l[i], List.getElem?_eq_getElem hil⟩
    refine den_chk (by simp only [E.b, gd]; exact hS.some_of (by omega)) (den_chk (chk_le (by simp only [Sy.dens, Sy.den, E.i, E.b, E.t, gd, Env.push, List.cons_append, List.nil_append, List.append_nil, Int.toNat_natCast]; omega)) (den_look ⟨x.sc, x.v.k, x.v.n, ⟨x.nm.toArray⟩, ⟨x.v.t.toArray⟩, fun W' xW => ?_, ?_⟩))
    · have := sl_look (P := Try.prog) Vr.Ce.enc_len (by decide) hS ca_agg ca_size hx (ext_trans x1 xW)
      simp only [Sy.dens, Sy.den, E.i, E.b, E.t, gd, Env.push, List.cons_append, List.nil_append, List.append_nil, Int.toNat_natCast, Nat.add_zero] at this ⊢
      exact this
    simp only [Env.push, List.cons_append, List.nil_append, List.append_nil]
    refine den_call_q (fun hbk _ => dr1_q zs hz sa sn sc x m _ (hbk _ (List.mem_cons_self ..)) (SlAt.w ((hZ.all).ext x1))) ⟨(Vr.isIn zs) x, rfl, fun W2 x2 => ?_⟩
    simp only [Env.push, List.cons_append, List.nil_append, List.append_nil]
    refine den_br (fun c2 => ?_) fun c2 => ?_
    · have c2 : (Vr.isIn zs) x = true := by simpa only [Sy.dens, Sy.den, E.i, E.b, E.t, gd, Env.push, List.cons_append, List.nil_append, List.append_nil, Int.toNat_natCast] using c2
      refine den_ret fun _ _ _ => ⟨_, rfl, ?_⟩
      simp only [Sy.dens, Sy.den, E.i, E.b, E.t, gd, Env.push, List.cons_append, List.nil_append, List.append_nil, Int.toNat_natCast]
      rw [Vr.idx_some hx c2 hb]
    · have c2 : (Vr.isIn zs) x = false := by simpa only [Sy.dens, Sy.den, E.i, E.b, E.t, gd, Env.push, List.cons_append, List.nil_append, List.append_nil, Int.toNat_natCast] using c2
      refine den_again ⟨l.length - (i + 1), by omega, i + 1, ?_, rfl, by omega, fun j y hj hy => ?_, rfl⟩
      · simp only [Sy.dens, Sy.den, E.i, E.b, E.t, gd, Env.push, List.cons_append, List.nil_append, List.append_nil, Int.toNat_natCast]; rw [w64i (by omega) (by omega)]; rfl
      · by_cases e : j = i
        · subst e; rw [hx] at hy; obtain rfl := Option.some.inj hy; exact c2
        · exact hb j y (by omega) hy
  · simp only [Sy.dens, Sy.den, E.i, E.b, E.t, gd, Env.push, List.cons_append, List.nil_append, List.append_nil, Int.toNat_natCast, ltB_false] at c1
    refine den_ret fun _ _ _ => ⟨_, rfl, ?_⟩
    rw [Vr.idx_none (fun j x hx => hb j x (by have := (List.getElem?_eq_some_iff.1 hx).1; omega) hx)]
    rfl
/-- slices.ContainsFunc, and vars.Open$1 -/
theorem cfo_q (id : Int) (nm : Vr.Bs) (m k : Nat) (l : List Vr.Ce) (hl : l.length ≤ 1000000) (ad : Option Addr) (n c : Nat) (W : Wd) (hS : SlW W.w ad n c 5 (l.flatMap Vr.Ce.enc)) (hm : W.w.heap[m]? = some (.cells #[.int .i64 id] 3)) (hk : W.w.heap[k]? = some (.cells #[.string ⟨nm.toArray⟩] 9)) :
    CallsQ Try.prog 26 #[.slice ad n c, .func (.func 27) #[] #[.pointer (some ⟨m, 0, none⟩), .pointer (some ⟨k, 0, none⟩)]] W (.bool (l.any (Vr.isCe id nm))) := by
  refine vc_cfo id n c ⟨nm.toArray⟩ ad m k W.all _ hm (heap_lt hm) hk (heap_lt hk) ?_
  refine den_call_q (fun hbk _ => ixo_q id nm m k l hl ad n c W.all hS (hbk _ (List.mem_cons_self ..)) (hbk _ (List.mem_cons_of_mem _ (List.mem_cons_self ..)))) ⟨Vr.idx (Vr.isCe id nm) l, rfl, fun W2 x2 => den_ret fun _ _ _ => ⟨_, rfl, ?_⟩⟩
  simp only [Sy.dens, Sy.den, E.i, E.b, E.t, gd, Env.push, List.cons_append, List.nil_append, List.append_nil, Int.toNat_natCast]
  rw [Vr.idx_le]
theorem op1_q (id : Int) (nm : Vr.Bs) (m : Nat) (l : List Vr.Ce) (hl : l.length ≤ 1000000) (ad : Option Addr) (n c : Nat) (W : Wd) (hS : SlW W.w ad n c 5 (l.flatMap Vr.Ce.enc)) (hm : W.w.heap[m]? = some (.cells #[.int .i64 id] 3)) :
    CallsQ Try.prog 25 #[.slice ad n c, .string ⟨nm.toArray⟩, .pointer (some ⟨m, 0, none⟩)] W (.bool (l.any (Vr.isCe id nm))) := by
  refine vc_op1 id n c ⟨nm.toArray⟩ ad m W.all _ hm (heap_lt hm) ?_
  refine den_new fun k W1 _ x1 => ?_
  simp only [Env.push, List.cons_append, List.nil_append, List.append_nil]
  refine den_call_q (fun hbk _ => cfo_q id nm m k l hl ad n c W1 (SlAt.w ((hS.all).ext x1)) (hbk _ (List.mem_cons_of_mem _ (List.mem_cons_self ..))) (hbk _ (List.mem_cons_self ..))) ⟨l.any (Vr.isCe id nm), rfl, fun W2 x2 => den_ret fun _ _ _ => ⟨_, rfl, ?_⟩⟩
  simp only [Sy.dens, Sy.den, E.i, E.b, E.t, gd, Env.push, List.cons_append, List.nil_append, List.append_nil, Int.toNat_natCast]
/-- arena.place, arena.Find -/
theorem apl_q (S : Vr.StV) (its : List Vr.It) (hl : its.length ≤ 1000000) (id : Int) (W : Wd) (hS : SlW W.w S.i.a S.i.n S.i.c 8 (its.flatMap Vr.It.enc)) : CallsQ Try.prog 56 #[S.val, .int .i64 id] W (.int .i64 (Vr.idx (Vr.isId id) its)) := by
  refine vc_apl S.ck S.nx id S.d.n S.d.c S.i.n S.i.c S.c.n S.c.c S.h.n S.h.c S.d.a S.i.a S.c.a S.h.a W.all _ ?_
  refine den_new fun m W1 _ x1 => den_new fun k W2 _ x2 => ?_
  simp only [Env.push, List.cons_append, List.nil_append, List.append_nil]
  refine den_call_q (fun hbk _ => ixi_q id k its hl S.i.a S.i.n S.i.c W2 (SlAt.w ((hS.all).ext (ext_trans x1 x2))) (hbk _ (List.mem_cons_self ..))) ⟨Vr.idx (Vr.isId id) its, rfl, fun W3 x3 => den_ret fun _ _ _ => ⟨_, rfl, ?_⟩⟩
  simp only [Sy.dens, Sy.den, E.i, E.b, E.t, gd, Env.push, List.cons_append, List.nil_append, List.append_nil, Int.toNat_natCast]
theorem find_q (S : Vr.StV) (its : List Vr.It) (hl : its.length ≤ 1000000) (id : Int) (W : Wd) (hS : SlW W.w S.i.a S.i.n S.i.c 8 (its.flatMap Vr.It.enc)) : CallsQ Try.prog 48 #[S.val, .int .i64 id] W (.tuple #[.agg ((its.find? (Vr.isId id)).getD Vr.It.zero).enc.toArray, .bool (its.find? (Vr.isId id)).isSome]) := by
  have hS := hS.all
  have hn : its.length = S.i.n := by have := hS.1; rw [flat_len Vr.It.enc_len] at this; omega
  refine vc_find S.ck S.nx id S.d.n S.d.c S.i.n S.i.c S.c.n S.c.c S.h.n S.h.c S.d.a S.i.a S.c.a S.h.a W.all _ ?_
  refine den_new fun m W1 _ x1 => den_new fun k W2 _ x2 => ?_
  simp only [Env.push, List.cons_append, List.nil_append, List.append_nil]
  refine den_call_q (fun _ _ => apl_q S its hl id W2 (SlAt.w (hS.ext (ext_trans x1 x2)))) ⟨Vr.idx (Vr.isId id) its, rfl, fun W3 x3 => ?_⟩
  simp only [Env.push, List.cons_append, List.nil_append, List.append_nil]
  have y3 := ext_trans (ext_trans x1 x2) x3
  rcases Vr.idx_find (Vr.isId id) its with ⟨e1, e2⟩ | ⟨i, x, e1, e2, hx⟩
  · refine den_br_t (by simp only [Sy.dens, Sy.den, E.i, E.b, E.t, gd, Env.push, List.cons_append, List.nil_append, List.append_nil, Int.toNat_natCast, e1]; rfl) (den_wr fun W4 x4 => den_ret fun _ _ _ => ⟨_, rfl, ?_⟩)
    rw [e2]; rfl
  · have hil := (List.getElem?_eq_some_iff.1 hx).1
    refine den_br_f (by simp only [Sy.dens, Sy.den, E.i, E.b, E.t, gd, Env.push, List.cons_append, List.nil_append, List.append_nil, Int.toNat_natCast, e1]; exact ltB_f (by omega)) (den_chk (by simp only [E.b, gd]; exact hS.some_of (by omega)) (den_chk (chk_le (by simp only [Sy.dens, Sy.den, E.i, E.b, E.t, gd, Env.push, List.cons_append, List.nil_append, List.append_nil, Int.toNat_natCast, e1]; omega)) (den_chk (chk_lt (by simp only [Sy.dens, Sy.den, E.i, E.b, E.t, gd, Env.push, List.cons_append, List.nil_append, List.append_nil, Int.toNat_natCast, e1]; omega)) (den_look ⟨x.id, x.up, x.is, x.node, x.frm, x.wait, ⟨x.proc.toArray⟩, ⟨x.code.toArray⟩, fun W' xW => ?_, ?_⟩))))
    · have := sl_look (P := Try.prog) Vr.It.enc_len (by decide) hS ia_agg ia_size hx (ext_trans y3 xW)
      simp only [Sy.dens, Sy.den, E.i, E.b, E.t, gd, Env.push, List.cons_append, List.nil_append, List.append_nil, Int.toNat_natCast, e1, Nat.add_zero] at this ⊢
      exact this
    simp only [Env.push, List.cons_append, List.nil_append, List.append_nil]
    refine den_wr fun W4 x4 => den_ret fun _ _ _ => ⟨_, rfl, ?_⟩
    rw [e2]; rfl
end Go.Proofs.Ytamnfdmmjjekhaa
