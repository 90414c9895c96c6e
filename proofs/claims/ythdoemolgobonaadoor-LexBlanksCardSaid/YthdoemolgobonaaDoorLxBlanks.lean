/- Spaces ahead, behind, and between parts. -/
import Derived.Test.YthdoemolgobonaaDoorLxAll
namespace Go.Proofs.YthdoemolgobonaaDoor
open Go Go.RowKit Go.SF
set_option linter.unusedSimpArgs false
set_option linter.unusedVariables false

/-- so many spaces -/
def spN (n : Int) : Nat := (IntKind.u64.wrap n).tmod 4 |>.toNat
theorem spN_le (n : Int) : spN n ≤ 3 := by
  unfold spN
  have h := Int.tmod_lt_of_pos (IntKind.u64.wrap n) (b := 4) (by decide)
  omega
theorem u64_pos (n : Int) : 0 ≤ IntKind.u64.wrap n := by simp [IntKind.wrap, IntKind.bits, IntKind.signed]; omega
theorem spN_cast (n : Int) : ((spN n : Nat) : Int) = (IntKind.u64.wrap n).tmod 4 := by
  unfold spN
  have := Int.tmod_nonneg 4 (u64_pos n)
  omega
theorem spaces_q (n : Int) (W : Wd) : CallsQ Tryd.prog 12 #[.int .i64 n] W (.string ⟨(List.replicate (spN n) 32).toArray⟩) := by
  refine vc_spaces n W.all _ ?_
  have h3 := spN_le n
  have hc := spN_cast n
  refine den_loop (fun k vs ls _ => ∃ i : Nat, vs = [.int .i64 (i : Int), .string ⟨(List.replicate i 32).toArray⟩] ∧ ls = [] ∧ i ≤ spN n ∧ k = spN n - i) (spN n) ⟨0, rfl, rfl, Nat.zero_le _, rfl⟩ ?_
  rintro k vs ls W1 x1 ⟨i, rfl, rfl, hi, rfl⟩
  refine ⟨(i : Int), ⟨(List.replicate i 32).toArray⟩, rfl, rfl, fun _ => ?_⟩
  simp only [Env.push, List.cons_append, List.nil_append, List.append_nil]
  have hsz : (⟨(List.replicate i 32).toArray⟩ : ByteArray).size = i := by rw [← size_len]; simp
  refine den_br (fun c1 => ?_) fun c1 => ?_
  · have c1 : ltB (i : Int) (IntKind.i64.wrap ((IntKind.u64.wrap n).tmod 4)) = true := c1
    rw [← hc, w64i (by omega) (by omega), ltB_true] at c1
    refine den_chk ?_ (den_again ⟨spN n - (i + 1), by omega, i + 1, ?_, rfl, by omega, rfl⟩)
    · simp only [Sy.dens, Sy.den, E.i, E.b, E.t, gd, Env.push, List.cons_append, List.nil_append, List.append_nil, Int.toNat_natCast, hsz]; refine leB_t ?_; rw [show (⟨[32].toArray⟩ : ByteArray).size = 1 from rfl]; omega
    · simp only [Sy.dens, Sy.den, E.i, E.b, E.t, gd, Env.push, List.cons_append, List.nil_append, List.append_nil, Int.toNat_natCast]
      rw [w64i (by omega) (by omega)]
      have : (⟨(List.replicate i 32).toArray⟩ : ByteArray) ++ ⟨[32].toArray⟩ = ⟨(List.replicate (i + 1) 32).toArray⟩ := by
        rw [cat_list]; simp [List.replicate_succ']
      rw [this]; rfl
  · have c1 : ltB (i : Int) (IntKind.i64.wrap ((IntKind.u64.wrap n).tmod 4)) = false := c1
    rw [← hc, w64i (by omega) (by omega), ltB_false] at c1
    obtain rfl : i = spN n := by omega
    exact den_ret fun _ _ _ => ⟨_, rfl, rfl⟩

def intC (n : Int) : List Value := [.int .i64 n]
theorem intC_len (n : Int) : (intC n).length = 1 := rfl
theorem int_agg : aggT Tryd.prog 3 = some false := by kernel_rfl
/-- how many spaces before part i -/
def ksOf (ns : List Int) (i : Nat) : Nat := ((ns[i]?).map spN).getD 0
theorem ksOf_le (ns : List Int) (i : Nat) : ksOf ns i ≤ 3 := by
  unfold ksOf
  cases ns[i]? with
  | none => simp
  | some n => simpa using spN_le n
theorem blanks_succ (ks : Nat → Nat) {ts : List Lx.Tok} {i : Nat} {t : Lx.Tok} (h : ts[i]? = some t) : Lx.blanks ks 0 (ts.take (i + 1)) = Lx.blanks ks 0 (ts.take i) ++ (List.replicate (ks i) 32 ++ (Lx.text t ++ [32])) := by
  have hi := (List.getElem?_eq_some_iff.1 h).1
  rw [take_succ h, Lx.blanks_app]
  simp only [Lx.blanks, List.length_take, Nat.min_eq_left (Nat.le_of_lt hi), Nat.zero_add]
theorem blanks_pre (ks : Nat → Nat) (hk : ∀ i, ks i ≤ 3) (ts : List Lx.Tok) (i : Nat) (hl : ts.length ≤ 100) (hf : (ts.map Lx.text).flatten.length ≤ 100) : (Lx.blanks ks 0 (ts.take i)).length ≤ 500 := by
  have h1 := Lx.blanks_len ks hk (ts.take i) 0
  have h2 : ((ts.map Lx.text).flatten).length = ((ts.take i).map Lx.text).flatten.length + ((ts.drop i).map Lx.text).flatten.length := by
    conv => lhs; rw [← List.take_append_drop i ts]
    rw [List.map_append, List.flatten_append, List.length_append]
  have h3 : (ts.take i).length ≤ ts.length := by rw [List.length_take]; omega
  omega
set_option maxRecDepth 100000 in
theorem lexBlanks_q (t : ByteArray) (a : Option Addr) (c : Nat) (ns : List Int) (W : Wd) (hG : Glob W) (h : SlW W.w a ns.length c 1 (ns.flatMap intC)) :
    CallsQ Tryd.prog 3 #[.string t, .slice a ns.length c] W (.bool true) := by
  refine vc_lexBlanks ns.length c t a W.all _ ?_
  have hs := size_len t
  have hG := hG.ext W.all_ext
  have hN := h.all
  have h1 := awake_q W.all hG
  refine den_br (fun c1 => ?_) fun c1 => ?_
  · refine den_call_q (fun _ _ => h1) ⟨true, rfl, fun W2 x2 => den_br_f rfl ?_⟩
    simp only [Env.push, List.cons_append, List.nil_append, List.append_nil]
    have hG2 := hG.ext x2
    have h2 := lex_i t W2 hG2
    refine den_call_i (fun _ _ => h2) fun v w3 _ ⟨a3, c3, hv3, ht3⟩ => ⟨(Lx.lex t.data.toList).2, (Lx.lex t.data.toList).1.length, c3, a3, hv3, fun W3 e3 x3 n3 => ?_⟩
    have T3 := ht3.stay e3 n3
    have hG3 := hG2.ext x3
    have hN3 := (hN.ext x2).ext x3
    simp only [Env.push, List.cons_append, List.nil_append, List.append_nil]
    generalize hlx : Lx.lex t.data.toList = r at T3 ⊢
    obtain ⟨ts, e⟩ := r
    simp only at T3 ⊢
    rcases Lx.lex_ok hlx with ⟨he, rfl⟩ | ⟨rfl, hl, hb, hfl, hall⟩
    · refine den_br_t (by simp [E.b, E.i, gd, he]) (den_ret fun _ _ _ => ⟨_, rfl, rfl⟩)
    · refine den_br_f rfl ?_
      have hcnt := Lx.count_le hall
      generalize hks : ksOf ns = ks
      have hk3 : ∀ i, ks i ≤ 3 := fun i => hks ▸ ksOf_le ns i
      have hmay : ∀ t ∈ ts, Lx.may t.k t.t = true := fun t ht => List.all_eq_true.1 hall t ht
      refine den_loop (fun k vs ls _ => ∃ (i : Nat), vs = [.string ⟨(Lx.blanks ks 0 (ts.take i)).toArray⟩, .bool false, .int .i64 (i : Int)] ∧ ls = [] ∧ i ≤ ts.length ∧ k = ts.length - i) ts.length ⟨0, rfl, rfl, Nat.zero_le _, rfl⟩ ?_
      rintro k vs ls W4 x4 ⟨i, rfl, rfl, hi, rfl⟩
      refine ⟨(i : Int), false, ⟨(Lx.blanks ks 0 (ts.take i)).toArray⟩, rfl, rfl, fun _ => ?_⟩
      simp only [Env.push, List.cons_append, List.nil_append, List.append_nil]
      have hpre := blanks_pre ks hk3 ts i (by omega) (by omega)
      have hps : (⟨(Lx.blanks ks 0 (ts.take i)).toArray⟩ : ByteArray).size ≤ 500 := by rw [← size_len]; simpa using hpre
      have T4 := T3.ext x4
      have hG4 := hG3.ext x4
      have hN4 := hN3.ext x4
      have e39 : (⟨[39].toArray⟩ : ByteArray).size = 1 := rfl
      have e32 : (⟨[32].toArray⟩ : ByteArray).size = 1 := rfl
      have e3932 : (⟨[39, 32].toArray⟩ : ByteArray).size = 2 := rfl
      refine den_br (fun c2 => ?_) fun c2 => ?_
      · simp only [Sy.dens, Sy.den, E.i, E.b, E.t, gd, Env.push, List.cons_append, List.nil_append, List.append_nil, Int.toNat_natCast, ltB_true] at c2
        have hil : i < ts.length := by omega
        have hx : ts[i]? = some ts[i] := List.getElem?_eq_getElem hil
        have hsz : (⟨ts[i].t.toArray⟩ : ByteArray).size = ts[i].t.length := by rw [← size_len]
        have hm1 := Lx.mem_le (List.getElem_mem hil)
        have hm2 := Lx.tt_le ts[i]
        have hmi := hmay _ (List.getElem_mem hil)
        have hw : IntKind.i64.wrap ((i : Int) + 1) = ((i + 1 : Nat) : Int) := by rw [w64i (by omega) (by omega)]; rfl
        have hnext := blanks_succ ks hx
        refine den_chk ?_ (den_chk ?_ (den_look ⟨ts[i].k, ⟨ts[i].t.toArray⟩, fun W5 x5 => ?_, ?_⟩))
        · simp only [E.b, gd, Env.push]; exact T4.some_of (by omega)
        · simp only [Sy.dens, Sy.den, E.i, E.b, E.t, gd, Env.push, List.cons_append, List.nil_append, List.append_nil, Int.toNat_natCast]; exact leB_t (by omega)
        · have := sl_look (P := Tryd.prog) tokC_len (by decide) T4 tokL_agg tokL_size hx x5
          simp only [Sy.den, gd, E.i, Env.push, Int.toNat_natCast, List.nil_append, List.cons_append]
          exact this
        simp only [Env.push, List.cons_append, List.nil_append, List.append_nil]
        have hm := may_q ts[i].k ⟨ts[i].t.toArray⟩ (by omega) W4 hG4
        simp only [hmi] at hm
        refine den_call_q (fun _ _ => hm) ⟨true, rfl, fun W5 x5 => den_br_f rfl ?_⟩
        simp only [Env.push, List.cons_append, List.nil_append, List.append_nil]
        have T5 := T4.ext x5
        have hN5 := hN4.ext x5
        have hlk : ∀ W6, Ext W5 W6 → _ := fun W6 x6 => sl_look_f (P := Tryd.prog) tokC_len T5 u8_agg (k := 0) hx (by decide) (u := .int .u8 ts[i].k) rfl x6
        have hlt : ∀ W6, Ext W5 W6 → _ := fun W6 x6 => sl_look_f (P := Tryd.prog) tokC_len T5 str_agg (k := 1) hx (by decide) (u := .string ⟨ts[i].t.toArray⟩) rfl x6
        refine den_br (fun c3 => ?_) fun c3 => ?_
        · simp only [Sy.dens, Sy.den, E.i, E.b, E.t, gd, Env.push, List.cons_append, List.nil_append, List.append_nil, Int.toNat_natCast, ltB_true] at c3
          have hin : i < ns.length := by omega
          have hn : ns[i]? = some ns[i] := List.getElem?_eq_getElem hin
          have hki : ks i = spN ns[i] := by rw [← hks]; unfold ksOf; rw [hn]; rfl
          refine den_chk ?_ (den_look ⟨ns[i], fun W6 x6 => ?_, ?_⟩)
          · simp only [E.b, gd, Env.push]; exact hN5.some_of (by omega)
          · have := sl_look_f (P := Tryd.prog) intC_len hN5 int_agg (k := 0) hn (by decide) (u := .int .i64 ns[i]) rfl x6
            simp only [Sy.den, gd, E.i, Env.push, Int.toNat_natCast, List.nil_append, List.cons_append]
            exact this
          simp only [Env.push, List.cons_append, List.nil_append, List.append_nil]
          have hsp := spaces_q ns[i] W5
          refine den_call_q (fun _ _ => hsp) ⟨⟨(List.replicate (spN ns[i]) 32).toArray⟩, rfl, fun W6 x6 => ?_⟩
          simp only [Env.push, List.cons_append, List.nil_append, List.append_nil]
          have hss : (⟨(List.replicate (spN ns[i]) 32).toArray⟩ : ByteArray).size ≤ 3 := by rw [← size_len]; simpa using spN_le ns[i]
          rw [hki] at hnext
          refine den_chk ?_ (den_look ⟨ts[i].k, fun W7 x7 => ?_, ?_⟩)
          · simp only [Sy.dens, Sy.den, E.i, E.b, E.t, gd, Env.push, List.cons_append, List.nil_append, List.append_nil, Int.toNat_natCast]; exact leB_t (by omega)
          · have := hlk W7 (x6.trans x7)
            simp only [Sy.den, gd, E.i, Env.push, Int.toNat_natCast, List.nil_append, List.cons_append]
            exact this
          simp only [Env.push, List.cons_append, List.nil_append, List.append_nil]
          refine den_br (fun c4 => ?_) fun c4 => ?_
          · simp only [Sy.dens, Sy.den, E.i, E.b, E.t, gd, Env.push, List.cons_append, List.nil_append, List.append_nil, Int.toNat_natCast, beq_iff_eq] at c4
            have ht3 : Lx.text ts[i] = 39 :: (ts[i].t ++ [39]) := by simp [Lx.text, c4]
            have hcat : (⟨(Lx.blanks ks 0 (ts.take i)).toArray⟩ : ByteArray) ++ ⟨(List.replicate (spN ns[i]) 32).toArray⟩ ++ ⟨[39].toArray⟩ ++ ⟨ts[i].t.toArray⟩ ++ ⟨[39, 32].toArray⟩ = ⟨(Lx.blanks ks 0 (ts.take (i + 1))).toArray⟩ := by
              rw [hnext, ht3]; simp only [cat_list]; simp
            refine den_chk ?_ (den_look ⟨⟨ts[i].t.toArray⟩, fun W7 x7 => ?_, den_chk ?_ (den_chk ?_ (den_again ⟨ts.length - (i + 1), by omega, i + 1, ?_, rfl, by omega, rfl⟩))⟩)
            · simp only [Sy.dens, Sy.den, E.i, E.b, E.t, gd, Env.push, List.cons_append, List.nil_append, List.append_nil, Int.toNat_natCast, ByteArray.size_append]; exact leB_t (by omega)
            · have := hlt W7 (x6.trans x7)
              simp only [Sy.den, gd, E.i, Env.push, Int.toNat_natCast, List.nil_append, List.cons_append]
              exact this
            · simp only [Sy.dens, Sy.den, E.i, E.b, E.t, gd, Env.push, List.cons_append, List.nil_append, List.append_nil, Int.toNat_natCast, ByteArray.size_append]; exact leB_t (by omega)
            · simp only [Sy.dens, Sy.den, E.i, E.b, E.t, gd, Env.push, List.cons_append, List.nil_append, List.append_nil, Int.toNat_natCast, ByteArray.size_append]; exact leB_t (by omega)
            · simp only [Sy.dens, Sy.den, E.i, E.b, E.t, gd, Env.push, List.cons_append, List.nil_append, List.append_nil, Int.toNat_natCast, hw, hcat]
          · simp only [Sy.dens, Sy.den, E.i, E.b, E.t, gd, Env.push, List.cons_append, List.nil_append, List.append_nil, Int.toNat_natCast, beq_eq_false_iff_ne] at c4
            have ht3 : Lx.text ts[i] = ts[i].t := by simp [Lx.text, c4]
            have hcat : (⟨(Lx.blanks ks 0 (ts.take i)).toArray⟩ : ByteArray) ++ ⟨(List.replicate (spN ns[i]) 32).toArray⟩ ++ ⟨ts[i].t.toArray⟩ ++ ⟨[32].toArray⟩ = ⟨(Lx.blanks ks 0 (ts.take (i + 1))).toArray⟩ := by
              rw [hnext, ht3]; simp only [cat_list]; simp
            refine den_look ⟨⟨ts[i].t.toArray⟩, fun W7 x7 => ?_, den_chk ?_ (den_chk ?_ (den_again ⟨ts.length - (i + 1), by omega, i + 1, ?_, rfl, by omega, rfl⟩))⟩
            · have := hlt W7 (x6.trans x7)
              simp only [Sy.den, gd, E.i, Env.push, Int.toNat_natCast, List.nil_append, List.cons_append]
              exact this
            · simp only [Sy.dens, Sy.den, E.i, E.b, E.t, gd, Env.push, List.cons_append, List.nil_append, List.append_nil, Int.toNat_natCast, ByteArray.size_append]; exact leB_t (by omega)
            · simp only [Sy.dens, Sy.den, E.i, E.b, E.t, gd, Env.push, List.cons_append, List.nil_append, List.append_nil, Int.toNat_natCast, ByteArray.size_append]; exact leB_t (by omega)
            · simp only [Sy.dens, Sy.den, E.i, E.b, E.t, gd, Env.push, List.cons_append, List.nil_append, List.append_nil, Int.toNat_natCast, hw, hcat]
        · simp only [Sy.dens, Sy.den, E.i, E.b, E.t, gd, Env.push, List.cons_append, List.nil_append, List.append_nil, Int.toNat_natCast, ltB_false] at c3
          have hn : ns[i]? = none := List.getElem?_eq_none (by omega)
          have hki : ks i = 0 := by rw [← hks]; unfold ksOf; rw [hn]; rfl
          rw [hki] at hnext
          refine den_look ⟨ts[i].k, fun W7 x7 => ?_, ?_⟩
          · have := hlk W7 x7
            simp only [Sy.den, gd, E.i, Env.push, Int.toNat_natCast, List.nil_append, List.cons_append]
            exact this
          simp only [Env.push, List.cons_append, List.nil_append, List.append_nil]
          refine den_br (fun c4 => ?_) fun c4 => ?_
          · simp only [Sy.dens, Sy.den, E.i, E.b, E.t, gd, Env.push, List.cons_append, List.nil_append, List.append_nil, Int.toNat_natCast, beq_iff_eq] at c4
            have ht3 : Lx.text ts[i] = 39 :: (ts[i].t ++ [39]) := by simp [Lx.text, c4]
            have hcat : (⟨(Lx.blanks ks 0 (ts.take i)).toArray⟩ : ByteArray) ++ ⟨[39].toArray⟩ ++ ⟨ts[i].t.toArray⟩ ++ ⟨[39, 32].toArray⟩ = ⟨(Lx.blanks ks 0 (ts.take (i + 1))).toArray⟩ := by
              rw [hnext, ht3]; simp only [cat_list]; simp
            refine den_chk ?_ (den_look ⟨⟨ts[i].t.toArray⟩, fun W7 x7 => ?_, den_chk ?_ (den_chk ?_ (den_again ⟨ts.length - (i + 1), by omega, i + 1, ?_, rfl, by omega, rfl⟩))⟩)
            · simp only [Sy.dens, Sy.den, E.i, E.b, E.t, gd, Env.push, List.cons_append, List.nil_append, List.append_nil, Int.toNat_natCast, ByteArray.size_append]; exact leB_t (by omega)
            · have := hlt W7 x7
              simp only [Sy.den, gd, E.i, Env.push, Int.toNat_natCast, List.nil_append, List.cons_append]
              exact this
            · simp only [Sy.dens, Sy.den, E.i, E.b, E.t, gd, Env.push, List.cons_append, List.nil_append, List.append_nil, Int.toNat_natCast, ByteArray.size_append]; exact leB_t (by omega)
            · simp only [Sy.dens, Sy.den, E.i, E.b, E.t, gd, Env.push, List.cons_append, List.nil_append, List.append_nil, Int.toNat_natCast, ByteArray.size_append]; exact leB_t (by omega)
            · simp only [Sy.dens, Sy.den, E.i, E.b, E.t, gd, Env.push, List.cons_append, List.nil_append, List.append_nil, Int.toNat_natCast, hw, hcat]
          · simp only [Sy.dens, Sy.den, E.i, E.b, E.t, gd, Env.push, List.cons_append, List.nil_append, List.append_nil, Int.toNat_natCast, beq_eq_false_iff_ne] at c4
            have ht3 : Lx.text ts[i] = ts[i].t := by simp [Lx.text, c4]
            have hcat : (⟨(Lx.blanks ks 0 (ts.take i)).toArray⟩ : ByteArray) ++ ⟨ts[i].t.toArray⟩ ++ ⟨[32].toArray⟩ = ⟨(Lx.blanks ks 0 (ts.take (i + 1))).toArray⟩ := by
              rw [hnext, ht3]; simp only [cat_list]; simp
            refine den_look ⟨⟨ts[i].t.toArray⟩, fun W7 x7 => ?_, den_chk ?_ (den_chk ?_ (den_again ⟨ts.length - (i + 1), by omega, i + 1, ?_, rfl, by omega, rfl⟩))⟩
            · have := hlt W7 x7
              simp only [Sy.den, gd, E.i, Env.push, Int.toNat_natCast, List.nil_append, List.cons_append]
              exact this
            · simp only [Sy.dens, Sy.den, E.i, E.b, E.t, gd, Env.push, List.cons_append, List.nil_append, List.append_nil, Int.toNat_natCast, ByteArray.size_append]; exact leB_t (by omega)
            · simp only [Sy.dens, Sy.den, E.i, E.b, E.t, gd, Env.push, List.cons_append, List.nil_append, List.append_nil, Int.toNat_natCast, ByteArray.size_append]; exact leB_t (by omega)
            · simp only [Sy.dens, Sy.den, E.i, E.b, E.t, gd, Env.push, List.cons_append, List.nil_append, List.append_nil, Int.toNat_natCast, hw, hcat]
      · simp only [Sy.dens, Sy.den, E.i, E.b, E.t, gd, Env.push, List.cons_append, List.nil_append, List.append_nil, Int.toNat_natCast, ltB_false] at c2
        obtain rfl : i = ts.length := by omega
        rw [List.take_length] at hpre hps ⊢
        have h5 := lex_i ⟨(Lx.blanks ks 0 ts).toArray⟩ W4 hG4
        rw [show (⟨(Lx.blanks ks 0 ts).toArray⟩ : ByteArray).data.toList = Lx.blanks ks 0 ts by simp] at h5
        have hbs : ((⟨(Lx.blanks ks 0 ts).toArray⟩ : ByteArray).size : Int) = ((Lx.blanks ks 0 ts).length : Int) := by rw [← size_len]
        refine den_call_i (fun _ _ => h5) fun v w5 _ ⟨a5, c5, hv5, ht5⟩ => ⟨(Lx.lex (Lx.blanks ks 0 ts)).2, (Lx.lex (Lx.blanks ks 0 ts)).1.length, c5, a5, hv5, fun W5 e5 x5 n5 => ?_⟩
        have T5 := ht5.stay e5 n5
        simp only [Env.push, List.cons_append, List.nil_append, List.append_nil]
        by_cases hlong : 100 < (Lx.blanks ks 0 ts).length
        · have hb1 : ltB 100 ((⟨(Lx.blanks ks 0 ts).toArray⟩ : ByteArray).size : Int) = true := ltB_t (by omega)
          refine den_br_f ?_ (den_ret fun _ _ _ => ⟨_, rfl, ?_⟩)
          · simp only [Sy.dens, Sy.den, E.i, E.b, E.t, gd, Env.push, List.cons_append, List.nil_append, List.append_nil, Int.toNat_natCast, hb1]; rfl
          · simp only [Sy.dens, Sy.den, E.i, E.b, E.t, gd, Env.push, List.cons_append, List.nil_append, List.append_nil, Int.toNat_natCast, hb1]
        · have hb1 : ltB 100 ((⟨(Lx.blanks ks 0 ts).toArray⟩ : ByteArray).size : Int) = false := ltB_f (by omega)
          have hq := Lx.lex_blanks ks hall (by omega)
          rw [hq] at T5 ⊢
          refine den_br_t ?_ ?_
          · simp only [Sy.dens, Sy.den, E.i, E.b, E.t, gd, Env.push, List.cons_append, List.nil_append, List.append_nil, Int.toNat_natCast, hb1]; rfl
          have h6 := told_i W5 a5 c5 ts T5.w (by omega)
          refine den_call_i (fun _ _ => h6) fun v w6 _ ⟨a6, c6, hv6, ht6⟩ => ⟨ts.length, c6, a6, hv6, fun W6 e6 x6 n6 => ?_⟩
          have T6 := ht6.stay e6 n6
          simp only [Env.push, List.cons_append, List.nil_append, List.append_nil]
          have h7 := told_i W6 a3 c3 ts ((T4.ext x5).ext x6).w (by omega)
          refine den_call_i (fun _ _ => h7) fun v w7 _ ⟨a7, c7, hv7, ht7⟩ => ⟨ts.length, c7, a7, hv7, fun W7 e7 x7 n7 => ?_⟩
          have T7 := ht7.stay e7 n7
          simp only [Env.push, List.cons_append, List.nil_append, List.append_nil]
          have h8 := same_q W7 a6 a7 c6 c7 ts ts (T6.ext x7).w T7.w (by omega)
          refine den_call_q (fun _ _ => h8) ⟨_, rfl, fun W9 x9 => den_ret fun _ _ _ => ⟨_, rfl, ?_⟩⟩
          show Value.bool (decide (ts = ts)) = Value.bool true
          rw [decide_eq_true rfl]
  · refine den_call_q (fun _ _ => h1) ⟨true, rfl, fun W2 x2 => den_ret fun _ _ _ => ⟨_, rfl, rfl⟩⟩
end Go.Proofs.YthdoemolgobonaaDoor
