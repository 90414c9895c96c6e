/- ParseParts: the walk. -/
import Derived.Test.YtckgdgkkmhochaaGreatDoorPxBack
import Derived.Test.YtckgdgkkmhochaaGreatDoorPxNames
import Derived.Test.YtckgdgkkmhochaaGreatDoorVcParts
set_option linter.unusedVariables false
namespace Px
open Go
theorem bless_irr : ∀ x : List UInt8, Op.bytesLess x x = false
  | [] => rfl
  | a :: x => by simp [Op.bytesLess, bless_irr x]
theorem bless_eq : ∀ (x y : List UInt8), Op.bytesLess x y = decide (x < y)
  | [], [] => by simp [Op.bytesLess]
  | [], _ :: _ => by simp [Op.bytesLess]
  | _ :: _, [] => by simp [Op.bytesLess]
  | a :: x, b :: y => by
    have ih := bless_eq x y
    simp only [Op.bytesLess, ih, List.cons_lt_cons_iff]
    by_cases h1 : a < b
    · simp [h1]
    · by_cases h2 : a = b
      · subst h2; simp [h1]
      · simp [h1, h2]
theorem rises_at {l : List Lx.Bs} (h : Rises l) {i j : Nat} (hij : i < j) {a b : Lx.Bs} (ha : l[i]? = some a) (hb : l[j]? = some b) : (Op.bytesLess b a || (b == a)) = false := by
  have h1 : a < b := by
    have hi := (List.getElem?_eq_some_iff.1 ha)
    have hj := (List.getElem?_eq_some_iff.1 hb)
    obtain ⟨hi, rfl⟩ := hi
    obtain ⟨hj, rfl⟩ := hj
    exact List.pairwise_iff_getElem.1 h i j hi hj hij
  rw [bless_eq]
  have h2 : ¬ b < a := fun h => List.lt_irrefl a (List.lt_trans h1 h)
  have h3 : ¬ b = a := fun h => by rw [h] at h1; exact List.lt_irrefl a h1
  simp [h2, h3]
mutual
theorem nodes_sz : ∀ (e : Ex) (n : Nat), Tx.sz e n < n → nodes e = Tx.sz e n
  | .mk op k m t nm l, n, h => by
    simp only [Tx.sz] at h ⊢
    simp only [nodes]
    have := nodess_sz l 1 n h
    omega
theorem nodess_sz : ∀ (l : List Ex) (w n : Nat), Tx.szs l w n < n → w + nodess l = Tx.szs l w n
  | [], w, n, h => by simp [Tx.szs, nodess]
  | e :: l, w, n, h => by
    simp only [Tx.szs] at h ⊢
    split at h
    · rename_i hc
      rw [if_pos hc]
      have h1 := Tx.szs_ge l (w + Tx.sz e (n - w)) n
      have h2 := nodes_sz e (n - w) (by omega)
      have h3 := nodess_sz l _ n h
      simp only [nodess]
      omega
    · omega
end
theorem large_nodes {e : Ex} (h : Tx.large e = false) : nodes e ≤ 300 := by
  unfold Tx.large at h
  have h : Tx.sz e 300 < 300 := by simpa using h
  have := nodes_sz e 300 h
  omega
theorem may_neg {x : Ex} (h : may 16 x = false) : may 16 (op1 3 x) = false := by
  cases hm : may 16 (op1 3 x) with
  | false => rfl
  | true =>
    exfalso
    have h2 : may 15 x = true := by
      have hm : (head (op1 3 x) && [x].all (may 15)) = true := hm
      simp only [Bool.and_eq_true, List.all_cons, List.all_nil, Bool.and_true] at hm
      exact hm.2
    have := may_less 15 x 16 h2 (by have := may_deep 15 x h2; omega)
    rw [h] at this; cases this
theorem may_arg {x a : Ex} (h : may 16 x = true) (ha : a ∈ x.args) : may 16 a = true := by
  have h : (head x && x.args.all (may 15)) = true := h
  simp only [Bool.and_eq_true, List.all_eq_true] at h
  have h2 := h.2 a ha
  exact may_less 15 a 16 h2 (by have := may_deep 15 a h2; omega)
theorem may_names {x : Ex} (h : may 16 x = true) : (names x).length ≤ (namess x.args).length ∨ (opOf x = 2 ∧ (names x).length = 1) := by
  by_cases ho : opOf x = 2
  · right
    refine ⟨ho, ?_⟩
    have h : (head x && x.args.all (may 15)) = true := h
    simp only [Bool.and_eq_true] at h
    cases x with
    | mk o k n t nm l =>
      have ho : o = 2 := ho
      subst ho
      have hl : l = [] := by
        have h1 := h.1
        simp only [head, Bool.and_eq_true, beq_iff_eq] at h1
        exact List.length_eq_zero_iff.1 h1.1.2.2
      subst hl
      simp [names, namess, sortB, once]
  · left
    have := names_len x
    rw [if_neg ho] at this
    omega
theorem thin_op1 {x : Ex} (h : thin x = true) : thin (op1 3 x) = true := by simp [op1, thin, thins, h]
end Px
namespace Go.Proofs.YtckgdgkkmhochaaGreatDoor
open Go Go.RowKit Go.SF
set_option linter.unusedSimpArgs false
set_option linter.unusedVariables false
theorem str_agg : aggT Tryz.prog 9 = some false := by kernel_rfl
theorem str_look {W : Wd} {a : Option Addr} {n c : Nat} {l : List Lx.Bs} (h : SlI W a n c 1 (l.map strB)) {i : Nat} {s : Lx.Bs} (hx : l[i]? = some s) {W' : Wd} (hW : Ext W W') :
    (Instr.loadAt 9 (.pointer (some ((a.getD default).add (i * 1 + 0))))).run Tryz.prog W'.w = .ok (.string ⟨s.toArray⟩) W'.w := by
  have e : l.map strB = l.flatMap fun s => [strB s] := by
    clear h hx
    induction l with
    | nil => rfl
    | cons b l ih => rw [List.map_cons, List.flatMap_cons, ih]; rfl
  rw [e] at h
  exact sl_look_f (f := fun s => [strB s]) (sz := 1) (fun _ => rfl) h str_agg hx (by decide) rfl hW
theorem sl_len {W : Wd} {a : Option Addr} {n c : Nat} {xs : List Value} (h : SlI W a n c 1 xs) : xs.length = n := by have := h.1; omega
set_option maxRecDepth 100000 in
theorem parts_q (x : Px.Ex) (vs : List Value) (W : Wd) (hw : Tx.wide x = true) (hx : ExI W x vs) (hG : Glob W) (hT : Vs.Tabs W) :
    CallsQ Tryz.prog 7 #[.agg vs.toArray] W (.bool true) := by
  obtain ⟨op, k, nn, t, nm, args⟩ := x
  have hx0 := hx
  have hx := hx.ext W.all_ext
  simp only [ExI, ExAt] at hx
  obtain ⟨a, c, ls, rfl, hS, hE⟩ := hx
  generalize hX : Px.Ex.mk op k nn t nm args = x at hw hx0
  have w : ∀ V, Ext W.all V → Ext W V := fun V xV => ext_trans W.all_ext xV
  refine vc_lparts op k nn args.length c ⟨t.toArray⟩ ⟨nm.toArray⟩ a W.all _ ?_
  refine den_new fun m0 W1 _ x1 => den_call_q (fun _ _ => works_q W1 (hG.ext (w _ x1)) (hT.ext (w _ x1))) ⟨true, rfl, fun W2 x2 => ?_⟩
  simp only [Env.push, List.cons_append, List.nil_append, List.append_nil]
  refine den_br (fun _ => ?_) fun c => (by exfalso; simp [Sy.dens, Sy.den, E.i, E.b, E.t, gd, Env.push, List.cons_append, List.nil_append, List.append_nil, Int.toNat_natCast] at c)
  have y2 := ext_trans x1 x2
  refine den_call_q (fun _ _ => large_q x _ W2 hw (hx0.ext (w _ y2))) ⟨Tx.large x, rfl, fun W3 x3 => ?_⟩
  simp only [Env.push, List.cons_append, List.nil_append, List.append_nil]
  have y3 := ext_trans y2 x3
  refine den_br (fun c => den_call_q (fun _ _ => works_q W3 (hG.ext (w _ y3)) (hT.ext (w _ y3))) ⟨true, rfl, fun W4 x4 => den_ret fun _ _ _ => ⟨_, rfl, rfl⟩⟩) fun c => ?_
  have c1 : Tx.large x = false := by simpa [Sy.dens, Sy.den, E.i, E.b, E.t, gd, Env.push, List.cons_append, List.nil_append, List.append_nil, Int.toNat_natCast] using c
  obtain ⟨hth, hdp⟩ := Tx.large_thin c1 hw
  have hnd := Px.large_nodes c1
  have hq := names_ok (Px.deep x) x _ W3 (Nat.le_refl _) (by omega) (hx0.ext (w _ y3))
  refine den_call_i (fun _ _ => hq) fun v w' _ ⟨a4, c4, hv, hA⟩ => ⟨(Px.names x).length, c4, a4, hv, fun W4 e4 x4 n4 => ?_⟩
  have hL : SlI W4 a4 (Px.names x).length c4 1 ((Px.names x).map strB) := hA.stay e4 n4
  simp only [Env.push, List.cons_append, List.nil_append, List.append_nil]
  have y4 := ext_trans y3 x4
  have hri := Px.names_rises x
  have hnl := Px.names_nodes x
  refine den_loop (fun j vs ls _ => ∃ i : Nat, vs = [.int .i64 (i : Nat)] ∧ ls = [] ∧ i ≤ (Px.names x).length ∧ j = (Px.names x).length - i) (Px.names x).length ⟨0, rfl, rfl, Nat.zero_le _, rfl⟩ ?_
  rintro j vs ls' W5 x5 ⟨i, rfl, rfl, hi, rfl⟩
  have y5 := ext_trans y4 x5
  refine ⟨(i : Int), rfl, rfl, fun _ => den_br (fun c2 => ?_) fun c2 => ?_⟩
  · simp only [Sy.dens, Sy.den, E.i, E.b, E.t, gd, Env.push, List.cons_append, List.nil_append, List.append_nil, Int.toNat_natCast, ltB_true] at c2
    have hil : i < (Px.names x).length := by omega
    have hg1 : (Px.names x)[i]? = some (Px.names x)[i] := List.getElem?_eq_getElem hil
    refine den_chk ?_ (den_chk ?_ (den_br (fun c3 => ?_) fun c3 => den_grow fun W6 x6 => den_again ⟨(Px.names x).length - (i + 1), by omega, i + 1, ?_, rfl, by omega, rfl⟩))
    · simp only [E.b, gd, Env.push, Bool.or_eq_true]; exact .inr (SlI.some_of hL (by omega))
    · simp only [Sy.dens, Sy.den, E.i, E.b, E.t, gd, Env.push, List.cons_append, List.nil_append, List.append_nil, Int.toNat_natCast, Bool.or_eq_true]; exact .inr (leB_t (by omega))
    · simp only [Sy.dens, Sy.den, E.i, E.b, E.t, gd, Env.push, List.cons_append, List.nil_append, List.append_nil, Int.toNat_natCast, ltB_true] at c3
      obtain ⟨j, rfl⟩ : ∃ j, i = j + 1 := ⟨i - 1, by omega⟩
      have hjl : j < (Px.names x).length := by omega
      have hg2 : (Px.names x)[j]? = some (Px.names x)[j] := List.getElem?_eq_getElem hjl
      have hwr : IntKind.i64.wrap (((j + 1 : Nat) : Int) - 1) = (j : Int) := by rw [w64i (by omega) (by omega)]; omega
      refine den_look ⟨⟨(Px.names x)[j + 1].toArray⟩, fun W6 x6 => ?_, den_chk ?_ (den_chk ?_ (den_look ⟨⟨(Px.names x)[j].toArray⟩, fun W6 x6 => ?_, den_grow fun W6 x6 => den_br (fun c4 => ?_) fun c4 => den_again ⟨(Px.names x).length - (j + 1 + 1), by omega, j + 1 + 1, ?_, rfl, by omega, rfl⟩⟩))⟩
      · have := str_look hL hg1 (ext_trans x5 x6)
        simp only [Sy.dens, Sy.den, E.i, E.b, E.t, gd, Env.push, List.cons_append, List.nil_append, List.append_nil, Int.toNat_natCast] at this ⊢
        exact this
      · simp only [Sy.dens, Sy.den, E.i, E.b, E.t, gd, Env.push, List.cons_append, List.nil_append, List.append_nil, Int.toNat_natCast, hwr]; exact leB_t (by omega)
      · simp only [Sy.dens, Sy.den, E.i, E.b, E.t, gd, Env.push, List.cons_append, List.nil_append, List.append_nil, Int.toNat_natCast, hwr]; exact ltB_t (by omega)
      · have := str_look hL hg2 (ext_trans x5 x6)
        simp only [Sy.dens, Sy.den, E.i, E.b, E.t, gd, Env.push, List.cons_append, List.nil_append, List.append_nil, Int.toNat_natCast, hwr] at this ⊢
        exact this
      · exfalso
        have hr := Px.rises_at hri (Nat.lt_succ_self j) hg2 hg1
        simp only [Sy.dens, Sy.den, E.i, E.b, E.t, gd, Env.push, List.cons_append, List.nil_append, List.append_nil, Int.toNat_natCast, teq_ba] at c4
        rw [hr] at c4; cases c4
      · simp only [Sy.dens, Sy.den, E.i, E.b, E.t, gd, Env.push, List.cons_append, List.nil_append, List.append_nil, Int.toNat_natCast]
        rw [w64i (by omega) (by omega)]; rfl
    · simp only [Sy.dens, Sy.den, E.i, E.b, E.t, gd, Env.push, List.cons_append, List.nil_append, List.append_nil, Int.toNat_natCast]
      rw [w64i (by omega) (by omega)]; rfl
  · clear c2 hi
    refine den_call_q (fun _ _ => mayT_q x _ W5 hth (hx0.ext (w _ y5)) (hG.ext (w _ y5))) ⟨Px.may 16 x, rfl, fun W6 x6 => ?_⟩
    simp only [Env.push, List.cons_append, List.nil_append, List.append_nil]
    have y6 := ext_trans y5 x6
    refine den_br (fun c2 => ?_) fun c2 => ?_
    · have c2 : Px.may 16 x = false := by simpa [Sy.dens, Sy.den, E.i, E.b, E.t, gd, Env.push, List.cons_append, List.nil_append, List.append_nil, Int.toNat_natCast] using c2
      have hone := op1_i 3 x _ W6 (hx0.ext (w _ y6))
      refine den_call_i (fun _ _ => hone) fun v w' _ ⟨o7, k7, n7, t7, m7, al7, ln7, cl7, hv, hJ⟩ => ⟨o7, k7, n7, ln7, cl7, t7, m7, al7, hv, fun W7 e7 x7 n7' => ?_⟩
      have hX7 := ExJ.i hJ e7 x7 n7'
      simp only [Env.push, List.cons_append, List.nil_append, List.append_nil]
      have y7 := ext_trans y6 x7
      refine den_call_q (fun _ _ => mayT_q (Px.op1 3 x) _ W7 (Px.thin_op1 hth) hX7 (hG.ext (w _ y7))) ⟨Px.may 16 (Px.op1 3 x), rfl, fun W8 x8 => den_ret fun _ _ _ => ⟨_, rfl, ?_⟩⟩
      rw [Px.may_neg c2]; rfl
    · have c2 : Px.may 16 x = true := by simpa [Sy.dens, Sy.den, E.i, E.b, E.t, gd, Env.push, List.cons_append, List.nil_append, List.append_nil, Int.toNat_natCast] using c2
      have hmn := Px.may_names c2
      have hxa : x.args = args := by rw [← hX]; rfl
      have hxo : Px.opOf x = op := by rw [← hX]; rfl
      have hln := Px.len_nodes args
      have hxn : Px.nodes x = Px.nodess args + 1 := by rw [← hX]; rfl
      have hths : Px.thins args = true := by rw [← hX] at hth; simp only [Px.thin, Bool.and_eq_true] at hth; exact hth.2
      have hdps : Px.deep x = Px.deeps args + 1 := by rw [← hX]; rfl
      have hL6 := hL.ext (ext_trans x5 x6)
      refine den_loop (fun j vs ls _ => ∃ i n : Nat, vs = [.int .i64 (n : Nat), .int .i64 (i : Nat)] ∧ ls = [] ∧ i ≤ args.length ∧ j = args.length - i ∧ n = (Px.namess (args.take i)).length) args.length ⟨0, 0, rfl, rfl, Nat.zero_le _, rfl, by simp [Px.namess]⟩ ?_
      rintro j vs ls' W7 x7 ⟨i, n, rfl, rfl, hi, rfl, hn⟩
      have y7 := ext_trans y6 x7
      have hnb : n ≤ 300 := by
        have h1 := Px.namess_nodes (args.take i)
        have h2 := Px.namess_take args i
        omega
      refine ⟨(n : Int), (i : Int), rfl, rfl, fun _ => den_br (fun c3 => ?_) fun c3 => den_ret fun _ _ _ => ⟨_, rfl, ?_⟩⟩
      · simp only [Sy.dens, Sy.den, E.i, E.b, E.t, gd, Env.push, List.cons_append, List.nil_append, List.append_nil, Int.toNat_natCast, ltB_true] at c3
        have hil : i < args.length := by omega
        have hxi : args[i]? = some args[i] := List.getElem?_eq_getElem hil
        have hmem : args[i] ∈ x.args := by rw [hxa]; exact List.getElem_mem hil
        have hma := Px.may_arg c2 hmem
        have htha := Px.thin_mem hths (List.getElem_mem hil)
        obtain ⟨us, hu, hg⟩ := exs_get hE hxi
        have hu2 : ExI W.all args[i] us := hu
        obtain ⟨op', k', nn', t', nm', al', len', cl', rfl⟩ := hu.shape
        have lk : ∀ V, Ext W7 V → _ := fun V xV => sl_look_at (W := W.all) hS ex_agg ex_size rfl (by decide) hg (ext_trans y7 xV)
        refine den_chk ?_ (den_chk ?_ (den_look ⟨op', k', nn', len', cl', t', nm', al', fun V xV => ?_, ?_⟩))
        · simp only [E.b, gd, Env.push]; exact SlI.some_of hS (by omega)
        · simp only [Sy.dens, Sy.den, E.i, E.b, E.t, gd, Env.push, List.cons_append, List.nil_append, List.append_nil, Int.toNat_natCast]; exact leB_t (by omega)
        · have := lk V xV
          simp only [Sy.dens, Sy.den, E.i, E.b, E.t, gd, Env.push, List.cons_append, List.nil_append, List.append_nil, Int.toNat_natCast] at this ⊢
          exact this
        · simp only [Env.push, List.cons_append, List.nil_append, List.append_nil]
          have hq := mayT_q args[i] _ W7 htha (hu2.ext y7) (hG.ext (w _ y7))
          refine den_call_q (fun _ _ => hq) ⟨Px.may 16 args[i], rfl, fun W8 x8 => ?_⟩
          simp only [Env.push, List.cons_append, List.nil_append, List.append_nil]
          refine den_br (fun c4 => (by exfalso; simp [Sy.dens, Sy.den, E.i, E.b, E.t, gd, Env.push, List.cons_append, List.nil_append, List.append_nil, Int.toNat_natCast, hma] at c4)) fun _ => den_look ⟨op', k', nn', len', cl', t', nm', al', fun V xV => ?_, ?_⟩
          · have := lk V (ext_trans x8 xV)
            simp only [Sy.dens, Sy.den, E.i, E.b, E.t, gd, Env.push, List.cons_append, List.nil_append, List.append_nil, Int.toNat_natCast] at this ⊢
            exact this
          · simp only [Env.push, List.cons_append, List.nil_append, List.append_nil]
            have y8 := ext_trans y7 x8
            have hno := Px.nodes_mem (List.getElem_mem hil)
            have hq := names_ok (Px.deep args[i]) args[i] _ W8 (Nat.le_refl _) (by omega) (hu2.ext y8)
            refine den_call_i (fun _ _ => hq) fun v w' _ ⟨a9, c9, hv, hA⟩ => ⟨(Px.names args[i]).length, c9, a9, hv, fun W9 e9 x9 n9 => ?_⟩
            have hM : SlI W9 a9 (Px.names args[i]).length c9 1 ((Px.names args[i]).map strB) := hA.stay e9 n9
            simp only [Env.push, List.cons_append, List.nil_append, List.append_nil]
            have y9 := ext_trans y8 x9
            have hnla := Px.names_nodes args[i]
            have hin := Px.names_arg hmem
            have hL9 := hL6.ext (ext_trans (ext_trans x7 x8) x9)
            refine den_loop (fun j vs ls _ => ∃ m : Nat, vs = [.int .i64 (m : Nat)] ∧ ls = [] ∧ m ≤ (Px.names args[i]).length ∧ j = (Px.names args[i]).length - m) (Px.names args[i]).length ⟨0, rfl, rfl, Nat.zero_le _, rfl⟩ ?_
            rintro j vs ls' V1 z1 ⟨m, rfl, rfl, hm, rfl⟩
            refine ⟨(m : Int), rfl, rfl, fun _ => den_br (fun c5 => ?_) fun c5 => den_again ⟨args.length - (i + 1), by omega, i + 1, n + (Px.names args[i]).length, ?_, rfl, by omega, rfl, ?_⟩⟩
            · simp only [Sy.dens, Sy.den, E.i, E.b, E.t, gd, Env.push, List.cons_append, List.nil_append, List.append_nil, Int.toNat_natCast, ltB_true] at c5
              have hml : m < (Px.names args[i]).length := by omega
              have hgm : (Px.names args[i])[m]? = some (Px.names args[i])[m] := List.getElem?_eq_getElem hml
              have hmin := hin _ (List.getElem_mem hml)
              generalize hs : (Px.names args[i])[m] = s at hgm hmin
              refine den_loop (fun j vs ls _ => ∃ q : Nat, vs = [.bool (decide (s ∈ (Px.names x).take q)), .int .i64 (q : Nat)] ∧ ls = [] ∧ q ≤ (Px.names x).length ∧ j = (Px.names x).length - q) (Px.names x).length ⟨0, by rw [List.take_zero, decide_eq_false (show ¬ s ∈ ([] : List Lx.Bs) from by simp)]; rfl, rfl, Nat.zero_le _, rfl⟩ ?_
              rintro j vs ls' V2 z2 ⟨q, rfl, rfl, hq', rfl⟩
              refine ⟨(q : Int), decide (s ∈ (Px.names x).take q), rfl, rfl, fun _ => den_br (fun c6 => ?_) fun c6 => ?_⟩
              · simp only [Sy.dens, Sy.den, E.i, E.b, E.t, gd, Env.push, List.cons_append, List.nil_append, List.append_nil, Int.toNat_natCast, ltB_true] at c6
                have hql : q < (Px.names x).length := by omega
                have hgq : (Px.names x)[q]? = some (Px.names x)[q] := List.getElem?_eq_getElem hql
                have htk : (Px.names x).take (q + 1) = (Px.names x).take q ++ [(Px.names x)[q]] := List.take_succ_eq_append_getElem hql
                refine den_chk ?_ (den_chk ?_ (den_br (fun c7 => ?_) fun c7 => den_grow fun V3 z3 => den_again ⟨(Px.names x).length - (q + 1), by omega, q + 1, ?_, rfl, by omega, rfl⟩))
                · simp only [E.b, gd, Env.push, Bool.or_eq_true]; exact .inr (SlI.some_of hL (by omega))
                · simp only [Sy.dens, Sy.den, E.i, E.b, E.t, gd, Env.push, List.cons_append, List.nil_append, List.append_nil, Int.toNat_natCast, Bool.or_eq_true]; exact .inr (leB_t (by omega))
                · have c7 : ¬ s ∈ (Px.names x).take q := by simpa [Sy.dens, Sy.den, E.i, E.b, E.t, gd, Env.push, List.cons_append, List.nil_append, List.append_nil, Int.toNat_natCast] using c7
                  refine den_look ⟨⟨(Px.names x)[q].toArray⟩, fun V xV => ?_, den_chk ?_ (den_chk ?_ (den_look ⟨⟨s.toArray⟩, fun V xV => ?_, den_grow fun V3 z3 => den_again ⟨(Px.names x).length - (q + 1), by omega, q + 1, ?_, rfl, by omega, rfl⟩⟩))⟩
                  · have := str_look hL9 hgq (ext_trans (ext_trans z1 z2) xV)
                    simp only [Sy.dens, Sy.den, E.i, E.b, E.t, gd, Env.push, List.cons_append, List.nil_append, List.append_nil, Int.toNat_natCast] at this ⊢
                    exact this
                  · simp only [E.b, gd, Env.push]; exact SlI.some_of hM (by omega)
                  · simp only [Sy.dens, Sy.den, E.i, E.b, E.t, gd, Env.push, List.cons_append, List.nil_append, List.append_nil, Int.toNat_natCast]; exact leB_t (by omega)
                  · have := str_look hM hgm (ext_trans (ext_trans z1 z2) xV)
                    simp only [Sy.dens, Sy.den, E.i, E.b, E.t, gd, Env.push, List.cons_append, List.nil_append, List.append_nil, Int.toNat_natCast] at this ⊢
                    exact this
                  · simp only [Sy.dens, Sy.den, E.i, E.b, E.t, gd, Env.push, List.cons_append, List.nil_append, List.append_nil, Int.toNat_natCast, teq_ba]
                    rw [w64i (by omega) (by omega), htk]
                    have : decide (s ∈ (Px.names x).take q ++ [(Px.names x)[q]]) = ((Px.names x)[q] == s) := by
                      by_cases hb : s = (Px.names x)[q]
                      · rw [← hb]; simp
                      · have h2 : ¬ s ∈ (Px.names x).take q ++ [(Px.names x)[q]] := fun h => (List.mem_append.1 h).elim c7 fun h => hb (List.mem_singleton.1 h)
                        rw [decide_eq_false h2]
                        exact (beq_eq_false_iff_ne.2 fun e => hb e.symm).symm
                    rw [this]; rfl
                · have c7 : s ∈ (Px.names x).take q := by simpa [Sy.dens, Sy.den, E.i, E.b, E.t, gd, Env.push, List.cons_append, List.nil_append, List.append_nil, Int.toNat_natCast] using c7
                  simp only [Sy.dens, Sy.den, E.i, E.b, E.t, gd, Env.push, List.cons_append, List.nil_append, List.append_nil, Int.toNat_natCast]
                  rw [w64i (by omega) (by omega), htk]
                  have : decide (s ∈ (Px.names x).take q ++ [(Px.names x)[q]]) = true := decide_eq_true (List.mem_append.2 (.inl c7))
                  rw [this]; rfl
              · simp only [Sy.dens, Sy.den, E.i, E.b, E.t, gd, Env.push, List.cons_append, List.nil_append, List.append_nil, Int.toNat_natCast, ltB_false] at c6
                have hqe : q = (Px.names x).length := by omega
                have hd : decide (s ∈ (Px.names x).take q) = true := by rw [hqe, List.take_length]; simpa using hmin
                refine den_br (fun c7 => (by exfalso; simp [Sy.dens, Sy.den, E.i, E.b, E.t, gd, Env.push, List.cons_append, List.nil_append, List.append_nil, Int.toNat_natCast, hd] at c7)) fun _ => den_again ⟨(Px.names args[i]).length - (m + 1), by omega, m + 1, ?_, rfl, by omega, rfl⟩
                simp only [Sy.dens, Sy.den, E.i, E.b, E.t, gd, Env.push, List.cons_append, List.nil_append, List.append_nil, Int.toNat_natCast]
                rw [w64i (by omega) (by omega)]; rfl
            · simp only [Sy.dens, Sy.den, E.i, E.b, E.t, gd, Env.push, List.cons_append, List.nil_append, List.append_nil, Int.toNat_natCast]
              rw [w64i (by omega) (by omega), w64i (by omega) (by omega)]; rfl
            · rw [← Px.namess_snoc hil, List.length_append, hn]
      · simp only [Sy.dens, Sy.den, E.i, E.b, E.t, gd, Env.push, List.cons_append, List.nil_append, List.append_nil, Int.toNat_natCast, ltB_false] at c3
        have hie : i = args.length := by omega
        rw [hie, List.take_length] at hn
        rw [hxa, hxo] at hmn
        simp only [Sy.dens, Sy.den, E.i, E.b, E.t, gd, Env.push, List.cons_append, List.nil_append, List.append_nil, Int.toNat_natCast]
        rcases hmn with h | ⟨h1, h2⟩
        · rw [leB_t (by omega)]; rfl
        · rw [h1, h2]; simp
end Go.Proofs.YtckgdgkkmhochaaGreatDoor
