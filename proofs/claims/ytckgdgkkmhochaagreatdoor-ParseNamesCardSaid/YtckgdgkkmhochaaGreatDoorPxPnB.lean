/- ParseNames: the walk, part B (printed by gen_pnames2.py). -/
import Derived.Test.YtckgdgkkmhochaaGreatDoorPxPnA
namespace Px
def bads : List Ex := [(.mk 0 0 0 [] [] []), (.mk 17 0 0 [] [] []), (.mk 1 1 (-1) [] [] []), (.mk 1 0 0 [] [] []), (.mk 2 0 0 [] [121, 101, 115] []), (.mk 2 0 0 [] [108, 101, 110] []), (.mk 2 0 0 [] [] []), (.mk 2 0 0 [] [65] []), (.mk 2 1 0 [] [97] []), (.mk 8 0 0 [] [] [(.mk 2 0 0 [] [97] [])]), (.mk 3 0 0 [] [] [(.mk 2 0 0 [] [97] []), (.mk 2 0 0 [] [98] [])]), (.mk 1 2 2 [] [] []), (.mk 3 0 0 [] [97] [(.mk 2 0 0 [] [97] [])]), (Px.op1 3 (Px.parse ((List.replicate 15 [45]).flatten ++ [97])).1), (Px.op1 4 (.mk 0 0 0 [] [] []))]
theorem bads_no : ∀ x ∈ bads, thin x = true ∧ may 16 x = false ∧ (show' x).2 = 4 := by decide +kernel
theorem names_t : names (.mk 8 0 0 [] [] [.mk 5 0 0 [] [] [.mk 2 0 0 [] [99] [], .mk 2 0 0 [] [97] []], .mk 15 0 0 [] [] [.mk 2 0 0 [] [99] [], .mk 1 1 1 [] [] []]]) = [[97], [99]] :=
  rises_eq (names_rises _) (by simp only [Rises]; decide) fun x => by
    simp only [mem_names, opOf, nmOf, Ex.args, namess, List.mem_append, List.not_mem_nil, List.mem_cons, or_false]
    constructor
    · intro h; rcases h with ⟨h, _⟩ | h
      · cases h
      · simp_all
        rcases h with (h | h) | h <;> simp [h]
    · rintro (rfl | rfl) <;> simp
theorem names_n : names (.mk 1 1 1 [] [] []) = [] := by
  have h : ∀ x, ¬ x ∈ names (.mk 1 1 1 [] [] []) := fun x hx => by
    rw [mem_names] at hx; simp [opOf, Ex.args, namess] at hx
  exact List.eq_nil_iff_forall_not_mem.2 h
end Px
namespace Go.Proofs.YtckgdgkkmhochaaGreatDoor
open Go Go.RowKit Go.SF
set_option linter.unusedSimpArgs false
set_option linter.unusedVariables false
theorem parse_to (s : Lx.Bs) (e : Int) (he : (Px.parse s).2 = e) (W : Wd) (hG : Glob W) : CallsI Tryz.prog 20 #[.string ⟨s.toArray⟩] W.all fun v w' => ∃ op k n t nm al len cl, v = .tuple #[.agg #[.int .u8 op, .int .u8 k, .int .i64 n, .string t, .string nm, .slice al len cl], .int .i64 e] ∧ ExAt w' (fun b => W.w.heap.size ≤ b) (Px.parse s).1 [.int .u8 op, .int .u8 k, .int .i64 n, .string t, .string nm, .slice al len cl] := by
  subst he
  exact parse_at s W hG
theorem ExsAt.ext {V W : Wd} {l : List Px.Ex} {ls : List Value} (h : ExsAt V.w V.I l ls) (x : Ext V W) : ExsAt W.w W.I l ls := ExsAt.move (fun b hb _ => ⟨x.sub b hb, x.keep b hb⟩) h
theorem exs_nil (w : World) (J : Nat → Prop) : ExsAt w J [] [] := by simp only [ExsAt]
theorem exs_cons {w : World} {J : Nat → Prop} {e : Px.Ex} {l : List Px.Ex} {x m : List Value} (h : ExAt w J e x) (k : ExsAt w J l m) : ExsAt w J (e :: l) (x ++ m) := by simp only [ExsAt]; exact ⟨x, m, rfl, h, k⟩
theorem ex_kids {w : World} {J : Nat → Prop} (op k n : Int) (t nm : Lx.Bs) {a : Option Addr} {args : List Px.Ex} {c : Nat} {ls : List Value} (hS : SlAt w J a args.length c 6 ls) (hE : ExsAt w J args ls) : ExAt w J (.mk op k n t nm args) (exV op k n t nm a args.length c) := by
  simp only [ExAt]; exact ⟨a, c, ls, rfl, hS, hE⟩
theorem den_newfe {P : Program} {n0 : Nat} {R : Ending → World → Prop} {Lo : Lv} {ρ : Env} {W : Wd} {ty : TypeId} {cs : List Sy} {t : Tree} {l : List Px.Ex} {n : Nat} {ls : List Value} (hL : Sy.dens ρ cs = ls) (hE : ExsAt W.w W.I l ls) (hl : ls.length = n * 6)
    (h : ∀ a W', Ext W W' → SlI W' a n n 6 ls → ExsAt W'.w W'.I l ls → t.den P n0 R Lo (ρ.push { A := [a] }) W') : (Tree.newf ty cs t).den P n0 R Lo ρ W :=
  den_newf fun m W' _ x hI hc => h _ W' x (by subst hL; exact blk_slJ hc hI hl) (hE.ext x)
theorem tbx {w : World} {J : Nat → Prop} {a9 : Option Addr} {c9 : Nat} {l9 : List Value} (s9 : SlAt w J a9 1 c9 6 l9) (e9 : ExsAt w J [(.mk 2 0 0 [] [97] [])] l9) {a10 : Option Addr} {c10 : Nat} {l10 : List Value} (s10 : SlAt w J a10 2 c10 6 l10) (e10 : ExsAt w J [(.mk 2 0 0 [] [97] []), (.mk 2 0 0 [] [98] [])] l10) {a12 : Option Addr} {c12 : Nat} {l12 : List Value} (s12 : SlAt w J a12 1 c12 6 l12) (e12 : ExsAt w J [(.mk 2 0 0 [] [97] [])] l12) {x13 : Px.Ex} {v13 : List Value} (h13 : ExAt w J x13 v13) {x14 : Px.Ex} {v14 : List Value} (h14 : ExAt w J x14 v14) : ExsAt w J [.mk 0 0 0 [] [] [], .mk 17 0 0 [] [] [], .mk 1 1 (-1) [] [] [], .mk 1 0 0 [] [] [], .mk 2 0 0 [] [121, 101, 115] [], .mk 2 0 0 [] [108, 101, 110] [], .mk 2 0 0 [] [] [], .mk 2 0 0 [] [65] [], .mk 2 1 0 [] [97] [], .mk 8 0 0 [] [] [(.mk 2 0 0 [] [97] [])], .mk 3 0 0 [] [] [(.mk 2 0 0 [] [97] []), (.mk 2 0 0 [] [98] [])], .mk 1 2 2 [] [] [], .mk 3 0 0 [] [97] [(.mk 2 0 0 [] [97] [])], x13, x14] (exV 0 0 0 [] [] none 0 0 ++ (exV 17 0 0 [] [] none 0 0 ++ (exV 1 1 (-1) [] [] none 0 0 ++ (exV 1 0 0 [] [] none 0 0 ++ (exV 2 0 0 [] [121, 101, 115] none 0 0 ++ (exV 2 0 0 [] [108, 101, 110] none 0 0 ++ (exV 2 0 0 [] [] none 0 0 ++ (exV 2 0 0 [] [65] none 0 0 ++ (exV 2 1 0 [] [97] none 0 0 ++ (exV 8 0 0 [] [] a9 1 c9 ++ (exV 3 0 0 [] [] a10 2 c10 ++ (exV 1 2 2 [] [] none 0 0 ++ (exV 3 0 0 [] [97] a12 1 c12 ++ (v13 ++ (v14 ++ []))))))))))))))) :=
  (exs_cons (ExAt.leaf _ _ 0 0 0 [] []) (exs_cons (ExAt.leaf _ _ 17 0 0 [] []) (exs_cons (ExAt.leaf _ _ 1 1 (-1) [] []) (exs_cons (ExAt.leaf _ _ 1 0 0 [] []) (exs_cons (ExAt.leaf _ _ 2 0 0 [] [121, 101, 115]) (exs_cons (ExAt.leaf _ _ 2 0 0 [] [108, 101, 110]) (exs_cons (ExAt.leaf _ _ 2 0 0 [] []) (exs_cons (ExAt.leaf _ _ 2 0 0 [] [65]) (exs_cons (ExAt.leaf _ _ 2 1 0 [] [97]) (exs_cons (ex_kids 8 0 0 [] [] s9 e9) (exs_cons (ex_kids 3 0 0 [] [] s10 e10) (exs_cons (ExAt.leaf _ _ 1 2 2 [] []) (exs_cons (ex_kids 3 0 0 [] [97] s12 e12) (exs_cons h13 (exs_cons h14 (exs_nil _ _))))))))))))))))
set_option maxRecDepth 100000 in
theorem l_lnames_22 {n0 : Nat} {I9 I10 I11 I12 I13 I14 I15 I16 I17 I18 I19 I20 I21 I22 I23 I24 I25 I26 I27 I28 I29 I30 I31 I32 I33 I34 I35 I36 I37 I38 I39 I40 I41 I42 I43 I44 I45 I46 I47 I48 I49 I50 I51 I52 I53 I54 I55 I56 I57 I58 I59 I60 I61 I62 I63 I64 I65 I66 I67 I68 I72 I73 I74 I75 I76 I77 I78 I79 I80 I81 I82 I83 I90 I91 I92 I93 I94 I95 I99 I100 I101 I106 I107 I108 I109 I110 I111 I113 I114 I115 I116 I117 I118 I119 I120 I121 I122 I123 I124 I125 I126 I127 I128 I129 I130 I131 I132 I133 : Int} {N6 N7 N8 N9 N10 N11 N12 N13 N14 N15 N16 N17 N18 N19 N20 N21 N22 N23 N24 N25 N26 N27 N28 N29 N30 N31 N32 N33 N34 N35 N36 N37 N38 N39 N40 N41 N42 N43 N44 N45 N48 N49 N50 N51 N52 N53 N54 N55 N60 N61 N62 N63 N66 N67 N70 N71 N72 N73 N74 N75 N76 N77 N78 N79 N80 N81 N82 N83 N84 N85 N86 N87 : Nat} {T6 T7 T8 T9 T10 T11 T12 T13 T14 T15 T16 T17 T18 T19 T20 T21 T22 T23 T24 T25 T26 T27 T28 T29 T30 T31 T32 T33 T34 T35 T36 T37 T38 T39 T40 T41 T42 T43 T44 T45 T48 T49 T50 T51 T52 T53 T54 T55 T60 T61 T62 T63 T71 T72 T76 T77 T78 T79 T81 T82 T83 T84 T85 T86 T87 T88 T89 T90 T91 T92 T93 T94 : ByteArray} {A3 A4 A5 A6 A7 A8 A9 A10 A11 A12 A13 A14 A15 A16 A17 A18 A19 A20 A21 A22 A24 A25 A26 A27 A30 A31 A33 A35 A36 A37 A38 A39 A40 A41 A42 A43 A44 A45 A46 A47 : Option Addr} {M0 M1 M2 M3 M4 M5 M6 M7 M8 M9 M10 M11 M12 M13 M14 M15 M16 M17 M18 M19 M20 M21 M22 M23 M24 : Nat} {W : Wd} {tbl : List Value} (hG : Glob W) (hT : Vs.Tabs W) (h99 : ExI W (Px.parse ((List.replicate 15 [45]).flatten ++ [97])).1 [.int .u8 I99, .int .u8 I100, .int .i64 I101, .string T71, .string T72, .slice A33 N66 N67]) (hS47 : SlI W A47 15 15 6 tbl) (hE47 : ExsAt W.w W.I Px.bads tbl) :
    t_lnames_22.den Tryz.prog n0 (Ret fun u x => u = Value.bool true) [] { I := [2, 0, 0, 2, 0, 0, 2, 0, 0, I9, I10, I11, I12, I13, I14, I15, I16, I17, I18, I19, I20, I21, I22, I23, I24, I25, I26, I27, I28, I29, I30, I31, I32, I33, I34, I35, I36, I37, I38, I39, I40, I41, I42, I43, I44, I45, I46, I47, I48, I49, I50, I51, I52, I53, I54, I55, I56, I57, I58, I59, I60, I61, I62, I63, I64, I65, I66, I67, I68, 1, 1, 5, I72, I73, I74, I75, I76, I77, I78, I79, I80, I81, I82, I83, 1, 3, 0, 1, 1, 9223372036854775807, I90, I91, I92, I93, I94, I95, 2, 0, 0, I99, I100, I101, 0, 1, 3, 0, I106, I107, I108, I109, I110, I111, 40, I113, I114, I115, I116, I117, I118, I119, I120, I121, I122, I123, I124, I125, I126, I127, I128, I129, I130, I131, I132, I133], N := [0, 0, 0, 0, 0, 0, N6, N7, N8, N9, N10, N11, N12, N13, N14, N15, N16, N17, N18, N19, N20, N21, N22, N23, N24, N25, N26, N27, N28, N29, N30, N31, N32, N33, N34, N35, N36, N37, N38, N39, N40, N41, N42, N43, N44, N45, 0, 0, N48, N49, N50, N51, N52, N53, N54, N55, 0, 0, 0, 0, N60, N61, N62, N63, 0, 0, N66, N67, 0, 0, N70, N71, N72, N73, N74, N75, N76, N77, N78, N79, N80, N81, N82, N83, N84, N85, N86, N87], B := [true, true, true, true, true, true, true, true, true, true, true, true, true, true, true, true, true, true, true, true, true, true, true, true, true, true, true, true, true, true, true, true, true, true, true, true, true, true, true, true, true, true, true], T := [⟨([] : Lx.Bs).toArray⟩, ⟨([97] : Lx.Bs).toArray⟩, ⟨([] : Lx.Bs).toArray⟩, ⟨([98] : Lx.Bs).toArray⟩, ⟨([] : Lx.Bs).toArray⟩, ⟨([99] : Lx.Bs).toArray⟩, T6, T7, T8, T9, T10, T11, T12, T13, T14, T15, T16, T17, T18, T19, T20, T21, T22, T23, T24, T25, T26, T27, T28, T29, T30, T31, T32, T33, T34, T35, T36, T37, T38, T39, T40, T41, T42, T43, T44, T45, ⟨([] : Lx.Bs).toArray⟩, ⟨([] : Lx.Bs).toArray⟩, T48, T49, T50, T51, T52, T53, T54, T55, ⟨([105, 116, 32] : Lx.Bs).toArray⟩, ⟨([] : Lx.Bs).toArray⟩, ⟨([] : Lx.Bs).toArray⟩, ⟨([] : Lx.Bs).toArray⟩, T60, T61, T62, T63, ⟨([] : Lx.Bs).toArray⟩, ⟨([110, 111, 95, 49] : Lx.Bs).toArray⟩, ⟨(List.replicate 15 [45]).flatten.toArray⟩, ⟨(List.replicate 101 [32]).flatten.toArray⟩, ⟨(List.replicate 48 [40]).flatten.toArray⟩, ⟨(List.replicate 48 [41]).flatten.toArray⟩, ⟨(List.replicate 51 [97, 43]).flatten.toArray⟩, T71, T72, ⟨(List.replicate 40 [120]).flatten.toArray⟩, ⟨((List.replicate 40 [120]).flatten : Lx.Bs).toArray⟩, ⟨([] : Lx.Bs).toArray⟩, T76, T77, T78, T79, ⟨(Px.show' (Px.op2 8 (Px.op2 8 (.mk 1 3 0 (List.replicate 40 [120]).flatten [] []) (.mk 1 3 0 (List.replicate 40 [120]).flatten [] [])) (.mk 1 3 0 (List.replicate 40 [120]).flatten [] []))).1.toArray⟩, T81, T82, T83, T84, T85, T86, T87, T88, T89, T90, T91, T92, T93, T94], A := [none, none, none, A3, A4, A5, A6, A7, A8, A9, A10, A11, A12, A13, A14, A15, A16, A17, A18, A19, A20, A21, A22, none, A24, A25, A26, A27, none, none, A30, A31, none, A33, none, A35, A36, A37, A38, A39, A40, A41, A42, A43, A44, A45, A46, A47], M := [M0, M1, M2, M3, M4, M5, M6, M7, M8, M9, M10, M11, M12, M13, M14, M15, M16, M17, M18, M19, M20, M21, M22, M23, M24] } W := by
  refine den_loop (fun j vs ls _ => ∃ i : Nat, vs = [.int .i64 (i : Int)] ∧ ls = [] ∧ i ≤ 15 ∧ j = 15 - i) 15 ⟨0, rfl, rfl, by decide, rfl⟩ ?_
  rintro j vs ls W1 x1 ⟨i, rfl, rfl, hi, rfl⟩
  refine ⟨(i : Int), rfl, rfl, fun _ => ?_⟩
  simp only [Env.push, List.cons_append, List.nil_append, List.append_nil]
  refine den_br (fun c1 => ?_) fun c1 => ?_
  · have hil : i < 15 := by simp only [Sy.dens, Sy.den, E.i, E.b, E.t, gd, Env.push, List.cons_append, List.nil_append, List.append_nil, Int.toNat_natCast, ltB_true] at c1; omega
    have hx : Px.bads[i]? = some Px.bads[i] := List.getElem?_eq_getElem (by simpa [Px.bads] using hil)
    obtain ⟨k1, k2, k3⟩ := Px.bads_no Px.bads[i] (List.getElem_mem _)
    generalize Px.bads[i] = x at hx k1 k2 k3
    have hS := hS47.ext x1
    have hE := hE47.ext x1
    have hG := hG.ext x1
    have hT := hT.ext x1
    obtain ⟨vs, hu, hgu⟩ := exs_get hE hx
    obtain ⟨o, k, nn, t, nm, al, len, cl, rfl⟩ := hu.shape
    refine den_chk (hS.some_of (by decide)) (den_chk (by simp only [Sy.dens, Sy.den, E.i, E.b, E.t, gd, Env.push, List.cons_append, List.nil_append, List.append_nil, Int.toNat_natCast]; exact leB_t (by omega)) (den_look ⟨o, k, nn, len, cl, t, nm, al, fun V xV => ?_, ?_⟩))
    · have := sl_look_at (W := W1) hS ex_agg ex_size rfl (by decide) hgu xV
      exact this
    · simp only [Env.push, List.cons_append, List.nil_append, List.append_nil]
      refine den_new fun m W2 _ x2 => den_wr fun W3 x3 => ?_
      simp only [Env.push, List.cons_append, List.nil_append, List.append_nil]
      have y3 := ext_trans x2 x3
      have hu : ExI W1 x _ := hu
      have hq := showT_q x _ W3 k1 (hu.ext y3) (hG.ext y3) (hT.ext y3)
      rw [k3] at hq
      refine den_call_q (fun _ _ => hq) ⟨4, ⟨(Px.show' x).1.toArray⟩, rfl, fun W4 x4 => ?_⟩
      simp only [Env.push, List.cons_append, List.nil_append, List.append_nil]
      have y4 := ext_trans y3 x4
      have hq := mayT_q x _ W4 k1 (hu.ext y4) (hG.ext y4)
      rw [k2] at hq
      refine den_call_q (fun _ _ => hq) ⟨false, rfl, fun W5 x5 => ?_⟩
      simp only [Env.push, List.cons_append, List.nil_append, List.append_nil]
      refine den_br_f rfl (den_frz fun W6 _ x6 _ _ => den_again ⟨15 - (i + 1), by omega, i + 1, ?_, rfl, by omega, rfl⟩)
      simp only [Sy.dens, Sy.den, E.i, E.b, E.t, gd, Env.push, List.cons_append, List.nil_append, List.append_nil, Int.toNat_natCast]
      rw [w64i (by omega) (by omega)]
      rfl
  · refine den_grow fun W517 y517 => ?_
    have z518 := ext_trans x1 y517
    have hmk := op2_i 5 (.mk 2 0 0 [] [99] []) (.mk 2 0 0 [] [97] []) [.int .u8 2, .int .u8 0, .int .i64 0, .string ⟨([] : Lx.Bs).toArray⟩, .string ⟨([99] : Lx.Bs).toArray⟩, .slice none 0 0] [.int .u8 2, .int .u8 0, .int .i64 0, .string ⟨([] : Lx.Bs).toArray⟩, .string ⟨([97] : Lx.Bs).toArray⟩, .slice none 0 0] W517 (ExAt.leaf _ _ 2 0 0 [] [99]) (ExAt.leaf _ _ 2 0 0 [] [97])
    refine den_call_i (fun _ _ => hmk) fun v w' _ ⟨I135, I136, I137, T95, T96, A48, N88, N89, hv, hJ⟩ => ⟨I135, I136, I137, N88, N89, T95, T96, A48, hv, fun W519 e2 y519 n2 => ?_⟩
    clear hmk
    have h135 := ExJ.i hJ e2 y519 n2
    clear hv hJ e2 n2
    simp only [Env.push, List.cons_append, List.nil_append, List.append_nil]
    have z520 := ext_trans z518 y519
    refine den_callq ⟨1, 1, 1, 0, 0, ⟨([] : Lx.Bs).toArray⟩, ⟨([] : Lx.Bs).toArray⟩, none, fun V xV _ _ => num_qn 1 V, ?_⟩
    simp only [Env.push, List.cons_append, List.nil_append, List.append_nil]
    refine den_grow fun W521 y521 => ?_
    have z522 := ext_trans z520 y521
    have hmk := op2_i 15 (.mk 2 0 0 [] [99] []) (.mk 1 1 1 [] [] []) [.int .u8 2, .int .u8 0, .int .i64 0, .string ⟨([] : Lx.Bs).toArray⟩, .string ⟨([99] : Lx.Bs).toArray⟩, .slice none 0 0] [.int .u8 1, .int .u8 1, .int .i64 1, .string ⟨([] : Lx.Bs).toArray⟩, .string ⟨([] : Lx.Bs).toArray⟩, .slice none 0 0] W521 (ExAt.leaf _ _ 2 0 0 [] [99]) (ExAt.leaf _ _ 1 1 1 [] [])
    refine den_call_i (fun _ _ => hmk) fun v w' _ ⟨I141, I142, I143, T99, T100, A50, N92, N93, hv, hJ⟩ => ⟨I141, I142, I143, N92, N93, T99, T100, A50, hv, fun W523 e2 y523 n2 => ?_⟩
    clear hmk
    have h141 := ExJ.i hJ e2 y523 n2
    clear hv hJ e2 n2
    simp only [Env.push, List.cons_append, List.nil_append, List.append_nil]
    have z524 := ext_trans z522 y523
    have z525 := ext_trans y521 y523
    refine den_grow fun W526 y526 => ?_
    have z527 := ext_trans z524 y526
    have z528 := ext_trans z525 y526
    have hmk := op2_i 8 (Px.op2 5 (.mk 2 0 0 [] [99] []) (.mk 2 0 0 [] [97] [])) (Px.op2 15 (.mk 2 0 0 [] [99] []) (.mk 1 1 1 [] [] [])) [.int .u8 I135, .int .u8 I136, .int .i64 I137, .string T95, .string T96, .slice A48 N88 N89] [.int .u8 I141, .int .u8 I142, .int .i64 I143, .string T99, .string T100, .slice A50 N92 N93] W526 (h135.ext z528) (h141.ext y526)
    refine den_call_i (fun _ _ => hmk) fun v w' _ ⟨I144, I145, I146, T101, T102, A51, N94, N95, hv, hJ⟩ => ⟨I144, I145, I146, N94, N95, T101, T102, A51, hv, fun W529 e2 y529 n2 => ?_⟩
    clear hmk
    have h144 := ExJ.i hJ e2 y529 n2
    clear hv hJ e2 n2
    simp only [Env.push, List.cons_append, List.nil_append, List.append_nil]
    have z530 := ext_trans z527 y529
    refine den_grow fun W531 y531 => ?_
    have z532 := ext_trans z530 y531
    have hnm := names_ok 16 (Px.op2 8 (Px.op2 5 (.mk 2 0 0 [] [99] []) (.mk 2 0 0 [] [97] [])) (Px.op2 15 (.mk 2 0 0 [] [99] []) (.mk 1 1 1 [] [] []))) [.int .u8 I144, .int .u8 I145, .int .i64 I146, .string T101, .string T102, .slice A51 N94 N95] W531 (by decide) (by decide) (h144.ext y531)
    rw [show Px.names (Px.op2 8 (Px.op2 5 (.mk 2 0 0 [] [99] []) (.mk 2 0 0 [] [97] [])) (Px.op2 15 (.mk 2 0 0 [] [99] []) (.mk 1 1 1 [] [] []))) = [[97], [99]] from Px.names_t] at hnm
    refine den_call_i (fun _ _ => hnm) fun v w' _ ⟨A52, N97, hv, hz⟩ => ⟨2, N97, A52, hv, fun W533 e2 y533 n2 => ?_⟩
    have hS52 := hz.stay e2 n2
    clear hnm hv hz e2 n2
    simp only [Env.push, List.cons_append, List.nil_append, List.append_nil]
    have z534 := ext_trans z532 y533
    refine den_grow fun W535 y535 => ?_
    have z536 := ext_trans z534 y535
    refine den_br_t rfl ?_
    have hk : Px.may 16 (Px.parse ((List.replicate 15 [45]).flatten ++ [97])).1 = true := by decide +kernel
    refine den_callq ⟨true, fun V xV _ _ => (by have h := mayT_q (Px.parse ((List.replicate 15 [45]).flatten ++ [97])).1 [.int .u8 I99, .int .u8 I100, .int .i64 I101, .string T71, .string T72, .slice A33 N66 N67] V (by decide +kernel) (ExI.ext (h99.ext z536) xV) ((hG.ext z536).ext xV); rw [hk] at h; exact h), ?_⟩
    simp only [Env.push, List.cons_append, List.nil_append, List.append_nil]
    clear hk
    refine den_chk (by first | exact Bool.or_eq_true_iff.2 (.inr ((hS52.ext y535).some_of (by decide))) | exact (hS52.ext y535).some_of (by decide)) ?_
    refine den_chk (by kernel_rfl) ?_
    refine den_chk (by kernel_rfl) ?_
    refine den_br_t rfl ?_
    refine den_look ⟨⟨([97] : Lx.Bs).toArray⟩, fun V xV => sl_look_f (P := Tryz.prog) (f := fun s : Lx.Bs => [Value.string ⟨s.toArray⟩]) (l := [[97], [99]]) (fun _ => rfl) (hS52.ext y535) (t := 9) (by kernel_rfl) (i := 0) rfl (k := 0) (by decide) rfl xV, ?_⟩
    simp only [Env.push, List.cons_append, List.nil_append, List.append_nil]
    refine den_chk (by kernel_rfl) ?_
    refine den_chk (by kernel_rfl) ?_
    refine den_br_t rfl ?_
    refine den_look ⟨⟨([99] : Lx.Bs).toArray⟩, fun V xV => sl_look_f (P := Tryz.prog) (f := fun s : Lx.Bs => [Value.string ⟨s.toArray⟩]) (l := [[97], [99]]) (fun _ => rfl) (hS52.ext y535) (t := 9) (by kernel_rfl) (i := 1) rfl (k := 0) (by decide) rfl xV, ?_⟩
    simp only [Env.push, List.cons_append, List.nil_append, List.append_nil]
    refine den_br_t rfl ?_
    refine den_callq ⟨1, 1, 1, 0, 0, ⟨([] : Lx.Bs).toArray⟩, ⟨([] : Lx.Bs).toArray⟩, none, fun V xV _ _ => num_qn 1 V, ?_⟩
    simp only [Env.push, List.cons_append, List.nil_append, List.append_nil]
    refine den_grow fun W537 y537 => ?_
    have z538 := ext_trans z536 y537
    have hnm := names_ok 16 (.mk 1 1 1 [] [] []) [.int .u8 1, .int .u8 1, .int .i64 1, .string ⟨([] : Lx.Bs).toArray⟩, .string ⟨([] : Lx.Bs).toArray⟩, .slice none 0 0] W537 (by decide) (by decide) (ExAt.leaf _ _ 1 1 1 [] [])
    rw [show Px.names (.mk 1 1 1 [] [] []) = [] from Px.names_n] at hnm
    refine den_call_i (fun _ _ => hnm) fun v w' _ ⟨A54, N101, hv, hz⟩ => ⟨0, N101, A54, hv, fun W539 e2 y539 n2 => ?_⟩
    have hS54 := hz.stay e2 n2
    clear hnm hv hz e2 n2
    simp only [Env.push, List.cons_append, List.nil_append, List.append_nil]
    have z540 := ext_trans z538 y539
    refine den_br_t rfl ?_
    have hk : Px.same (.mk 2 0 0 [] [97] []) (.mk 2 0 0 [] [98] []) = false := by decide +kernel
    refine den_callq ⟨false, fun V xV _ _ => (by have h := psame_q 16 (.mk 2 0 0 [] [97] []) (.mk 2 0 0 [] [98] []) [.int .u8 2, .int .u8 0, .int .i64 0, .string ⟨([] : Lx.Bs).toArray⟩, .string ⟨([97] : Lx.Bs).toArray⟩, .slice none 0 0] [.int .u8 2, .int .u8 0, .int .i64 0, .string ⟨([] : Lx.Bs).toArray⟩, .string ⟨([98] : Lx.Bs).toArray⟩, .slice none 0 0] V (by decide) (by decide) (ExAt.leaf _ _ 2 0 0 [] [97]) (ExAt.leaf _ _ 2 0 0 [] [98]); rw [hk] at h; exact h), ?_⟩
    simp only [Env.push, List.cons_append, List.nil_append, List.append_nil]
    clear hk
    refine den_br_t rfl ?_
    refine den_grow fun W541 y541 => ?_
    have z542 := ext_trans z540 y541
    have hmk := op2_i 8 (.mk 2 0 0 [] [97] []) (.mk 2 0 0 [] [98] []) [.int .u8 2, .int .u8 0, .int .i64 0, .string ⟨([] : Lx.Bs).toArray⟩, .string ⟨([97] : Lx.Bs).toArray⟩, .slice none 0 0] [.int .u8 2, .int .u8 0, .int .i64 0, .string ⟨([] : Lx.Bs).toArray⟩, .string ⟨([98] : Lx.Bs).toArray⟩, .slice none 0 0] W541 (ExAt.leaf _ _ 2 0 0 [] [97]) (ExAt.leaf _ _ 2 0 0 [] [98])
    refine den_call_i (fun _ _ => hmk) fun v w' _ ⟨I150, I151, I152, T107, T108, A55, N102, N103, hv, hJ⟩ => ⟨I150, I151, I152, N102, N103, T107, T108, A55, hv, fun W543 e2 y543 n2 => ?_⟩
    clear hmk
    have h150 := ExJ.i hJ e2 y543 n2
    clear hv hJ e2 n2
    simp only [Env.push, List.cons_append, List.nil_append, List.append_nil]
    have z544 := ext_trans z542 y543
    refine den_grow fun W545 y545 => ?_
    have z546 := ext_trans z544 y545
    have hmk := op2_i 8 (.mk 2 0 0 [] [97] []) (.mk 2 0 0 [] [98] []) [.int .u8 2, .int .u8 0, .int .i64 0, .string ⟨([] : Lx.Bs).toArray⟩, .string ⟨([97] : Lx.Bs).toArray⟩, .slice none 0 0] [.int .u8 2, .int .u8 0, .int .i64 0, .string ⟨([] : Lx.Bs).toArray⟩, .string ⟨([98] : Lx.Bs).toArray⟩, .slice none 0 0] W545 (ExAt.leaf _ _ 2 0 0 [] [97]) (ExAt.leaf _ _ 2 0 0 [] [98])
    refine den_call_i (fun _ _ => hmk) fun v w' _ ⟨I153, I154, I155, T109, T110, A56, N104, N105, hv, hJ⟩ => ⟨I153, I154, I155, N104, N105, T109, T110, A56, hv, fun W547 e2 y547 n2 => ?_⟩
    clear hmk
    have h153 := ExJ.i hJ e2 y547 n2
    clear hv hJ e2 n2
    simp only [Env.push, List.cons_append, List.nil_append, List.append_nil]
    have z548 := ext_trans z546 y547
    have z549 := ext_trans y545 y547
    have hk : Px.same (Px.op2 8 (.mk 2 0 0 [] [97] []) (.mk 2 0 0 [] [98] [])) (Px.op2 8 (.mk 2 0 0 [] [97] []) (.mk 2 0 0 [] [98] [])) = true := by decide +kernel
    refine den_callq ⟨true, fun V xV _ _ => (by have h := psame_q 16 (Px.op2 8 (.mk 2 0 0 [] [97] []) (.mk 2 0 0 [] [98] [])) (Px.op2 8 (.mk 2 0 0 [] [97] []) (.mk 2 0 0 [] [98] [])) [.int .u8 I150, .int .u8 I151, .int .i64 I152, .string T107, .string T108, .slice A55 N102 N103] [.int .u8 I153, .int .u8 I154, .int .i64 I155, .string T109, .string T110, .slice A56 N104 N105] V (by decide) (by decide) (ExI.ext (h150.ext z549) xV) (ExI.ext h153 xV); rw [hk] at h; exact h), ?_⟩
    simp only [Env.push, List.cons_append, List.nil_append, List.append_nil]
    clear hk
    refine den_grow fun W550 y550 => ?_
    have z551 := ext_trans z548 y550
    exact den_ret fun _ _ _ => ⟨_, rfl, rfl⟩
end Go.Proofs.YtckgdgkkmhochaaGreatDoor
