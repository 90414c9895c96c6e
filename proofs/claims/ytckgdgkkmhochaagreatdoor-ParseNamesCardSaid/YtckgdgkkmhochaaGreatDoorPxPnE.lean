/- ParseNames: the walk, part E (printed by gen_pnames2.py). -/
import Derived.Test.YtckgdgkkmhochaaGreatDoorPxPnD
namespace Go.Proofs.YtckgdgkkmhochaaGreatDoor
open Go Go.RowKit Go.SF
set_option linter.unusedSimpArgs false
set_option linter.unusedVariables false
set_option maxRecDepth 100000 in
theorem l_lnames_194 {n0 : Nat} {I9 I10 I11 I12 I13 I14 I15 I16 I17 I18 I19 I20 I21 I22 I23 I24 I25 I26 I27 I28 I29 I30 I31 I32 I33 I34 I35 I36 I37 I38 I39 I40 I41 I42 I43 I44 I45 I46 I47 I48 I49 I50 I51 I52 I53 I54 I55 I56 I57 I58 I59 I60 I61 I62 I63 I64 I65 I66 I67 I68 I72 I73 I74 I75 I76 I77 I78 I79 I80 I81 I82 I83 I90 I91 I92 I93 I94 I95 : Int} {N6 N7 N8 N9 N10 N11 N12 N13 N14 N15 N16 N17 N18 N19 N20 N21 N22 N23 N24 N25 N26 N27 N28 N29 N30 N31 N32 N33 N34 N35 N36 N37 N38 N39 N40 N41 N42 N43 N44 N45 N48 N49 N50 N51 N52 N53 N54 N55 N60 N61 N62 N63 : Nat} {T6 T7 T8 T9 T10 T11 T12 T13 T14 T15 T16 T17 T18 T19 T20 T21 T22 T23 T24 T25 T26 T27 T28 T29 T30 T31 T32 T33 T34 T35 T36 T37 T38 T39 T40 T41 T42 T43 T44 T45 T48 T49 T50 T51 T52 T53 T54 T55 T60 T61 T62 T63 : ByteArray} {A3 A4 A5 A6 A7 A8 A9 A10 A11 A12 A13 A14 A15 A16 A17 A18 A19 A20 A21 A22 A24 A25 A26 A27 A30 A31 : Option Addr} {M0 M1 M2 M3 M4 M5 M6 M7 M8 M9 M10 M11 M12 M13 M14 M15 M16 M17 M18 M19 M20 M21 M22 : Nat} {W : Wd} (hG : Glob W) (hT : Vs.Tabs W) :
    t_lnames_194.den Tryz.prog n0 (Ret fun u x => u = Value.bool true) [] { I := [2, 0, 0, 2, 0, 0, 2, 0, 0, I9, I10, I11, I12, I13, I14, I15, I16, I17, I18, I19, I20, I21, I22, I23, I24, I25, I26, I27, I28, I29, I30, I31, I32, I33, I34, I35, I36, I37, I38, I39, I40, I41, I42, I43, I44, I45, I46, I47, I48, I49, I50, I51, I52, I53, I54, I55, I56, I57, I58, I59, I60, I61, I62, I63, I64, I65, I66, I67, I68, 1, 1, 5, I72, I73, I74, I75, I76, I77, I78, I79, I80, I81, I82, I83, 1, 3, 0, 1, 1, 9223372036854775807, I90, I91, I92, I93, I94, I95, 2, 0, 0], N := [0, 0, 0, 0, 0, 0, N6, N7, N8, N9, N10, N11, N12, N13, N14, N15, N16, N17, N18, N19, N20, N21, N22, N23, N24, N25, N26, N27, N28, N29, N30, N31, N32, N33, N34, N35, N36, N37, N38, N39, N40, N41, N42, N43, N44, N45, 0, 0, N48, N49, N50, N51, N52, N53, N54, N55, 0, 0, 0, 0, N60, N61, N62, N63, 0, 0], B := [true, true, true, true, true, true, true, true, true, true, true, true, true, true, true, true, true, true, true, true, true, true, true, true, true, true, true, true, true, true, true, true, true, true, true, true, true, true, true], T := [⟨([] : Lx.Bs).toArray⟩, ⟨([97] : Lx.Bs).toArray⟩, ⟨([] : Lx.Bs).toArray⟩, ⟨([98] : Lx.Bs).toArray⟩, ⟨([] : Lx.Bs).toArray⟩, ⟨([99] : Lx.Bs).toArray⟩, T6, T7, T8, T9, T10, T11, T12, T13, T14, T15, T16, T17, T18, T19, T20, T21, T22, T23, T24, T25, T26, T27, T28, T29, T30, T31, T32, T33, T34, T35, T36, T37, T38, T39, T40, T41, T42, T43, T44, T45, ⟨([] : Lx.Bs).toArray⟩, ⟨([] : Lx.Bs).toArray⟩, T48, T49, T50, T51, T52, T53, T54, T55, ⟨([105, 116, 32] : Lx.Bs).toArray⟩, ⟨([] : Lx.Bs).toArray⟩, ⟨([] : Lx.Bs).toArray⟩, ⟨([] : Lx.Bs).toArray⟩, T60, T61, T62, T63, ⟨([] : Lx.Bs).toArray⟩, ⟨([110, 111, 95, 49] : Lx.Bs).toArray⟩, ⟨(List.replicate 15 [45]).flatten.toArray⟩, ⟨(List.replicate 101 [32]).flatten.toArray⟩], A := [none, none, none, A3, A4, A5, A6, A7, A8, A9, A10, A11, A12, A13, A14, A15, A16, A17, A18, A19, A20, A21, A22, none, A24, A25, A26, A27, none, none, A30, A31, none], M := [M0, M1, M2, M3, M4, M5, M6, M7, M8, M9, M10, M11, M12, M13, M14, M15, M16, M17, M18, M19, M20, M21, M22] } W := by
  have hk : Px.no_ (List.replicate 101 [32]).flatten 40 = true := by decide +kernel
  refine den_callq ⟨true, fun V xV _ _ => (by have h := no_q (List.replicate 101 [32]).flatten 40 V (hG.ext xV); rw [hk] at h; exact h), ?_⟩
  simp only [Env.push, List.cons_append, List.nil_append, List.append_nil]
  clear hk
  refine den_chk (by kernel_rfl) ?_
  refine den_br_t rfl ?_
  have hk : Px.no_ ([45] ++ ((List.replicate 15 [45]).flatten ++ [97])) 40 = true := by decide +kernel
  refine den_callq ⟨true, fun V xV _ _ => (by have h := no_q ([45] ++ ((List.replicate 15 [45]).flatten ++ [97])) 40 V (hG.ext xV); rw [hk] at h; simp only [Sy.dens, Sy.den, E.t, gd, ba_app]; exact h), ?_⟩
  simp only [Env.push, List.cons_append, List.nil_append, List.append_nil]
  clear hk
  refine den_br_t rfl ?_
  refine den_callq ⟨⟨(List.replicate 48 [40]).flatten.toArray⟩, fun V xV _ _ => many_q 48 (by decide) [40] (by decide) V, ?_⟩
  simp only [Env.push, List.cons_append, List.nil_append, List.append_nil]
  refine den_chk (by kernel_rfl) ?_
  refine den_callq ⟨⟨(List.replicate 48 [41]).flatten.toArray⟩, fun V xV _ _ => many_q 48 (by decide) [41] (by decide) V, ?_⟩
  simp only [Env.push, List.cons_append, List.nil_append, List.append_nil]
  refine den_chk (by kernel_rfl) ?_
  have hk : Px.is_ (((List.replicate 48 [40]).flatten ++ [97]) ++ (List.replicate 48 [41]).flatten) (.mk 2 0 0 [] [97] []) = true := by decide +kernel
  refine den_callq ⟨true, fun V xV _ _ => (by have h := is_q (((List.replicate 48 [40]).flatten ++ [97]) ++ (List.replicate 48 [41]).flatten) (.mk 2 0 0 [] [97] []) [.int .u8 2, .int .u8 0, .int .i64 0, .string ⟨([] : Lx.Bs).toArray⟩, .string ⟨([97] : Lx.Bs).toArray⟩, .slice none 0 0] V (ExAt.leaf _ _ 2 0 0 [] [97]) (hG.ext xV); rw [hk] at h; simp only [Sy.dens, Sy.den, E.t, gd, ba_app]; exact h), ?_⟩
  simp only [Env.push, List.cons_append, List.nil_append, List.append_nil]
  clear hk
  refine den_br_t rfl ?_
  refine den_callq ⟨⟨(List.replicate 51 [97, 43]).flatten.toArray⟩, fun V xV _ _ => many_q 51 (by decide) [97, 43] (by decide) V, ?_⟩
  simp only [Env.push, List.cons_append, List.nil_append, List.append_nil]
  have hk : Px.no_ (List.replicate 51 [97, 43]).flatten 40 = true := by decide +kernel
  refine den_callq ⟨true, fun V xV _ _ => (by have h := no_q (List.replicate 51 [97, 43]).flatten 40 V (hG.ext xV); rw [hk] at h; exact h), ?_⟩
  simp only [Env.push, List.cons_append, List.nil_append, List.append_nil]
  clear hk
  refine den_grow fun W439 y439 => ?_
  refine den_br_f rfl ?_
  have hmk := parse_to ((List.replicate 15 [45]).flatten ++ [97]) 0 (by decide +kernel) W439 (hG.ext y439)
  rw [← ba_app] at hmk
  refine den_call_i (fun _ _ => hmk) fun v w' _ ⟨I99, I100, I101, T71, T72, A33, N66, N67, hv, hX⟩ => ⟨I99, I100, I101, 0, N66, N67, T71, T72, A33, hv, fun W440 e2 y440 n2 => ?_⟩
  clear hmk
  have h99 := ExAt.i hX e2 n2
  clear hv hX e2 n2
  simp only [Env.push, List.cons_append, List.nil_append, List.append_nil]
  have z441 := ext_trans y439 y440
  refine den_new fun M23 W442 _ y442 => ?_
  simp only [Env.push, List.cons_append, List.nil_append, List.append_nil]
  have z443 := ext_trans z441 y442
  refine den_wr fun W444 y444 => ?_
  have z445 := ext_trans z443 y444
  have z446 := ext_trans y442 y444
  have hcq := many_q 40 (by decide) [120] (by decide) W444
  refine den_call_q (fun _ _ => hcq) ⟨⟨(List.replicate 40 [120]).flatten.toArray⟩, rfl, fun W447 y447 => ?_⟩
  clear hcq
  simp only [Env.push, List.cons_append, List.nil_append, List.append_nil]
  have z448 := ext_trans z445 y447
  have z449 := ext_trans z446 y447
  refine den_call_q (fun _ _ => text_qn (List.replicate 40 [120]).flatten W447) ⟨1, 3, 0, 0, 0, ⟨((List.replicate 40 [120]).flatten : Lx.Bs).toArray⟩, ⟨([] : Lx.Bs).toArray⟩, none, rfl, fun W450 y450 => ?_⟩
  simp only [Env.push, List.cons_append, List.nil_append, List.append_nil]
  have z451 := ext_trans z448 y450
  have z452 := ext_trans z449 y450
  refine den_new fun M24 W453 _ y453 => ?_
  simp only [Env.push, List.cons_append, List.nil_append, List.append_nil]
  have z454 := ext_trans z451 y453
  have z455 := ext_trans z452 y453
  refine den_wr fun W456 y456 => ?_
  have z457 := ext_trans z454 y456
  have z458 := ext_trans z455 y456
  refine den_grow fun W459 y459 => ?_
  have z460 := ext_trans z457 y459
  have z461 := ext_trans z458 y459
  have hmk := op2_i 8 (.mk 1 3 0 (List.replicate 40 [120]).flatten [] []) (.mk 1 3 0 (List.replicate 40 [120]).flatten [] []) [.int .u8 1, .int .u8 3, .int .i64 0, .string ⟨((List.replicate 40 [120]).flatten : Lx.Bs).toArray⟩, .string ⟨([] : Lx.Bs).toArray⟩, .slice none 0 0] [.int .u8 1, .int .u8 3, .int .i64 0, .string ⟨((List.replicate 40 [120]).flatten : Lx.Bs).toArray⟩, .string ⟨([] : Lx.Bs).toArray⟩, .slice none 0 0] W459 (ExAt.leaf _ _ 1 3 0 (List.replicate 40 [120]).flatten []) (ExAt.leaf _ _ 1 3 0 (List.replicate 40 [120]).flatten [])
  refine den_call_i (fun _ _ => hmk) fun v w' _ ⟨I106, I107, I108, T76, T77, A35, N70, N71, hv, hJ⟩ => ⟨I106, I107, I108, N70, N71, T76, T77, A35, hv, fun W462 e2 y462 n2 => ?_⟩
  clear hmk
  have h106 := ExJ.i hJ e2 y462 n2
  clear hv hJ e2 n2
  simp only [Env.push, List.cons_append, List.nil_append, List.append_nil]
  have z463 := ext_trans z460 y462
  have z464 := ext_trans z461 y462
  refine den_grow fun W465 y465 => ?_
  have z466 := ext_trans z463 y465
  have z467 := ext_trans z464 y465
  have hmk := op2_i 8 (Px.op2 8 (.mk 1 3 0 (List.replicate 40 [120]).flatten [] []) (.mk 1 3 0 (List.replicate 40 [120]).flatten [] [])) (.mk 1 3 0 (List.replicate 40 [120]).flatten [] []) [.int .u8 I106, .int .u8 I107, .int .i64 I108, .string T76, .string T77, .slice A35 N70 N71] [.int .u8 1, .int .u8 3, .int .i64 0, .string ⟨((List.replicate 40 [120]).flatten : Lx.Bs).toArray⟩, .string ⟨([] : Lx.Bs).toArray⟩, .slice none 0 0] W465 (h106.ext y465) (ExAt.leaf _ _ 1 3 0 (List.replicate 40 [120]).flatten [])
  refine den_call_i (fun _ _ => hmk) fun v w' _ ⟨I109, I110, I111, T78, T79, A36, N72, N73, hv, hJ⟩ => ⟨I109, I110, I111, N72, N73, T78, T79, A36, hv, fun W468 e2 y468 n2 => ?_⟩
  clear hmk
  have h109 := ExJ.i hJ e2 y468 n2
  clear hv hJ e2 n2
  simp only [Env.push, List.cons_append, List.nil_append, List.append_nil]
  have z469 := ext_trans z466 y468
  have z470 := ext_trans z467 y468
  have hk : (Px.show' (Px.op2 8 (Px.op2 8 (.mk 1 3 0 (List.replicate 40 [120]).flatten [] []) (.mk 1 3 0 (List.replicate 40 [120]).flatten [] [])) (.mk 1 3 0 (List.replicate 40 [120]).flatten [] []))).2 = 40 := by decide +kernel
  refine den_callq ⟨40, ⟨(Px.show' (Px.op2 8 (Px.op2 8 (.mk 1 3 0 (List.replicate 40 [120]).flatten [] []) (.mk 1 3 0 (List.replicate 40 [120]).flatten [] [])) (.mk 1 3 0 (List.replicate 40 [120]).flatten [] []))).1.toArray⟩, fun V xV _ _ => (by have h := showT_q (Px.op2 8 (Px.op2 8 (.mk 1 3 0 (List.replicate 40 [120]).flatten [] []) (.mk 1 3 0 (List.replicate 40 [120]).flatten [] [])) (.mk 1 3 0 (List.replicate 40 [120]).flatten [] [])) [.int .u8 I109, .int .u8 I110, .int .i64 I111, .string T78, .string T79, .slice A36 N72 N73] V (by decide +kernel) (ExI.ext h109 xV) ((hG.ext z469).ext xV) ((hT.ext z469).ext xV); rw [hk] at h; exact h), ?_⟩
  simp only [Env.push, List.cons_append, List.nil_append, List.append_nil]
  clear hk
  exact l_lnames_180 (hG.ext z469) (hT.ext z469) (h99.ext z470)
set_option maxRecDepth 100000 in
theorem l_lnames_208 {n0 : Nat} {I9 I10 I11 I12 I13 I14 I15 I16 I17 I18 I19 I20 I21 I22 I23 I24 I25 I26 I27 I28 I29 I30 I31 I32 I33 I34 I35 I36 I37 I38 I39 I40 I41 I42 I43 I44 I45 I46 I47 I48 I49 I50 I51 I52 I53 I54 I55 I56 I57 I58 I59 I60 I61 I62 I63 I64 I65 I66 I67 I68 I72 I73 I74 I75 I76 I77 I78 I79 I80 I81 I82 I83 I90 I91 I92 I93 I94 I95 : Int} {N6 N7 N8 N9 N10 N11 N12 N13 N14 N15 N16 N17 N18 N19 N20 N21 N22 N23 N24 N25 N26 N27 N28 N29 N30 N31 N32 N33 N34 N35 N36 N37 N38 N39 N40 N41 N42 N43 N44 N45 N48 N49 N50 N51 N52 N53 N54 N55 N60 N61 N62 N63 : Nat} {T6 T7 T8 T9 T10 T11 T12 T13 T14 T15 T16 T17 T18 T19 T20 T21 T22 T23 T24 T25 T26 T27 T28 T29 T30 T31 T32 T33 T34 T35 T36 T37 T38 T39 T40 T41 T42 T43 T44 T45 T48 T49 T50 T51 T52 T53 T54 T55 T60 T61 T62 T63 : ByteArray} {A3 A4 A5 A6 A7 A8 A9 A10 A11 A12 A13 A14 A15 A16 A17 A18 A19 A20 A21 A22 A24 A25 A26 A27 A30 A31 : Option Addr} {M0 M1 M2 M3 M4 M5 M6 M7 M8 M9 M10 M11 M12 M13 M14 M15 M16 M17 M18 M19 M20 M21 M22 : Nat} {W : Wd} (hG : Glob W) (hT : Vs.Tabs W) :
    t_lnames_208.den Tryz.prog n0 (Ret fun u x => u = Value.bool true) [] { I := [2, 0, 0, 2, 0, 0, 2, 0, 0, I9, I10, I11, I12, I13, I14, I15, I16, I17, I18, I19, I20, I21, I22, I23, I24, I25, I26, I27, I28, I29, I30, I31, I32, I33, I34, I35, I36, I37, I38, I39, I40, I41, I42, I43, I44, I45, I46, I47, I48, I49, I50, I51, I52, I53, I54, I55, I56, I57, I58, I59, I60, I61, I62, I63, I64, I65, I66, I67, I68, 1, 1, 5, I72, I73, I74, I75, I76, I77, I78, I79, I80, I81, I82, I83, 1, 3, 0, 1, 1, 9223372036854775807, I90, I91, I92, I93, I94, I95, 2, 0, 0], N := [0, 0, 0, 0, 0, 0, N6, N7, N8, N9, N10, N11, N12, N13, N14, N15, N16, N17, N18, N19, N20, N21, N22, N23, N24, N25, N26, N27, N28, N29, N30, N31, N32, N33, N34, N35, N36, N37, N38, N39, N40, N41, N42, N43, N44, N45, 0, 0, N48, N49, N50, N51, N52, N53, N54, N55, 0, 0, 0, 0, N60, N61, N62, N63, 0, 0], B := [true, true, true, true, true, true, true, true, true, true, true, true, true, true, true, true, true, true, true, true, true, true, true, true, true, true, true], T := [⟨([] : Lx.Bs).toArray⟩, ⟨([97] : Lx.Bs).toArray⟩, ⟨([] : Lx.Bs).toArray⟩, ⟨([98] : Lx.Bs).toArray⟩, ⟨([] : Lx.Bs).toArray⟩, ⟨([99] : Lx.Bs).toArray⟩, T6, T7, T8, T9, T10, T11, T12, T13, T14, T15, T16, T17, T18, T19, T20, T21, T22, T23, T24, T25, T26, T27, T28, T29, T30, T31, T32, T33, T34, T35, T36, T37, T38, T39, T40, T41, T42, T43, T44, T45, ⟨([] : Lx.Bs).toArray⟩, ⟨([] : Lx.Bs).toArray⟩, T48, T49, T50, T51, T52, T53, T54, T55, ⟨([105, 116, 32] : Lx.Bs).toArray⟩, ⟨([] : Lx.Bs).toArray⟩, ⟨([] : Lx.Bs).toArray⟩, ⟨([] : Lx.Bs).toArray⟩, T60, T61, T62, T63, ⟨([] : Lx.Bs).toArray⟩, ⟨([110, 111, 95, 49] : Lx.Bs).toArray⟩], A := [none, none, none, A3, A4, A5, A6, A7, A8, A9, A10, A11, A12, A13, A14, A15, A16, A17, A18, A19, A20, A21, A22, none, A24, A25, A26, A27, none, none, A30, A31, none], M := [M0, M1, M2, M3, M4, M5, M6, M7, M8, M9, M10, M11, M12, M13, M14, M15, M16, M17, M18, M19, M20, M21, M22] } W := by
  have hk : Px.no_ [108, 101, 110, 40, 41] 4 = true := by decide +kernel
  have hcq := (by have h := no_q [108, 101, 110, 40, 41] 4 W hG; rw [hk] at h; exact h)
  refine den_call_q (fun _ _ => hcq) ⟨true, rfl, fun W414 y414 => ?_⟩
  clear hcq
  simp only [Env.push, List.cons_append, List.nil_append, List.append_nil]
  clear hk
  refine den_br_f rfl ?_
  have hk : Px.no_ [108, 101, 110, 40, 97] 4 = true := by decide +kernel
  have hcq := (by have h := no_q [108, 101, 110, 40, 97] 4 W414 (hG.ext y414); rw [hk] at h; exact h)
  refine den_call_q (fun _ _ => hcq) ⟨true, rfl, fun W415 y415 => ?_⟩
  clear hcq
  simp only [Env.push, List.cons_append, List.nil_append, List.append_nil]
  have z416 := ext_trans y414 y415
  clear hk
  refine den_br_f rfl ?_
  have hk : Px.no_ [108, 101, 110] 4 = true := by decide +kernel
  have hcq := (by have h := no_q [108, 101, 110] 4 W415 (hG.ext z416); rw [hk] at h; exact h)
  refine den_call_q (fun _ _ => hcq) ⟨true, rfl, fun W417 y417 => ?_⟩
  clear hcq
  simp only [Env.push, List.cons_append, List.nil_append, List.append_nil]
  have z418 := ext_trans z416 y417
  clear hk
  refine den_br_f rfl ?_
  have hk : Px.no_ [97, 32, 33, 32, 98] 4 = true := by decide +kernel
  have hcq := (by have h := no_q [97, 32, 33, 32, 98] 4 W417 (hG.ext z418); rw [hk] at h; exact h)
  refine den_call_q (fun _ _ => hcq) ⟨true, rfl, fun W419 y419 => ?_⟩
  clear hcq
  simp only [Env.push, List.cons_append, List.nil_append, List.append_nil]
  have z420 := ext_trans z418 y419
  clear hk
  refine den_br_f rfl ?_
  have hk : Px.no_ [97, 32, 38, 32, 38, 32, 98] 4 = true := by decide +kernel
  have hcq := (by have h := no_q [97, 32, 38, 32, 38, 32, 98] 4 W419 (hG.ext z420); rw [hk] at h; exact h)
  refine den_call_q (fun _ _ => hcq) ⟨true, rfl, fun W421 y421 => ?_⟩
  clear hcq
  simp only [Env.push, List.cons_append, List.nil_append, List.append_nil]
  have z422 := ext_trans z420 y421
  clear hk
  refine den_br_f rfl ?_
  have hk : Px.no_ [97, 32, 61, 61, 32, 98, 32, 33, 61, 32, 99] 4 = true := by decide +kernel
  have hcq := (by have h := no_q [97, 32, 61, 61, 32, 98, 32, 33, 61, 32, 99] 4 W421 (hG.ext z422); rw [hk] at h; exact h)
  refine den_call_q (fun _ _ => hcq) ⟨true, rfl, fun W423 y423 => ?_⟩
  clear hcq
  simp only [Env.push, List.cons_append, List.nil_append, List.append_nil]
  have z424 := ext_trans z422 y423
  clear hk
  refine den_br_f rfl ?_
  have hk : Px.no_ [121, 101, 115, 32, 110, 111] 4 = true := by decide +kernel
  have hcq := (by have h := no_q [121, 101, 115, 32, 110, 111] 4 W423 (hG.ext z424); rw [hk] at h; exact h)
  refine den_call_q (fun _ _ => hcq) ⟨true, rfl, fun W425 y425 => ?_⟩
  clear hcq
  simp only [Env.push, List.cons_append, List.nil_append, List.append_nil]
  have z426 := ext_trans z424 y425
  clear hk
  refine den_br_f rfl ?_
  have hk : Px.no_ [45] 4 = true := by decide +kernel
  have hcq := (by have h := no_q [45] 4 W425 (hG.ext z426); rw [hk] at h; exact h)
  refine den_call_q (fun _ _ => hcq) ⟨true, rfl, fun W427 y427 => ?_⟩
  clear hcq
  simp only [Env.push, List.cons_append, List.nil_append, List.append_nil]
  have z428 := ext_trans z426 y427
  clear hk
  refine den_br_f rfl ?_
  have hk : Px.no_ [39, 97, 39, 32, 39, 98, 39] 4 = true := by decide +kernel
  have hcq := (by have h := no_q [39, 97, 39, 32, 39, 98, 39] 4 W427 (hG.ext z428); rw [hk] at h; exact h)
  refine den_call_q (fun _ _ => hcq) ⟨true, rfl, fun W429 y429 => ?_⟩
  clear hcq
  simp only [Env.push, List.cons_append, List.nil_append, List.append_nil]
  have z430 := ext_trans z428 y429
  clear hk
  refine den_br_f rfl ?_
  have hk : Px.no_ [48, 49] 4 = true := by decide +kernel
  have hcq := (by have h := no_q [48, 49] 4 W429 (hG.ext z430); rw [hk] at h; exact h)
  refine den_call_q (fun _ _ => hcq) ⟨true, rfl, fun W431 y431 => ?_⟩
  clear hcq
  simp only [Env.push, List.cons_append, List.nil_append, List.append_nil]
  have z432 := ext_trans z430 y431
  clear hk
  refine den_br_f rfl ?_
  have hk : Px.no_ [97, 32, 61, 32, 98] 4 = true := by decide +kernel
  have hcq := (by have h := no_q [97, 32, 61, 32, 98] 4 W431 (hG.ext z432); rw [hk] at h; exact h)
  refine den_call_q (fun _ _ => hcq) ⟨true, rfl, fun W433 y433 => ?_⟩
  clear hcq
  simp only [Env.push, List.cons_append, List.nil_append, List.append_nil]
  have z434 := ext_trans z432 y433
  clear hk
  refine den_br_f rfl ?_
  have hk : Px.no_ [65] 4 = true := by decide +kernel
  have hcq := (by have h := no_q [65] 4 W433 (hG.ext z434); rw [hk] at h; exact h)
  refine den_call_q (fun _ _ => hcq) ⟨true, rfl, fun W435 y435 => ?_⟩
  clear hcq
  simp only [Env.push, List.cons_append, List.nil_append, List.append_nil]
  have z436 := ext_trans z434 y435
  clear hk
  refine den_br_f rfl ?_
  have hcq := many_q 15 (by decide) [45] (by decide) W435
  refine den_call_q (fun _ _ => hcq) ⟨⟨(List.replicate 15 [45]).flatten.toArray⟩, rfl, fun W437 y437 => ?_⟩
  clear hcq
  simp only [Env.push, List.cons_append, List.nil_append, List.append_nil]
  have z438 := ext_trans z436 y437
  refine den_chk (by kernel_rfl) ?_
  refine den_callq ⟨⟨(List.replicate 101 [32]).flatten.toArray⟩, fun V xV _ _ => many_q 101 (by decide) [32] (by decide) V, ?_⟩
  simp only [Env.push, List.cons_append, List.nil_append, List.append_nil]
  exact l_lnames_194 (hG.ext z438) (hT.ext z438)
set_option maxRecDepth 100000 in
theorem l_lnames_222 {n0 : Nat} {I9 I10 I11 I12 I13 I14 I15 I16 I17 I18 I19 I20 I21 I22 I23 I24 I25 I26 I27 I28 I29 I30 I31 I32 I33 I34 I35 I36 I37 I38 I39 I40 I41 I42 I43 I44 I45 I46 I47 I48 I49 I50 I51 I52 I53 I54 I55 I56 I57 I58 I59 I60 I61 I62 I63 I64 I65 I66 I67 I68 I72 I73 I74 I75 I76 I77 I78 I79 I80 I81 I82 I83 I90 I91 I92 I93 I94 I95 : Int} {N6 N7 N8 N9 N10 N11 N12 N13 N14 N15 N16 N17 N18 N19 N20 N21 N22 N23 N24 N25 N26 N27 N28 N29 N30 N31 N32 N33 N34 N35 N36 N37 N38 N39 N40 N41 N42 N43 N44 N45 N48 N49 N50 N51 N52 N53 N54 N55 N60 N61 N62 N63 : Nat} {T6 T7 T8 T9 T10 T11 T12 T13 T14 T15 T16 T17 T18 T19 T20 T21 T22 T23 T24 T25 T26 T27 T28 T29 T30 T31 T32 T33 T34 T35 T36 T37 T38 T39 T40 T41 T42 T43 T44 T45 T48 T49 T50 T51 T52 T53 T54 T55 T60 T61 T62 T63 : ByteArray} {A3 A4 A5 A6 A7 A8 A9 A10 A11 A12 A13 A14 A15 A16 A17 A18 A19 A20 A21 A22 A24 A25 A26 A27 A30 A31 : Option Addr} {M0 M1 M2 M3 M4 M5 M6 M7 M8 M9 M10 M11 M12 M13 M14 M15 M16 : Nat} {W : Wd} (hG : Glob W) (hT : Vs.Tabs W) (h93 : ExI W (Px.op1 16 (Px.op1 16 (.mk 2 0 0 [] [97] []))) [.int .u8 I93, .int .u8 I94, .int .i64 I95, .string T62, .string T63, .slice A31 N62 N63]) :
    t_lnames_222.den Tryz.prog n0 (Ret fun u x => u = Value.bool true) [] { I := [2, 0, 0, 2, 0, 0, 2, 0, 0, I9, I10, I11, I12, I13, I14, I15, I16, I17, I18, I19, I20, I21, I22, I23, I24, I25, I26, I27, I28, I29, I30, I31, I32, I33, I34, I35, I36, I37, I38, I39, I40, I41, I42, I43, I44, I45, I46, I47, I48, I49, I50, I51, I52, I53, I54, I55, I56, I57, I58, I59, I60, I61, I62, I63, I64, I65, I66, I67, I68, 1, 1, 5, I72, I73, I74, I75, I76, I77, I78, I79, I80, I81, I82, I83, 1, 3, 0, 1, 1, 9223372036854775807, I90, I91, I92, I93, I94, I95, 2, 0, 0], N := [0, 0, 0, 0, 0, 0, N6, N7, N8, N9, N10, N11, N12, N13, N14, N15, N16, N17, N18, N19, N20, N21, N22, N23, N24, N25, N26, N27, N28, N29, N30, N31, N32, N33, N34, N35, N36, N37, N38, N39, N40, N41, N42, N43, N44, N45, 0, 0, N48, N49, N50, N51, N52, N53, N54, N55, 0, 0, 0, 0, N60, N61, N62, N63, 0, 0], B := [true, true, true, true, true, true, true, true, true, true, true, true, true], T := [⟨([] : Lx.Bs).toArray⟩, ⟨([97] : Lx.Bs).toArray⟩, ⟨([] : Lx.Bs).toArray⟩, ⟨([98] : Lx.Bs).toArray⟩, ⟨([] : Lx.Bs).toArray⟩, ⟨([99] : Lx.Bs).toArray⟩, T6, T7, T8, T9, T10, T11, T12, T13, T14, T15, T16, T17, T18, T19, T20, T21, T22, T23, T24, T25, T26, T27, T28, T29, T30, T31, T32, T33, T34, T35, T36, T37, T38, T39, T40, T41, T42, T43, T44, T45, ⟨([] : Lx.Bs).toArray⟩, ⟨([] : Lx.Bs).toArray⟩, T48, T49, T50, T51, T52, T53, T54, T55, ⟨([105, 116, 32] : Lx.Bs).toArray⟩, ⟨([] : Lx.Bs).toArray⟩, ⟨([] : Lx.Bs).toArray⟩, ⟨([] : Lx.Bs).toArray⟩, T60, T61, T62, T63, ⟨([] : Lx.Bs).toArray⟩, ⟨([110, 111, 95, 49] : Lx.Bs).toArray⟩], A := [none, none, none, A3, A4, A5, A6, A7, A8, A9, A10, A11, A12, A13, A14, A15, A16, A17, A18, A19, A20, A21, A22, none, A24, A25, A26, A27, none, none, A30, A31, none], M := [M0, M1, M2, M3, M4, M5, M6, M7, M8, M9, M10, M11, M12, M13, M14, M15, M16] } W := by
  refine den_new fun M17 W365 _ y365 => ?_
  simp only [Env.push, List.cons_append, List.nil_append, List.append_nil]
  refine den_wr fun W366 y366 => ?_
  have z367 := ext_trans y365 y366
  have hk : Px.shows (.mk 1 2 1 [] [] []) [121, 101, 115] = true := by decide +kernel
  have hcq := (by have h := shows_q (.mk 1 2 1 [] [] []) [.int .u8 1, .int .u8 2, .int .i64 1, .string ⟨([] : Lx.Bs).toArray⟩, .string ⟨([] : Lx.Bs).toArray⟩, .slice none 0 0] [121, 101, 115] W366 (by decide +kernel) (ExAt.leaf _ _ 1 2 1 [] []) (hG.ext z367) (hT.ext z367); rw [hk] at h; exact h)
  refine den_call_q (fun _ _ => hcq) ⟨true, rfl, fun W368 y368 => ?_⟩
  clear hcq
  simp only [Env.push, List.cons_append, List.nil_append, List.append_nil]
  have z369 := ext_trans z367 y368
  clear hk
  refine den_br_f rfl ?_
  refine den_new fun M18 W370 _ y370 => ?_
  simp only [Env.push, List.cons_append, List.nil_append, List.append_nil]
  have z371 := ext_trans z369 y370
  refine den_wr fun W372 y372 => ?_
  have z373 := ext_trans z371 y372
  have hk : Px.shows (.mk 1 3 0 [105, 116, 32] [] []) [39, 105, 116, 32, 39] = true := by decide +kernel
  have hcq := (by have h := shows_q (.mk 1 3 0 [105, 116, 32] [] []) [.int .u8 1, .int .u8 3, .int .i64 0, .string ⟨([105, 116, 32] : Lx.Bs).toArray⟩, .string ⟨([] : Lx.Bs).toArray⟩, .slice none 0 0] [39, 105, 116, 32, 39] W372 (by decide +kernel) (ExAt.leaf _ _ 1 3 0 [105, 116, 32] []) (hG.ext z373) (hT.ext z373); rw [hk] at h; exact h)
  refine den_call_q (fun _ _ => hcq) ⟨true, rfl, fun W374 y374 => ?_⟩
  clear hcq
  simp only [Env.push, List.cons_append, List.nil_append, List.append_nil]
  have z375 := ext_trans z373 y374
  clear hk
  refine den_br_f rfl ?_
  refine den_new fun M19 W376 _ y376 => ?_
  simp only [Env.push, List.cons_append, List.nil_append, List.append_nil]
  have z377 := ext_trans z375 y376
  refine den_wr fun W378 y378 => ?_
  have z379 := ext_trans z377 y378
  have hk : Px.shows (.mk 1 1 9223372036854775807 [] [] []) [57, 50, 50, 51, 51, 55, 50, 48, 51, 54, 56, 53, 52, 55, 55, 53, 56, 48, 55] = true := by decide +kernel
  have hcq := (by have h := shows_q (.mk 1 1 9223372036854775807 [] [] []) [.int .u8 1, .int .u8 1, .int .i64 9223372036854775807, .string ⟨([] : Lx.Bs).toArray⟩, .string ⟨([] : Lx.Bs).toArray⟩, .slice none 0 0] [57, 50, 50, 51, 51, 55, 50, 48, 51, 54, 56, 53, 52, 55, 55, 53, 56, 48, 55] W378 (by decide +kernel) (ExAt.leaf _ _ 1 1 9223372036854775807 [] []) (hG.ext z379) (hT.ext z379); rw [hk] at h; exact h)
  refine den_call_q (fun _ _ => hcq) ⟨true, rfl, fun W380 y380 => ?_⟩
  clear hcq
  simp only [Env.push, List.cons_append, List.nil_append, List.append_nil]
  have z381 := ext_trans z379 y380
  clear hk
  refine den_br_f rfl ?_
  refine den_new fun M20 W382 _ y382 => ?_
  simp only [Env.push, List.cons_append, List.nil_append, List.append_nil]
  have z383 := ext_trans z381 y382
  refine den_wr fun W384 y384 => ?_
  have z385 := ext_trans z383 y384
  have hk : Px.shows (Px.op1 16 (Px.op1 16 (.mk 2 0 0 [] [97] []))) [108, 101, 110, 40, 108, 101, 110, 40, 97, 41, 41] = true := by decide +kernel
  have hcq := (by have h := shows_q (Px.op1 16 (Px.op1 16 (.mk 2 0 0 [] [97] []))) [.int .u8 I93, .int .u8 I94, .int .i64 I95, .string T62, .string T63, .slice A31 N62 N63] [108, 101, 110, 40, 108, 101, 110, 40, 97, 41, 41] W384 (by decide +kernel) (h93.ext z385) (hG.ext z385) (hT.ext z385); rw [hk] at h; exact h)
  refine den_call_q (fun _ _ => hcq) ⟨true, rfl, fun W386 y386 => ?_⟩
  clear hcq
  simp only [Env.push, List.cons_append, List.nil_append, List.append_nil]
  have z387 := ext_trans z385 y386
  clear hk
  refine den_br_f rfl ?_
  refine den_new fun M21 W388 _ y388 => ?_
  simp only [Env.push, List.cons_append, List.nil_append, List.append_nil]
  have z389 := ext_trans z387 y388
  refine den_wr fun W390 y390 => ?_
  have z391 := ext_trans z389 y390
  have hk : Px.shows (.mk 2 0 0 [] [110, 111, 95, 49] []) [110, 111, 95, 49] = true := by decide +kernel
  have hcq := (by have h := shows_q (.mk 2 0 0 [] [110, 111, 95, 49] []) [.int .u8 2, .int .u8 0, .int .i64 0, .string ⟨([] : Lx.Bs).toArray⟩, .string ⟨([110, 111, 95, 49] : Lx.Bs).toArray⟩, .slice none 0 0] [110, 111, 95, 49] W390 (by decide +kernel) (ExAt.leaf _ _ 2 0 0 [] [110, 111, 95, 49]) (hG.ext z391) (hT.ext z391); rw [hk] at h; exact h)
  refine den_call_q (fun _ _ => hcq) ⟨true, rfl, fun W392 y392 => ?_⟩
  clear hcq
  simp only [Env.push, List.cons_append, List.nil_append, List.append_nil]
  have z393 := ext_trans z391 y392
  clear hk
  refine den_br_f rfl ?_
  refine den_new fun M22 W394 _ y394 => ?_
  simp only [Env.push, List.cons_append, List.nil_append, List.append_nil]
  have z395 := ext_trans z393 y394
  have hk : Px.no_ [] 4 = true := by decide +kernel
  have hcq := (by have h := no_q [] 4 W394 (hG.ext z395); rw [hk] at h; exact h)
  refine den_call_q (fun _ _ => hcq) ⟨true, rfl, fun W396 y396 => ?_⟩
  clear hcq
  simp only [Env.push, List.cons_append, List.nil_append, List.append_nil]
  have z397 := ext_trans z395 y396
  clear hk
  refine den_br_f rfl ?_
  have hk : Px.no_ [32] 4 = true := by decide +kernel
  have hcq := (by have h := no_q [32] 4 W396 (hG.ext z397); rw [hk] at h; exact h)
  refine den_call_q (fun _ _ => hcq) ⟨true, rfl, fun W398 y398 => ?_⟩
  clear hcq
  simp only [Env.push, List.cons_append, List.nil_append, List.append_nil]
  have z399 := ext_trans z397 y398
  clear hk
  refine den_br_f rfl ?_
  have hk : Px.no_ [97, 32, 98] 4 = true := by decide +kernel
  have hcq := (by have h := no_q [97, 32, 98] 4 W398 (hG.ext z399); rw [hk] at h; exact h)
  refine den_call_q (fun _ _ => hcq) ⟨true, rfl, fun W400 y400 => ?_⟩
  clear hcq
  simp only [Env.push, List.cons_append, List.nil_append, List.append_nil]
  have z401 := ext_trans z399 y400
  clear hk
  refine den_br_f rfl ?_
  have hk : Px.no_ [97, 32, 43] 4 = true := by decide +kernel
  have hcq := (by have h := no_q [97, 32, 43] 4 W400 (hG.ext z401); rw [hk] at h; exact h)
  refine den_call_q (fun _ _ => hcq) ⟨true, rfl, fun W402 y402 => ?_⟩
  clear hcq
  simp only [Env.push, List.cons_append, List.nil_append, List.append_nil]
  have z403 := ext_trans z401 y402
  clear hk
  refine den_br_f rfl ?_
  have hk : Px.no_ [43, 32, 97] 4 = true := by decide +kernel
  have hcq := (by have h := no_q [43, 32, 97] 4 W402 (hG.ext z403); rw [hk] at h; exact h)
  refine den_call_q (fun _ _ => hcq) ⟨true, rfl, fun W404 y404 => ?_⟩
  clear hcq
  simp only [Env.push, List.cons_append, List.nil_append, List.append_nil]
  have z405 := ext_trans z403 y404
  clear hk
  refine den_br_f rfl ?_
  have hk : Px.no_ [40, 41] 4 = true := by decide +kernel
  have hcq := (by have h := no_q [40, 41] 4 W404 (hG.ext z405); rw [hk] at h; exact h)
  refine den_call_q (fun _ _ => hcq) ⟨true, rfl, fun W406 y406 => ?_⟩
  clear hcq
  simp only [Env.push, List.cons_append, List.nil_append, List.append_nil]
  have z407 := ext_trans z405 y406
  clear hk
  refine den_br_f rfl ?_
  have hk : Px.no_ [40, 97] 4 = true := by decide +kernel
  have hcq := (by have h := no_q [40, 97] 4 W406 (hG.ext z407); rw [hk] at h; exact h)
  refine den_call_q (fun _ _ => hcq) ⟨true, rfl, fun W408 y408 => ?_⟩
  clear hcq
  simp only [Env.push, List.cons_append, List.nil_append, List.append_nil]
  have z409 := ext_trans z407 y408
  clear hk
  refine den_br_f rfl ?_
  have hk : Px.no_ [97, 41] 4 = true := by decide +kernel
  have hcq := (by have h := no_q [97, 41] 4 W408 (hG.ext z409); rw [hk] at h; exact h)
  refine den_call_q (fun _ _ => hcq) ⟨true, rfl, fun W410 y410 => ?_⟩
  clear hcq
  simp only [Env.push, List.cons_append, List.nil_append, List.append_nil]
  have z411 := ext_trans z409 y410
  clear hk
  refine den_br_f rfl ?_
  have hk : Px.no_ [108, 101, 110, 32, 97] 4 = true := by decide +kernel
  have hcq := (by have h := no_q [108, 101, 110, 32, 97] 4 W410 (hG.ext z411); rw [hk] at h; exact h)
  refine den_call_q (fun _ _ => hcq) ⟨true, rfl, fun W412 y412 => ?_⟩
  clear hcq
  simp only [Env.push, List.cons_append, List.nil_append, List.append_nil]
  have z413 := ext_trans z411 y412
  clear hk
  refine den_br_f rfl ?_
  exact l_lnames_208 (hG.ext z413) (hT.ext z413)
set_option maxRecDepth 100000 in
theorem l_lnames_236 {n0 : Nat} {I9 I10 I11 I12 I13 I14 I15 I16 I17 I18 I19 I20 I21 I22 I23 I24 I25 I26 I27 I28 I29 I30 I31 I32 I33 I34 I35 I36 I37 I38 I39 I40 I41 I42 I43 I44 I45 I46 I47 I48 I49 I50 I51 I52 I53 I54 I55 I56 I57 I58 I59 I60 I61 I62 I63 I64 I65 I66 I67 I68 I72 I73 I74 I75 I76 I77 I78 I79 I80 I81 I82 I83 I90 I91 I92 : Int} {N6 N7 N8 N9 N10 N11 N12 N13 N14 N15 N16 N17 N18 N19 N20 N21 N22 N23 N24 N25 N26 N27 N28 N29 N30 N31 N32 N33 N34 N35 N36 N37 N38 N39 N40 N41 N42 N43 N44 N45 N48 N49 N50 N51 N52 N53 N54 N55 N60 N61 : Nat} {T6 T7 T8 T9 T10 T11 T12 T13 T14 T15 T16 T17 T18 T19 T20 T21 T22 T23 T24 T25 T26 T27 T28 T29 T30 T31 T32 T33 T34 T35 T36 T37 T38 T39 T40 T41 T42 T43 T44 T45 T48 T49 T50 T51 T52 T53 T54 T55 T60 T61 : ByteArray} {A3 A4 A5 A6 A7 A8 A9 A10 A11 A12 A13 A14 A15 A16 A17 A18 A19 A20 A21 A22 A24 A25 A26 A27 A30 : Option Addr} {M0 M1 M2 M3 : Nat} {W : Wd} (hG : Glob W) (hT : Vs.Tabs W) (h12 : ExI W (Px.op2 15 (Px.op2 15 (.mk 2 0 0 [] [97] []) (.mk 2 0 0 [] [98] [])) (.mk 2 0 0 [] [99] [])) [.int .u8 I12, .int .u8 I13, .int .i64 I14, .string T8, .string T9, .slice A4 N8 N9]) (h18 : ExI W (Px.op2 15 (.mk 2 0 0 [] [97] []) (Px.op2 15 (.mk 2 0 0 [] [98] []) (.mk 2 0 0 [] [99] []))) [.int .u8 I18, .int .u8 I19, .int .i64 I20, .string T12, .string T13, .slice A6 N12 N13]) (h24 : ExI W (Px.op2 13 (Px.op2 14 (.mk 2 0 0 [] [97] []) (.mk 2 0 0 [] [98] [])) (.mk 2 0 0 [] [99] [])) [.int .u8 I24, .int .u8 I25, .int .i64 I26, .string T16, .string T17, .slice A8 N16 N17]) (h30 : ExI W (Px.op2 14 (Px.op2 13 (.mk 2 0 0 [] [97] []) (.mk 2 0 0 [] [98] [])) (.mk 2 0 0 [] [99] [])) [.int .u8 I30, .int .u8 I31, .int .i64 I32, .string T20, .string T21, .slice A10 N20 N21]) (h36 : ExI W (Px.op2 9 (Px.op2 9 (.mk 2 0 0 [] [97] []) (.mk 2 0 0 [] [98] [])) (.mk 2 0 0 [] [99] [])) [.int .u8 I36, .int .u8 I37, .int .i64 I38, .string T24, .string T25, .slice A12 N24 N25]) (h42 : ExI W (Px.op2 11 (.mk 2 0 0 [] [97] []) (Px.op2 12 (.mk 2 0 0 [] [98] []) (.mk 2 0 0 [] [99] []))) [.int .u8 I42, .int .u8 I43, .int .i64 I44, .string T28, .string T29, .slice A14 N28 N29]) (h48 : ExI W (Px.op1 3 (Px.op1 3 (.mk 2 0 0 [] [97] []))) [.int .u8 I48, .int .u8 I49, .int .i64 I50, .string T32, .string T33, .slice A16 N32 N33]) (h54 : ExI W (Px.op1 3 (Px.op2 5 (.mk 2 0 0 [] [97] []) (.mk 2 0 0 [] [98] []))) [.int .u8 I54, .int .u8 I55, .int .i64 I56, .string T36, .string T37, .slice A18 N36 N37]) (h60 : ExI W (Px.op2 5 (Px.op1 3 (.mk 2 0 0 [] [97] [])) (.mk 2 0 0 [] [98] [])) [.int .u8 I60, .int .u8 I61, .int .i64 I62, .string T40, .string T41, .slice A20 N40 N41]) (h66 : ExI W (Px.op1 4 (Px.op2 10 (.mk 2 0 0 [] [97] []) (.mk 2 0 0 [] [98] []))) [.int .u8 I66, .int .u8 I67, .int .i64 I68, .string T44, .string T45, .slice A22 N44 N45]) (h75 : ExI W (Px.op2 15 (.mk 2 0 0 [] [97] []) (Px.op1 3 (.mk 1 1 5 [] [] []))) [.int .u8 I75, .int .u8 I76, .int .i64 I77, .string T50, .string T51, .slice A25 N50 N51]) (h81 : ExI W (Px.op2 6 (.mk 2 0 0 [] [97] []) (Px.op2 7 (.mk 2 0 0 [] [98] []) (.mk 2 0 0 [] [99] []))) [.int .u8 I81, .int .u8 I82, .int .i64 I83, .string T54, .string T55, .slice A27 N54 N55]) (h90 : ExI W (Px.op1 16 (.mk 2 0 0 [] [97] [])) [.int .u8 I90, .int .u8 I91, .int .i64 I92, .string T60, .string T61, .slice A30 N60 N61]) :
    t_lnames_236.den Tryz.prog n0 (Ret fun u x => u = Value.bool true) [] { I := [2, 0, 0, 2, 0, 0, 2, 0, 0, I9, I10, I11, I12, I13, I14, I15, I16, I17, I18, I19, I20, I21, I22, I23, I24, I25, I26, I27, I28, I29, I30, I31, I32, I33, I34, I35, I36, I37, I38, I39, I40, I41, I42, I43, I44, I45, I46, I47, I48, I49, I50, I51, I52, I53, I54, I55, I56, I57, I58, I59, I60, I61, I62, I63, I64, I65, I66, I67, I68, 1, 1, 5, I72, I73, I74, I75, I76, I77, I78, I79, I80, I81, I82, I83, 1, 3, 0, 1, 1, 9223372036854775807, I90, I91, I92], N := [0, 0, 0, 0, 0, 0, N6, N7, N8, N9, N10, N11, N12, N13, N14, N15, N16, N17, N18, N19, N20, N21, N22, N23, N24, N25, N26, N27, N28, N29, N30, N31, N32, N33, N34, N35, N36, N37, N38, N39, N40, N41, N42, N43, N44, N45, 0, 0, N48, N49, N50, N51, N52, N53, N54, N55, 0, 0, 0, 0, N60, N61], B := [true], T := [⟨([] : Lx.Bs).toArray⟩, ⟨([97] : Lx.Bs).toArray⟩, ⟨([] : Lx.Bs).toArray⟩, ⟨([98] : Lx.Bs).toArray⟩, ⟨([] : Lx.Bs).toArray⟩, ⟨([99] : Lx.Bs).toArray⟩, T6, T7, T8, T9, T10, T11, T12, T13, T14, T15, T16, T17, T18, T19, T20, T21, T22, T23, T24, T25, T26, T27, T28, T29, T30, T31, T32, T33, T34, T35, T36, T37, T38, T39, T40, T41, T42, T43, T44, T45, ⟨([] : Lx.Bs).toArray⟩, ⟨([] : Lx.Bs).toArray⟩, T48, T49, T50, T51, T52, T53, T54, T55, ⟨([105, 116, 32] : Lx.Bs).toArray⟩, ⟨([] : Lx.Bs).toArray⟩, ⟨([] : Lx.Bs).toArray⟩, ⟨([] : Lx.Bs).toArray⟩, T60, T61], A := [none, none, none, A3, A4, A5, A6, A7, A8, A9, A10, A11, A12, A13, A14, A15, A16, A17, A18, A19, A20, A21, A22, none, A24, A25, A26, A27, none, none, A30], M := [M0, M1, M2, M3] } W := by
  refine den_grow fun W246 y246 => ?_
  have hmk := op1_i 16 (Px.op1 16 (.mk 2 0 0 [] [97] [])) [.int .u8 I90, .int .u8 I91, .int .i64 I92, .string T60, .string T61, .slice A30 N60 N61] W246 (h90.ext y246)
  refine den_call_i (fun _ _ => hmk) fun v w' _ ⟨I93, I94, I95, T62, T63, A31, N62, N63, hv, hJ⟩ => ⟨I93, I94, I95, N62, N63, T62, T63, A31, hv, fun W247 e2 y247 n2 => ?_⟩
  clear hmk
  have h93 := ExJ.i hJ e2 y247 n2
  clear hv hJ e2 n2
  simp only [Env.push, List.cons_append, List.nil_append, List.append_nil]
  have z248 := ext_trans y246 y247
  refine den_callq ⟨2, 0, 0, 0, 0, ⟨([] : Lx.Bs).toArray⟩, ⟨([110, 111, 95, 49] : Lx.Bs).toArray⟩, none, fun V xV _ _ => name_qn [110, 111, 95, 49] V, ?_⟩
  simp only [Env.push, List.cons_append, List.nil_append, List.append_nil]
  refine den_grow fun W249 y249 => ?_
  have z250 := ext_trans z248 y249
  refine den_new fun M4 W251 _ y251 => ?_
  simp only [Env.push, List.cons_append, List.nil_append, List.append_nil]
  have z252 := ext_trans y249 y251
  have z253 := ext_trans z250 y251
  refine den_grow fun W254 y254 => ?_
  have z255 := ext_trans z252 y254
  have z256 := ext_trans z253 y254
  refine den_new fun M5 W257 _ y257 => ?_
  simp only [Env.push, List.cons_append, List.nil_append, List.append_nil]
  have z258 := ext_trans z255 y257
  have z259 := ext_trans z256 y257
  refine den_wr fun W260 y260 => ?_
  have z261 := ext_trans z258 y260
  have z262 := ext_trans z259 y260
  have hk : Px.shows (Px.op2 15 (Px.op2 15 (.mk 2 0 0 [] [97] []) (.mk 2 0 0 [] [98] [])) (.mk 2 0 0 [] [99] [])) [97, 32, 45, 32, 98, 32, 45, 32, 99] = true := by decide +kernel
  have hcq := (by have h := shows_q (Px.op2 15 (Px.op2 15 (.mk 2 0 0 [] [97] []) (.mk 2 0 0 [] [98] [])) (.mk 2 0 0 [] [99] [])) [.int .u8 I12, .int .u8 I13, .int .i64 I14, .string T8, .string T9, .slice A4 N8 N9] [97, 32, 45, 32, 98, 32, 45, 32, 99] W260 (by decide +kernel) (h12.ext z262) (hG.ext z262) (hT.ext z262); rw [hk] at h; exact h)
  refine den_call_q (fun _ _ => hcq) ⟨true, rfl, fun W263 y263 => ?_⟩
  clear hcq
  simp only [Env.push, List.cons_append, List.nil_append, List.append_nil]
  have z264 := ext_trans z261 y263
  have z265 := ext_trans z262 y263
  clear hk
  refine den_br_f rfl ?_
  refine den_new fun M6 W266 _ y266 => ?_
  simp only [Env.push, List.cons_append, List.nil_append, List.append_nil]
  have z267 := ext_trans z264 y266
  have z268 := ext_trans z265 y266
  refine den_wr fun W269 y269 => ?_
  have z270 := ext_trans z267 y269
  have z271 := ext_trans z268 y269
  have hk : Px.shows (Px.op2 15 (.mk 2 0 0 [] [97] []) (Px.op2 15 (.mk 2 0 0 [] [98] []) (.mk 2 0 0 [] [99] []))) [97, 32, 45, 32, 40, 98, 32, 45, 32, 99, 41] = true := by decide +kernel
  have hcq := (by have h := shows_q (Px.op2 15 (.mk 2 0 0 [] [97] []) (Px.op2 15 (.mk 2 0 0 [] [98] []) (.mk 2 0 0 [] [99] []))) [.int .u8 I18, .int .u8 I19, .int .i64 I20, .string T12, .string T13, .slice A6 N12 N13] [97, 32, 45, 32, 40, 98, 32, 45, 32, 99, 41] W269 (by decide +kernel) (h18.ext z271) (hG.ext z271) (hT.ext z271); rw [hk] at h; exact h)
  refine den_call_q (fun _ _ => hcq) ⟨true, rfl, fun W272 y272 => ?_⟩
  clear hcq
  simp only [Env.push, List.cons_append, List.nil_append, List.append_nil]
  have z273 := ext_trans z270 y272
  have z274 := ext_trans z271 y272
  clear hk
  refine den_br_f rfl ?_
  refine den_new fun M7 W275 _ y275 => ?_
  simp only [Env.push, List.cons_append, List.nil_append, List.append_nil]
  have z276 := ext_trans z273 y275
  have z277 := ext_trans z274 y275
  refine den_wr fun W278 y278 => ?_
  have z279 := ext_trans z276 y278
  have z280 := ext_trans z277 y278
  have hk : Px.shows (Px.op2 13 (Px.op2 14 (.mk 2 0 0 [] [97] []) (.mk 2 0 0 [] [98] [])) (.mk 2 0 0 [] [99] [])) [40, 97, 32, 124, 32, 98, 41, 32, 38, 32, 99] = true := by decide +kernel
  have hcq := (by have h := shows_q (Px.op2 13 (Px.op2 14 (.mk 2 0 0 [] [97] []) (.mk 2 0 0 [] [98] [])) (.mk 2 0 0 [] [99] [])) [.int .u8 I24, .int .u8 I25, .int .i64 I26, .string T16, .string T17, .slice A8 N16 N17] [40, 97, 32, 124, 32, 98, 41, 32, 38, 32, 99] W278 (by decide +kernel) (h24.ext z280) (hG.ext z280) (hT.ext z280); rw [hk] at h; exact h)
  refine den_call_q (fun _ _ => hcq) ⟨true, rfl, fun W281 y281 => ?_⟩
  clear hcq
  simp only [Env.push, List.cons_append, List.nil_append, List.append_nil]
  have z282 := ext_trans z279 y281
  have z283 := ext_trans z280 y281
  clear hk
  refine den_br_f rfl ?_
  refine den_new fun M8 W284 _ y284 => ?_
  simp only [Env.push, List.cons_append, List.nil_append, List.append_nil]
  have z285 := ext_trans z282 y284
  have z286 := ext_trans z283 y284
  refine den_wr fun W287 y287 => ?_
  have z288 := ext_trans z285 y287
  have z289 := ext_trans z286 y287
  have hk : Px.shows (Px.op2 14 (Px.op2 13 (.mk 2 0 0 [] [97] []) (.mk 2 0 0 [] [98] [])) (.mk 2 0 0 [] [99] [])) [97, 32, 38, 32, 98, 32, 124, 32, 99] = true := by decide +kernel
  have hcq := (by have h := shows_q (Px.op2 14 (Px.op2 13 (.mk 2 0 0 [] [97] []) (.mk 2 0 0 [] [98] [])) (.mk 2 0 0 [] [99] [])) [.int .u8 I30, .int .u8 I31, .int .i64 I32, .string T20, .string T21, .slice A10 N20 N21] [97, 32, 38, 32, 98, 32, 124, 32, 99] W287 (by decide +kernel) (h30.ext z289) (hG.ext z289) (hT.ext z289); rw [hk] at h; exact h)
  refine den_call_q (fun _ _ => hcq) ⟨true, rfl, fun W290 y290 => ?_⟩
  clear hcq
  simp only [Env.push, List.cons_append, List.nil_append, List.append_nil]
  have z291 := ext_trans z288 y290
  have z292 := ext_trans z289 y290
  clear hk
  refine den_br_f rfl ?_
  refine den_new fun M9 W293 _ y293 => ?_
  simp only [Env.push, List.cons_append, List.nil_append, List.append_nil]
  have z294 := ext_trans z291 y293
  have z295 := ext_trans z292 y293
  refine den_wr fun W296 y296 => ?_
  have z297 := ext_trans z294 y296
  have z298 := ext_trans z295 y296
  have hk : Px.shows (Px.op2 9 (Px.op2 9 (.mk 2 0 0 [] [97] []) (.mk 2 0 0 [] [98] [])) (.mk 2 0 0 [] [99] [])) [40, 97, 32, 60, 32, 98, 41, 32, 60, 32, 99] = true := by decide +kernel
  have hcq := (by have h := shows_q (Px.op2 9 (Px.op2 9 (.mk 2 0 0 [] [97] []) (.mk 2 0 0 [] [98] [])) (.mk 2 0 0 [] [99] [])) [.int .u8 I36, .int .u8 I37, .int .i64 I38, .string T24, .string T25, .slice A12 N24 N25] [40, 97, 32, 60, 32, 98, 41, 32, 60, 32, 99] W296 (by decide +kernel) (h36.ext z298) (hG.ext z298) (hT.ext z298); rw [hk] at h; exact h)
  refine den_call_q (fun _ _ => hcq) ⟨true, rfl, fun W299 y299 => ?_⟩
  clear hcq
  simp only [Env.push, List.cons_append, List.nil_append, List.append_nil]
  have z300 := ext_trans z297 y299
  have z301 := ext_trans z298 y299
  clear hk
  refine den_br_f rfl ?_
  refine den_new fun M10 W302 _ y302 => ?_
  simp only [Env.push, List.cons_append, List.nil_append, List.append_nil]
  have z303 := ext_trans z300 y302
  have z304 := ext_trans z301 y302
  refine den_wr fun W305 y305 => ?_
  have z306 := ext_trans z303 y305
  have z307 := ext_trans z304 y305
  have hk : Px.shows (Px.op2 11 (.mk 2 0 0 [] [97] []) (Px.op2 12 (.mk 2 0 0 [] [98] []) (.mk 2 0 0 [] [99] []))) [97, 32, 61, 61, 32, 40, 98, 32, 33, 61, 32, 99, 41] = true := by decide +kernel
  have hcq := (by have h := shows_q (Px.op2 11 (.mk 2 0 0 [] [97] []) (Px.op2 12 (.mk 2 0 0 [] [98] []) (.mk 2 0 0 [] [99] []))) [.int .u8 I42, .int .u8 I43, .int .i64 I44, .string T28, .string T29, .slice A14 N28 N29] [97, 32, 61, 61, 32, 40, 98, 32, 33, 61, 32, 99, 41] W305 (by decide +kernel) (h42.ext z307) (hG.ext z307) (hT.ext z307); rw [hk] at h; exact h)
  refine den_call_q (fun _ _ => hcq) ⟨true, rfl, fun W308 y308 => ?_⟩
  clear hcq
  simp only [Env.push, List.cons_append, List.nil_append, List.append_nil]
  have z309 := ext_trans z306 y308
  have z310 := ext_trans z307 y308
  clear hk
  refine den_br_f rfl ?_
  refine den_new fun M11 W311 _ y311 => ?_
  simp only [Env.push, List.cons_append, List.nil_append, List.append_nil]
  have z312 := ext_trans z309 y311
  have z313 := ext_trans z310 y311
  refine den_wr fun W314 y314 => ?_
  have z315 := ext_trans z312 y314
  have z316 := ext_trans z313 y314
  have hk : Px.shows (Px.op1 3 (Px.op1 3 (.mk 2 0 0 [] [97] []))) [45, 45, 97] = true := by decide +kernel
  have hcq := (by have h := shows_q (Px.op1 3 (Px.op1 3 (.mk 2 0 0 [] [97] []))) [.int .u8 I48, .int .u8 I49, .int .i64 I50, .string T32, .string T33, .slice A16 N32 N33] [45, 45, 97] W314 (by decide +kernel) (h48.ext z316) (hG.ext z316) (hT.ext z316); rw [hk] at h; exact h)
  refine den_call_q (fun _ _ => hcq) ⟨true, rfl, fun W317 y317 => ?_⟩
  clear hcq
  simp only [Env.push, List.cons_append, List.nil_append, List.append_nil]
  have z318 := ext_trans z315 y317
  have z319 := ext_trans z316 y317
  clear hk
  refine den_br_f rfl ?_
  refine den_new fun M12 W320 _ y320 => ?_
  simp only [Env.push, List.cons_append, List.nil_append, List.append_nil]
  have z321 := ext_trans z318 y320
  have z322 := ext_trans z319 y320
  refine den_wr fun W323 y323 => ?_
  have z324 := ext_trans z321 y323
  have z325 := ext_trans z322 y323
  have hk : Px.shows (Px.op1 3 (Px.op2 5 (.mk 2 0 0 [] [97] []) (.mk 2 0 0 [] [98] []))) [45, 40, 97, 32, 42, 32, 98, 41] = true := by decide +kernel
  have hcq := (by have h := shows_q (Px.op1 3 (Px.op2 5 (.mk 2 0 0 [] [97] []) (.mk 2 0 0 [] [98] []))) [.int .u8 I54, .int .u8 I55, .int .i64 I56, .string T36, .string T37, .slice A18 N36 N37] [45, 40, 97, 32, 42, 32, 98, 41] W323 (by decide +kernel) (h54.ext z325) (hG.ext z325) (hT.ext z325); rw [hk] at h; exact h)
  refine den_call_q (fun _ _ => hcq) ⟨true, rfl, fun W326 y326 => ?_⟩
  clear hcq
  simp only [Env.push, List.cons_append, List.nil_append, List.append_nil]
  have z327 := ext_trans z324 y326
  have z328 := ext_trans z325 y326
  clear hk
  refine den_br_f rfl ?_
  refine den_new fun M13 W329 _ y329 => ?_
  simp only [Env.push, List.cons_append, List.nil_append, List.append_nil]
  have z330 := ext_trans z327 y329
  have z331 := ext_trans z328 y329
  refine den_wr fun W332 y332 => ?_
  have z333 := ext_trans z330 y332
  have z334 := ext_trans z331 y332
  have hk : Px.shows (Px.op2 5 (Px.op1 3 (.mk 2 0 0 [] [97] [])) (.mk 2 0 0 [] [98] [])) [45, 97, 32, 42, 32, 98] = true := by decide +kernel
  have hcq := (by have h := shows_q (Px.op2 5 (Px.op1 3 (.mk 2 0 0 [] [97] [])) (.mk 2 0 0 [] [98] [])) [.int .u8 I60, .int .u8 I61, .int .i64 I62, .string T40, .string T41, .slice A20 N40 N41] [45, 97, 32, 42, 32, 98] W332 (by decide +kernel) (h60.ext z334) (hG.ext z334) (hT.ext z334); rw [hk] at h; exact h)
  refine den_call_q (fun _ _ => hcq) ⟨true, rfl, fun W335 y335 => ?_⟩
  clear hcq
  simp only [Env.push, List.cons_append, List.nil_append, List.append_nil]
  have z336 := ext_trans z333 y335
  have z337 := ext_trans z334 y335
  clear hk
  refine den_br_f rfl ?_
  refine den_new fun M14 W338 _ y338 => ?_
  simp only [Env.push, List.cons_append, List.nil_append, List.append_nil]
  have z339 := ext_trans z336 y338
  have z340 := ext_trans z337 y338
  refine den_wr fun W341 y341 => ?_
  have z342 := ext_trans z339 y341
  have z343 := ext_trans z340 y341
  have hk : Px.shows (Px.op1 4 (Px.op2 10 (.mk 2 0 0 [] [97] []) (.mk 2 0 0 [] [98] []))) [33, 40, 97, 32, 60, 61, 32, 98, 41] = true := by decide +kernel
  have hcq := (by have h := shows_q (Px.op1 4 (Px.op2 10 (.mk 2 0 0 [] [97] []) (.mk 2 0 0 [] [98] []))) [.int .u8 I66, .int .u8 I67, .int .i64 I68, .string T44, .string T45, .slice A22 N44 N45] [33, 40, 97, 32, 60, 61, 32, 98, 41] W341 (by decide +kernel) (h66.ext z343) (hG.ext z343) (hT.ext z343); rw [hk] at h; exact h)
  refine den_call_q (fun _ _ => hcq) ⟨true, rfl, fun W344 y344 => ?_⟩
  clear hcq
  simp only [Env.push, List.cons_append, List.nil_append, List.append_nil]
  have z345 := ext_trans z342 y344
  have z346 := ext_trans z343 y344
  clear hk
  refine den_br_f rfl ?_
  refine den_new fun M15 W347 _ y347 => ?_
  simp only [Env.push, List.cons_append, List.nil_append, List.append_nil]
  have z348 := ext_trans z345 y347
  have z349 := ext_trans z346 y347
  refine den_wr fun W350 y350 => ?_
  have z351 := ext_trans z348 y350
  have z352 := ext_trans z349 y350
  have hk : Px.shows (Px.op2 15 (.mk 2 0 0 [] [97] []) (Px.op1 3 (.mk 1 1 5 [] [] []))) [97, 32, 45, 32, 45, 53] = true := by decide +kernel
  have hcq := (by have h := shows_q (Px.op2 15 (.mk 2 0 0 [] [97] []) (Px.op1 3 (.mk 1 1 5 [] [] []))) [.int .u8 I75, .int .u8 I76, .int .i64 I77, .string T50, .string T51, .slice A25 N50 N51] [97, 32, 45, 32, 45, 53] W350 (by decide +kernel) (h75.ext z352) (hG.ext z352) (hT.ext z352); rw [hk] at h; exact h)
  refine den_call_q (fun _ _ => hcq) ⟨true, rfl, fun W353 y353 => ?_⟩
  clear hcq
  simp only [Env.push, List.cons_append, List.nil_append, List.append_nil]
  have z354 := ext_trans z351 y353
  have z355 := ext_trans z352 y353
  clear hk
  refine den_br_f rfl ?_
  refine den_new fun M16 W356 _ y356 => ?_
  simp only [Env.push, List.cons_append, List.nil_append, List.append_nil]
  have z357 := ext_trans z354 y356
  have z358 := ext_trans z355 y356
  refine den_wr fun W359 y359 => ?_
  have z360 := ext_trans z357 y359
  have z361 := ext_trans z358 y359
  have hk : Px.shows (Px.op2 6 (.mk 2 0 0 [] [97] []) (Px.op2 7 (.mk 2 0 0 [] [98] []) (.mk 2 0 0 [] [99] []))) [97, 32, 47, 32, 40, 98, 32, 37, 32, 99, 41] = true := by decide +kernel
  have hcq := (by have h := shows_q (Px.op2 6 (.mk 2 0 0 [] [97] []) (Px.op2 7 (.mk 2 0 0 [] [98] []) (.mk 2 0 0 [] [99] []))) [.int .u8 I81, .int .u8 I82, .int .i64 I83, .string T54, .string T55, .slice A27 N54 N55] [97, 32, 47, 32, 40, 98, 32, 37, 32, 99, 41] W359 (by decide +kernel) (h81.ext z361) (hG.ext z361) (hT.ext z361); rw [hk] at h; exact h)
  refine den_call_q (fun _ _ => hcq) ⟨true, rfl, fun W362 y362 => ?_⟩
  clear hcq
  simp only [Env.push, List.cons_append, List.nil_append, List.append_nil]
  have z363 := ext_trans z360 y362
  have z364 := ext_trans z361 y362
  clear hk
  refine den_br_f rfl ?_
  exact l_lnames_222 (hG.ext z364) (hT.ext z364) (h93.ext z363)
set_option maxRecDepth 100000 in
theorem l_lnames_250 {n0 : Nat} {I9 I10 I11 I12 I13 I14 I15 I16 I17 I18 I19 I20 I21 I22 I23 I24 I25 I26 I27 I28 I29 I30 I31 I32 I33 I34 I35 I36 I37 I38 I39 I40 I41 I42 I43 I44 I45 I46 I47 I48 I49 I50 : Int} {N6 N7 N8 N9 N10 N11 N12 N13 N14 N15 N16 N17 N18 N19 N20 N21 N22 N23 N24 N25 N26 N27 N28 N29 N30 N31 N32 N33 : Nat} {T6 T7 T8 T9 T10 T11 T12 T13 T14 T15 T16 T17 T18 T19 T20 T21 T22 T23 T24 T25 T26 T27 T28 T29 T30 T31 T32 T33 : ByteArray} {A3 A4 A5 A6 A7 A8 A9 A10 A11 A12 A13 A14 A15 A16 : Option Addr} {M0 M1 M2 M3 : Nat} {W : Wd} (hG : Glob W) (hT : Vs.Tabs W) (h12 : ExI W (Px.op2 15 (Px.op2 15 (.mk 2 0 0 [] [97] []) (.mk 2 0 0 [] [98] [])) (.mk 2 0 0 [] [99] [])) [.int .u8 I12, .int .u8 I13, .int .i64 I14, .string T8, .string T9, .slice A4 N8 N9]) (h18 : ExI W (Px.op2 15 (.mk 2 0 0 [] [97] []) (Px.op2 15 (.mk 2 0 0 [] [98] []) (.mk 2 0 0 [] [99] []))) [.int .u8 I18, .int .u8 I19, .int .i64 I20, .string T12, .string T13, .slice A6 N12 N13]) (h24 : ExI W (Px.op2 13 (Px.op2 14 (.mk 2 0 0 [] [97] []) (.mk 2 0 0 [] [98] [])) (.mk 2 0 0 [] [99] [])) [.int .u8 I24, .int .u8 I25, .int .i64 I26, .string T16, .string T17, .slice A8 N16 N17]) (h30 : ExI W (Px.op2 14 (Px.op2 13 (.mk 2 0 0 [] [97] []) (.mk 2 0 0 [] [98] [])) (.mk 2 0 0 [] [99] [])) [.int .u8 I30, .int .u8 I31, .int .i64 I32, .string T20, .string T21, .slice A10 N20 N21]) (h36 : ExI W (Px.op2 9 (Px.op2 9 (.mk 2 0 0 [] [97] []) (.mk 2 0 0 [] [98] [])) (.mk 2 0 0 [] [99] [])) [.int .u8 I36, .int .u8 I37, .int .i64 I38, .string T24, .string T25, .slice A12 N24 N25]) (h42 : ExI W (Px.op2 11 (.mk 2 0 0 [] [97] []) (Px.op2 12 (.mk 2 0 0 [] [98] []) (.mk 2 0 0 [] [99] []))) [.int .u8 I42, .int .u8 I43, .int .i64 I44, .string T28, .string T29, .slice A14 N28 N29]) (h48 : ExI W (Px.op1 3 (Px.op1 3 (.mk 2 0 0 [] [97] []))) [.int .u8 I48, .int .u8 I49, .int .i64 I50, .string T32, .string T33, .slice A16 N32 N33]) :
    t_lnames_250.den Tryz.prog n0 (Ret fun u x => u = Value.bool true) [] { I := [2, 0, 0, 2, 0, 0, 2, 0, 0, I9, I10, I11, I12, I13, I14, I15, I16, I17, I18, I19, I20, I21, I22, I23, I24, I25, I26, I27, I28, I29, I30, I31, I32, I33, I34, I35, I36, I37, I38, I39, I40, I41, I42, I43, I44, I45, I46, I47, I48, I49, I50], N := [0, 0, 0, 0, 0, 0, N6, N7, N8, N9, N10, N11, N12, N13, N14, N15, N16, N17, N18, N19, N20, N21, N22, N23, N24, N25, N26, N27, N28, N29, N30, N31, N32, N33], B := [true], T := [⟨([] : Lx.Bs).toArray⟩, ⟨([97] : Lx.Bs).toArray⟩, ⟨([] : Lx.Bs).toArray⟩, ⟨([98] : Lx.Bs).toArray⟩, ⟨([] : Lx.Bs).toArray⟩, ⟨([99] : Lx.Bs).toArray⟩, T6, T7, T8, T9, T10, T11, T12, T13, T14, T15, T16, T17, T18, T19, T20, T21, T22, T23, T24, T25, T26, T27, T28, T29, T30, T31, T32, T33], A := [none, none, none, A3, A4, A5, A6, A7, A8, A9, A10, A11, A12, A13, A14, A15, A16], M := [M0, M1, M2, M3] } W := by
  refine den_grow fun W158 y158 => ?_
  have hmk := op2_i 5 (.mk 2 0 0 [] [97] []) (.mk 2 0 0 [] [98] []) [.int .u8 2, .int .u8 0, .int .i64 0, .string ⟨([] : Lx.Bs).toArray⟩, .string ⟨([97] : Lx.Bs).toArray⟩, .slice none 0 0] [.int .u8 2, .int .u8 0, .int .i64 0, .string ⟨([] : Lx.Bs).toArray⟩, .string ⟨([98] : Lx.Bs).toArray⟩, .slice none 0 0] W158 (ExAt.leaf _ _ 2 0 0 [] [97]) (ExAt.leaf _ _ 2 0 0 [] [98])
  refine den_call_i (fun _ _ => hmk) fun v w' _ ⟨I51, I52, I53, T34, T35, A17, N34, N35, hv, hJ⟩ => ⟨I51, I52, I53, N34, N35, T34, T35, A17, hv, fun W159 e2 y159 n2 => ?_⟩
  clear hmk
  have h51 := ExJ.i hJ e2 y159 n2
  clear hv hJ e2 n2
  simp only [Env.push, List.cons_append, List.nil_append, List.append_nil]
  have z160 := ext_trans y158 y159
  refine den_grow fun W161 y161 => ?_
  have z162 := ext_trans z160 y161
  have hmk := op1_i 3 (Px.op2 5 (.mk 2 0 0 [] [97] []) (.mk 2 0 0 [] [98] [])) [.int .u8 I51, .int .u8 I52, .int .i64 I53, .string T34, .string T35, .slice A17 N34 N35] W161 (h51.ext y161)
  refine den_call_i (fun _ _ => hmk) fun v w' _ ⟨I54, I55, I56, T36, T37, A18, N36, N37, hv, hJ⟩ => ⟨I54, I55, I56, N36, N37, T36, T37, A18, hv, fun W163 e2 y163 n2 => ?_⟩
  clear hmk
  have h54 := ExJ.i hJ e2 y163 n2
  clear hv hJ e2 n2
  simp only [Env.push, List.cons_append, List.nil_append, List.append_nil]
  have z164 := ext_trans z162 y163
  refine den_grow fun W165 y165 => ?_
  have z166 := ext_trans z164 y165
  have hmk := op1_i 3 (.mk 2 0 0 [] [97] []) [.int .u8 2, .int .u8 0, .int .i64 0, .string ⟨([] : Lx.Bs).toArray⟩, .string ⟨([97] : Lx.Bs).toArray⟩, .slice none 0 0] W165 (ExAt.leaf _ _ 2 0 0 [] [97])
  refine den_call_i (fun _ _ => hmk) fun v w' _ ⟨I57, I58, I59, T38, T39, A19, N38, N39, hv, hJ⟩ => ⟨I57, I58, I59, N38, N39, T38, T39, A19, hv, fun W167 e2 y167 n2 => ?_⟩
  clear hmk
  have h57 := ExJ.i hJ e2 y167 n2
  clear hv hJ e2 n2
  simp only [Env.push, List.cons_append, List.nil_append, List.append_nil]
  have z168 := ext_trans z166 y167
  have z169 := ext_trans y165 y167
  refine den_grow fun W170 y170 => ?_
  have z171 := ext_trans z168 y170
  have z172 := ext_trans z169 y170
  have hmk := op2_i 5 (Px.op1 3 (.mk 2 0 0 [] [97] [])) (.mk 2 0 0 [] [98] []) [.int .u8 I57, .int .u8 I58, .int .i64 I59, .string T38, .string T39, .slice A19 N38 N39] [.int .u8 2, .int .u8 0, .int .i64 0, .string ⟨([] : Lx.Bs).toArray⟩, .string ⟨([98] : Lx.Bs).toArray⟩, .slice none 0 0] W170 (h57.ext y170) (ExAt.leaf _ _ 2 0 0 [] [98])
  refine den_call_i (fun _ _ => hmk) fun v w' _ ⟨I60, I61, I62, T40, T41, A20, N40, N41, hv, hJ⟩ => ⟨I60, I61, I62, N40, N41, T40, T41, A20, hv, fun W173 e2 y173 n2 => ?_⟩
  clear hmk
  have h60 := ExJ.i hJ e2 y173 n2
  clear hv hJ e2 n2
  simp only [Env.push, List.cons_append, List.nil_append, List.append_nil]
  have z174 := ext_trans z171 y173
  have z175 := ext_trans z172 y173
  refine den_grow fun W176 y176 => ?_
  have z177 := ext_trans z174 y176
  have z178 := ext_trans z175 y176
  have hmk := op2_i 10 (.mk 2 0 0 [] [97] []) (.mk 2 0 0 [] [98] []) [.int .u8 2, .int .u8 0, .int .i64 0, .string ⟨([] : Lx.Bs).toArray⟩, .string ⟨([97] : Lx.Bs).toArray⟩, .slice none 0 0] [.int .u8 2, .int .u8 0, .int .i64 0, .string ⟨([] : Lx.Bs).toArray⟩, .string ⟨([98] : Lx.Bs).toArray⟩, .slice none 0 0] W176 (ExAt.leaf _ _ 2 0 0 [] [97]) (ExAt.leaf _ _ 2 0 0 [] [98])
  refine den_call_i (fun _ _ => hmk) fun v w' _ ⟨I63, I64, I65, T42, T43, A21, N42, N43, hv, hJ⟩ => ⟨I63, I64, I65, N42, N43, T42, T43, A21, hv, fun W179 e2 y179 n2 => ?_⟩
  clear hmk
  have h63 := ExJ.i hJ e2 y179 n2
  clear hv hJ e2 n2
  simp only [Env.push, List.cons_append, List.nil_append, List.append_nil]
  have z180 := ext_trans y176 y179
  have z181 := ext_trans z177 y179
  have z182 := ext_trans z178 y179
  refine den_grow fun W183 y183 => ?_
  have z184 := ext_trans z180 y183
  have z185 := ext_trans z181 y183
  have z186 := ext_trans z182 y183
  have hmk := op1_i 4 (Px.op2 10 (.mk 2 0 0 [] [97] []) (.mk 2 0 0 [] [98] [])) [.int .u8 I63, .int .u8 I64, .int .i64 I65, .string T42, .string T43, .slice A21 N42 N43] W183 (h63.ext y183)
  refine den_call_i (fun _ _ => hmk) fun v w' _ ⟨I66, I67, I68, T44, T45, A22, N44, N45, hv, hJ⟩ => ⟨I66, I67, I68, N44, N45, T44, T45, A22, hv, fun W187 e2 y187 n2 => ?_⟩
  clear hmk
  have h66 := ExJ.i hJ e2 y187 n2
  clear hv hJ e2 n2
  simp only [Env.push, List.cons_append, List.nil_append, List.append_nil]
  have z188 := ext_trans z184 y187
  have z189 := ext_trans z185 y187
  have z190 := ext_trans z186 y187
  refine den_callq ⟨1, 1, 5, 0, 0, ⟨([] : Lx.Bs).toArray⟩, ⟨([] : Lx.Bs).toArray⟩, none, fun V xV _ _ => num_qn 5 V, ?_⟩
  simp only [Env.push, List.cons_append, List.nil_append, List.append_nil]
  refine den_grow fun W191 y191 => ?_
  have z192 := ext_trans z188 y191
  have z193 := ext_trans z189 y191
  have z194 := ext_trans z190 y191
  have hmk := op1_i 3 (.mk 1 1 5 [] [] []) [.int .u8 1, .int .u8 1, .int .i64 5, .string ⟨([] : Lx.Bs).toArray⟩, .string ⟨([] : Lx.Bs).toArray⟩, .slice none 0 0] W191 (ExAt.leaf _ _ 1 1 5 [] [])
  refine den_call_i (fun _ _ => hmk) fun v w' _ ⟨I72, I73, I74, T48, T49, A24, N48, N49, hv, hJ⟩ => ⟨I72, I73, I74, N48, N49, T48, T49, A24, hv, fun W195 e2 y195 n2 => ?_⟩
  clear hmk
  have h72 := ExJ.i hJ e2 y195 n2
  clear hv hJ e2 n2
  simp only [Env.push, List.cons_append, List.nil_append, List.append_nil]
  have z196 := ext_trans z192 y195
  have z197 := ext_trans z193 y195
  have z198 := ext_trans z194 y195
  have z199 := ext_trans y191 y195
  refine den_grow fun W200 y200 => ?_
  have z201 := ext_trans z199 y200
  have z202 := ext_trans z198 y200
  have z203 := ext_trans z196 y200
  have z204 := ext_trans z197 y200
  have hmk := op2_i 15 (.mk 2 0 0 [] [97] []) (Px.op1 3 (.mk 1 1 5 [] [] [])) [.int .u8 2, .int .u8 0, .int .i64 0, .string ⟨([] : Lx.Bs).toArray⟩, .string ⟨([97] : Lx.Bs).toArray⟩, .slice none 0 0] [.int .u8 I72, .int .u8 I73, .int .i64 I74, .string T48, .string T49, .slice A24 N48 N49] W200 (ExAt.leaf _ _ 2 0 0 [] [97]) (h72.ext y200)
  refine den_call_i (fun _ _ => hmk) fun v w' _ ⟨I75, I76, I77, T50, T51, A25, N50, N51, hv, hJ⟩ => ⟨I75, I76, I77, N50, N51, T50, T51, A25, hv, fun W205 e2 y205 n2 => ?_⟩
  clear hmk
  have h75 := ExJ.i hJ e2 y205 n2
  clear hv hJ e2 n2
  simp only [Env.push, List.cons_append, List.nil_append, List.append_nil]
  have z206 := ext_trans z203 y205
  have z207 := ext_trans z204 y205
  have z208 := ext_trans z202 y205
  have z209 := ext_trans z201 y205
  refine den_grow fun W210 y210 => ?_
  have z211 := ext_trans z209 y210
  have z212 := ext_trans z208 y210
  have z213 := ext_trans z206 y210
  have z214 := ext_trans z207 y210
  have hmk := op2_i 7 (.mk 2 0 0 [] [98] []) (.mk 2 0 0 [] [99] []) [.int .u8 2, .int .u8 0, .int .i64 0, .string ⟨([] : Lx.Bs).toArray⟩, .string ⟨([98] : Lx.Bs).toArray⟩, .slice none 0 0] [.int .u8 2, .int .u8 0, .int .i64 0, .string ⟨([] : Lx.Bs).toArray⟩, .string ⟨([99] : Lx.Bs).toArray⟩, .slice none 0 0] W210 (ExAt.leaf _ _ 2 0 0 [] [98]) (ExAt.leaf _ _ 2 0 0 [] [99])
  refine den_call_i (fun _ _ => hmk) fun v w' _ ⟨I78, I79, I80, T52, T53, A26, N52, N53, hv, hJ⟩ => ⟨I78, I79, I80, N52, N53, T52, T53, A26, hv, fun W215 e2 y215 n2 => ?_⟩
  clear hmk
  have h78 := ExJ.i hJ e2 y215 n2
  clear hv hJ e2 n2
  simp only [Env.push, List.cons_append, List.nil_append, List.append_nil]
  have z216 := ext_trans z211 y215
  have z217 := ext_trans z212 y215
  have z218 := ext_trans z213 y215
  have z219 := ext_trans z214 y215
  have z220 := ext_trans y210 y215
  refine den_grow fun W221 y221 => ?_
  have z222 := ext_trans z216 y221
  have z223 := ext_trans z217 y221
  have z224 := ext_trans z218 y221
  have z225 := ext_trans z219 y221
  have z226 := ext_trans z220 y221
  have hmk := op2_i 6 (.mk 2 0 0 [] [97] []) (Px.op2 7 (.mk 2 0 0 [] [98] []) (.mk 2 0 0 [] [99] [])) [.int .u8 2, .int .u8 0, .int .i64 0, .string ⟨([] : Lx.Bs).toArray⟩, .string ⟨([97] : Lx.Bs).toArray⟩, .slice none 0 0] [.int .u8 I78, .int .u8 I79, .int .i64 I80, .string T52, .string T53, .slice A26 N52 N53] W221 (ExAt.leaf _ _ 2 0 0 [] [97]) (h78.ext y221)
  refine den_call_i (fun _ _ => hmk) fun v w' _ ⟨I81, I82, I83, T54, T55, A27, N54, N55, hv, hJ⟩ => ⟨I81, I82, I83, N54, N55, T54, T55, A27, hv, fun W227 e2 y227 n2 => ?_⟩
  clear hmk
  have h81 := ExJ.i hJ e2 y227 n2
  clear hv hJ e2 n2
  simp only [Env.push, List.cons_append, List.nil_append, List.append_nil]
  have z228 := ext_trans z222 y227
  have z229 := ext_trans z223 y227
  have z230 := ext_trans z224 y227
  have z231 := ext_trans z225 y227
  have z232 := ext_trans z226 y227
  refine den_callq ⟨1, 3, 0, 0, 0, ⟨([105, 116, 32] : Lx.Bs).toArray⟩, ⟨([] : Lx.Bs).toArray⟩, none, fun V xV _ _ => text_qn [105, 116, 32] V, ?_⟩
  simp only [Env.push, List.cons_append, List.nil_append, List.append_nil]
  refine den_callq ⟨1, 1, 9223372036854775807, 0, 0, ⟨([] : Lx.Bs).toArray⟩, ⟨([] : Lx.Bs).toArray⟩, none, fun V xV _ _ => num_qn 9223372036854775807 V, ?_⟩
  simp only [Env.push, List.cons_append, List.nil_append, List.append_nil]
  refine den_grow fun W233 y233 => ?_
  have z234 := ext_trans z228 y233
  have z235 := ext_trans z229 y233
  have z236 := ext_trans z230 y233
  have z237 := ext_trans z231 y233
  have z238 := ext_trans z232 y233
  have hmk := op1_i 16 (.mk 2 0 0 [] [97] []) [.int .u8 2, .int .u8 0, .int .i64 0, .string ⟨([] : Lx.Bs).toArray⟩, .string ⟨([97] : Lx.Bs).toArray⟩, .slice none 0 0] W233 (ExAt.leaf _ _ 2 0 0 [] [97])
  refine den_call_i (fun _ _ => hmk) fun v w' _ ⟨I90, I91, I92, T60, T61, A30, N60, N61, hv, hJ⟩ => ⟨I90, I91, I92, N60, N61, T60, T61, A30, hv, fun W239 e2 y239 n2 => ?_⟩
  clear hmk
  have h90 := ExJ.i hJ e2 y239 n2
  clear hv hJ e2 n2
  simp only [Env.push, List.cons_append, List.nil_append, List.append_nil]
  have z240 := ext_trans y233 y239
  have z241 := ext_trans z234 y239
  have z242 := ext_trans z235 y239
  have z243 := ext_trans z236 y239
  have z244 := ext_trans z237 y239
  have z245 := ext_trans z238 y239
  exact l_lnames_236 (hG.ext z244) (hT.ext z244) (h12.ext z244) (h18.ext z244) (h24.ext z244) (h30.ext z244) (h36.ext z244) (h42.ext z244) (h48.ext z244) (h54.ext z242) (h60.ext z243) (h66.ext z241) (h75.ext z245) (h81.ext z240) h90
set_option maxRecDepth 100000 in
theorem lnames_q (W : Wd) (hG : Glob W) (hT : Vs.Tabs W) : CallsQ Tryz.prog 8 #[] W (.bool true) := by
  refine vc_lnames W.all _ ?_
  have hG := hG.ext W.all_ext
  have hT := hT.ext W.all_ext
  have hcq := works_q W.all hG hT
  refine den_call_q (fun _ _ => hcq) ⟨true, rfl, fun W1 y1 => ?_⟩
  clear hcq
  simp only [Env.push, List.cons_append, List.nil_append, List.append_nil]
  refine den_br_f rfl ?_
  refine den_call_q (fun _ _ => name_qn [97] W1) ⟨2, 0, 0, 0, 0, ⟨([] : Lx.Bs).toArray⟩, ⟨([97] : Lx.Bs).toArray⟩, none, rfl, fun W2 y2 => ?_⟩
  simp only [Env.push, List.cons_append, List.nil_append, List.append_nil]
  have z3 := ext_trans y1 y2
  refine den_call_q (fun _ _ => name_qn [98] W2) ⟨2, 0, 0, 0, 0, ⟨([] : Lx.Bs).toArray⟩, ⟨([98] : Lx.Bs).toArray⟩, none, rfl, fun W4 y4 => ?_⟩
  simp only [Env.push, List.cons_append, List.nil_append, List.append_nil]
  have z5 := ext_trans z3 y4
  refine den_call_q (fun _ _ => name_qn [99] W4) ⟨2, 0, 0, 0, 0, ⟨([] : Lx.Bs).toArray⟩, ⟨([99] : Lx.Bs).toArray⟩, none, rfl, fun W6 y6 => ?_⟩
  simp only [Env.push, List.cons_append, List.nil_append, List.append_nil]
  have z7 := ext_trans z5 y6
  refine den_new fun M0 W8 _ y8 => ?_
  simp only [Env.push, List.cons_append, List.nil_append, List.append_nil]
  have z9 := ext_trans z7 y8
  refine den_new fun M1 W10 _ y10 => ?_
  simp only [Env.push, List.cons_append, List.nil_append, List.append_nil]
  have z11 := ext_trans z9 y10
  refine den_new fun M2 W12 _ y12 => ?_
  simp only [Env.push, List.cons_append, List.nil_append, List.append_nil]
  have z13 := ext_trans z11 y12
  refine den_wr fun W14 y14 => ?_
  have z15 := ext_trans z13 y14
  refine den_wr fun W16 y16 => ?_
  have z17 := ext_trans z15 y16
  refine den_wr fun W18 y18 => ?_
  have z19 := ext_trans z17 y18
  refine den_new fun M3 W20 _ y20 => ?_
  simp only [Env.push, List.cons_append, List.nil_append, List.append_nil]
  have z21 := ext_trans z19 y20
  refine den_wr fun W22 y22 => ?_
  have z23 := ext_trans z21 y22
  refine den_grow fun W24 y24 => ?_
  have z25 := ext_trans z23 y24
  have hmk := op2_i 15 (.mk 2 0 0 [] [97] []) (.mk 2 0 0 [] [98] []) [.int .u8 2, .int .u8 0, .int .i64 0, .string ⟨([] : Lx.Bs).toArray⟩, .string ⟨([97] : Lx.Bs).toArray⟩, .slice none 0 0] [.int .u8 2, .int .u8 0, .int .i64 0, .string ⟨([] : Lx.Bs).toArray⟩, .string ⟨([98] : Lx.Bs).toArray⟩, .slice none 0 0] W24 (ExAt.leaf _ _ 2 0 0 [] [97]) (ExAt.leaf _ _ 2 0 0 [] [98])
  refine den_call_i (fun _ _ => hmk) fun v w' _ ⟨I9, I10, I11, T6, T7, A3, N6, N7, hv, hJ⟩ => ⟨I9, I10, I11, N6, N7, T6, T7, A3, hv, fun W26 e2 y26 n2 => ?_⟩
  clear hmk
  have h9 := ExJ.i hJ e2 y26 n2
  clear hv hJ e2 n2
  simp only [Env.push, List.cons_append, List.nil_append, List.append_nil]
  have z27 := ext_trans z25 y26
  refine den_grow fun W28 y28 => ?_
  have z29 := ext_trans z27 y28
  have hmk := op2_i 15 (Px.op2 15 (.mk 2 0 0 [] [97] []) (.mk 2 0 0 [] [98] [])) (.mk 2 0 0 [] [99] []) [.int .u8 I9, .int .u8 I10, .int .i64 I11, .string T6, .string T7, .slice A3 N6 N7] [.int .u8 2, .int .u8 0, .int .i64 0, .string ⟨([] : Lx.Bs).toArray⟩, .string ⟨([99] : Lx.Bs).toArray⟩, .slice none 0 0] W28 (h9.ext y28) (ExAt.leaf _ _ 2 0 0 [] [99])
  refine den_call_i (fun _ _ => hmk) fun v w' _ ⟨I12, I13, I14, T8, T9, A4, N8, N9, hv, hJ⟩ => ⟨I12, I13, I14, N8, N9, T8, T9, A4, hv, fun W30 e2 y30 n2 => ?_⟩
  clear hmk
  have h12 := ExJ.i hJ e2 y30 n2
  clear hv hJ e2 n2
  simp only [Env.push, List.cons_append, List.nil_append, List.append_nil]
  have z31 := ext_trans z29 y30
  refine den_grow fun W32 y32 => ?_
  have z33 := ext_trans z31 y32
  have hmk := op2_i 15 (.mk 2 0 0 [] [98] []) (.mk 2 0 0 [] [99] []) [.int .u8 2, .int .u8 0, .int .i64 0, .string ⟨([] : Lx.Bs).toArray⟩, .string ⟨([98] : Lx.Bs).toArray⟩, .slice none 0 0] [.int .u8 2, .int .u8 0, .int .i64 0, .string ⟨([] : Lx.Bs).toArray⟩, .string ⟨([99] : Lx.Bs).toArray⟩, .slice none 0 0] W32 (ExAt.leaf _ _ 2 0 0 [] [98]) (ExAt.leaf _ _ 2 0 0 [] [99])
  refine den_call_i (fun _ _ => hmk) fun v w' _ ⟨I15, I16, I17, T10, T11, A5, N10, N11, hv, hJ⟩ => ⟨I15, I16, I17, N10, N11, T10, T11, A5, hv, fun W34 e2 y34 n2 => ?_⟩
  clear hmk
  have h15 := ExJ.i hJ e2 y34 n2
  clear hv hJ e2 n2
  simp only [Env.push, List.cons_append, List.nil_append, List.append_nil]
  have z35 := ext_trans z33 y34
  have z36 := ext_trans y32 y34
  refine den_grow fun W37 y37 => ?_
  have z38 := ext_trans z35 y37
  have z39 := ext_trans z36 y37
  have hmk := op2_i 15 (.mk 2 0 0 [] [97] []) (Px.op2 15 (.mk 2 0 0 [] [98] []) (.mk 2 0 0 [] [99] [])) [.int .u8 2, .int .u8 0, .int .i64 0, .string ⟨([] : Lx.Bs).toArray⟩, .string ⟨([97] : Lx.Bs).toArray⟩, .slice none 0 0] [.int .u8 I15, .int .u8 I16, .int .i64 I17, .string T10, .string T11, .slice A5 N10 N11] W37 (ExAt.leaf _ _ 2 0 0 [] [97]) (h15.ext y37)
  refine den_call_i (fun _ _ => hmk) fun v w' _ ⟨I18, I19, I20, T12, T13, A6, N12, N13, hv, hJ⟩ => ⟨I18, I19, I20, N12, N13, T12, T13, A6, hv, fun W40 e2 y40 n2 => ?_⟩
  clear hmk
  have h18 := ExJ.i hJ e2 y40 n2
  clear hv hJ e2 n2
  simp only [Env.push, List.cons_append, List.nil_append, List.append_nil]
  have z41 := ext_trans z38 y40
  have z42 := ext_trans z39 y40
  refine den_grow fun W43 y43 => ?_
  have z44 := ext_trans z41 y43
  have z45 := ext_trans z42 y43
  have hmk := op2_i 14 (.mk 2 0 0 [] [97] []) (.mk 2 0 0 [] [98] []) [.int .u8 2, .int .u8 0, .int .i64 0, .string ⟨([] : Lx.Bs).toArray⟩, .string ⟨([97] : Lx.Bs).toArray⟩, .slice none 0 0] [.int .u8 2, .int .u8 0, .int .i64 0, .string ⟨([] : Lx.Bs).toArray⟩, .string ⟨([98] : Lx.Bs).toArray⟩, .slice none 0 0] W43 (ExAt.leaf _ _ 2 0 0 [] [97]) (ExAt.leaf _ _ 2 0 0 [] [98])
  refine den_call_i (fun _ _ => hmk) fun v w' _ ⟨I21, I22, I23, T14, T15, A7, N14, N15, hv, hJ⟩ => ⟨I21, I22, I23, N14, N15, T14, T15, A7, hv, fun W46 e2 y46 n2 => ?_⟩
  clear hmk
  have h21 := ExJ.i hJ e2 y46 n2
  clear hv hJ e2 n2
  simp only [Env.push, List.cons_append, List.nil_append, List.append_nil]
  have z47 := ext_trans y43 y46
  have z48 := ext_trans z44 y46
  have z49 := ext_trans z45 y46
  refine den_grow fun W50 y50 => ?_
  have z51 := ext_trans z47 y50
  have z52 := ext_trans z48 y50
  have z53 := ext_trans z49 y50
  have hmk := op2_i 13 (Px.op2 14 (.mk 2 0 0 [] [97] []) (.mk 2 0 0 [] [98] [])) (.mk 2 0 0 [] [99] []) [.int .u8 I21, .int .u8 I22, .int .i64 I23, .string T14, .string T15, .slice A7 N14 N15] [.int .u8 2, .int .u8 0, .int .i64 0, .string ⟨([] : Lx.Bs).toArray⟩, .string ⟨([99] : Lx.Bs).toArray⟩, .slice none 0 0] W50 (h21.ext y50) (ExAt.leaf _ _ 2 0 0 [] [99])
  refine den_call_i (fun _ _ => hmk) fun v w' _ ⟨I24, I25, I26, T16, T17, A8, N16, N17, hv, hJ⟩ => ⟨I24, I25, I26, N16, N17, T16, T17, A8, hv, fun W54 e2 y54 n2 => ?_⟩
  clear hmk
  have h24 := ExJ.i hJ e2 y54 n2
  clear hv hJ e2 n2
  simp only [Env.push, List.cons_append, List.nil_append, List.append_nil]
  have z55 := ext_trans z51 y54
  have z56 := ext_trans z52 y54
  have z57 := ext_trans z53 y54
  refine den_grow fun W58 y58 => ?_
  have z59 := ext_trans z55 y58
  have z60 := ext_trans z56 y58
  have z61 := ext_trans z57 y58
  have hmk := op2_i 13 (.mk 2 0 0 [] [97] []) (.mk 2 0 0 [] [98] []) [.int .u8 2, .int .u8 0, .int .i64 0, .string ⟨([] : Lx.Bs).toArray⟩, .string ⟨([97] : Lx.Bs).toArray⟩, .slice none 0 0] [.int .u8 2, .int .u8 0, .int .i64 0, .string ⟨([] : Lx.Bs).toArray⟩, .string ⟨([98] : Lx.Bs).toArray⟩, .slice none 0 0] W58 (ExAt.leaf _ _ 2 0 0 [] [97]) (ExAt.leaf _ _ 2 0 0 [] [98])
  refine den_call_i (fun _ _ => hmk) fun v w' _ ⟨I27, I28, I29, T18, T19, A9, N18, N19, hv, hJ⟩ => ⟨I27, I28, I29, N18, N19, T18, T19, A9, hv, fun W62 e2 y62 n2 => ?_⟩
  clear hmk
  have h27 := ExJ.i hJ e2 y62 n2
  clear hv hJ e2 n2
  simp only [Env.push, List.cons_append, List.nil_append, List.append_nil]
  have z63 := ext_trans z59 y62
  have z64 := ext_trans y58 y62
  have z65 := ext_trans z60 y62
  have z66 := ext_trans z61 y62
  refine den_grow fun W67 y67 => ?_
  have z68 := ext_trans z64 y67
  have z69 := ext_trans z65 y67
  have z70 := ext_trans z66 y67
  have z71 := ext_trans z63 y67
  have hmk := op2_i 14 (Px.op2 13 (.mk 2 0 0 [] [97] []) (.mk 2 0 0 [] [98] [])) (.mk 2 0 0 [] [99] []) [.int .u8 I27, .int .u8 I28, .int .i64 I29, .string T18, .string T19, .slice A9 N18 N19] [.int .u8 2, .int .u8 0, .int .i64 0, .string ⟨([] : Lx.Bs).toArray⟩, .string ⟨([99] : Lx.Bs).toArray⟩, .slice none 0 0] W67 (h27.ext y67) (ExAt.leaf _ _ 2 0 0 [] [99])
  refine den_call_i (fun _ _ => hmk) fun v w' _ ⟨I30, I31, I32, T20, T21, A10, N20, N21, hv, hJ⟩ => ⟨I30, I31, I32, N20, N21, T20, T21, A10, hv, fun W72 e2 y72 n2 => ?_⟩
  clear hmk
  have h30 := ExJ.i hJ e2 y72 n2
  clear hv hJ e2 n2
  simp only [Env.push, List.cons_append, List.nil_append, List.append_nil]
  have z73 := ext_trans z71 y72
  have z74 := ext_trans z68 y72
  have z75 := ext_trans z69 y72
  have z76 := ext_trans z70 y72
  refine den_grow fun W77 y77 => ?_
  have z78 := ext_trans z74 y77
  have z79 := ext_trans z75 y77
  have z80 := ext_trans z76 y77
  have z81 := ext_trans z73 y77
  have hmk := op2_i 9 (.mk 2 0 0 [] [97] []) (.mk 2 0 0 [] [98] []) [.int .u8 2, .int .u8 0, .int .i64 0, .string ⟨([] : Lx.Bs).toArray⟩, .string ⟨([97] : Lx.Bs).toArray⟩, .slice none 0 0] [.int .u8 2, .int .u8 0, .int .i64 0, .string ⟨([] : Lx.Bs).toArray⟩, .string ⟨([98] : Lx.Bs).toArray⟩, .slice none 0 0] W77 (ExAt.leaf _ _ 2 0 0 [] [97]) (ExAt.leaf _ _ 2 0 0 [] [98])
  refine den_call_i (fun _ _ => hmk) fun v w' _ ⟨I33, I34, I35, T22, T23, A11, N22, N23, hv, hJ⟩ => ⟨I33, I34, I35, N22, N23, T22, T23, A11, hv, fun W82 e2 y82 n2 => ?_⟩
  clear hmk
  have h33 := ExJ.i hJ e2 y82 n2
  clear hv hJ e2 n2
  simp only [Env.push, List.cons_append, List.nil_append, List.append_nil]
  have z83 := ext_trans y77 y82
  have z84 := ext_trans z78 y82
  have z85 := ext_trans z79 y82
  have z86 := ext_trans z80 y82
  have z87 := ext_trans z81 y82
  refine den_grow fun W88 y88 => ?_
  have z89 := ext_trans z83 y88
  have z90 := ext_trans z84 y88
  have z91 := ext_trans z85 y88
  have z92 := ext_trans z86 y88
  have z93 := ext_trans z87 y88
  have hmk := op2_i 9 (Px.op2 9 (.mk 2 0 0 [] [97] []) (.mk 2 0 0 [] [98] [])) (.mk 2 0 0 [] [99] []) [.int .u8 I33, .int .u8 I34, .int .i64 I35, .string T22, .string T23, .slice A11 N22 N23] [.int .u8 2, .int .u8 0, .int .i64 0, .string ⟨([] : Lx.Bs).toArray⟩, .string ⟨([99] : Lx.Bs).toArray⟩, .slice none 0 0] W88 (h33.ext y88) (ExAt.leaf _ _ 2 0 0 [] [99])
  refine den_call_i (fun _ _ => hmk) fun v w' _ ⟨I36, I37, I38, T24, T25, A12, N24, N25, hv, hJ⟩ => ⟨I36, I37, I38, N24, N25, T24, T25, A12, hv, fun W94 e2 y94 n2 => ?_⟩
  clear hmk
  have h36 := ExJ.i hJ e2 y94 n2
  clear hv hJ e2 n2
  simp only [Env.push, List.cons_append, List.nil_append, List.append_nil]
  have z95 := ext_trans z89 y94
  have z96 := ext_trans z90 y94
  have z97 := ext_trans z91 y94
  have z98 := ext_trans z92 y94
  have z99 := ext_trans z93 y94
  refine den_grow fun W100 y100 => ?_
  have z101 := ext_trans z95 y100
  have z102 := ext_trans z96 y100
  have z103 := ext_trans z97 y100
  have z104 := ext_trans z98 y100
  have z105 := ext_trans z99 y100
  have hmk := op2_i 12 (.mk 2 0 0 [] [98] []) (.mk 2 0 0 [] [99] []) [.int .u8 2, .int .u8 0, .int .i64 0, .string ⟨([] : Lx.Bs).toArray⟩, .string ⟨([98] : Lx.Bs).toArray⟩, .slice none 0 0] [.int .u8 2, .int .u8 0, .int .i64 0, .string ⟨([] : Lx.Bs).toArray⟩, .string ⟨([99] : Lx.Bs).toArray⟩, .slice none 0 0] W100 (ExAt.leaf _ _ 2 0 0 [] [98]) (ExAt.leaf _ _ 2 0 0 [] [99])
  refine den_call_i (fun _ _ => hmk) fun v w' _ ⟨I39, I40, I41, T26, T27, A13, N26, N27, hv, hJ⟩ => ⟨I39, I40, I41, N26, N27, T26, T27, A13, hv, fun W106 e2 y106 n2 => ?_⟩
  clear hmk
  have h39 := ExJ.i hJ e2 y106 n2
  clear hv hJ e2 n2
  simp only [Env.push, List.cons_append, List.nil_append, List.append_nil]
  have z107 := ext_trans z101 y106
  have z108 := ext_trans z102 y106
  have z109 := ext_trans z103 y106
  have z110 := ext_trans z104 y106
  have z111 := ext_trans y100 y106
  have z112 := ext_trans z105 y106
  refine den_grow fun W113 y113 => ?_
  have z114 := ext_trans z107 y113
  have z115 := ext_trans z108 y113
  have z116 := ext_trans z109 y113
  have z117 := ext_trans z110 y113
  have z118 := ext_trans z111 y113
  have z119 := ext_trans z112 y113
  have hmk := op2_i 11 (.mk 2 0 0 [] [97] []) (Px.op2 12 (.mk 2 0 0 [] [98] []) (.mk 2 0 0 [] [99] [])) [.int .u8 2, .int .u8 0, .int .i64 0, .string ⟨([] : Lx.Bs).toArray⟩, .string ⟨([97] : Lx.Bs).toArray⟩, .slice none 0 0] [.int .u8 I39, .int .u8 I40, .int .i64 I41, .string T26, .string T27, .slice A13 N26 N27] W113 (ExAt.leaf _ _ 2 0 0 [] [97]) (h39.ext y113)
  refine den_call_i (fun _ _ => hmk) fun v w' _ ⟨I42, I43, I44, T28, T29, A14, N28, N29, hv, hJ⟩ => ⟨I42, I43, I44, N28, N29, T28, T29, A14, hv, fun W120 e2 y120 n2 => ?_⟩
  clear hmk
  have h42 := ExJ.i hJ e2 y120 n2
  clear hv hJ e2 n2
  simp only [Env.push, List.cons_append, List.nil_append, List.append_nil]
  have z121 := ext_trans z114 y120
  have z122 := ext_trans z115 y120
  have z123 := ext_trans z116 y120
  have z124 := ext_trans z117 y120
  have z125 := ext_trans z118 y120
  have z126 := ext_trans z119 y120
  refine den_grow fun W127 y127 => ?_
  have z128 := ext_trans z121 y127
  have z129 := ext_trans z122 y127
  have z130 := ext_trans z123 y127
  have z131 := ext_trans z124 y127
  have z132 := ext_trans z125 y127
  have z133 := ext_trans z126 y127
  have hmk := op1_i 3 (.mk 2 0 0 [] [97] []) [.int .u8 2, .int .u8 0, .int .i64 0, .string ⟨([] : Lx.Bs).toArray⟩, .string ⟨([97] : Lx.Bs).toArray⟩, .slice none 0 0] W127 (ExAt.leaf _ _ 2 0 0 [] [97])
  refine den_call_i (fun _ _ => hmk) fun v w' _ ⟨I45, I46, I47, T30, T31, A15, N30, N31, hv, hJ⟩ => ⟨I45, I46, I47, N30, N31, T30, T31, A15, hv, fun W134 e2 y134 n2 => ?_⟩
  clear hmk
  have h45 := ExJ.i hJ e2 y134 n2
  clear hv hJ e2 n2
  simp only [Env.push, List.cons_append, List.nil_append, List.append_nil]
  have z135 := ext_trans z128 y134
  have z136 := ext_trans z129 y134
  have z137 := ext_trans z130 y134
  have z138 := ext_trans z131 y134
  have z139 := ext_trans z132 y134
  have z140 := ext_trans y127 y134
  have z141 := ext_trans z133 y134
  refine den_grow fun W142 y142 => ?_
  have z143 := ext_trans z135 y142
  have z144 := ext_trans z136 y142
  have z145 := ext_trans z137 y142
  have z146 := ext_trans z138 y142
  have z147 := ext_trans z139 y142
  have z148 := ext_trans z140 y142
  have z149 := ext_trans z141 y142
  have hmk := op1_i 3 (Px.op1 3 (.mk 2 0 0 [] [97] [])) [.int .u8 I45, .int .u8 I46, .int .i64 I47, .string T30, .string T31, .slice A15 N30 N31] W142 (h45.ext y142)
  refine den_call_i (fun _ _ => hmk) fun v w' _ ⟨I48, I49, I50, T32, T33, A16, N32, N33, hv, hJ⟩ => ⟨I48, I49, I50, N32, N33, T32, T33, A16, hv, fun W150 e2 y150 n2 => ?_⟩
  clear hmk
  have h48 := ExJ.i hJ e2 y150 n2
  clear hv hJ e2 n2
  simp only [Env.push, List.cons_append, List.nil_append, List.append_nil]
  have z151 := ext_trans z143 y150
  have z152 := ext_trans z144 y150
  have z153 := ext_trans z145 y150
  have z154 := ext_trans z146 y150
  have z155 := ext_trans z147 y150
  have z156 := ext_trans z148 y150
  have z157 := ext_trans z149 y150
  exact l_lnames_250 (hG.ext z153) (hT.ext z153) (h12.ext z154) (h18.ext z157) (h24.ext z152) (h30.ext z151) (h36.ext z155) (h42.ext z156) h48
end Go.Proofs.YtckgdgkkmhochaaGreatDoor
