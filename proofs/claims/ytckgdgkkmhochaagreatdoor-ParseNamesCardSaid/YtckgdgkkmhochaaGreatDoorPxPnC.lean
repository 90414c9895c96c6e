/- ParseNames: the walk, part C (printed by gen_pnames2.py). -/
import Derived.Test.YtckgdgkkmhochaaGreatDoorPxPnB
namespace Go.Proofs.YtckgdgkkmhochaaGreatDoor
open Go Go.RowKit Go.SF
set_option linter.unusedSimpArgs false
set_option linter.unusedVariables false
set_option maxRecDepth 100000 in
theorem l_lnames_55 {n0 : Nat} {I9 I10 I11 I12 I13 I14 I15 I16 I17 I18 I19 I20 I21 I22 I23 I24 I25 I26 I27 I28 I29 I30 I31 I32 I33 I34 I35 I36 I37 I38 I39 I40 I41 I42 I43 I44 I45 I46 I47 I48 I49 I50 I51 I52 I53 I54 I55 I56 I57 I58 I59 I60 I61 I62 I63 I64 I65 I66 I67 I68 I72 I73 I74 I75 I76 I77 I78 I79 I80 I81 I82 I83 I90 I91 I92 I93 I94 I95 I99 I100 I101 I106 I107 I108 I109 I110 I111 : Int} {N6 N7 N8 N9 N10 N11 N12 N13 N14 N15 N16 N17 N18 N19 N20 N21 N22 N23 N24 N25 N26 N27 N28 N29 N30 N31 N32 N33 N34 N35 N36 N37 N38 N39 N40 N41 N42 N43 N44 N45 N48 N49 N50 N51 N52 N53 N54 N55 N60 N61 N62 N63 N66 N67 N70 N71 N72 N73 : Nat} {T6 T7 T8 T9 T10 T11 T12 T13 T14 T15 T16 T17 T18 T19 T20 T21 T22 T23 T24 T25 T26 T27 T28 T29 T30 T31 T32 T33 T34 T35 T36 T37 T38 T39 T40 T41 T42 T43 T44 T45 T48 T49 T50 T51 T52 T53 T54 T55 T60 T61 T62 T63 T71 T72 T76 T77 T78 T79 : ByteArray} {A3 A4 A5 A6 A7 A8 A9 A10 A11 A12 A13 A14 A15 A16 A17 A18 A19 A20 A21 A22 A24 A25 A26 A27 A30 A31 A33 A35 A36 : Option Addr} {M0 M1 M2 M3 M4 M5 M6 M7 M8 M9 M10 M11 M12 M13 M14 M15 M16 M17 M18 M19 M20 M21 M22 M23 M24 : Nat} {W : Wd} (hG : Glob W) (hT : Vs.Tabs W) (h99 : ExI W (Px.parse ((List.replicate 15 [45]).flatten ++ [97])).1 [.int .u8 I99, .int .u8 I100, .int .i64 I101, .string T71, .string T72, .slice A33 N66 N67]) :
    t_lnames_55.den Tryz.prog n0 (Ret fun u x => u = Value.bool true) [] { I := [2, 0, 0, 2, 0, 0, 2, 0, 0, I9, I10, I11, I12, I13, I14, I15, I16, I17, I18, I19, I20, I21, I22, I23, I24, I25, I26, I27, I28, I29, I30, I31, I32, I33, I34, I35, I36, I37, I38, I39, I40, I41, I42, I43, I44, I45, I46, I47, I48, I49, I50, I51, I52, I53, I54, I55, I56, I57, I58, I59, I60, I61, I62, I63, I64, I65, I66, I67, I68, 1, 1, 5, I72, I73, I74, I75, I76, I77, I78, I79, I80, I81, I82, I83, 1, 3, 0, 1, 1, 9223372036854775807, I90, I91, I92, I93, I94, I95, 2, 0, 0, I99, I100, I101, 0, 1, 3, 0, I106, I107, I108, I109, I110, I111, 40, 1, 1, (-1), 2, 0, 0, 2, 0, 0, 2, 0, 0, 2, 0, 0], N := [0, 0, 0, 0, 0, 0, N6, N7, N8, N9, N10, N11, N12, N13, N14, N15, N16, N17, N18, N19, N20, N21, N22, N23, N24, N25, N26, N27, N28, N29, N30, N31, N32, N33, N34, N35, N36, N37, N38, N39, N40, N41, N42, N43, N44, N45, 0, 0, N48, N49, N50, N51, N52, N53, N54, N55, 0, 0, 0, 0, N60, N61, N62, N63, 0, 0, N66, N67, 0, 0, N70, N71, N72, N73, 0, 0, 0, 0, 0, 0, 0, 0, 0, 0], B := [true, true, true, true, true, true, true, true, true, true, true, true, true, true, true, true, true, true, true, true, true, true, true, true, true, true, true, true, true, true, true, true, true, true, true, true, true, true, true, true, true, true, true], T := [⟨([] : Lx.Bs).toArray⟩, ⟨([97] : Lx.Bs).toArray⟩, ⟨([] : Lx.Bs).toArray⟩, ⟨([98] : Lx.Bs).toArray⟩, ⟨([] : Lx.Bs).toArray⟩, ⟨([99] : Lx.Bs).toArray⟩, T6, T7, T8, T9, T10, T11, T12, T13, T14, T15, T16, T17, T18, T19, T20, T21, T22, T23, T24, T25, T26, T27, T28, T29, T30, T31, T32, T33, T34, T35, T36, T37, T38, T39, T40, T41, T42, T43, T44, T45, ⟨([] : Lx.Bs).toArray⟩, ⟨([] : Lx.Bs).toArray⟩, T48, T49, T50, T51, T52, T53, T54, T55, ⟨([105, 116, 32] : Lx.Bs).toArray⟩, ⟨([] : Lx.Bs).toArray⟩, ⟨([] : Lx.Bs).toArray⟩, ⟨([] : Lx.Bs).toArray⟩, T60, T61, T62, T63, ⟨([] : Lx.Bs).toArray⟩, ⟨([110, 111, 95, 49] : Lx.Bs).toArray⟩, ⟨(List.replicate 15 [45]).flatten.toArray⟩, ⟨(List.replicate 101 [32]).flatten.toArray⟩, ⟨(List.replicate 48 [40]).flatten.toArray⟩, ⟨(List.replicate 48 [41]).flatten.toArray⟩, ⟨(List.replicate 51 [97, 43]).flatten.toArray⟩, T71, T72, ⟨(List.replicate 40 [120]).flatten.toArray⟩, ⟨((List.replicate 40 [120]).flatten : Lx.Bs).toArray⟩, ⟨([] : Lx.Bs).toArray⟩, T76, T77, T78, T79, ⟨(Px.show' (Px.op2 8 (Px.op2 8 (.mk 1 3 0 (List.replicate 40 [120]).flatten [] []) (.mk 1 3 0 (List.replicate 40 [120]).flatten [] [])) (.mk 1 3 0 (List.replicate 40 [120]).flatten [] []))).1.toArray⟩, ⟨([] : Lx.Bs).toArray⟩, ⟨([] : Lx.Bs).toArray⟩, ⟨([] : Lx.Bs).toArray⟩, ⟨([121, 101, 115] : Lx.Bs).toArray⟩, ⟨([] : Lx.Bs).toArray⟩, ⟨([108, 101, 110] : Lx.Bs).toArray⟩, ⟨([] : Lx.Bs).toArray⟩, ⟨([] : Lx.Bs).toArray⟩, ⟨([] : Lx.Bs).toArray⟩, ⟨([65] : Lx.Bs).toArray⟩], A := [none, none, none, A3, A4, A5, A6, A7, A8, A9, A10, A11, A12, A13, A14, A15, A16, A17, A18, A19, A20, A21, A22, none, A24, A25, A26, A27, none, none, A30, A31, none, A33, none, A35, A36, none, none, none, none, none], M := [M0, M1, M2, M3, M4, M5, M6, M7, M8, M9, M10, M11, M12, M13, M14, M15, M16, M17, M18, M19, M20, M21, M22, M23, M24] } W := by
  refine den_grow fun W472 y472 => ?_
  refine den_newfe (l := [(.mk 2 0 0 [] [97] [])]) (n := 1) (by kernel_rfl) (exs_cons (ExAt.leaf _ _ 2 0 0 [] [97]) (exs_nil _ _)) rfl fun A42 W473 y473 hS42 hE42 => ?_
  simp only [Env.push, List.cons_append, List.nil_append, List.append_nil]
  have z474 := ext_trans y472 y473
  refine den_both ?_ ?_
  · refine den_grow fun W475 y475 => ?_
    have z476 := ext_trans z474 y475
    refine den_newfe (l := [(.mk 2 0 0 [] [97] []), (.mk 2 0 0 [] [98] [])]) (n := 2) (by kernel_rfl) (exs_cons (ExAt.leaf _ _ 2 0 0 [] [97]) (exs_cons (ExAt.leaf _ _ 2 0 0 [] [98]) (exs_nil _ _))) rfl fun A43 W477 y477 hS43 hE43 => ?_
    simp only [Env.push, List.cons_append, List.nil_append, List.append_nil]
    have z478 := ext_trans z476 y477
    have z479 := ext_trans y475 y477
    refine den_both ?_ ?_
    · refine den_grow fun W480 y480 => ?_
      have z481 := ext_trans z478 y480
      have z482 := ext_trans z479 y480
      refine den_newfe (l := [(.mk 2 0 0 [] [97] [])]) (n := 1) (by kernel_rfl) (exs_cons (ExAt.leaf _ _ 2 0 0 [] [97]) (exs_nil _ _)) rfl fun A44 W483 y483 hS44 hE44 => ?_
      simp only [Env.push, List.cons_append, List.nil_append, List.append_nil]
      have z484 := ext_trans y480 y483
      have z485 := ext_trans z481 y483
      have z486 := ext_trans z482 y483
      refine den_grow fun W487 y487 => ?_
      have z488 := ext_trans z484 y487
      have z489 := ext_trans z485 y487
      have z490 := ext_trans z486 y487
      have hmk := op1_i 3 (Px.parse ((List.replicate 15 [45]).flatten ++ [97])).1 [.int .u8 I99, .int .u8 I100, .int .i64 I101, .string T71, .string T72, .slice A33 N66 N67] W487 (h99.ext z489)
      refine den_call_i (fun _ _ => hmk) fun v w' _ ⟨I128, I129, I130, T91, T92, A45, N84, N85, hv, hJ⟩ => ⟨I128, I129, I130, N84, N85, T91, T92, A45, hv, fun W491 e2 y491 n2 => ?_⟩
      clear hmk
      have h128 := ExJ.i hJ e2 y491 n2
      clear hv hJ e2 n2
      simp only [Env.push, List.cons_append, List.nil_append, List.append_nil]
      have z492 := ext_trans z488 y491
      have z493 := ext_trans z489 y491
      have z494 := ext_trans z490 y491
      have z495 := ext_trans y487 y491
      refine den_grow fun W496 y496 => ?_
      have z497 := ext_trans z492 y496
      have z498 := ext_trans z494 y496
      have z499 := ext_trans z495 y496
      have z500 := ext_trans z493 y496
      have hmk := op1_i 4 (.mk 0 0 0 [] [] []) [.int .u8 0, .int .u8 0, .int .i64 0, .string ⟨([] : Lx.Bs).toArray⟩, .string ⟨([] : Lx.Bs).toArray⟩, .slice none 0 0] W496 (ExAt.leaf _ _ 0 0 0 [] [])
      refine den_call_i (fun _ _ => hmk) fun v w' _ ⟨I131, I132, I133, T93, T94, A46, N86, N87, hv, hJ⟩ => ⟨I131, I132, I133, N86, N87, T93, T94, A46, hv, fun W501 e2 y501 n2 => ?_⟩
      clear hmk
      have h131 := ExJ.i hJ e2 y501 n2
      clear hv hJ e2 n2
      simp only [Env.push, List.cons_append, List.nil_append, List.append_nil]
      have z502 := ext_trans y496 y501
      have z503 := ext_trans z497 y501
      have z504 := ext_trans z498 y501
      have z505 := ext_trans z499 y501
      have z506 := ext_trans z500 y501
      refine den_grow fun W507 y507 => ?_
      have z508 := ext_trans z502 y507
      have z509 := ext_trans z503 y507
      have z510 := ext_trans z504 y507
      have z511 := ext_trans z505 y507
      have z512 := ext_trans z506 y507
      refine den_newfe (n := 15) (by kernel_rfl) (tbx (hS42.ext z510) (hE42.ext z510) (hS43.ext z509) (hE43.ext z509) (hS44.ext z511) (hE44.ext z511) (h128.ext z508) (h131.ext y507)) rfl fun A47 W513 y513 hS47 hE47 => ?_
      simp only [Env.push, List.cons_append, List.nil_append, List.append_nil]
      have z514 := ext_trans z512 y513
      refine den_grow fun W515 y515 => ?_
      have z516 := ext_trans z514 y515
      exact l_lnames_22 (hG.ext z516) (hT.ext z516) (h99.ext z516) (hS47.ext y515) (hE47.ext y515)
    · refine den_grow fun W552 y552 => ?_
      have z553 := ext_trans z478 y552
      have z554 := ext_trans z479 y552
      have hmk := op1_i 3 (Px.parse ((List.replicate 15 [45]).flatten ++ [97])).1 [.int .u8 I99, .int .u8 I100, .int .i64 I101, .string T71, .string T72, .slice A33 N66 N67] W552 (h99.ext z553)
      refine den_call_i (fun _ _ => hmk) fun v w' _ ⟨I128, I129, I130, T91, T92, A44, N84, N85, hv, hJ⟩ => ⟨I128, I129, I130, N84, N85, T91, T92, A44, hv, fun W555 e2 y555 n2 => ?_⟩
      clear hmk
      have h128 := ExJ.i hJ e2 y555 n2
      clear hv hJ e2 n2
      simp only [Env.push, List.cons_append, List.nil_append, List.append_nil]
      have z556 := ext_trans y552 y555
      have z557 := ext_trans z553 y555
      have z558 := ext_trans z554 y555
      refine den_both ?_ ?_
      · refine den_grow fun W559 y559 => ?_
        have z560 := ext_trans z556 y559
        have z561 := ext_trans z557 y559
        have z562 := ext_trans z558 y559
        refine den_newfe (l := [(.mk 2 0 0 [] [97] [])]) (n := 1) (by kernel_rfl) (exs_cons (ExAt.leaf _ _ 2 0 0 [] [97]) (exs_nil _ _)) rfl fun A45 W563 y563 hS45 hE45 => ?_
        simp only [Env.push, List.cons_append, List.nil_append, List.append_nil]
        have z564 := ext_trans z560 y563
        have z565 := ext_trans z561 y563
        have z566 := ext_trans y559 y563
        have z567 := ext_trans z562 y563
        refine den_grow fun W568 y568 => ?_
        have z569 := ext_trans z564 y568
        have z570 := ext_trans z567 y568
        have z571 := ext_trans z566 y568
        have z572 := ext_trans z565 y568
        have hmk := op1_i 4 (.mk 0 0 0 [] [] []) [.int .u8 0, .int .u8 0, .int .i64 0, .string ⟨([] : Lx.Bs).toArray⟩, .string ⟨([] : Lx.Bs).toArray⟩, .slice none 0 0] W568 (ExAt.leaf _ _ 0 0 0 [] [])
        refine den_call_i (fun _ _ => hmk) fun v w' _ ⟨I131, I132, I133, T93, T94, A46, N86, N87, hv, hJ⟩ => ⟨I131, I132, I133, N86, N87, T93, T94, A46, hv, fun W573 e2 y573 n2 => ?_⟩
        clear hmk
        have h131 := ExJ.i hJ e2 y573 n2
        clear hv hJ e2 n2
        simp only [Env.push, List.cons_append, List.nil_append, List.append_nil]
        have z574 := ext_trans y568 y573
        have z575 := ext_trans z569 y573
        have z576 := ext_trans z570 y573
        have z577 := ext_trans z571 y573
        have z578 := ext_trans z572 y573
        refine den_grow fun W579 y579 => ?_
        have z580 := ext_trans z574 y579
        have z581 := ext_trans z575 y579
        have z582 := ext_trans z576 y579
        have z583 := ext_trans z577 y579
        have z584 := ext_trans z578 y579
        refine den_newfe (n := 15) (by kernel_rfl) (tbx (hS42.ext z582) (hE42.ext z582) (hS43.ext z581) (hE43.ext z581) (hS45.ext z580) (hE45.ext z580) (h128.ext z583) (h131.ext y579)) rfl fun A47 W585 y585 hS47 hE47 => ?_
        simp only [Env.push, List.cons_append, List.nil_append, List.append_nil]
        have z586 := ext_trans z584 y585
        refine den_grow fun W587 y587 => ?_
        have z588 := ext_trans z586 y587
        exact l_lnames_22 (hG.ext z588) (hT.ext z588) (h99.ext z588) (hS47.ext y587) (hE47.ext y587)
      · refine den_grow fun W589 y589 => ?_
        have z590 := ext_trans z556 y589
        have z591 := ext_trans z557 y589
        have z592 := ext_trans z558 y589
        have hmk := op1_i 4 (.mk 0 0 0 [] [] []) [.int .u8 0, .int .u8 0, .int .i64 0, .string ⟨([] : Lx.Bs).toArray⟩, .string ⟨([] : Lx.Bs).toArray⟩, .slice none 0 0] W589 (ExAt.leaf _ _ 0 0 0 [] [])
        refine den_call_i (fun _ _ => hmk) fun v w' _ ⟨I131, I132, I133, T93, T94, A45, N86, N87, hv, hJ⟩ => ⟨I131, I132, I133, N86, N87, T93, T94, A45, hv, fun W593 e2 y593 n2 => ?_⟩
        clear hmk
        have h131 := ExJ.i hJ e2 y593 n2
        clear hv hJ e2 n2
        simp only [Env.push, List.cons_append, List.nil_append, List.append_nil]
        have z594 := ext_trans z590 y593
        have z595 := ext_trans z591 y593
        have z596 := ext_trans y589 y593
        have z597 := ext_trans z592 y593
        refine den_grow fun W598 y598 => ?_
        have z599 := ext_trans z594 y598
        have z600 := ext_trans z597 y598
        have z601 := ext_trans z596 y598
        have z602 := ext_trans z595 y598
        refine den_newfe (l := [(.mk 2 0 0 [] [97] [])]) (n := 1) (by kernel_rfl) (exs_cons (ExAt.leaf _ _ 2 0 0 [] [97]) (exs_nil _ _)) rfl fun A46 W603 y603 hS46 hE46 => ?_
        simp only [Env.push, List.cons_append, List.nil_append, List.append_nil]
        have z604 := ext_trans z599 y603
        have z605 := ext_trans z600 y603
        have z606 := ext_trans y598 y603
        have z607 := ext_trans z601 y603
        have z608 := ext_trans z602 y603
        refine den_grow fun W609 y609 => ?_
        have z610 := ext_trans z604 y609
        have z611 := ext_trans z605 y609
        have z612 := ext_trans z606 y609
        have z613 := ext_trans z607 y609
        have z614 := ext_trans z608 y609
        refine den_newfe (n := 15) (by kernel_rfl) (tbx (hS42.ext z611) (hE42.ext z611) (hS43.ext z610) (hE43.ext z610) (hS46.ext y609) (hE46.ext y609) (h128.ext z613) (h131.ext z612)) rfl fun A47 W615 y615 hS47 hE47 => ?_
        simp only [Env.push, List.cons_append, List.nil_append, List.append_nil]
        have z616 := ext_trans z614 y615
        refine den_grow fun W617 y617 => ?_
        have z618 := ext_trans z616 y617
        exact l_lnames_22 (hG.ext z618) (hT.ext z618) (h99.ext z618) (hS47.ext y617) (hE47.ext y617)
  · refine den_both ?_ ?_
    · refine den_grow fun W619 y619 => ?_
      have z620 := ext_trans z474 y619
      refine den_newfe (l := [(.mk 2 0 0 [] [97] [])]) (n := 1) (by kernel_rfl) (exs_cons (ExAt.leaf _ _ 2 0 0 [] [97]) (exs_nil _ _)) rfl fun A43 W621 y621 hS43 hE43 => ?_
      simp only [Env.push, List.cons_append, List.nil_append, List.append_nil]
      have z622 := ext_trans z620 y621
      have z623 := ext_trans y619 y621
      refine den_both ?_ ?_
      · refine den_grow fun W624 y624 => ?_
        have z625 := ext_trans z622 y624
        have z626 := ext_trans z623 y624
        refine den_newfe (l := [(.mk 2 0 0 [] [97] []), (.mk 2 0 0 [] [98] [])]) (n := 2) (by kernel_rfl) (exs_cons (ExAt.leaf _ _ 2 0 0 [] [97]) (exs_cons (ExAt.leaf _ _ 2 0 0 [] [98]) (exs_nil _ _))) rfl fun A44 W627 y627 hS44 hE44 => ?_
        simp only [Env.push, List.cons_append, List.nil_append, List.append_nil]
        have z628 := ext_trans z625 y627
        have z629 := ext_trans z626 y627
        have z630 := ext_trans y624 y627
        refine den_grow fun W631 y631 => ?_
        have z632 := ext_trans z628 y631
        have z633 := ext_trans z629 y631
        have z634 := ext_trans z630 y631
        have hmk := op1_i 3 (Px.parse ((List.replicate 15 [45]).flatten ++ [97])).1 [.int .u8 I99, .int .u8 I100, .int .i64 I101, .string T71, .string T72, .slice A33 N66 N67] W631 (h99.ext z632)
        refine den_call_i (fun _ _ => hmk) fun v w' _ ⟨I128, I129, I130, T91, T92, A45, N84, N85, hv, hJ⟩ => ⟨I128, I129, I130, N84, N85, T91, T92, A45, hv, fun W635 e2 y635 n2 => ?_⟩
        clear hmk
        have h128 := ExJ.i hJ e2 y635 n2
        clear hv hJ e2 n2
        simp only [Env.push, List.cons_append, List.nil_append, List.append_nil]
        have z636 := ext_trans z632 y635
        have z637 := ext_trans y631 y635
        have z638 := ext_trans z633 y635
        have z639 := ext_trans z634 y635
        refine den_grow fun W640 y640 => ?_
        have z641 := ext_trans z638 y640
        have z642 := ext_trans z637 y640
        have z643 := ext_trans z636 y640
        have z644 := ext_trans z639 y640
        have hmk := op1_i 4 (.mk 0 0 0 [] [] []) [.int .u8 0, .int .u8 0, .int .i64 0, .string ⟨([] : Lx.Bs).toArray⟩, .string ⟨([] : Lx.Bs).toArray⟩, .slice none 0 0] W640 (ExAt.leaf _ _ 0 0 0 [] [])
        refine den_call_i (fun _ _ => hmk) fun v w' _ ⟨I131, I132, I133, T93, T94, A46, N86, N87, hv, hJ⟩ => ⟨I131, I132, I133, N86, N87, T93, T94, A46, hv, fun W645 e2 y645 n2 => ?_⟩
        clear hmk
        have h131 := ExJ.i hJ e2 y645 n2
        clear hv hJ e2 n2
        simp only [Env.push, List.cons_append, List.nil_append, List.append_nil]
        have z646 := ext_trans z641 y645
        have z647 := ext_trans y640 y645
        have z648 := ext_trans z642 y645
        have z649 := ext_trans z643 y645
        have z650 := ext_trans z644 y645
        refine den_grow fun W651 y651 => ?_
        have z652 := ext_trans z646 y651
        have z653 := ext_trans z647 y651
        have z654 := ext_trans z648 y651
        have z655 := ext_trans z649 y651
        have z656 := ext_trans z650 y651
        refine den_newfe (n := 15) (by kernel_rfl) (tbx (hS42.ext z652) (hE42.ext z652) (hS44.ext z654) (hE44.ext z654) (hS43.ext z656) (hE43.ext z656) (h128.ext z653) (h131.ext y651)) rfl fun A47 W657 y657 hS47 hE47 => ?_
        simp only [Env.push, List.cons_append, List.nil_append, List.append_nil]
        have z658 := ext_trans z655 y657
        refine den_grow fun W659 y659 => ?_
        have z660 := ext_trans z658 y659
        exact l_lnames_22 (hG.ext z660) (hT.ext z660) (h99.ext z660) (hS47.ext y659) (hE47.ext y659)
      · refine den_grow fun W661 y661 => ?_
        have z662 := ext_trans z622 y661
        have z663 := ext_trans z623 y661
        have hmk := op1_i 3 (Px.parse ((List.replicate 15 [45]).flatten ++ [97])).1 [.int .u8 I99, .int .u8 I100, .int .i64 I101, .string T71, .string T72, .slice A33 N66 N67] W661 (h99.ext z662)
        refine den_call_i (fun _ _ => hmk) fun v w' _ ⟨I128, I129, I130, T91, T92, A44, N84, N85, hv, hJ⟩ => ⟨I128, I129, I130, N84, N85, T91, T92, A44, hv, fun W664 e2 y664 n2 => ?_⟩
        clear hmk
        have h128 := ExJ.i hJ e2 y664 n2
        clear hv hJ e2 n2
        simp only [Env.push, List.cons_append, List.nil_append, List.append_nil]
        have z665 := ext_trans z662 y664
        have z666 := ext_trans z663 y664
        have z667 := ext_trans y661 y664
        refine den_both ?_ ?_
        · refine den_grow fun W668 y668 => ?_
          have z669 := ext_trans z665 y668
          have z670 := ext_trans z666 y668
          have z671 := ext_trans z667 y668
          refine den_newfe (l := [(.mk 2 0 0 [] [97] []), (.mk 2 0 0 [] [98] [])]) (n := 2) (by kernel_rfl) (exs_cons (ExAt.leaf _ _ 2 0 0 [] [97]) (exs_cons (ExAt.leaf _ _ 2 0 0 [] [98]) (exs_nil _ _))) rfl fun A45 W672 y672 hS45 hE45 => ?_
          simp only [Env.push, List.cons_append, List.nil_append, List.append_nil]
          have z673 := ext_trans y668 y672
          have z674 := ext_trans z669 y672
          have z675 := ext_trans z670 y672
          have z676 := ext_trans z671 y672
          refine den_grow fun W677 y677 => ?_
          have z678 := ext_trans z673 y677
          have z679 := ext_trans z675 y677
          have z680 := ext_trans z674 y677
          have z681 := ext_trans z676 y677
          have hmk := op1_i 4 (.mk 0 0 0 [] [] []) [.int .u8 0, .int .u8 0, .int .i64 0, .string ⟨([] : Lx.Bs).toArray⟩, .string ⟨([] : Lx.Bs).toArray⟩, .slice none 0 0] W677 (ExAt.leaf _ _ 0 0 0 [] [])
          refine den_call_i (fun _ _ => hmk) fun v w' _ ⟨I131, I132, I133, T93, T94, A46, N86, N87, hv, hJ⟩ => ⟨I131, I132, I133, N86, N87, T93, T94, A46, hv, fun W682 e2 y682 n2 => ?_⟩
          clear hmk
          have h131 := ExJ.i hJ e2 y682 n2
          clear hv hJ e2 n2
          simp only [Env.push, List.cons_append, List.nil_append, List.append_nil]
          have z683 := ext_trans z678 y682
          have z684 := ext_trans z679 y682
          have z685 := ext_trans y677 y682
          have z686 := ext_trans z680 y682
          have z687 := ext_trans z681 y682
          refine den_grow fun W688 y688 => ?_
          have z689 := ext_trans z683 y688
          have z690 := ext_trans z684 y688
          have z691 := ext_trans z685 y688
          have z692 := ext_trans z686 y688
          have z693 := ext_trans z687 y688
          refine den_newfe (n := 15) (by kernel_rfl) (tbx (hS42.ext z690) (hE42.ext z690) (hS45.ext z691) (hE45.ext z691) (hS43.ext z693) (hE43.ext z693) (h128.ext z689) (h131.ext y688)) rfl fun A47 W694 y694 hS47 hE47 => ?_
          simp only [Env.push, List.cons_append, List.nil_append, List.append_nil]
          have z695 := ext_trans z692 y694
          refine den_grow fun W696 y696 => ?_
          have z697 := ext_trans z695 y696
          exact l_lnames_22 (hG.ext z697) (hT.ext z697) (h99.ext z697) (hS47.ext y696) (hE47.ext y696)
        · refine den_grow fun W698 y698 => ?_
          have z699 := ext_trans z665 y698
          have z700 := ext_trans z666 y698
          have z701 := ext_trans z667 y698
          have hmk := op1_i 4 (.mk 0 0 0 [] [] []) [.int .u8 0, .int .u8 0, .int .i64 0, .string ⟨([] : Lx.Bs).toArray⟩, .string ⟨([] : Lx.Bs).toArray⟩, .slice none 0 0] W698 (ExAt.leaf _ _ 0 0 0 [] [])
          refine den_call_i (fun _ _ => hmk) fun v w' _ ⟨I131, I132, I133, T93, T94, A45, N86, N87, hv, hJ⟩ => ⟨I131, I132, I133, N86, N87, T93, T94, A45, hv, fun W702 e2 y702 n2 => ?_⟩
          clear hmk
          have h131 := ExJ.i hJ e2 y702 n2
          clear hv hJ e2 n2
          simp only [Env.push, List.cons_append, List.nil_append, List.append_nil]
          have z703 := ext_trans y698 y702
          have z704 := ext_trans z699 y702
          have z705 := ext_trans z700 y702
          have z706 := ext_trans z701 y702
          refine den_grow fun W707 y707 => ?_
          have z708 := ext_trans z703 y707
          have z709 := ext_trans z705 y707
          have z710 := ext_trans z704 y707
          have z711 := ext_trans z706 y707
          refine den_newfe (l := [(.mk 2 0 0 [] [97] []), (.mk 2 0 0 [] [98] [])]) (n := 2) (by kernel_rfl) (exs_cons (ExAt.leaf _ _ 2 0 0 [] [97]) (exs_cons (ExAt.leaf _ _ 2 0 0 [] [98]) (exs_nil _ _))) rfl fun A46 W712 y712 hS46 hE46 => ?_
          simp only [Env.push, List.cons_append, List.nil_append, List.append_nil]
          have z713 := ext_trans z708 y712
          have z714 := ext_trans z709 y712
          have z715 := ext_trans z710 y712
          have z716 := ext_trans z711 y712
          have z717 := ext_trans y707 y712
          refine den_grow fun W718 y718 => ?_
          have z719 := ext_trans z713 y718
          have z720 := ext_trans z714 y718
          have z721 := ext_trans z715 y718
          have z722 := ext_trans z716 y718
          have z723 := ext_trans z717 y718
          refine den_newfe (n := 15) (by kernel_rfl) (tbx (hS42.ext z720) (hE42.ext z720) (hS46.ext y718) (hE46.ext y718) (hS43.ext z722) (hE43.ext z722) (h128.ext z719) (h131.ext z723)) rfl fun A47 W724 y724 hS47 hE47 => ?_
          simp only [Env.push, List.cons_append, List.nil_append, List.append_nil]
          have z725 := ext_trans z721 y724
          refine den_grow fun W726 y726 => ?_
          have z727 := ext_trans z725 y726
          exact l_lnames_22 (hG.ext z727) (hT.ext z727) (h99.ext z727) (hS47.ext y726) (hE47.ext y726)
    · refine den_grow fun W728 y728 => ?_
      have z729 := ext_trans z474 y728
      have hmk := op1_i 3 (Px.parse ((List.replicate 15 [45]).flatten ++ [97])).1 [.int .u8 I99, .int .u8 I100, .int .i64 I101, .string T71, .string T72, .slice A33 N66 N67] W728 (h99.ext z729)
      refine den_call_i (fun _ _ => hmk) fun v w' _ ⟨I128, I129, I130, T91, T92, A43, N84, N85, hv, hJ⟩ => ⟨I128, I129, I130, N84, N85, T91, T92, A43, hv, fun W730 e2 y730 n2 => ?_⟩
      clear hmk
      have h128 := ExJ.i hJ e2 y730 n2
      clear hv hJ e2 n2
      simp only [Env.push, List.cons_append, List.nil_append, List.append_nil]
      have z731 := ext_trans z729 y730
      have z732 := ext_trans y728 y730
      refine den_both ?_ ?_
      · refine den_grow fun W733 y733 => ?_
        have z734 := ext_trans z731 y733
        have z735 := ext_trans z732 y733
        refine den_newfe (l := [(.mk 2 0 0 [] [97] []), (.mk 2 0 0 [] [98] [])]) (n := 2) (by kernel_rfl) (exs_cons (ExAt.leaf _ _ 2 0 0 [] [97]) (exs_cons (ExAt.leaf _ _ 2 0 0 [] [98]) (exs_nil _ _))) rfl fun A44 W736 y736 hS44 hE44 => ?_
        simp only [Env.push, List.cons_append, List.nil_append, List.append_nil]
        have z737 := ext_trans y733 y736
        have z738 := ext_trans z734 y736
        have z739 := ext_trans z735 y736
        refine den_both ?_ ?_
        · refine den_grow fun W740 y740 => ?_
          have z741 := ext_trans z737 y740
          have z742 := ext_trans z738 y740
          have z743 := ext_trans z739 y740
          refine den_newfe (l := [(.mk 2 0 0 [] [97] [])]) (n := 1) (by kernel_rfl) (exs_cons (ExAt.leaf _ _ 2 0 0 [] [97]) (exs_nil _ _)) rfl fun A45 W744 y744 hS45 hE45 => ?_
          simp only [Env.push, List.cons_append, List.nil_append, List.append_nil]
          have z745 := ext_trans z741 y744
          have z746 := ext_trans z742 y744
          have z747 := ext_trans z743 y744
          have z748 := ext_trans y740 y744
          refine den_grow fun W749 y749 => ?_
          have z750 := ext_trans z745 y749
          have z751 := ext_trans z748 y749
          have z752 := ext_trans z747 y749
          have z753 := ext_trans z746 y749
          have hmk := op1_i 4 (.mk 0 0 0 [] [] []) [.int .u8 0, .int .u8 0, .int .i64 0, .string ⟨([] : Lx.Bs).toArray⟩, .string ⟨([] : Lx.Bs).toArray⟩, .slice none 0 0] W749 (ExAt.leaf _ _ 0 0 0 [] [])
          refine den_call_i (fun _ _ => hmk) fun v w' _ ⟨I131, I132, I133, T93, T94, A46, N86, N87, hv, hJ⟩ => ⟨I131, I132, I133, N86, N87, T93, T94, A46, hv, fun W754 e2 y754 n2 => ?_⟩
          clear hmk
          have h131 := ExJ.i hJ e2 y754 n2
          clear hv hJ e2 n2
          simp only [Env.push, List.cons_append, List.nil_append, List.append_nil]
          have z755 := ext_trans z750 y754
          have z756 := ext_trans z751 y754
          have z757 := ext_trans z752 y754
          have z758 := ext_trans y749 y754
          have z759 := ext_trans z753 y754
          refine den_grow fun W760 y760 => ?_
          have z761 := ext_trans z755 y760
          have z762 := ext_trans z756 y760
          have z763 := ext_trans z757 y760
          have z764 := ext_trans z758 y760
          have z765 := ext_trans z759 y760
          refine den_newfe (n := 15) (by kernel_rfl) (tbx (hS42.ext z763) (hE42.ext z763) (hS44.ext z762) (hE44.ext z762) (hS45.ext z764) (hE45.ext z764) (h128.ext z761) (h131.ext y760)) rfl fun A47 W766 y766 hS47 hE47 => ?_
          simp only [Env.push, List.cons_append, List.nil_append, List.append_nil]
          have z767 := ext_trans z765 y766
          refine den_grow fun W768 y768 => ?_
          have z769 := ext_trans z767 y768
          exact l_lnames_22 (hG.ext z769) (hT.ext z769) (h99.ext z769) (hS47.ext y768) (hE47.ext y768)
        · refine den_grow fun W770 y770 => ?_
          have z771 := ext_trans z737 y770
          have z772 := ext_trans z738 y770
          have z773 := ext_trans z739 y770
          have hmk := op1_i 4 (.mk 0 0 0 [] [] []) [.int .u8 0, .int .u8 0, .int .i64 0, .string ⟨([] : Lx.Bs).toArray⟩, .string ⟨([] : Lx.Bs).toArray⟩, .slice none 0 0] W770 (ExAt.leaf _ _ 0 0 0 [] [])
          refine den_call_i (fun _ _ => hmk) fun v w' _ ⟨I131, I132, I133, T93, T94, A45, N86, N87, hv, hJ⟩ => ⟨I131, I132, I133, N86, N87, T93, T94, A45, hv, fun W774 e2 y774 n2 => ?_⟩
          clear hmk
          have h131 := ExJ.i hJ e2 y774 n2
          clear hv hJ e2 n2
          simp only [Env.push, List.cons_append, List.nil_append, List.append_nil]
          have z775 := ext_trans z771 y774
          have z776 := ext_trans z772 y774
          have z777 := ext_trans z773 y774
          have z778 := ext_trans y770 y774
          refine den_grow fun W779 y779 => ?_
          have z780 := ext_trans z775 y779
          have z781 := ext_trans z778 y779
          have z782 := ext_trans z777 y779
          have z783 := ext_trans z776 y779
          refine den_newfe (l := [(.mk 2 0 0 [] [97] [])]) (n := 1) (by kernel_rfl) (exs_cons (ExAt.leaf _ _ 2 0 0 [] [97]) (exs_nil _ _)) rfl fun A46 W784 y784 hS46 hE46 => ?_
          simp only [Env.push, List.cons_append, List.nil_append, List.append_nil]
          have z785 := ext_trans z780 y784
          have z786 := ext_trans z781 y784
          have z787 := ext_trans z782 y784
          have z788 := ext_trans y779 y784
          have z789 := ext_trans z783 y784
          refine den_grow fun W790 y790 => ?_
          have z791 := ext_trans z785 y790
          have z792 := ext_trans z786 y790
          have z793 := ext_trans z787 y790
          have z794 := ext_trans z788 y790
          have z795 := ext_trans z789 y790
          refine den_newfe (n := 15) (by kernel_rfl) (tbx (hS42.ext z793) (hE42.ext z793) (hS44.ext z792) (hE44.ext z792) (hS46.ext y790) (hE46.ext y790) (h128.ext z791) (h131.ext z794)) rfl fun A47 W796 y796 hS47 hE47 => ?_
          simp only [Env.push, List.cons_append, List.nil_append, List.append_nil]
          have z797 := ext_trans z795 y796
          refine den_grow fun W798 y798 => ?_
          have z799 := ext_trans z797 y798
          exact l_lnames_22 (hG.ext z799) (hT.ext z799) (h99.ext z799) (hS47.ext y798) (hE47.ext y798)
      · refine den_both ?_ ?_
        · refine den_grow fun W800 y800 => ?_
          have z801 := ext_trans z731 y800
          have z802 := ext_trans z732 y800
          refine den_newfe (l := [(.mk 2 0 0 [] [97] [])]) (n := 1) (by kernel_rfl) (exs_cons (ExAt.leaf _ _ 2 0 0 [] [97]) (exs_nil _ _)) rfl fun A44 W803 y803 hS44 hE44 => ?_
          simp only [Env.push, List.cons_append, List.nil_append, List.append_nil]
          have z804 := ext_trans y800 y803
          have z805 := ext_trans z801 y803
          have z806 := ext_trans z802 y803
          refine den_both ?_ ?_
          · refine den_grow fun W807 y807 => ?_
            have z808 := ext_trans z804 y807
            have z809 := ext_trans z805 y807
            have z810 := ext_trans z806 y807
            refine den_newfe (l := [(.mk 2 0 0 [] [97] []), (.mk 2 0 0 [] [98] [])]) (n := 2) (by kernel_rfl) (exs_cons (ExAt.leaf _ _ 2 0 0 [] [97]) (exs_cons (ExAt.leaf _ _ 2 0 0 [] [98]) (exs_nil _ _))) rfl fun A45 W811 y811 hS45 hE45 => ?_
            simp only [Env.push, List.cons_append, List.nil_append, List.append_nil]
            have z812 := ext_trans z808 y811
            have z813 := ext_trans z809 y811
            have z814 := ext_trans z810 y811
            have z815 := ext_trans y807 y811
            refine den_grow fun W816 y816 => ?_
            have z817 := ext_trans z812 y816
            have z818 := ext_trans z814 y816
            have z819 := ext_trans z815 y816
            have z820 := ext_trans z813 y816
            have hmk := op1_i 4 (.mk 0 0 0 [] [] []) [.int .u8 0, .int .u8 0, .int .i64 0, .string ⟨([] : Lx.Bs).toArray⟩, .string ⟨([] : Lx.Bs).toArray⟩, .slice none 0 0] W816 (ExAt.leaf _ _ 0 0 0 [] [])
            refine den_call_i (fun _ _ => hmk) fun v w' _ ⟨I131, I132, I133, T93, T94, A46, N86, N87, hv, hJ⟩ => ⟨I131, I132, I133, N86, N87, T93, T94, A46, hv, fun W821 e2 y821 n2 => ?_⟩
            clear hmk
            have h131 := ExJ.i hJ e2 y821 n2
            clear hv hJ e2 n2
            simp only [Env.push, List.cons_append, List.nil_append, List.append_nil]
            have z822 := ext_trans z817 y821
            have z823 := ext_trans z818 y821
            have z824 := ext_trans z819 y821
            have z825 := ext_trans y816 y821
            have z826 := ext_trans z820 y821
            refine den_grow fun W827 y827 => ?_
            have z828 := ext_trans z822 y827
            have z829 := ext_trans z823 y827
            have z830 := ext_trans z824 y827
            have z831 := ext_trans z825 y827
            have z832 := ext_trans z826 y827
            refine den_newfe (n := 15) (by kernel_rfl) (tbx (hS42.ext z829) (hE42.ext z829) (hS45.ext z831) (hE45.ext z831) (hS44.ext z830) (hE44.ext z830) (h128.ext z828) (h131.ext y827)) rfl fun A47 W833 y833 hS47 hE47 => ?_
            simp only [Env.push, List.cons_append, List.nil_append, List.append_nil]
            have z834 := ext_trans z832 y833
            refine den_grow fun W835 y835 => ?_
            have z836 := ext_trans z834 y835
            exact l_lnames_22 (hG.ext z836) (hT.ext z836) (h99.ext z836) (hS47.ext y835) (hE47.ext y835)
          · refine den_grow fun W837 y837 => ?_
            have z838 := ext_trans z804 y837
            have z839 := ext_trans z805 y837
            have z840 := ext_trans z806 y837
            have hmk := op1_i 4 (.mk 0 0 0 [] [] []) [.int .u8 0, .int .u8 0, .int .i64 0, .string ⟨([] : Lx.Bs).toArray⟩, .string ⟨([] : Lx.Bs).toArray⟩, .slice none 0 0] W837 (ExAt.leaf _ _ 0 0 0 [] [])
            refine den_call_i (fun _ _ => hmk) fun v w' _ ⟨I131, I132, I133, T93, T94, A45, N86, N87, hv, hJ⟩ => ⟨I131, I132, I133, N86, N87, T93, T94, A45, hv, fun W841 e2 y841 n2 => ?_⟩
            clear hmk
            have h131 := ExJ.i hJ e2 y841 n2
            clear hv hJ e2 n2
            simp only [Env.push, List.cons_append, List.nil_append, List.append_nil]
            have z842 := ext_trans z838 y841
            have z843 := ext_trans z839 y841
            have z844 := ext_trans z840 y841
            have z845 := ext_trans y837 y841
            refine den_grow fun W846 y846 => ?_
            have z847 := ext_trans z842 y846
            have z848 := ext_trans z844 y846
            have z849 := ext_trans z845 y846
            have z850 := ext_trans z843 y846
            refine den_newfe (l := [(.mk 2 0 0 [] [97] []), (.mk 2 0 0 [] [98] [])]) (n := 2) (by kernel_rfl) (exs_cons (ExAt.leaf _ _ 2 0 0 [] [97]) (exs_cons (ExAt.leaf _ _ 2 0 0 [] [98]) (exs_nil _ _))) rfl fun A46 W851 y851 hS46 hE46 => ?_
            simp only [Env.push, List.cons_append, List.nil_append, List.append_nil]
            have z852 := ext_trans z847 y851
            have z853 := ext_trans z848 y851
            have z854 := ext_trans z849 y851
            have z855 := ext_trans y846 y851
            have z856 := ext_trans z850 y851
            refine den_grow fun W857 y857 => ?_
            have z858 := ext_trans z852 y857
            have z859 := ext_trans z853 y857
            have z860 := ext_trans z854 y857
            have z861 := ext_trans z855 y857
            have z862 := ext_trans z856 y857
            refine den_newfe (n := 15) (by kernel_rfl) (tbx (hS42.ext z859) (hE42.ext z859) (hS46.ext y857) (hE46.ext y857) (hS44.ext z860) (hE44.ext z860) (h128.ext z858) (h131.ext z861)) rfl fun A47 W863 y863 hS47 hE47 => ?_
            simp only [Env.push, List.cons_append, List.nil_append, List.append_nil]
            have z864 := ext_trans z862 y863
            refine den_grow fun W865 y865 => ?_
            have z866 := ext_trans z864 y865
            exact l_lnames_22 (hG.ext z866) (hT.ext z866) (h99.ext z866) (hS47.ext y865) (hE47.ext y865)
        · refine den_grow fun W867 y867 => ?_
          have z868 := ext_trans z731 y867
          have z869 := ext_trans z732 y867
          have hmk := op1_i 4 (.mk 0 0 0 [] [] []) [.int .u8 0, .int .u8 0, .int .i64 0, .string ⟨([] : Lx.Bs).toArray⟩, .string ⟨([] : Lx.Bs).toArray⟩, .slice none 0 0] W867 (ExAt.leaf _ _ 0 0 0 [] [])
          refine den_call_i (fun _ _ => hmk) fun v w' _ ⟨I131, I132, I133, T93, T94, A44, N86, N87, hv, hJ⟩ => ⟨I131, I132, I133, N86, N87, T93, T94, A44, hv, fun W870 e2 y870 n2 => ?_⟩
          clear hmk
          have h131 := ExJ.i hJ e2 y870 n2
          clear hv hJ e2 n2
          simp only [Env.push, List.cons_append, List.nil_append, List.append_nil]
          have z871 := ext_trans y867 y870
          have z872 := ext_trans z868 y870
          have z873 := ext_trans z869 y870
          refine den_both ?_ ?_
          · refine den_grow fun W874 y874 => ?_
            have z875 := ext_trans z871 y874
            have z876 := ext_trans z872 y874
            have z877 := ext_trans z873 y874
            refine den_newfe (l := [(.mk 2 0 0 [] [97] []), (.mk 2 0 0 [] [98] [])]) (n := 2) (by kernel_rfl) (exs_cons (ExAt.leaf _ _ 2 0 0 [] [97]) (exs_cons (ExAt.leaf _ _ 2 0 0 [] [98]) (exs_nil _ _))) rfl fun A45 W878 y878 hS45 hE45 => ?_
            simp only [Env.push, List.cons_append, List.nil_append, List.append_nil]
            have z879 := ext_trans z875 y878
            have z880 := ext_trans z876 y878
            have z881 := ext_trans z877 y878
            have z882 := ext_trans y874 y878
            refine den_grow fun W883 y883 => ?_
            have z884 := ext_trans z879 y883
            have z885 := ext_trans z881 y883
            have z886 := ext_trans z882 y883
            have z887 := ext_trans z880 y883
            refine den_newfe (l := [(.mk 2 0 0 [] [97] [])]) (n := 1) (by kernel_rfl) (exs_cons (ExAt.leaf _ _ 2 0 0 [] [97]) (exs_nil _ _)) rfl fun A46 W888 y888 hS46 hE46 => ?_
            simp only [Env.push, List.cons_append, List.nil_append, List.append_nil]
            have z889 := ext_trans z884 y888
            have z890 := ext_trans y883 y888
            have z891 := ext_trans z885 y888
            have z892 := ext_trans z886 y888
            have z893 := ext_trans z887 y888
            refine den_grow fun W894 y894 => ?_
            have z895 := ext_trans z889 y894
            have z896 := ext_trans z890 y894
            have z897 := ext_trans z891 y894
            have z898 := ext_trans z892 y894
            have z899 := ext_trans z893 y894
            refine den_newfe (n := 15) (by kernel_rfl) (tbx (hS42.ext z897) (hE42.ext z897) (hS45.ext z896) (hE45.ext z896) (hS46.ext y894) (hE46.ext y894) (h128.ext z895) (h131.ext z898)) rfl fun A47 W900 y900 hS47 hE47 => ?_
            simp only [Env.push, List.cons_append, List.nil_append, List.append_nil]
            have z901 := ext_trans z899 y900
            refine den_grow fun W902 y902 => ?_
            have z903 := ext_trans z901 y902
            exact l_lnames_22 (hG.ext z903) (hT.ext z903) (h99.ext z903) (hS47.ext y902) (hE47.ext y902)
          · refine den_grow fun W904 y904 => ?_
            have z905 := ext_trans z871 y904
            have z906 := ext_trans z872 y904
            have z907 := ext_trans z873 y904
            refine den_newfe (l := [(.mk 2 0 0 [] [97] [])]) (n := 1) (by kernel_rfl) (exs_cons (ExAt.leaf _ _ 2 0 0 [] [97]) (exs_nil _ _)) rfl fun A45 W908 y908 hS45 hE45 => ?_
            simp only [Env.push, List.cons_append, List.nil_append, List.append_nil]
            have z909 := ext_trans z905 y908
            have z910 := ext_trans z906 y908
            have z911 := ext_trans z907 y908
            have z912 := ext_trans y904 y908
            refine den_grow fun W913 y913 => ?_
            have z914 := ext_trans z909 y913
            have z915 := ext_trans z911 y913
            have z916 := ext_trans z912 y913
            have z917 := ext_trans z910 y913
            refine den_newfe (l := [(.mk 2 0 0 [] [97] []), (.mk 2 0 0 [] [98] [])]) (n := 2) (by kernel_rfl) (exs_cons (ExAt.leaf _ _ 2 0 0 [] [97]) (exs_cons (ExAt.leaf _ _ 2 0 0 [] [98]) (exs_nil _ _))) rfl fun A46 W918 y918 hS46 hE46 => ?_
            simp only [Env.push, List.cons_append, List.nil_append, List.append_nil]
            have z919 := ext_trans z914 y918
            have z920 := ext_trans z915 y918
            have z921 := ext_trans z916 y918
            have z922 := ext_trans y913 y918
            have z923 := ext_trans z917 y918
            refine den_grow fun W924 y924 => ?_
            have z925 := ext_trans z919 y924
            have z926 := ext_trans z920 y924
            have z927 := ext_trans z921 y924
            have z928 := ext_trans z922 y924
            have z929 := ext_trans z923 y924
            refine den_newfe (n := 15) (by kernel_rfl) (tbx (hS42.ext z926) (hE42.ext z926) (hS46.ext y924) (hE46.ext y924) (hS45.ext z928) (hE45.ext z928) (h128.ext z925) (h131.ext z927)) rfl fun A47 W930 y930 hS47 hE47 => ?_
            simp only [Env.push, List.cons_append, List.nil_append, List.append_nil]
            have z931 := ext_trans z929 y930
            refine den_grow fun W932 y932 => ?_
            have z933 := ext_trans z931 y932
            exact l_lnames_22 (hG.ext z933) (hT.ext z933) (h99.ext z933) (hS47.ext y932) (hE47.ext y932)
set_option maxRecDepth 100000 in
theorem l_lnames_88 {n0 : Nat} {I9 I10 I11 I12 I13 I14 I15 I16 I17 I18 I19 I20 I21 I22 I23 I24 I25 I26 I27 I28 I29 I30 I31 I32 I33 I34 I35 I36 I37 I38 I39 I40 I41 I42 I43 I44 I45 I46 I47 I48 I49 I50 I51 I52 I53 I54 I55 I56 I57 I58 I59 I60 I61 I62 I63 I64 I65 I66 I67 I68 I72 I73 I74 I75 I76 I77 I78 I79 I80 I81 I82 I83 I90 I91 I92 I93 I94 I95 I99 I100 I101 I106 I107 I108 I109 I110 I111 : Int} {N6 N7 N8 N9 N10 N11 N12 N13 N14 N15 N16 N17 N18 N19 N20 N21 N22 N23 N24 N25 N26 N27 N28 N29 N30 N31 N32 N33 N34 N35 N36 N37 N38 N39 N40 N41 N42 N43 N44 N45 N48 N49 N50 N51 N52 N53 N54 N55 N60 N61 N62 N63 N66 N67 N70 N71 N72 N73 : Nat} {T6 T7 T8 T9 T10 T11 T12 T13 T14 T15 T16 T17 T18 T19 T20 T21 T22 T23 T24 T25 T26 T27 T28 T29 T30 T31 T32 T33 T34 T35 T36 T37 T38 T39 T40 T41 T42 T43 T44 T45 T48 T49 T50 T51 T52 T53 T54 T55 T60 T61 T62 T63 T71 T72 T76 T77 T78 T79 : ByteArray} {A3 A4 A5 A6 A7 A8 A9 A10 A11 A12 A13 A14 A15 A16 A17 A18 A19 A20 A21 A22 A24 A25 A26 A27 A30 A31 A33 A35 A36 : Option Addr} {M0 M1 M2 M3 M4 M5 M6 M7 M8 M9 M10 M11 M12 M13 M14 M15 M16 M17 M18 M19 M20 M21 M22 M23 M24 : Nat} {W : Wd} (hG : Glob W) (hT : Vs.Tabs W) (h99 : ExI W (Px.parse ((List.replicate 15 [45]).flatten ++ [97])).1 [.int .u8 I99, .int .u8 I100, .int .i64 I101, .string T71, .string T72, .slice A33 N66 N67]) :
    t_lnames_88.den Tryz.prog n0 (Ret fun u x => u = Value.bool true) [] { I := [2, 0, 0, 2, 0, 0, 2, 0, 0, I9, I10, I11, I12, I13, I14, I15, I16, I17, I18, I19, I20, I21, I22, I23, I24, I25, I26, I27, I28, I29, I30, I31, I32, I33, I34, I35, I36, I37, I38, I39, I40, I41, I42, I43, I44, I45, I46, I47, I48, I49, I50, I51, I52, I53, I54, I55, I56, I57, I58, I59, I60, I61, I62, I63, I64, I65, I66, I67, I68, 1, 1, 5, I72, I73, I74, I75, I76, I77, I78, I79, I80, I81, I82, I83, 1, 3, 0, 1, 1, 9223372036854775807, I90, I91, I92, I93, I94, I95, 2, 0, 0, I99, I100, I101, 0, 1, 3, 0, I106, I107, I108, I109, I110, I111, 40, 1, 1, (-1), 2, 0, 0, 2, 0, 0, 2, 0, 0, 2, 0, 0], N := [0, 0, 0, 0, 0, 0, N6, N7, N8, N9, N10, N11, N12, N13, N14, N15, N16, N17, N18, N19, N20, N21, N22, N23, N24, N25, N26, N27, N28, N29, N30, N31, N32, N33, N34, N35, N36, N37, N38, N39, N40, N41, N42, N43, N44, N45, 0, 0, N48, N49, N50, N51, N52, N53, N54, N55, 0, 0, 0, 0, N60, N61, N62, N63, 0, 0, N66, N67, 0, 0, N70, N71, N72, N73, 0, 0, 0, 0, 0, 0, 0, 0, 0, 0], B := [true, true, true, true, true, true, true, true, true, true, true, true, true, true, true, true, true, true, true, true, true, true, true, true, true, true, true, true, true, true, true, true, true, true, true, true, true, true, true, true, true, true, true], T := [⟨([] : Lx.Bs).toArray⟩, ⟨([97] : Lx.Bs).toArray⟩, ⟨([] : Lx.Bs).toArray⟩, ⟨([98] : Lx.Bs).toArray⟩, ⟨([] : Lx.Bs).toArray⟩, ⟨([99] : Lx.Bs).toArray⟩, T6, T7, T8, T9, T10, T11, T12, T13, T14, T15, T16, T17, T18, T19, T20, T21, T22, T23, T24, T25, T26, T27, T28, T29, T30, T31, T32, T33, T34, T35, T36, T37, T38, T39, T40, T41, T42, T43, T44, T45, ⟨([] : Lx.Bs).toArray⟩, ⟨([] : Lx.Bs).toArray⟩, T48, T49, T50, T51, T52, T53, T54, T55, ⟨([105, 116, 32] : Lx.Bs).toArray⟩, ⟨([] : Lx.Bs).toArray⟩, ⟨([] : Lx.Bs).toArray⟩, ⟨([] : Lx.Bs).toArray⟩, T60, T61, T62, T63, ⟨([] : Lx.Bs).toArray⟩, ⟨([110, 111, 95, 49] : Lx.Bs).toArray⟩, ⟨(List.replicate 15 [45]).flatten.toArray⟩, ⟨(List.replicate 101 [32]).flatten.toArray⟩, ⟨(List.replicate 48 [40]).flatten.toArray⟩, ⟨(List.replicate 48 [41]).flatten.toArray⟩, ⟨(List.replicate 51 [97, 43]).flatten.toArray⟩, T71, T72, ⟨(List.replicate 40 [120]).flatten.toArray⟩, ⟨((List.replicate 40 [120]).flatten : Lx.Bs).toArray⟩, ⟨([] : Lx.Bs).toArray⟩, T76, T77, T78, T79, ⟨(Px.show' (Px.op2 8 (Px.op2 8 (.mk 1 3 0 (List.replicate 40 [120]).flatten [] []) (.mk 1 3 0 (List.replicate 40 [120]).flatten [] [])) (.mk 1 3 0 (List.replicate 40 [120]).flatten [] []))).1.toArray⟩, ⟨([] : Lx.Bs).toArray⟩, ⟨([] : Lx.Bs).toArray⟩, ⟨([] : Lx.Bs).toArray⟩, ⟨([121, 101, 115] : Lx.Bs).toArray⟩, ⟨([] : Lx.Bs).toArray⟩, ⟨([108, 101, 110] : Lx.Bs).toArray⟩, ⟨([] : Lx.Bs).toArray⟩, ⟨([] : Lx.Bs).toArray⟩, ⟨([] : Lx.Bs).toArray⟩, ⟨([65] : Lx.Bs).toArray⟩], A := [none, none, none, A3, A4, A5, A6, A7, A8, A9, A10, A11, A12, A13, A14, A15, A16, A17, A18, A19, A20, A21, A22, none, A24, A25, A26, A27, none, none, A30, A31, none, A33, none, A35, A36, none, none, none, none, none], M := [M0, M1, M2, M3, M4, M5, M6, M7, M8, M9, M10, M11, M12, M13, M14, M15, M16, M17, M18, M19, M20, M21, M22, M23, M24] } W := by
  refine den_grow fun W934 y934 => ?_
  refine den_newfe (l := [(.mk 2 0 0 [] [97] []), (.mk 2 0 0 [] [98] [])]) (n := 2) (by kernel_rfl) (exs_cons (ExAt.leaf _ _ 2 0 0 [] [97]) (exs_cons (ExAt.leaf _ _ 2 0 0 [] [98]) (exs_nil _ _))) rfl fun A42 W935 y935 hS42 hE42 => ?_
  simp only [Env.push, List.cons_append, List.nil_append, List.append_nil]
  have z936 := ext_trans y934 y935
  refine den_both ?_ ?_
  · refine den_grow fun W937 y937 => ?_
    have z938 := ext_trans z936 y937
    refine den_newfe (l := [(.mk 2 0 0 [] [97] [])]) (n := 1) (by kernel_rfl) (exs_cons (ExAt.leaf _ _ 2 0 0 [] [97]) (exs_nil _ _)) rfl fun A43 W939 y939 hS43 hE43 => ?_
    simp only [Env.push, List.cons_append, List.nil_append, List.append_nil]
    have z940 := ext_trans z938 y939
    have z941 := ext_trans y937 y939
    refine den_both ?_ ?_
    · refine den_grow fun W942 y942 => ?_
      have z943 := ext_trans z940 y942
      have z944 := ext_trans z941 y942
      refine den_newfe (l := [(.mk 2 0 0 [] [97] [])]) (n := 1) (by kernel_rfl) (exs_cons (ExAt.leaf _ _ 2 0 0 [] [97]) (exs_nil _ _)) rfl fun A44 W945 y945 hS44 hE44 => ?_
      simp only [Env.push, List.cons_append, List.nil_append, List.append_nil]
      have z946 := ext_trans z943 y945
      have z947 := ext_trans y942 y945
      have z948 := ext_trans z944 y945
      refine den_grow fun W949 y949 => ?_
      have z950 := ext_trans z946 y949
      have z951 := ext_trans z947 y949
      have z952 := ext_trans z948 y949
      have hmk := op1_i 3 (Px.parse ((List.replicate 15 [45]).flatten ++ [97])).1 [.int .u8 I99, .int .u8 I100, .int .i64 I101, .string T71, .string T72, .slice A33 N66 N67] W949 (h99.ext z950)
      refine den_call_i (fun _ _ => hmk) fun v w' _ ⟨I128, I129, I130, T91, T92, A45, N84, N85, hv, hJ⟩ => ⟨I128, I129, I130, N84, N85, T91, T92, A45, hv, fun W953 e2 y953 n2 => ?_⟩
      clear hmk
      have h128 := ExJ.i hJ e2 y953 n2
      clear hv hJ e2 n2
      simp only [Env.push, List.cons_append, List.nil_append, List.append_nil]
      have z954 := ext_trans z950 y953
      have z955 := ext_trans z951 y953
      have z956 := ext_trans z952 y953
      have z957 := ext_trans y949 y953
      refine den_grow fun W958 y958 => ?_
      have z959 := ext_trans z955 y958
      have z960 := ext_trans z957 y958
      have z961 := ext_trans z954 y958
      have z962 := ext_trans z956 y958
      have hmk := op1_i 4 (.mk 0 0 0 [] [] []) [.int .u8 0, .int .u8 0, .int .i64 0, .string ⟨([] : Lx.Bs).toArray⟩, .string ⟨([] : Lx.Bs).toArray⟩, .slice none 0 0] W958 (ExAt.leaf _ _ 0 0 0 [] [])
      refine den_call_i (fun _ _ => hmk) fun v w' _ ⟨I131, I132, I133, T93, T94, A46, N86, N87, hv, hJ⟩ => ⟨I131, I132, I133, N86, N87, T93, T94, A46, hv, fun W963 e2 y963 n2 => ?_⟩
      clear hmk
      have h131 := ExJ.i hJ e2 y963 n2
      clear hv hJ e2 n2
      simp only [Env.push, List.cons_append, List.nil_append, List.append_nil]
      have z964 := ext_trans z959 y963
      have z965 := ext_trans z960 y963
      have z966 := ext_trans z961 y963
      have z967 := ext_trans z962 y963
      have z968 := ext_trans y958 y963
      refine den_grow fun W969 y969 => ?_
      have z970 := ext_trans z964 y969
      have z971 := ext_trans z965 y969
      have z972 := ext_trans z966 y969
      have z973 := ext_trans z967 y969
      have z974 := ext_trans z968 y969
      refine den_newfe (n := 15) (by kernel_rfl) (tbx (hS43.ext z970) (hE43.ext z970) (hS42.ext z973) (hE42.ext z973) (hS44.ext z971) (hE44.ext z971) (h128.ext z974) (h131.ext y969)) rfl fun A47 W975 y975 hS47 hE47 => ?_
      simp only [Env.push, List.cons_append, List.nil_append, List.append_nil]
      have z976 := ext_trans z972 y975
      refine den_grow fun W977 y977 => ?_
      have z978 := ext_trans z976 y977
      exact l_lnames_22 (hG.ext z978) (hT.ext z978) (h99.ext z978) (hS47.ext y977) (hE47.ext y977)
    · refine den_grow fun W979 y979 => ?_
      have z980 := ext_trans z940 y979
      have z981 := ext_trans z941 y979
      have hmk := op1_i 3 (Px.parse ((List.replicate 15 [45]).flatten ++ [97])).1 [.int .u8 I99, .int .u8 I100, .int .i64 I101, .string T71, .string T72, .slice A33 N66 N67] W979 (h99.ext z980)
      refine den_call_i (fun _ _ => hmk) fun v w' _ ⟨I128, I129, I130, T91, T92, A44, N84, N85, hv, hJ⟩ => ⟨I128, I129, I130, N84, N85, T91, T92, A44, hv, fun W982 e2 y982 n2 => ?_⟩
      clear hmk
      have h128 := ExJ.i hJ e2 y982 n2
      clear hv hJ e2 n2
      simp only [Env.push, List.cons_append, List.nil_append, List.append_nil]
      have z983 := ext_trans z980 y982
      have z984 := ext_trans y979 y982
      have z985 := ext_trans z981 y982
      refine den_both ?_ ?_
      · refine den_grow fun W986 y986 => ?_
        have z987 := ext_trans z983 y986
        have z988 := ext_trans z984 y986
        have z989 := ext_trans z985 y986
        refine den_newfe (l := [(.mk 2 0 0 [] [97] [])]) (n := 1) (by kernel_rfl) (exs_cons (ExAt.leaf _ _ 2 0 0 [] [97]) (exs_nil _ _)) rfl fun A45 W990 y990 hS45 hE45 => ?_
        simp only [Env.push, List.cons_append, List.nil_append, List.append_nil]
        have z991 := ext_trans z987 y990
        have z992 := ext_trans z988 y990
        have z993 := ext_trans z989 y990
        have z994 := ext_trans y986 y990
        refine den_grow fun W995 y995 => ?_
        have z996 := ext_trans z992 y995
        have z997 := ext_trans z994 y995
        have z998 := ext_trans z991 y995
        have z999 := ext_trans z993 y995
        have hmk := op1_i 4 (.mk 0 0 0 [] [] []) [.int .u8 0, .int .u8 0, .int .i64 0, .string ⟨([] : Lx.Bs).toArray⟩, .string ⟨([] : Lx.Bs).toArray⟩, .slice none 0 0] W995 (ExAt.leaf _ _ 0 0 0 [] [])
        refine den_call_i (fun _ _ => hmk) fun v w' _ ⟨I131, I132, I133, T93, T94, A46, N86, N87, hv, hJ⟩ => ⟨I131, I132, I133, N86, N87, T93, T94, A46, hv, fun W1000 e2 y1000 n2 => ?_⟩
        clear hmk
        have h131 := ExJ.i hJ e2 y1000 n2
        clear hv hJ e2 n2
        simp only [Env.push, List.cons_append, List.nil_append, List.append_nil]
        have z1001 := ext_trans y995 y1000
        have z1002 := ext_trans z996 y1000
        have z1003 := ext_trans z997 y1000
        have z1004 := ext_trans z998 y1000
        have z1005 := ext_trans z999 y1000
        refine den_grow fun W1006 y1006 => ?_
        have z1007 := ext_trans z1001 y1006
        have z1008 := ext_trans z1002 y1006
        have z1009 := ext_trans z1003 y1006
        have z1010 := ext_trans z1004 y1006
        have z1011 := ext_trans z1005 y1006
        refine den_newfe (n := 15) (by kernel_rfl) (tbx (hS43.ext z1008) (hE43.ext z1008) (hS42.ext z1011) (hE42.ext z1011) (hS45.ext z1007) (hE45.ext z1007) (h128.ext z1009) (h131.ext y1006)) rfl fun A47 W1012 y1012 hS47 hE47 => ?_
        simp only [Env.push, List.cons_append, List.nil_append, List.append_nil]
        have z1013 := ext_trans z1010 y1012
        refine den_grow fun W1014 y1014 => ?_
        have z1015 := ext_trans z1013 y1014
        exact l_lnames_22 (hG.ext z1015) (hT.ext z1015) (h99.ext z1015) (hS47.ext y1014) (hE47.ext y1014)
      · refine den_grow fun W1016 y1016 => ?_
        have z1017 := ext_trans z983 y1016
        have z1018 := ext_trans z984 y1016
        have z1019 := ext_trans z985 y1016
        have hmk := op1_i 4 (.mk 0 0 0 [] [] []) [.int .u8 0, .int .u8 0, .int .i64 0, .string ⟨([] : Lx.Bs).toArray⟩, .string ⟨([] : Lx.Bs).toArray⟩, .slice none 0 0] W1016 (ExAt.leaf _ _ 0 0 0 [] [])
        refine den_call_i (fun _ _ => hmk) fun v w' _ ⟨I131, I132, I133, T93, T94, A45, N86, N87, hv, hJ⟩ => ⟨I131, I132, I133, N86, N87, T93, T94, A45, hv, fun W1020 e2 y1020 n2 => ?_⟩
        clear hmk
        have h131 := ExJ.i hJ e2 y1020 n2
        clear hv hJ e2 n2
        simp only [Env.push, List.cons_append, List.nil_append, List.append_nil]
        have z1021 := ext_trans z1017 y1020
        have z1022 := ext_trans z1018 y1020
        have z1023 := ext_trans z1019 y1020
        have z1024 := ext_trans y1016 y1020
        refine den_grow fun W1025 y1025 => ?_
        have z1026 := ext_trans z1022 y1025
        have z1027 := ext_trans z1024 y1025
        have z1028 := ext_trans z1021 y1025
        have z1029 := ext_trans z1023 y1025
        refine den_newfe (l := [(.mk 2 0 0 [] [97] [])]) (n := 1) (by kernel_rfl) (exs_cons (ExAt.leaf _ _ 2 0 0 [] [97]) (exs_nil _ _)) rfl fun A46 W1030 y1030 hS46 hE46 => ?_
        simp only [Env.push, List.cons_append, List.nil_append, List.append_nil]
        have z1031 := ext_trans z1026 y1030
        have z1032 := ext_trans z1027 y1030
        have z1033 := ext_trans y1025 y1030
        have z1034 := ext_trans z1028 y1030
        have z1035 := ext_trans z1029 y1030
        refine den_grow fun W1036 y1036 => ?_
        have z1037 := ext_trans z1031 y1036
        have z1038 := ext_trans z1032 y1036
        have z1039 := ext_trans z1033 y1036
        have z1040 := ext_trans z1034 y1036
        have z1041 := ext_trans z1035 y1036
        refine den_newfe (n := 15) (by kernel_rfl) (tbx (hS43.ext z1037) (hE43.ext z1037) (hS42.ext z1041) (hE42.ext z1041) (hS46.ext y1036) (hE46.ext y1036) (h128.ext z1038) (h131.ext z1039)) rfl fun A47 W1042 y1042 hS47 hE47 => ?_
        simp only [Env.push, List.cons_append, List.nil_append, List.append_nil]
        have z1043 := ext_trans z1040 y1042
        refine den_grow fun W1044 y1044 => ?_
        have z1045 := ext_trans z1043 y1044
        exact l_lnames_22 (hG.ext z1045) (hT.ext z1045) (h99.ext z1045) (hS47.ext y1044) (hE47.ext y1044)
  · refine den_both ?_ ?_
    · refine den_grow fun W1046 y1046 => ?_
      have z1047 := ext_trans z936 y1046
      refine den_newfe (l := [(.mk 2 0 0 [] [97] [])]) (n := 1) (by kernel_rfl) (exs_cons (ExAt.leaf _ _ 2 0 0 [] [97]) (exs_nil _ _)) rfl fun A43 W1048 y1048 hS43 hE43 => ?_
      simp only [Env.push, List.cons_append, List.nil_append, List.append_nil]
      have z1049 := ext_trans z1047 y1048
      have z1050 := ext_trans y1046 y1048
      refine den_both ?_ ?_
      · refine den_grow fun W1051 y1051 => ?_
        have z1052 := ext_trans z1049 y1051
        have z1053 := ext_trans z1050 y1051
        refine den_newfe (l := [(.mk 2 0 0 [] [97] [])]) (n := 1) (by kernel_rfl) (exs_cons (ExAt.leaf _ _ 2 0 0 [] [97]) (exs_nil _ _)) rfl fun A44 W1054 y1054 hS44 hE44 => ?_
        simp only [Env.push, List.cons_append, List.nil_append, List.append_nil]
        have z1055 := ext_trans z1052 y1054
        have z1056 := ext_trans y1051 y1054
        have z1057 := ext_trans z1053 y1054
        refine den_grow fun W1058 y1058 => ?_
        have z1059 := ext_trans z1055 y1058
        have z1060 := ext_trans z1056 y1058
        have z1061 := ext_trans z1057 y1058
        have hmk := op1_i 3 (Px.parse ((List.replicate 15 [45]).flatten ++ [97])).1 [.int .u8 I99, .int .u8 I100, .int .i64 I101, .string T71, .string T72, .slice A33 N66 N67] W1058 (h99.ext z1059)
        refine den_call_i (fun _ _ => hmk) fun v w' _ ⟨I128, I129, I130, T91, T92, A45, N84, N85, hv, hJ⟩ => ⟨I128, I129, I130, N84, N85, T91, T92, A45, hv, fun W1062 e2 y1062 n2 => ?_⟩
        clear hmk
        have h128 := ExJ.i hJ e2 y1062 n2
        clear hv hJ e2 n2
        simp only [Env.push, List.cons_append, List.nil_append, List.append_nil]
        have z1063 := ext_trans z1059 y1062
        have z1064 := ext_trans z1060 y1062
        have z1065 := ext_trans y1058 y1062
        have z1066 := ext_trans z1061 y1062
        refine den_grow fun W1067 y1067 => ?_
        have z1068 := ext_trans z1064 y1067
        have z1069 := ext_trans z1063 y1067
        have z1070 := ext_trans z1065 y1067
        have z1071 := ext_trans z1066 y1067
        have hmk := op1_i 4 (.mk 0 0 0 [] [] []) [.int .u8 0, .int .u8 0, .int .i64 0, .string ⟨([] : Lx.Bs).toArray⟩, .string ⟨([] : Lx.Bs).toArray⟩, .slice none 0 0] W1067 (ExAt.leaf _ _ 0 0 0 [] [])
        refine den_call_i (fun _ _ => hmk) fun v w' _ ⟨I131, I132, I133, T93, T94, A46, N86, N87, hv, hJ⟩ => ⟨I131, I132, I133, N86, N87, T93, T94, A46, hv, fun W1072 e2 y1072 n2 => ?_⟩
        clear hmk
        have h131 := ExJ.i hJ e2 y1072 n2
        clear hv hJ e2 n2
        simp only [Env.push, List.cons_append, List.nil_append, List.append_nil]
        have z1073 := ext_trans y1067 y1072
        have z1074 := ext_trans z1068 y1072
        have z1075 := ext_trans z1069 y1072
        have z1076 := ext_trans z1070 y1072
        have z1077 := ext_trans z1071 y1072
        refine den_grow fun W1078 y1078 => ?_
        have z1079 := ext_trans z1073 y1078
        have z1080 := ext_trans z1074 y1078
        have z1081 := ext_trans z1075 y1078
        have z1082 := ext_trans z1076 y1078
        have z1083 := ext_trans z1077 y1078
        refine den_newfe (n := 15) (by kernel_rfl) (tbx (hS44.ext z1082) (hE44.ext z1082) (hS42.ext z1083) (hE42.ext z1083) (hS43.ext z1080) (hE43.ext z1080) (h128.ext z1079) (h131.ext y1078)) rfl fun A47 W1084 y1084 hS47 hE47 => ?_
        simp only [Env.push, List.cons_append, List.nil_append, List.append_nil]
        have z1085 := ext_trans z1081 y1084
        refine den_grow fun W1086 y1086 => ?_
        have z1087 := ext_trans z1085 y1086
        exact l_lnames_22 (hG.ext z1087) (hT.ext z1087) (h99.ext z1087) (hS47.ext y1086) (hE47.ext y1086)
      · refine den_grow fun W1088 y1088 => ?_
        have z1089 := ext_trans z1049 y1088
        have z1090 := ext_trans z1050 y1088
        have hmk := op1_i 3 (Px.parse ((List.replicate 15 [45]).flatten ++ [97])).1 [.int .u8 I99, .int .u8 I100, .int .i64 I101, .string T71, .string T72, .slice A33 N66 N67] W1088 (h99.ext z1089)
        refine den_call_i (fun _ _ => hmk) fun v w' _ ⟨I128, I129, I130, T91, T92, A44, N84, N85, hv, hJ⟩ => ⟨I128, I129, I130, N84, N85, T91, T92, A44, hv, fun W1091 e2 y1091 n2 => ?_⟩
        clear hmk
        have h128 := ExJ.i hJ e2 y1091 n2
        clear hv hJ e2 n2
        simp only [Env.push, List.cons_append, List.nil_append, List.append_nil]
        have z1092 := ext_trans z1089 y1091
        have z1093 := ext_trans y1088 y1091
        have z1094 := ext_trans z1090 y1091
        refine den_both ?_ ?_
        · refine den_grow fun W1095 y1095 => ?_
          have z1096 := ext_trans z1092 y1095
          have z1097 := ext_trans z1093 y1095
          have z1098 := ext_trans z1094 y1095
          refine den_newfe (l := [(.mk 2 0 0 [] [97] [])]) (n := 1) (by kernel_rfl) (exs_cons (ExAt.leaf _ _ 2 0 0 [] [97]) (exs_nil _ _)) rfl fun A45 W1099 y1099 hS45 hE45 => ?_
          simp only [Env.push, List.cons_append, List.nil_append, List.append_nil]
          have z1100 := ext_trans z1096 y1099
          have z1101 := ext_trans z1097 y1099
          have z1102 := ext_trans y1095 y1099
          have z1103 := ext_trans z1098 y1099
          refine den_grow fun W1104 y1104 => ?_
          have z1105 := ext_trans z1102 y1104
          have z1106 := ext_trans z1101 y1104
          have z1107 := ext_trans z1100 y1104
          have z1108 := ext_trans z1103 y1104
          have hmk := op1_i 4 (.mk 0 0 0 [] [] []) [.int .u8 0, .int .u8 0, .int .i64 0, .string ⟨([] : Lx.Bs).toArray⟩, .string ⟨([] : Lx.Bs).toArray⟩, .slice none 0 0] W1104 (ExAt.leaf _ _ 0 0 0 [] [])
          refine den_call_i (fun _ _ => hmk) fun v w' _ ⟨I131, I132, I133, T93, T94, A46, N86, N87, hv, hJ⟩ => ⟨I131, I132, I133, N86, N87, T93, T94, A46, hv, fun W1109 e2 y1109 n2 => ?_⟩
          clear hmk
          have h131 := ExJ.i hJ e2 y1109 n2
          clear hv hJ e2 n2
          simp only [Env.push, List.cons_append, List.nil_append, List.append_nil]
          have z1110 := ext_trans z1105 y1109
          have z1111 := ext_trans z1106 y1109
          have z1112 := ext_trans y1104 y1109
          have z1113 := ext_trans z1107 y1109
          have z1114 := ext_trans z1108 y1109
          refine den_grow fun W1115 y1115 => ?_
          have z1116 := ext_trans z1110 y1115
          have z1117 := ext_trans z1111 y1115
          have z1118 := ext_trans z1112 y1115
          have z1119 := ext_trans z1113 y1115
          have z1120 := ext_trans z1114 y1115
          refine den_newfe (n := 15) (by kernel_rfl) (tbx (hS45.ext z1118) (hE45.ext z1118) (hS42.ext z1120) (hE42.ext z1120) (hS43.ext z1117) (hE43.ext z1117) (h128.ext z1116) (h131.ext y1115)) rfl fun A47 W1121 y1121 hS47 hE47 => ?_
          simp only [Env.push, List.cons_append, List.nil_append, List.append_nil]
          have z1122 := ext_trans z1119 y1121
          refine den_grow fun W1123 y1123 => ?_
          have z1124 := ext_trans z1122 y1123
          exact l_lnames_22 (hG.ext z1124) (hT.ext z1124) (h99.ext z1124) (hS47.ext y1123) (hE47.ext y1123)
        · refine den_grow fun W1125 y1125 => ?_
          have z1126 := ext_trans z1092 y1125
          have z1127 := ext_trans z1093 y1125
          have z1128 := ext_trans z1094 y1125
          have hmk := op1_i 4 (.mk 0 0 0 [] [] []) [.int .u8 0, .int .u8 0, .int .i64 0, .string ⟨([] : Lx.Bs).toArray⟩, .string ⟨([] : Lx.Bs).toArray⟩, .slice none 0 0] W1125 (ExAt.leaf _ _ 0 0 0 [] [])
          refine den_call_i (fun _ _ => hmk) fun v w' _ ⟨I131, I132, I133, T93, T94, A45, N86, N87, hv, hJ⟩ => ⟨I131, I132, I133, N86, N87, T93, T94, A45, hv, fun W1129 e2 y1129 n2 => ?_⟩
          clear hmk
          have h131 := ExJ.i hJ e2 y1129 n2
          clear hv hJ e2 n2
          simp only [Env.push, List.cons_append, List.nil_append, List.append_nil]
          have z1130 := ext_trans z1126 y1129
          have z1131 := ext_trans z1127 y1129
          have z1132 := ext_trans y1125 y1129
          have z1133 := ext_trans z1128 y1129
          refine den_grow fun W1134 y1134 => ?_
          have z1135 := ext_trans z1132 y1134
          have z1136 := ext_trans z1130 y1134
          have z1137 := ext_trans z1131 y1134
          have z1138 := ext_trans z1133 y1134
          refine den_newfe (l := [(.mk 2 0 0 [] [97] [])]) (n := 1) (by kernel_rfl) (exs_cons (ExAt.leaf _ _ 2 0 0 [] [97]) (exs_nil _ _)) rfl fun A46 W1139 y1139 hS46 hE46 => ?_
          simp only [Env.push, List.cons_append, List.nil_append, List.append_nil]
          have z1140 := ext_trans z1135 y1139
          have z1141 := ext_trans z1136 y1139
          have z1142 := ext_trans z1137 y1139
          have z1143 := ext_trans y1134 y1139
          have z1144 := ext_trans z1138 y1139
          refine den_grow fun W1145 y1145 => ?_
          have z1146 := ext_trans z1140 y1145
          have z1147 := ext_trans z1141 y1145
          have z1148 := ext_trans z1142 y1145
          have z1149 := ext_trans z1143 y1145
          have z1150 := ext_trans z1144 y1145
          refine den_newfe (n := 15) (by kernel_rfl) (tbx (hS46.ext y1145) (hE46.ext y1145) (hS42.ext z1150) (hE42.ext z1150) (hS43.ext z1148) (hE43.ext z1148) (h128.ext z1146) (h131.ext z1149)) rfl fun A47 W1151 y1151 hS47 hE47 => ?_
          simp only [Env.push, List.cons_append, List.nil_append, List.append_nil]
          have z1152 := ext_trans z1147 y1151
          refine den_grow fun W1153 y1153 => ?_
          have z1154 := ext_trans z1152 y1153
          exact l_lnames_22 (hG.ext z1154) (hT.ext z1154) (h99.ext z1154) (hS47.ext y1153) (hE47.ext y1153)
    · refine den_grow fun W1155 y1155 => ?_
      have z1156 := ext_trans z936 y1155
      have hmk := op1_i 3 (Px.parse ((List.replicate 15 [45]).flatten ++ [97])).1 [.int .u8 I99, .int .u8 I100, .int .i64 I101, .string T71, .string T72, .slice A33 N66 N67] W1155 (h99.ext z1156)
      refine den_call_i (fun _ _ => hmk) fun v w' _ ⟨I128, I129, I130, T91, T92, A43, N84, N85, hv, hJ⟩ => ⟨I128, I129, I130, N84, N85, T91, T92, A43, hv, fun W1157 e2 y1157 n2 => ?_⟩
      clear hmk
      have h128 := ExJ.i hJ e2 y1157 n2
      clear hv hJ e2 n2
      simp only [Env.push, List.cons_append, List.nil_append, List.append_nil]
      have z1158 := ext_trans z1156 y1157
      have z1159 := ext_trans y1155 y1157
      refine den_both ?_ ?_
      · refine den_grow fun W1160 y1160 => ?_
        have z1161 := ext_trans z1158 y1160
        have z1162 := ext_trans z1159 y1160
        refine den_newfe (l := [(.mk 2 0 0 [] [97] [])]) (n := 1) (by kernel_rfl) (exs_cons (ExAt.leaf _ _ 2 0 0 [] [97]) (exs_nil _ _)) rfl fun A44 W1163 y1163 hS44 hE44 => ?_
        simp only [Env.push, List.cons_append, List.nil_append, List.append_nil]
        have z1164 := ext_trans y1160 y1163
        have z1165 := ext_trans z1161 y1163
        have z1166 := ext_trans z1162 y1163
        refine den_both ?_ ?_
        · refine den_grow fun W1167 y1167 => ?_
          have z1168 := ext_trans z1164 y1167
          have z1169 := ext_trans z1165 y1167
          have z1170 := ext_trans z1166 y1167
          refine den_newfe (l := [(.mk 2 0 0 [] [97] [])]) (n := 1) (by kernel_rfl) (exs_cons (ExAt.leaf _ _ 2 0 0 [] [97]) (exs_nil _ _)) rfl fun A45 W1171 y1171 hS45 hE45 => ?_
          simp only [Env.push, List.cons_append, List.nil_append, List.append_nil]
          have z1172 := ext_trans z1168 y1171
          have z1173 := ext_trans y1167 y1171
          have z1174 := ext_trans z1169 y1171
          have z1175 := ext_trans z1170 y1171
          refine den_grow fun W1176 y1176 => ?_
          have z1177 := ext_trans z1172 y1176
          have z1178 := ext_trans z1173 y1176
          have z1179 := ext_trans z1174 y1176
          have z1180 := ext_trans z1175 y1176
          have hmk := op1_i 4 (.mk 0 0 0 [] [] []) [.int .u8 0, .int .u8 0, .int .i64 0, .string ⟨([] : Lx.Bs).toArray⟩, .string ⟨([] : Lx.Bs).toArray⟩, .slice none 0 0] W1176 (ExAt.leaf _ _ 0 0 0 [] [])
          refine den_call_i (fun _ _ => hmk) fun v w' _ ⟨I131, I132, I133, T93, T94, A46, N86, N87, hv, hJ⟩ => ⟨I131, I132, I133, N86, N87, T93, T94, A46, hv, fun W1181 e2 y1181 n2 => ?_⟩
          clear hmk
          have h131 := ExJ.i hJ e2 y1181 n2
          clear hv hJ e2 n2
          simp only [Env.push, List.cons_append, List.nil_append, List.append_nil]
          have z1182 := ext_trans z1177 y1181
          have z1183 := ext_trans z1178 y1181
          have z1184 := ext_trans z1179 y1181
          have z1185 := ext_trans y1176 y1181
          have z1186 := ext_trans z1180 y1181
          refine den_grow fun W1187 y1187 => ?_
          have z1188 := ext_trans z1182 y1187
          have z1189 := ext_trans z1183 y1187
          have z1190 := ext_trans z1184 y1187
          have z1191 := ext_trans z1185 y1187
          have z1192 := ext_trans z1186 y1187
          refine den_newfe (n := 15) (by kernel_rfl) (tbx (hS44.ext z1189) (hE44.ext z1189) (hS42.ext z1192) (hE42.ext z1192) (hS45.ext z1191) (hE45.ext z1191) (h128.ext z1188) (h131.ext y1187)) rfl fun A47 W1193 y1193 hS47 hE47 => ?_
          simp only [Env.push, List.cons_append, List.nil_append, List.append_nil]
          have z1194 := ext_trans z1190 y1193
          refine den_grow fun W1195 y1195 => ?_
          have z1196 := ext_trans z1194 y1195
          exact l_lnames_22 (hG.ext z1196) (hT.ext z1196) (h99.ext z1196) (hS47.ext y1195) (hE47.ext y1195)
        · refine den_grow fun W1197 y1197 => ?_
          have z1198 := ext_trans z1164 y1197
          have z1199 := ext_trans z1165 y1197
          have z1200 := ext_trans z1166 y1197
          have hmk := op1_i 4 (.mk 0 0 0 [] [] []) [.int .u8 0, .int .u8 0, .int .i64 0, .string ⟨([] : Lx.Bs).toArray⟩, .string ⟨([] : Lx.Bs).toArray⟩, .slice none 0 0] W1197 (ExAt.leaf _ _ 0 0 0 [] [])
          refine den_call_i (fun _ _ => hmk) fun v w' _ ⟨I131, I132, I133, T93, T94, A45, N86, N87, hv, hJ⟩ => ⟨I131, I132, I133, N86, N87, T93, T94, A45, hv, fun W1201 e2 y1201 n2 => ?_⟩
          clear hmk
          have h131 := ExJ.i hJ e2 y1201 n2
          clear hv hJ e2 n2
          simp only [Env.push, List.cons_append, List.nil_append, List.append_nil]
          have z1202 := ext_trans z1198 y1201
          have z1203 := ext_trans y1197 y1201
          have z1204 := ext_trans z1199 y1201
          have z1205 := ext_trans z1200 y1201
          refine den_grow fun W1206 y1206 => ?_
          have z1207 := ext_trans z1202 y1206
          have z1208 := ext_trans z1203 y1206
          have z1209 := ext_trans z1204 y1206
          have z1210 := ext_trans z1205 y1206
          refine den_newfe (l := [(.mk 2 0 0 [] [97] [])]) (n := 1) (by kernel_rfl) (exs_cons (ExAt.leaf _ _ 2 0 0 [] [97]) (exs_nil _ _)) rfl fun A46 W1211 y1211 hS46 hE46 => ?_
          simp only [Env.push, List.cons_append, List.nil_append, List.append_nil]
          have z1212 := ext_trans z1207 y1211
          have z1213 := ext_trans y1206 y1211
          have z1214 := ext_trans z1208 y1211
          have z1215 := ext_trans z1209 y1211
          have z1216 := ext_trans z1210 y1211
          refine den_grow fun W1217 y1217 => ?_
          have z1218 := ext_trans z1212 y1217
          have z1219 := ext_trans z1213 y1217
          have z1220 := ext_trans z1214 y1217
          have z1221 := ext_trans z1215 y1217
          have z1222 := ext_trans z1216 y1217
          refine den_newfe (n := 15) (by kernel_rfl) (tbx (hS44.ext z1220) (hE44.ext z1220) (hS42.ext z1222) (hE42.ext z1222) (hS46.ext y1217) (hE46.ext y1217) (h128.ext z1218) (h131.ext z1219)) rfl fun A47 W1223 y1223 hS47 hE47 => ?_
          simp only [Env.push, List.cons_append, List.nil_append, List.append_nil]
          have z1224 := ext_trans z1221 y1223
          refine den_grow fun W1225 y1225 => ?_
          have z1226 := ext_trans z1224 y1225
          exact l_lnames_22 (hG.ext z1226) (hT.ext z1226) (h99.ext z1226) (hS47.ext y1225) (hE47.ext y1225)
      · refine den_both ?_ ?_
        · refine den_grow fun W1227 y1227 => ?_
          have z1228 := ext_trans z1158 y1227
          have z1229 := ext_trans z1159 y1227
          refine den_newfe (l := [(.mk 2 0 0 [] [97] [])]) (n := 1) (by kernel_rfl) (exs_cons (ExAt.leaf _ _ 2 0 0 [] [97]) (exs_nil _ _)) rfl fun A44 W1230 y1230 hS44 hE44 => ?_
          simp only [Env.push, List.cons_append, List.nil_append, List.append_nil]
          have z1231 := ext_trans y1227 y1230
          have z1232 := ext_trans z1228 y1230
          have z1233 := ext_trans z1229 y1230
          refine den_both ?_ ?_
          · refine den_grow fun W1234 y1234 => ?_
            have z1235 := ext_trans z1231 y1234
            have z1236 := ext_trans z1232 y1234
            have z1237 := ext_trans z1233 y1234
            refine den_newfe (l := [(.mk 2 0 0 [] [97] [])]) (n := 1) (by kernel_rfl) (exs_cons (ExAt.leaf _ _ 2 0 0 [] [97]) (exs_nil _ _)) rfl fun A45 W1238 y1238 hS45 hE45 => ?_
            simp only [Env.push, List.cons_append, List.nil_append, List.append_nil]
            have z1239 := ext_trans z1235 y1238
            have z1240 := ext_trans z1236 y1238
            have z1241 := ext_trans z1237 y1238
            have z1242 := ext_trans y1234 y1238
            refine den_grow fun W1243 y1243 => ?_
            have z1244 := ext_trans z1239 y1243
            have z1245 := ext_trans z1242 y1243
            have z1246 := ext_trans z1240 y1243
            have z1247 := ext_trans z1241 y1243
            have hmk := op1_i 4 (.mk 0 0 0 [] [] []) [.int .u8 0, .int .u8 0, .int .i64 0, .string ⟨([] : Lx.Bs).toArray⟩, .string ⟨([] : Lx.Bs).toArray⟩, .slice none 0 0] W1243 (ExAt.leaf _ _ 0 0 0 [] [])
            refine den_call_i (fun _ _ => hmk) fun v w' _ ⟨I131, I132, I133, T93, T94, A46, N86, N87, hv, hJ⟩ => ⟨I131, I132, I133, N86, N87, T93, T94, A46, hv, fun W1248 e2 y1248 n2 => ?_⟩
            clear hmk
            have h131 := ExJ.i hJ e2 y1248 n2
            clear hv hJ e2 n2
            simp only [Env.push, List.cons_append, List.nil_append, List.append_nil]
            have z1249 := ext_trans z1244 y1248
            have z1250 := ext_trans y1243 y1248
            have z1251 := ext_trans z1245 y1248
            have z1252 := ext_trans z1246 y1248
            have z1253 := ext_trans z1247 y1248
            refine den_grow fun W1254 y1254 => ?_
            have z1255 := ext_trans z1249 y1254
            have z1256 := ext_trans z1250 y1254
            have z1257 := ext_trans z1251 y1254
            have z1258 := ext_trans z1252 y1254
            have z1259 := ext_trans z1253 y1254
            refine den_newfe (n := 15) (by kernel_rfl) (tbx (hS45.ext z1256) (hE45.ext z1256) (hS42.ext z1259) (hE42.ext z1259) (hS44.ext z1257) (hE44.ext z1257) (h128.ext z1255) (h131.ext y1254)) rfl fun A47 W1260 y1260 hS47 hE47 => ?_
            simp only [Env.push, List.cons_append, List.nil_append, List.append_nil]
            have z1261 := ext_trans z1258 y1260
            refine den_grow fun W1262 y1262 => ?_
            have z1263 := ext_trans z1261 y1262
            exact l_lnames_22 (hG.ext z1263) (hT.ext z1263) (h99.ext z1263) (hS47.ext y1262) (hE47.ext y1262)
          · refine den_grow fun W1264 y1264 => ?_
            have z1265 := ext_trans z1231 y1264
            have z1266 := ext_trans z1232 y1264
            have z1267 := ext_trans z1233 y1264
            have hmk := op1_i 4 (.mk 0 0 0 [] [] []) [.int .u8 0, .int .u8 0, .int .i64 0, .string ⟨([] : Lx.Bs).toArray⟩, .string ⟨([] : Lx.Bs).toArray⟩, .slice none 0 0] W1264 (ExAt.leaf _ _ 0 0 0 [] [])
            refine den_call_i (fun _ _ => hmk) fun v w' _ ⟨I131, I132, I133, T93, T94, A45, N86, N87, hv, hJ⟩ => ⟨I131, I132, I133, N86, N87, T93, T94, A45, hv, fun W1268 e2 y1268 n2 => ?_⟩
            clear hmk
            have h131 := ExJ.i hJ e2 y1268 n2
            clear hv hJ e2 n2
            simp only [Env.push, List.cons_append, List.nil_append, List.append_nil]
            have z1269 := ext_trans z1265 y1268
            have z1270 := ext_trans z1266 y1268
            have z1271 := ext_trans z1267 y1268
            have z1272 := ext_trans y1264 y1268
            refine den_grow fun W1273 y1273 => ?_
            have z1274 := ext_trans z1269 y1273
            have z1275 := ext_trans z1271 y1273
            have z1276 := ext_trans z1272 y1273
            have z1277 := ext_trans z1270 y1273
            refine den_newfe (l := [(.mk 2 0 0 [] [97] [])]) (n := 1) (by kernel_rfl) (exs_cons (ExAt.leaf _ _ 2 0 0 [] [97]) (exs_nil _ _)) rfl fun A46 W1278 y1278 hS46 hE46 => ?_
            simp only [Env.push, List.cons_append, List.nil_append, List.append_nil]
            have z1279 := ext_trans z1274 y1278
            have z1280 := ext_trans z1275 y1278
            have z1281 := ext_trans z1276 y1278
            have z1282 := ext_trans z1277 y1278
            have z1283 := ext_trans y1273 y1278
            refine den_grow fun W1284 y1284 => ?_
            have z1285 := ext_trans z1279 y1284
            have z1286 := ext_trans z1280 y1284
            have z1287 := ext_trans z1281 y1284
            have z1288 := ext_trans z1282 y1284
            have z1289 := ext_trans z1283 y1284
            refine den_newfe (n := 15) (by kernel_rfl) (tbx (hS46.ext y1284) (hE46.ext y1284) (hS42.ext z1286) (hE42.ext z1286) (hS44.ext z1287) (hE44.ext z1287) (h128.ext z1285) (h131.ext z1289)) rfl fun A47 W1290 y1290 hS47 hE47 => ?_
            simp only [Env.push, List.cons_append, List.nil_append, List.append_nil]
            have z1291 := ext_trans z1288 y1290
            refine den_grow fun W1292 y1292 => ?_
            have z1293 := ext_trans z1291 y1292
            exact l_lnames_22 (hG.ext z1293) (hT.ext z1293) (h99.ext z1293) (hS47.ext y1292) (hE47.ext y1292)
        · refine den_grow fun W1294 y1294 => ?_
          have z1295 := ext_trans z1158 y1294
          have z1296 := ext_trans z1159 y1294
          have hmk := op1_i 4 (.mk 0 0 0 [] [] []) [.int .u8 0, .int .u8 0, .int .i64 0, .string ⟨([] : Lx.Bs).toArray⟩, .string ⟨([] : Lx.Bs).toArray⟩, .slice none 0 0] W1294 (ExAt.leaf _ _ 0 0 0 [] [])
          refine den_call_i (fun _ _ => hmk) fun v w' _ ⟨I131, I132, I133, T93, T94, A44, N86, N87, hv, hJ⟩ => ⟨I131, I132, I133, N86, N87, T93, T94, A44, hv, fun W1297 e2 y1297 n2 => ?_⟩
          clear hmk
          have h131 := ExJ.i hJ e2 y1297 n2
          clear hv hJ e2 n2
          simp only [Env.push, List.cons_append, List.nil_append, List.append_nil]
          have z1298 := ext_trans y1294 y1297
          have z1299 := ext_trans z1295 y1297
          have z1300 := ext_trans z1296 y1297
          refine den_both ?_ ?_
          · refine den_grow fun W1301 y1301 => ?_
            have z1302 := ext_trans z1298 y1301
            have z1303 := ext_trans z1299 y1301
            have z1304 := ext_trans z1300 y1301
            refine den_newfe (l := [(.mk 2 0 0 [] [97] [])]) (n := 1) (by kernel_rfl) (exs_cons (ExAt.leaf _ _ 2 0 0 [] [97]) (exs_nil _ _)) rfl fun A45 W1305 y1305 hS45 hE45 => ?_
            simp only [Env.push, List.cons_append, List.nil_append, List.append_nil]
            have z1306 := ext_trans z1302 y1305
            have z1307 := ext_trans z1303 y1305
            have z1308 := ext_trans y1301 y1305
            have z1309 := ext_trans z1304 y1305
            refine den_grow fun W1310 y1310 => ?_
            have z1311 := ext_trans z1306 y1310
            have z1312 := ext_trans z1308 y1310
            have z1313 := ext_trans z1307 y1310
            have z1314 := ext_trans z1309 y1310
            refine den_newfe (l := [(.mk 2 0 0 [] [97] [])]) (n := 1) (by kernel_rfl) (exs_cons (ExAt.leaf _ _ 2 0 0 [] [97]) (exs_nil _ _)) rfl fun A46 W1315 y1315 hS46 hE46 => ?_
            simp only [Env.push, List.cons_append, List.nil_append, List.append_nil]
            have z1316 := ext_trans z1311 y1315
            have z1317 := ext_trans z1312 y1315
            have z1318 := ext_trans y1310 y1315
            have z1319 := ext_trans z1313 y1315
            have z1320 := ext_trans z1314 y1315
            refine den_grow fun W1321 y1321 => ?_
            have z1322 := ext_trans z1316 y1321
            have z1323 := ext_trans z1317 y1321
            have z1324 := ext_trans z1318 y1321
            have z1325 := ext_trans z1319 y1321
            have z1326 := ext_trans z1320 y1321
            refine den_newfe (n := 15) (by kernel_rfl) (tbx (hS45.ext z1324) (hE45.ext z1324) (hS42.ext z1326) (hE42.ext z1326) (hS46.ext y1321) (hE46.ext y1321) (h128.ext z1322) (h131.ext z1323)) rfl fun A47 W1327 y1327 hS47 hE47 => ?_
            simp only [Env.push, List.cons_append, List.nil_append, List.append_nil]
            have z1328 := ext_trans z1325 y1327
            refine den_grow fun W1329 y1329 => ?_
            have z1330 := ext_trans z1328 y1329
            exact l_lnames_22 (hG.ext z1330) (hT.ext z1330) (h99.ext z1330) (hS47.ext y1329) (hE47.ext y1329)
          · refine den_grow fun W1331 y1331 => ?_
            have z1332 := ext_trans z1298 y1331
            have z1333 := ext_trans z1299 y1331
            have z1334 := ext_trans z1300 y1331
            refine den_newfe (l := [(.mk 2 0 0 [] [97] [])]) (n := 1) (by kernel_rfl) (exs_cons (ExAt.leaf _ _ 2 0 0 [] [97]) (exs_nil _ _)) rfl fun A45 W1335 y1335 hS45 hE45 => ?_
            simp only [Env.push, List.cons_append, List.nil_append, List.append_nil]
            have z1336 := ext_trans z1332 y1335
            have z1337 := ext_trans z1333 y1335
            have z1338 := ext_trans y1331 y1335
            have z1339 := ext_trans z1334 y1335
            refine den_grow fun W1340 y1340 => ?_
            have z1341 := ext_trans z1336 y1340
            have z1342 := ext_trans z1338 y1340
            have z1343 := ext_trans z1337 y1340
            have z1344 := ext_trans z1339 y1340
            refine den_newfe (l := [(.mk 2 0 0 [] [97] [])]) (n := 1) (by kernel_rfl) (exs_cons (ExAt.leaf _ _ 2 0 0 [] [97]) (exs_nil _ _)) rfl fun A46 W1345 y1345 hS46 hE46 => ?_
            simp only [Env.push, List.cons_append, List.nil_append, List.append_nil]
            have z1346 := ext_trans z1341 y1345
            have z1347 := ext_trans z1342 y1345
            have z1348 := ext_trans y1340 y1345
            have z1349 := ext_trans z1343 y1345
            have z1350 := ext_trans z1344 y1345
            refine den_grow fun W1351 y1351 => ?_
            have z1352 := ext_trans z1346 y1351
            have z1353 := ext_trans z1347 y1351
            have z1354 := ext_trans z1348 y1351
            have z1355 := ext_trans z1349 y1351
            have z1356 := ext_trans z1350 y1351
            refine den_newfe (n := 15) (by kernel_rfl) (tbx (hS46.ext y1351) (hE46.ext y1351) (hS42.ext z1356) (hE42.ext z1356) (hS45.ext z1354) (hE45.ext z1354) (h128.ext z1352) (h131.ext z1353)) rfl fun A47 W1357 y1357 hS47 hE47 => ?_
            simp only [Env.push, List.cons_append, List.nil_append, List.append_nil]
            have z1358 := ext_trans z1355 y1357
            refine den_grow fun W1359 y1359 => ?_
            have z1360 := ext_trans z1358 y1359
            exact l_lnames_22 (hG.ext z1360) (hT.ext z1360) (h99.ext z1360) (hS47.ext y1359) (hE47.ext y1359)
end Go.Proofs.YtckgdgkkmhochaaGreatDoor
