/- ParseNames: the walk, part D (printed by gen_pnames2.py). -/
import Derived.Test.YtckgdgkkmhochaaGreatDoorPxPnC
namespace Go.Proofs.YtckgdgkkmhochaaGreatDoor
open Go Go.RowKit Go.SF
set_option linter.unusedSimpArgs false
set_option linter.unusedVariables false
set_option maxRecDepth 100000 in
theorem l_lnames_121 {n0 : Nat} {I9 I10 I11 I12 I13 I14 I15 I16 I17 I18 I19 I20 I21 I22 I23 I24 I25 I26 I27 I28 I29 I30 I31 I32 I33 I34 I35 I36 I37 I38 I39 I40 I41 I42 I43 I44 I45 I46 I47 I48 I49 I50 I51 I52 I53 I54 I55 I56 I57 I58 I59 I60 I61 I62 I63 I64 I65 I66 I67 I68 I72 I73 I74 I75 I76 I77 I78 I79 I80 I81 I82 I83 I90 I91 I92 I93 I94 I95 I99 I100 I101 I106 I107 I108 I109 I110 I111 : Int} {N6 N7 N8 N9 N10 N11 N12 N13 N14 N15 N16 N17 N18 N19 N20 N21 N22 N23 N24 N25 N26 N27 N28 N29 N30 N31 N32 N33 N34 N35 N36 N37 N38 N39 N40 N41 N42 N43 N44 N45 N48 N49 N50 N51 N52 N53 N54 N55 N60 N61 N62 N63 N66 N67 N70 N71 N72 N73 : Nat} {T6 T7 T8 T9 T10 T11 T12 T13 T14 T15 T16 T17 T18 T19 T20 T21 T22 T23 T24 T25 T26 T27 T28 T29 T30 T31 T32 T33 T34 T35 T36 T37 T38 T39 T40 T41 T42 T43 T44 T45 T48 T49 T50 T51 T52 T53 T54 T55 T60 T61 T62 T63 T71 T72 T76 T77 T78 T79 : ByteArray} {A3 A4 A5 A6 A7 A8 A9 A10 A11 A12 A13 A14 A15 A16 A17 A18 A19 A20 A21 A22 A24 A25 A26 A27 A30 A31 A33 A35 A36 : Option Addr} {M0 M1 M2 M3 M4 M5 M6 M7 M8 M9 M10 M11 M12 M13 M14 M15 M16 M17 M18 M19 M20 M21 M22 M23 M24 : Nat} {W : Wd} (hG : Glob W) (hT : Vs.Tabs W) (h99 : ExI W (Px.parse ((List.replicate 15 [45]).flatten ++ [97])).1 [.int .u8 I99, .int .u8 I100, .int .i64 I101, .string T71, .string T72, .slice A33 N66 N67]) :
    t_lnames_121.den Tryz.prog n0 (Ret fun u x => u = Value.bool true) [] { I := [2, 0, 0, 2, 0, 0, 2, 0, 0, I9, I10, I11, I12, I13, I14, I15, I16, I17, I18, I19, I20, I21, I22, I23, I24, I25, I26, I27, I28, I29, I30, I31, I32, I33, I34, I35, I36, I37, I38, I39, I40, I41, I42, I43, I44, I45, I46, I47, I48, I49, I50, I51, I52, I53, I54, I55, I56, I57, I58, I59, I60, I61, I62, I63, I64, I65, I66, I67, I68, 1, 1, 5, I72, I73, I74, I75, I76, I77, I78, I79, I80, I81, I82, I83, 1, 3, 0, 1, 1, 9223372036854775807, I90, I91, I92, I93, I94, I95, 2, 0, 0, I99, I100, I101, 0, 1, 3, 0, I106, I107, I108, I109, I110, I111, 40, 1, 1, (-1), 2, 0, 0, 2, 0, 0, 2, 0, 0, 2, 0, 0], N := [0, 0, 0, 0, 0, 0, N6, N7, N8, N9, N10, N11, N12, N13, N14, N15, N16, N17, N18, N19, N20, N21, N22, N23, N24, N25, N26, N27, N28, N29, N30, N31, N32, N33, N34, N35, N36, N37, N38, N39, N40, N41, N42, N43, N44, N45, 0, 0, N48, N49, N50, N51, N52, N53, N54, N55, 0, 0, 0, 0, N60, N61, N62, N63, 0, 0, N66, N67, 0, 0, N70, N71, N72, N73, 0, 0, 0, 0, 0, 0, 0, 0, 0, 0], B := [true, true, true, true, true, true, true, true, true, true, true, true, true, true, true, true, true, true, true, true, true, true, true, true, true, true, true, true, true, true, true, true, true, true, true, true, true, true, true, true, true, true, true], T := [⟨([] : Lx.Bs).toArray⟩, ⟨([97] : Lx.Bs).toArray⟩, ⟨([] : Lx.Bs).toArray⟩, ⟨([98] : Lx.Bs).toArray⟩, ⟨([] : Lx.Bs).toArray⟩, ⟨([99] : Lx.Bs).toArray⟩, T6, T7, T8, T9, T10, T11, T12, T13, T14, T15, T16, T17, T18, T19, T20, T21, T22, T23, T24, T25, T26, T27, T28, T29, T30, T31, T32, T33, T34, T35, T36, T37, T38, T39, T40, T41, T42, T43, T44, T45, ⟨([] : Lx.Bs).toArray⟩, ⟨([] : Lx.Bs).toArray⟩, T48, T49, T50, T51, T52, T53, T54, T55, ⟨([105, 116, 32] : Lx.Bs).toArray⟩, ⟨([] : Lx.Bs).toArray⟩, ⟨([] : Lx.Bs).toArray⟩, ⟨([] : Lx.Bs).toArray⟩, T60, T61, T62, T63, ⟨([] : Lx.Bs).toArray⟩, ⟨([110, 111, 95, 49] : Lx.Bs).toArray⟩, ⟨(List.replicate 15 [45]).flatten.toArray⟩, ⟨(List.replicate 101 [32]).flatten.toArray⟩, ⟨(List.replicate 48 [40]).flatten.toArray⟩, ⟨(List.replicate 48 [41]).flatten.toArray⟩, ⟨(List.replicate 51 [97, 43]).flatten.toArray⟩, T71, T72, ⟨(List.replicate 40 [120]).flatten.toArray⟩, ⟨((List.replicate 40 [120]).flatten : Lx.Bs).toArray⟩, ⟨([] : Lx.Bs).toArray⟩, T76, T77, T78, T79, ⟨(Px.show' (Px.op2 8 (Px.op2 8 (.mk 1 3 0 (List.replicate 40 [120]).flatten [] []) (.mk 1 3 0 (List.replicate 40 [120]).flatten [] [])) (.mk 1 3 0 (List.replicate 40 [120]).flatten [] []))).1.toArray⟩, ⟨([] : Lx.Bs).toArray⟩, ⟨([] : Lx.Bs).toArray⟩, ⟨([] : Lx.Bs).toArray⟩, ⟨([121, 101, 115] : Lx.Bs).toArray⟩, ⟨([] : Lx.Bs).toArray⟩, ⟨([108, 101, 110] : Lx.Bs).toArray⟩, ⟨([] : Lx.Bs).toArray⟩, ⟨([] : Lx.Bs).toArray⟩, ⟨([] : Lx.Bs).toArray⟩, ⟨([65] : Lx.Bs).toArray⟩], A := [none, none, none, A3, A4, A5, A6, A7, A8, A9, A10, A11, A12, A13, A14, A15, A16, A17, A18, A19, A20, A21, A22, none, A24, A25, A26, A27, none, none, A30, A31, none, A33, none, A35, A36, none, none, none, none, none], M := [M0, M1, M2, M3, M4, M5, M6, M7, M8, M9, M10, M11, M12, M13, M14, M15, M16, M17, M18, M19, M20, M21, M22, M23, M24] } W := by
  refine den_grow fun W1361 y1361 => ?_
  refine den_newfe (l := [(.mk 2 0 0 [] [97] [])]) (n := 1) (by kernel_rfl) (exs_cons (ExAt.leaf _ _ 2 0 0 [] [97]) (exs_nil _ _)) rfl fun A42 W1362 y1362 hS42 hE42 => ?_
  simp only [Env.push, List.cons_append, List.nil_append, List.append_nil]
  have z1363 := ext_trans y1361 y1362
  refine den_both ?_ ?_
  · refine den_grow fun W1364 y1364 => ?_
    have z1365 := ext_trans z1363 y1364
    refine den_newfe (l := [(.mk 2 0 0 [] [97] [])]) (n := 1) (by kernel_rfl) (exs_cons (ExAt.leaf _ _ 2 0 0 [] [97]) (exs_nil _ _)) rfl fun A43 W1366 y1366 hS43 hE43 => ?_
    simp only [Env.push, List.cons_append, List.nil_append, List.append_nil]
    have z1367 := ext_trans z1365 y1366
    have z1368 := ext_trans y1364 y1366
    refine den_both ?_ ?_
    · refine den_grow fun W1369 y1369 => ?_
      have z1370 := ext_trans z1367 y1369
      have z1371 := ext_trans z1368 y1369
      refine den_newfe (l := [(.mk 2 0 0 [] [97] []), (.mk 2 0 0 [] [98] [])]) (n := 2) (by kernel_rfl) (exs_cons (ExAt.leaf _ _ 2 0 0 [] [97]) (exs_cons (ExAt.leaf _ _ 2 0 0 [] [98]) (exs_nil _ _))) rfl fun A44 W1372 y1372 hS44 hE44 => ?_
      simp only [Env.push, List.cons_append, List.nil_append, List.append_nil]
      have z1373 := ext_trans z1370 y1372
      have z1374 := ext_trans y1369 y1372
      have z1375 := ext_trans z1371 y1372
      refine den_grow fun W1376 y1376 => ?_
      have z1377 := ext_trans z1373 y1376
      have z1378 := ext_trans z1374 y1376
      have z1379 := ext_trans z1375 y1376
      have hmk := op1_i 3 (Px.parse ((List.replicate 15 [45]).flatten ++ [97])).1 [.int .u8 I99, .int .u8 I100, .int .i64 I101, .string T71, .string T72, .slice A33 N66 N67] W1376 (h99.ext z1377)
      refine den_call_i (fun _ _ => hmk) fun v w' _ ⟨I128, I129, I130, T91, T92, A45, N84, N85, hv, hJ⟩ => ⟨I128, I129, I130, N84, N85, T91, T92, A45, hv, fun W1380 e2 y1380 n2 => ?_⟩
      clear hmk
      have h128 := ExJ.i hJ e2 y1380 n2
      clear hv hJ e2 n2
      simp only [Env.push, List.cons_append, List.nil_append, List.append_nil]
      have z1381 := ext_trans y1376 y1380
      have z1382 := ext_trans z1377 y1380
      have z1383 := ext_trans z1378 y1380
      have z1384 := ext_trans z1379 y1380
      refine den_grow fun W1385 y1385 => ?_
      have z1386 := ext_trans z1383 y1385
      have z1387 := ext_trans z1381 y1385
      have z1388 := ext_trans z1382 y1385
      have z1389 := ext_trans z1384 y1385
      have hmk := op1_i 4 (.mk 0 0 0 [] [] []) [.int .u8 0, .int .u8 0, .int .i64 0, .string ⟨([] : Lx.Bs).toArray⟩, .string ⟨([] : Lx.Bs).toArray⟩, .slice none 0 0] W1385 (ExAt.leaf _ _ 0 0 0 [] [])
      refine den_call_i (fun _ _ => hmk) fun v w' _ ⟨I131, I132, I133, T93, T94, A46, N86, N87, hv, hJ⟩ => ⟨I131, I132, I133, N86, N87, T93, T94, A46, hv, fun W1390 e2 y1390 n2 => ?_⟩
      clear hmk
      have h131 := ExJ.i hJ e2 y1390 n2
      clear hv hJ e2 n2
      simp only [Env.push, List.cons_append, List.nil_append, List.append_nil]
      have z1391 := ext_trans y1385 y1390
      have z1392 := ext_trans z1386 y1390
      have z1393 := ext_trans z1387 y1390
      have z1394 := ext_trans z1388 y1390
      have z1395 := ext_trans z1389 y1390
      refine den_grow fun W1396 y1396 => ?_
      have z1397 := ext_trans z1391 y1396
      have z1398 := ext_trans z1392 y1396
      have z1399 := ext_trans z1393 y1396
      have z1400 := ext_trans z1394 y1396
      have z1401 := ext_trans z1395 y1396
      refine den_newfe (n := 15) (by kernel_rfl) (tbx (hS43.ext z1398) (hE43.ext z1398) (hS44.ext z1399) (hE44.ext z1399) (hS42.ext z1401) (hE42.ext z1401) (h128.ext z1397) (h131.ext y1396)) rfl fun A47 W1402 y1402 hS47 hE47 => ?_
      simp only [Env.push, List.cons_append, List.nil_append, List.append_nil]
      have z1403 := ext_trans z1400 y1402
      refine den_grow fun W1404 y1404 => ?_
      have z1405 := ext_trans z1403 y1404
      exact l_lnames_22 (hG.ext z1405) (hT.ext z1405) (h99.ext z1405) (hS47.ext y1404) (hE47.ext y1404)
    · refine den_grow fun W1406 y1406 => ?_
      have z1407 := ext_trans z1367 y1406
      have z1408 := ext_trans z1368 y1406
      have hmk := op1_i 3 (Px.parse ((List.replicate 15 [45]).flatten ++ [97])).1 [.int .u8 I99, .int .u8 I100, .int .i64 I101, .string T71, .string T72, .slice A33 N66 N67] W1406 (h99.ext z1407)
      refine den_call_i (fun _ _ => hmk) fun v w' _ ⟨I128, I129, I130, T91, T92, A44, N84, N85, hv, hJ⟩ => ⟨I128, I129, I130, N84, N85, T91, T92, A44, hv, fun W1409 e2 y1409 n2 => ?_⟩
      clear hmk
      have h128 := ExJ.i hJ e2 y1409 n2
      clear hv hJ e2 n2
      simp only [Env.push, List.cons_append, List.nil_append, List.append_nil]
      have z1410 := ext_trans z1407 y1409
      have z1411 := ext_trans y1406 y1409
      have z1412 := ext_trans z1408 y1409
      refine den_both ?_ ?_
      · refine den_grow fun W1413 y1413 => ?_
        have z1414 := ext_trans z1410 y1413
        have z1415 := ext_trans z1411 y1413
        have z1416 := ext_trans z1412 y1413
        refine den_newfe (l := [(.mk 2 0 0 [] [97] []), (.mk 2 0 0 [] [98] [])]) (n := 2) (by kernel_rfl) (exs_cons (ExAt.leaf _ _ 2 0 0 [] [97]) (exs_cons (ExAt.leaf _ _ 2 0 0 [] [98]) (exs_nil _ _))) rfl fun A45 W1417 y1417 hS45 hE45 => ?_
        simp only [Env.push, List.cons_append, List.nil_append, List.append_nil]
        have z1418 := ext_trans y1413 y1417
        have z1419 := ext_trans z1414 y1417
        have z1420 := ext_trans z1415 y1417
        have z1421 := ext_trans z1416 y1417
        refine den_grow fun W1422 y1422 => ?_
        have z1423 := ext_trans z1420 y1422
        have z1424 := ext_trans z1418 y1422
        have z1425 := ext_trans z1419 y1422
        have z1426 := ext_trans z1421 y1422
        have hmk := op1_i 4 (.mk 0 0 0 [] [] []) [.int .u8 0, .int .u8 0, .int .i64 0, .string ⟨([] : Lx.Bs).toArray⟩, .string ⟨([] : Lx.Bs).toArray⟩, .slice none 0 0] W1422 (ExAt.leaf _ _ 0 0 0 [] [])
        refine den_call_i (fun _ _ => hmk) fun v w' _ ⟨I131, I132, I133, T93, T94, A46, N86, N87, hv, hJ⟩ => ⟨I131, I132, I133, N86, N87, T93, T94, A46, hv, fun W1427 e2 y1427 n2 => ?_⟩
        clear hmk
        have h131 := ExJ.i hJ e2 y1427 n2
        clear hv hJ e2 n2
        simp only [Env.push, List.cons_append, List.nil_append, List.append_nil]
        have z1428 := ext_trans z1423 y1427
        have z1429 := ext_trans y1422 y1427
        have z1430 := ext_trans z1424 y1427
        have z1431 := ext_trans z1425 y1427
        have z1432 := ext_trans z1426 y1427
        refine den_grow fun W1433 y1433 => ?_
        have z1434 := ext_trans z1428 y1433
        have z1435 := ext_trans z1429 y1433
        have z1436 := ext_trans z1430 y1433
        have z1437 := ext_trans z1431 y1433
        have z1438 := ext_trans z1432 y1433
        refine den_newfe (n := 15) (by kernel_rfl) (tbx (hS43.ext z1434) (hE43.ext z1434) (hS45.ext z1435) (hE45.ext z1435) (hS42.ext z1438) (hE42.ext z1438) (h128.ext z1436) (h131.ext y1433)) rfl fun A47 W1439 y1439 hS47 hE47 => ?_
        simp only [Env.push, List.cons_append, List.nil_append, List.append_nil]
        have z1440 := ext_trans z1437 y1439
        refine den_grow fun W1441 y1441 => ?_
        have z1442 := ext_trans z1440 y1441
        exact l_lnames_22 (hG.ext z1442) (hT.ext z1442) (h99.ext z1442) (hS47.ext y1441) (hE47.ext y1441)
      · refine den_grow fun W1443 y1443 => ?_
        have z1444 := ext_trans z1410 y1443
        have z1445 := ext_trans z1411 y1443
        have z1446 := ext_trans z1412 y1443
        have hmk := op1_i 4 (.mk 0 0 0 [] [] []) [.int .u8 0, .int .u8 0, .int .i64 0, .string ⟨([] : Lx.Bs).toArray⟩, .string ⟨([] : Lx.Bs).toArray⟩, .slice none 0 0] W1443 (ExAt.leaf _ _ 0 0 0 [] [])
        refine den_call_i (fun _ _ => hmk) fun v w' _ ⟨I131, I132, I133, T93, T94, A45, N86, N87, hv, hJ⟩ => ⟨I131, I132, I133, N86, N87, T93, T94, A45, hv, fun W1447 e2 y1447 n2 => ?_⟩
        clear hmk
        have h131 := ExJ.i hJ e2 y1447 n2
        clear hv hJ e2 n2
        simp only [Env.push, List.cons_append, List.nil_append, List.append_nil]
        have z1448 := ext_trans y1443 y1447
        have z1449 := ext_trans z1444 y1447
        have z1450 := ext_trans z1445 y1447
        have z1451 := ext_trans z1446 y1447
        refine den_grow fun W1452 y1452 => ?_
        have z1453 := ext_trans z1450 y1452
        have z1454 := ext_trans z1448 y1452
        have z1455 := ext_trans z1449 y1452
        have z1456 := ext_trans z1451 y1452
        refine den_newfe (l := [(.mk 2 0 0 [] [97] []), (.mk 2 0 0 [] [98] [])]) (n := 2) (by kernel_rfl) (exs_cons (ExAt.leaf _ _ 2 0 0 [] [97]) (exs_cons (ExAt.leaf _ _ 2 0 0 [] [98]) (exs_nil _ _))) rfl fun A46 W1457 y1457 hS46 hE46 => ?_
        simp only [Env.push, List.cons_append, List.nil_append, List.append_nil]
        have z1458 := ext_trans y1452 y1457
        have z1459 := ext_trans z1453 y1457
        have z1460 := ext_trans z1454 y1457
        have z1461 := ext_trans z1455 y1457
        have z1462 := ext_trans z1456 y1457
        refine den_grow fun W1463 y1463 => ?_
        have z1464 := ext_trans z1458 y1463
        have z1465 := ext_trans z1459 y1463
        have z1466 := ext_trans z1460 y1463
        have z1467 := ext_trans z1461 y1463
        have z1468 := ext_trans z1462 y1463
        refine den_newfe (n := 15) (by kernel_rfl) (tbx (hS43.ext z1465) (hE43.ext z1465) (hS46.ext y1463) (hE46.ext y1463) (hS42.ext z1468) (hE42.ext z1468) (h128.ext z1466) (h131.ext z1464)) rfl fun A47 W1469 y1469 hS47 hE47 => ?_
        simp only [Env.push, List.cons_append, List.nil_append, List.append_nil]
        have z1470 := ext_trans z1467 y1469
        refine den_grow fun W1471 y1471 => ?_
        have z1472 := ext_trans z1470 y1471
        exact l_lnames_22 (hG.ext z1472) (hT.ext z1472) (h99.ext z1472) (hS47.ext y1471) (hE47.ext y1471)
  · refine den_both ?_ ?_
    · refine den_grow fun W1473 y1473 => ?_
      have z1474 := ext_trans z1363 y1473
      refine den_newfe (l := [(.mk 2 0 0 [] [97] []), (.mk 2 0 0 [] [98] [])]) (n := 2) (by kernel_rfl) (exs_cons (ExAt.leaf _ _ 2 0 0 [] [97]) (exs_cons (ExAt.leaf _ _ 2 0 0 [] [98]) (exs_nil _ _))) rfl fun A43 W1475 y1475 hS43 hE43 => ?_
      simp only [Env.push, List.cons_append, List.nil_append, List.append_nil]
      have z1476 := ext_trans z1474 y1475
      have z1477 := ext_trans y1473 y1475
      refine den_both ?_ ?_
      · refine den_grow fun W1478 y1478 => ?_
        have z1479 := ext_trans z1476 y1478
        have z1480 := ext_trans z1477 y1478
        refine den_newfe (l := [(.mk 2 0 0 [] [97] [])]) (n := 1) (by kernel_rfl) (exs_cons (ExAt.leaf _ _ 2 0 0 [] [97]) (exs_nil _ _)) rfl fun A44 W1481 y1481 hS44 hE44 => ?_
        simp only [Env.push, List.cons_append, List.nil_append, List.append_nil]
        have z1482 := ext_trans z1479 y1481
        have z1483 := ext_trans y1478 y1481
        have z1484 := ext_trans z1480 y1481
        refine den_grow fun W1485 y1485 => ?_
        have z1486 := ext_trans z1482 y1485
        have z1487 := ext_trans z1483 y1485
        have z1488 := ext_trans z1484 y1485
        have hmk := op1_i 3 (Px.parse ((List.replicate 15 [45]).flatten ++ [97])).1 [.int .u8 I99, .int .u8 I100, .int .i64 I101, .string T71, .string T72, .slice A33 N66 N67] W1485 (h99.ext z1486)
        refine den_call_i (fun _ _ => hmk) fun v w' _ ⟨I128, I129, I130, T91, T92, A45, N84, N85, hv, hJ⟩ => ⟨I128, I129, I130, N84, N85, T91, T92, A45, hv, fun W1489 e2 y1489 n2 => ?_⟩
        clear hmk
        have h128 := ExJ.i hJ e2 y1489 n2
        clear hv hJ e2 n2
        simp only [Env.push, List.cons_append, List.nil_append, List.append_nil]
        have z1490 := ext_trans y1485 y1489
        have z1491 := ext_trans z1486 y1489
        have z1492 := ext_trans z1487 y1489
        have z1493 := ext_trans z1488 y1489
        refine den_grow fun W1494 y1494 => ?_
        have z1495 := ext_trans z1492 y1494
        have z1496 := ext_trans z1490 y1494
        have z1497 := ext_trans z1491 y1494
        have z1498 := ext_trans z1493 y1494
        have hmk := op1_i 4 (.mk 0 0 0 [] [] []) [.int .u8 0, .int .u8 0, .int .i64 0, .string ⟨([] : Lx.Bs).toArray⟩, .string ⟨([] : Lx.Bs).toArray⟩, .slice none 0 0] W1494 (ExAt.leaf _ _ 0 0 0 [] [])
        refine den_call_i (fun _ _ => hmk) fun v w' _ ⟨I131, I132, I133, T93, T94, A46, N86, N87, hv, hJ⟩ => ⟨I131, I132, I133, N86, N87, T93, T94, A46, hv, fun W1499 e2 y1499 n2 => ?_⟩
        clear hmk
        have h131 := ExJ.i hJ e2 y1499 n2
        clear hv hJ e2 n2
        simp only [Env.push, List.cons_append, List.nil_append, List.append_nil]
        have z1500 := ext_trans y1494 y1499
        have z1501 := ext_trans z1495 y1499
        have z1502 := ext_trans z1496 y1499
        have z1503 := ext_trans z1497 y1499
        have z1504 := ext_trans z1498 y1499
        refine den_grow fun W1505 y1505 => ?_
        have z1506 := ext_trans z1500 y1505
        have z1507 := ext_trans z1501 y1505
        have z1508 := ext_trans z1502 y1505
        have z1509 := ext_trans z1503 y1505
        have z1510 := ext_trans z1504 y1505
        refine den_newfe (n := 15) (by kernel_rfl) (tbx (hS44.ext z1508) (hE44.ext z1508) (hS43.ext z1507) (hE43.ext z1507) (hS42.ext z1510) (hE42.ext z1510) (h128.ext z1506) (h131.ext y1505)) rfl fun A47 W1511 y1511 hS47 hE47 => ?_
        simp only [Env.push, List.cons_append, List.nil_append, List.append_nil]
        have z1512 := ext_trans z1509 y1511
        refine den_grow fun W1513 y1513 => ?_
        have z1514 := ext_trans z1512 y1513
        exact l_lnames_22 (hG.ext z1514) (hT.ext z1514) (h99.ext z1514) (hS47.ext y1513) (hE47.ext y1513)
      · refine den_grow fun W1515 y1515 => ?_
        have z1516 := ext_trans z1476 y1515
        have z1517 := ext_trans z1477 y1515
        have hmk := op1_i 3 (Px.parse ((List.replicate 15 [45]).flatten ++ [97])).1 [.int .u8 I99, .int .u8 I100, .int .i64 I101, .string T71, .string T72, .slice A33 N66 N67] W1515 (h99.ext z1516)
        refine den_call_i (fun _ _ => hmk) fun v w' _ ⟨I128, I129, I130, T91, T92, A44, N84, N85, hv, hJ⟩ => ⟨I128, I129, I130, N84, N85, T91, T92, A44, hv, fun W1518 e2 y1518 n2 => ?_⟩
        clear hmk
        have h128 := ExJ.i hJ e2 y1518 n2
        clear hv hJ e2 n2
        simp only [Env.push, List.cons_append, List.nil_append, List.append_nil]
        have z1519 := ext_trans z1516 y1518
        have z1520 := ext_trans y1515 y1518
        have z1521 := ext_trans z1517 y1518
        refine den_both ?_ ?_
        · refine den_grow fun W1522 y1522 => ?_
          have z1523 := ext_trans z1519 y1522
          have z1524 := ext_trans z1520 y1522
          have z1525 := ext_trans z1521 y1522
          refine den_newfe (l := [(.mk 2 0 0 [] [97] [])]) (n := 1) (by kernel_rfl) (exs_cons (ExAt.leaf _ _ 2 0 0 [] [97]) (exs_nil _ _)) rfl fun A45 W1526 y1526 hS45 hE45 => ?_
          simp only [Env.push, List.cons_append, List.nil_append, List.append_nil]
          have z1527 := ext_trans z1523 y1526
          have z1528 := ext_trans z1524 y1526
          have z1529 := ext_trans z1525 y1526
          have z1530 := ext_trans y1522 y1526
          refine den_grow fun W1531 y1531 => ?_
          have z1532 := ext_trans z1528 y1531
          have z1533 := ext_trans z1530 y1531
          have z1534 := ext_trans z1527 y1531
          have z1535 := ext_trans z1529 y1531
          have hmk := op1_i 4 (.mk 0 0 0 [] [] []) [.int .u8 0, .int .u8 0, .int .i64 0, .string ⟨([] : Lx.Bs).toArray⟩, .string ⟨([] : Lx.Bs).toArray⟩, .slice none 0 0] W1531 (ExAt.leaf _ _ 0 0 0 [] [])
          refine den_call_i (fun _ _ => hmk) fun v w' _ ⟨I131, I132, I133, T93, T94, A46, N86, N87, hv, hJ⟩ => ⟨I131, I132, I133, N86, N87, T93, T94, A46, hv, fun W1536 e2 y1536 n2 => ?_⟩
          clear hmk
          have h131 := ExJ.i hJ e2 y1536 n2
          clear hv hJ e2 n2
          simp only [Env.push, List.cons_append, List.nil_append, List.append_nil]
          have z1537 := ext_trans y1531 y1536
          have z1538 := ext_trans z1532 y1536
          have z1539 := ext_trans z1533 y1536
          have z1540 := ext_trans z1534 y1536
          have z1541 := ext_trans z1535 y1536
          refine den_grow fun W1542 y1542 => ?_
          have z1543 := ext_trans z1537 y1542
          have z1544 := ext_trans z1538 y1542
          have z1545 := ext_trans z1539 y1542
          have z1546 := ext_trans z1540 y1542
          have z1547 := ext_trans z1541 y1542
          refine den_newfe (n := 15) (by kernel_rfl) (tbx (hS45.ext z1543) (hE45.ext z1543) (hS43.ext z1544) (hE43.ext z1544) (hS42.ext z1547) (hE42.ext z1547) (h128.ext z1545) (h131.ext y1542)) rfl fun A47 W1548 y1548 hS47 hE47 => ?_
          simp only [Env.push, List.cons_append, List.nil_append, List.append_nil]
          have z1549 := ext_trans z1546 y1548
          refine den_grow fun W1550 y1550 => ?_
          have z1551 := ext_trans z1549 y1550
          exact l_lnames_22 (hG.ext z1551) (hT.ext z1551) (h99.ext z1551) (hS47.ext y1550) (hE47.ext y1550)
        · refine den_grow fun W1552 y1552 => ?_
          have z1553 := ext_trans z1519 y1552
          have z1554 := ext_trans z1520 y1552
          have z1555 := ext_trans z1521 y1552
          have hmk := op1_i 4 (.mk 0 0 0 [] [] []) [.int .u8 0, .int .u8 0, .int .i64 0, .string ⟨([] : Lx.Bs).toArray⟩, .string ⟨([] : Lx.Bs).toArray⟩, .slice none 0 0] W1552 (ExAt.leaf _ _ 0 0 0 [] [])
          refine den_call_i (fun _ _ => hmk) fun v w' _ ⟨I131, I132, I133, T93, T94, A45, N86, N87, hv, hJ⟩ => ⟨I131, I132, I133, N86, N87, T93, T94, A45, hv, fun W1556 e2 y1556 n2 => ?_⟩
          clear hmk
          have h131 := ExJ.i hJ e2 y1556 n2
          clear hv hJ e2 n2
          simp only [Env.push, List.cons_append, List.nil_append, List.append_nil]
          have z1557 := ext_trans z1553 y1556
          have z1558 := ext_trans z1554 y1556
          have z1559 := ext_trans z1555 y1556
          have z1560 := ext_trans y1552 y1556
          refine den_grow fun W1561 y1561 => ?_
          have z1562 := ext_trans z1558 y1561
          have z1563 := ext_trans z1560 y1561
          have z1564 := ext_trans z1557 y1561
          have z1565 := ext_trans z1559 y1561
          refine den_newfe (l := [(.mk 2 0 0 [] [97] [])]) (n := 1) (by kernel_rfl) (exs_cons (ExAt.leaf _ _ 2 0 0 [] [97]) (exs_nil _ _)) rfl fun A46 W1566 y1566 hS46 hE46 => ?_
          simp only [Env.push, List.cons_append, List.nil_append, List.append_nil]
          have z1567 := ext_trans z1562 y1566
          have z1568 := ext_trans y1561 y1566
          have z1569 := ext_trans z1563 y1566
          have z1570 := ext_trans z1564 y1566
          have z1571 := ext_trans z1565 y1566
          refine den_grow fun W1572 y1572 => ?_
          have z1573 := ext_trans z1567 y1572
          have z1574 := ext_trans z1568 y1572
          have z1575 := ext_trans z1569 y1572
          have z1576 := ext_trans z1570 y1572
          have z1577 := ext_trans z1571 y1572
          refine den_newfe (n := 15) (by kernel_rfl) (tbx (hS46.ext y1572) (hE46.ext y1572) (hS43.ext z1573) (hE43.ext z1573) (hS42.ext z1577) (hE42.ext z1577) (h128.ext z1575) (h131.ext z1574)) rfl fun A47 W1578 y1578 hS47 hE47 => ?_
          simp only [Env.push, List.cons_append, List.nil_append, List.append_nil]
          have z1579 := ext_trans z1576 y1578
          refine den_grow fun W1580 y1580 => ?_
          have z1581 := ext_trans z1579 y1580
          exact l_lnames_22 (hG.ext z1581) (hT.ext z1581) (h99.ext z1581) (hS47.ext y1580) (hE47.ext y1580)
    · refine den_grow fun W1582 y1582 => ?_
      have z1583 := ext_trans z1363 y1582
      have hmk := op1_i 3 (Px.parse ((List.replicate 15 [45]).flatten ++ [97])).1 [.int .u8 I99, .int .u8 I100, .int .i64 I101, .string T71, .string T72, .slice A33 N66 N67] W1582 (h99.ext z1583)
      refine den_call_i (fun _ _ => hmk) fun v w' _ ⟨I128, I129, I130, T91, T92, A43, N84, N85, hv, hJ⟩ => ⟨I128, I129, I130, N84, N85, T91, T92, A43, hv, fun W1584 e2 y1584 n2 => ?_⟩
      clear hmk
      have h128 := ExJ.i hJ e2 y1584 n2
      clear hv hJ e2 n2
      simp only [Env.push, List.cons_append, List.nil_append, List.append_nil]
      have z1585 := ext_trans z1583 y1584
      have z1586 := ext_trans y1582 y1584
      refine den_both ?_ ?_
      · refine den_grow fun W1587 y1587 => ?_
        have z1588 := ext_trans z1585 y1587
        have z1589 := ext_trans z1586 y1587
        refine den_newfe (l := [(.mk 2 0 0 [] [97] [])]) (n := 1) (by kernel_rfl) (exs_cons (ExAt.leaf _ _ 2 0 0 [] [97]) (exs_nil _ _)) rfl fun A44 W1590 y1590 hS44 hE44 => ?_
        simp only [Env.push, List.cons_append, List.nil_append, List.append_nil]
        have z1591 := ext_trans z1588 y1590
        have z1592 := ext_trans z1589 y1590
        have z1593 := ext_trans y1587 y1590
        refine den_both ?_ ?_
        · refine den_grow fun W1594 y1594 => ?_
          have z1595 := ext_trans z1591 y1594
          have z1596 := ext_trans z1592 y1594
          have z1597 := ext_trans z1593 y1594
          refine den_newfe (l := [(.mk 2 0 0 [] [97] []), (.mk 2 0 0 [] [98] [])]) (n := 2) (by kernel_rfl) (exs_cons (ExAt.leaf _ _ 2 0 0 [] [97]) (exs_cons (ExAt.leaf _ _ 2 0 0 [] [98]) (exs_nil _ _))) rfl fun A45 W1598 y1598 hS45 hE45 => ?_
          simp only [Env.push, List.cons_append, List.nil_append, List.append_nil]
          have z1599 := ext_trans z1595 y1598
          have z1600 := ext_trans y1594 y1598
          have z1601 := ext_trans z1596 y1598
          have z1602 := ext_trans z1597 y1598
          refine den_grow fun W1603 y1603 => ?_
          have z1604 := ext_trans z1602 y1603
          have z1605 := ext_trans z1599 y1603
          have z1606 := ext_trans z1601 y1603
          have z1607 := ext_trans z1600 y1603
          have hmk := op1_i 4 (.mk 0 0 0 [] [] []) [.int .u8 0, .int .u8 0, .int .i64 0, .string ⟨([] : Lx.Bs).toArray⟩, .string ⟨([] : Lx.Bs).toArray⟩, .slice none 0 0] W1603 (ExAt.leaf _ _ 0 0 0 [] [])
          refine den_call_i (fun _ _ => hmk) fun v w' _ ⟨I131, I132, I133, T93, T94, A46, N86, N87, hv, hJ⟩ => ⟨I131, I132, I133, N86, N87, T93, T94, A46, hv, fun W1608 e2 y1608 n2 => ?_⟩
          clear hmk
          have h131 := ExJ.i hJ e2 y1608 n2
          clear hv hJ e2 n2
          simp only [Env.push, List.cons_append, List.nil_append, List.append_nil]
          have z1609 := ext_trans z1604 y1608
          have z1610 := ext_trans y1603 y1608
          have z1611 := ext_trans z1605 y1608
          have z1612 := ext_trans z1606 y1608
          have z1613 := ext_trans z1607 y1608
          refine den_grow fun W1614 y1614 => ?_
          have z1615 := ext_trans z1609 y1614
          have z1616 := ext_trans z1610 y1614
          have z1617 := ext_trans z1611 y1614
          have z1618 := ext_trans z1612 y1614
          have z1619 := ext_trans z1613 y1614
          refine den_newfe (n := 15) (by kernel_rfl) (tbx (hS44.ext z1619) (hE44.ext z1619) (hS45.ext z1616) (hE45.ext z1616) (hS42.ext z1618) (hE42.ext z1618) (h128.ext z1615) (h131.ext y1614)) rfl fun A47 W1620 y1620 hS47 hE47 => ?_
          simp only [Env.push, List.cons_append, List.nil_append, List.append_nil]
          have z1621 := ext_trans z1617 y1620
          refine den_grow fun W1622 y1622 => ?_
          have z1623 := ext_trans z1621 y1622
          exact l_lnames_22 (hG.ext z1623) (hT.ext z1623) (h99.ext z1623) (hS47.ext y1622) (hE47.ext y1622)
        · refine den_grow fun W1624 y1624 => ?_
          have z1625 := ext_trans z1591 y1624
          have z1626 := ext_trans z1592 y1624
          have z1627 := ext_trans z1593 y1624
          have hmk := op1_i 4 (.mk 0 0 0 [] [] []) [.int .u8 0, .int .u8 0, .int .i64 0, .string ⟨([] : Lx.Bs).toArray⟩, .string ⟨([] : Lx.Bs).toArray⟩, .slice none 0 0] W1624 (ExAt.leaf _ _ 0 0 0 [] [])
          refine den_call_i (fun _ _ => hmk) fun v w' _ ⟨I131, I132, I133, T93, T94, A45, N86, N87, hv, hJ⟩ => ⟨I131, I132, I133, N86, N87, T93, T94, A45, hv, fun W1628 e2 y1628 n2 => ?_⟩
          clear hmk
          have h131 := ExJ.i hJ e2 y1628 n2
          clear hv hJ e2 n2
          simp only [Env.push, List.cons_append, List.nil_append, List.append_nil]
          have z1629 := ext_trans z1625 y1628
          have z1630 := ext_trans y1624 y1628
          have z1631 := ext_trans z1626 y1628
          have z1632 := ext_trans z1627 y1628
          refine den_grow fun W1633 y1633 => ?_
          have z1634 := ext_trans z1632 y1633
          have z1635 := ext_trans z1629 y1633
          have z1636 := ext_trans z1631 y1633
          have z1637 := ext_trans z1630 y1633
          refine den_newfe (l := [(.mk 2 0 0 [] [97] []), (.mk 2 0 0 [] [98] [])]) (n := 2) (by kernel_rfl) (exs_cons (ExAt.leaf _ _ 2 0 0 [] [97]) (exs_cons (ExAt.leaf _ _ 2 0 0 [] [98]) (exs_nil _ _))) rfl fun A46 W1638 y1638 hS46 hE46 => ?_
          simp only [Env.push, List.cons_append, List.nil_append, List.append_nil]
          have z1639 := ext_trans y1633 y1638
          have z1640 := ext_trans z1634 y1638
          have z1641 := ext_trans z1635 y1638
          have z1642 := ext_trans z1636 y1638
          have z1643 := ext_trans z1637 y1638
          refine den_grow fun W1644 y1644 => ?_
          have z1645 := ext_trans z1639 y1644
          have z1646 := ext_trans z1640 y1644
          have z1647 := ext_trans z1641 y1644
          have z1648 := ext_trans z1642 y1644
          have z1649 := ext_trans z1643 y1644
          refine den_newfe (n := 15) (by kernel_rfl) (tbx (hS44.ext z1649) (hE44.ext z1649) (hS46.ext y1644) (hE46.ext y1644) (hS42.ext z1648) (hE42.ext z1648) (h128.ext z1646) (h131.ext z1645)) rfl fun A47 W1650 y1650 hS47 hE47 => ?_
          simp only [Env.push, List.cons_append, List.nil_append, List.append_nil]
          have z1651 := ext_trans z1647 y1650
          refine den_grow fun W1652 y1652 => ?_
          have z1653 := ext_trans z1651 y1652
          exact l_lnames_22 (hG.ext z1653) (hT.ext z1653) (h99.ext z1653) (hS47.ext y1652) (hE47.ext y1652)
      · refine den_both ?_ ?_
        · refine den_grow fun W1654 y1654 => ?_
          have z1655 := ext_trans z1585 y1654
          have z1656 := ext_trans z1586 y1654
          refine den_newfe (l := [(.mk 2 0 0 [] [97] []), (.mk 2 0 0 [] [98] [])]) (n := 2) (by kernel_rfl) (exs_cons (ExAt.leaf _ _ 2 0 0 [] [97]) (exs_cons (ExAt.leaf _ _ 2 0 0 [] [98]) (exs_nil _ _))) rfl fun A44 W1657 y1657 hS44 hE44 => ?_
          simp only [Env.push, List.cons_append, List.nil_append, List.append_nil]
          have z1658 := ext_trans z1655 y1657
          have z1659 := ext_trans z1656 y1657
          have z1660 := ext_trans y1654 y1657
          refine den_both ?_ ?_
          · refine den_grow fun W1661 y1661 => ?_
            have z1662 := ext_trans z1658 y1661
            have z1663 := ext_trans z1659 y1661
            have z1664 := ext_trans z1660 y1661
            refine den_newfe (l := [(.mk 2 0 0 [] [97] [])]) (n := 1) (by kernel_rfl) (exs_cons (ExAt.leaf _ _ 2 0 0 [] [97]) (exs_nil _ _)) rfl fun A45 W1665 y1665 hS45 hE45 => ?_
            simp only [Env.push, List.cons_append, List.nil_append, List.append_nil]
            have z1666 := ext_trans z1662 y1665
            have z1667 := ext_trans y1661 y1665
            have z1668 := ext_trans z1663 y1665
            have z1669 := ext_trans z1664 y1665
            refine den_grow fun W1670 y1670 => ?_
            have z1671 := ext_trans z1667 y1670
            have z1672 := ext_trans z1669 y1670
            have z1673 := ext_trans z1666 y1670
            have z1674 := ext_trans z1668 y1670
            have hmk := op1_i 4 (.mk 0 0 0 [] [] []) [.int .u8 0, .int .u8 0, .int .i64 0, .string ⟨([] : Lx.Bs).toArray⟩, .string ⟨([] : Lx.Bs).toArray⟩, .slice none 0 0] W1670 (ExAt.leaf _ _ 0 0 0 [] [])
            refine den_call_i (fun _ _ => hmk) fun v w' _ ⟨I131, I132, I133, T93, T94, A46, N86, N87, hv, hJ⟩ => ⟨I131, I132, I133, N86, N87, T93, T94, A46, hv, fun W1675 e2 y1675 n2 => ?_⟩
            clear hmk
            have h131 := ExJ.i hJ e2 y1675 n2
            clear hv hJ e2 n2
            simp only [Env.push, List.cons_append, List.nil_append, List.append_nil]
            have z1676 := ext_trans z1671 y1675
            have z1677 := ext_trans z1672 y1675
            have z1678 := ext_trans y1670 y1675
            have z1679 := ext_trans z1673 y1675
            have z1680 := ext_trans z1674 y1675
            refine den_grow fun W1681 y1681 => ?_
            have z1682 := ext_trans z1676 y1681
            have z1683 := ext_trans z1677 y1681
            have z1684 := ext_trans z1678 y1681
            have z1685 := ext_trans z1679 y1681
            have z1686 := ext_trans z1680 y1681
            refine den_newfe (n := 15) (by kernel_rfl) (tbx (hS45.ext z1684) (hE45.ext z1684) (hS44.ext z1682) (hE44.ext z1682) (hS42.ext z1686) (hE42.ext z1686) (h128.ext z1683) (h131.ext y1681)) rfl fun A47 W1687 y1687 hS47 hE47 => ?_
            simp only [Env.push, List.cons_append, List.nil_append, List.append_nil]
            have z1688 := ext_trans z1685 y1687
            refine den_grow fun W1689 y1689 => ?_
            have z1690 := ext_trans z1688 y1689
            exact l_lnames_22 (hG.ext z1690) (hT.ext z1690) (h99.ext z1690) (hS47.ext y1689) (hE47.ext y1689)
          · refine den_grow fun W1691 y1691 => ?_
            have z1692 := ext_trans z1658 y1691
            have z1693 := ext_trans z1659 y1691
            have z1694 := ext_trans z1660 y1691
            have hmk := op1_i 4 (.mk 0 0 0 [] [] []) [.int .u8 0, .int .u8 0, .int .i64 0, .string ⟨([] : Lx.Bs).toArray⟩, .string ⟨([] : Lx.Bs).toArray⟩, .slice none 0 0] W1691 (ExAt.leaf _ _ 0 0 0 [] [])
            refine den_call_i (fun _ _ => hmk) fun v w' _ ⟨I131, I132, I133, T93, T94, A45, N86, N87, hv, hJ⟩ => ⟨I131, I132, I133, N86, N87, T93, T94, A45, hv, fun W1695 e2 y1695 n2 => ?_⟩
            clear hmk
            have h131 := ExJ.i hJ e2 y1695 n2
            clear hv hJ e2 n2
            simp only [Env.push, List.cons_append, List.nil_append, List.append_nil]
            have z1696 := ext_trans z1692 y1695
            have z1697 := ext_trans y1691 y1695
            have z1698 := ext_trans z1693 y1695
            have z1699 := ext_trans z1694 y1695
            refine den_grow fun W1700 y1700 => ?_
            have z1701 := ext_trans z1697 y1700
            have z1702 := ext_trans z1699 y1700
            have z1703 := ext_trans z1696 y1700
            have z1704 := ext_trans z1698 y1700
            refine den_newfe (l := [(.mk 2 0 0 [] [97] [])]) (n := 1) (by kernel_rfl) (exs_cons (ExAt.leaf _ _ 2 0 0 [] [97]) (exs_nil _ _)) rfl fun A46 W1705 y1705 hS46 hE46 => ?_
            simp only [Env.push, List.cons_append, List.nil_append, List.append_nil]
            have z1706 := ext_trans z1701 y1705
            have z1707 := ext_trans z1702 y1705
            have z1708 := ext_trans z1703 y1705
            have z1709 := ext_trans y1700 y1705
            have z1710 := ext_trans z1704 y1705
            refine den_grow fun W1711 y1711 => ?_
            have z1712 := ext_trans z1706 y1711
            have z1713 := ext_trans z1707 y1711
            have z1714 := ext_trans z1708 y1711
            have z1715 := ext_trans z1709 y1711
            have z1716 := ext_trans z1710 y1711
            refine den_newfe (n := 15) (by kernel_rfl) (tbx (hS46.ext y1711) (hE46.ext y1711) (hS44.ext z1712) (hE44.ext z1712) (hS42.ext z1716) (hE42.ext z1716) (h128.ext z1713) (h131.ext z1715)) rfl fun A47 W1717 y1717 hS47 hE47 => ?_
            simp only [Env.push, List.cons_append, List.nil_append, List.append_nil]
            have z1718 := ext_trans z1714 y1717
            refine den_grow fun W1719 y1719 => ?_
            have z1720 := ext_trans z1718 y1719
            exact l_lnames_22 (hG.ext z1720) (hT.ext z1720) (h99.ext z1720) (hS47.ext y1719) (hE47.ext y1719)
        · refine den_grow fun W1721 y1721 => ?_
          have z1722 := ext_trans z1585 y1721
          have z1723 := ext_trans z1586 y1721
          have hmk := op1_i 4 (.mk 0 0 0 [] [] []) [.int .u8 0, .int .u8 0, .int .i64 0, .string ⟨([] : Lx.Bs).toArray⟩, .string ⟨([] : Lx.Bs).toArray⟩, .slice none 0 0] W1721 (ExAt.leaf _ _ 0 0 0 [] [])
          refine den_call_i (fun _ _ => hmk) fun v w' _ ⟨I131, I132, I133, T93, T94, A44, N86, N87, hv, hJ⟩ => ⟨I131, I132, I133, N86, N87, T93, T94, A44, hv, fun W1724 e2 y1724 n2 => ?_⟩
          clear hmk
          have h131 := ExJ.i hJ e2 y1724 n2
          clear hv hJ e2 n2
          simp only [Env.push, List.cons_append, List.nil_append, List.append_nil]
          have z1725 := ext_trans z1722 y1724
          have z1726 := ext_trans z1723 y1724
          have z1727 := ext_trans y1721 y1724
          refine den_both ?_ ?_
          · refine den_grow fun W1728 y1728 => ?_
            have z1729 := ext_trans z1725 y1728
            have z1730 := ext_trans z1726 y1728
            have z1731 := ext_trans z1727 y1728
            refine den_newfe (l := [(.mk 2 0 0 [] [97] [])]) (n := 1) (by kernel_rfl) (exs_cons (ExAt.leaf _ _ 2 0 0 [] [97]) (exs_nil _ _)) rfl fun A45 W1732 y1732 hS45 hE45 => ?_
            simp only [Env.push, List.cons_append, List.nil_append, List.append_nil]
            have z1733 := ext_trans z1729 y1732
            have z1734 := ext_trans y1728 y1732
            have z1735 := ext_trans z1730 y1732
            have z1736 := ext_trans z1731 y1732
            refine den_grow fun W1737 y1737 => ?_
            have z1738 := ext_trans z1736 y1737
            have z1739 := ext_trans z1734 y1737
            have z1740 := ext_trans z1733 y1737
            have z1741 := ext_trans z1735 y1737
            refine den_newfe (l := [(.mk 2 0 0 [] [97] []), (.mk 2 0 0 [] [98] [])]) (n := 2) (by kernel_rfl) (exs_cons (ExAt.leaf _ _ 2 0 0 [] [97]) (exs_cons (ExAt.leaf _ _ 2 0 0 [] [98]) (exs_nil _ _))) rfl fun A46 W1742 y1742 hS46 hE46 => ?_
            simp only [Env.push, List.cons_append, List.nil_append, List.append_nil]
            have z1743 := ext_trans y1737 y1742
            have z1744 := ext_trans z1738 y1742
            have z1745 := ext_trans z1739 y1742
            have z1746 := ext_trans z1740 y1742
            have z1747 := ext_trans z1741 y1742
            refine den_grow fun W1748 y1748 => ?_
            have z1749 := ext_trans z1743 y1748
            have z1750 := ext_trans z1744 y1748
            have z1751 := ext_trans z1745 y1748
            have z1752 := ext_trans z1746 y1748
            have z1753 := ext_trans z1747 y1748
            refine den_newfe (n := 15) (by kernel_rfl) (tbx (hS45.ext z1749) (hE45.ext z1749) (hS46.ext y1748) (hE46.ext y1748) (hS42.ext z1753) (hE42.ext z1753) (h128.ext z1750) (h131.ext z1751)) rfl fun A47 W1754 y1754 hS47 hE47 => ?_
            simp only [Env.push, List.cons_append, List.nil_append, List.append_nil]
            have z1755 := ext_trans z1752 y1754
            refine den_grow fun W1756 y1756 => ?_
            have z1757 := ext_trans z1755 y1756
            exact l_lnames_22 (hG.ext z1757) (hT.ext z1757) (h99.ext z1757) (hS47.ext y1756) (hE47.ext y1756)
          · refine den_grow fun W1758 y1758 => ?_
            have z1759 := ext_trans z1725 y1758
            have z1760 := ext_trans z1726 y1758
            have z1761 := ext_trans z1727 y1758
            refine den_newfe (l := [(.mk 2 0 0 [] [97] []), (.mk 2 0 0 [] [98] [])]) (n := 2) (by kernel_rfl) (exs_cons (ExAt.leaf _ _ 2 0 0 [] [97]) (exs_cons (ExAt.leaf _ _ 2 0 0 [] [98]) (exs_nil _ _))) rfl fun A45 W1762 y1762 hS45 hE45 => ?_
            simp only [Env.push, List.cons_append, List.nil_append, List.append_nil]
            have z1763 := ext_trans z1759 y1762
            have z1764 := ext_trans y1758 y1762
            have z1765 := ext_trans z1760 y1762
            have z1766 := ext_trans z1761 y1762
            refine den_grow fun W1767 y1767 => ?_
            have z1768 := ext_trans z1766 y1767
            have z1769 := ext_trans z1764 y1767
            have z1770 := ext_trans z1763 y1767
            have z1771 := ext_trans z1765 y1767
            refine den_newfe (l := [(.mk 2 0 0 [] [97] [])]) (n := 1) (by kernel_rfl) (exs_cons (ExAt.leaf _ _ 2 0 0 [] [97]) (exs_nil _ _)) rfl fun A46 W1772 y1772 hS46 hE46 => ?_
            simp only [Env.push, List.cons_append, List.nil_append, List.append_nil]
            have z1773 := ext_trans z1768 y1772
            have z1774 := ext_trans y1767 y1772
            have z1775 := ext_trans z1769 y1772
            have z1776 := ext_trans z1770 y1772
            have z1777 := ext_trans z1771 y1772
            refine den_grow fun W1778 y1778 => ?_
            have z1779 := ext_trans z1773 y1778
            have z1780 := ext_trans z1774 y1778
            have z1781 := ext_trans z1775 y1778
            have z1782 := ext_trans z1776 y1778
            have z1783 := ext_trans z1777 y1778
            refine den_newfe (n := 15) (by kernel_rfl) (tbx (hS46.ext y1778) (hE46.ext y1778) (hS45.ext z1780) (hE45.ext z1780) (hS42.ext z1783) (hE42.ext z1783) (h128.ext z1779) (h131.ext z1781)) rfl fun A47 W1784 y1784 hS47 hE47 => ?_
            simp only [Env.push, List.cons_append, List.nil_append, List.append_nil]
            have z1785 := ext_trans z1782 y1784
            refine den_grow fun W1786 y1786 => ?_
            have z1787 := ext_trans z1785 y1786
            exact l_lnames_22 (hG.ext z1787) (hT.ext z1787) (h99.ext z1787) (hS47.ext y1786) (hE47.ext y1786)
set_option maxRecDepth 100000 in
theorem l_lnames_174 {n0 : Nat} {I9 I10 I11 I12 I13 I14 I15 I16 I17 I18 I19 I20 I21 I22 I23 I24 I25 I26 I27 I28 I29 I30 I31 I32 I33 I34 I35 I36 I37 I38 I39 I40 I41 I42 I43 I44 I45 I46 I47 I48 I49 I50 I51 I52 I53 I54 I55 I56 I57 I58 I59 I60 I61 I62 I63 I64 I65 I66 I67 I68 I72 I73 I74 I75 I76 I77 I78 I79 I80 I81 I82 I83 I90 I91 I92 I93 I94 I95 I99 I100 I101 I106 I107 I108 I109 I110 I111 : Int} {N6 N7 N8 N9 N10 N11 N12 N13 N14 N15 N16 N17 N18 N19 N20 N21 N22 N23 N24 N25 N26 N27 N28 N29 N30 N31 N32 N33 N34 N35 N36 N37 N38 N39 N40 N41 N42 N43 N44 N45 N48 N49 N50 N51 N52 N53 N54 N55 N60 N61 N62 N63 N66 N67 N70 N71 N72 N73 : Nat} {T6 T7 T8 T9 T10 T11 T12 T13 T14 T15 T16 T17 T18 T19 T20 T21 T22 T23 T24 T25 T26 T27 T28 T29 T30 T31 T32 T33 T34 T35 T36 T37 T38 T39 T40 T41 T42 T43 T44 T45 T48 T49 T50 T51 T52 T53 T54 T55 T60 T61 T62 T63 T71 T72 T76 T77 T78 T79 : ByteArray} {A3 A4 A5 A6 A7 A8 A9 A10 A11 A12 A13 A14 A15 A16 A17 A18 A19 A20 A21 A22 A24 A25 A26 A27 A30 A31 A33 A35 A36 : Option Addr} {M0 M1 M2 M3 M4 M5 M6 M7 M8 M9 M10 M11 M12 M13 M14 M15 M16 M17 M18 M19 M20 M21 M22 M23 M24 : Nat} {W : Wd} (hG : Glob W) (hT : Vs.Tabs W) (h99 : ExI W (Px.parse ((List.replicate 15 [45]).flatten ++ [97])).1 [.int .u8 I99, .int .u8 I100, .int .i64 I101, .string T71, .string T72, .slice A33 N66 N67]) :
    t_lnames_174.den Tryz.prog n0 (Ret fun u x => u = Value.bool true) [] { I := [2, 0, 0, 2, 0, 0, 2, 0, 0, I9, I10, I11, I12, I13, I14, I15, I16, I17, I18, I19, I20, I21, I22, I23, I24, I25, I26, I27, I28, I29, I30, I31, I32, I33, I34, I35, I36, I37, I38, I39, I40, I41, I42, I43, I44, I45, I46, I47, I48, I49, I50, I51, I52, I53, I54, I55, I56, I57, I58, I59, I60, I61, I62, I63, I64, I65, I66, I67, I68, 1, 1, 5, I72, I73, I74, I75, I76, I77, I78, I79, I80, I81, I82, I83, 1, 3, 0, 1, 1, 9223372036854775807, I90, I91, I92, I93, I94, I95, 2, 0, 0, I99, I100, I101, 0, 1, 3, 0, I106, I107, I108, I109, I110, I111, 40, 1, 1, (-1), 2, 0, 0, 2, 0, 0, 2, 0, 0, 2, 0, 0], N := [0, 0, 0, 0, 0, 0, N6, N7, N8, N9, N10, N11, N12, N13, N14, N15, N16, N17, N18, N19, N20, N21, N22, N23, N24, N25, N26, N27, N28, N29, N30, N31, N32, N33, N34, N35, N36, N37, N38, N39, N40, N41, N42, N43, N44, N45, 0, 0, N48, N49, N50, N51, N52, N53, N54, N55, 0, 0, 0, 0, N60, N61, N62, N63, 0, 0, N66, N67, 0, 0, N70, N71, N72, N73, 0, 0, 0, 0, 0, 0, 0, 0, 0, 0], B := [true, true, true, true, true, true, true, true, true, true, true, true, true, true, true, true, true, true, true, true, true, true, true, true, true, true, true, true, true, true, true, true, true, true, true, true, true, true, true, true, true, true, true], T := [⟨([] : Lx.Bs).toArray⟩, ⟨([97] : Lx.Bs).toArray⟩, ⟨([] : Lx.Bs).toArray⟩, ⟨([98] : Lx.Bs).toArray⟩, ⟨([] : Lx.Bs).toArray⟩, ⟨([99] : Lx.Bs).toArray⟩, T6, T7, T8, T9, T10, T11, T12, T13, T14, T15, T16, T17, T18, T19, T20, T21, T22, T23, T24, T25, T26, T27, T28, T29, T30, T31, T32, T33, T34, T35, T36, T37, T38, T39, T40, T41, T42, T43, T44, T45, ⟨([] : Lx.Bs).toArray⟩, ⟨([] : Lx.Bs).toArray⟩, T48, T49, T50, T51, T52, T53, T54, T55, ⟨([105, 116, 32] : Lx.Bs).toArray⟩, ⟨([] : Lx.Bs).toArray⟩, ⟨([] : Lx.Bs).toArray⟩, ⟨([] : Lx.Bs).toArray⟩, T60, T61, T62, T63, ⟨([] : Lx.Bs).toArray⟩, ⟨([110, 111, 95, 49] : Lx.Bs).toArray⟩, ⟨(List.replicate 15 [45]).flatten.toArray⟩, ⟨(List.replicate 101 [32]).flatten.toArray⟩, ⟨(List.replicate 48 [40]).flatten.toArray⟩, ⟨(List.replicate 48 [41]).flatten.toArray⟩, ⟨(List.replicate 51 [97, 43]).flatten.toArray⟩, T71, T72, ⟨(List.replicate 40 [120]).flatten.toArray⟩, ⟨((List.replicate 40 [120]).flatten : Lx.Bs).toArray⟩, ⟨([] : Lx.Bs).toArray⟩, T76, T77, T78, T79, ⟨(Px.show' (Px.op2 8 (Px.op2 8 (.mk 1 3 0 (List.replicate 40 [120]).flatten [] []) (.mk 1 3 0 (List.replicate 40 [120]).flatten [] [])) (.mk 1 3 0 (List.replicate 40 [120]).flatten [] []))).1.toArray⟩, ⟨([] : Lx.Bs).toArray⟩, ⟨([] : Lx.Bs).toArray⟩, ⟨([] : Lx.Bs).toArray⟩, ⟨([121, 101, 115] : Lx.Bs).toArray⟩, ⟨([] : Lx.Bs).toArray⟩, ⟨([108, 101, 110] : Lx.Bs).toArray⟩, ⟨([] : Lx.Bs).toArray⟩, ⟨([] : Lx.Bs).toArray⟩, ⟨([] : Lx.Bs).toArray⟩, ⟨([65] : Lx.Bs).toArray⟩], A := [none, none, none, A3, A4, A5, A6, A7, A8, A9, A10, A11, A12, A13, A14, A15, A16, A17, A18, A19, A20, A21, A22, none, A24, A25, A26, A27, none, none, A30, A31, none, A33, none, A35, A36, none, none, none, none, none], M := [M0, M1, M2, M3, M4, M5, M6, M7, M8, M9, M10, M11, M12, M13, M14, M15, M16, M17, M18, M19, M20, M21, M22, M23, M24] } W := by
  refine den_grow fun W1788 y1788 => ?_
  have hmk := op1_i 3 (Px.parse ((List.replicate 15 [45]).flatten ++ [97])).1 [.int .u8 I99, .int .u8 I100, .int .i64 I101, .string T71, .string T72, .slice A33 N66 N67] W1788 (h99.ext y1788)
  refine den_call_i (fun _ _ => hmk) fun v w' _ ⟨I128, I129, I130, T91, T92, A42, N84, N85, hv, hJ⟩ => ⟨I128, I129, I130, N84, N85, T91, T92, A42, hv, fun W1789 e2 y1789 n2 => ?_⟩
  clear hmk
  have h128 := ExJ.i hJ e2 y1789 n2
  clear hv hJ e2 n2
  simp only [Env.push, List.cons_append, List.nil_append, List.append_nil]
  have z1790 := ext_trans y1788 y1789
  refine den_both ?_ ?_
  · refine den_grow fun W1791 y1791 => ?_
    have z1792 := ext_trans z1790 y1791
    refine den_newfe (l := [(.mk 2 0 0 [] [97] [])]) (n := 1) (by kernel_rfl) (exs_cons (ExAt.leaf _ _ 2 0 0 [] [97]) (exs_nil _ _)) rfl fun A43 W1793 y1793 hS43 hE43 => ?_
    simp only [Env.push, List.cons_append, List.nil_append, List.append_nil]
    have z1794 := ext_trans z1792 y1793
    have z1795 := ext_trans y1791 y1793
    refine den_both ?_ ?_
    · refine den_grow fun W1796 y1796 => ?_
      have z1797 := ext_trans z1794 y1796
      have z1798 := ext_trans z1795 y1796
      refine den_newfe (l := [(.mk 2 0 0 [] [97] []), (.mk 2 0 0 [] [98] [])]) (n := 2) (by kernel_rfl) (exs_cons (ExAt.leaf _ _ 2 0 0 [] [97]) (exs_cons (ExAt.leaf _ _ 2 0 0 [] [98]) (exs_nil _ _))) rfl fun A44 W1799 y1799 hS44 hE44 => ?_
      simp only [Env.push, List.cons_append, List.nil_append, List.append_nil]
      have z1800 := ext_trans z1797 y1799
      have z1801 := ext_trans y1796 y1799
      have z1802 := ext_trans z1798 y1799
      refine den_both ?_ ?_
      · refine den_grow fun W1803 y1803 => ?_
        have z1804 := ext_trans z1800 y1803
        have z1805 := ext_trans z1801 y1803
        have z1806 := ext_trans z1802 y1803
        refine den_newfe (l := [(.mk 2 0 0 [] [97] [])]) (n := 1) (by kernel_rfl) (exs_cons (ExAt.leaf _ _ 2 0 0 [] [97]) (exs_nil _ _)) rfl fun A45 W1807 y1807 hS45 hE45 => ?_
        simp only [Env.push, List.cons_append, List.nil_append, List.append_nil]
        have z1808 := ext_trans z1804 y1807
        have z1809 := ext_trans y1803 y1807
        have z1810 := ext_trans z1805 y1807
        have z1811 := ext_trans z1806 y1807
        refine den_grow fun W1812 y1812 => ?_
        have z1813 := ext_trans z1810 y1812
        have z1814 := ext_trans z1811 y1812
        have z1815 := ext_trans z1808 y1812
        have z1816 := ext_trans z1809 y1812
        have hmk := op1_i 4 (.mk 0 0 0 [] [] []) [.int .u8 0, .int .u8 0, .int .i64 0, .string ⟨([] : Lx.Bs).toArray⟩, .string ⟨([] : Lx.Bs).toArray⟩, .slice none 0 0] W1812 (ExAt.leaf _ _ 0 0 0 [] [])
        refine den_call_i (fun _ _ => hmk) fun v w' _ ⟨I131, I132, I133, T93, T94, A46, N86, N87, hv, hJ⟩ => ⟨I131, I132, I133, N86, N87, T93, T94, A46, hv, fun W1817 e2 y1817 n2 => ?_⟩
        clear hmk
        have h131 := ExJ.i hJ e2 y1817 n2
        clear hv hJ e2 n2
        simp only [Env.push, List.cons_append, List.nil_append, List.append_nil]
        have z1818 := ext_trans y1812 y1817
        have z1819 := ext_trans z1813 y1817
        have z1820 := ext_trans z1814 y1817
        have z1821 := ext_trans z1815 y1817
        have z1822 := ext_trans z1816 y1817
        refine den_grow fun W1823 y1823 => ?_
        have z1824 := ext_trans z1818 y1823
        have z1825 := ext_trans z1819 y1823
        have z1826 := ext_trans z1820 y1823
        have z1827 := ext_trans z1821 y1823
        have z1828 := ext_trans z1822 y1823
        refine den_newfe (n := 15) (by kernel_rfl) (tbx (hS43.ext z1825) (hE43.ext z1825) (hS44.ext z1828) (hE44.ext z1828) (hS45.ext z1824) (hE45.ext z1824) (h128.ext z1826) (h131.ext y1823)) rfl fun A47 W1829 y1829 hS47 hE47 => ?_
        simp only [Env.push, List.cons_append, List.nil_append, List.append_nil]
        have z1830 := ext_trans z1827 y1829
        refine den_grow fun W1831 y1831 => ?_
        have z1832 := ext_trans z1830 y1831
        exact l_lnames_22 (hG.ext z1832) (hT.ext z1832) (h99.ext z1832) (hS47.ext y1831) (hE47.ext y1831)
      · refine den_grow fun W1833 y1833 => ?_
        have z1834 := ext_trans z1800 y1833
        have z1835 := ext_trans z1801 y1833
        have z1836 := ext_trans z1802 y1833
        have hmk := op1_i 4 (.mk 0 0 0 [] [] []) [.int .u8 0, .int .u8 0, .int .i64 0, .string ⟨([] : Lx.Bs).toArray⟩, .string ⟨([] : Lx.Bs).toArray⟩, .slice none 0 0] W1833 (ExAt.leaf _ _ 0 0 0 [] [])
        refine den_call_i (fun _ _ => hmk) fun v w' _ ⟨I131, I132, I133, T93, T94, A45, N86, N87, hv, hJ⟩ => ⟨I131, I132, I133, N86, N87, T93, T94, A45, hv, fun W1837 e2 y1837 n2 => ?_⟩
        clear hmk
        have h131 := ExJ.i hJ e2 y1837 n2
        clear hv hJ e2 n2
        simp only [Env.push, List.cons_append, List.nil_append, List.append_nil]
        have z1838 := ext_trans z1834 y1837
        have z1839 := ext_trans y1833 y1837
        have z1840 := ext_trans z1835 y1837
        have z1841 := ext_trans z1836 y1837
        refine den_grow fun W1842 y1842 => ?_
        have z1843 := ext_trans z1840 y1842
        have z1844 := ext_trans z1841 y1842
        have z1845 := ext_trans z1838 y1842
        have z1846 := ext_trans z1839 y1842
        refine den_newfe (l := [(.mk 2 0 0 [] [97] [])]) (n := 1) (by kernel_rfl) (exs_cons (ExAt.leaf _ _ 2 0 0 [] [97]) (exs_nil _ _)) rfl fun A46 W1847 y1847 hS46 hE46 => ?_
        simp only [Env.push, List.cons_append, List.nil_append, List.append_nil]
        have z1848 := ext_trans z1843 y1847
        have z1849 := ext_trans y1842 y1847
        have z1850 := ext_trans z1844 y1847
        have z1851 := ext_trans z1845 y1847
        have z1852 := ext_trans z1846 y1847
        refine den_grow fun W1853 y1853 => ?_
        have z1854 := ext_trans z1848 y1853
        have z1855 := ext_trans z1849 y1853
        have z1856 := ext_trans z1850 y1853
        have z1857 := ext_trans z1851 y1853
        have z1858 := ext_trans z1852 y1853
        refine den_newfe (n := 15) (by kernel_rfl) (tbx (hS43.ext z1854) (hE43.ext z1854) (hS44.ext z1858) (hE44.ext z1858) (hS46.ext y1853) (hE46.ext y1853) (h128.ext z1856) (h131.ext z1855)) rfl fun A47 W1859 y1859 hS47 hE47 => ?_
        simp only [Env.push, List.cons_append, List.nil_append, List.append_nil]
        have z1860 := ext_trans z1857 y1859
        refine den_grow fun W1861 y1861 => ?_
        have z1862 := ext_trans z1860 y1861
        exact l_lnames_22 (hG.ext z1862) (hT.ext z1862) (h99.ext z1862) (hS47.ext y1861) (hE47.ext y1861)
    · refine den_both ?_ ?_
      · refine den_grow fun W1863 y1863 => ?_
        have z1864 := ext_trans z1794 y1863
        have z1865 := ext_trans z1795 y1863
        refine den_newfe (l := [(.mk 2 0 0 [] [97] [])]) (n := 1) (by kernel_rfl) (exs_cons (ExAt.leaf _ _ 2 0 0 [] [97]) (exs_nil _ _)) rfl fun A44 W1866 y1866 hS44 hE44 => ?_
        simp only [Env.push, List.cons_append, List.nil_append, List.append_nil]
        have z1867 := ext_trans z1864 y1866
        have z1868 := ext_trans y1863 y1866
        have z1869 := ext_trans z1865 y1866
        refine den_both ?_ ?_
        · refine den_grow fun W1870 y1870 => ?_
          have z1871 := ext_trans z1867 y1870
          have z1872 := ext_trans z1868 y1870
          have z1873 := ext_trans z1869 y1870
          refine den_newfe (l := [(.mk 2 0 0 [] [97] []), (.mk 2 0 0 [] [98] [])]) (n := 2) (by kernel_rfl) (exs_cons (ExAt.leaf _ _ 2 0 0 [] [97]) (exs_cons (ExAt.leaf _ _ 2 0 0 [] [98]) (exs_nil _ _))) rfl fun A45 W1874 y1874 hS45 hE45 => ?_
          simp only [Env.push, List.cons_append, List.nil_append, List.append_nil]
          have z1875 := ext_trans z1871 y1874
          have z1876 := ext_trans y1870 y1874
          have z1877 := ext_trans z1872 y1874
          have z1878 := ext_trans z1873 y1874
          refine den_grow fun W1879 y1879 => ?_
          have z1880 := ext_trans z1877 y1879
          have z1881 := ext_trans z1876 y1879
          have z1882 := ext_trans z1878 y1879
          have z1883 := ext_trans z1875 y1879
          have hmk := op1_i 4 (.mk 0 0 0 [] [] []) [.int .u8 0, .int .u8 0, .int .i64 0, .string ⟨([] : Lx.Bs).toArray⟩, .string ⟨([] : Lx.Bs).toArray⟩, .slice none 0 0] W1879 (ExAt.leaf _ _ 0 0 0 [] [])
          refine den_call_i (fun _ _ => hmk) fun v w' _ ⟨I131, I132, I133, T93, T94, A46, N86, N87, hv, hJ⟩ => ⟨I131, I132, I133, N86, N87, T93, T94, A46, hv, fun W1884 e2 y1884 n2 => ?_⟩
          clear hmk
          have h131 := ExJ.i hJ e2 y1884 n2
          clear hv hJ e2 n2
          simp only [Env.push, List.cons_append, List.nil_append, List.append_nil]
          have z1885 := ext_trans y1879 y1884
          have z1886 := ext_trans z1880 y1884
          have z1887 := ext_trans z1881 y1884
          have z1888 := ext_trans z1882 y1884
          have z1889 := ext_trans z1883 y1884
          refine den_grow fun W1890 y1890 => ?_
          have z1891 := ext_trans z1885 y1890
          have z1892 := ext_trans z1886 y1890
          have z1893 := ext_trans z1887 y1890
          have z1894 := ext_trans z1888 y1890
          have z1895 := ext_trans z1889 y1890
          refine den_newfe (n := 15) (by kernel_rfl) (tbx (hS43.ext z1892) (hE43.ext z1892) (hS45.ext z1891) (hE45.ext z1891) (hS44.ext z1893) (hE44.ext z1893) (h128.ext z1894) (h131.ext y1890)) rfl fun A47 W1896 y1896 hS47 hE47 => ?_
          simp only [Env.push, List.cons_append, List.nil_append, List.append_nil]
          have z1897 := ext_trans z1895 y1896
          refine den_grow fun W1898 y1898 => ?_
          have z1899 := ext_trans z1897 y1898
          exact l_lnames_22 (hG.ext z1899) (hT.ext z1899) (h99.ext z1899) (hS47.ext y1898) (hE47.ext y1898)
        · refine den_grow fun W1900 y1900 => ?_
          have z1901 := ext_trans z1867 y1900
          have z1902 := ext_trans z1868 y1900
          have z1903 := ext_trans z1869 y1900
          have hmk := op1_i 4 (.mk 0 0 0 [] [] []) [.int .u8 0, .int .u8 0, .int .i64 0, .string ⟨([] : Lx.Bs).toArray⟩, .string ⟨([] : Lx.Bs).toArray⟩, .slice none 0 0] W1900 (ExAt.leaf _ _ 0 0 0 [] [])
          refine den_call_i (fun _ _ => hmk) fun v w' _ ⟨I131, I132, I133, T93, T94, A45, N86, N87, hv, hJ⟩ => ⟨I131, I132, I133, N86, N87, T93, T94, A45, hv, fun W1904 e2 y1904 n2 => ?_⟩
          clear hmk
          have h131 := ExJ.i hJ e2 y1904 n2
          clear hv hJ e2 n2
          simp only [Env.push, List.cons_append, List.nil_append, List.append_nil]
          have z1905 := ext_trans z1901 y1904
          have z1906 := ext_trans y1900 y1904
          have z1907 := ext_trans z1902 y1904
          have z1908 := ext_trans z1903 y1904
          refine den_grow fun W1909 y1909 => ?_
          have z1910 := ext_trans z1907 y1909
          have z1911 := ext_trans z1906 y1909
          have z1912 := ext_trans z1908 y1909
          have z1913 := ext_trans z1905 y1909
          refine den_newfe (l := [(.mk 2 0 0 [] [97] []), (.mk 2 0 0 [] [98] [])]) (n := 2) (by kernel_rfl) (exs_cons (ExAt.leaf _ _ 2 0 0 [] [97]) (exs_cons (ExAt.leaf _ _ 2 0 0 [] [98]) (exs_nil _ _))) rfl fun A46 W1914 y1914 hS46 hE46 => ?_
          simp only [Env.push, List.cons_append, List.nil_append, List.append_nil]
          have z1915 := ext_trans z1910 y1914
          have z1916 := ext_trans z1911 y1914
          have z1917 := ext_trans y1909 y1914
          have z1918 := ext_trans z1912 y1914
          have z1919 := ext_trans z1913 y1914
          refine den_grow fun W1920 y1920 => ?_
          have z1921 := ext_trans z1915 y1920
          have z1922 := ext_trans z1916 y1920
          have z1923 := ext_trans z1917 y1920
          have z1924 := ext_trans z1918 y1920
          have z1925 := ext_trans z1919 y1920
          refine den_newfe (n := 15) (by kernel_rfl) (tbx (hS43.ext z1921) (hE43.ext z1921) (hS46.ext y1920) (hE46.ext y1920) (hS44.ext z1922) (hE44.ext z1922) (h128.ext z1924) (h131.ext z1923)) rfl fun A47 W1926 y1926 hS47 hE47 => ?_
          simp only [Env.push, List.cons_append, List.nil_append, List.append_nil]
          have z1927 := ext_trans z1925 y1926
          refine den_grow fun W1928 y1928 => ?_
          have z1929 := ext_trans z1927 y1928
          exact l_lnames_22 (hG.ext z1929) (hT.ext z1929) (h99.ext z1929) (hS47.ext y1928) (hE47.ext y1928)
      · refine den_grow fun W1930 y1930 => ?_
        have z1931 := ext_trans z1794 y1930
        have z1932 := ext_trans z1795 y1930
        have hmk := op1_i 4 (.mk 0 0 0 [] [] []) [.int .u8 0, .int .u8 0, .int .i64 0, .string ⟨([] : Lx.Bs).toArray⟩, .string ⟨([] : Lx.Bs).toArray⟩, .slice none 0 0] W1930 (ExAt.leaf _ _ 0 0 0 [] [])
        refine den_call_i (fun _ _ => hmk) fun v w' _ ⟨I131, I132, I133, T93, T94, A44, N86, N87, hv, hJ⟩ => ⟨I131, I132, I133, N86, N87, T93, T94, A44, hv, fun W1933 e2 y1933 n2 => ?_⟩
        clear hmk
        have h131 := ExJ.i hJ e2 y1933 n2
        clear hv hJ e2 n2
        simp only [Env.push, List.cons_append, List.nil_append, List.append_nil]
        have z1934 := ext_trans z1931 y1933
        have z1935 := ext_trans y1930 y1933
        have z1936 := ext_trans z1932 y1933
        refine den_both ?_ ?_
        · refine den_grow fun W1937 y1937 => ?_
          have z1938 := ext_trans z1934 y1937
          have z1939 := ext_trans z1935 y1937
          have z1940 := ext_trans z1936 y1937
          refine den_newfe (l := [(.mk 2 0 0 [] [97] []), (.mk 2 0 0 [] [98] [])]) (n := 2) (by kernel_rfl) (exs_cons (ExAt.leaf _ _ 2 0 0 [] [97]) (exs_cons (ExAt.leaf _ _ 2 0 0 [] [98]) (exs_nil _ _))) rfl fun A45 W1941 y1941 hS45 hE45 => ?_
          simp only [Env.push, List.cons_append, List.nil_append, List.append_nil]
          have z1942 := ext_trans y1937 y1941
          have z1943 := ext_trans z1938 y1941
          have z1944 := ext_trans z1939 y1941
          have z1945 := ext_trans z1940 y1941
          refine den_grow fun W1946 y1946 => ?_
          have z1947 := ext_trans z1942 y1946
          have z1948 := ext_trans z1944 y1946
          have z1949 := ext_trans z1945 y1946
          have z1950 := ext_trans z1943 y1946
          refine den_newfe (l := [(.mk 2 0 0 [] [97] [])]) (n := 1) (by kernel_rfl) (exs_cons (ExAt.leaf _ _ 2 0 0 [] [97]) (exs_nil _ _)) rfl fun A46 W1951 y1951 hS46 hE46 => ?_
          simp only [Env.push, List.cons_append, List.nil_append, List.append_nil]
          have z1952 := ext_trans y1946 y1951
          have z1953 := ext_trans z1947 y1951
          have z1954 := ext_trans z1948 y1951
          have z1955 := ext_trans z1949 y1951
          have z1956 := ext_trans z1950 y1951
          refine den_grow fun W1957 y1957 => ?_
          have z1958 := ext_trans z1952 y1957
          have z1959 := ext_trans z1953 y1957
          have z1960 := ext_trans z1954 y1957
          have z1961 := ext_trans z1955 y1957
          have z1962 := ext_trans z1956 y1957
          refine den_newfe (n := 15) (by kernel_rfl) (tbx (hS43.ext z1960) (hE43.ext z1960) (hS45.ext z1958) (hE45.ext z1958) (hS46.ext y1957) (hE46.ext y1957) (h128.ext z1961) (h131.ext z1959)) rfl fun A47 W1963 y1963 hS47 hE47 => ?_
          simp only [Env.push, List.cons_append, List.nil_append, List.append_nil]
          have z1964 := ext_trans z1962 y1963
          refine den_grow fun W1965 y1965 => ?_
          have z1966 := ext_trans z1964 y1965
          exact l_lnames_22 (hG.ext z1966) (hT.ext z1966) (h99.ext z1966) (hS47.ext y1965) (hE47.ext y1965)
        · refine den_grow fun W1967 y1967 => ?_
          have z1968 := ext_trans z1934 y1967
          have z1969 := ext_trans z1935 y1967
          have z1970 := ext_trans z1936 y1967
          refine den_newfe (l := [(.mk 2 0 0 [] [97] [])]) (n := 1) (by kernel_rfl) (exs_cons (ExAt.leaf _ _ 2 0 0 [] [97]) (exs_nil _ _)) rfl fun A45 W1971 y1971 hS45 hE45 => ?_
          simp only [Env.push, List.cons_append, List.nil_append, List.append_nil]
          have z1972 := ext_trans y1967 y1971
          have z1973 := ext_trans z1968 y1971
          have z1974 := ext_trans z1969 y1971
          have z1975 := ext_trans z1970 y1971
          refine den_grow fun W1976 y1976 => ?_
          have z1977 := ext_trans z1972 y1976
          have z1978 := ext_trans z1974 y1976
          have z1979 := ext_trans z1975 y1976
          have z1980 := ext_trans z1973 y1976
          refine den_newfe (l := [(.mk 2 0 0 [] [97] []), (.mk 2 0 0 [] [98] [])]) (n := 2) (by kernel_rfl) (exs_cons (ExAt.leaf _ _ 2 0 0 [] [97]) (exs_cons (ExAt.leaf _ _ 2 0 0 [] [98]) (exs_nil _ _))) rfl fun A46 W1981 y1981 hS46 hE46 => ?_
          simp only [Env.push, List.cons_append, List.nil_append, List.append_nil]
          have z1982 := ext_trans z1977 y1981
          have z1983 := ext_trans z1978 y1981
          have z1984 := ext_trans z1979 y1981
          have z1985 := ext_trans z1980 y1981
          have z1986 := ext_trans y1976 y1981
          refine den_grow fun W1987 y1987 => ?_
          have z1988 := ext_trans z1982 y1987
          have z1989 := ext_trans z1983 y1987
          have z1990 := ext_trans z1984 y1987
          have z1991 := ext_trans z1985 y1987
          have z1992 := ext_trans z1986 y1987
          refine den_newfe (n := 15) (by kernel_rfl) (tbx (hS43.ext z1989) (hE43.ext z1989) (hS46.ext y1987) (hE46.ext y1987) (hS45.ext z1992) (hE45.ext z1992) (h128.ext z1990) (h131.ext z1988)) rfl fun A47 W1993 y1993 hS47 hE47 => ?_
          simp only [Env.push, List.cons_append, List.nil_append, List.append_nil]
          have z1994 := ext_trans z1991 y1993
          refine den_grow fun W1995 y1995 => ?_
          have z1996 := ext_trans z1994 y1995
          exact l_lnames_22 (hG.ext z1996) (hT.ext z1996) (h99.ext z1996) (hS47.ext y1995) (hE47.ext y1995)
  · refine den_both ?_ ?_
    · refine den_grow fun W1997 y1997 => ?_
      have z1998 := ext_trans z1790 y1997
      refine den_newfe (l := [(.mk 2 0 0 [] [97] []), (.mk 2 0 0 [] [98] [])]) (n := 2) (by kernel_rfl) (exs_cons (ExAt.leaf _ _ 2 0 0 [] [97]) (exs_cons (ExAt.leaf _ _ 2 0 0 [] [98]) (exs_nil _ _))) rfl fun A43 W1999 y1999 hS43 hE43 => ?_
      simp only [Env.push, List.cons_append, List.nil_append, List.append_nil]
      have z2000 := ext_trans z1998 y1999
      have z2001 := ext_trans y1997 y1999
      refine den_both ?_ ?_
      · refine den_grow fun W2002 y2002 => ?_
        have z2003 := ext_trans z2000 y2002
        have z2004 := ext_trans z2001 y2002
        refine den_newfe (l := [(.mk 2 0 0 [] [97] [])]) (n := 1) (by kernel_rfl) (exs_cons (ExAt.leaf _ _ 2 0 0 [] [97]) (exs_nil _ _)) rfl fun A44 W2005 y2005 hS44 hE44 => ?_
        simp only [Env.push, List.cons_append, List.nil_append, List.append_nil]
        have z2006 := ext_trans z2003 y2005
        have z2007 := ext_trans y2002 y2005
        have z2008 := ext_trans z2004 y2005
        refine den_both ?_ ?_
        · refine den_grow fun W2009 y2009 => ?_
          have z2010 := ext_trans z2006 y2009
          have z2011 := ext_trans z2007 y2009
          have z2012 := ext_trans z2008 y2009
          refine den_newfe (l := [(.mk 2 0 0 [] [97] [])]) (n := 1) (by kernel_rfl) (exs_cons (ExAt.leaf _ _ 2 0 0 [] [97]) (exs_nil _ _)) rfl fun A45 W2013 y2013 hS45 hE45 => ?_
          simp only [Env.push, List.cons_append, List.nil_append, List.append_nil]
          have z2014 := ext_trans z2010 y2013
          have z2015 := ext_trans y2009 y2013
          have z2016 := ext_trans z2011 y2013
          have z2017 := ext_trans z2012 y2013
          refine den_grow fun W2018 y2018 => ?_
          have z2019 := ext_trans z2016 y2018
          have z2020 := ext_trans z2015 y2018
          have z2021 := ext_trans z2017 y2018
          have z2022 := ext_trans z2014 y2018
          have hmk := op1_i 4 (.mk 0 0 0 [] [] []) [.int .u8 0, .int .u8 0, .int .i64 0, .string ⟨([] : Lx.Bs).toArray⟩, .string ⟨([] : Lx.Bs).toArray⟩, .slice none 0 0] W2018 (ExAt.leaf _ _ 0 0 0 [] [])
          refine den_call_i (fun _ _ => hmk) fun v w' _ ⟨I131, I132, I133, T93, T94, A46, N86, N87, hv, hJ⟩ => ⟨I131, I132, I133, N86, N87, T93, T94, A46, hv, fun W2023 e2 y2023 n2 => ?_⟩
          clear hmk
          have h131 := ExJ.i hJ e2 y2023 n2
          clear hv hJ e2 n2
          simp only [Env.push, List.cons_append, List.nil_append, List.append_nil]
          have z2024 := ext_trans z2019 y2023
          have z2025 := ext_trans z2020 y2023
          have z2026 := ext_trans y2018 y2023
          have z2027 := ext_trans z2021 y2023
          have z2028 := ext_trans z2022 y2023
          refine den_grow fun W2029 y2029 => ?_
          have z2030 := ext_trans z2024 y2029
          have z2031 := ext_trans z2025 y2029
          have z2032 := ext_trans z2026 y2029
          have z2033 := ext_trans z2027 y2029
          have z2034 := ext_trans z2028 y2029
          refine den_newfe (n := 15) (by kernel_rfl) (tbx (hS44.ext z2031) (hE44.ext z2031) (hS43.ext z2030) (hE43.ext z2030) (hS45.ext z2032) (hE45.ext z2032) (h128.ext z2033) (h131.ext y2029)) rfl fun A47 W2035 y2035 hS47 hE47 => ?_
          simp only [Env.push, List.cons_append, List.nil_append, List.append_nil]
          have z2036 := ext_trans z2034 y2035
          refine den_grow fun W2037 y2037 => ?_
          have z2038 := ext_trans z2036 y2037
          exact l_lnames_22 (hG.ext z2038) (hT.ext z2038) (h99.ext z2038) (hS47.ext y2037) (hE47.ext y2037)
        · refine den_grow fun W2039 y2039 => ?_
          have z2040 := ext_trans z2006 y2039
          have z2041 := ext_trans z2007 y2039
          have z2042 := ext_trans z2008 y2039
          have hmk := op1_i 4 (.mk 0 0 0 [] [] []) [.int .u8 0, .int .u8 0, .int .i64 0, .string ⟨([] : Lx.Bs).toArray⟩, .string ⟨([] : Lx.Bs).toArray⟩, .slice none 0 0] W2039 (ExAt.leaf _ _ 0 0 0 [] [])
          refine den_call_i (fun _ _ => hmk) fun v w' _ ⟨I131, I132, I133, T93, T94, A45, N86, N87, hv, hJ⟩ => ⟨I131, I132, I133, N86, N87, T93, T94, A45, hv, fun W2043 e2 y2043 n2 => ?_⟩
          clear hmk
          have h131 := ExJ.i hJ e2 y2043 n2
          clear hv hJ e2 n2
          simp only [Env.push, List.cons_append, List.nil_append, List.append_nil]
          have z2044 := ext_trans z2040 y2043
          have z2045 := ext_trans y2039 y2043
          have z2046 := ext_trans z2041 y2043
          have z2047 := ext_trans z2042 y2043
          refine den_grow fun W2048 y2048 => ?_
          have z2049 := ext_trans z2046 y2048
          have z2050 := ext_trans z2045 y2048
          have z2051 := ext_trans z2047 y2048
          have z2052 := ext_trans z2044 y2048
          refine den_newfe (l := [(.mk 2 0 0 [] [97] [])]) (n := 1) (by kernel_rfl) (exs_cons (ExAt.leaf _ _ 2 0 0 [] [97]) (exs_nil _ _)) rfl fun A46 W2053 y2053 hS46 hE46 => ?_
          simp only [Env.push, List.cons_append, List.nil_append, List.append_nil]
          have z2054 := ext_trans z2049 y2053
          have z2055 := ext_trans z2050 y2053
          have z2056 := ext_trans y2048 y2053
          have z2057 := ext_trans z2051 y2053
          have z2058 := ext_trans z2052 y2053
          refine den_grow fun W2059 y2059 => ?_
          have z2060 := ext_trans z2054 y2059
          have z2061 := ext_trans z2055 y2059
          have z2062 := ext_trans z2056 y2059
          have z2063 := ext_trans z2057 y2059
          have z2064 := ext_trans z2058 y2059
          refine den_newfe (n := 15) (by kernel_rfl) (tbx (hS44.ext z2061) (hE44.ext z2061) (hS43.ext z2060) (hE43.ext z2060) (hS46.ext y2059) (hE46.ext y2059) (h128.ext z2063) (h131.ext z2062)) rfl fun A47 W2065 y2065 hS47 hE47 => ?_
          simp only [Env.push, List.cons_append, List.nil_append, List.append_nil]
          have z2066 := ext_trans z2064 y2065
          refine den_grow fun W2067 y2067 => ?_
          have z2068 := ext_trans z2066 y2067
          exact l_lnames_22 (hG.ext z2068) (hT.ext z2068) (h99.ext z2068) (hS47.ext y2067) (hE47.ext y2067)
      · refine den_both ?_ ?_
        · refine den_grow fun W2069 y2069 => ?_
          have z2070 := ext_trans z2000 y2069
          have z2071 := ext_trans z2001 y2069
          refine den_newfe (l := [(.mk 2 0 0 [] [97] [])]) (n := 1) (by kernel_rfl) (exs_cons (ExAt.leaf _ _ 2 0 0 [] [97]) (exs_nil _ _)) rfl fun A44 W2072 y2072 hS44 hE44 => ?_
          simp only [Env.push, List.cons_append, List.nil_append, List.append_nil]
          have z2073 := ext_trans z2070 y2072
          have z2074 := ext_trans y2069 y2072
          have z2075 := ext_trans z2071 y2072
          refine den_both ?_ ?_
          · refine den_grow fun W2076 y2076 => ?_
            have z2077 := ext_trans z2073 y2076
            have z2078 := ext_trans z2074 y2076
            have z2079 := ext_trans z2075 y2076
            refine den_newfe (l := [(.mk 2 0 0 [] [97] [])]) (n := 1) (by kernel_rfl) (exs_cons (ExAt.leaf _ _ 2 0 0 [] [97]) (exs_nil _ _)) rfl fun A45 W2080 y2080 hS45 hE45 => ?_
            simp only [Env.push, List.cons_append, List.nil_append, List.append_nil]
            have z2081 := ext_trans z2077 y2080
            have z2082 := ext_trans z2078 y2080
            have z2083 := ext_trans y2076 y2080
            have z2084 := ext_trans z2079 y2080
            refine den_grow fun W2085 y2085 => ?_
            have z2086 := ext_trans z2082 y2085
            have z2087 := ext_trans z2083 y2085
            have z2088 := ext_trans z2084 y2085
            have z2089 := ext_trans z2081 y2085
            have hmk := op1_i 4 (.mk 0 0 0 [] [] []) [.int .u8 0, .int .u8 0, .int .i64 0, .string ⟨([] : Lx.Bs).toArray⟩, .string ⟨([] : Lx.Bs).toArray⟩, .slice none 0 0] W2085 (ExAt.leaf _ _ 0 0 0 [] [])
            refine den_call_i (fun _ _ => hmk) fun v w' _ ⟨I131, I132, I133, T93, T94, A46, N86, N87, hv, hJ⟩ => ⟨I131, I132, I133, N86, N87, T93, T94, A46, hv, fun W2090 e2 y2090 n2 => ?_⟩
            clear hmk
            have h131 := ExJ.i hJ e2 y2090 n2
            clear hv hJ e2 n2
            simp only [Env.push, List.cons_append, List.nil_append, List.append_nil]
            have z2091 := ext_trans z2086 y2090
            have z2092 := ext_trans z2087 y2090
            have z2093 := ext_trans z2088 y2090
            have z2094 := ext_trans y2085 y2090
            have z2095 := ext_trans z2089 y2090
            refine den_grow fun W2096 y2096 => ?_
            have z2097 := ext_trans z2091 y2096
            have z2098 := ext_trans z2092 y2096
            have z2099 := ext_trans z2093 y2096
            have z2100 := ext_trans z2094 y2096
            have z2101 := ext_trans z2095 y2096
            refine den_newfe (n := 15) (by kernel_rfl) (tbx (hS45.ext z2100) (hE45.ext z2100) (hS43.ext z2097) (hE43.ext z2097) (hS44.ext z2098) (hE44.ext z2098) (h128.ext z2099) (h131.ext y2096)) rfl fun A47 W2102 y2102 hS47 hE47 => ?_
            simp only [Env.push, List.cons_append, List.nil_append, List.append_nil]
            have z2103 := ext_trans z2101 y2102
            refine den_grow fun W2104 y2104 => ?_
            have z2105 := ext_trans z2103 y2104
            exact l_lnames_22 (hG.ext z2105) (hT.ext z2105) (h99.ext z2105) (hS47.ext y2104) (hE47.ext y2104)
          · refine den_grow fun W2106 y2106 => ?_
            have z2107 := ext_trans z2073 y2106
            have z2108 := ext_trans z2074 y2106
            have z2109 := ext_trans z2075 y2106
            have hmk := op1_i 4 (.mk 0 0 0 [] [] []) [.int .u8 0, .int .u8 0, .int .i64 0, .string ⟨([] : Lx.Bs).toArray⟩, .string ⟨([] : Lx.Bs).toArray⟩, .slice none 0 0] W2106 (ExAt.leaf _ _ 0 0 0 [] [])
            refine den_call_i (fun _ _ => hmk) fun v w' _ ⟨I131, I132, I133, T93, T94, A45, N86, N87, hv, hJ⟩ => ⟨I131, I132, I133, N86, N87, T93, T94, A45, hv, fun W2110 e2 y2110 n2 => ?_⟩
            clear hmk
            have h131 := ExJ.i hJ e2 y2110 n2
            clear hv hJ e2 n2
            simp only [Env.push, List.cons_append, List.nil_append, List.append_nil]
            have z2111 := ext_trans z2107 y2110
            have z2112 := ext_trans z2108 y2110
            have z2113 := ext_trans y2106 y2110
            have z2114 := ext_trans z2109 y2110
            refine den_grow fun W2115 y2115 => ?_
            have z2116 := ext_trans z2112 y2115
            have z2117 := ext_trans z2113 y2115
            have z2118 := ext_trans z2114 y2115
            have z2119 := ext_trans z2111 y2115
            refine den_newfe (l := [(.mk 2 0 0 [] [97] [])]) (n := 1) (by kernel_rfl) (exs_cons (ExAt.leaf _ _ 2 0 0 [] [97]) (exs_nil _ _)) rfl fun A46 W2120 y2120 hS46 hE46 => ?_
            simp only [Env.push, List.cons_append, List.nil_append, List.append_nil]
            have z2121 := ext_trans z2116 y2120
            have z2122 := ext_trans z2117 y2120
            have z2123 := ext_trans z2118 y2120
            have z2124 := ext_trans y2115 y2120
            have z2125 := ext_trans z2119 y2120
            refine den_grow fun W2126 y2126 => ?_
            have z2127 := ext_trans z2121 y2126
            have z2128 := ext_trans z2122 y2126
            have z2129 := ext_trans z2123 y2126
            have z2130 := ext_trans z2124 y2126
            have z2131 := ext_trans z2125 y2126
            refine den_newfe (n := 15) (by kernel_rfl) (tbx (hS46.ext y2126) (hE46.ext y2126) (hS43.ext z2127) (hE43.ext z2127) (hS44.ext z2128) (hE44.ext z2128) (h128.ext z2129) (h131.ext z2130)) rfl fun A47 W2132 y2132 hS47 hE47 => ?_
            simp only [Env.push, List.cons_append, List.nil_append, List.append_nil]
            have z2133 := ext_trans z2131 y2132
            refine den_grow fun W2134 y2134 => ?_
            have z2135 := ext_trans z2133 y2134
            exact l_lnames_22 (hG.ext z2135) (hT.ext z2135) (h99.ext z2135) (hS47.ext y2134) (hE47.ext y2134)
        · refine den_grow fun W2136 y2136 => ?_
          have z2137 := ext_trans z2000 y2136
          have z2138 := ext_trans z2001 y2136
          have hmk := op1_i 4 (.mk 0 0 0 [] [] []) [.int .u8 0, .int .u8 0, .int .i64 0, .string ⟨([] : Lx.Bs).toArray⟩, .string ⟨([] : Lx.Bs).toArray⟩, .slice none 0 0] W2136 (ExAt.leaf _ _ 0 0 0 [] [])
          refine den_call_i (fun _ _ => hmk) fun v w' _ ⟨I131, I132, I133, T93, T94, A44, N86, N87, hv, hJ⟩ => ⟨I131, I132, I133, N86, N87, T93, T94, A44, hv, fun W2139 e2 y2139 n2 => ?_⟩
          clear hmk
          have h131 := ExJ.i hJ e2 y2139 n2
          clear hv hJ e2 n2
          simp only [Env.push, List.cons_append, List.nil_append, List.append_nil]
          have z2140 := ext_trans z2137 y2139
          have z2141 := ext_trans y2136 y2139
          have z2142 := ext_trans z2138 y2139
          refine den_both ?_ ?_
          · refine den_grow fun W2143 y2143 => ?_
            have z2144 := ext_trans z2140 y2143
            have z2145 := ext_trans z2141 y2143
            have z2146 := ext_trans z2142 y2143
            refine den_newfe (l := [(.mk 2 0 0 [] [97] [])]) (n := 1) (by kernel_rfl) (exs_cons (ExAt.leaf _ _ 2 0 0 [] [97]) (exs_nil _ _)) rfl fun A45 W2147 y2147 hS45 hE45 => ?_
            simp only [Env.push, List.cons_append, List.nil_append, List.append_nil]
            have z2148 := ext_trans y2143 y2147
            have z2149 := ext_trans z2144 y2147
            have z2150 := ext_trans z2145 y2147
            have z2151 := ext_trans z2146 y2147
            refine den_grow fun W2152 y2152 => ?_
            have z2153 := ext_trans z2150 y2152
            have z2154 := ext_trans z2148 y2152
            have z2155 := ext_trans z2151 y2152
            have z2156 := ext_trans z2149 y2152
            refine den_newfe (l := [(.mk 2 0 0 [] [97] [])]) (n := 1) (by kernel_rfl) (exs_cons (ExAt.leaf _ _ 2 0 0 [] [97]) (exs_nil _ _)) rfl fun A46 W2157 y2157 hS46 hE46 => ?_
            simp only [Env.push, List.cons_append, List.nil_append, List.append_nil]
            have z2158 := ext_trans z2153 y2157
            have z2159 := ext_trans y2152 y2157
            have z2160 := ext_trans z2154 y2157
            have z2161 := ext_trans z2155 y2157
            have z2162 := ext_trans z2156 y2157
            refine den_grow fun W2163 y2163 => ?_
            have z2164 := ext_trans z2158 y2163
            have z2165 := ext_trans z2159 y2163
            have z2166 := ext_trans z2160 y2163
            have z2167 := ext_trans z2161 y2163
            have z2168 := ext_trans z2162 y2163
            refine den_newfe (n := 15) (by kernel_rfl) (tbx (hS45.ext z2165) (hE45.ext z2165) (hS43.ext z2164) (hE43.ext z2164) (hS46.ext y2163) (hE46.ext y2163) (h128.ext z2167) (h131.ext z2166)) rfl fun A47 W2169 y2169 hS47 hE47 => ?_
            simp only [Env.push, List.cons_append, List.nil_append, List.append_nil]
            have z2170 := ext_trans z2168 y2169
            refine den_grow fun W2171 y2171 => ?_
            have z2172 := ext_trans z2170 y2171
            exact l_lnames_22 (hG.ext z2172) (hT.ext z2172) (h99.ext z2172) (hS47.ext y2171) (hE47.ext y2171)
          · refine den_grow fun W2173 y2173 => ?_
            have z2174 := ext_trans z2140 y2173
            have z2175 := ext_trans z2141 y2173
            have z2176 := ext_trans z2142 y2173
            refine den_newfe (l := [(.mk 2 0 0 [] [97] [])]) (n := 1) (by kernel_rfl) (exs_cons (ExAt.leaf _ _ 2 0 0 [] [97]) (exs_nil _ _)) rfl fun A45 W2177 y2177 hS45 hE45 => ?_
            simp only [Env.push, List.cons_append, List.nil_append, List.append_nil]
            have z2178 := ext_trans y2173 y2177
            have z2179 := ext_trans z2174 y2177
            have z2180 := ext_trans z2175 y2177
            have z2181 := ext_trans z2176 y2177
            refine den_grow fun W2182 y2182 => ?_
            have z2183 := ext_trans z2180 y2182
            have z2184 := ext_trans z2178 y2182
            have z2185 := ext_trans z2181 y2182
            have z2186 := ext_trans z2179 y2182
            refine den_newfe (l := [(.mk 2 0 0 [] [97] [])]) (n := 1) (by kernel_rfl) (exs_cons (ExAt.leaf _ _ 2 0 0 [] [97]) (exs_nil _ _)) rfl fun A46 W2187 y2187 hS46 hE46 => ?_
            simp only [Env.push, List.cons_append, List.nil_append, List.append_nil]
            have z2188 := ext_trans y2182 y2187
            have z2189 := ext_trans z2183 y2187
            have z2190 := ext_trans z2184 y2187
            have z2191 := ext_trans z2185 y2187
            have z2192 := ext_trans z2186 y2187
            refine den_grow fun W2193 y2193 => ?_
            have z2194 := ext_trans z2188 y2193
            have z2195 := ext_trans z2189 y2193
            have z2196 := ext_trans z2190 y2193
            have z2197 := ext_trans z2191 y2193
            have z2198 := ext_trans z2192 y2193
            refine den_newfe (n := 15) (by kernel_rfl) (tbx (hS46.ext y2193) (hE46.ext y2193) (hS43.ext z2195) (hE43.ext z2195) (hS45.ext z2194) (hE45.ext z2194) (h128.ext z2197) (h131.ext z2196)) rfl fun A47 W2199 y2199 hS47 hE47 => ?_
            simp only [Env.push, List.cons_append, List.nil_append, List.append_nil]
            have z2200 := ext_trans z2198 y2199
            refine den_grow fun W2201 y2201 => ?_
            have z2202 := ext_trans z2200 y2201
            exact l_lnames_22 (hG.ext z2202) (hT.ext z2202) (h99.ext z2202) (hS47.ext y2201) (hE47.ext y2201)
    · refine den_both ?_ ?_
      · refine den_grow fun W2203 y2203 => ?_
        have z2204 := ext_trans z1790 y2203
        refine den_newfe (l := [(.mk 2 0 0 [] [97] [])]) (n := 1) (by kernel_rfl) (exs_cons (ExAt.leaf _ _ 2 0 0 [] [97]) (exs_nil _ _)) rfl fun A43 W2205 y2205 hS43 hE43 => ?_
        simp only [Env.push, List.cons_append, List.nil_append, List.append_nil]
        have z2206 := ext_trans z2204 y2205
        have z2207 := ext_trans y2203 y2205
        refine den_both ?_ ?_
        · refine den_grow fun W2208 y2208 => ?_
          have z2209 := ext_trans z2206 y2208
          have z2210 := ext_trans z2207 y2208
          refine den_newfe (l := [(.mk 2 0 0 [] [97] [])]) (n := 1) (by kernel_rfl) (exs_cons (ExAt.leaf _ _ 2 0 0 [] [97]) (exs_nil _ _)) rfl fun A44 W2211 y2211 hS44 hE44 => ?_
          simp only [Env.push, List.cons_append, List.nil_append, List.append_nil]
          have z2212 := ext_trans y2208 y2211
          have z2213 := ext_trans z2209 y2211
          have z2214 := ext_trans z2210 y2211
          refine den_both ?_ ?_
          · refine den_grow fun W2215 y2215 => ?_
            have z2216 := ext_trans z2212 y2215
            have z2217 := ext_trans z2213 y2215
            have z2218 := ext_trans z2214 y2215
            refine den_newfe (l := [(.mk 2 0 0 [] [97] []), (.mk 2 0 0 [] [98] [])]) (n := 2) (by kernel_rfl) (exs_cons (ExAt.leaf _ _ 2 0 0 [] [97]) (exs_cons (ExAt.leaf _ _ 2 0 0 [] [98]) (exs_nil _ _))) rfl fun A45 W2219 y2219 hS45 hE45 => ?_
            simp only [Env.push, List.cons_append, List.nil_append, List.append_nil]
            have z2220 := ext_trans z2216 y2219
            have z2221 := ext_trans z2217 y2219
            have z2222 := ext_trans z2218 y2219
            have z2223 := ext_trans y2215 y2219
            refine den_grow fun W2224 y2224 => ?_
            have z2225 := ext_trans z2220 y2224
            have z2226 := ext_trans z2223 y2224
            have z2227 := ext_trans z2222 y2224
            have z2228 := ext_trans z2221 y2224
            have hmk := op1_i 4 (.mk 0 0 0 [] [] []) [.int .u8 0, .int .u8 0, .int .i64 0, .string ⟨([] : Lx.Bs).toArray⟩, .string ⟨([] : Lx.Bs).toArray⟩, .slice none 0 0] W2224 (ExAt.leaf _ _ 0 0 0 [] [])
            refine den_call_i (fun _ _ => hmk) fun v w' _ ⟨I131, I132, I133, T93, T94, A46, N86, N87, hv, hJ⟩ => ⟨I131, I132, I133, N86, N87, T93, T94, A46, hv, fun W2229 e2 y2229 n2 => ?_⟩
            clear hmk
            have h131 := ExJ.i hJ e2 y2229 n2
            clear hv hJ e2 n2
            simp only [Env.push, List.cons_append, List.nil_append, List.append_nil]
            have z2230 := ext_trans z2225 y2229
            have z2231 := ext_trans z2226 y2229
            have z2232 := ext_trans y2224 y2229
            have z2233 := ext_trans z2227 y2229
            have z2234 := ext_trans z2228 y2229
            refine den_grow fun W2235 y2235 => ?_
            have z2236 := ext_trans z2230 y2235
            have z2237 := ext_trans z2231 y2235
            have z2238 := ext_trans z2232 y2235
            have z2239 := ext_trans z2233 y2235
            have z2240 := ext_trans z2234 y2235
            refine den_newfe (n := 15) (by kernel_rfl) (tbx (hS44.ext z2237) (hE44.ext z2237) (hS45.ext z2238) (hE45.ext z2238) (hS43.ext z2236) (hE43.ext z2236) (h128.ext z2239) (h131.ext y2235)) rfl fun A47 W2241 y2241 hS47 hE47 => ?_
            simp only [Env.push, List.cons_append, List.nil_append, List.append_nil]
            have z2242 := ext_trans z2240 y2241
            refine den_grow fun W2243 y2243 => ?_
            have z2244 := ext_trans z2242 y2243
            exact l_lnames_22 (hG.ext z2244) (hT.ext z2244) (h99.ext z2244) (hS47.ext y2243) (hE47.ext y2243)
          · refine den_grow fun W2245 y2245 => ?_
            have z2246 := ext_trans z2212 y2245
            have z2247 := ext_trans z2213 y2245
            have z2248 := ext_trans z2214 y2245
            have hmk := op1_i 4 (.mk 0 0 0 [] [] []) [.int .u8 0, .int .u8 0, .int .i64 0, .string ⟨([] : Lx.Bs).toArray⟩, .string ⟨([] : Lx.Bs).toArray⟩, .slice none 0 0] W2245 (ExAt.leaf _ _ 0 0 0 [] [])
            refine den_call_i (fun _ _ => hmk) fun v w' _ ⟨I131, I132, I133, T93, T94, A45, N86, N87, hv, hJ⟩ => ⟨I131, I132, I133, N86, N87, T93, T94, A45, hv, fun W2249 e2 y2249 n2 => ?_⟩
            clear hmk
            have h131 := ExJ.i hJ e2 y2249 n2
            clear hv hJ e2 n2
            simp only [Env.push, List.cons_append, List.nil_append, List.append_nil]
            have z2250 := ext_trans z2246 y2249
            have z2251 := ext_trans z2247 y2249
            have z2252 := ext_trans z2248 y2249
            have z2253 := ext_trans y2245 y2249
            refine den_grow fun W2254 y2254 => ?_
            have z2255 := ext_trans z2250 y2254
            have z2256 := ext_trans z2253 y2254
            have z2257 := ext_trans z2252 y2254
            have z2258 := ext_trans z2251 y2254
            refine den_newfe (l := [(.mk 2 0 0 [] [97] []), (.mk 2 0 0 [] [98] [])]) (n := 2) (by kernel_rfl) (exs_cons (ExAt.leaf _ _ 2 0 0 [] [97]) (exs_cons (ExAt.leaf _ _ 2 0 0 [] [98]) (exs_nil _ _))) rfl fun A46 W2259 y2259 hS46 hE46 => ?_
            simp only [Env.push, List.cons_append, List.nil_append, List.append_nil]
            have z2260 := ext_trans z2255 y2259
            have z2261 := ext_trans z2256 y2259
            have z2262 := ext_trans z2257 y2259
            have z2263 := ext_trans y2254 y2259
            have z2264 := ext_trans z2258 y2259
            refine den_grow fun W2265 y2265 => ?_
            have z2266 := ext_trans z2260 y2265
            have z2267 := ext_trans z2261 y2265
            have z2268 := ext_trans z2262 y2265
            have z2269 := ext_trans z2263 y2265
            have z2270 := ext_trans z2264 y2265
            refine den_newfe (n := 15) (by kernel_rfl) (tbx (hS44.ext z2267) (hE44.ext z2267) (hS46.ext y2265) (hE46.ext y2265) (hS43.ext z2266) (hE43.ext z2266) (h128.ext z2268) (h131.ext z2269)) rfl fun A47 W2271 y2271 hS47 hE47 => ?_
            simp only [Env.push, List.cons_append, List.nil_append, List.append_nil]
            have z2272 := ext_trans z2270 y2271
            refine den_grow fun W2273 y2273 => ?_
            have z2274 := ext_trans z2272 y2273
            exact l_lnames_22 (hG.ext z2274) (hT.ext z2274) (h99.ext z2274) (hS47.ext y2273) (hE47.ext y2273)
        · refine den_both ?_ ?_
          · refine den_grow fun W2275 y2275 => ?_
            have z2276 := ext_trans z2206 y2275
            have z2277 := ext_trans z2207 y2275
            refine den_newfe (l := [(.mk 2 0 0 [] [97] []), (.mk 2 0 0 [] [98] [])]) (n := 2) (by kernel_rfl) (exs_cons (ExAt.leaf _ _ 2 0 0 [] [97]) (exs_cons (ExAt.leaf _ _ 2 0 0 [] [98]) (exs_nil _ _))) rfl fun A44 W2278 y2278 hS44 hE44 => ?_
            simp only [Env.push, List.cons_append, List.nil_append, List.append_nil]
            have z2279 := ext_trans y2275 y2278
            have z2280 := ext_trans z2276 y2278
            have z2281 := ext_trans z2277 y2278
            refine den_both ?_ ?_
            · refine den_grow fun W2282 y2282 => ?_
              have z2283 := ext_trans z2279 y2282
              have z2284 := ext_trans z2280 y2282
              have z2285 := ext_trans z2281 y2282
              refine den_newfe (l := [(.mk 2 0 0 [] [97] [])]) (n := 1) (by kernel_rfl) (exs_cons (ExAt.leaf _ _ 2 0 0 [] [97]) (exs_nil _ _)) rfl fun A45 W2286 y2286 hS45 hE45 => ?_
              simp only [Env.push, List.cons_append, List.nil_append, List.append_nil]
              have z2287 := ext_trans z2283 y2286
              have z2288 := ext_trans z2284 y2286
              have z2289 := ext_trans y2282 y2286
              have z2290 := ext_trans z2285 y2286
              refine den_grow fun W2291 y2291 => ?_
              have z2292 := ext_trans z2287 y2291
              have z2293 := ext_trans z2289 y2291
              have z2294 := ext_trans z2290 y2291
              have z2295 := ext_trans z2288 y2291
              have hmk := op1_i 4 (.mk 0 0 0 [] [] []) [.int .u8 0, .int .u8 0, .int .i64 0, .string ⟨([] : Lx.Bs).toArray⟩, .string ⟨([] : Lx.Bs).toArray⟩, .slice none 0 0] W2291 (ExAt.leaf _ _ 0 0 0 [] [])
              refine den_call_i (fun _ _ => hmk) fun v w' _ ⟨I131, I132, I133, T93, T94, A46, N86, N87, hv, hJ⟩ => ⟨I131, I132, I133, N86, N87, T93, T94, A46, hv, fun W2296 e2 y2296 n2 => ?_⟩
              clear hmk
              have h131 := ExJ.i hJ e2 y2296 n2
              clear hv hJ e2 n2
              simp only [Env.push, List.cons_append, List.nil_append, List.append_nil]
              have z2297 := ext_trans z2292 y2296
              have z2298 := ext_trans z2293 y2296
              have z2299 := ext_trans y2291 y2296
              have z2300 := ext_trans z2294 y2296
              have z2301 := ext_trans z2295 y2296
              refine den_grow fun W2302 y2302 => ?_
              have z2303 := ext_trans z2297 y2302
              have z2304 := ext_trans z2298 y2302
              have z2305 := ext_trans z2299 y2302
              have z2306 := ext_trans z2300 y2302
              have z2307 := ext_trans z2301 y2302
              refine den_newfe (n := 15) (by kernel_rfl) (tbx (hS45.ext z2305) (hE45.ext z2305) (hS44.ext z2304) (hE44.ext z2304) (hS43.ext z2303) (hE43.ext z2303) (h128.ext z2306) (h131.ext y2302)) rfl fun A47 W2308 y2308 hS47 hE47 => ?_
              simp only [Env.push, List.cons_append, List.nil_append, List.append_nil]
              have z2309 := ext_trans z2307 y2308
              refine den_grow fun W2310 y2310 => ?_
              have z2311 := ext_trans z2309 y2310
              exact l_lnames_22 (hG.ext z2311) (hT.ext z2311) (h99.ext z2311) (hS47.ext y2310) (hE47.ext y2310)
            · refine den_grow fun W2312 y2312 => ?_
              have z2313 := ext_trans z2279 y2312
              have z2314 := ext_trans z2280 y2312
              have z2315 := ext_trans z2281 y2312
              have hmk := op1_i 4 (.mk 0 0 0 [] [] []) [.int .u8 0, .int .u8 0, .int .i64 0, .string ⟨([] : Lx.Bs).toArray⟩, .string ⟨([] : Lx.Bs).toArray⟩, .slice none 0 0] W2312 (ExAt.leaf _ _ 0 0 0 [] [])
              refine den_call_i (fun _ _ => hmk) fun v w' _ ⟨I131, I132, I133, T93, T94, A45, N86, N87, hv, hJ⟩ => ⟨I131, I132, I133, N86, N87, T93, T94, A45, hv, fun W2316 e2 y2316 n2 => ?_⟩
              clear hmk
              have h131 := ExJ.i hJ e2 y2316 n2
              clear hv hJ e2 n2
              simp only [Env.push, List.cons_append, List.nil_append, List.append_nil]
              have z2317 := ext_trans z2313 y2316
              have z2318 := ext_trans z2314 y2316
              have z2319 := ext_trans y2312 y2316
              have z2320 := ext_trans z2315 y2316
              refine den_grow fun W2321 y2321 => ?_
              have z2322 := ext_trans z2317 y2321
              have z2323 := ext_trans z2319 y2321
              have z2324 := ext_trans z2320 y2321
              have z2325 := ext_trans z2318 y2321
              refine den_newfe (l := [(.mk 2 0 0 [] [97] [])]) (n := 1) (by kernel_rfl) (exs_cons (ExAt.leaf _ _ 2 0 0 [] [97]) (exs_nil _ _)) rfl fun A46 W2326 y2326 hS46 hE46 => ?_
              simp only [Env.push, List.cons_append, List.nil_append, List.append_nil]
              have z2327 := ext_trans z2322 y2326
              have z2328 := ext_trans z2323 y2326
              have z2329 := ext_trans y2321 y2326
              have z2330 := ext_trans z2324 y2326
              have z2331 := ext_trans z2325 y2326
              refine den_grow fun W2332 y2332 => ?_
              have z2333 := ext_trans z2327 y2332
              have z2334 := ext_trans z2328 y2332
              have z2335 := ext_trans z2329 y2332
              have z2336 := ext_trans z2330 y2332
              have z2337 := ext_trans z2331 y2332
              refine den_newfe (n := 15) (by kernel_rfl) (tbx (hS46.ext y2332) (hE46.ext y2332) (hS44.ext z2334) (hE44.ext z2334) (hS43.ext z2333) (hE43.ext z2333) (h128.ext z2336) (h131.ext z2335)) rfl fun A47 W2338 y2338 hS47 hE47 => ?_
              simp only [Env.push, List.cons_append, List.nil_append, List.append_nil]
              have z2339 := ext_trans z2337 y2338
              refine den_grow fun W2340 y2340 => ?_
              have z2341 := ext_trans z2339 y2340
              exact l_lnames_22 (hG.ext z2341) (hT.ext z2341) (h99.ext z2341) (hS47.ext y2340) (hE47.ext y2340)
          · refine den_grow fun W2342 y2342 => ?_
            have z2343 := ext_trans z2206 y2342
            have z2344 := ext_trans z2207 y2342
            have hmk := op1_i 4 (.mk 0 0 0 [] [] []) [.int .u8 0, .int .u8 0, .int .i64 0, .string ⟨([] : Lx.Bs).toArray⟩, .string ⟨([] : Lx.Bs).toArray⟩, .slice none 0 0] W2342 (ExAt.leaf _ _ 0 0 0 [] [])
            refine den_call_i (fun _ _ => hmk) fun v w' _ ⟨I131, I132, I133, T93, T94, A44, N86, N87, hv, hJ⟩ => ⟨I131, I132, I133, N86, N87, T93, T94, A44, hv, fun W2345 e2 y2345 n2 => ?_⟩
            clear hmk
            have h131 := ExJ.i hJ e2 y2345 n2
            clear hv hJ e2 n2
            simp only [Env.push, List.cons_append, List.nil_append, List.append_nil]
            have z2346 := ext_trans y2342 y2345
            have z2347 := ext_trans z2343 y2345
            have z2348 := ext_trans z2344 y2345
            refine den_both ?_ ?_
            · refine den_grow fun W2349 y2349 => ?_
              have z2350 := ext_trans z2346 y2349
              have z2351 := ext_trans z2347 y2349
              have z2352 := ext_trans z2348 y2349
              refine den_newfe (l := [(.mk 2 0 0 [] [97] [])]) (n := 1) (by kernel_rfl) (exs_cons (ExAt.leaf _ _ 2 0 0 [] [97]) (exs_nil _ _)) rfl fun A45 W2353 y2353 hS45 hE45 => ?_
              simp only [Env.push, List.cons_append, List.nil_append, List.append_nil]
              have z2354 := ext_trans z2350 y2353
              have z2355 := ext_trans z2351 y2353
              have z2356 := ext_trans z2352 y2353
              have z2357 := ext_trans y2349 y2353
              refine den_grow fun W2358 y2358 => ?_
              have z2359 := ext_trans z2354 y2358
              have z2360 := ext_trans z2356 y2358
              have z2361 := ext_trans z2357 y2358
              have z2362 := ext_trans z2355 y2358
              refine den_newfe (l := [(.mk 2 0 0 [] [97] []), (.mk 2 0 0 [] [98] [])]) (n := 2) (by kernel_rfl) (exs_cons (ExAt.leaf _ _ 2 0 0 [] [97]) (exs_cons (ExAt.leaf _ _ 2 0 0 [] [98]) (exs_nil _ _))) rfl fun A46 W2363 y2363 hS46 hE46 => ?_
              simp only [Env.push, List.cons_append, List.nil_append, List.append_nil]
              have z2364 := ext_trans z2359 y2363
              have z2365 := ext_trans y2358 y2363
              have z2366 := ext_trans z2360 y2363
              have z2367 := ext_trans z2361 y2363
              have z2368 := ext_trans z2362 y2363
              refine den_grow fun W2369 y2369 => ?_
              have z2370 := ext_trans z2364 y2369
              have z2371 := ext_trans z2365 y2369
              have z2372 := ext_trans z2366 y2369
              have z2373 := ext_trans z2367 y2369
              have z2374 := ext_trans z2368 y2369
              refine den_newfe (n := 15) (by kernel_rfl) (tbx (hS45.ext z2371) (hE45.ext z2371) (hS46.ext y2369) (hE46.ext y2369) (hS43.ext z2370) (hE43.ext z2370) (h128.ext z2372) (h131.ext z2373)) rfl fun A47 W2375 y2375 hS47 hE47 => ?_
              simp only [Env.push, List.cons_append, List.nil_append, List.append_nil]
              have z2376 := ext_trans z2374 y2375
              refine den_grow fun W2377 y2377 => ?_
              have z2378 := ext_trans z2376 y2377
              exact l_lnames_22 (hG.ext z2378) (hT.ext z2378) (h99.ext z2378) (hS47.ext y2377) (hE47.ext y2377)
            · refine den_grow fun W2379 y2379 => ?_
              have z2380 := ext_trans z2346 y2379
              have z2381 := ext_trans z2347 y2379
              have z2382 := ext_trans z2348 y2379
              refine den_newfe (l := [(.mk 2 0 0 [] [97] []), (.mk 2 0 0 [] [98] [])]) (n := 2) (by kernel_rfl) (exs_cons (ExAt.leaf _ _ 2 0 0 [] [97]) (exs_cons (ExAt.leaf _ _ 2 0 0 [] [98]) (exs_nil _ _))) rfl fun A45 W2383 y2383 hS45 hE45 => ?_
              simp only [Env.push, List.cons_append, List.nil_append, List.append_nil]
              have z2384 := ext_trans z2380 y2383
              have z2385 := ext_trans z2381 y2383
              have z2386 := ext_trans z2382 y2383
              have z2387 := ext_trans y2379 y2383
              refine den_grow fun W2388 y2388 => ?_
              have z2389 := ext_trans z2384 y2388
              have z2390 := ext_trans z2386 y2388
              have z2391 := ext_trans z2387 y2388
              have z2392 := ext_trans z2385 y2388
              refine den_newfe (l := [(.mk 2 0 0 [] [97] [])]) (n := 1) (by kernel_rfl) (exs_cons (ExAt.leaf _ _ 2 0 0 [] [97]) (exs_nil _ _)) rfl fun A46 W2393 y2393 hS46 hE46 => ?_
              simp only [Env.push, List.cons_append, List.nil_append, List.append_nil]
              have z2394 := ext_trans z2389 y2393
              have z2395 := ext_trans y2388 y2393
              have z2396 := ext_trans z2390 y2393
              have z2397 := ext_trans z2391 y2393
              have z2398 := ext_trans z2392 y2393
              refine den_grow fun W2399 y2399 => ?_
              have z2400 := ext_trans z2394 y2399
              have z2401 := ext_trans z2395 y2399
              have z2402 := ext_trans z2396 y2399
              have z2403 := ext_trans z2397 y2399
              have z2404 := ext_trans z2398 y2399
              refine den_newfe (n := 15) (by kernel_rfl) (tbx (hS46.ext y2399) (hE46.ext y2399) (hS45.ext z2401) (hE45.ext z2401) (hS43.ext z2400) (hE43.ext z2400) (h128.ext z2402) (h131.ext z2403)) rfl fun A47 W2405 y2405 hS47 hE47 => ?_
              simp only [Env.push, List.cons_append, List.nil_append, List.append_nil]
              have z2406 := ext_trans z2404 y2405
              refine den_grow fun W2407 y2407 => ?_
              have z2408 := ext_trans z2406 y2407
              exact l_lnames_22 (hG.ext z2408) (hT.ext z2408) (h99.ext z2408) (hS47.ext y2407) (hE47.ext y2407)
      · refine den_grow fun W2409 y2409 => ?_
        have z2410 := ext_trans z1790 y2409
        have hmk := op1_i 4 (.mk 0 0 0 [] [] []) [.int .u8 0, .int .u8 0, .int .i64 0, .string ⟨([] : Lx.Bs).toArray⟩, .string ⟨([] : Lx.Bs).toArray⟩, .slice none 0 0] W2409 (ExAt.leaf _ _ 0 0 0 [] [])
        refine den_call_i (fun _ _ => hmk) fun v w' _ ⟨I131, I132, I133, T93, T94, A43, N86, N87, hv, hJ⟩ => ⟨I131, I132, I133, N86, N87, T93, T94, A43, hv, fun W2411 e2 y2411 n2 => ?_⟩
        clear hmk
        have h131 := ExJ.i hJ e2 y2411 n2
        clear hv hJ e2 n2
        simp only [Env.push, List.cons_append, List.nil_append, List.append_nil]
        have z2412 := ext_trans z2410 y2411
        have z2413 := ext_trans y2409 y2411
        refine den_both ?_ ?_
        · refine den_grow fun W2414 y2414 => ?_
          have z2415 := ext_trans z2412 y2414
          have z2416 := ext_trans z2413 y2414
          refine den_newfe (l := [(.mk 2 0 0 [] [97] [])]) (n := 1) (by kernel_rfl) (exs_cons (ExAt.leaf _ _ 2 0 0 [] [97]) (exs_nil _ _)) rfl fun A44 W2417 y2417 hS44 hE44 => ?_
          simp only [Env.push, List.cons_append, List.nil_append, List.append_nil]
          have z2418 := ext_trans y2414 y2417
          have z2419 := ext_trans z2415 y2417
          have z2420 := ext_trans z2416 y2417
          refine den_both ?_ ?_
          · refine den_grow fun W2421 y2421 => ?_
            have z2422 := ext_trans z2418 y2421
            have z2423 := ext_trans z2419 y2421
            have z2424 := ext_trans z2420 y2421
            refine den_newfe (l := [(.mk 2 0 0 [] [97] []), (.mk 2 0 0 [] [98] [])]) (n := 2) (by kernel_rfl) (exs_cons (ExAt.leaf _ _ 2 0 0 [] [97]) (exs_cons (ExAt.leaf _ _ 2 0 0 [] [98]) (exs_nil _ _))) rfl fun A45 W2425 y2425 hS45 hE45 => ?_
            simp only [Env.push, List.cons_append, List.nil_append, List.append_nil]
            have z2426 := ext_trans z2422 y2425
            have z2427 := ext_trans z2423 y2425
            have z2428 := ext_trans y2421 y2425
            have z2429 := ext_trans z2424 y2425
            refine den_grow fun W2430 y2430 => ?_
            have z2431 := ext_trans z2426 y2430
            have z2432 := ext_trans z2428 y2430
            have z2433 := ext_trans z2429 y2430
            have z2434 := ext_trans z2427 y2430
            refine den_newfe (l := [(.mk 2 0 0 [] [97] [])]) (n := 1) (by kernel_rfl) (exs_cons (ExAt.leaf _ _ 2 0 0 [] [97]) (exs_nil _ _)) rfl fun A46 W2435 y2435 hS46 hE46 => ?_
            simp only [Env.push, List.cons_append, List.nil_append, List.append_nil]
            have z2436 := ext_trans z2431 y2435
            have z2437 := ext_trans y2430 y2435
            have z2438 := ext_trans z2432 y2435
            have z2439 := ext_trans z2433 y2435
            have z2440 := ext_trans z2434 y2435
            refine den_grow fun W2441 y2441 => ?_
            have z2442 := ext_trans z2436 y2441
            have z2443 := ext_trans z2437 y2441
            have z2444 := ext_trans z2438 y2441
            have z2445 := ext_trans z2439 y2441
            have z2446 := ext_trans z2440 y2441
            refine den_newfe (n := 15) (by kernel_rfl) (tbx (hS44.ext z2444) (hE44.ext z2444) (hS45.ext z2443) (hE45.ext z2443) (hS46.ext y2441) (hE46.ext y2441) (h128.ext z2445) (h131.ext z2442)) rfl fun A47 W2447 y2447 hS47 hE47 => ?_
            simp only [Env.push, List.cons_append, List.nil_append, List.append_nil]
            have z2448 := ext_trans z2446 y2447
            refine den_grow fun W2449 y2449 => ?_
            have z2450 := ext_trans z2448 y2449
            exact l_lnames_22 (hG.ext z2450) (hT.ext z2450) (h99.ext z2450) (hS47.ext y2449) (hE47.ext y2449)
          · refine den_grow fun W2451 y2451 => ?_
            have z2452 := ext_trans z2418 y2451
            have z2453 := ext_trans z2419 y2451
            have z2454 := ext_trans z2420 y2451
            refine den_newfe (l := [(.mk 2 0 0 [] [97] [])]) (n := 1) (by kernel_rfl) (exs_cons (ExAt.leaf _ _ 2 0 0 [] [97]) (exs_nil _ _)) rfl fun A45 W2455 y2455 hS45 hE45 => ?_
            simp only [Env.push, List.cons_append, List.nil_append, List.append_nil]
            have z2456 := ext_trans z2452 y2455
            have z2457 := ext_trans z2453 y2455
            have z2458 := ext_trans y2451 y2455
            have z2459 := ext_trans z2454 y2455
            refine den_grow fun W2460 y2460 => ?_
            have z2461 := ext_trans z2456 y2460
            have z2462 := ext_trans z2458 y2460
            have z2463 := ext_trans z2459 y2460
            have z2464 := ext_trans z2457 y2460
            refine den_newfe (l := [(.mk 2 0 0 [] [97] []), (.mk 2 0 0 [] [98] [])]) (n := 2) (by kernel_rfl) (exs_cons (ExAt.leaf _ _ 2 0 0 [] [97]) (exs_cons (ExAt.leaf _ _ 2 0 0 [] [98]) (exs_nil _ _))) rfl fun A46 W2465 y2465 hS46 hE46 => ?_
            simp only [Env.push, List.cons_append, List.nil_append, List.append_nil]
            have z2466 := ext_trans z2461 y2465
            have z2467 := ext_trans z2462 y2465
            have z2468 := ext_trans y2460 y2465
            have z2469 := ext_trans z2463 y2465
            have z2470 := ext_trans z2464 y2465
            refine den_grow fun W2471 y2471 => ?_
            have z2472 := ext_trans z2466 y2471
            have z2473 := ext_trans z2467 y2471
            have z2474 := ext_trans z2468 y2471
            have z2475 := ext_trans z2469 y2471
            have z2476 := ext_trans z2470 y2471
            refine den_newfe (n := 15) (by kernel_rfl) (tbx (hS44.ext z2473) (hE44.ext z2473) (hS46.ext y2471) (hE46.ext y2471) (hS45.ext z2474) (hE45.ext z2474) (h128.ext z2475) (h131.ext z2472)) rfl fun A47 W2477 y2477 hS47 hE47 => ?_
            simp only [Env.push, List.cons_append, List.nil_append, List.append_nil]
            have z2478 := ext_trans z2476 y2477
            refine den_grow fun W2479 y2479 => ?_
            have z2480 := ext_trans z2478 y2479
            exact l_lnames_22 (hG.ext z2480) (hT.ext z2480) (h99.ext z2480) (hS47.ext y2479) (hE47.ext y2479)
        · refine den_both ?_ ?_
          · refine den_grow fun W2481 y2481 => ?_
            have z2482 := ext_trans z2412 y2481
            have z2483 := ext_trans z2413 y2481
            refine den_newfe (l := [(.mk 2 0 0 [] [97] []), (.mk 2 0 0 [] [98] [])]) (n := 2) (by kernel_rfl) (exs_cons (ExAt.leaf _ _ 2 0 0 [] [97]) (exs_cons (ExAt.leaf _ _ 2 0 0 [] [98]) (exs_nil _ _))) rfl fun A44 W2484 y2484 hS44 hE44 => ?_
            simp only [Env.push, List.cons_append, List.nil_append, List.append_nil]
            have z2485 := ext_trans y2481 y2484
            have z2486 := ext_trans z2482 y2484
            have z2487 := ext_trans z2483 y2484
            refine den_both ?_ ?_
            · refine den_grow fun W2488 y2488 => ?_
              have z2489 := ext_trans z2485 y2488
              have z2490 := ext_trans z2486 y2488
              have z2491 := ext_trans z2487 y2488
              refine den_newfe (l := [(.mk 2 0 0 [] [97] [])]) (n := 1) (by kernel_rfl) (exs_cons (ExAt.leaf _ _ 2 0 0 [] [97]) (exs_nil _ _)) rfl fun A45 W2492 y2492 hS45 hE45 => ?_
              simp only [Env.push, List.cons_append, List.nil_append, List.append_nil]
              have z2493 := ext_trans y2488 y2492
              have z2494 := ext_trans z2489 y2492
              have z2495 := ext_trans z2490 y2492
              have z2496 := ext_trans z2491 y2492
              refine den_grow fun W2497 y2497 => ?_
              have z2498 := ext_trans z2493 y2497
              have z2499 := ext_trans z2494 y2497
              have z2500 := ext_trans z2496 y2497
              have z2501 := ext_trans z2495 y2497
              refine den_newfe (l := [(.mk 2 0 0 [] [97] [])]) (n := 1) (by kernel_rfl) (exs_cons (ExAt.leaf _ _ 2 0 0 [] [97]) (exs_nil _ _)) rfl fun A46 W2502 y2502 hS46 hE46 => ?_
              simp only [Env.push, List.cons_append, List.nil_append, List.append_nil]
              have z2503 := ext_trans z2498 y2502
              have z2504 := ext_trans z2499 y2502
              have z2505 := ext_trans y2497 y2502
              have z2506 := ext_trans z2500 y2502
              have z2507 := ext_trans z2501 y2502
              refine den_grow fun W2508 y2508 => ?_
              have z2509 := ext_trans z2503 y2508
              have z2510 := ext_trans z2504 y2508
              have z2511 := ext_trans z2505 y2508
              have z2512 := ext_trans z2506 y2508
              have z2513 := ext_trans z2507 y2508
              refine den_newfe (n := 15) (by kernel_rfl) (tbx (hS45.ext z2511) (hE45.ext z2511) (hS44.ext z2509) (hE44.ext z2509) (hS46.ext y2508) (hE46.ext y2508) (h128.ext z2512) (h131.ext z2510)) rfl fun A47 W2514 y2514 hS47 hE47 => ?_
              simp only [Env.push, List.cons_append, List.nil_append, List.append_nil]
              have z2515 := ext_trans z2513 y2514
              refine den_grow fun W2516 y2516 => ?_
              have z2517 := ext_trans z2515 y2516
              exact l_lnames_22 (hG.ext z2517) (hT.ext z2517) (h99.ext z2517) (hS47.ext y2516) (hE47.ext y2516)
            · refine den_grow fun W2518 y2518 => ?_
              have z2519 := ext_trans z2485 y2518
              have z2520 := ext_trans z2486 y2518
              have z2521 := ext_trans z2487 y2518
              refine den_newfe (l := [(.mk 2 0 0 [] [97] [])]) (n := 1) (by kernel_rfl) (exs_cons (ExAt.leaf _ _ 2 0 0 [] [97]) (exs_nil _ _)) rfl fun A45 W2522 y2522 hS45 hE45 => ?_
              simp only [Env.push, List.cons_append, List.nil_append, List.append_nil]
              have z2523 := ext_trans y2518 y2522
              have z2524 := ext_trans z2519 y2522
              have z2525 := ext_trans z2520 y2522
              have z2526 := ext_trans z2521 y2522
              refine den_grow fun W2527 y2527 => ?_
              have z2528 := ext_trans z2523 y2527
              have z2529 := ext_trans z2524 y2527
              have z2530 := ext_trans z2526 y2527
              have z2531 := ext_trans z2525 y2527
              refine den_newfe (l := [(.mk 2 0 0 [] [97] [])]) (n := 1) (by kernel_rfl) (exs_cons (ExAt.leaf _ _ 2 0 0 [] [97]) (exs_nil _ _)) rfl fun A46 W2532 y2532 hS46 hE46 => ?_
              simp only [Env.push, List.cons_append, List.nil_append, List.append_nil]
              have z2533 := ext_trans z2528 y2532
              have z2534 := ext_trans z2529 y2532
              have z2535 := ext_trans y2527 y2532
              have z2536 := ext_trans z2530 y2532
              have z2537 := ext_trans z2531 y2532
              refine den_grow fun W2538 y2538 => ?_
              have z2539 := ext_trans z2533 y2538
              have z2540 := ext_trans z2534 y2538
              have z2541 := ext_trans z2535 y2538
              have z2542 := ext_trans z2536 y2538
              have z2543 := ext_trans z2537 y2538
              refine den_newfe (n := 15) (by kernel_rfl) (tbx (hS46.ext y2538) (hE46.ext y2538) (hS44.ext z2539) (hE44.ext z2539) (hS45.ext z2541) (hE45.ext z2541) (h128.ext z2542) (h131.ext z2540)) rfl fun A47 W2544 y2544 hS47 hE47 => ?_
              simp only [Env.push, List.cons_append, List.nil_append, List.append_nil]
              have z2545 := ext_trans z2543 y2544
              refine den_grow fun W2546 y2546 => ?_
              have z2547 := ext_trans z2545 y2546
              exact l_lnames_22 (hG.ext z2547) (hT.ext z2547) (h99.ext z2547) (hS47.ext y2546) (hE47.ext y2546)
          · refine den_grow fun W2548 y2548 => ?_
            have z2549 := ext_trans z2412 y2548
            have z2550 := ext_trans z2413 y2548
            refine den_newfe (l := [(.mk 2 0 0 [] [97] [])]) (n := 1) (by kernel_rfl) (exs_cons (ExAt.leaf _ _ 2 0 0 [] [97]) (exs_nil _ _)) rfl fun A44 W2551 y2551 hS44 hE44 => ?_
            simp only [Env.push, List.cons_append, List.nil_append, List.append_nil]
            have z2552 := ext_trans y2548 y2551
            have z2553 := ext_trans z2549 y2551
            have z2554 := ext_trans z2550 y2551
            refine den_both ?_ ?_
            · refine den_grow fun W2555 y2555 => ?_
              have z2556 := ext_trans z2552 y2555
              have z2557 := ext_trans z2553 y2555
              have z2558 := ext_trans z2554 y2555
              refine den_newfe (l := [(.mk 2 0 0 [] [97] [])]) (n := 1) (by kernel_rfl) (exs_cons (ExAt.leaf _ _ 2 0 0 [] [97]) (exs_nil _ _)) rfl fun A45 W2559 y2559 hS45 hE45 => ?_
              simp only [Env.push, List.cons_append, List.nil_append, List.append_nil]
              have z2560 := ext_trans y2555 y2559
              have z2561 := ext_trans z2556 y2559
              have z2562 := ext_trans z2557 y2559
              have z2563 := ext_trans z2558 y2559
              refine den_grow fun W2564 y2564 => ?_
              have z2565 := ext_trans z2560 y2564
              have z2566 := ext_trans z2561 y2564
              have z2567 := ext_trans z2563 y2564
              have z2568 := ext_trans z2562 y2564
              refine den_newfe (l := [(.mk 2 0 0 [] [97] []), (.mk 2 0 0 [] [98] [])]) (n := 2) (by kernel_rfl) (exs_cons (ExAt.leaf _ _ 2 0 0 [] [97]) (exs_cons (ExAt.leaf _ _ 2 0 0 [] [98]) (exs_nil _ _))) rfl fun A46 W2569 y2569 hS46 hE46 => ?_
              simp only [Env.push, List.cons_append, List.nil_append, List.append_nil]
              have z2570 := ext_trans z2565 y2569
              have z2571 := ext_trans z2566 y2569
              have z2572 := ext_trans y2564 y2569
              have z2573 := ext_trans z2567 y2569
              have z2574 := ext_trans z2568 y2569
              refine den_grow fun W2575 y2575 => ?_
              have z2576 := ext_trans z2570 y2575
              have z2577 := ext_trans z2571 y2575
              have z2578 := ext_trans z2572 y2575
              have z2579 := ext_trans z2573 y2575
              have z2580 := ext_trans z2574 y2575
              refine den_newfe (n := 15) (by kernel_rfl) (tbx (hS45.ext z2578) (hE45.ext z2578) (hS46.ext y2575) (hE46.ext y2575) (hS44.ext z2576) (hE44.ext z2576) (h128.ext z2579) (h131.ext z2577)) rfl fun A47 W2581 y2581 hS47 hE47 => ?_
              simp only [Env.push, List.cons_append, List.nil_append, List.append_nil]
              have z2582 := ext_trans z2580 y2581
              refine den_grow fun W2583 y2583 => ?_
              have z2584 := ext_trans z2582 y2583
              exact l_lnames_22 (hG.ext z2584) (hT.ext z2584) (h99.ext z2584) (hS47.ext y2583) (hE47.ext y2583)
            · refine den_grow fun W2585 y2585 => ?_
              have z2586 := ext_trans z2552 y2585
              have z2587 := ext_trans z2553 y2585
              have z2588 := ext_trans z2554 y2585
              refine den_newfe (l := [(.mk 2 0 0 [] [97] []), (.mk 2 0 0 [] [98] [])]) (n := 2) (by kernel_rfl) (exs_cons (ExAt.leaf _ _ 2 0 0 [] [97]) (exs_cons (ExAt.leaf _ _ 2 0 0 [] [98]) (exs_nil _ _))) rfl fun A45 W2589 y2589 hS45 hE45 => ?_
              simp only [Env.push, List.cons_append, List.nil_append, List.append_nil]
              have z2590 := ext_trans y2585 y2589
              have z2591 := ext_trans z2586 y2589
              have z2592 := ext_trans z2587 y2589
              have z2593 := ext_trans z2588 y2589
              refine den_grow fun W2594 y2594 => ?_
              have z2595 := ext_trans z2590 y2594
              have z2596 := ext_trans z2591 y2594
              have z2597 := ext_trans z2593 y2594
              have z2598 := ext_trans z2592 y2594
              refine den_newfe (l := [(.mk 2 0 0 [] [97] [])]) (n := 1) (by kernel_rfl) (exs_cons (ExAt.leaf _ _ 2 0 0 [] [97]) (exs_nil _ _)) rfl fun A46 W2599 y2599 hS46 hE46 => ?_
              simp only [Env.push, List.cons_append, List.nil_append, List.append_nil]
              have z2600 := ext_trans z2595 y2599
              have z2601 := ext_trans z2596 y2599
              have z2602 := ext_trans y2594 y2599
              have z2603 := ext_trans z2597 y2599
              have z2604 := ext_trans z2598 y2599
              refine den_grow fun W2605 y2605 => ?_
              have z2606 := ext_trans z2600 y2605
              have z2607 := ext_trans z2601 y2605
              have z2608 := ext_trans z2602 y2605
              have z2609 := ext_trans z2603 y2605
              have z2610 := ext_trans z2604 y2605
              refine den_newfe (n := 15) (by kernel_rfl) (tbx (hS46.ext y2605) (hE46.ext y2605) (hS45.ext z2608) (hE45.ext z2608) (hS44.ext z2606) (hE44.ext z2606) (h128.ext z2609) (h131.ext z2607)) rfl fun A47 W2611 y2611 hS47 hE47 => ?_
              simp only [Env.push, List.cons_append, List.nil_append, List.append_nil]
              have z2612 := ext_trans z2610 y2611
              refine den_grow fun W2613 y2613 => ?_
              have z2614 := ext_trans z2612 y2613
              exact l_lnames_22 (hG.ext z2614) (hT.ext z2614) (h99.ext z2614) (hS47.ext y2613) (hE47.ext y2613)
set_option maxRecDepth 100000 in
theorem l_lnames_180 {n0 : Nat} {I9 I10 I11 I12 I13 I14 I15 I16 I17 I18 I19 I20 I21 I22 I23 I24 I25 I26 I27 I28 I29 I30 I31 I32 I33 I34 I35 I36 I37 I38 I39 I40 I41 I42 I43 I44 I45 I46 I47 I48 I49 I50 I51 I52 I53 I54 I55 I56 I57 I58 I59 I60 I61 I62 I63 I64 I65 I66 I67 I68 I72 I73 I74 I75 I76 I77 I78 I79 I80 I81 I82 I83 I90 I91 I92 I93 I94 I95 I99 I100 I101 I106 I107 I108 I109 I110 I111 : Int} {N6 N7 N8 N9 N10 N11 N12 N13 N14 N15 N16 N17 N18 N19 N20 N21 N22 N23 N24 N25 N26 N27 N28 N29 N30 N31 N32 N33 N34 N35 N36 N37 N38 N39 N40 N41 N42 N43 N44 N45 N48 N49 N50 N51 N52 N53 N54 N55 N60 N61 N62 N63 N66 N67 N70 N71 N72 N73 : Nat} {T6 T7 T8 T9 T10 T11 T12 T13 T14 T15 T16 T17 T18 T19 T20 T21 T22 T23 T24 T25 T26 T27 T28 T29 T30 T31 T32 T33 T34 T35 T36 T37 T38 T39 T40 T41 T42 T43 T44 T45 T48 T49 T50 T51 T52 T53 T54 T55 T60 T61 T62 T63 T71 T72 T76 T77 T78 T79 : ByteArray} {A3 A4 A5 A6 A7 A8 A9 A10 A11 A12 A13 A14 A15 A16 A17 A18 A19 A20 A21 A22 A24 A25 A26 A27 A30 A31 A33 A35 A36 : Option Addr} {M0 M1 M2 M3 M4 M5 M6 M7 M8 M9 M10 M11 M12 M13 M14 M15 M16 M17 M18 M19 M20 M21 M22 M23 M24 : Nat} {W : Wd} (hG : Glob W) (hT : Vs.Tabs W) (h99 : ExI W (Px.parse ((List.replicate 15 [45]).flatten ++ [97])).1 [.int .u8 I99, .int .u8 I100, .int .i64 I101, .string T71, .string T72, .slice A33 N66 N67]) :
    t_lnames_180.den Tryz.prog n0 (Ret fun u x => u = Value.bool true) [] { I := [2, 0, 0, 2, 0, 0, 2, 0, 0, I9, I10, I11, I12, I13, I14, I15, I16, I17, I18, I19, I20, I21, I22, I23, I24, I25, I26, I27, I28, I29, I30, I31, I32, I33, I34, I35, I36, I37, I38, I39, I40, I41, I42, I43, I44, I45, I46, I47, I48, I49, I50, I51, I52, I53, I54, I55, I56, I57, I58, I59, I60, I61, I62, I63, I64, I65, I66, I67, I68, 1, 1, 5, I72, I73, I74, I75, I76, I77, I78, I79, I80, I81, I82, I83, 1, 3, 0, 1, 1, 9223372036854775807, I90, I91, I92, I93, I94, I95, 2, 0, 0, I99, I100, I101, 0, 1, 3, 0, I106, I107, I108, I109, I110, I111, 40], N := [0, 0, 0, 0, 0, 0, N6, N7, N8, N9, N10, N11, N12, N13, N14, N15, N16, N17, N18, N19, N20, N21, N22, N23, N24, N25, N26, N27, N28, N29, N30, N31, N32, N33, N34, N35, N36, N37, N38, N39, N40, N41, N42, N43, N44, N45, 0, 0, N48, N49, N50, N51, N52, N53, N54, N55, 0, 0, 0, 0, N60, N61, N62, N63, 0, 0, N66, N67, 0, 0, N70, N71, N72, N73], B := [true, true, true, true, true, true, true, true, true, true, true, true, true, true, true, true, true, true, true, true, true, true, true, true, true, true, true, true, true, true, true, true, true, true, true, true, true, true, true, true, true, true, true], T := [⟨([] : Lx.Bs).toArray⟩, ⟨([97] : Lx.Bs).toArray⟩, ⟨([] : Lx.Bs).toArray⟩, ⟨([98] : Lx.Bs).toArray⟩, ⟨([] : Lx.Bs).toArray⟩, ⟨([99] : Lx.Bs).toArray⟩, T6, T7, T8, T9, T10, T11, T12, T13, T14, T15, T16, T17, T18, T19, T20, T21, T22, T23, T24, T25, T26, T27, T28, T29, T30, T31, T32, T33, T34, T35, T36, T37, T38, T39, T40, T41, T42, T43, T44, T45, ⟨([] : Lx.Bs).toArray⟩, ⟨([] : Lx.Bs).toArray⟩, T48, T49, T50, T51, T52, T53, T54, T55, ⟨([105, 116, 32] : Lx.Bs).toArray⟩, ⟨([] : Lx.Bs).toArray⟩, ⟨([] : Lx.Bs).toArray⟩, ⟨([] : Lx.Bs).toArray⟩, T60, T61, T62, T63, ⟨([] : Lx.Bs).toArray⟩, ⟨([110, 111, 95, 49] : Lx.Bs).toArray⟩, ⟨(List.replicate 15 [45]).flatten.toArray⟩, ⟨(List.replicate 101 [32]).flatten.toArray⟩, ⟨(List.replicate 48 [40]).flatten.toArray⟩, ⟨(List.replicate 48 [41]).flatten.toArray⟩, ⟨(List.replicate 51 [97, 43]).flatten.toArray⟩, T71, T72, ⟨(List.replicate 40 [120]).flatten.toArray⟩, ⟨((List.replicate 40 [120]).flatten : Lx.Bs).toArray⟩, ⟨([] : Lx.Bs).toArray⟩, T76, T77, T78, T79, ⟨(Px.show' (Px.op2 8 (Px.op2 8 (.mk 1 3 0 (List.replicate 40 [120]).flatten [] []) (.mk 1 3 0 (List.replicate 40 [120]).flatten [] [])) (.mk 1 3 0 (List.replicate 40 [120]).flatten [] []))).1.toArray⟩], A := [none, none, none, A3, A4, A5, A6, A7, A8, A9, A10, A11, A12, A13, A14, A15, A16, A17, A18, A19, A20, A21, A22, none, A24, A25, A26, A27, none, none, A30, A31, none, A33, none, A35, A36], M := [M0, M1, M2, M3, M4, M5, M6, M7, M8, M9, M10, M11, M12, M13, M14, M15, M16, M17, M18, M19, M20, M21, M22, M23, M24] } W := by
  refine den_grow fun W471 y471 => ?_
  refine den_callq ⟨1, 1, (-1), 0, 0, ⟨([] : Lx.Bs).toArray⟩, ⟨([] : Lx.Bs).toArray⟩, none, fun V xV _ _ => num_qn (-1) V, ?_⟩
  simp only [Env.push, List.cons_append, List.nil_append, List.append_nil]
  refine den_callq ⟨2, 0, 0, 0, 0, ⟨([] : Lx.Bs).toArray⟩, ⟨([121, 101, 115] : Lx.Bs).toArray⟩, none, fun V xV _ _ => name_qn [121, 101, 115] V, ?_⟩
  simp only [Env.push, List.cons_append, List.nil_append, List.append_nil]
  refine den_callq ⟨2, 0, 0, 0, 0, ⟨([] : Lx.Bs).toArray⟩, ⟨([108, 101, 110] : Lx.Bs).toArray⟩, none, fun V xV _ _ => name_qn [108, 101, 110] V, ?_⟩
  simp only [Env.push, List.cons_append, List.nil_append, List.append_nil]
  refine den_callq ⟨2, 0, 0, 0, 0, ⟨([] : Lx.Bs).toArray⟩, ⟨([] : Lx.Bs).toArray⟩, none, fun V xV _ _ => name_qn [] V, ?_⟩
  simp only [Env.push, List.cons_append, List.nil_append, List.append_nil]
  refine den_callq ⟨2, 0, 0, 0, 0, ⟨([] : Lx.Bs).toArray⟩, ⟨([65] : Lx.Bs).toArray⟩, none, fun V xV _ _ => name_qn [65] V, ?_⟩
  simp only [Env.push, List.cons_append, List.nil_append, List.append_nil]
  refine den_both ?_ ?_
  · exact l_lnames_55 (hG.ext y471) (hT.ext y471) (h99.ext y471)
  · refine den_both ?_ ?_
    · exact l_lnames_88 (hG.ext y471) (hT.ext y471) (h99.ext y471)
    · refine den_both ?_ ?_
      · exact l_lnames_121 (hG.ext y471) (hT.ext y471) (h99.ext y471)
      · exact l_lnames_174 (hG.ext y471) (hT.ext y471) (h99.ext y471)
end Go.Proofs.YtckgdgkkmhochaaGreatDoor
