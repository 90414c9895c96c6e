/- The examples that each statement asks first (written by wip/gen_pxworks.py). -/
import Derived.Test.YtckgdgkkmhochaaGreatDoorPxLaw
namespace Go.Proofs.YtckgdgkkmhochaaGreatDoor
open Go Go.RowKit Go.SF
set_option linter.unusedSimpArgs false
set_option linter.unusedVariables false
set_option maxRecDepth 100000 in
theorem works_q (W : Wd) (hG : Glob W) (hT : Vs.Tabs W) : CallsQ Tryz.prog 18 #[] W (.bool true) := by
  refine vc_lworks W.all _ ?_
  have hG := hG.ext W.all_ext
  have hT := hT.ext W.all_ext
  refine den_call_i (fun _ _ => name_i [97] W.all) fun v w' _ ⟨o1, k1, n1, t1, m1, al1, len1, cl1, hv, hJ⟩ => ⟨o1, k1, n1, len1, cl1, t1, m1, al1, hv, fun W1 e2 y1 n2 => ?_⟩
  have hG := hG.ext y1
  have hT := hT.ext y1
  have ha := ExJ.i hJ e2 y1 n2
  clear hv hJ e2 n2
  simp only [Env.push, List.cons_append, List.nil_append, List.append_nil]
  refine den_call_i (fun _ _ => name_i [98] W1) fun v w' _ ⟨o2, k2, n2, t2, m2, al2, len2, cl2, hv, hJ⟩ => ⟨o2, k2, n2, len2, cl2, t2, m2, al2, hv, fun W2 e2 y2 n2 => ?_⟩
  have ha := ha.ext y2
  have hG := hG.ext y2
  have hT := hT.ext y2
  have hb := ExJ.i hJ e2 y2 n2
  clear hv hJ e2 n2
  simp only [Env.push, List.cons_append, List.nil_append, List.append_nil]
  refine den_call_i (fun _ _ => name_i [99] W2) fun v w' _ ⟨o3, k3, n3, t3, m3, al3, len3, cl3, hv, hJ⟩ => ⟨o3, k3, n3, len3, cl3, t3, m3, al3, hv, fun W3 e2 y3 n2 => ?_⟩
  have ha := ha.ext y3
  have hb := hb.ext y3
  have hG := hG.ext y3
  have hT := hT.ext y3
  have hc := ExJ.i hJ e2 y3 n2
  clear hv hJ e2 n2
  simp only [Env.push, List.cons_append, List.nil_append, List.append_nil]
  refine den_new fun _ W4 _ y4 => ?_
  have ha := ha.ext y4
  have hb := hb.ext y4
  have hc := hc.ext y4
  have hG := hG.ext y4
  have hT := hT.ext y4
  refine den_new fun _ W5 _ y5 => ?_
  have ha := ha.ext y5
  have hb := hb.ext y5
  have hc := hc.ext y5
  have hG := hG.ext y5
  have hT := hT.ext y5
  refine den_new fun _ W6 _ y6 => ?_
  have ha := ha.ext y6
  have hb := hb.ext y6
  have hc := hc.ext y6
  have hG := hG.ext y6
  have hT := hT.ext y6
  refine den_wr fun W7 y7 => ?_
  have ha := ha.ext y7
  have hb := hb.ext y7
  have hc := hc.ext y7
  have hG := hG.ext y7
  have hT := hT.ext y7
  refine den_wr fun W8 y8 => ?_
  have ha := ha.ext y8
  have hb := hb.ext y8
  have hc := hc.ext y8
  have hG := hG.ext y8
  have hT := hT.ext y8
  refine den_wr fun W9 y9 => ?_
  have ha := ha.ext y9
  have hb := hb.ext y9
  have hc := hc.ext y9
  have hG := hG.ext y9
  have hT := hT.ext y9
  refine den_grow fun W10 y10 => ?_
  have ha := ha.ext y10
  have hb := hb.ext y10
  have hc := hc.ext y10
  have hG := hG.ext y10
  have hT := hT.ext y10
  refine den_call_i (fun _ _ => num_i 2 W10) fun v w' _ ⟨o11, k11, n11, t11, m11, al11, len11, cl11, hv, hJ⟩ => ⟨o11, k11, n11, len11, cl11, t11, m11, al11, hv, fun W11 e2 y11 n2 => ?_⟩
  have ha := ha.ext y11
  have hb := hb.ext y11
  have hc := hc.ext y11
  have hG := hG.ext y11
  have hT := hT.ext y11
  have hd := ExJ.i hJ e2 y11 n2
  clear hv hJ e2 n2
  simp only [Env.push, List.cons_append, List.nil_append, List.append_nil]
  refine den_grow fun W12 y12 => ?_
  have ha := ha.ext y12
  have hb := hb.ext y12
  have hc := hc.ext y12
  have hd := hd.ext y12
  have hG := hG.ext y12
  have hT := hT.ext y12
  refine den_call_i (fun _ _ => op2_i 5 (Px.name [98]) (Px.leaf 1 2 []) _ _ W12 hb hd) fun v w' _ ⟨o13, k13, n13, t13, m13, al13, len13, cl13, hv, hJ⟩ => ⟨o13, k13, n13, len13, cl13, t13, m13, al13, hv, fun W13 e2 y13 n2 => ?_⟩
  have ha := ha.ext y13
  have hb := hb.ext y13
  have hc := hc.ext y13
  have hd := hd.ext y13
  have hG := hG.ext y13
  have hT := hT.ext y13
  have he := ExJ.i hJ e2 y13 n2
  clear hv hJ e2 n2
  simp only [Env.push, List.cons_append, List.nil_append, List.append_nil]
  refine den_grow fun W14 y14 => ?_
  have ha := ha.ext y14
  have hb := hb.ext y14
  have hc := hc.ext y14
  have hd := hd.ext y14
  have he := he.ext y14
  have hG := hG.ext y14
  have hT := hT.ext y14
  refine den_call_i (fun _ _ => op2_i 8 (Px.name [97]) (Px.op2 5 (Px.name [98]) (Px.leaf 1 2 [])) _ _ W14 ha he) fun v w' _ ⟨o15, k15, n15, t15, m15, al15, len15, cl15, hv, hJ⟩ => ⟨o15, k15, n15, len15, cl15, t15, m15, al15, hv, fun W15 e2 y15 n2 => ?_⟩
  have ha := ha.ext y15
  have hb := hb.ext y15
  have hc := hc.ext y15
  have hd := hd.ext y15
  have he := he.ext y15
  have hG := hG.ext y15
  have hT := hT.ext y15
  have hf := ExJ.i hJ e2 y15 n2
  clear hv hJ e2 n2
  simp only [Env.push, List.cons_append, List.nil_append, List.append_nil]
  refine den_grow fun W16 y16 => ?_
  have ha := ha.ext y16
  have hb := hb.ext y16
  have hc := hc.ext y16
  have hd := hd.ext y16
  have he := he.ext y16
  have hf := hf.ext y16
  have hG := hG.ext y16
  have hT := hT.ext y16
  refine den_call_i (fun _ _ => op1_i 4 (Px.name [99]) _ W16 hc) fun v w' _ ⟨o17, k17, n17, t17, m17, al17, len17, cl17, hv, hJ⟩ => ⟨o17, k17, n17, len17, cl17, t17, m17, al17, hv, fun W17 e2 y17 n2 => ?_⟩
  have ha := ha.ext y17
  have hb := hb.ext y17
  have hc := hc.ext y17
  have hd := hd.ext y17
  have he := he.ext y17
  have hf := hf.ext y17
  have hG := hG.ext y17
  have hT := hT.ext y17
  have hg := ExJ.i hJ e2 y17 n2
  clear hv hJ e2 n2
  simp only [Env.push, List.cons_append, List.nil_append, List.append_nil]
  refine den_grow fun W18 y18 => ?_
  have ha := ha.ext y18
  have hb := hb.ext y18
  have hc := hc.ext y18
  have hd := hd.ext y18
  have he := he.ext y18
  have hf := hf.ext y18
  have hg := hg.ext y18
  have hG := hG.ext y18
  have hT := hT.ext y18
  refine den_call_i (fun _ _ => op2_i 14 (Px.op2 8 (Px.name [97]) (Px.op2 5 (Px.name [98]) (Px.leaf 1 2 []))) (Px.op1 4 (Px.name [99])) _ _ W18 hf hg) fun v w' _ ⟨o19, k19, n19, t19, m19, al19, len19, cl19, hv, hJ⟩ => ⟨o19, k19, n19, len19, cl19, t19, m19, al19, hv, fun W19 e2 y19 n2 => ?_⟩
  have ha := ha.ext y19
  have hb := hb.ext y19
  have hc := hc.ext y19
  have hd := hd.ext y19
  have he := he.ext y19
  have hf := hf.ext y19
  have hg := hg.ext y19
  have hG := hG.ext y19
  have hT := hT.ext y19
  have hh := ExJ.i hJ e2 y19 n2
  clear hv hJ e2 n2
  simp only [Env.push, List.cons_append, List.nil_append, List.append_nil]
  have hk : Px.is_ [97, 32, 43, 32, 98, 32, 42, 32, 50, 32, 124, 32, 33, 99] (Px.op2 14 (Px.op2 8 (Px.name [97]) (Px.op2 5 (Px.name [98]) (Px.leaf 1 2 []))) (Px.op1 4 (Px.name [99]))) = true := by decide +kernel
  refine den_callq ⟨true, fun V xV _ _ => by have := is_q [97, 32, 43, 32, 98, 32, 42, 32, 50, 32, 124, 32, 33, 99] (Px.op2 14 (Px.op2 8 (Px.name [97]) (Px.op2 5 (Px.name [98]) (Px.leaf 1 2 []))) (Px.op1 4 (Px.name [99]))) _ V (hh.ext xV) (hG.ext xV); rw [hk] at this; exact this, ?_⟩
  simp only [Env.push, List.cons_append, List.nil_append, List.append_nil]
  clear hk
  refine den_br_t rfl ?_
  have hk : Px.is_ [40, 97, 41] (Px.name [97]) = true := by decide +kernel
  refine den_callq ⟨true, fun V xV _ _ => by have := is_q [40, 97, 41] (Px.name [97]) _ V (ha.ext xV) (hG.ext xV); rw [hk] at this; exact this, ?_⟩
  simp only [Env.push, List.cons_append, List.nil_append, List.append_nil]
  clear hk
  refine den_br_t rfl ?_
  have hk : Px.no_ [97, 32, 60, 32, 98, 32, 60, 32, 99] 4 = true := by decide +kernel
  refine den_callq ⟨true, fun V xV _ _ => by have := no_q [97, 32, 60, 32, 98, 32, 60, 32, 99] 4 V (hG.ext xV); rw [hk] at this; exact this, ?_⟩
  simp only [Env.push, List.cons_append, List.nil_append, List.append_nil]
  clear hk
  refine den_br_t rfl ?_
  refine den_grow fun W20 y20 => ?_
  have ha := ha.ext y20
  have hb := hb.ext y20
  have hc := hc.ext y20
  have hd := hd.ext y20
  have he := he.ext y20
  have hf := hf.ext y20
  have hg := hg.ext y20
  have hh := hh.ext y20
  have hG := hG.ext y20
  have hT := hT.ext y20
  refine den_call_i (fun _ _ => op2_i 8 (Px.name [97]) (Px.name [98]) _ _ W20 ha hb) fun v w' _ ⟨o21, k21, n21, t21, m21, al21, len21, cl21, hv, hJ⟩ => ⟨o21, k21, n21, len21, cl21, t21, m21, al21, hv, fun W21 e2 y21 n2 => ?_⟩
  have ha := ha.ext y21
  have hb := hb.ext y21
  have hc := hc.ext y21
  have hd := hd.ext y21
  have he := he.ext y21
  have hf := hf.ext y21
  have hg := hg.ext y21
  have hh := hh.ext y21
  have hG := hG.ext y21
  have hT := hT.ext y21
  have hi := ExJ.i hJ e2 y21 n2
  clear hv hJ e2 n2
  simp only [Env.push, List.cons_append, List.nil_append, List.append_nil]
  refine den_grow fun W22 y22 => ?_
  have ha := ha.ext y22
  have hb := hb.ext y22
  have hc := hc.ext y22
  have hd := hd.ext y22
  have he := he.ext y22
  have hf := hf.ext y22
  have hg := hg.ext y22
  have hh := hh.ext y22
  have hi := hi.ext y22
  have hG := hG.ext y22
  have hT := hT.ext y22
  refine den_call_i (fun _ _ => op2_i 5 (Px.op2 8 (Px.name [97]) (Px.name [98])) (Px.name [99]) _ _ W22 hi hc) fun v w' _ ⟨o23, k23, n23, t23, m23, al23, len23, cl23, hv, hJ⟩ => ⟨o23, k23, n23, len23, cl23, t23, m23, al23, hv, fun W23 e2 y23 n2 => ?_⟩
  have ha := ha.ext y23
  have hb := hb.ext y23
  have hc := hc.ext y23
  have hd := hd.ext y23
  have he := he.ext y23
  have hf := hf.ext y23
  have hg := hg.ext y23
  have hh := hh.ext y23
  have hi := hi.ext y23
  have hG := hG.ext y23
  have hT := hT.ext y23
  have hj := ExJ.i hJ e2 y23 n2
  clear hv hJ e2 n2
  simp only [Env.push, List.cons_append, List.nil_append, List.append_nil]
  have hk : Px.shows (Px.op2 5 (Px.op2 8 (Px.name [97]) (Px.name [98])) (Px.name [99])) [40, 97, 32, 43, 32, 98, 41, 32, 42, 32, 99] = true := by decide +kernel
  refine den_callq ⟨true, fun V xV _ _ => by have := shows_q (Px.op2 5 (Px.op2 8 (Px.name [97]) (Px.name [98])) (Px.name [99])) _ [40, 97, 32, 43, 32, 98, 41, 32, 42, 32, 99] V (by decide +kernel) (hj.ext xV) (hG.ext xV) (hT.ext xV); rw [hk] at this; exact this, ?_⟩
  simp only [Env.push, List.cons_append, List.nil_append, List.append_nil]
  clear hk
  refine den_br_t rfl ?_
  refine den_grow fun W24 y24 => ?_
  have ha := ha.ext y24
  have hb := hb.ext y24
  have hc := hc.ext y24
  have hd := hd.ext y24
  have he := he.ext y24
  have hf := hf.ext y24
  have hg := hg.ext y24
  have hh := hh.ext y24
  have hi := hi.ext y24
  have hj := hj.ext y24
  have hG := hG.ext y24
  have hT := hT.ext y24
  refine den_call_i (fun _ _ => text_i [120] W24) fun v w' _ ⟨o25, k25, n25, t25, m25, al25, len25, cl25, hv, hJ⟩ => ⟨o25, k25, n25, len25, cl25, t25, m25, al25, hv, fun W25 e2 y25 n2 => ?_⟩
  have ha := ha.ext y25
  have hb := hb.ext y25
  have hc := hc.ext y25
  have hd := hd.ext y25
  have he := he.ext y25
  have hf := hf.ext y25
  have hg := hg.ext y25
  have hh := hh.ext y25
  have hi := hi.ext y25
  have hj := hj.ext y25
  have hG := hG.ext y25
  have hT := hT.ext y25
  have hk := ExJ.i hJ e2 y25 n2
  clear hv hJ e2 n2
  simp only [Env.push, List.cons_append, List.nil_append, List.append_nil]
  refine den_grow fun W26 y26 => ?_
  have ha := ha.ext y26
  have hb := hb.ext y26
  have hc := hc.ext y26
  have hd := hd.ext y26
  have he := he.ext y26
  have hf := hf.ext y26
  have hg := hg.ext y26
  have hh := hh.ext y26
  have hi := hi.ext y26
  have hj := hj.ext y26
  have hk := hk.ext y26
  have hG := hG.ext y26
  have hT := hT.ext y26
  refine den_call_i (fun _ _ => op2_i 8 (Px.name [97]) (Px.leaf 3 0 [120]) _ _ W26 ha hk) fun v w' _ ⟨o27, k27, n27, t27, m27, al27, len27, cl27, hv, hJ⟩ => ⟨o27, k27, n27, len27, cl27, t27, m27, al27, hv, fun W27 e2 y27 n2 => ?_⟩
  have ha := ha.ext y27
  have hb := hb.ext y27
  have hc := hc.ext y27
  have hd := hd.ext y27
  have he := he.ext y27
  have hf := hf.ext y27
  have hg := hg.ext y27
  have hh := hh.ext y27
  have hi := hi.ext y27
  have hj := hj.ext y27
  have hk := hk.ext y27
  have hG := hG.ext y27
  have hT := hT.ext y27
  have hl := ExJ.i hJ e2 y27 n2
  clear hv hJ e2 n2
  simp only [Env.push, List.cons_append, List.nil_append, List.append_nil]
  refine den_grow fun W28 y28 => ?_
  have ha := ha.ext y28
  have hb := hb.ext y28
  have hc := hc.ext y28
  have hd := hd.ext y28
  have he := he.ext y28
  have hf := hf.ext y28
  have hg := hg.ext y28
  have hh := hh.ext y28
  have hi := hi.ext y28
  have hj := hj.ext y28
  have hk := hk.ext y28
  have hl := hl.ext y28
  have hG := hG.ext y28
  have hT := hT.ext y28
  refine den_call_i (fun _ _ => op1_i 16 (Px.op2 8 (Px.name [97]) (Px.leaf 3 0 [120])) _ W28 hl) fun v w' _ ⟨o29, k29, n29, t29, m29, al29, len29, cl29, hv, hJ⟩ => ⟨o29, k29, n29, len29, cl29, t29, m29, al29, hv, fun W29 e2 y29 n2 => ?_⟩
  have ha := ha.ext y29
  have hb := hb.ext y29
  have hc := hc.ext y29
  have hd := hd.ext y29
  have he := he.ext y29
  have hf := hf.ext y29
  have hg := hg.ext y29
  have hh := hh.ext y29
  have hi := hi.ext y29
  have hj := hj.ext y29
  have hk := hk.ext y29
  have hl := hl.ext y29
  have hG := hG.ext y29
  have hT := hT.ext y29
  have hm := ExJ.i hJ e2 y29 n2
  clear hv hJ e2 n2
  simp only [Env.push, List.cons_append, List.nil_append, List.append_nil]
  have hk : Px.is_ [108, 101, 110, 40, 97, 32, 43, 32, 39, 120, 39, 41] (Px.op1 16 (Px.op2 8 (Px.name [97]) (Px.leaf 3 0 [120]))) = true := by decide +kernel
  refine den_callq ⟨true, fun V xV _ _ => by have := is_q [108, 101, 110, 40, 97, 32, 43, 32, 39, 120, 39, 41] (Px.op1 16 (Px.op2 8 (Px.name [97]) (Px.leaf 3 0 [120]))) _ V (hm.ext xV) (hG.ext xV); rw [hk] at this; exact this, ?_⟩
  simp only [Env.push, List.cons_append, List.nil_append, List.append_nil]
  clear hk
  exact den_grow fun _ _ => den_ret fun _ _ _ => ⟨_, rfl, rfl⟩
end Go.Proofs.YtckgdgkkmhochaaGreatDoor
