/- What is left to show of functions, as the walk that the kernel computes finds it (written by wip/vc2.py). -/
import Derived.Test.YtckgdgkkmhochaaDoorProg
import Derived.Test.YtckgdgkkmhochaaDoorSfD
namespace Go.Proofs.YtckgdgkkmhochaaDoor
open Go Go.RowKit Go.SF
set_option maxRecDepth 100000

-- (*callboard/callboardref11.reader).next
@[reducible] def t_xnext_1 : Tree := (.chk (.bin .le (.il 1) (.nv 0)) (.sub 0 (.il 1) (.nv 0) (.nv 1) 2 (.wr (.ret (.bool (.bl true)) [⟨0, 43, [(.slc 1 (.nv 2) (.nv 3)), (.bool (.bv 0))]⟩] [] []))))
@[reducible] def t_xnext_2 : Tree := (.br (.bin .teq (.tv 1) (.tv 0)) t_xnext_1 (.ret (.bool (.bl false)) [⟨0, 43, [(.slc 0 (.nv 0) (.nv 1)), (.bool (.bv 0))]⟩] [] []))
@[reducible] def t_xnext_3 : Tree := (.br (.bin .ieq (.iv 0) (.il 4)) (.look 9 (.elt 0 (.il 0) 2 1) (.str (.tv 1)) ⟨0, 0, 0, 1, 0, 0, 0, 0⟩ t_xnext_2) (.ret (.bool (.bl false)) [⟨0, 43, [(.slc 0 (.nv 0) (.nv 1)), (.bool (.bv 0))]⟩] [] []))
@[reducible] def t_xnext : Tree :=
(.chk (.bin .bor (.un .not (.bin .lt (.il 0) (.nv 0))) (.sm 0)) (.chk (.bin .bor (.un .not (.bin .lt (.il 0) (.nv 0))) (.bin .le (.il 0) (.il 0))) (.chk (.bin .bor (.un .not (.bin .lt (.il 0) (.nv 0))) (.bin .lt (.il 0) (.nv 0))) (.br (.bin .lt (.il 0) (.nv 0)) (.look 5 (.elt 0 (.il 0) 2 0) (.int .u8 (.iv 0)) ⟨1, 0, 0, 0, 0, 0, 0, 0⟩ t_xnext_3) (.ret (.bool (.bl false)) [⟨0, 43, [(.slc 0 (.nv 0) (.nv 1)), (.bool (.bv 0))]⟩] [] [])))))
theorem x_xnext : xfn Tryd.prog { ex := false, inl := [], loops := [], unroll := [], mu := [], mus := [], stays := [], rowT := [], rwx := false, rws := [] } Tryd.f24 [(.ptr 0 0), (.str (.tv 0))] [⟨0, 43, [(.slc 0 (.nv 0) (.nv 1)), (.bool (.bv 0))]⟩] [] ⟨0, 2, 1, 1, 0, 1, 1, 0⟩ = some t_xnext := by kernel_rfl
theorem vc_xnext (n0 n1 : Nat) (b0 : Bool) (t0 : ByteArray) (a0 : Option Addr) (m0 : Nat) (W : Wd) (R : Ending → World → Prop) (hm : W.w.heap[m0]? = some (.cells #[.slice a0 n0 n1, .bool b0] 43)) (hI : ¬ W.I m0) (h : t_xnext.den Tryd.prog W.w.heap.size R [] { N := [n0, n1], B := [b0], T := [t0], A := [a0], M := [m0] } W) : CallsE Tryd.prog 24 #[.pointer (some ⟨m0, 0, none⟩), .string t0] W R :=
  fn_calls_mu Tryd.func24 _ _ [⟨0, 43, [(.slc 0 (.nv 0) (.nv 1)), (.bool (.bv 0))]⟩] { N := [n0, n1], B := [b0], T := [t0], A := [a0], M := [m0] } _ x_xnext (fun v hv => by cases hv) (fun b hb => by simp only [List.mem_singleton] at hb; subst hb; exact hm) (fun b hb => by simp only [List.mem_singleton] at hb; subst hb; exact hI) (List.pairwise_singleton _ _) h

-- callboard/callboardref11.ways
@[reducible] def t_xways : Tree :=
(.new (.new (.new (.new (.new (.new (.ret (.slb 5 0 5 5) [⟨5, 60, [(.slb 0 0 1 1), (.slb 1 0 1 1), (.slb 2 0 4 4), (.slb 3 0 2 2), (.slb 4 0 3 3)]⟩, ⟨4, 9, [(.str (.tl [42])), (.str (.tl [47])), (.str (.tl [37]))]⟩, ⟨3, 9, [(.str (.tl [43])), (.str (.tl [45]))]⟩, ⟨2, 9, [(.str (.tl [60])), (.str (.tl [60, 61])), (.str (.tl [61, 61])), (.str (.tl [33, 61]))]⟩, ⟨1, 9, [(.str (.tl [38]))]⟩, ⟨0, 9, [(.str (.tl [124]))]⟩] [] [])))))))
theorem x_xways : xfn Tryd.prog { ex := false, inl := [], loops := [], unroll := [], mu := [], mus := [], stays := [], rowT := [], rwx := false, rws := [] } Tryd.f23 [] [] [] ⟨0, 0, 0, 0, 0, 0, 0, 0⟩ = some t_xways := by kernel_rfl
theorem vc_xways  (W : Wd) (R : Ending → World → Prop) (h : t_xways.den Tryd.prog W.w.heap.size R [] {  } W) : CallsE Tryd.prog 23 #[] W R :=
  fn_calls Tryd.func23 _ _ {  } _ x_xways (fun v hv => by cases hv) h

-- callboard/callboardref11.op
@[reducible] def t_xop_1 : Tree := (.ret (.int .u8 (.un (.wrap .u8) (.bin .add (.il 5) (.un (.wrap .u8) (.il 10))))) [] [] [])
@[reducible] def t_xop_2 : Tree := (.br (.bin .teq (.tl [124]) (.tv 0)) (.ret (.int .u8 (.un (.wrap .u8) (.bin .add (.il 5) (.un (.wrap .u8) (.il 9))))) [] [] []) (.br (.bin .teq (.tl [45]) (.tv 0)) t_xop_1 (.ret (.int .u8 (.il 0)) [] [] [])))
@[reducible] def t_xop_3 : Tree := (.br (.bin .teq (.tl [38]) (.tv 0)) (.ret (.int .u8 (.un (.wrap .u8) (.bin .add (.il 5) (.un (.wrap .u8) (.il 8))))) [] [] []) t_xop_2)
@[reducible] def t_xop_4 : Tree := (.br (.bin .teq (.tl [33, 61]) (.tv 0)) (.ret (.int .u8 (.un (.wrap .u8) (.bin .add (.il 5) (.un (.wrap .u8) (.il 7))))) [] [] []) t_xop_3)
@[reducible] def t_xop_5 : Tree := (.br (.bin .teq (.tl [61, 61]) (.tv 0)) (.ret (.int .u8 (.un (.wrap .u8) (.bin .add (.il 5) (.un (.wrap .u8) (.il 6))))) [] [] []) t_xop_4)
@[reducible] def t_xop_6 : Tree := (.br (.bin .teq (.tl [60, 61]) (.tv 0)) (.ret (.int .u8 (.un (.wrap .u8) (.bin .add (.il 5) (.un (.wrap .u8) (.il 5))))) [] [] []) t_xop_5)
@[reducible] def t_xop_7 : Tree := (.br (.bin .teq (.tl [60]) (.tv 0)) (.ret (.int .u8 (.un (.wrap .u8) (.bin .add (.il 5) (.un (.wrap .u8) (.il 4))))) [] [] []) t_xop_6)
@[reducible] def t_xop_8 : Tree := (.br (.bin .teq (.tl [43]) (.tv 0)) (.ret (.int .u8 (.un (.wrap .u8) (.bin .add (.il 5) (.un (.wrap .u8) (.il 3))))) [] [] []) t_xop_7)
@[reducible] def t_xop_9 : Tree := (.br (.bin .teq (.tl [37]) (.tv 0)) (.ret (.int .u8 (.un (.wrap .u8) (.bin .add (.il 5) (.un (.wrap .u8) (.il 2))))) [] [] []) t_xop_8)
@[reducible] def t_xop_10 : Tree := (.br (.bin .teq (.tl [47]) (.tv 0)) (.ret (.int .u8 (.un (.wrap .u8) (.bin .add (.il 5) (.un (.wrap .u8) (.il 1))))) [] [] []) t_xop_9)
@[reducible] def t_xop : Tree :=
(.new (.br (.bin .teq (.tl [42]) (.tv 0)) (.ret (.int .u8 (.un (.wrap .u8) (.bin .add (.il 5) (.un (.wrap .u8) (.il 0))))) [] [] []) t_xop_10))
theorem x_xop : xfn Tryd.prog { ex := false, inl := [], loops := [], unroll := [(2, 12)], mu := [], mus := [], stays := [], rowT := [], rwx := false, rws := [] } Tryd.f25 [(.str (.tv 0))] [] [] ⟨0, 0, 0, 1, 0, 0, 0, 0⟩ = some t_xop := by kernel_rfl
theorem vc_xop (t0 : ByteArray) (W : Wd) (R : Ending → World → Prop) (h : t_xop.den Tryd.prog W.w.heap.size R [] { T := [t0] } W) : CallsE Tryd.prog 25 #[.string t0] W R :=
  fn_calls Tryd.func25 _ _ { T := [t0] } _ x_xop (fun v hv => by cases hv) h

-- callboard/callboardref11.number
@[reducible] def t_xnumber_1 : Tree := (.chk (.bin .le (.il 0) (.iv 1)) (.again 0 [(.int .i64 (.un (.wrap .i64) (.bin .add (.un (.wrap .i64) (.bin .mul (.iv 0) (.il 10))) (.un (.wrap .i64) (.un (.wrap .u8) (.bin .sub (.bin .byte (.tv 0) (.iv 1)) (.il 48))))))), (.int .i64 (.un (.wrap .i64) (.bin .add (.iv 1) (.il 1))))] []))
@[reducible] def t_xnumber_2 : Tree := (.br (.bin .lt (.iv 1) (.un .len (.tv 0))) t_xnumber_1 (.ret (.int .i64 (.iv 0)) [] [] []))
@[reducible] def t_xnumber : Tree :=
(.loop [(.int .i64 (.il 0)), (.int .i64 (.il 0))] [] [(.int .i64 (.iv 0)), (.int .i64 (.iv 1))] [] ⟨2, 0, 0, 0, 0, 0, 0, 0⟩ t_xnumber_2)
theorem x_xnumber : xfn Tryd.prog { ex := false, inl := [], loops := [⟨3, [.tm 3, .tm 4]⟩], unroll := [], mu := [], mus := [], stays := [], rowT := [], rwx := false, rws := [] } Tryd.f42 [(.str (.tv 0))] [] [] ⟨0, 0, 0, 1, 0, 0, 0, 0⟩ = some t_xnumber := by kernel_rfl
theorem vc_xnumber (t0 : ByteArray) (W : Wd) (R : Ending → World → Prop) (h : t_xnumber.den Tryd.prog W.w.heap.size R [] { T := [t0] } W) : CallsE Tryd.prog 42 #[.string t0] W R :=
  fn_calls Tryd.func42 _ _ { T := [t0] } _ x_xnumber (fun v hv => by cases hv) h

-- (*callboard/callboardref11.reader).prefix
@[reducible] def t_xprefix_1 : Tree := (.wr (.wr (.ret (.agg [(.int .u8 (.il 0)), (.int .u8 (.il 0)), (.int .i64 (.il 0)), (.str (.tl [])), (.str (.tl [])), .nils]) [⟨0, 43, [(.slc 0 (.nv 0) (.nv 1)), (.bool (.bl true))]⟩] [] [])))
@[reducible] def t_xprefix_2 : Tree := (.new (.wr (.ret (.agg [(.int .u8 (.il 3)), (.int .u8 (.il 0)), (.int .i64 (.il 0)), (.str (.tl [])), (.str (.tl [])), (.slb 2 0 1 1)]) [⟨2, 26, [(.int .u8 (.iv 0)), (.int .u8 (.iv 1)), (.int .i64 (.iv 2)), (.str (.tv 0)), (.str (.tv 1)), (.slc 2 (.nv 4) (.nv 5))]⟩, ⟨0, 43, [(.slc 3 (.nv 6) (.nv 7)), (.bool (.bv 3))]⟩] [] [])))
@[reducible] def t_xprefix_3 : Tree := (.call 22 [(.ptr 0 0)] [⟨0, 43, [(.slc 1 (.nv 2) (.nv 3)), (.bool (.bv 2))]⟩] [] [⟨0, 43, [(.slc 3 (.nv 6) (.nv 7)), (.bool (.bv 3))]⟩] (.agg [(.int .u8 (.iv 0)), (.int .u8 (.iv 1)), (.int .i64 (.iv 2)), (.str (.tv 0)), (.str (.tv 1)), (.slc 2 (.nv 4) (.nv 5))]) ⟨3, 4, 1, 2, 0, 2, 0, 0⟩ t_xprefix_2)
@[reducible] def t_xprefix_4 : Tree := (.new (.wr (.ret (.agg [(.int .u8 (.il 4)), (.int .u8 (.il 0)), (.int .i64 (.il 0)), (.str (.tl [])), (.str (.tl [])), (.slb 2 0 1 1)]) [⟨2, 26, [(.int .u8 (.iv 0)), (.int .u8 (.iv 1)), (.int .i64 (.iv 2)), (.str (.tv 0)), (.str (.tv 1)), (.slc 3 (.nv 6) (.nv 7))]⟩, ⟨0, 43, [(.slc 4 (.nv 8) (.nv 9)), (.bool (.bv 5))]⟩] [] [])))
@[reducible] def t_xprefix_5 : Tree := (.call 22 [(.ptr 0 0)] [⟨0, 43, [(.slc 2 (.nv 4) (.nv 5)), (.bool (.bv 4))]⟩] [] [⟨0, 43, [(.slc 4 (.nv 8) (.nv 9)), (.bool (.bv 5))]⟩] (.agg [(.int .u8 (.iv 0)), (.int .u8 (.iv 1)), (.int .i64 (.iv 2)), (.str (.tv 0)), (.str (.tv 1)), (.slc 3 (.nv 6) (.nv 7))]) ⟨3, 4, 1, 2, 0, 2, 0, 0⟩ t_xprefix_4)
@[reducible] def t_xprefix_6 : Tree := (.wr (.wr (.ret (.agg [(.int .u8 (.il 0)), (.int .u8 (.il 0)), (.int .i64 (.il 0)), (.str (.tl [])), (.str (.tl [])), .nils]) [⟨0, 43, [(.slc 4 (.nv 8) (.nv 9)), (.bool (.bl true))]⟩] [] [])))
@[reducible] def t_xprefix_7 : Tree := (.wr (.new (.wr (.ret (.agg [(.int .u8 (.il 16)), (.int .u8 (.il 0)), (.int .i64 (.il 0)), (.str (.tl [])), (.str (.tl [])), (.slb 4 0 1 1)]) [⟨4, 26, [(.int .u8 (.iv 1)), (.int .u8 (.iv 2)), (.int .i64 (.iv 3)), (.str (.tv 1)), (.str (.tv 2)), (.slc 5 (.nv 10) (.nv 11))]⟩, ⟨0, 43, [(.slc 7 (.nv 14) (.nv 15)), (.bool (.bl true))]⟩] [] []))))
@[reducible] def t_xprefix_8 : Tree := (.new (.wr (.ret (.agg [(.int .u8 (.il 16)), (.int .u8 (.il 0)), (.int .i64 (.il 0)), (.str (.tl [])), (.str (.tl [])), (.slb 4 0 1 1)]) [⟨4, 26, [(.int .u8 (.iv 1)), (.int .u8 (.iv 2)), (.int .i64 (.iv 3)), (.str (.tv 1)), (.str (.tv 2)), (.slc 5 (.nv 10) (.nv 11))]⟩, ⟨0, 43, [(.slc 7 (.nv 14) (.nv 15)), (.bool (.bv 9))]⟩] [] [])))
@[reducible] def t_xprefix_9 : Tree := (.new (.wr (.call 24 [(.ptr 0 0), (.str (.tl [41]))] [⟨0, 43, [(.slc 6 (.nv 12) (.nv 13)), (.bool (.bv 7))]⟩] [] [⟨0, 43, [(.slc 7 (.nv 14) (.nv 15)), (.bool (.bv 9))]⟩] (.bool (.bv 8)) ⟨0, 2, 2, 0, 0, 1, 0, 0⟩ (.br (.un .not (.bv 8)) t_xprefix_7 t_xprefix_8))))
@[reducible] def t_xprefix_10 : Tree := (.call 11 [(.ptr 0 0), (.int .i64 (.il 0))] [⟨0, 43, [(.slc 4 (.nv 8) (.nv 9)), (.bool (.bv 6))]⟩] [] [⟨0, 43, [(.slc 6 (.nv 12) (.nv 13)), (.bool (.bv 7))]⟩] (.agg [(.int .u8 (.iv 1)), (.int .u8 (.iv 2)), (.int .i64 (.iv 3)), (.str (.tv 1)), (.str (.tv 2)), (.slc 5 (.nv 10) (.nv 11))]) ⟨3, 4, 1, 2, 0, 2, 0, 0⟩ t_xprefix_9)
@[reducible] def t_xprefix_11 : Tree := (.chk (.bin .le (.il 1) (.nv 4)) (.sub 2 (.il 1) (.nv 4) (.nv 5) 2 (.wr (.call 24 [(.ptr 0 0), (.str (.tl [40]))] [⟨0, 43, [(.slc 3 (.nv 6) (.nv 7)), (.bool (.bv 4))]⟩] [] [⟨0, 43, [(.slc 4 (.nv 8) (.nv 9)), (.bool (.bv 6))]⟩] (.bool (.bv 5)) ⟨0, 2, 2, 0, 0, 1, 0, 0⟩ (.br (.un .not (.bv 5)) t_xprefix_6 t_xprefix_10)))))
@[reducible] def t_xprefix_12 : Tree := (.wr (.wr (.ret (.agg [(.int .u8 (.il 0)), (.int .u8 (.il 0)), (.int .i64 (.il 0)), (.str (.tl [])), (.str (.tl [])), .nils]) [⟨0, 43, [(.slc 3 (.nv 6) (.nv 7)), (.bool (.bl true))]⟩] [] [])))
@[reducible] def t_xprefix_13 : Tree := (.wr (.wr (.ret (.agg [(.int .u8 (.iv 1)), (.int .u8 (.iv 2)), (.int .i64 (.iv 3)), (.str (.tv 1)), (.str (.tv 2)), (.slc 4 (.nv 8) (.nv 9))]) [⟨0, 43, [(.slc 6 (.nv 12) (.nv 13)), (.bool (.bl true))]⟩] [] [])))
@[reducible] def t_xprefix_14 : Tree := (.wr (.ret (.agg [(.int .u8 (.iv 1)), (.int .u8 (.iv 2)), (.int .i64 (.iv 3)), (.str (.tv 1)), (.str (.tv 2)), (.slc 4 (.nv 8) (.nv 9))]) [⟨0, 43, [(.slc 6 (.nv 12) (.nv 13)), (.bool (.bv 9))]⟩] [] []))
@[reducible] def t_xprefix_15 : Tree := (.new (.wr (.call 24 [(.ptr 0 0), (.str (.tl [41]))] [⟨0, 43, [(.slc 5 (.nv 10) (.nv 11)), (.bool (.bv 7))]⟩] [] [⟨0, 43, [(.slc 6 (.nv 12) (.nv 13)), (.bool (.bv 9))]⟩] (.bool (.bv 8)) ⟨0, 2, 2, 0, 0, 1, 0, 0⟩ (.br (.un .not (.bv 8)) t_xprefix_13 t_xprefix_14))))
@[reducible] def t_xprefix_16 : Tree := (.call 11 [(.ptr 0 0), (.int .i64 (.il 0))] [⟨0, 43, [(.slc 3 (.nv 6) (.nv 7)), (.bool (.bv 6))]⟩] [] [⟨0, 43, [(.slc 5 (.nv 10) (.nv 11)), (.bool (.bv 7))]⟩] (.agg [(.int .u8 (.iv 1)), (.int .u8 (.iv 2)), (.int .i64 (.iv 3)), (.str (.tv 1)), (.str (.tv 2)), (.slc 4 (.nv 8) (.nv 9))]) ⟨3, 4, 1, 2, 0, 2, 0, 0⟩ t_xprefix_15)
@[reducible] def t_xprefix_17 : Tree := (.call 24 [(.ptr 0 0), (.str (.tl [40]))] [⟨0, 43, [(.slc 2 (.nv 4) (.nv 5)), (.bool (.bv 4))]⟩] [] [⟨0, 43, [(.slc 3 (.nv 6) (.nv 7)), (.bool (.bv 6))]⟩] (.bool (.bv 5)) ⟨0, 2, 2, 0, 0, 1, 0, 0⟩ (.br (.un .not (.bv 5)) t_xprefix_12 t_xprefix_16))
@[reducible] def t_xprefix_18 : Tree := (.grow (.wr (.ret (.agg [(.int .u8 (.il 1)), (.int .u8 (.il 1)), (.int .i64 (.iv 1)), (.str (.tl [])), (.str (.tl [])), .nils]) [⟨0, 43, [(.slc 3 (.nv 6) (.nv 7)), (.bool (.bv 4))]⟩] [] [])))
@[reducible] def t_xprefix_19 : Tree := (.call 42 [(.str (.tv 0))] [] [] [] (.int .i64 (.iv 1)) ⟨1, 0, 0, 0, 0, 0, 0, 0⟩ t_xprefix_18)
@[reducible] def t_xprefix_20 : Tree := (.wr (.ret (.agg [(.int .u8 (.il 1)), (.int .u8 (.il 3)), (.int .i64 (.il 0)), (.str (.tv 0)), (.str (.tl [])), .nils]) [⟨0, 43, [(.slc 3 (.nv 6) (.nv 7)), (.bool (.bv 4))]⟩] [] []))
@[reducible] def t_xprefix_21 : Tree := (.grow (.wr (.ret (.agg [(.int .u8 (.il 1)), (.int .u8 (.il 2)), (.int .i64 (.il 1)), (.str (.tl [])), (.str (.tl [])), .nils]) [⟨0, 43, [(.slc 3 (.nv 6) (.nv 7)), (.bool (.bv 4))]⟩] [] [])))
@[reducible] def t_xprefix_22 : Tree := (.grow (.wr (.ret (.agg [(.int .u8 (.il 1)), (.int .u8 (.il 2)), (.int .i64 (.il 0)), (.str (.tl [])), (.str (.tl [])), .nils]) [⟨0, 43, [(.slc 3 (.nv 6) (.nv 7)), (.bool (.bv 4))]⟩] [] [])))
@[reducible] def t_xprefix_23 : Tree := (.wr (.ret (.agg [(.int .u8 (.il 2)), (.int .u8 (.il 0)), (.int .i64 (.il 0)), (.str (.tl [])), (.str (.tv 0)), .nils]) [⟨0, 43, [(.slc 3 (.nv 6) (.nv 7)), (.bool (.bv 4))]⟩] [] []))
@[reducible] def t_xprefix_24 : Tree := (.br (.bin .bor (.bin .teq (.tv 0) (.tl [121, 101, 115])) (.bin .teq (.tv 0) (.tl [110, 111]))) (.br (.bin .teq (.tv 0) (.tl [121, 101, 115])) t_xprefix_21 t_xprefix_22) t_xprefix_23)
@[reducible] def t_xprefix_25 : Tree := (.chk (.bin .le (.il 1) (.nv 4)) (.sub 2 (.il 1) (.nv 4) (.nv 5) 2 (.wr (.br (.bin .ieq (.iv 0) (.il 1)) t_xprefix_19 (.br (.bin .ieq (.iv 0) (.il 3)) t_xprefix_20 t_xprefix_24)))))
@[reducible] def t_xprefix_26 : Tree := (.new (.wr (.br (.bin .band (.bin .ieq (.iv 0) (.il 2)) (.bin .teq (.tv 0) (.tl [108, 101, 110]))) t_xprefix_11 (.br (.bin .ieq (.iv 0) (.il 4)) t_xprefix_17 t_xprefix_25))))
@[reducible] def t_xprefix_27 : Tree := (.chk (.sm 2) (.chk (.bin .le (.il 0) (.il 0)) (.chk (.bin .lt (.il 0) (.nv 4)) (.look 56 (.elt 2 (.il 0) 2 0) (.agg [(.int .u8 (.iv 0)), (.str (.tv 0))]) ⟨1, 0, 0, 1, 0, 0, 0, 0⟩ t_xprefix_26))))
@[reducible] def t_xprefix_28 : Tree := (.call 24 [(.ptr 0 0), (.str (.tl [33]))] [⟨0, 43, [(.slc 1 (.nv 2) (.nv 3)), (.bool (.bv 2))]⟩] [] [⟨0, 43, [(.slc 2 (.nv 4) (.nv 5)), (.bool (.bv 4))]⟩] (.bool (.bv 3)) ⟨0, 2, 2, 0, 0, 1, 0, 0⟩ (.br (.bv 3) t_xprefix_5 t_xprefix_27))
@[reducible] def t_xprefix_29 : Tree := (.call 24 [(.ptr 0 0), (.str (.tl [45]))] [⟨0, 43, [(.slc 0 (.nv 0) (.nv 1)), (.bool (.bv 0))]⟩] [] [⟨0, 43, [(.slc 1 (.nv 2) (.nv 3)), (.bool (.bv 2))]⟩] (.bool (.bv 1)) ⟨0, 2, 2, 0, 0, 1, 0, 0⟩ (.br (.bv 1) t_xprefix_3 t_xprefix_28))
@[reducible] def t_xprefix : Tree :=
(.new (.br (.bin .bor (.bv 0) (.bin .ieq (.nv 0) (.il 0))) t_xprefix_1 t_xprefix_29))
theorem x_xprefix : xfn Tryd.prog { ex := false, inl := [41, 43], loops := [], unroll := [], mu := [(24, [0]), (11, [0]), (22, [0])], mus := [], stays := [], rowT := [], rwx := false, rws := [] } Tryd.f22 [(.ptr 0 0)] [⟨0, 43, [(.slc 0 (.nv 0) (.nv 1)), (.bool (.bv 0))]⟩] [] ⟨0, 2, 1, 0, 0, 1, 1, 0⟩ = some t_xprefix := by kernel_rfl
theorem vc_xprefix (n0 n1 : Nat) (b0 : Bool) (a0 : Option Addr) (m0 : Nat) (W : Wd) (R : Ending → World → Prop) (hm : W.w.heap[m0]? = some (.cells #[.slice a0 n0 n1, .bool b0] 43)) (hI : ¬ W.I m0) (h : t_xprefix.den Tryd.prog W.w.heap.size R [] { N := [n0, n1], B := [b0], A := [a0], M := [m0] } W) : CallsE Tryd.prog 22 #[.pointer (some ⟨m0, 0, none⟩)] W R :=
  fn_calls_mu Tryd.func22 _ _ [⟨0, 43, [(.slc 0 (.nv 0) (.nv 1)), (.bool (.bv 0))]⟩] { N := [n0, n1], B := [b0], A := [a0], M := [m0] } _ x_xprefix (fun v hv => by cases hv) (fun b hb => by simp only [List.mem_singleton] at hb; subst hb; exact hm) (fun b hb => by simp only [List.mem_singleton] at hb; subst hb; exact hI) (List.pairwise_singleton _ _) h

-- (*callboard/callboardref11.reader).way
@[reducible] def t_xway_1 : Tree := (.wr (.ret (.agg [(.int .u8 (.iv 1)), (.int .u8 (.iv 2)), (.int .i64 (.iv 3)), (.str (.tv 0)), (.str (.tv 1)), (.slc 1 (.nv 2) (.nv 3))]) [⟨0, 43, [(.slc 2 (.nv 4) (.nv 5)), (.bool (.bv 1))]⟩] [] []))
@[reducible] def t_xway_2 : Tree := (.call 22 [(.ptr 0 0)] [⟨0, 43, [(.slc 0 (.nv 0) (.nv 1)), (.bool (.bv 0))]⟩] [] [⟨0, 43, [(.slc 2 (.nv 4) (.nv 5)), (.bool (.bv 1))]⟩] (.agg [(.int .u8 (.iv 1)), (.int .u8 (.iv 2)), (.int .i64 (.iv 3)), (.str (.tv 0)), (.str (.tv 1)), (.slc 1 (.nv 2) (.nv 3))]) ⟨3, 4, 1, 2, 0, 2, 0, 0⟩ t_xway_1)
@[reducible] def t_xway_3 : Tree := (.again 1 [(.str (.tv 6)), (.int .i64 (.un (.wrap .i64) (.bin .add (.iv 8) (.il 1)))), (.slc 8 (.nv 16) (.nv 17)), (.bool (.bv 5))] [])
@[reducible] def t_xway_4 : Tree := (.again 1 [(.str (.tv 4)), (.int .i64 (.un (.wrap .i64) (.bin .add (.iv 8) (.il 1)))), (.slc 8 (.nv 16) (.nv 17)), (.bool (.bv 5))] [])
@[reducible] def t_xway_5 : Tree := (.br (.bv 4) (.look 9 (.elt 6 (.iv 8) 1 0) (.str (.tv 6)) ⟨0, 0, 0, 1, 0, 0, 0, 0⟩ t_xway_3) t_xway_4)
@[reducible] def t_xway_6 : Tree := (.call 24 [(.ptr 0 0), (.str (.tv 5))] [⟨0, 43, [(.slc 7 (.nv 14) (.nv 15)), (.bool (.bv 3))]⟩] [] [⟨0, 43, [(.slc 8 (.nv 16) (.nv 17)), (.bool (.bv 5))]⟩] (.bool (.bv 4)) ⟨0, 2, 2, 0, 0, 1, 0, 0⟩ t_xway_5)
@[reducible] def t_xway_7 : Tree := (.chk (.sm 6) (.chk (.bin .le (.il 0) (.iv 8)) (.look 9 (.elt 6 (.iv 8) 1 0) (.str (.tv 5)) ⟨0, 0, 0, 1, 0, 0, 0, 0⟩ t_xway_6)))
@[reducible] def t_xway_8 : Tree := (.wr (.wr (.ret (.agg [(.int .u8 (.iv 5)), (.int .u8 (.iv 6)), (.int .i64 (.iv 7)), (.str (.tv 2)), (.str (.tv 3)), (.slc 4 (.nv 8) (.nv 9))]) [⟨0, 43, [(.slc 7 (.nv 14) (.nv 15)), (.bool (.bin .bor (.bv 3) (.un .not (.bin .teq (.tv 4) (.tl [])))))]⟩] [] [])))
@[reducible] def t_xway_9 : Tree := (.grow (.new (.grow (.wr (.frz [⟨4, 26, [(.int .u8 (.iv 5)), (.int .u8 (.iv 6)), (.int .i64 (.iv 7)), (.str (.tv 2)), (.str (.tv 3)), (.slc 4 (.nv 8) (.nv 9)), (.int .u8 (.iv 9)), (.int .u8 (.iv 10)), (.int .i64 (.iv 11)), (.str (.tv 5)), (.str (.tv 6)), (.slc 8 (.nv 16) (.nv 17))]⟩, ⟨3, 26, [(.int .u8 (.iv 9)), (.int .u8 (.iv 10)), (.int .i64 (.iv 11)), (.str (.tv 5)), (.str (.tv 6)), (.slc 8 (.nv 16) (.nv 17))]⟩] (.again 0 [(.int .i64 (.un (.wrap .i64) (.bin .add (.iv 4) (.il 1)))), (.slc 9 (.nv 18) (.nv 19)), (.bool (.bv 4)), (.int .u8 (.iv 12)), (.int .u8 (.il 0)), (.int .i64 (.il 0)), (.str (.tl [])), (.str (.tl [])), (.slb 4 0 2 2)] []))))))
@[reducible] def t_xway_10 : Tree := (.new (.wr (.callq 25 [(.str (.tv 4))] [] [] (.int .u8 (.iv 12)) ⟨1, 0, 0, 0, 0, 0, 0, 0⟩ t_xway_9)))
@[reducible] def t_xway_11 : Tree := (.call 11 [(.ptr 0 0), (.int .i64 (.un (.wrap .i64) (.bin .add (.iv 0) (.il 1))))] [⟨0, 43, [(.slc 7 (.nv 14) (.nv 15)), (.bool (.bv 3))]⟩] [] [⟨0, 43, [(.slc 9 (.nv 18) (.nv 19)), (.bool (.bv 4))]⟩] (.agg [(.int .u8 (.iv 9)), (.int .u8 (.iv 10)), (.int .i64 (.iv 11)), (.str (.tv 5)), (.str (.tv 6)), (.slc 8 (.nv 16) (.nv 17))]) ⟨3, 4, 1, 2, 0, 2, 0, 0⟩ t_xway_10)
@[reducible] def t_xway_12 : Tree := (.br (.bin .bor (.bin .teq (.tv 4) (.tl [])) (.bin .band (.bin .ieq (.iv 0) (.il 2)) (.bin .lt (.il 0) (.iv 4)))) t_xway_8 t_xway_11)
@[reducible] def t_xway_13 : Tree := (.br (.bin .band (.bin .lt (.iv 8) (.nv 12)) (.bin .teq (.tv 4) (.tl []))) t_xway_7 t_xway_12)
@[reducible] def t_xway_14 : Tree := (.loop [(.str (.tl [])), (.int .i64 (.il 0)), (.slc 3 (.nv 6) (.nv 7)), (.bool (.bv 2))] [] [(.str (.tv 4)), (.int .i64 (.iv 8)), (.slc 7 (.nv 14) (.nv 15)), (.bool (.bv 3))] [] ⟨1, 2, 1, 1, 0, 1, 0, 0⟩ t_xway_13)
@[reducible] def t_xway_15 : Tree := (.chk (.sm 5) (.chk (.bin .le (.il 0) (.iv 0)) (.chk (.bin .lt (.iv 0) (.nv 10)) (.look 60 (.elt 5 (.iv 0) 1 0) (.slc 6 (.nv 12) (.nv 13)) ⟨0, 2, 0, 0, 0, 1, 0, 0⟩ t_xway_14))))
@[reducible] def t_xway_16 : Tree := (.wr (.ret (.agg [(.int .u8 (.iv 5)), (.int .u8 (.iv 6)), (.int .i64 (.iv 7)), (.str (.tv 2)), (.str (.tv 3)), (.slc 4 (.nv 8) (.nv 9))]) [⟨0, 43, [(.slc 3 (.nv 6) (.nv 7)), (.bool (.bv 2))]⟩] [] []))
@[reducible] def t_xway_17 : Tree := (.br (.bin .band (.bin .lt (.iv 4) (.il 110)) (.un .not (.bv 2))) (.call 23 [] [] [] [] (.slc 5 (.nv 10) (.nv 11)) ⟨0, 2, 0, 0, 0, 1, 0, 0⟩ t_xway_15) t_xway_16)
@[reducible] def t_xway_18 : Tree := (.new (.wr (.loop [(.int .i64 (.il 0)), (.slc 2 (.nv 4) (.nv 5)), (.bool (.bv 1)), (.int .u8 (.iv 1)), (.int .u8 (.iv 2)), (.int .i64 (.iv 3)), (.str (.tv 0)), (.str (.tv 1)), (.slc 1 (.nv 2) (.nv 3))] [] [(.int .i64 (.iv 4)), (.slc 3 (.nv 6) (.nv 7)), (.bool (.bv 2)), (.int .u8 (.iv 5)), (.int .u8 (.iv 6)), (.int .i64 (.iv 7)), (.str (.tv 2)), (.str (.tv 3)), (.slc 4 (.nv 8) (.nv 9))] [] ⟨4, 4, 1, 2, 0, 2, 0, 0⟩ t_xway_17)))
@[reducible] def t_xway_19 : Tree := (.call 11 [(.ptr 0 0), (.int .i64 (.un (.wrap .i64) (.bin .add (.iv 0) (.il 1))))] [⟨0, 43, [(.slc 0 (.nv 0) (.nv 1)), (.bool (.bv 0))]⟩] [] [⟨0, 43, [(.slc 2 (.nv 4) (.nv 5)), (.bool (.bv 1))]⟩] (.agg [(.int .u8 (.iv 1)), (.int .u8 (.iv 2)), (.int .i64 (.iv 3)), (.str (.tv 0)), (.str (.tv 1)), (.slc 1 (.nv 2) (.nv 3))]) ⟨3, 4, 1, 2, 0, 2, 0, 0⟩ t_xway_18)
@[reducible] def t_xway : Tree :=
(.new (.br (.bin .bor (.bv 0) (.bin .lt (.il 4) (.iv 0))) t_xway_2 t_xway_19))
theorem x_xway : xfn Tryd.prog { ex := false, inl := [41, 43], loops := [⟨5, [.tm 6, .cell 0 0, .cell 0 1, .cell 2 0, .cell 2 1, .cell 2 2, .cell 2 3, .cell 2 4, .cell 2 5]⟩, ⟨10, [.tm 7, .tm 9, .cell 0 0, .cell 0 1]⟩], unroll := [], mu := [(24, [0]), (11, [0]), (22, [0])], mus := [0], stays := [], rowT := [], rwx := false, rws := [] } Tryd.f11 [(.ptr 0 0), (.int .i64 (.iv 0))] [⟨0, 43, [(.slc 0 (.nv 0) (.nv 1)), (.bool (.bv 0))]⟩] [] ⟨1, 2, 1, 0, 0, 1, 1, 0⟩ = some t_xway := by kernel_rfl
theorem vc_xway (i0 : Int) (n0 n1 : Nat) (b0 : Bool) (a0 : Option Addr) (m0 : Nat) (W : Wd) (R : Ending → World → Prop) (hm : W.w.heap[m0]? = some (.cells #[.slice a0 n0 n1, .bool b0] 43)) (hI : ¬ W.I m0) (h : t_xway.den Tryd.prog W.w.heap.size R [] { I := [i0], N := [n0, n1], B := [b0], A := [a0], M := [m0] } W) : CallsE Tryd.prog 11 #[.pointer (some ⟨m0, 0, none⟩), .int .i64 i0] W R :=
  fn_calls_mu Tryd.func11 _ _ [⟨0, 43, [(.slc 0 (.nv 0) (.nv 1)), (.bool (.bv 0))]⟩] { I := [i0], N := [n0, n1], B := [b0], A := [a0], M := [m0] } _ x_xway (fun v hv => by cases hv) (fun b hb => by simp only [List.mem_singleton] at hb; subst hb; exact hm) (fun b hb => by simp only [List.mem_singleton] at hb; subst hb; exact hI) (List.pairwise_singleton _ _) h

-- callboard/callboardref11.deep
@[reducible] def t_xdeep_1 : Tree := (.again 0 [(.int .i64 (.bin .max (.iv 3) (.iv 8))), (.int .i64 (.un (.wrap .i64) (.bin .add (.iv 4) (.il 1))))] [])
@[reducible] def t_xdeep_2 : Tree := (.call 12 [(.agg [(.int .u8 (.iv 5)), (.int .u8 (.iv 6)), (.int .i64 (.iv 7)), (.str (.tv 2)), (.str (.tv 3)), (.slc 1 (.nv 2) (.nv 3))])] [] [] [] (.int .i64 (.iv 8)) ⟨1, 0, 0, 0, 0, 0, 0, 0⟩ t_xdeep_1)
@[reducible] def t_xdeep_3 : Tree := (.chk (.sm 0) (.chk (.bin .le (.il 0) (.iv 4)) (.look 26 (.elt 0 (.iv 4) 6 0) (.agg [(.int .u8 (.iv 5)), (.int .u8 (.iv 6)), (.int .i64 (.iv 7)), (.str (.tv 2)), (.str (.tv 3)), (.slc 1 (.nv 2) (.nv 3))]) ⟨3, 2, 0, 2, 0, 1, 0, 0⟩ t_xdeep_2)))
@[reducible] def t_xdeep_4 : Tree := (.br (.bin .lt (.iv 4) (.nv 0)) t_xdeep_3 (.ret (.int .i64 (.un (.wrap .i64) (.bin .add (.iv 3) (.il 1)))) [] [] []))
@[reducible] def t_xdeep : Tree :=
(.new (.loop [(.int .i64 (.il 0)), (.int .i64 (.il 0))] [] [(.int .i64 (.iv 3)), (.int .i64 (.iv 4))] [] ⟨2, 0, 0, 0, 0, 0, 0, 0⟩ t_xdeep_4))
theorem x_xdeep : xfn Tryd.prog { ex := false, inl := [41, 43], loops := [⟨3, [.tm 3, .tm 4]⟩], unroll := [], mu := [(24, [0]), (11, [0]), (22, [0])], mus := [], stays := [], rowT := [], rwx := false, rws := [] } Tryd.f12 [(.agg [(.int .u8 (.iv 0)), (.int .u8 (.iv 1)), (.int .i64 (.iv 2)), (.str (.tv 0)), (.str (.tv 1)), (.slc 0 (.nv 0) (.nv 1))])] [] [] ⟨3, 2, 0, 2, 0, 1, 0, 0⟩ = some t_xdeep := by kernel_rfl
theorem vc_xdeep (i0 i1 i2 : Int) (n0 n1 : Nat) (t0 t1 : ByteArray) (a0 : Option Addr) (W : Wd) (R : Ending → World → Prop) (h : t_xdeep.den Tryd.prog W.w.heap.size R [] { I := [i0, i1, i2], N := [n0, n1], T := [t0, t1], A := [a0] } W) : CallsE Tryd.prog 12 #[.agg #[.int .u8 i0, .int .u8 i1, .int .i64 i2, .string t0, .string t1, .slice a0 n0 n1]] W R :=
  fn_calls Tryd.func12 _ _ { I := [i0, i1, i2], N := [n0, n1], T := [t0, t1], A := [a0] } _ x_xdeep (fun v hv => by cases hv) h

-- callboard/callboardref11.Parse
@[reducible] def t_xParse_1 : Tree := (.wr (.ret (.tup [(.agg [(.int .u8 (.il 0)), (.int .u8 (.il 0)), (.int .i64 (.il 0)), (.str (.tl [])), (.str (.tl [])), .nils]), (.int .i64 (.iv 0))]) [] [] []))
@[reducible] def t_xParse_2 : Tree := (.wr (.ret (.tup [(.agg [(.int .u8 (.il 0)), (.int .u8 (.il 0)), (.int .i64 (.il 0)), (.str (.tl [])), (.str (.tl [])), .nils]), (.int .i64 (.il 4))]) [] [] []))
@[reducible] def t_xParse_3 : Tree := (.wr (.ret (.tup [(.agg [(.int .u8 (.il 0)), (.int .u8 (.il 0)), (.int .i64 (.il 0)), (.str (.tl [])), (.str (.tl [])), .nils]), (.int .i64 (.il 40))]) [] [] []))
@[reducible] def t_xParse_4 : Tree := (.wr (.ret (.tup [(.agg [(.int .u8 (.iv 1)), (.int .u8 (.iv 2)), (.int .i64 (.iv 3)), (.str (.tv 1)), (.str (.tv 2)), (.slc 1 (.nv 2) (.nv 3))]), (.int .i64 (.il 0))]) [] [] []))
@[reducible] def t_xParse_5 : Tree := (.call 12 [(.agg [(.int .u8 (.iv 1)), (.int .u8 (.iv 2)), (.int .i64 (.iv 3)), (.str (.tv 1)), (.str (.tv 2)), (.slc 1 (.nv 2) (.nv 3))])] [] [] [] (.int .i64 (.iv 4)) ⟨1, 0, 0, 0, 0, 0, 0, 0⟩ (.br (.bin .lt (.il 16) (.iv 4)) t_xParse_3 t_xParse_4))
@[reducible] def t_xParse_6 : Tree := (.new (.call 11 [(.ptr 1 0), (.int .i64 (.il 0))] [⟨1, 43, [(.slc 0 (.nv 0) (.nv 1)), (.bool (.bl false))]⟩] [] [⟨1, 43, [(.slc 2 (.nv 4) (.nv 5)), (.bool (.bv 0))]⟩] (.agg [(.int .u8 (.iv 1)), (.int .u8 (.iv 2)), (.int .i64 (.iv 3)), (.str (.tv 1)), (.str (.tv 2)), (.slc 1 (.nv 2) (.nv 3))]) ⟨3, 4, 1, 2, 0, 2, 0, 0⟩ (.new (.wr (.br (.bin .bor (.bv 0) (.bin .lt (.il 0) (.nv 4))) t_xParse_2 t_xParse_5)))))
@[reducible] def t_xParse : Tree :=
(.new (.call 10 [(.str (.tv 0))] [] [] [] (.tup [(.slc 0 (.nv 0) (.nv 1)), (.int .i64 (.iv 0))]) ⟨1, 2, 0, 0, 0, 1, 0, 0⟩ (.br (.un .not (.bin .ieq (.iv 0) (.il 0))) t_xParse_1 t_xParse_6)))
theorem x_xParse : xfn Tryd.prog { ex := false, inl := [41, 43], loops := [], unroll := [], mu := [(24, [0]), (11, [0]), (22, [0])], mus := [], stays := [], rowT := [], rwx := false, rws := [] } Tryd.f5 [(.str (.tv 0))] [] [] ⟨0, 0, 0, 1, 0, 0, 0, 0⟩ = some t_xParse := by kernel_rfl
theorem vc_xParse (t0 : ByteArray) (W : Wd) (R : Ending → World → Prop) (h : t_xParse.den Tryd.prog W.w.heap.size R [] { T := [t0] } W) : CallsE Tryd.prog 5 #[.string t0] W R :=
  fn_calls Tryd.func5 _ _ { T := [t0] } _ x_xParse (fun v hv => by cases hv) h

-- callboard/callboardlaw11.ParseReads
@[reducible] def t_lreads_1 : Tree := (.call 6 [(.agg [(.int .u8 (.iv 0)), (.int .u8 (.iv 1)), (.int .i64 (.iv 2)), (.str (.tv 1)), (.str (.tv 2)), (.slc 0 (.nv 0) (.nv 1))]), (.agg [(.int .u8 (.iv 4)), (.int .u8 (.iv 5)), (.int .i64 (.iv 6)), (.str (.tv 3)), (.str (.tv 4)), (.slc 1 (.nv 2) (.nv 3))])] [] [] [] (.bool (.bv 0)) ⟨0, 0, 1, 0, 0, 0, 0, 0⟩ (.ret (.bool (.bv 0)) [] [] []))
@[reducible] def t_lreads_2 : Tree := (.new (.wr (.br (.bin .ieq (.iv 3) (.iv 7)) t_lreads_1 (.ret (.bool (.bl false)) [] [] []))))
@[reducible] def t_lreads_3 : Tree := (.new (.wr (.call 5 [(.str (.tv 0))] [] [] [] (.tup [(.agg [(.int .u8 (.iv 4)), (.int .u8 (.iv 5)), (.int .i64 (.iv 6)), (.str (.tv 3)), (.str (.tv 4)), (.slc 1 (.nv 2) (.nv 3))]), (.int .i64 (.iv 7))]) ⟨4, 2, 0, 2, 0, 1, 0, 0⟩ t_lreads_2)))
@[reducible] def t_lreads_4 : Tree := (.call 4 [(.str (.tv 0))] [] [] [] (.tup [(.agg [(.int .u8 (.iv 0)), (.int .u8 (.iv 1)), (.int .i64 (.iv 2)), (.str (.tv 1)), (.str (.tv 2)), (.slc 0 (.nv 0) (.nv 1))]), (.int .i64 (.iv 3))]) ⟨4, 2, 0, 2, 0, 1, 0, 0⟩ t_lreads_3)
@[reducible] def t_lreads : Tree :=
(.br (.bin .lt (.il 1000) (.un .len (.tv 0))) (.ret (.bool (.bl true)) [] [] []) t_lreads_4)
theorem x_lreads : xfn Tryd.prog { ex := false, inl := [41, 43], loops := [], unroll := [], mu := [(24, [0]), (11, [0]), (22, [0])], mus := [], stays := [], rowT := [], rwx := false, rws := [] } Tryd.f3 [(.str (.tv 0))] [] [] ⟨0, 0, 0, 1, 0, 0, 0, 0⟩ = some t_lreads := by kernel_rfl
theorem vc_lreads (t0 : ByteArray) (W : Wd) (R : Ending → World → Prop) (h : t_lreads.den Tryd.prog W.w.heap.size R [] { T := [t0] } W) : CallsE Tryd.prog 3 #[.string t0] W R :=
  fn_calls Tryd.func3 _ _ { T := [t0] } _ x_lreads (fun v hv => by cases hv) h

end Go.Proofs.YtckgdgkkmhochaaDoor
