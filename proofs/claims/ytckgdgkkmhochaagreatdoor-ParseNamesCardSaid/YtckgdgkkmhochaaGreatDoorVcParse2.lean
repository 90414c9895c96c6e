/- What is left to show of functions, as the walk that the kernel computes finds it (written by wip/vc2.py). -/
import Derived.Test.YtckgdgkkmhochaaGreatDoorProg
import Derived.Test.YtckgdgkkmhochaaGreatDoorSfD
namespace Go.Proofs.YtckgdgkkmhochaaGreatDoor
open Go Go.RowKit Go.SF
set_option maxRecDepth 100000

-- callboard/parse.Parse
@[reducible] def t_parse_1 : Tree := (.wr (.ret (.tup [(.agg [(.int .u8 (.il 0)), (.int .u8 (.il 0)), (.int .i64 (.il 0)), (.str (.tl [])), (.str (.tl [])), .nils]), (.int .i64 (.iv 0))]) [] [] []))
@[reducible] def t_parse_2 : Tree := (.wr (.ret (.tup [(.agg [(.int .u8 (.il 0)), (.int .u8 (.il 0)), (.int .i64 (.il 0)), (.str (.tl [])), (.str (.tl [])), .nils]), (.int .i64 (.il 4))]) [] [] []))
@[reducible] def t_parse_3 : Tree := (.wr (.ret (.tup [(.agg [(.int .u8 (.il 0)), (.int .u8 (.il 0)), (.int .i64 (.il 0)), (.str (.tl [])), (.str (.tl [])), .nils]), (.int .i64 (.il 40))]) [] [] []))
@[reducible] def t_parse_4 : Tree := (.wr (.ret (.tup [(.agg [(.int .u8 (.iv 1)), (.int .u8 (.iv 2)), (.int .i64 (.iv 3)), (.str (.tv 1)), (.str (.tv 2)), (.slc 1 (.nv 2) (.nv 3))]), (.int .i64 (.il 0))]) [] [] []))
@[reducible] def t_parse_5 : Tree := (.call 40 [(.agg [(.int .u8 (.iv 1)), (.int .u8 (.iv 2)), (.int .i64 (.iv 3)), (.str (.tv 1)), (.str (.tv 2)), (.slc 1 (.nv 2) (.nv 3))])] [] [] [] (.int .i64 (.iv 4)) ⟨1, 0, 0, 0, 0, 0, 0, 0⟩ (.br (.bin .lt (.il 16) (.iv 4)) t_parse_3 t_parse_4))
@[reducible] def t_parse_6 : Tree := (.call 39 [(.slc 0 (.nv 0) (.nv 1))] [] [] [] (.tup [(.agg [(.int .u8 (.iv 1)), (.int .u8 (.iv 2)), (.int .i64 (.iv 3)), (.str (.tv 1)), (.str (.tv 2)), (.slc 1 (.nv 2) (.nv 3))]), (.bool (.bv 0))]) ⟨3, 2, 1, 2, 0, 1, 0, 0⟩ (.new (.wr (.br (.un .not (.bv 0)) t_parse_2 t_parse_5))))
@[reducible] def t_parse : Tree :=
(.new (.call 38 [(.str (.tv 0))] [] [] [] (.tup [(.slc 0 (.nv 0) (.nv 1)), (.int .i64 (.iv 0))]) ⟨1, 2, 0, 0, 0, 1, 0, 0⟩ (.br (.un .not (.bin .ieq (.iv 0) (.il 0))) t_parse_1 t_parse_6)))
theorem x_parse : xfn Tryz.prog { ex := false, inl := [], loops := [], unroll := [], mu := [], mus := [], stays := [], rowT := [], rwx := false, nilR := [], rws := [] } Tryz.f20 [(.str (.tv 0))] [] [] ⟨0, 0, 0, 1, 0, 0, 0, 0⟩ = some t_parse := by kernel_rfl
theorem vc_parse (t0 : ByteArray) (W : Wd) (R : Ending → World → Prop) (h : t_parse.den Tryz.prog W.w.heap.size R [] { T := [t0] } W) : CallsE Tryz.prog 20 #[.string t0] W R :=
  fn_calls Tryz.func20 _ _ { T := [t0] } _ x_parse (fun v hv => by cases hv) h

-- callboard/callboardref11.Same
@[reducible] def t_same_1 : Tree := (.grow (.br (.un .not (.bv 0)) (.ret (.bool (.bl false)) [] [] []) (.again 0 [(.int .i64 (.un (.wrap .i64) (.bin .add (.iv 6) (.il 1))))] [])))
@[reducible] def t_same_2 : Tree := (.callq 17 [(.agg [(.int .u8 (.iv 7)), (.int .u8 (.iv 8)), (.int .i64 (.iv 9)), (.str (.tv 4)), (.str (.tv 5)), (.slc 2 (.nv 4) (.nv 5))]), (.agg [(.int .u8 (.iv 10)), (.int .u8 (.iv 11)), (.int .i64 (.iv 12)), (.str (.tv 6)), (.str (.tv 7)), (.slc 3 (.nv 6) (.nv 7))])] [] [] (.bool (.bv 0)) ⟨0, 0, 1, 0, 0, 0, 0, 0⟩ t_same_1)
@[reducible] def t_same_3 : Tree := (.chk (.sm 1) (.chk (.bin .lt (.iv 6) (.nv 2)) (.look 26 (.elt 1 (.iv 6) 6 0) (.agg [(.int .u8 (.iv 10)), (.int .u8 (.iv 11)), (.int .i64 (.iv 12)), (.str (.tv 6)), (.str (.tv 7)), (.slc 3 (.nv 6) (.nv 7))]) ⟨3, 2, 0, 2, 0, 1, 0, 0⟩ t_same_2)))
@[reducible] def t_same_4 : Tree := (.chk (.sm 0) (.chk (.bin .le (.il 0) (.iv 6)) (.look 26 (.elt 0 (.iv 6) 6 0) (.agg [(.int .u8 (.iv 7)), (.int .u8 (.iv 8)), (.int .i64 (.iv 9)), (.str (.tv 4)), (.str (.tv 5)), (.slc 2 (.nv 4) (.nv 5))]) ⟨3, 2, 0, 2, 0, 1, 0, 0⟩ t_same_3)))
@[reducible] def t_same_5 : Tree := (.loop [(.int .i64 (.il 0))] [] [(.int .i64 (.iv 6))] [] ⟨1, 0, 0, 0, 0, 0, 0, 0⟩ (.br (.bin .lt (.iv 6) (.nv 0)) t_same_4 (.ret (.bool (.bl true)) [] [] [])))
@[reducible] def t_same : Tree :=
(.new (.new (.br (.bin .bor (.bin .bor (.bin .bor (.un .not (.bin .ieq (.iv 0) (.iv 3))) (.un .not (.bin .band (.bin .ieq (.iv 1) (.iv 4)) (.bin .band (.bin .ieq (.iv 2) (.iv 5)) (.bin .teq (.tv 0) (.tv 2)))))) (.un .not (.bin .teq (.tv 1) (.tv 3)))) (.un .not (.bin .ieq (.nv 0) (.nv 2)))) (.ret (.bool (.bl false)) [] [] []) t_same_5)))
theorem x_same : xfn Tryz.prog { ex := false, inl := [], loops := [⟨4, [.tm 5]⟩], unroll := [], mu := [], mus := [], stays := [], rowT := [], rwx := false, nilR := [], rws := [] } Tryz.f17 [(.agg [(.int .u8 (.iv 0)), (.int .u8 (.iv 1)), (.int .i64 (.iv 2)), (.str (.tv 0)), (.str (.tv 1)), (.slc 0 (.nv 0) (.nv 1))]), (.agg [(.int .u8 (.iv 3)), (.int .u8 (.iv 4)), (.int .i64 (.iv 5)), (.str (.tv 2)), (.str (.tv 3)), (.slc 1 (.nv 2) (.nv 3))])] [] [] ⟨6, 4, 0, 4, 0, 2, 0, 0⟩ = some t_same := by kernel_rfl
theorem vc_same (i0 i1 i2 i3 i4 i5 : Int) (n0 n1 n2 n3 : Nat) (t0 t1 t2 t3 : ByteArray) (a0 a1 : Option Addr) (W : Wd) (R : Ending → World → Prop) (h : t_same.den Tryz.prog W.w.heap.size R [] { I := [i0, i1, i2, i3, i4, i5], N := [n0, n1, n2, n3], T := [t0, t1, t2, t3], A := [a0, a1] } W) : CallsE Tryz.prog 17 #[.agg #[.int .u8 i0, .int .u8 i1, .int .i64 i2, .string t0, .string t1, .slice a0 n0 n1], .agg #[.int .u8 i3, .int .u8 i4, .int .i64 i5, .string t2, .string t3, .slice a1 n2 n3]] W R :=
  fn_calls Tryz.func17 _ _ { I := [i0, i1, i2, i3, i4, i5], N := [n0, n1, n2, n3], T := [t0, t1, t2, t3], A := [a0, a1] } _ x_same (fun v hv => by cases hv) h

-- callboard/parse.args
@[reducible] def t_args_1 : Tree := (.br (.bin .ieq (.iv 0) (.il 16)) (.ret (.int .i64 (.il 1)) [] [] []) (.ret (.int .i64 (.il 2)) [] [] []))
@[reducible] def t_args_2 : Tree := (.br (.bin .ieq (.iv 0) (.il 3)) (.ret (.int .i64 (.il 1)) [] [] []) (.br (.bin .ieq (.iv 0) (.il 4)) (.ret (.int .i64 (.il 1)) [] [] []) t_args_1))
@[reducible] def t_args : Tree :=
(.br (.bin .ieq (.iv 0) (.il 1)) (.ret (.int .i64 (.il 0)) [] [] []) (.br (.bin .ieq (.iv 0) (.il 2)) (.ret (.int .i64 (.il 0)) [] [] []) t_args_2))
theorem x_args : xfn Tryz.prog { ex := false, inl := [], loops := [], unroll := [], mu := [], mus := [], stays := [], rowT := [], rwx := false, nilR := [], rws := [] } Tryz.f50 [(.int .u8 (.iv 0))] [] [] ⟨1, 0, 0, 0, 0, 0, 0, 0⟩ = some t_args := by kernel_rfl
theorem vc_args (i0 : Int) (W : Wd) (R : Ending → World → Prop) (h : t_args.den Tryz.prog W.w.heap.size R [] { I := [i0] } W) : CallsE Tryz.prog 50 #[.int .u8 i0] W R :=
  fn_calls Tryz.func50 _ _ { I := [i0] } _ x_args (fun v hv => by cases hv) h

-- callboard/parse.word
@[reducible] def t_word_1 : Tree := (.call 59 [(.agg [(.int .u8 (.il 2)), (.str (.tv 0))])] [] [] [] (.bool (.bv 0)) ⟨0, 0, 1, 0, 0, 0, 0, 0⟩ (.ret (.bool (.bv 0)) [] [] []))
@[reducible] def t_word : Tree :=
(.br (.bin .band (.bin .band (.un .not (.bin .teq (.tv 0) (.tl [121, 101, 115]))) (.un .not (.bin .teq (.tv 0) (.tl [110, 111])))) (.un .not (.bin .teq (.tv 0) (.tl [108, 101, 110])))) t_word_1 (.ret (.bool (.bl false)) [] [] []))
theorem x_word : xfn Tryz.prog { ex := false, inl := [], loops := [], unroll := [], mu := [], mus := [], stays := [], rowT := [], rwx := false, nilR := [], rws := [] } Tryz.f51 [(.str (.tv 0))] [] [] ⟨0, 0, 0, 1, 0, 0, 0, 0⟩ = some t_word := by kernel_rfl
theorem vc_word (t0 : ByteArray) (W : Wd) (R : Ending → World → Prop) (h : t_word.den Tryz.prog W.w.heap.size R [] { T := [t0] } W) : CallsE Tryz.prog 51 #[.string t0] W R :=
  fn_calls Tryz.func51 _ _ { T := [t0] } _ x_word (fun v hv => by cases hv) h

-- callboard/parse.may$1
@[reducible] def t_mayc : Tree :=
(.new (.call 35 [(.agg [(.int .u8 (.iv 0)), (.int .u8 (.iv 1)), (.int .i64 (.iv 2)), (.str (.tv 0)), (.str (.tv 1)), (.slc 0 (.nv 0) (.nv 1))]), (.int .i64 (.un (.wrap .i64) (.bin .sub (.iv 3) (.il 1))))] [] [] [] (.bool (.bv 0)) ⟨0, 0, 1, 0, 0, 0, 0, 0⟩ (.ret (.bool (.un .not (.bv 0))) [] [] [])))
theorem x_mayc : xfn Tryz.prog { ex := false, inl := [], loops := [], unroll := [], mu := [], mus := [], stays := [], rowT := [], rwx := false, nilR := [], rws := [] } Tryz.f54 [(.agg [(.int .u8 (.iv 0)), (.int .u8 (.iv 1)), (.int .i64 (.iv 2)), (.str (.tv 0)), (.str (.tv 1)), (.slc 0 (.nv 0) (.nv 1))]), (.ptr 0 0)] [] [⟨0, 3, [(.int .i64 (.iv 3))]⟩] ⟨4, 2, 0, 2, 0, 1, 1, 0⟩ = some t_mayc := by kernel_rfl
theorem vc_mayc (i0 i1 i2 i3 : Int) (n0 n1 : Nat) (t0 t1 : ByteArray) (a0 : Option Addr) (m0 : Nat) (W : Wd) (R : Ending → World → Prop) (hm0 : W.w.heap[m0]? = some (.cells #[.int .i64 i3] 3)) (Im0 : W.I m0) (h : t_mayc.den Tryz.prog W.w.heap.size R [] { I := [i0, i1, i2, i3], N := [n0, n1], T := [t0, t1], A := [a0], M := [m0] } W) : CallsE Tryz.prog 54 #[.agg #[.int .u8 i0, .int .u8 i1, .int .i64 i2, .string t0, .string t1, .slice a0 n0 n1], .pointer (some ⟨m0, 0, none⟩)] W R :=
  fn_calls_ro Tryz.func54 _ _ [⟨0, 3, [(.int .i64 (.iv 3))]⟩] { I := [i0, i1, i2, i3], N := [n0, n1], T := [t0, t1], A := [a0], M := [m0] } _ x_mayc (fun v hv => by cases hv) (fun b hb => by simp only [List.mem_cons, List.not_mem_nil, or_false] at hb; rcases hb with rfl <;> (first | exact hm0)) (fun b hb => by simp only [List.mem_cons, List.not_mem_nil, or_false] at hb; rcases hb with rfl <;> (first | exact Im0)) h

-- slices.IndexFunc[[]callboard/api.Expr,callboard/api.Expr]
@[reducible] def t_idx_1 : Tree := (.br (.bv 0) (.ret (.int .i64 (.iv 1)) [] [] []) (.again 0 [(.int .i64 (.un (.wrap .i64) (.bin .add (.iv 1) (.il 1))))] []))
@[reducible] def t_idx_2 : Tree := (.call 54 [(.agg [(.int .u8 (.iv 2)), (.int .u8 (.iv 3)), (.int .i64 (.iv 4)), (.str (.tv 0)), (.str (.tv 1)), (.slc 1 (.nv 2) (.nv 3))]), (.ptr 0 0)] [⟨0, 3, [(.int .i64 (.iv 0))]⟩] [] [] (.bool (.bv 0)) ⟨0, 0, 1, 0, 0, 0, 0, 0⟩ t_idx_1)
@[reducible] def t_idx_3 : Tree := (.chk (.sm 0) (.chk (.bin .le (.il 0) (.iv 1)) (.look 26 (.elt 0 (.iv 1) 6 0) (.agg [(.int .u8 (.iv 2)), (.int .u8 (.iv 3)), (.int .i64 (.iv 4)), (.str (.tv 0)), (.str (.tv 1)), (.slc 1 (.nv 2) (.nv 3))]) ⟨3, 2, 0, 2, 0, 1, 0, 0⟩ t_idx_2)))
@[reducible] def t_idx : Tree :=
(.loop [(.int .i64 (.il 0))] [] [(.int .i64 (.iv 1))] [] ⟨1, 0, 0, 0, 0, 0, 0, 0⟩ (.br (.bin .lt (.iv 1) (.nv 0)) t_idx_3 (.ret (.int .i64 (.il (-1))) [] [] [])))
theorem x_idx : xfn Tryz.prog { ex := false, inl := [], loops := [⟨2, [.tm 8]⟩], unroll := [], mu := [], mus := [], stays := [], rowT := [], rwx := false, nilR := [], rws := [] } Tryz.f78 [(.slc 0 (.nv 0) (.nv 1)), (.fn 54 [(.ptr 0 0)])] [] [⟨0, 3, [(.int .i64 (.iv 0))]⟩] ⟨1, 2, 0, 0, 0, 1, 1, 0⟩ = some t_idx := by kernel_rfl
theorem vc_idx (i0 : Int) (n0 n1 : Nat) (a0 : Option Addr) (m0 : Nat) (W : Wd) (R : Ending → World → Prop) (hm0 : W.w.heap[m0]? = some (.cells #[.int .i64 i0] 3)) (Im0 : W.I m0) (h : t_idx.den Tryz.prog W.w.heap.size R [] { I := [i0], N := [n0, n1], A := [a0], M := [m0] } W) : CallsE Tryz.prog 78 #[.slice a0 n0 n1, .func (.func 54) #[] #[.pointer (some ⟨m0, 0, none⟩)]] W R :=
  fn_calls_ro Tryz.func78 _ _ [⟨0, 3, [(.int .i64 (.iv 0))]⟩] { I := [i0], N := [n0, n1], A := [a0], M := [m0] } _ x_idx (fun v hv => by cases hv) (fun b hb => by simp only [List.mem_cons, List.not_mem_nil, or_false] at hb; rcases hb with rfl <;> (first | exact hm0)) (fun b hb => by simp only [List.mem_cons, List.not_mem_nil, or_false] at hb; rcases hb with rfl <;> (first | exact Im0)) h

-- slices.ContainsFunc[[]callboard/api.Expr,callboard/api.Expr]
@[reducible] def t_cont : Tree :=
(.call 78 [(.slc 0 (.nv 0) (.nv 1)), (.fn 54 [(.ptr 0 0)])] [⟨0, 3, [(.int .i64 (.iv 0))]⟩] [] [] (.int .i64 (.iv 1)) ⟨1, 0, 0, 0, 0, 0, 0, 0⟩ (.ret (.bool (.bin .le (.il 0) (.iv 1))) [] [] []))
theorem x_cont : xfn Tryz.prog { ex := false, inl := [], loops := [], unroll := [], mu := [], mus := [], stays := [], rowT := [], rwx := false, nilR := [], rws := [] } Tryz.f53 [(.slc 0 (.nv 0) (.nv 1)), (.fn 54 [(.ptr 0 0)])] [] [⟨0, 3, [(.int .i64 (.iv 0))]⟩] ⟨1, 2, 0, 0, 0, 1, 1, 0⟩ = some t_cont := by kernel_rfl
theorem vc_cont (i0 : Int) (n0 n1 : Nat) (a0 : Option Addr) (m0 : Nat) (W : Wd) (R : Ending → World → Prop) (hm0 : W.w.heap[m0]? = some (.cells #[.int .i64 i0] 3)) (Im0 : W.I m0) (h : t_cont.den Tryz.prog W.w.heap.size R [] { I := [i0], N := [n0, n1], A := [a0], M := [m0] } W) : CallsE Tryz.prog 53 #[.slice a0 n0 n1, .func (.func 54) #[] #[.pointer (some ⟨m0, 0, none⟩)]] W R :=
  fn_calls_ro Tryz.func53 _ _ [⟨0, 3, [(.int .i64 (.iv 0))]⟩] { I := [i0], N := [n0, n1], A := [a0], M := [m0] } _ x_cont (fun v hv => by cases hv) (fun b hb => by simp only [List.mem_cons, List.not_mem_nil, or_false] at hb; rcases hb with rfl <;> (first | exact hm0)) (fun b hb => by simp only [List.mem_cons, List.not_mem_nil, or_false] at hb; rcases hb with rfl <;> (first | exact Im0)) h

-- callboard/parse.may
@[reducible] def t_pmay_1 : Tree := (.call 53 [(.slc 0 (.nv 0) (.nv 1)), (.fn 54 [(.ptr 1 0)])] [⟨1, 3, [(.int .i64 (.iv 3))]⟩] [] [] (.bool (.bv 2)) ⟨0, 0, 1, 0, 0, 0, 0, 0⟩ (.ret (.bool (.un .not (.bv 2))) [] [] []))
@[reducible] def t_pmay_2 : Tree := (.br (.bin .bor (.bin .bor (.un .not (.bv 1)) (.bin .ieq (.iv 1) (.il 0))) (.bin .band (.bin .ieq (.iv 1) (.il 1)) (.bin .lt (.iv 2) (.il 0)))) (.ret (.bool (.bl false)) [] [] []) t_pmay_1)
@[reducible] def t_pmay_3 : Tree := (.call 52 [(.agg [(.int .u8 (.iv 1)), (.int .i64 (.iv 2)), (.str (.tv 0))])] [] [] [] (.bool (.bv 1)) ⟨0, 0, 1, 0, 0, 0, 0, 0⟩ t_pmay_2)
@[reducible] def t_pmay_4 : Tree := (.call 53 [(.slc 0 (.nv 0) (.nv 1)), (.fn 54 [(.ptr 1 0)])] [⟨1, 3, [(.int .i64 (.iv 3))]⟩] [] [] (.bool (.bv 1)) ⟨0, 0, 1, 0, 0, 0, 0, 0⟩ (.ret (.bool (.un .not (.bv 1))) [] [] []))
@[reducible] def t_pmay_5 : Tree := (.grow (.br (.bin .bor (.un .not (.bin .beq (.bin .ieq (.iv 0) (.il 2)) (.bv 0))) (.bin .band (.un .not (.bin .ieq (.iv 0) (.il 2))) (.un .not (.bin .teq (.tv 1) (.tl []))))) (.ret (.bool (.bl false)) [] [] []) (.br (.bin .ieq (.iv 0) (.il 1)) t_pmay_3 t_pmay_4)))
@[reducible] def t_pmay_6 : Tree := (.br (.un .not (.bin .band (.un .not (.bin .ieq (.iv 0) (.il 1))) (.un .not (.bin .band (.bin .ieq (.iv 1) (.il 0)) (.bin .band (.bin .ieq (.iv 2) (.il 0)) (.bin .teq (.tv 0) (.tl []))))))) (.callq 51 [(.str (.tv 1))] [] [] (.bool (.bv 0)) ⟨0, 0, 1, 0, 0, 0, 0, 0⟩ t_pmay_5) (.grow (.ret (.bool (.bl false)) [] [] [])))
@[reducible] def t_pmay_7 : Tree := (.grow (.br (.un .not (.bin .ieq (.nv 0) (.iv 4))) (.ret (.bool (.bl false)) [] [] []) t_pmay_6))
@[reducible] def t_pmay_8 : Tree := (.callq 50 [(.int .u8 (.iv 0))] [] [] (.int .i64 (.iv 4)) ⟨1, 0, 0, 0, 0, 0, 0, 0⟩ t_pmay_7)
@[reducible] def t_pmay : Tree :=
(.new (.new (.br (.un .not (.bin .bor (.bin .bor (.bin .ieq (.iv 3) (.il 0)) (.bin .lt (.iv 0) (.il 1))) (.bin .lt (.il 16) (.iv 0)))) t_pmay_8 (.grow (.ret (.bool (.bl false)) [] [] [])))))
theorem x_pmay : xfn Tryz.prog { ex := false, inl := [], loops := [], unroll := [], mu := [], mus := [], stays := [], rowT := [], rwx := false, nilR := [], rws := [] } Tryz.f35 [(.agg [(.int .u8 (.iv 0)), (.int .u8 (.iv 1)), (.int .i64 (.iv 2)), (.str (.tv 0)), (.str (.tv 1)), (.slc 0 (.nv 0) (.nv 1))]), (.int .i64 (.iv 3))] [] [] ⟨4, 2, 0, 2, 0, 1, 0, 0⟩ = some t_pmay := by kernel_rfl
theorem vc_pmay (i0 i1 i2 i3 : Int) (n0 n1 : Nat) (t0 t1 : ByteArray) (a0 : Option Addr) (W : Wd) (R : Ending → World → Prop) (h : t_pmay.den Tryz.prog W.w.heap.size R [] { I := [i0, i1, i2, i3], N := [n0, n1], T := [t0, t1], A := [a0] } W) : CallsE Tryz.prog 35 #[.agg #[.int .u8 i0, .int .u8 i1, .int .i64 i2, .string t0, .string t1, .slice a0 n0 n1], .int .i64 i3] W R :=
  fn_calls Tryz.func35 _ _ { I := [i0, i1, i2, i3], N := [n0, n1], T := [t0, t1], A := [a0] } _ x_pmay (fun v hv => by cases hv) h

-- callboard/parse.May
@[reducible] def t_pMay : Tree :=
(.new (.call 35 [(.agg [(.int .u8 (.iv 0)), (.int .u8 (.iv 1)), (.int .i64 (.iv 2)), (.str (.tv 0)), (.str (.tv 1)), (.slc 0 (.nv 0) (.nv 1))]), (.int .i64 (.il 16))] [] [] [] (.bool (.bv 0)) ⟨0, 0, 1, 0, 0, 0, 0, 0⟩ (.ret (.bool (.bv 0)) [] [] [])))
theorem x_pMay : xfn Tryz.prog { ex := false, inl := [], loops := [], unroll := [], mu := [], mus := [], stays := [], rowT := [], rwx := false, nilR := [], rws := [] } Tryz.f14 [(.agg [(.int .u8 (.iv 0)), (.int .u8 (.iv 1)), (.int .i64 (.iv 2)), (.str (.tv 0)), (.str (.tv 1)), (.slc 0 (.nv 0) (.nv 1))])] [] [] ⟨3, 2, 0, 2, 0, 1, 0, 0⟩ = some t_pMay := by kernel_rfl
theorem vc_pMay (i0 i1 i2 : Int) (n0 n1 : Nat) (t0 t1 : ByteArray) (a0 : Option Addr) (W : Wd) (R : Ending → World → Prop) (h : t_pMay.den Tryz.prog W.w.heap.size R [] { I := [i0, i1, i2], N := [n0, n1], T := [t0, t1], A := [a0] } W) : CallsE Tryz.prog 14 #[.agg #[.int .u8 i0, .int .u8 i1, .int .i64 i2, .string t0, .string t1, .slice a0 n0 n1]] W R :=
  fn_calls Tryz.func14 _ _ { I := [i0, i1, i2], N := [n0, n1], T := [t0, t1], A := [a0] } _ x_pMay (fun v hv => by cases hv) h

-- callboard/parse.much
@[reducible] def t_much_1 : Tree := (.br (.bin .bor (.bin .ieq (.iv 0) (.il 3)) (.bin .ieq (.iv 0) (.il 4))) (.ret (.int .i64 (.il 6)) [] [] []) (.ret (.int .i64 (.il 7)) [] [] []))
@[reducible] def t_much : Tree :=
(.new (.call 43 [(.str (.tl [110, 111, 110, 101])), (.int .u8 (.iv 0))] [] [] [] (.tup [(.agg [(.str (.tv 2)), (.int .u8 (.iv 3)), (.int .i64 (.iv 4))]), (.bool (.bv 0))]) ⟨2, 0, 1, 1, 0, 0, 0, 0⟩ (.new (.wr (.br (.bv 0) (.ret (.int .i64 (.iv 4)) [] [] []) t_much_1)))))
theorem x_much : xfn Tryz.prog { ex := false, inl := [], loops := [], unroll := [], mu := [], mus := [], stays := [], rowT := [], rwx := false, nilR := [], rws := [] } Tryz.f64 [(.agg [(.int .u8 (.iv 0)), (.int .u8 (.iv 1)), (.int .i64 (.iv 2)), (.str (.tv 0)), (.str (.tv 1)), (.slc 0 (.nv 0) (.nv 1))])] [] [] ⟨3, 2, 0, 2, 0, 1, 0, 0⟩ = some t_much := by kernel_rfl
theorem vc_much (i0 i1 i2 : Int) (n0 n1 : Nat) (t0 t1 : ByteArray) (a0 : Option Addr) (W : Wd) (R : Ending → World → Prop) (h : t_much.den Tryz.prog W.w.heap.size R [] { I := [i0, i1, i2], N := [n0, n1], T := [t0, t1], A := [a0] } W) : CallsE Tryz.prog 64 #[.agg #[.int .u8 i0, .int .u8 i1, .int .i64 i2, .string t0, .string t1, .slice a0 n0 n1]] W R :=
  fn_calls Tryz.func64 _ _ { I := [i0, i1, i2], N := [n0, n1], T := [t0, t1], A := [a0] } _ x_much (fun v hv => by cases hv) h

-- callboard/parse.within
@[reducible] def t_within_1 : Tree := (.chk (.bin .le (.bin .add (.un .len (.tl [40])) (.un .len (.tv 3))) (.il 9223372036854775807)) (.chk (.bin .le (.bin .add (.un .len (.bin .cat (.tl [40]) (.tv 3))) (.un .len (.tl [41]))) (.il 9223372036854775807)) (.ret (.str (.bin .cat (.bin .cat (.tl [40]) (.tv 3)) (.tl [41]))) [] [] [])))
@[reducible] def t_within_2 : Tree := (.call 30 [(.agg [(.int .u8 (.iv 0)), (.int .u8 (.iv 1)), (.int .i64 (.iv 2)), (.str (.tv 0)), (.str (.tv 1)), (.slc 0 (.nv 0) (.nv 1))])] [] [] [] (.str (.tv 3)) ⟨0, 0, 0, 1, 0, 0, 0, 0⟩ t_within_1)
@[reducible] def t_within_3 : Tree := (.call 64 [(.agg [(.int .u8 (.iv 0)), (.int .u8 (.iv 1)), (.int .i64 (.iv 2)), (.str (.tv 0)), (.str (.tv 1)), (.slc 0 (.nv 0) (.nv 1))])] [] [] [] (.int .i64 (.iv 4)) ⟨1, 0, 0, 0, 0, 0, 0, 0⟩ (.br (.bin .le (.iv 3) (.iv 4)) (.ret (.str (.tv 2)) [] [] []) t_within_2))
@[reducible] def t_within : Tree :=
(.new (.call 30 [(.agg [(.int .u8 (.iv 0)), (.int .u8 (.iv 1)), (.int .i64 (.iv 2)), (.str (.tv 0)), (.str (.tv 1)), (.slc 0 (.nv 0) (.nv 1))])] [] [] [] (.str (.tv 2)) ⟨0, 0, 0, 1, 0, 0, 0, 0⟩ t_within_3))
theorem x_within : xfn Tryz.prog { ex := false, inl := [], loops := [], unroll := [], mu := [], mus := [], stays := [], rowT := [], rwx := false, nilR := [], rws := [] } Tryz.f42 [(.agg [(.int .u8 (.iv 0)), (.int .u8 (.iv 1)), (.int .i64 (.iv 2)), (.str (.tv 0)), (.str (.tv 1)), (.slc 0 (.nv 0) (.nv 1))]), (.int .i64 (.iv 3))] [] [] ⟨4, 2, 0, 2, 0, 1, 0, 0⟩ = some t_within := by kernel_rfl
theorem vc_within (i0 i1 i2 i3 : Int) (n0 n1 : Nat) (t0 t1 : ByteArray) (a0 : Option Addr) (W : Wd) (R : Ending → World → Prop) (h : t_within.den Tryz.prog W.w.heap.size R [] { I := [i0, i1, i2, i3], N := [n0, n1], T := [t0, t1], A := [a0] } W) : CallsE Tryz.prog 42 #[.agg #[.int .u8 i0, .int .u8 i1, .int .i64 i2, .string t0, .string t1, .slice a0 n0 n1], .int .i64 i3] W R :=
  fn_calls Tryz.func42 _ _ { I := [i0, i1, i2, i3], N := [n0, n1], T := [t0, t1], A := [a0] } _ x_within (fun v hv => by cases hv) h

-- callboard/parse.show
@[reducible] def t_pshow_1 : Tree := (.call 41 [(.agg [(.int .u8 (.iv 1)), (.int .i64 (.iv 2)), (.str (.tv 0))])] [] [] [] (.str (.tv 2)) ⟨0, 0, 0, 1, 0, 0, 0, 0⟩ (.ret (.str (.tv 2)) [] [] []))
@[reducible] def t_pshow_2 : Tree := (.chk (.bin .le (.bin .add (.un .len (.tl [45])) (.un .len (.tv 4))) (.il 9223372036854775807)) (.ret (.str (.bin .cat (.tl [45]) (.tv 4))) [] [] []))
@[reducible] def t_pshow_3 : Tree := (.call 42 [(.agg [(.int .u8 (.iv 3)), (.int .u8 (.iv 4)), (.int .i64 (.iv 5)), (.str (.tv 2)), (.str (.tv 3)), (.slc 1 (.nv 2) (.nv 3))]), (.int .i64 (.il 6))] [] [] [] (.str (.tv 4)) ⟨0, 0, 0, 1, 0, 0, 0, 0⟩ t_pshow_2)
@[reducible] def t_pshow_4 : Tree := (.chk (.sm 0) (.chk (.bin .le (.il 0) (.il 0)) (.chk (.bin .lt (.il 0) (.nv 0)) (.look 26 (.elt 0 (.il 0) 6 0) (.agg [(.int .u8 (.iv 3)), (.int .u8 (.iv 4)), (.int .i64 (.iv 5)), (.str (.tv 2)), (.str (.tv 3)), (.slc 1 (.nv 2) (.nv 3))]) ⟨3, 2, 0, 2, 0, 1, 0, 0⟩ t_pshow_3))))
@[reducible] def t_pshow_5 : Tree := (.chk (.bin .le (.bin .add (.un .len (.tl [33])) (.un .len (.tv 4))) (.il 9223372036854775807)) (.ret (.str (.bin .cat (.tl [33]) (.tv 4))) [] [] []))
@[reducible] def t_pshow_6 : Tree := (.call 42 [(.agg [(.int .u8 (.iv 3)), (.int .u8 (.iv 4)), (.int .i64 (.iv 5)), (.str (.tv 2)), (.str (.tv 3)), (.slc 1 (.nv 2) (.nv 3))]), (.int .i64 (.il 6))] [] [] [] (.str (.tv 4)) ⟨0, 0, 0, 1, 0, 0, 0, 0⟩ t_pshow_5)
@[reducible] def t_pshow_7 : Tree := (.chk (.sm 0) (.chk (.bin .le (.il 0) (.il 0)) (.chk (.bin .lt (.il 0) (.nv 0)) (.look 26 (.elt 0 (.il 0) 6 0) (.agg [(.int .u8 (.iv 3)), (.int .u8 (.iv 4)), (.int .i64 (.iv 5)), (.str (.tv 2)), (.str (.tv 3)), (.slc 1 (.nv 2) (.nv 3))]) ⟨3, 2, 0, 2, 0, 1, 0, 0⟩ t_pshow_6))))
@[reducible] def t_pshow_8 : Tree := (.chk (.bin .le (.bin .add (.un .len (.tl [108, 101, 110, 40])) (.un .len (.tv 4))) (.il 9223372036854775807)) (.chk (.bin .le (.bin .add (.un .len (.bin .cat (.tl [108, 101, 110, 40]) (.tv 4))) (.un .len (.tl [41]))) (.il 9223372036854775807)) (.ret (.str (.bin .cat (.bin .cat (.tl [108, 101, 110, 40]) (.tv 4)) (.tl [41]))) [] [] [])))
@[reducible] def t_pshow_9 : Tree := (.call 30 [(.agg [(.int .u8 (.iv 3)), (.int .u8 (.iv 4)), (.int .i64 (.iv 5)), (.str (.tv 2)), (.str (.tv 3)), (.slc 1 (.nv 2) (.nv 3))])] [] [] [] (.str (.tv 4)) ⟨0, 0, 0, 1, 0, 0, 0, 0⟩ t_pshow_8)
@[reducible] def t_pshow_10 : Tree := (.chk (.sm 0) (.chk (.bin .le (.il 0) (.il 0)) (.chk (.bin .lt (.il 0) (.nv 0)) (.look 26 (.elt 0 (.il 0) 6 0) (.agg [(.int .u8 (.iv 3)), (.int .u8 (.iv 4)), (.int .i64 (.iv 5)), (.str (.tv 2)), (.str (.tv 3)), (.slc 1 (.nv 2) (.nv 3))]) ⟨3, 2, 0, 2, 0, 1, 0, 0⟩ t_pshow_9))))
@[reducible] def t_pshow_11 : Tree := (.chk (.bin .le (.bin .add (.un .len (.bin .cat (.bin .cat (.bin .cat (.tv 5) (.tl [32])) (.tv 2)) (.tl [32]))) (.un .len (.tv 8))) (.il 9223372036854775807)) (.grow (.ret (.str (.bin .cat (.bin .cat (.bin .cat (.bin .cat (.tv 5) (.tl [32])) (.tv 2)) (.tl [32])) (.tv 8))) [] [] [])))
@[reducible] def t_pshow_12 : Tree := (.callq 42 [(.agg [(.int .u8 (.iv 8)), (.int .u8 (.iv 9)), (.int .i64 (.iv 10)), (.str (.tv 6)), (.str (.tv 7)), (.slc 2 (.nv 4) (.nv 5))]), (.int .i64 (.un (.wrap .i64) (.bin .add (.iv 4) (.il 1))))] [] [] (.str (.tv 8)) ⟨0, 0, 0, 1, 0, 0, 0, 0⟩ t_pshow_11)
@[reducible] def t_pshow_13 : Tree := (.chk (.bin .le (.bin .add (.un .len (.tv 5)) (.un .len (.tl [32]))) (.il 9223372036854775807)) (.chk (.bin .le (.bin .add (.un .len (.bin .cat (.tv 5) (.tl [32]))) (.un .len (.tv 2))) (.il 9223372036854775807)) (.chk (.bin .le (.bin .add (.un .len (.bin .cat (.bin .cat (.tv 5) (.tl [32])) (.tv 2))) (.un .len (.tl [32]))) (.il 9223372036854775807)) (.chk (.bin .le (.il 0) (.il 1)) (.chk (.bin .lt (.il 1) (.nv 0)) (.look 26 (.elt 0 (.il 1) 6 0) (.agg [(.int .u8 (.iv 8)), (.int .u8 (.iv 9)), (.int .i64 (.iv 10)), (.str (.tv 6)), (.str (.tv 7)), (.slc 2 (.nv 4) (.nv 5))]) ⟨3, 2, 0, 2, 0, 1, 0, 0⟩ t_pshow_12))))))
@[reducible] def t_pshow_14 : Tree := (.callq 42 [(.agg [(.int .u8 (.iv 5)), (.int .u8 (.iv 6)), (.int .i64 (.iv 7)), (.str (.tv 3)), (.str (.tv 4)), (.slc 1 (.nv 2) (.nv 3))]), (.int .i64 (.un (.wrap .i64) (.bin .add (.iv 4) (.il 1))))] [] [] (.str (.tv 5)) ⟨0, 0, 0, 1, 0, 0, 0, 0⟩ t_pshow_13)
@[reducible] def t_pshow_15 : Tree := (.chk (.sm 0) (.chk (.bin .le (.il 0) (.il 0)) (.chk (.bin .lt (.il 0) (.nv 0)) (.look 26 (.elt 0 (.il 0) 6 0) (.agg [(.int .u8 (.iv 5)), (.int .u8 (.iv 6)), (.int .i64 (.iv 7)), (.str (.tv 3)), (.str (.tv 4)), (.slc 1 (.nv 2) (.nv 3))]) ⟨3, 2, 0, 2, 0, 1, 0, 0⟩ t_pshow_14))))
@[reducible] def t_pshow_16 : Tree := (.callq 42 [(.agg [(.int .u8 (.iv 5)), (.int .u8 (.iv 6)), (.int .i64 (.iv 7)), (.str (.tv 3)), (.str (.tv 4)), (.slc 1 (.nv 2) (.nv 3))]), (.int .i64 (.iv 4))] [] [] (.str (.tv 5)) ⟨0, 0, 0, 1, 0, 0, 0, 0⟩ t_pshow_13)
@[reducible] def t_pshow_17 : Tree := (.chk (.sm 0) (.chk (.bin .le (.il 0) (.il 0)) (.chk (.bin .lt (.il 0) (.nv 0)) (.look 26 (.elt 0 (.il 0) 6 0) (.agg [(.int .u8 (.iv 5)), (.int .u8 (.iv 6)), (.int .i64 (.iv 7)), (.str (.tv 3)), (.str (.tv 4)), (.slc 1 (.nv 2) (.nv 3))]) ⟨3, 2, 0, 2, 0, 1, 0, 0⟩ t_pshow_16))))
@[reducible] def t_pshow_18 : Tree := (.call 43 [(.str (.tl [110, 111, 110, 101])), (.int .u8 (.iv 0))] [] [] [] (.tup [(.agg [(.str (.tv 2)), (.int .u8 (.iv 3)), (.int .i64 (.iv 4))]), (.bool (.bv 0))]) ⟨2, 0, 1, 1, 0, 0, 0, 0⟩ (.new (.wr (.br (.bin .ieq (.iv 4) (.il 3)) t_pshow_15 t_pshow_17))))
@[reducible] def t_pshow_19 : Tree := (.br (.bin .ieq (.iv 0) (.il 4)) t_pshow_7 (.br (.bin .ieq (.iv 0) (.il 16)) t_pshow_10 t_pshow_18))
@[reducible] def t_pshow_20 : Tree := (.br (.bin .ieq (.iv 0) (.il 2)) (.ret (.str (.tv 1)) [] [] []) (.br (.bin .ieq (.iv 0) (.il 3)) t_pshow_4 t_pshow_19))
@[reducible] def t_pshow : Tree :=
(.new (.br (.bin .ieq (.iv 0) (.il 1)) t_pshow_1 t_pshow_20))
theorem x_pshow : xfn Tryz.prog { ex := false, inl := [], loops := [], unroll := [], mu := [], mus := [], stays := [], rowT := [], rwx := false, nilR := [], rws := [] } Tryz.f30 [(.agg [(.int .u8 (.iv 0)), (.int .u8 (.iv 1)), (.int .i64 (.iv 2)), (.str (.tv 0)), (.str (.tv 1)), (.slc 0 (.nv 0) (.nv 1))])] [] [] ⟨3, 2, 0, 2, 0, 1, 0, 0⟩ = some t_pshow := by kernel_rfl
theorem vc_pshow (i0 i1 i2 : Int) (n0 n1 : Nat) (t0 t1 : ByteArray) (a0 : Option Addr) (W : Wd) (R : Ending → World → Prop) (h : t_pshow.den Tryz.prog W.w.heap.size R [] { I := [i0, i1, i2], N := [n0, n1], T := [t0, t1], A := [a0] } W) : CallsE Tryz.prog 30 #[.agg #[.int .u8 i0, .int .u8 i1, .int .i64 i2, .string t0, .string t1, .slice a0 n0 n1]] W R :=
  fn_calls Tryz.func30 _ _ { I := [i0, i1, i2], N := [n0, n1], T := [t0, t1], A := [a0] } _ x_pshow (fun v hv => by cases hv) h

-- callboard/parse.Show
@[reducible] def t_pShow_1 : Tree := (.br (.bin .lt (.il 100) (.un .len (.tv 2))) (.ret (.tup [(.str (.tl [])), (.int .i64 (.il 40))]) [] [] []) (.ret (.tup [(.str (.tv 2)), (.int .i64 (.il 0))]) [] [] []))
@[reducible] def t_pShow_2 : Tree := (.call 30 [(.agg [(.int .u8 (.iv 0)), (.int .u8 (.iv 1)), (.int .i64 (.iv 2)), (.str (.tv 0)), (.str (.tv 1)), (.slc 0 (.nv 0) (.nv 1))])] [] [] [] (.str (.tv 2)) ⟨0, 0, 0, 1, 0, 0, 0, 0⟩ t_pShow_1)
@[reducible] def t_pShow_3 : Tree := (.br (.un .not (.bv 0)) (.ret (.tup [(.str (.tl [])), (.int .i64 (.il 4))]) [] [] []) t_pShow_2)
@[reducible] def t_pShow : Tree :=
(.new (.call 14 [(.agg [(.int .u8 (.iv 0)), (.int .u8 (.iv 1)), (.int .i64 (.iv 2)), (.str (.tv 0)), (.str (.tv 1)), (.slc 0 (.nv 0) (.nv 1))])] [] [] [] (.bool (.bv 0)) ⟨0, 0, 1, 0, 0, 0, 0, 0⟩ t_pShow_3))
theorem x_pShow : xfn Tryz.prog { ex := false, inl := [], loops := [], unroll := [], mu := [], mus := [], stays := [], rowT := [], rwx := false, nilR := [], rws := [] } Tryz.f10 [(.agg [(.int .u8 (.iv 0)), (.int .u8 (.iv 1)), (.int .i64 (.iv 2)), (.str (.tv 0)), (.str (.tv 1)), (.slc 0 (.nv 0) (.nv 1))])] [] [] ⟨3, 2, 0, 2, 0, 1, 0, 0⟩ = some t_pShow := by kernel_rfl
theorem vc_pShow (i0 i1 i2 : Int) (n0 n1 : Nat) (t0 t1 : ByteArray) (a0 : Option Addr) (W : Wd) (R : Ending → World → Prop) (h : t_pShow.den Tryz.prog W.w.heap.size R [] { I := [i0, i1, i2], N := [n0, n1], T := [t0, t1], A := [a0] } W) : CallsE Tryz.prog 10 #[.agg #[.int .u8 i0, .int .u8 i1, .int .i64 i2, .string t0, .string t1, .slice a0 n0 n1]] W R :=
  fn_calls Tryz.func10 _ _ { I := [i0, i1, i2], N := [n0, n1], T := [t0, t1], A := [a0] } _ x_pShow (fun v hv => by cases hv) h

end Go.Proofs.YtckgdgkkmhochaaGreatDoor
