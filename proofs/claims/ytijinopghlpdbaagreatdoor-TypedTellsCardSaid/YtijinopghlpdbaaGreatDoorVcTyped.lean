/- What is left to show of functions, as the walk that the kernel computes finds it (written by wip/vc2.py). -/
import Derived.Test.YtijinopghlpdbaaGreatDoorProg
import Derived.Test.YtijinopghlpdbaaGreatDoorSfD
namespace Go.Proofs.YtijinopghlpdbaaGreatDoor
open Go Go.RowKit Go.SF
set_option maxRecDepth 100000

-- callboard/typed.whole
@[reducible] def t_whole_1 : Tree := (.call 36 [(.slc 0 (.nv 0) (.nv 1)), (.fn 37 [(.ptr 1 0)])] [⟨1, 3, [(.int .i64 (.iv 3))]⟩] [] [] (.bool (.bv 1)) ⟨0, 0, 1, 0, 0, 0, 0, 0⟩ (.ret (.bool (.un .not (.bv 1))) [] [] []))
@[reducible] def t_whole_2 : Tree := (.callq 14 [(.agg [(.int .u8 (.iv 1)), (.int .i64 (.iv 2)), (.str (.tv 0))])] [] [] (.bool (.bv 0)) ⟨0, 0, 1, 0, 0, 0, 0, 0⟩ (.grow (.br (.un .not (.bv 0)) (.ret (.bool (.bl false)) [] [] []) t_whole_1)))
@[reducible] def t_whole_3 : Tree := (.call 36 [(.slc 0 (.nv 0) (.nv 1)), (.fn 37 [(.ptr 1 0)])] [⟨1, 3, [(.int .i64 (.iv 3))]⟩] [] [] (.bool (.bv 0)) ⟨0, 0, 1, 0, 0, 0, 0, 0⟩ (.ret (.bool (.un .not (.bv 0))) [] [] []))
@[reducible] def t_whole_4 : Tree := (.grow (.br (.un .not (.bin .ieq (.nv 0) (.iv 4))) (.ret (.bool (.bl false)) [] [] []) t_whole_3))
@[reducible] def t_whole_5 : Tree := (.br (.bin .band (.bin .ieq (.nv 0) (.iv 4)) (.bin .ieq (.iv 0) (.il 1))) t_whole_2 t_whole_4)
@[reducible] def t_whole_6 : Tree := (.chk (.bin .le (.il 0) (.iv 0)) (.chk (.bin .lt (.iv 0) (.il 17)) (.adr ⟨1, 0, none⟩ (.look 3 (.elt 1 (.iv 0) 1 0) (.int .i64 (.iv 4)) ⟨1, 0, 0, 0, 0, 0, 0, 0⟩ t_whole_5))))
@[reducible] def t_whole : Tree :=
(.new (.new (.br (.un .not (.bin .bor (.bin .bor (.bin .lt (.iv 3) (.il 1)) (.bin .lt (.iv 0) (.il 1))) (.bin .lt (.il 16) (.iv 0)))) t_whole_6 (.grow (.ret (.bool (.bl false)) [] [] [])))))
theorem x_whole : xfn Tryz.prog { ex := false, inl := [], loops := [], unroll := [], mu := [], mus := [], stays := [], rowT := [], rwx := false, rws := [] } Tryz.f20 [(.agg [(.int .u8 (.iv 0)), (.int .u8 (.iv 1)), (.int .i64 (.iv 2)), (.str (.tv 0)), (.str (.tv 1)), (.slc 0 (.nv 0) (.nv 1))]), (.int .i64 (.iv 3))] [] [] ⟨4, 2, 0, 2, 0, 1, 0, 0⟩ = some t_whole := by kernel_rfl
theorem vc_whole (i0 i1 i2 i3 : Int) (n0 n1 : Nat) (t0 t1 : ByteArray) (a0 : Option Addr) (W : Wd) (R : Ending → World → Prop) (h : t_whole.den Tryz.prog W.w.heap.size R [] { I := [i0, i1, i2, i3], N := [n0, n1], T := [t0, t1], A := [a0] } W) : CallsE Tryz.prog 20 #[.agg #[.int .u8 i0, .int .u8 i1, .int .i64 i2, .string t0, .string t1, .slice a0 n0 n1], .int .i64 i3] W R :=
  fn_calls Tryz.func20 _ _ { I := [i0, i1, i2, i3], N := [n0, n1], T := [t0, t1], A := [a0] } _ x_whole (fun v hv => by cases hv) h

-- callboard/typed.whole$1
@[reducible] def t_wholec : Tree :=
(.new (.call 20 [(.agg [(.int .u8 (.iv 0)), (.int .u8 (.iv 1)), (.int .i64 (.iv 2)), (.str (.tv 0)), (.str (.tv 1)), (.slc 0 (.nv 0) (.nv 1))]), (.int .i64 (.un (.wrap .i64) (.bin .sub (.iv 3) (.il 1))))] [] [] [] (.bool (.bv 0)) ⟨0, 0, 1, 0, 0, 0, 0, 0⟩ (.ret (.bool (.un .not (.bv 0))) [] [] [])))
theorem x_wholec : xfn Tryz.prog { ex := false, inl := [], loops := [], unroll := [], mu := [], mus := [], stays := [], rowT := [], rwx := false, rws := [] } Tryz.f37 [(.agg [(.int .u8 (.iv 0)), (.int .u8 (.iv 1)), (.int .i64 (.iv 2)), (.str (.tv 0)), (.str (.tv 1)), (.slc 0 (.nv 0) (.nv 1))]), (.ptr 0 0)] [] [⟨0, 3, [(.int .i64 (.iv 3))]⟩] ⟨4, 2, 0, 2, 0, 1, 1, 0⟩ = some t_wholec := by kernel_rfl
theorem vc_wholec (i0 i1 i2 i3 : Int) (n0 n1 : Nat) (t0 t1 : ByteArray) (a0 : Option Addr) (m0 : Nat) (W : Wd) (R : Ending → World → Prop) (hm0 : W.w.heap[m0]? = some (.cells #[.int .i64 i3] 3)) (Im0 : W.I m0) (h : t_wholec.den Tryz.prog W.w.heap.size R [] { I := [i0, i1, i2, i3], N := [n0, n1], T := [t0, t1], A := [a0], M := [m0] } W) : CallsE Tryz.prog 37 #[.agg #[.int .u8 i0, .int .u8 i1, .int .i64 i2, .string t0, .string t1, .slice a0 n0 n1], .pointer (some ⟨m0, 0, none⟩)] W R :=
  fn_calls_ro Tryz.func37 _ _ [⟨0, 3, [(.int .i64 (.iv 3))]⟩] { I := [i0, i1, i2, i3], N := [n0, n1], T := [t0, t1], A := [a0], M := [m0] } _ x_wholec (fun v hv => by cases hv) (fun b hb => by simp only [List.mem_cons, List.not_mem_nil, or_false] at hb; rcases hb with rfl <;> (first | exact hm0)) (fun b hb => by simp only [List.mem_cons, List.not_mem_nil, or_false] at hb; rcases hb with rfl <;> (first | exact Im0)) h

-- slices.IndexFunc[[]callboard/api.Expr,callboard/api.Expr]
@[reducible] def t_widx_1 : Tree := (.br (.bv 0) (.ret (.int .i64 (.iv 1)) [] [] []) (.again 0 [(.int .i64 (.un (.wrap .i64) (.bin .add (.iv 1) (.il 1))))] []))
@[reducible] def t_widx_2 : Tree := (.call 37 [(.agg [(.int .u8 (.iv 2)), (.int .u8 (.iv 3)), (.int .i64 (.iv 4)), (.str (.tv 0)), (.str (.tv 1)), (.slc 1 (.nv 2) (.nv 3))]), (.ptr 0 0)] [⟨0, 3, [(.int .i64 (.iv 0))]⟩] [] [] (.bool (.bv 0)) ⟨0, 0, 1, 0, 0, 0, 0, 0⟩ t_widx_1)
@[reducible] def t_widx_3 : Tree := (.chk (.sm 0) (.chk (.bin .le (.il 0) (.iv 1)) (.look 26 (.elt 0 (.iv 1) 6 0) (.agg [(.int .u8 (.iv 2)), (.int .u8 (.iv 3)), (.int .i64 (.iv 4)), (.str (.tv 0)), (.str (.tv 1)), (.slc 1 (.nv 2) (.nv 3))]) ⟨3, 2, 0, 2, 0, 1, 0, 0⟩ t_widx_2)))
@[reducible] def t_widx : Tree :=
(.loop [(.int .i64 (.il 0))] [] [(.int .i64 (.iv 1))] [] ⟨1, 0, 0, 0, 0, 0, 0, 0⟩ (.br (.bin .lt (.iv 1) (.nv 0)) t_widx_3 (.ret (.int .i64 (.il (-1))) [] [] [])))
theorem x_widx : xfn Tryz.prog { ex := false, inl := [], loops := [⟨2, [.tm 8]⟩], unroll := [], mu := [], mus := [], stays := [], rowT := [], rwx := false, rws := [] } Tryz.f50 [(.slc 0 (.nv 0) (.nv 1)), (.fn 37 [(.ptr 0 0)])] [] [⟨0, 3, [(.int .i64 (.iv 0))]⟩] ⟨1, 2, 0, 0, 0, 1, 1, 0⟩ = some t_widx := by kernel_rfl
theorem vc_widx (i0 : Int) (n0 n1 : Nat) (a0 : Option Addr) (m0 : Nat) (W : Wd) (R : Ending → World → Prop) (hm0 : W.w.heap[m0]? = some (.cells #[.int .i64 i0] 3)) (Im0 : W.I m0) (h : t_widx.den Tryz.prog W.w.heap.size R [] { I := [i0], N := [n0, n1], A := [a0], M := [m0] } W) : CallsE Tryz.prog 50 #[.slice a0 n0 n1, .func (.func 37) #[] #[.pointer (some ⟨m0, 0, none⟩)]] W R :=
  fn_calls_ro Tryz.func50 _ _ [⟨0, 3, [(.int .i64 (.iv 0))]⟩] { I := [i0], N := [n0, n1], A := [a0], M := [m0] } _ x_widx (fun v hv => by cases hv) (fun b hb => by simp only [List.mem_cons, List.not_mem_nil, or_false] at hb; rcases hb with rfl <;> (first | exact hm0)) (fun b hb => by simp only [List.mem_cons, List.not_mem_nil, or_false] at hb; rcases hb with rfl <;> (first | exact Im0)) h

-- slices.ContainsFunc[[]callboard/api.Expr,callboard/api.Expr]
@[reducible] def t_wcont : Tree :=
(.call 50 [(.slc 0 (.nv 0) (.nv 1)), (.fn 37 [(.ptr 0 0)])] [⟨0, 3, [(.int .i64 (.iv 0))]⟩] [] [] (.int .i64 (.iv 1)) ⟨1, 0, 0, 0, 0, 0, 0, 0⟩ (.ret (.bool (.bin .le (.il 0) (.iv 1))) [] [] []))
theorem x_wcont : xfn Tryz.prog { ex := false, inl := [], loops := [], unroll := [], mu := [], mus := [], stays := [], rowT := [], rwx := false, rws := [] } Tryz.f36 [(.slc 0 (.nv 0) (.nv 1)), (.fn 37 [(.ptr 0 0)])] [] [⟨0, 3, [(.int .i64 (.iv 0))]⟩] ⟨1, 2, 0, 0, 0, 1, 1, 0⟩ = some t_wcont := by kernel_rfl
theorem vc_wcont (i0 : Int) (n0 n1 : Nat) (a0 : Option Addr) (m0 : Nat) (W : Wd) (R : Ending → World → Prop) (hm0 : W.w.heap[m0]? = some (.cells #[.int .i64 i0] 3)) (Im0 : W.I m0) (h : t_wcont.den Tryz.prog W.w.heap.size R [] { I := [i0], N := [n0, n1], A := [a0], M := [m0] } W) : CallsE Tryz.prog 36 #[.slice a0 n0 n1, .func (.func 37) #[] #[.pointer (some ⟨m0, 0, none⟩)]] W R :=
  fn_calls_ro Tryz.func36 _ _ [⟨0, 3, [(.int .i64 (.iv 0))]⟩] { I := [i0], N := [n0, n1], A := [a0], M := [m0] } _ x_wcont (fun v hv => by cases hv) (fun b hb => by simp only [List.mem_cons, List.not_mem_nil, or_false] at hb; rcases hb with rfl <;> (first | exact hm0)) (fun b hb => by simp only [List.mem_cons, List.not_mem_nil, or_false] at hb; rcases hb with rfl <;> (first | exact Im0)) h

-- callboard/typed.Whole
@[reducible] def t_tWhole : Tree :=
(.new (.call 20 [(.agg [(.int .u8 (.iv 0)), (.int .u8 (.iv 1)), (.int .i64 (.iv 2)), (.str (.tv 0)), (.str (.tv 1)), (.slc 0 (.nv 0) (.nv 1))]), (.int .i64 (.il 16))] [] [] [] (.bool (.bv 0)) ⟨0, 0, 1, 0, 0, 0, 0, 0⟩ (.ret (.bool (.bv 0)) [] [] [])))
theorem x_tWhole : xfn Tryz.prog { ex := false, inl := [], loops := [], unroll := [], mu := [], mus := [], stays := [], rowT := [], rwx := false, rws := [] } Tryz.f10 [(.agg [(.int .u8 (.iv 0)), (.int .u8 (.iv 1)), (.int .i64 (.iv 2)), (.str (.tv 0)), (.str (.tv 1)), (.slc 0 (.nv 0) (.nv 1))])] [] [] ⟨3, 2, 0, 2, 0, 1, 0, 0⟩ = some t_tWhole := by kernel_rfl
theorem vc_tWhole (i0 i1 i2 : Int) (n0 n1 : Nat) (t0 t1 : ByteArray) (a0 : Option Addr) (W : Wd) (R : Ending → World → Prop) (h : t_tWhole.den Tryz.prog W.w.heap.size R [] { I := [i0, i1, i2], N := [n0, n1], T := [t0, t1], A := [a0] } W) : CallsE Tryz.prog 10 #[.agg #[.int .u8 i0, .int .u8 i1, .int .i64 i2, .string t0, .string t1, .slice a0 n0 n1]] W R :=
  fn_calls Tryz.func10 _ _ { I := [i0, i1, i2], N := [n0, n1], T := [t0, t1], A := [a0] } _ x_tWhole (fun v hv => by cases hv) h

-- callboard/typed.known
@[reducible] def t_known : Tree :=
(.br (.bin .bor (.bin .lt (.iv 0) (.il 1)) (.bin .lt (.il 3) (.iv 0))) (.ret (.tup [(.int .u8 (.il 0)), (.int .i64 (.il 23))]) [] [] []) (.ret (.tup [(.int .u8 (.iv 0)), (.int .i64 (.il 0))]) [] [] []))
theorem x_known : xfn Tryz.prog { ex := false, inl := [], loops := [], unroll := [], mu := [], mus := [], stays := [], rowT := [], rwx := false, rws := [] } Tryz.f31 [(.int .u8 (.iv 0))] [] [] ⟨1, 0, 0, 0, 0, 0, 0, 0⟩ = some t_known := by kernel_rfl
theorem vc_known (i0 : Int) (W : Wd) (R : Ending → World → Prop) (h : t_known.den Tryz.prog W.w.heap.size R [] { I := [i0] } W) : CallsE Tryz.prog 31 #[.int .u8 i0] W R :=
  fn_calls Tryz.func31 _ _ { I := [i0] } _ x_known (fun v hv => by cases hv) h

-- callboard/typed.typed$1
@[reducible] def t_namec : Tree :=
(.new (.ret (.bool (.bin .teq (.tv 0) (.tv 3))) [] [] []))
theorem x_namec : xfn Tryz.prog { ex := false, inl := [], loops := [], unroll := [], mu := [], mus := [], stays := [], rowT := [], rwx := false, rws := [] } Tryz.f33 [(.agg [(.str (.tv 0)), (.int .u8 (.iv 0)), (.int .i64 (.iv 1)), (.str (.tv 1))]), (.ptr 0 0)] [] [⟨0, 26, [(.int .u8 (.iv 2)), (.int .u8 (.iv 3)), (.int .i64 (.iv 4)), (.str (.tv 2)), (.str (.tv 3)), (.slc 0 (.nv 0) (.nv 1))]⟩] ⟨5, 2, 0, 4, 0, 1, 1, 0⟩ = some t_namec := by kernel_rfl
theorem vc_namec (i0 i1 i2 i3 i4 : Int) (n0 n1 : Nat) (t0 t1 t2 t3 : ByteArray) (a0 : Option Addr) (m0 : Nat) (W : Wd) (R : Ending → World → Prop) (hm0 : W.w.heap[m0]? = some (.cells #[.int .u8 i2, .int .u8 i3, .int .i64 i4, .string t2, .string t3, .slice a0 n0 n1] 26)) (Im0 : W.I m0) (h : t_namec.den Tryz.prog W.w.heap.size R [] { I := [i0, i1, i2, i3, i4], N := [n0, n1], T := [t0, t1, t2, t3], A := [a0], M := [m0] } W) : CallsE Tryz.prog 33 #[.agg #[.string t0, .int .u8 i0, .int .i64 i1, .string t1], .pointer (some ⟨m0, 0, none⟩)] W R :=
  fn_calls_ro Tryz.func33 _ _ [⟨0, 26, [(.int .u8 (.iv 2)), (.int .u8 (.iv 3)), (.int .i64 (.iv 4)), (.str (.tv 2)), (.str (.tv 3)), (.slc 0 (.nv 0) (.nv 1))]⟩] { I := [i0, i1, i2, i3, i4], N := [n0, n1], T := [t0, t1, t2, t3], A := [a0], M := [m0] } _ x_namec (fun v hv => by cases hv) (fun b hb => by simp only [List.mem_cons, List.not_mem_nil, or_false] at hb; rcases hb with rfl <;> (first | exact hm0)) (fun b hb => by simp only [List.mem_cons, List.not_mem_nil, or_false] at hb; rcases hb with rfl <;> (first | exact Im0)) h

-- slices.IndexFunc[[]callboard/api.Var,callboard/api.Var]
@[reducible] def t_nidx_1 : Tree := (.br (.bv 0) (.ret (.int .i64 (.iv 3)) [] [] []) (.again 0 [(.int .i64 (.un (.wrap .i64) (.bin .add (.iv 3) (.il 1))))] []))
@[reducible] def t_nidx_2 : Tree := (.call 33 [(.agg [(.str (.tv 2)), (.int .u8 (.iv 4)), (.int .i64 (.iv 5)), (.str (.tv 3))]), (.ptr 0 0)] [⟨0, 26, [(.int .u8 (.iv 0)), (.int .u8 (.iv 1)), (.int .i64 (.iv 2)), (.str (.tv 0)), (.str (.tv 1)), (.slc 1 (.nv 2) (.nv 3))]⟩] [] [] (.bool (.bv 0)) ⟨0, 0, 1, 0, 0, 0, 0, 0⟩ t_nidx_1)
@[reducible] def t_nidx_3 : Tree := (.chk (.sm 0) (.chk (.bin .le (.il 0) (.iv 3)) (.look 38 (.elt 0 (.iv 3) 4 0) (.agg [(.str (.tv 2)), (.int .u8 (.iv 4)), (.int .i64 (.iv 5)), (.str (.tv 3))]) ⟨2, 0, 0, 2, 0, 0, 0, 0⟩ t_nidx_2)))
@[reducible] def t_nidx : Tree :=
(.loop [(.int .i64 (.il 0))] [] [(.int .i64 (.iv 3))] [] ⟨1, 0, 0, 0, 0, 0, 0, 0⟩ (.br (.bin .lt (.iv 3) (.nv 0)) t_nidx_3 (.ret (.int .i64 (.il (-1))) [] [] [])))
theorem x_nidx : xfn Tryz.prog { ex := false, inl := [], loops := [⟨2, [.tm 8]⟩], unroll := [], mu := [], mus := [], stays := [], rowT := [], rwx := false, rws := [] } Tryz.f32 [(.slc 0 (.nv 0) (.nv 1)), (.fn 33 [(.ptr 0 0)])] [] [⟨0, 26, [(.int .u8 (.iv 0)), (.int .u8 (.iv 1)), (.int .i64 (.iv 2)), (.str (.tv 0)), (.str (.tv 1)), (.slc 1 (.nv 2) (.nv 3))]⟩] ⟨3, 4, 0, 2, 0, 2, 1, 0⟩ = some t_nidx := by kernel_rfl
theorem vc_nidx (i0 i1 i2 : Int) (n0 n1 n2 n3 : Nat) (t0 t1 : ByteArray) (a0 a1 : Option Addr) (m0 : Nat) (W : Wd) (R : Ending → World → Prop) (hm0 : W.w.heap[m0]? = some (.cells #[.int .u8 i0, .int .u8 i1, .int .i64 i2, .string t0, .string t1, .slice a1 n2 n3] 26)) (Im0 : W.I m0) (h : t_nidx.den Tryz.prog W.w.heap.size R [] { I := [i0, i1, i2], N := [n0, n1, n2, n3], T := [t0, t1], A := [a0, a1], M := [m0] } W) : CallsE Tryz.prog 32 #[.slice a0 n0 n1, .func (.func 33) #[] #[.pointer (some ⟨m0, 0, none⟩)]] W R :=
  fn_calls_ro Tryz.func32 _ _ [⟨0, 26, [(.int .u8 (.iv 0)), (.int .u8 (.iv 1)), (.int .i64 (.iv 2)), (.str (.tv 0)), (.str (.tv 1)), (.slc 1 (.nv 2) (.nv 3))]⟩] { I := [i0, i1, i2], N := [n0, n1, n2, n3], T := [t0, t1], A := [a0, a1], M := [m0] } _ x_nidx (fun v hv => by cases hv) (fun b hb => by simp only [List.mem_cons, List.not_mem_nil, or_false] at hb; rcases hb with rfl <;> (first | exact hm0)) (fun b hb => by simp only [List.mem_cons, List.not_mem_nil, or_false] at hb; rcases hb with rfl <;> (first | exact Im0)) h

-- callboard/typed.typed$2
@[reducible] def t_sortc : Tree :=
(.ret (.bool (.un .not (.bin .ieq (.iv 0) (.iv 1)))) [] [] [])
theorem x_sortc : xfn Tryz.prog { ex := false, inl := [], loops := [], unroll := [], mu := [], mus := [], stays := [], rowT := [], rwx := false, rws := [] } Tryz.f35 [(.int .u8 (.iv 0)), (.ptr 0 0)] [] [⟨0, 64, [(.int .u8 (.iv 1)), (.int .u8 (.iv 2))]⟩] ⟨3, 0, 0, 0, 0, 0, 1, 0⟩ = some t_sortc := by kernel_rfl
theorem vc_sortc (i0 i1 i2 : Int) (m0 : Nat) (W : Wd) (R : Ending → World → Prop) (hm0 : W.w.heap[m0]? = some (.cells #[.int .u8 i1, .int .u8 i2] 64)) (Im0 : W.I m0) (h : t_sortc.den Tryz.prog W.w.heap.size R [] { I := [i0, i1, i2], M := [m0] } W) : CallsE Tryz.prog 35 #[.int .u8 i0, .pointer (some ⟨m0, 0, none⟩)] W R :=
  fn_calls_ro Tryz.func35 _ _ [⟨0, 64, [(.int .u8 (.iv 1)), (.int .u8 (.iv 2))]⟩] { I := [i0, i1, i2], M := [m0] } _ x_sortc (fun v hv => by cases hv) (fun b hb => by simp only [List.mem_cons, List.not_mem_nil, or_false] at hb; rcases hb with rfl <;> (first | exact hm0)) (fun b hb => by simp only [List.mem_cons, List.not_mem_nil, or_false] at hb; rcases hb with rfl <;> (first | exact Im0)) h

-- slices.IndexFunc[[]uint8,uint8]
@[reducible] def t_sidx_1 : Tree := (.br (.bv 0) (.ret (.int .i64 (.iv 2)) [] [] []) (.again 0 [(.int .i64 (.un (.wrap .i64) (.bin .add (.iv 2) (.il 1))))] []))
@[reducible] def t_sidx_2 : Tree := (.call 35 [(.int .u8 (.iv 3)), (.ptr 0 0)] [⟨0, 64, [(.int .u8 (.iv 0)), (.int .u8 (.iv 1))]⟩] [] [] (.bool (.bv 0)) ⟨0, 0, 1, 0, 0, 0, 0, 0⟩ t_sidx_1)
@[reducible] def t_sidx_3 : Tree := (.chk (.sm 0) (.chk (.bin .le (.il 0) (.iv 2)) (.look 5 (.elt 0 (.iv 2) 1 0) (.int .u8 (.iv 3)) ⟨1, 0, 0, 0, 0, 0, 0, 0⟩ t_sidx_2)))
@[reducible] def t_sidx : Tree :=
(.loop [(.int .i64 (.il 0))] [] [(.int .i64 (.iv 2))] [] ⟨1, 0, 0, 0, 0, 0, 0, 0⟩ (.br (.bin .lt (.iv 2) (.nv 0)) t_sidx_3 (.ret (.int .i64 (.il (-1))) [] [] [])))
theorem x_sidx : xfn Tryz.prog { ex := false, inl := [], loops := [⟨2, [.tm 8]⟩], unroll := [], mu := [], mus := [], stays := [], rowT := [], rwx := false, rws := [] } Tryz.f49 [(.slc 0 (.nv 0) (.nv 1)), (.fn 35 [(.ptr 0 0)])] [] [⟨0, 64, [(.int .u8 (.iv 0)), (.int .u8 (.iv 1))]⟩] ⟨2, 2, 0, 0, 0, 1, 1, 0⟩ = some t_sidx := by kernel_rfl
theorem vc_sidx (i0 i1 : Int) (n0 n1 : Nat) (a0 : Option Addr) (m0 : Nat) (W : Wd) (R : Ending → World → Prop) (hm0 : W.w.heap[m0]? = some (.cells #[.int .u8 i0, .int .u8 i1] 64)) (Im0 : W.I m0) (h : t_sidx.den Tryz.prog W.w.heap.size R [] { I := [i0, i1], N := [n0, n1], A := [a0], M := [m0] } W) : CallsE Tryz.prog 49 #[.slice a0 n0 n1, .func (.func 35) #[] #[.pointer (some ⟨m0, 0, none⟩)]] W R :=
  fn_calls_ro Tryz.func49 _ _ [⟨0, 64, [(.int .u8 (.iv 0)), (.int .u8 (.iv 1))]⟩] { I := [i0, i1], N := [n0, n1], A := [a0], M := [m0] } _ x_sidx (fun v hv => by cases hv) (fun b hb => by simp only [List.mem_cons, List.not_mem_nil, or_false] at hb; rcases hb with rfl <;> (first | exact hm0)) (fun b hb => by simp only [List.mem_cons, List.not_mem_nil, or_false] at hb; rcases hb with rfl <;> (first | exact Im0)) h

-- slices.ContainsFunc[[]uint8,uint8]
@[reducible] def t_scont : Tree :=
(.call 49 [(.slc 0 (.nv 0) (.nv 1)), (.fn 35 [(.ptr 0 0)])] [⟨0, 64, [(.int .u8 (.iv 0)), (.int .u8 (.iv 1))]⟩] [] [] (.int .i64 (.iv 2)) ⟨1, 0, 0, 0, 0, 0, 0, 0⟩ (.ret (.bool (.bin .le (.il 0) (.iv 2))) [] [] []))
theorem x_scont : xfn Tryz.prog { ex := false, inl := [], loops := [], unroll := [], mu := [], mus := [], stays := [], rowT := [], rwx := false, rws := [] } Tryz.f34 [(.slc 0 (.nv 0) (.nv 1)), (.fn 35 [(.ptr 0 0)])] [] [⟨0, 64, [(.int .u8 (.iv 0)), (.int .u8 (.iv 1))]⟩] ⟨2, 2, 0, 0, 0, 1, 1, 0⟩ = some t_scont := by kernel_rfl
theorem vc_scont (i0 i1 : Int) (n0 n1 : Nat) (a0 : Option Addr) (m0 : Nat) (W : Wd) (R : Ending → World → Prop) (hm0 : W.w.heap[m0]? = some (.cells #[.int .u8 i0, .int .u8 i1] 64)) (Im0 : W.I m0) (h : t_scont.den Tryz.prog W.w.heap.size R [] { I := [i0, i1], N := [n0, n1], A := [a0], M := [m0] } W) : CallsE Tryz.prog 34 #[.slice a0 n0 n1, .func (.func 35) #[] #[.pointer (some ⟨m0, 0, none⟩)]] W R :=
  fn_calls_ro Tryz.func34 _ _ [⟨0, 64, [(.int .u8 (.iv 0)), (.int .u8 (.iv 1))]⟩] { I := [i0, i1], N := [n0, n1], A := [a0], M := [m0] } _ x_scont (fun v hv => by cases hv) (fun b hb => by simp only [List.mem_cons, List.not_mem_nil, or_false] at hb; rcases hb with rfl <;> (first | exact hm0)) (fun b hb => by simp only [List.mem_cons, List.not_mem_nil, or_false] at hb; rcases hb with rfl <;> (first | exact Im0)) h

-- callboard/typed.typed
@[reducible] def t_typed_1 : Tree := (.call 31 [(.int .u8 (.iv 1))] [] [] [] (.tup [(.int .u8 (.iv 3)), (.int .i64 (.iv 4))]) ⟨2, 0, 0, 0, 0, 0, 0, 0⟩ (.ret (.tup [(.int .u8 (.iv 3)), (.int .i64 (.iv 4))]) [] [] []))
@[reducible] def t_typed_2 : Tree := (.call 31 [(.int .u8 (.iv 4))] [] [] [] (.tup [(.int .u8 (.iv 5)), (.int .i64 (.iv 6))]) ⟨2, 0, 0, 0, 0, 0, 0, 0⟩ (.ret (.tup [(.int .u8 (.iv 5)), (.int .i64 (.iv 6))]) [] [] []))
@[reducible] def t_typed_3 : Tree := (.chk (.sm 1) (.chk (.bin .le (.il 0) (.iv 3)) (.chk (.bin .lt (.iv 3) (.nv 2)) (.look 5 (.elt 1 (.iv 3) 4 1) (.int .u8 (.iv 4)) ⟨1, 0, 0, 0, 0, 0, 0, 0⟩ t_typed_2))))
@[reducible] def t_typed_4 : Tree := (.br (.bin .lt (.iv 3) (.il 0)) (.ret (.tup [(.int .u8 (.il 0)), (.int .i64 (.il 22))]) [] [] []) t_typed_3)
@[reducible] def t_typed_5 : Tree := (.call 32 [(.slc 1 (.nv 2) (.nv 3)), (.fn 33 [(.ptr 0 0)])] [⟨0, 26, [(.int .u8 (.iv 0)), (.int .u8 (.iv 1)), (.int .i64 (.iv 2)), (.str (.tv 0)), (.str (.tv 1)), (.slc 0 (.nv 0) (.nv 1))]⟩] [] [] (.int .i64 (.iv 3)) ⟨1, 0, 0, 0, 0, 0, 0, 0⟩ t_typed_4)
@[reducible] def t_typed_6 : Tree := (.ret (.tup [(.int .u8 (.il 0)), (.int .i64 (.iv 8))]) [] [] [⟨(.slc 2 (.nv 4) (.nv 5)), (.nv 4), 5, 1, [(.l 0)]⟩])
@[reducible] def t_typed_7 : Tree := (.new (.chk (.bin .le (.bin .add (.nv 4) (.il 1)) (.il 140737488355328)) (.app (.bin .add (.nv 4) (.il 1)) (.frz [⟨2, 5, [(.int .u8 (.iv 7))]⟩, ⟨1, 26, [(.int .u8 (.iv 4)), (.int .u8 (.iv 5)), (.int .i64 (.iv 6)), (.str (.tv 2)), (.str (.tv 3)), (.slc 3 (.nv 6) (.nv 7))]⟩] (.again 0 [(.int .i64 (.un (.wrap .i64) (.bin .add (.iv 3) (.il 1)))), (.slc 4 (.bin .add (.nv 4) (.il 1)) (.nv 8))] [⟨(.slc 4 (.bin .add (.nv 4) (.il 1)) (.nv 8)), (.bin .add (.nv 4) (.il 1)), 5, 1, [(.l 0), (.s (.int .u8 (.iv 7)))]⟩])))))
@[reducible] def t_typed_8 : Tree := (.new (.wr (.call 18 [(.agg [(.int .u8 (.iv 4)), (.int .u8 (.iv 5)), (.int .i64 (.iv 6)), (.str (.tv 2)), (.str (.tv 3)), (.slc 3 (.nv 6) (.nv 7))]), (.slc 1 (.nv 2) (.nv 3))] [] [⟨(.slc 2 (.nv 4) (.nv 5)), (.nv 4), 5, 1, [(.l 0)]⟩] [] (.tup [(.int .u8 (.iv 7)), (.int .i64 (.iv 8))]) ⟨2, 0, 0, 0, 0, 0, 0, 0⟩ (.br (.un .not (.bin .ieq (.iv 8) (.il 0))) t_typed_6 t_typed_7))))
@[reducible] def t_typed_9 : Tree := (.chk (.sm 0) (.chk (.bin .le (.il 0) (.iv 3)) (.look 26 (.elt 0 (.iv 3) 6 0) (.agg [(.int .u8 (.iv 4)), (.int .u8 (.iv 5)), (.int .i64 (.iv 6)), (.str (.tv 2)), (.str (.tv 3)), (.slc 3 (.nv 6) (.nv 7))]) ⟨3, 2, 0, 2, 0, 1, 0, 0⟩ t_typed_8)))
@[reducible] def t_typed_10 : Tree := (.ret (.tup [(.int .u8 (.iv 6)), (.int .i64 (.il 0))]) [] [] [⟨(.slc 5 (.nv 8) (.nv 9)), (.nv 8), 5, 1, [(.l 1)]⟩])
@[reducible] def t_typed_11 : Tree := (.frz [⟨1, 64, [(.int .u8 (.iv 5)), (.int .u8 (.iv 6))]⟩] (.again 1 [(.int .i64 (.un (.wrap .i64) (.bin .add (.iv 4) (.il 1)))), (.slc 5 (.nv 8) (.nv 9))] [⟨(.slc 5 (.nv 8) (.nv 9)), (.nv 8), 5, 1, [(.l 1)]⟩]))
@[reducible] def t_typed_12 : Tree := (.new (.wr (.call 34 [(.slc 5 (.nv 8) (.nv 9)), (.fn 35 [(.ptr 1 0)])] [⟨1, 64, [(.int .u8 (.iv 5)), (.int .u8 (.iv 6))]⟩] [⟨(.slc 5 (.nv 8) (.nv 9)), (.nv 8), 5, 1, [(.l 1)]⟩] [] (.bool (.bv 0)) ⟨0, 0, 1, 0, 0, 0, 0, 0⟩ (.br (.un .not (.bv 0)) t_typed_10 t_typed_11))))
@[reducible] def t_typed_13 : Tree := (.chk (.sm 4) (.chk (.bin .le (.il 0) (.iv 4)) (.look 64 (.elt 4 (.iv 4) 2 0) (.agg [(.int .u8 (.iv 5)), (.int .u8 (.iv 6))]) ⟨2, 0, 0, 0, 0, 0, 0, 0⟩ t_typed_12)))
@[reducible] def t_typed_14 : Tree := (.ret (.tup [(.int .u8 (.il 0)), (.int .i64 (.il 23))]) [] [] [⟨(.slc 5 (.nv 8) (.nv 9)), (.nv 8), 5, 1, [(.l 1)]⟩])
@[reducible] def t_typed_15 : Tree := (.loop [(.int .i64 (.il 0)), (.slc 2 (.nv 4) (.nv 5))] [⟨(.slc 2 (.nv 4) (.nv 5)), (.nv 4), 5, 1, [(.l 0)]⟩] [(.int .i64 (.iv 4)), (.slc 5 (.nv 8) (.nv 9))] [⟨(.slc 5 (.nv 8) (.nv 9)), (.nv 8), 5, 1, [(.l 1)]⟩] ⟨1, 2, 0, 0, 0, 1, 0, 1⟩ (.br (.bin .lt (.iv 4) (.nv 6)) t_typed_13 t_typed_14))
@[reducible] def t_typed_16 : Tree := (.chk (.bin .le (.il 0) (.iv 0)) (.chk (.bin .lt (.iv 0) (.il 17)) (.adr ⟨0, 0, none⟩ (.look 61 (.elt 3 (.iv 0) 1 0) (.slc 4 (.nv 6) (.nv 7)) ⟨0, 2, 0, 0, 0, 1, 0, 0⟩ t_typed_15))))
@[reducible] def t_typed_17 : Tree := (.loop [(.int .i64 (.il 0)), .nils] [⟨.nils, (.il 0), 5, 1, []⟩] [(.int .i64 (.iv 3)), (.slc 2 (.nv 4) (.nv 5))] [⟨(.slc 2 (.nv 4) (.nv 5)), (.nv 4), 5, 1, [(.l 0)]⟩] ⟨1, 2, 0, 0, 0, 1, 0, 1⟩ (.br (.bin .lt (.iv 3) (.nv 0)) t_typed_9 t_typed_16))
@[reducible] def t_typed : Tree :=
(.new (.br (.bin .ieq (.iv 0) (.il 1)) t_typed_1 (.br (.bin .ieq (.iv 0) (.il 2)) t_typed_5 t_typed_17)))
theorem x_typed : xfn Tryz.prog { ex := false, inl := [], loops := [⟨11, [.tm 43, .row 7 60]⟩, ⟨19, [.tm 66, .row 7 60]⟩], unroll := [], mu := [], mus := [], stays := [], rowT := [], rwx := false, rws := [] } Tryz.f18 [(.agg [(.int .u8 (.iv 0)), (.int .u8 (.iv 1)), (.int .i64 (.iv 2)), (.str (.tv 0)), (.str (.tv 1)), (.slc 0 (.nv 0) (.nv 1))]), (.slc 1 (.nv 2) (.nv 3))] [] [] ⟨3, 4, 0, 2, 0, 2, 0, 0⟩ = some t_typed := by kernel_rfl
theorem vc_typed (i0 i1 i2 : Int) (n0 n1 n2 n3 : Nat) (t0 t1 : ByteArray) (a0 a1 : Option Addr) (W : Wd) (R : Ending → World → Prop) (h : t_typed.den Tryz.prog W.w.heap.size R [] { I := [i0, i1, i2], N := [n0, n1, n2, n3], T := [t0, t1], A := [a0, a1] } W) : CallsE Tryz.prog 18 #[.agg #[.int .u8 i0, .int .u8 i1, .int .i64 i2, .string t0, .string t1, .slice a0 n0 n1], .slice a1 n2 n3] W R :=
  fn_calls Tryz.func18 _ _ { I := [i0, i1, i2], N := [n0, n1, n2, n3], T := [t0, t1], A := [a0, a1] } _ x_typed (fun v hv => by cases hv) h

-- callboard/typed.Type
@[reducible] def t_tType_1 : Tree := (.call 18 [(.agg [(.int .u8 (.iv 0)), (.int .u8 (.iv 1)), (.int .i64 (.iv 2)), (.str (.tv 0)), (.str (.tv 1)), (.slc 0 (.nv 0) (.nv 1))]), (.slc 1 (.nv 2) (.nv 3))] [] [] [] (.tup [(.int .u8 (.iv 3)), (.int .i64 (.iv 4))]) ⟨2, 0, 0, 0, 0, 0, 0, 0⟩ (.ret (.tup [(.int .u8 (.iv 3)), (.int .i64 (.iv 4))]) [] [] []))
@[reducible] def t_tType_2 : Tree := (.br (.un .not (.bv 0)) (.ret (.tup [(.int .u8 (.il 0)), (.int .i64 (.il 4))]) [] [] []) t_tType_1)
@[reducible] def t_tType : Tree :=
(.new (.call 10 [(.agg [(.int .u8 (.iv 0)), (.int .u8 (.iv 1)), (.int .i64 (.iv 2)), (.str (.tv 0)), (.str (.tv 1)), (.slc 0 (.nv 0) (.nv 1))])] [] [] [] (.bool (.bv 0)) ⟨0, 0, 1, 0, 0, 0, 0, 0⟩ t_tType_2))
theorem x_tType : xfn Tryz.prog { ex := false, inl := [], loops := [], unroll := [], mu := [], mus := [], stays := [], rowT := [], rwx := false, rws := [] } Tryz.f8 [(.agg [(.int .u8 (.iv 0)), (.int .u8 (.iv 1)), (.int .i64 (.iv 2)), (.str (.tv 0)), (.str (.tv 1)), (.slc 0 (.nv 0) (.nv 1))]), (.slc 1 (.nv 2) (.nv 3))] [] [] ⟨3, 4, 0, 2, 0, 2, 0, 0⟩ = some t_tType := by kernel_rfl
theorem vc_tType (i0 i1 i2 : Int) (n0 n1 n2 n3 : Nat) (t0 t1 : ByteArray) (a0 a1 : Option Addr) (W : Wd) (R : Ending → World → Prop) (h : t_tType.den Tryz.prog W.w.heap.size R [] { I := [i0, i1, i2], N := [n0, n1, n2, n3], T := [t0, t1], A := [a0, a1] } W) : CallsE Tryz.prog 8 #[.agg #[.int .u8 i0, .int .u8 i1, .int .i64 i2, .string t0, .string t1, .slice a0 n0 n1], .slice a1 n2 n3] W R :=
  fn_calls Tryz.func8 _ _ { I := [i0, i1, i2], N := [n0, n1, n2, n3], T := [t0, t1], A := [a0, a1] } _ x_tType (fun v hv => by cases hv) h

-- callboard/typed.Check
@[reducible] def t_tCheck_1 : Tree := (.br (.bin .band (.bin .ieq (.iv 6) (.il 0)) (.un .not (.bin .ieq (.iv 5) (.iv 0)))) (.ret (.int .i64 (.il 23)) [] [] []) (.ret (.int .i64 (.iv 6)) [] [] []))
@[reducible] def t_tCheck_2 : Tree := (.call 8 [(.agg [(.int .u8 (.iv 1)), (.int .u8 (.iv 2)), (.int .i64 (.iv 3)), (.str (.tv 1)), (.str (.tv 2)), (.slc 1 (.nv 2) (.nv 3))]), (.slc 0 (.nv 0) (.nv 1))] [] [] [] (.tup [(.int .u8 (.iv 5)), (.int .i64 (.iv 6))]) ⟨2, 0, 0, 0, 0, 0, 0, 0⟩ t_tCheck_1)
@[reducible] def t_tCheck_3 : Tree := (.new (.wr (.br (.un .not (.bin .ieq (.iv 4) (.il 0))) (.ret (.int .i64 (.iv 4)) [] [] []) t_tCheck_2)))
@[reducible] def t_tCheck : Tree :=
(.call 22 [(.str (.tv 0))] [] [] [] (.tup [(.agg [(.int .u8 (.iv 1)), (.int .u8 (.iv 2)), (.int .i64 (.iv 3)), (.str (.tv 1)), (.str (.tv 2)), (.slc 1 (.nv 2) (.nv 3))]), (.int .i64 (.iv 4))]) ⟨4, 2, 0, 2, 0, 1, 0, 0⟩ t_tCheck_3)
theorem x_tCheck : xfn Tryz.prog { ex := false, inl := [], loops := [], unroll := [], mu := [], mus := [], stays := [], rowT := [], rwx := false, rws := [] } Tryz.f12 [(.str (.tv 0)), (.slc 0 (.nv 0) (.nv 1)), (.int .u8 (.iv 0))] [] [] ⟨1, 2, 0, 1, 0, 1, 0, 0⟩ = some t_tCheck := by kernel_rfl
theorem vc_tCheck (i0 : Int) (n0 n1 : Nat) (t0 : ByteArray) (a0 : Option Addr) (W : Wd) (R : Ending → World → Prop) (h : t_tCheck.den Tryz.prog W.w.heap.size R [] { I := [i0], N := [n0, n1], T := [t0], A := [a0] } W) : CallsE Tryz.prog 12 #[.string t0, .slice a0 n0 n1, .int .u8 i0] W R :=
  fn_calls Tryz.func12 _ _ { I := [i0], N := [n0, n1], T := [t0], A := [a0] } _ x_tCheck (fun v hv => by cases hv) h

end Go.Proofs.YtijinopghlpdbaaGreatDoor
