/- What is left to show of functions, as the walk that the kernel computes finds it (written by wip/vc2.py). -/
import Derived.Test.YtamnfdmmjjekhaaProg
import Derived.Test.YtamnfdmmjjekhaaSfD
namespace Go.Proofs.Ytamnfdmmjjekhaa
open Go Go.RowKit Go.SF
set_option maxRecDepth 100000

-- slices.Index[[]int,int]
@[reducible] def t_ixn_1 : Tree := (.br (.bin .ieq (.iv 0) (.iv 2)) (.ret (.int .i64 (.iv 1)) [] [] []) (.again 0 [(.int .i64 (.un (.wrap .i64) (.bin .add (.iv 1) (.il 1))))] []))
@[reducible] def t_ixn_2 : Tree := (.chk (.sm 0) (.chk (.bin .le (.il 0) (.iv 1)) (.look 3 (.elt 0 (.iv 1) 1 0) (.int .i64 (.iv 2)) ⟨1, 0, 0, 0, 0, 0, 0, 0⟩ t_ixn_1)))
@[reducible] def t_ixn : Tree :=
(.loop [(.int .i64 (.il 0))] [] [(.int .i64 (.iv 1))] [] ⟨1, 0, 0, 0, 0, 0, 0, 0⟩ (.br (.bin .lt (.iv 1) (.nv 0)) t_ixn_2 (.ret (.int .i64 (.il (-1))) [] [] [])))
theorem x_ixn : xfn Try.prog { ex := false, inl := [], loops := [⟨2, [.tm 8]⟩], unroll := [], mu := [], mus := [], stays := [], rowT := [], rwx := false, nilR := [], rws := [] } Try.f53 [(.slc 0 (.nv 0) (.nv 1)), (.int .i64 (.iv 0))] [] [] ⟨1, 2, 0, 0, 0, 1, 0, 0⟩ = some t_ixn := by kernel_rfl
theorem vc_ixn (i0 : Int) (n0 n1 : Nat) (a0 : Option Addr) (W : Wd) (R : Ending → World → Prop) (h : t_ixn.den Try.prog W.w.heap.size R [] { I := [i0], N := [n0, n1], A := [a0] } W) : CallsE Try.prog 53 #[.slice a0 n0 n1, .int .i64 i0] W R :=
  fn_calls Try.func53 _ _ { I := [i0], N := [n0, n1], A := [a0] } _ x_ixn (fun v hv => by cases hv) h

-- slices.Contains[[]int,int]
@[reducible] def t_conn : Tree :=
(.call 53 [(.slc 0 (.nv 0) (.nv 1)), (.int .i64 (.iv 0))] [] [] [] (.int .i64 (.iv 1)) ⟨1, 0, 0, 0, 0, 0, 0, 0⟩ (.ret (.bool (.bin .le (.il 0) (.iv 1))) [] [] []))
theorem x_conn : xfn Try.prog { ex := false, inl := [], loops := [], unroll := [], mu := [], mus := [], stays := [], rowT := [], rwx := false, nilR := [], rws := [] } Try.f41 [(.slc 0 (.nv 0) (.nv 1)), (.int .i64 (.iv 0))] [] [] ⟨1, 2, 0, 0, 0, 1, 0, 0⟩ = some t_conn := by kernel_rfl
theorem vc_conn (i0 : Int) (n0 n1 : Nat) (a0 : Option Addr) (W : Wd) (R : Ending → World → Prop) (h : t_conn.den Try.prog W.w.heap.size R [] { I := [i0], N := [n0, n1], A := [a0] } W) : CallsE Try.prog 41 #[.slice a0 n0 n1, .int .i64 i0] W R :=
  fn_calls Try.func41 _ _ { I := [i0], N := [n0, n1], A := [a0] } _ x_conn (fun v hv => by cases hv) h

-- callboard/vars.Drop$1
@[reducible] def t_dr1 : Tree :=
(.new (.call 41 [(.slc 0 (.nv 0) (.nv 1)), (.int .i64 (.iv 0))] [] [] [] (.bool (.bv 0)) ⟨0, 0, 1, 0, 0, 0, 0, 0⟩ (.ret (.bool (.bv 0)) [] [] [])))
theorem x_dr1 : xfn Try.prog { ex := false, inl := [], loops := [], unroll := [], mu := [], mus := [], stays := [], rowT := [], rwx := false, nilR := [], rws := [] } Try.f40 [(.agg [(.int .i64 (.iv 0)), (.str (.tv 0)), (.int .u8 (.iv 1)), (.int .i64 (.iv 2)), (.str (.tv 1))]), (.ptr 0 0)] [] [⟨0, 32, [(.slc 0 (.nv 0) (.nv 1))]⟩] ⟨3, 2, 0, 2, 0, 1, 1, 0⟩ = some t_dr1 := by kernel_rfl
theorem vc_dr1 (i0 i1 i2 : Int) (n0 n1 : Nat) (t0 t1 : ByteArray) (a0 : Option Addr) (m0 : Nat) (W : Wd) (R : Ending → World → Prop) (hm0 : W.w.heap[m0]? = some (.cells #[.slice a0 n0 n1] 32)) (Im0 : W.I m0) (h : t_dr1.den Try.prog W.w.heap.size R [] { I := [i0, i1, i2], N := [n0, n1], T := [t0, t1], A := [a0], M := [m0] } W) : CallsE Try.prog 40 #[.agg #[.int .i64 i0, .string t0, .int .u8 i1, .int .i64 i2, .string t1], .pointer (some ⟨m0, 0, none⟩)] W R :=
  fn_calls_ro Try.func40 _ _ [⟨0, 32, [(.slc 0 (.nv 0) (.nv 1))]⟩] { I := [i0, i1, i2], N := [n0, n1], T := [t0, t1], A := [a0], M := [m0] } _ x_dr1 (fun v hv => by cases hv) (fun b hb => by simp only [List.mem_cons, List.not_mem_nil, or_false] at hb; rcases hb with rfl <;> (first | exact hm0)) (fun b hb => by simp only [List.mem_cons, List.not_mem_nil, or_false] at hb; rcases hb with rfl <;> (first | exact Im0)) h

-- slices.IndexFunc[[]callboard/api.Cell,callboard/api.Cell]
@[reducible] def t_ixd_1 : Tree := (.br (.bv 0) (.ret (.int .i64 (.iv 0)) [] [] []) (.again 0 [(.int .i64 (.un (.wrap .i64) (.bin .add (.iv 0) (.il 1))))] []))
@[reducible] def t_ixd_2 : Tree := (.call 40 [(.agg [(.int .i64 (.iv 1)), (.str (.tv 0)), (.int .u8 (.iv 2)), (.int .i64 (.iv 3)), (.str (.tv 1))]), (.ptr 0 0)] [⟨0, 32, [(.slc 1 (.nv 2) (.nv 3))]⟩] [] [] (.bool (.bv 0)) ⟨0, 0, 1, 0, 0, 0, 0, 0⟩ t_ixd_1)
@[reducible] def t_ixd_3 : Tree := (.chk (.sm 0) (.chk (.bin .le (.il 0) (.iv 0)) (.look 39 (.elt 0 (.iv 0) 5 0) (.agg [(.int .i64 (.iv 1)), (.str (.tv 0)), (.int .u8 (.iv 2)), (.int .i64 (.iv 3)), (.str (.tv 1))]) ⟨3, 0, 0, 2, 0, 0, 0, 0⟩ t_ixd_2)))
@[reducible] def t_ixd : Tree :=
(.loop [(.int .i64 (.il 0))] [] [(.int .i64 (.iv 0))] [] ⟨1, 0, 0, 0, 0, 0, 0, 0⟩ (.br (.bin .lt (.iv 0) (.nv 0)) t_ixd_3 (.ret (.int .i64 (.il (-1))) [] [] [])))
theorem x_ixd : xfn Try.prog { ex := false, inl := [], loops := [⟨2, [.tm 8]⟩], unroll := [], mu := [], mus := [], stays := [], rowT := [], rwx := false, nilR := [], rws := [] } Try.f42 [(.slc 0 (.nv 0) (.nv 1)), (.fn 40 [(.ptr 0 0)])] [] [⟨0, 32, [(.slc 1 (.nv 2) (.nv 3))]⟩] ⟨0, 4, 0, 0, 0, 2, 1, 0⟩ = some t_ixd := by kernel_rfl
theorem vc_ixd (n0 n1 n2 n3 : Nat) (a0 a1 : Option Addr) (m0 : Nat) (W : Wd) (R : Ending → World → Prop) (hm0 : W.w.heap[m0]? = some (.cells #[.slice a1 n2 n3] 32)) (Im0 : W.I m0) (h : t_ixd.den Try.prog W.w.heap.size R [] { N := [n0, n1, n2, n3], A := [a0, a1], M := [m0] } W) : CallsE Try.prog 42 #[.slice a0 n0 n1, .func (.func 40) #[] #[.pointer (some ⟨m0, 0, none⟩)]] W R :=
  fn_calls_ro Try.func42 _ _ [⟨0, 32, [(.slc 1 (.nv 2) (.nv 3))]⟩] { N := [n0, n1, n2, n3], A := [a0, a1], M := [m0] } _ x_ixd (fun v hv => by cases hv) (fun b hb => by simp only [List.mem_cons, List.not_mem_nil, or_false] at hb; rcases hb with rfl <;> (first | exact hm0)) (fun b hb => by simp only [List.mem_cons, List.not_mem_nil, or_false] at hb; rcases hb with rfl <;> (first | exact Im0)) h

-- slices.DeleteFunc[[]callboard/api.Cell,callboard/api.Cell]
@[reducible] def t_del_1 : Tree := (.ret (.slc 0 (.nv 0) (.nv 1)) [] [] [⟨(.slc 0 (.nv 0) (.nv 1)), (.nv 0), 39, 5, [(.l 0)]⟩])
@[reducible] def t_del_2 : Tree := (.frz [⟨1, 39, [(.int .i64 (.iv 3)), (.str (.tv 0)), (.int .u8 (.iv 4)), (.int .i64 (.iv 5)), (.str (.tv 1))]⟩] (.again 0 [(.int .i64 (.un (.wrap .i64) (.bin .add (.iv 1) (.il 1)))), (.int .i64 (.un (.wrap .i64) (.bin .add (.iv 2) (.il 1)))), (.slc 2 (.nv 4) (.nv 5))] [⟨(.slc 2 (.nv 4) (.nv 5)), (.nv 4), 39, 5, [(.l 2)]⟩]))
@[reducible] def t_del_3 : Tree := (.chk (.bin .le (.il 0) (.iv 1)) (.chk (.bin .lt (.iv 1) (.nv 4)) (.rset [(.l 1)] (.iv 1) 0 5 [(.int .i64 (.iv 3)), (.str (.tv 0)), (.int .u8 (.iv 4)), (.int .i64 (.iv 5)), (.str (.tv 1))] t_del_2)))
@[reducible] def t_del_4 : Tree := (.frz [⟨1, 39, [(.int .i64 (.iv 3)), (.str (.tv 0)), (.int .u8 (.iv 4)), (.int .i64 (.iv 5)), (.str (.tv 1))]⟩] (.again 0 [(.int .i64 (.iv 1)), (.int .i64 (.un (.wrap .i64) (.bin .add (.iv 2) (.il 1)))), (.slc 2 (.nv 4) (.nv 5))] [⟨(.slc 2 (.nv 4) (.nv 5)), (.nv 4), 39, 5, [(.l 1)]⟩]))
@[reducible] def t_del_5 : Tree := (.chk (.sm 2) (.chk (.bin .le (.il 0) (.iv 2)) (.rlook 39 (.elt 2 (.iv 2) 5 0) (.agg [(.int .i64 (.iv 3)), (.str (.tv 0)), (.int .u8 (.iv 4)), (.int .i64 (.iv 5)), (.str (.tv 1))]) ⟨(.slc 2 (.nv 4) (.nv 5)), (.nv 4), 39, 5, [(.l 1)]⟩ ⟨3, 0, 0, 2, 0, 0, 0, 0⟩ (.new (.wr (.call 40 [(.agg [(.int .i64 (.iv 3)), (.str (.tv 0)), (.int .u8 (.iv 4)), (.int .i64 (.iv 5)), (.str (.tv 1))]), (.ptr 0 0)] [⟨0, 32, [(.slc 1 (.nv 2) (.nv 3))]⟩] [⟨(.slc 2 (.nv 4) (.nv 5)), (.nv 4), 39, 5, [(.l 1)]⟩] [] (.bool (.bv 0)) ⟨0, 0, 1, 0, 0, 0, 0, 0⟩ (.br (.un .not (.bv 0)) t_del_3 t_del_4)))))))
@[reducible] def t_del_6 : Tree := (.chk (.bin .le (.il 0) (.iv 1)) (.chk (.bin .le (.iv 1) (.nv 5)) (.sub 2 (.il 0) (.iv 1) (.nv 5) 5 (.ret (.slc 3 (.nv 6) (.nv 5)) [] [] [⟨(.slc 2 (.nv 4) (.nv 5)), (.nv 4), 39, 5, [(.l 2)]⟩]))))
@[reducible] def t_del_7 : Tree := (.chk (.sm 2) (.chk (.bin .lt (.iv 1) (.nv 4)) (.chk (.bin .le (.il 0) (.iv 1)) (.chk (.bin .le (.iv 1) (.nv 4)) (.rclr [(.l 1)] (.iv 1) (.nv 4) 5 ⟨[(.int .i64 0), (.string ⟨⟨[]⟩⟩), (.int .u8 0), (.int .i64 0), (.string ⟨⟨[]⟩⟩)]⟩ t_del_6)))))
@[reducible] def t_del_8 : Tree := (.loop [(.int .i64 (.iv 0)), (.int .i64 (.un (.wrap .i64) (.bin .add (.iv 0) (.il 1)))), (.slc 0 (.nv 0) (.nv 1))] [⟨(.slc 0 (.nv 0) (.nv 1)), (.nv 0), 39, 5, [(.l 0)]⟩] [(.int .i64 (.iv 1)), (.int .i64 (.iv 2)), (.slc 2 (.nv 4) (.nv 5))] [⟨(.slc 2 (.nv 4) (.nv 5)), (.nv 4), 39, 5, [(.l 1)]⟩] ⟨2, 2, 0, 0, 0, 1, 0, 1⟩ (.br (.bin .lt (.iv 2) (.nv 4)) t_del_5 t_del_7))
@[reducible] def t_del : Tree :=
(.call 42 [(.slc 0 (.nv 0) (.nv 1)), (.fn 40 [(.ptr 0 0)])] [⟨0, 32, [(.slc 1 (.nv 2) (.nv 3))]⟩] [⟨(.slc 0 (.nv 0) (.nv 1)), (.nv 0), 39, 5, [(.l 0)]⟩] [] (.int .i64 (.iv 0)) ⟨1, 0, 0, 0, 0, 0, 0, 0⟩ (.br (.bin .ieq (.iv 0) (.il (-1))) t_del_1 t_del_8))
theorem x_del : xfnR Try.prog { ex := false, inl := [], loops := [⟨5, [.tm 5, .tm 6, .row 0 24]⟩], unroll := [], mu := [], mus := [], stays := [], rowT := [], rwx := false, nilR := [], rws := [] } Try.f39 [(.slc 0 (.nv 0) (.nv 1)), (.fn 40 [(.ptr 0 0)])] [⟨0, 32, [(.slc 1 (.nv 2) (.nv 3))]⟩] [⟨(.slc 0 (.nv 0) (.nv 1)), (.nv 0), 39, 5, [(.l 0)]⟩] ⟨0, 4, 0, 0, 0, 2, 1, 1⟩ = some t_del := by kernel_rfl
theorem vc_del (n0 n1 n2 n3 : Nat) (a0 a1 : Option Addr) (m0 : Nat) (l0 : List Value) (W : Wd) (R : Ending → World → Prop) (hr : W.w.ownsRow 0 39 5 (.slice a0 n0 n1) n0 l0) (h1 : ∀ u ∈ l0, u.oneCell' = true) (hI : ∀ k, (Value.slice a0 n0 n1).ownBlock = some k → ¬ W.I k) (hm0 : W.w.heap[m0]? = some (.cells #[.slice a1 n2 n3] 32)) (Im0 : W.I m0) (h : t_del.den Try.prog 0 R [] { N := [n0, n1, n2, n3], A := [a0, a1], M := [m0], L := [l0] } W) : CallsE Try.prog 39 #[.slice a0 n0 n1, .func (.func 40) #[] #[.pointer (some ⟨m0, 0, none⟩)]] W R :=
  fn_calls_rows Try.func39 _ _ [⟨0, 32, [(.slc 1 (.nv 2) (.nv 3))]⟩] [⟨(.slc 0 (.nv 0) (.nv 1)), (.nv 0), 39, 5, [(.l 0)]⟩] { N := [n0, n1, n2, n3], A := [a0, a1], M := [m0], L := [l0] } _ x_del (fun v hv => by cases hv) (fun b hb => by simp only [List.mem_cons, List.not_mem_nil, or_false] at hb; rcases hb with rfl <;> (first | exact hm0)) (fun b hb => by simp only [List.mem_cons, List.not_mem_nil, or_false] at hb; rcases hb with rfl <;> (first | exact Im0)) (fun r hr1 => by obtain rfl := List.mem_singleton.1 hr1; refine ⟨?_, ?_⟩ <;> simp only [conts, Seg.den, List.flatMap_cons, List.flatMap_nil, List.append_nil] <;> first | exact hr | exact h1) (fun r hr1 k hk => by obtain rfl := List.mem_singleton.1 hr1; exact hI k hk) (List.pairwise_singleton _ _) h

-- slices.Clone[[]callboard/api.Cell,callboard/api.Cell]
@[reducible] def t_clone_1 : Tree := (.app (.il 0) (.chk (.bin .le (.nv 0) (.il 2513169434916)) (.cells 0 (.nv 0) (.nv 1) 5 [⟨(.slc 1 (.il 0) (.nv 2)), (.il 0), 39, 5, []⟩] (.app (.nv 0) (.ret (.slc 2 (.nv 0) (.nv 3)) [] [] [⟨(.slc 2 (.nv 0) (.nv 3)), (.nv 0), 39, 5, [(.l 0)]⟩])))))
@[reducible] def t_clone : Tree :=
(.br (.un .not (.sm 0)) (.ret .nils [] [] []) t_clone_1)
theorem x_clone : xfn Try.prog { ex := false, inl := [], loops := [], unroll := [], mu := [], mus := [], stays := [], rowT := [39], rwx := false, nilR := [], rws := [] } Try.f36 [(.slc 0 (.nv 0) (.nv 1))] [] [] ⟨0, 2, 0, 0, 0, 1, 0, 0⟩ = some t_clone := by kernel_rfl
theorem vc_clone (n0 n1 : Nat) (a0 : Option Addr) (W : Wd) (R : Ending → World → Prop) (h : t_clone.den Try.prog W.w.heap.size R [] { N := [n0, n1], A := [a0] } W) : CallsE Try.prog 36 #[.slice a0 n0 n1] W R :=
  fn_calls Try.func36 _ _ { N := [n0, n1], A := [a0] } _ x_clone (fun v hv => by cases hv) h

-- callboard/vars.Drop
@[reducible] def t_drop_1 : Tree := (.wr (.wr (.ret (.agg [(.int .i64 (.iv 0)), (.int .i64 (.iv 1)), (.slc 0 (.nv 0) (.nv 1)), (.slc 1 (.nv 2) (.nv 3)), (.slc 6 (.nv 12) (.nv 13)), (.slc 3 (.nv 6) (.nv 7))]) [] [] [⟨(.slc 6 (.nv 12) (.nv 13)), (.nv 12), 39, 5, [(.l 1)]⟩])))
@[reducible] def t_drop_2 : Tree := (.callr 39 [(.slc 5 (.nv 10) (.nv 11)), (.fn 40 [(.ptr 1 0)])] [⟨1, 32, [(.slc 4 (.nv 8) (.nv 9))]⟩] [⟨(.slc 5 (.nv 10) (.nv 11)), (.nv 10), 39, 5, [(.l 0)]⟩] [⟨(.slc 5 (.nv 10) (.nv 11)), (.nv 10), 39, 5, [(.l 0)]⟩] (.slc 6 (.nv 12) (.nv 13)) [⟨(.slc 6 (.nv 12) (.nv 13)), (.nv 12), 39, 5, [(.l 1)]⟩] ⟨0, 2, 0, 0, 0, 1, 0, 1⟩ t_drop_1)
@[reducible] def t_drop : Tree :=
(.new (.new (.new (.callr 36 [(.slc 2 (.nv 4) (.nv 5))] [] [] [] (.slc 5 (.nv 10) (.nv 11)) [⟨(.slc 5 (.nv 10) (.nv 11)), (.nv 10), 39, 5, [(.l 0)]⟩] ⟨0, 2, 0, 0, 0, 1, 0, 1⟩ t_drop_2))))
theorem x_drop : xfn Try.prog { ex := false, inl := [], loops := [], unroll := [], mu := [], mus := [], stays := [], rowT := [0], rwx := false, nilR := [], rws := [(36, [], [(0, 39, 5)]), (39, [0], [(0, 39, 5)])] } Try.f20 [(.agg [(.int .i64 (.iv 0)), (.int .i64 (.iv 1)), (.slc 0 (.nv 0) (.nv 1)), (.slc 1 (.nv 2) (.nv 3)), (.slc 2 (.nv 4) (.nv 5)), (.slc 3 (.nv 6) (.nv 7))]), (.slc 4 (.nv 8) (.nv 9))] [] [] ⟨2, 10, 0, 0, 0, 5, 0, 0⟩ = some t_drop := by kernel_rfl
theorem vc_drop (i0 i1 : Int) (n0 n1 n2 n3 n4 n5 n6 n7 n8 n9 : Nat) (a0 a1 a2 a3 a4 : Option Addr) (W : Wd) (R : Ending → World → Prop) (h : t_drop.den Try.prog W.w.heap.size R [] { I := [i0, i1], N := [n0, n1, n2, n3, n4, n5, n6, n7, n8, n9], A := [a0, a1, a2, a3, a4] } W) : CallsE Try.prog 20 #[.agg #[.int .i64 i0, .int .i64 i1, .slice a0 n0 n1, .slice a1 n2 n3, .slice a2 n4 n5, .slice a3 n6 n7], .slice a4 n8 n9] W R :=
  fn_calls Try.func20 _ _ { I := [i0, i1], N := [n0, n1, n2, n3, n4, n5, n6, n7, n8, n9], A := [a0, a1, a2, a3, a4] } _ x_drop (fun v hv => by cases hv) h

-- callboard/vars.Put
@[reducible] def t_put_1 : Tree := (.wr (.ret (.tup [(.agg [(.int .i64 (.iv 0)), (.int .i64 (.iv 1)), (.slc 0 (.nv 0) (.nv 1)), (.slc 1 (.nv 2) (.nv 3)), (.slc 2 (.nv 4) (.nv 5)), (.slc 3 (.nv 6) (.nv 7))]), (.int .i64 (.il 22))]) [] [] [⟨(.slc 6 (.nv 12) (.nv 13)), (.nv 12), 39, 5, [(.l 1)]⟩]))
@[reducible] def t_put_2 : Tree := (.wr (.ret (.tup [(.agg [(.int .i64 (.iv 0)), (.int .i64 (.iv 1)), (.slc 0 (.nv 0) (.nv 1)), (.slc 1 (.nv 2) (.nv 3)), (.slc 2 (.nv 4) (.nv 5)), (.slc 3 (.nv 6) (.nv 7))]), (.int .i64 (.il 23))]) [] [] [⟨(.slc 6 (.nv 12) (.nv 13)), (.nv 12), 39, 5, [(.l 1)]⟩]))
@[reducible] def t_put_3 : Tree := (.frz [⟨3, 49, [(.str (.tv 0)), (.int .u8 (.iv 4)), (.int .i64 (.iv 5)), (.str (.tv 1))]⟩] (.again 0 [(.int .i64 (.un (.wrap .i64) (.bin .add (.iv 3) (.il 1)))), (.slc 6 (.nv 12) (.nv 13))] [⟨(.slc 6 (.nv 12) (.nv 13)), (.nv 12), 39, 5, [(.l 2)]⟩]))
@[reducible] def t_put_4 : Tree := (.rset [(.l 1)] (.iv 6) 2 5 [(.int .u8 (.iv 4)), (.int .i64 (.iv 5)), (.str (.tv 1))] t_put_3)
@[reducible] def t_put_5 : Tree := (.chk (.sm 6) (.chk (.bin .le (.il 0) (.iv 6)) (.chk (.bin .lt (.iv 6) (.nv 12)) (.rlook 5 (.elt 6 (.iv 6) 5 2) (.int .u8 (.iv 7)) ⟨(.slc 6 (.nv 12) (.nv 13)), (.nv 12), 39, 5, [(.l 1)]⟩ ⟨1, 0, 0, 0, 0, 0, 0, 0⟩ (.callq 37 [(.agg [(.int .u8 (.iv 4)), (.int .i64 (.iv 5)), (.str (.tv 1))]), (.int .u8 (.iv 7))] [] [⟨(.slc 6 (.nv 12) (.nv 13)), (.nv 12), 39, 5, [(.l 1)]⟩] (.bool (.bv 0)) ⟨0, 0, 1, 0, 0, 0, 0, 0⟩ (.grow (.br (.un .not (.bv 0)) t_put_2 t_put_4)))))))
@[reducible] def t_put_6 : Tree := (.new (.wr (.call 35 [(.agg [(.int .i64 (.iv 0)), (.int .i64 (.iv 1)), (.slc 0 (.nv 0) (.nv 1)), (.slc 1 (.nv 2) (.nv 3)), (.slc 6 (.nv 12) (.nv 13)), (.slc 3 (.nv 6) (.nv 7))]), (.int .i64 (.iv 2)), (.str (.tv 0))] [] [⟨(.slc 6 (.nv 12) (.nv 13)), (.nv 12), 39, 5, [(.l 1)]⟩] [] (.int .i64 (.iv 6)) ⟨1, 0, 0, 0, 0, 0, 0, 0⟩ (.br (.bin .lt (.iv 6) (.il 0)) t_put_1 t_put_5))))
@[reducible] def t_put_7 : Tree := (.chk (.sm 4) (.chk (.bin .le (.il 0) (.iv 3)) (.look 49 (.elt 4 (.iv 3) 4 0) (.agg [(.str (.tv 0)), (.int .u8 (.iv 4)), (.int .i64 (.iv 5)), (.str (.tv 1))]) ⟨2, 0, 0, 2, 0, 0, 0, 0⟩ t_put_6)))
@[reducible] def t_put_8 : Tree := (.wr (.ret (.tup [(.agg [(.int .i64 (.iv 0)), (.int .i64 (.iv 1)), (.slc 0 (.nv 0) (.nv 1)), (.slc 1 (.nv 2) (.nv 3)), (.slc 6 (.nv 12) (.nv 13)), (.slc 3 (.nv 6) (.nv 7))]), (.int .i64 (.il 0))]) [] [] [⟨(.slc 6 (.nv 12) (.nv 13)), (.nv 12), 39, 5, [(.l 1)]⟩]))
@[reducible] def t_put_9 : Tree := (.wr (.loop [(.int .i64 (.il 0)), (.slc 5 (.nv 10) (.nv 11))] [⟨(.slc 5 (.nv 10) (.nv 11)), (.nv 10), 39, 5, [(.l 0)]⟩] [(.int .i64 (.iv 3)), (.slc 6 (.nv 12) (.nv 13))] [⟨(.slc 6 (.nv 12) (.nv 13)), (.nv 12), 39, 5, [(.l 1)]⟩] ⟨1, 2, 0, 0, 0, 1, 0, 1⟩ (.br (.bin .lt (.iv 3) (.nv 8)) t_put_7 t_put_8)))
@[reducible] def t_put : Tree :=
(.new (.new (.new (.wr (.callr 36 [(.slc 2 (.nv 4) (.nv 5))] [] [] [] (.slc 5 (.nv 10) (.nv 11)) [⟨(.slc 5 (.nv 10) (.nv 11)), (.nv 10), 39, 5, [(.l 0)]⟩] ⟨0, 2, 0, 0, 0, 1, 0, 1⟩ t_put_9)))))
theorem x_put : xfn Try.prog { ex := false, inl := [], loops := [⟨4, [.tm 19, .rowc 2 4 24]⟩], unroll := [], mu := [], mus := [], stays := [], rowT := [0], rwx := false, nilR := [], rws := [(36, [], [(0, 39, 5)])] } Try.f16 [(.agg [(.int .i64 (.iv 0)), (.int .i64 (.iv 1)), (.slc 0 (.nv 0) (.nv 1)), (.slc 1 (.nv 2) (.nv 3)), (.slc 2 (.nv 4) (.nv 5)), (.slc 3 (.nv 6) (.nv 7))]), (.int .i64 (.iv 2)), (.slc 4 (.nv 8) (.nv 9))] [] [] ⟨3, 10, 0, 0, 0, 5, 0, 0⟩ = some t_put := by kernel_rfl
theorem vc_put (i0 i1 i2 : Int) (n0 n1 n2 n3 n4 n5 n6 n7 n8 n9 : Nat) (a0 a1 a2 a3 a4 : Option Addr) (W : Wd) (R : Ending → World → Prop) (h : t_put.den Try.prog W.w.heap.size R [] { I := [i0, i1, i2], N := [n0, n1, n2, n3, n4, n5, n6, n7, n8, n9], A := [a0, a1, a2, a3, a4] } W) : CallsE Try.prog 16 #[.agg #[.int .i64 i0, .int .i64 i1, .slice a0 n0 n1, .slice a1 n2 n3, .slice a2 n4 n5, .slice a3 n6 n7], .int .i64 i2, .slice a4 n8 n9] W R :=
  fn_calls Try.func16 _ _ { I := [i0, i1, i2], N := [n0, n1, n2, n3, n4, n5, n6, n7, n8, n9], A := [a0, a1, a2, a3, a4] } _ x_put (fun v hv => by cases hv) h

-- callboard/value.May
@[reducible] def t_may_1 : Tree := (.ret (.bool (.bin .band (.bin .ieq (.iv 0) (.il 0)) (.bin .band (.bin .ieq (.iv 1) (.il 0)) (.bin .teq (.tv 0) (.tl []))))) [] [] [])
@[reducible] def t_may_2 : Tree := (.grow (.ret (.bool (.bin .band (.bin .ieq (.iv 0) (.iv 2)) (.bin .band (.bin .ieq (.iv 1) (.iv 3)) (.bin .teq (.tv 0) (.tv 1))))) [] [] []))
@[reducible] def t_may_3 : Tree := (.callq 57 [(.int .i64 (.iv 1))] [] [] (.agg [(.int .u8 (.iv 2)), (.int .i64 (.iv 3)), (.str (.tv 1))]) ⟨2, 0, 0, 1, 0, 0, 0, 0⟩ t_may_2)
@[reducible] def t_may_4 : Tree := (.callq 58 [(.bool (.un .not (.bin .ieq (.iv 1) (.il 0))))] [] [] (.agg [(.int .u8 (.iv 2)), (.int .i64 (.iv 3)), (.str (.tv 1))]) ⟨2, 0, 0, 1, 0, 0, 0, 0⟩ t_may_2)
@[reducible] def t_may_5 : Tree := (.callq 60 [(.str (.tv 0))] [] [] (.bool (.bv 0)) ⟨0, 0, 1, 0, 0, 0, 0, 0⟩ (.grow (.ret (.bool (.bv 0)) [] [] [])))
@[reducible] def t_may_6 : Tree := (.br (.bin .band (.bin .ieq (.iv 0) (.iv 2)) (.bin .band (.bin .ieq (.iv 1) (.iv 3)) (.bin .teq (.tv 0) (.tv 1)))) t_may_5 (.grow (.ret (.bool (.bl false)) [] [] [])))
@[reducible] def t_may_7 : Tree := (.callq 59 [(.str (.tv 0))] [] [] (.agg [(.int .u8 (.iv 2)), (.int .i64 (.iv 3)), (.str (.tv 1))]) ⟨2, 0, 0, 1, 0, 0, 0, 0⟩ t_may_6)
@[reducible] def t_may_8 : Tree := (.br (.bin .ieq (.iv 0) (.il 2)) t_may_4 (.br (.bin .ieq (.iv 0) (.il 3)) t_may_7 (.ret (.bool (.bl false)) [] [] [])))
@[reducible] def t_may : Tree :=
(.new (.br (.bin .ieq (.iv 0) (.il 0)) t_may_1 (.br (.bin .ieq (.iv 0) (.il 1)) t_may_3 t_may_8)))
theorem x_may : xfn Try.prog { ex := false, inl := [60], loops := [], unroll := [], mu := [], mus := [], stays := [], rowT := [0], rwx := false, nilR := [], rws := [] } Try.f50 [(.agg [(.int .u8 (.iv 0)), (.int .i64 (.iv 1)), (.str (.tv 0))])] [] [] ⟨2, 0, 0, 1, 0, 0, 0, 0⟩ = some t_may := by kernel_rfl
theorem vc_may (i0 i1 : Int) (t0 : ByteArray) (W : Wd) (R : Ending → World → Prop) (h : t_may.den Try.prog W.w.heap.size R [] { I := [i0, i1], T := [t0] } W) : CallsE Try.prog 50 #[.agg #[.int .u8 i0, .int .i64 i1, .string t0]] W R :=
  fn_calls Try.func50 _ _ { I := [i0, i1], T := [t0] } _ x_may (fun v hv => by cases hv) h

-- callboard/value.Is
@[reducible] def t_is_1 : Tree := (.call 50 [(.agg [(.int .u8 (.iv 0)), (.int .i64 (.iv 1)), (.str (.tv 0))])] [] [] [] (.bool (.bv 0)) ⟨0, 0, 1, 0, 0, 0, 0, 0⟩ (.ret (.bool (.bv 0)) [] [] []))
@[reducible] def t_is : Tree :=
(.new (.br (.bin .ieq (.iv 0) (.iv 2)) t_is_1 (.ret (.bool (.bl false)) [] [] [])))
theorem x_is : xfn Try.prog { ex := false, inl := [60], loops := [], unroll := [], mu := [], mus := [], stays := [], rowT := [0], rwx := false, nilR := [], rws := [] } Try.f37 [(.agg [(.int .u8 (.iv 0)), (.int .i64 (.iv 1)), (.str (.tv 0))]), (.int .u8 (.iv 2))] [] [] ⟨3, 0, 0, 1, 0, 0, 0, 0⟩ = some t_is := by kernel_rfl
theorem vc_is (i0 i1 i2 : Int) (t0 : ByteArray) (W : Wd) (R : Ending → World → Prop) (h : t_is.den Try.prog W.w.heap.size R [] { I := [i0, i1, i2], T := [t0] } W) : CallsE Try.prog 37 #[.agg #[.int .u8 i0, .int .i64 i1, .string t0], .int .u8 i2] W R :=
  fn_calls Try.func37 _ _ { I := [i0, i1, i2], T := [t0] } _ x_is (fun v hv => by cases hv) h

end Go.Proofs.Ytamnfdmmjjekhaa
