/- What is left to show of functions, as the walk that the kernel computes finds it (written by wip/vc2.py). -/
import Derived.Test.YtijinopghlpdbaaGreatDoorProg
import Derived.Test.YtijinopghlpdbaaGreatDoorSfD
namespace Go.Proofs.YtijinopghlpdbaaGreatDoor
open Go Go.RowKit Go.SF
set_option maxRecDepth 100000

-- callboard/value.numbers
@[reducible] def t_nums5_1 : Tree := (.grow (.grow (.wr (.ret (.tup [(.agg [(.int .u8 (.il 1)), (.int .i64 (.il 0)), (.str (.tl []))]), (.int .i64 (.il 0))]) [] [] []))))
@[reducible] def t_nums5_2 : Tree := (.grow (.wr (.ret (.tup [(.agg [(.int .u8 (.il 0)), (.int .i64 (.il 0)), (.str (.tl []))]), (.int .i64 (.il 20))]) [] [] [])))
@[reducible] def t_nums5_3 : Tree := (.wr (.ret (.tup [(.agg [(.int .u8 (.il 0)), (.int .i64 (.il 0)), (.str (.tl []))]), (.int .i64 (.il 20))]) [] [] []))
@[reducible] def t_nums5_4 : Tree := (.grow (.wr (.ret (.tup [(.agg [(.int .u8 (.il 1)), (.int .i64 (.un (.wrap .i64) (.bin .mul (.iv 0) (.iv 1)))), (.str (.tl []))]), (.int .i64 (.il 0))]) [] [] [])))
@[reducible] def t_nums5_5 : Tree := (.grow (.br (.un .not (.bin .ieq (.un (.wrap .i64) (.bin .quo (.un (.wrap .i64) (.bin .mul (.iv 0) (.iv 1))) (.iv 1))) (.iv 0))) t_nums5_3 t_nums5_4))
@[reducible] def t_nums5_6 : Tree := (.br (.bin .bor (.bin .band (.bin .ieq (.iv 0) (.il (-1))) (.bin .ieq (.iv 1) (.il (-9223372036854775808)))) (.bin .band (.bin .ieq (.iv 1) (.il (-1))) (.bin .ieq (.iv 0) (.il (-9223372036854775808))))) t_nums5_2 t_nums5_5)
@[reducible] def t_nums5 : Tree :=
(.new (.new (.new (.new (.wr (.new (.wr (.br (.bin .bor (.bin .ieq (.iv 0) (.il 0)) (.bin .ieq (.iv 1) (.il 0))) t_nums5_1 t_nums5_6))))))))
theorem x_nums5 : xfn Tryz.prog { ex := false, inl := [24, 25, 29, 26, 65, 64, 66, 67, 68, 69], loops := [], unroll := [], mu := [], mus := [], stays := [], rowT := [], rwx := false, rws := [] } Tryz.f46 [(.int .u8 (.il 5)), (.int .i64 (.iv 0)), (.int .i64 (.iv 1))] [] [] ⟨2, 0, 0, 0, 0, 0, 0, 0⟩ = some t_nums5 := by kernel_rfl
theorem vc_nums5 (i0 i1 : Int) (W : Wd) (R : Ending → World → Prop) (h : t_nums5.den Tryz.prog W.w.heap.size R [] { I := [i0, i1] } W) : CallsE Tryz.prog 46 #[.int .u8 5, .int .i64 i0, .int .i64 i1] W R :=
  fn_calls Tryz.func46 _ _ { I := [i0, i1] } _ x_nums5 (fun v hv => by cases hv) h

-- callboard/value.numbers
@[reducible] def t_nums6_1 : Tree := (.wr (.ret (.tup [(.agg [(.int .u8 (.il 0)), (.int .i64 (.il 0)), (.str (.tl []))]), (.int .i64 (.il 21))]) [] [] []))
@[reducible] def t_nums6_2 : Tree := (.wr (.ret (.tup [(.agg [(.int .u8 (.il 0)), (.int .i64 (.il 0)), (.str (.tl []))]), (.int .i64 (.il 20))]) [] [] []))
@[reducible] def t_nums6_3 : Tree := (.grow (.wr (.ret (.tup [(.agg [(.int .u8 (.il 1)), (.int .i64 (.un (.wrap .i64) (.bin .quo (.iv 0) (.iv 1)))), (.str (.tl []))]), (.int .i64 (.il 0))]) [] [] [])))
@[reducible] def t_nums6_4 : Tree := (.new (.wr (.new (.wr (.grow (.br (.un .not (.bin .bor (.un .not (.bin .ieq (.iv 0) (.il (-9223372036854775808)))) (.un .not (.bin .ieq (.iv 1) (.il (-1)))))) t_nums6_2 t_nums6_3))))))
@[reducible] def t_nums6 : Tree :=
(.new (.new (.new (.br (.bin .ieq (.iv 1) (.il 0)) t_nums6_1 t_nums6_4))))
theorem x_nums6 : xfn Tryz.prog { ex := false, inl := [24, 25, 29, 26, 65, 64, 66, 67, 68, 69], loops := [], unroll := [], mu := [], mus := [], stays := [], rowT := [], rwx := false, rws := [] } Tryz.f46 [(.int .u8 (.il 6)), (.int .i64 (.iv 0)), (.int .i64 (.iv 1))] [] [] ⟨2, 0, 0, 0, 0, 0, 0, 0⟩ = some t_nums6 := by kernel_rfl
theorem vc_nums6 (i0 i1 : Int) (W : Wd) (R : Ending → World → Prop) (h : t_nums6.den Tryz.prog W.w.heap.size R [] { I := [i0, i1] } W) : CallsE Tryz.prog 46 #[.int .u8 6, .int .i64 i0, .int .i64 i1] W R :=
  fn_calls Tryz.func46 _ _ { I := [i0, i1] } _ x_nums6 (fun v hv => by cases hv) h

-- callboard/value.numbers
@[reducible] def t_nums7_1 : Tree := (.wr (.ret (.tup [(.agg [(.int .u8 (.il 0)), (.int .i64 (.il 0)), (.str (.tl []))]), (.int .i64 (.il 21))]) [] [] []))
@[reducible] def t_nums7_2 : Tree := (.wr (.ret (.tup [(.agg [(.int .u8 (.il 0)), (.int .i64 (.il 0)), (.str (.tl []))]), (.int .i64 (.il 20))]) [] [] []))
@[reducible] def t_nums7_3 : Tree := (.grow (.wr (.ret (.tup [(.agg [(.int .u8 (.il 1)), (.int .i64 (.bin .rem (.iv 0) (.iv 1))), (.str (.tl []))]), (.int .i64 (.il 0))]) [] [] [])))
@[reducible] def t_nums7_4 : Tree := (.new (.wr (.new (.wr (.grow (.br (.un .not (.bin .bor (.un .not (.bin .ieq (.iv 0) (.il (-9223372036854775808)))) (.un .not (.bin .ieq (.iv 1) (.il (-1)))))) t_nums7_2 t_nums7_3))))))
@[reducible] def t_nums7 : Tree :=
(.new (.new (.new (.br (.bin .ieq (.iv 1) (.il 0)) t_nums7_1 t_nums7_4))))
theorem x_nums7 : xfn Tryz.prog { ex := false, inl := [24, 25, 29, 26, 65, 64, 66, 67, 68, 69], loops := [], unroll := [], mu := [], mus := [], stays := [], rowT := [], rwx := false, rws := [] } Tryz.f46 [(.int .u8 (.il 7)), (.int .i64 (.iv 0)), (.int .i64 (.iv 1))] [] [] ⟨2, 0, 0, 0, 0, 0, 0, 0⟩ = some t_nums7 := by kernel_rfl
theorem vc_nums7 (i0 i1 : Int) (W : Wd) (R : Ending → World → Prop) (h : t_nums7.den Tryz.prog W.w.heap.size R [] { I := [i0, i1] } W) : CallsE Tryz.prog 46 #[.int .u8 7, .int .i64 i0, .int .i64 i1] W R :=
  fn_calls Tryz.func46 _ _ { I := [i0, i1] } _ x_nums7 (fun v hv => by cases hv) h

-- callboard/value.numbers
@[reducible] def t_nums8_1 : Tree := (.wr (.ret (.tup [(.agg [(.int .u8 (.il 0)), (.int .i64 (.il 0)), (.str (.tl []))]), (.int .i64 (.il 20))]) [] [] []))
@[reducible] def t_nums8_2 : Tree := (.grow (.wr (.ret (.tup [(.agg [(.int .u8 (.il 1)), (.int .i64 (.un (.wrap .i64) (.bin .add (.iv 0) (.iv 1)))), (.str (.tl []))]), (.int .i64 (.il 0))]) [] [] [])))
@[reducible] def t_nums8 : Tree :=
(.new (.new (.new (.new (.wr (.new (.wr (.grow (.br (.un .not (.bin .beq (.bin .lt (.un (.wrap .i64) (.bin .add (.iv 0) (.iv 1))) (.iv 0)) (.bin .lt (.iv 1) (.il 0)))) t_nums8_1 t_nums8_2)))))))))
theorem x_nums8 : xfn Tryz.prog { ex := false, inl := [24, 25, 29, 26, 65, 64, 66, 67, 68, 69], loops := [], unroll := [], mu := [], mus := [], stays := [], rowT := [], rwx := false, rws := [] } Tryz.f46 [(.int .u8 (.il 8)), (.int .i64 (.iv 0)), (.int .i64 (.iv 1))] [] [] ⟨2, 0, 0, 0, 0, 0, 0, 0⟩ = some t_nums8 := by kernel_rfl
theorem vc_nums8 (i0 i1 : Int) (W : Wd) (R : Ending → World → Prop) (h : t_nums8.den Tryz.prog W.w.heap.size R [] { I := [i0, i1] } W) : CallsE Tryz.prog 46 #[.int .u8 8, .int .i64 i0, .int .i64 i1] W R :=
  fn_calls Tryz.func46 _ _ { I := [i0, i1] } _ x_nums8 (fun v hv => by cases hv) h

-- callboard/value.numbers
@[reducible] def t_nums15_1 : Tree := (.wr (.ret (.tup [(.agg [(.int .u8 (.il 0)), (.int .i64 (.il 0)), (.str (.tl []))]), (.int .i64 (.il 20))]) [] [] []))
@[reducible] def t_nums15_2 : Tree := (.grow (.wr (.ret (.tup [(.agg [(.int .u8 (.il 1)), (.int .i64 (.un (.wrap .i64) (.bin .sub (.iv 0) (.iv 1)))), (.str (.tl []))]), (.int .i64 (.il 0))]) [] [] [])))
@[reducible] def t_nums15 : Tree :=
(.new (.new (.new (.new (.wr (.new (.wr (.grow (.br (.un .not (.bin .beq (.bin .lt (.iv 0) (.un (.wrap .i64) (.bin .sub (.iv 0) (.iv 1)))) (.bin .lt (.iv 1) (.il 0)))) t_nums15_1 t_nums15_2)))))))))
theorem x_nums15 : xfn Tryz.prog { ex := false, inl := [24, 25, 29, 26, 65, 64, 66, 67, 68, 69], loops := [], unroll := [], mu := [], mus := [], stays := [], rowT := [], rwx := false, rws := [] } Tryz.f46 [(.int .u8 (.il 15)), (.int .i64 (.iv 0)), (.int .i64 (.iv 1))] [] [] ⟨2, 0, 0, 0, 0, 0, 0, 0⟩ = some t_nums15 := by kernel_rfl
theorem vc_nums15 (i0 i1 : Int) (W : Wd) (R : Ending → World → Prop) (h : t_nums15.den Tryz.prog W.w.heap.size R [] { I := [i0, i1] } W) : CallsE Tryz.prog 46 #[.int .u8 15, .int .i64 i0, .int .i64 i1] W R :=
  fn_calls Tryz.func46 _ _ { I := [i0, i1] } _ x_nums15 (fun v hv => by cases hv) h

-- callboard/value.order
@[reducible] def t_order_1 : Tree := (.call 70 [(.str (.tv 0)), (.str (.tv 1))] [] [] [] (.int .i64 (.iv 4)) ⟨1, 0, 0, 0, 0, 0, 0, 0⟩ (.ret (.int .i64 (.iv 4)) [] [] []))
@[reducible] def t_order_2 : Tree := (.br (.bin .lt (.iv 3) (.iv 1)) (.ret (.int .i64 (.il 1)) [] [] []) (.ret (.int .i64 (.il 0)) [] [] []))
@[reducible] def t_order : Tree :=
(.new (.new (.br (.bin .ieq (.iv 0) (.il 3)) t_order_1 (.br (.bin .lt (.iv 1) (.iv 3)) (.ret (.int .i64 (.il (-1))) [] [] []) t_order_2))))
theorem x_order : xfn Tryz.prog { ex := false, inl := [24, 25, 29, 26, 65, 64, 66, 67, 68, 69], loops := [], unroll := [], mu := [], mus := [], stays := [], rowT := [], rwx := false, rws := [] } Tryz.f47 [(.agg [(.int .u8 (.iv 0)), (.int .i64 (.iv 1)), (.str (.tv 0))]), (.agg [(.int .u8 (.iv 2)), (.int .i64 (.iv 3)), (.str (.tv 1))])] [] [] ⟨4, 0, 0, 2, 0, 0, 0, 0⟩ = some t_order := by kernel_rfl
theorem vc_order (i0 i1 i2 i3 : Int) (t0 t1 : ByteArray) (W : Wd) (R : Ending → World → Prop) (h : t_order.den Tryz.prog W.w.heap.size R [] { I := [i0, i1, i2, i3], T := [t0, t1] } W) : CallsE Tryz.prog 47 #[.agg #[.int .u8 i0, .int .i64 i1, .string t0], .agg #[.int .u8 i2, .int .i64 i3, .string t1]] W R :=
  fn_calls Tryz.func47 _ _ { I := [i0, i1, i2, i3], T := [t0, t1] } _ x_order (fun v hv => by cases hv) h

-- callboard/value.equal
@[reducible] def t_equal_1 : Tree := (.grow (.ret (.bool (.bin .beq (.bin .band (.bin .ieq (.iv 0) (.il 2)) (.un .not (.bin .ieq (.iv 1) (.il 0)))) (.bin .band (.bin .ieq (.iv 2) (.il 2)) (.un .not (.bin .ieq (.iv 3) (.il 0)))))) [] [] []))
@[reducible] def t_equal_2 : Tree := (.call 47 [(.agg [(.int .u8 (.iv 0)), (.int .i64 (.iv 1)), (.str (.tv 0))]), (.agg [(.int .u8 (.iv 2)), (.int .i64 (.iv 3)), (.str (.tv 1))])] [] [] [] (.int .i64 (.iv 4)) ⟨1, 0, 0, 0, 0, 0, 0, 0⟩ (.ret (.bool (.bin .ieq (.iv 4) (.il 0))) [] [] []))
@[reducible] def t_equal : Tree :=
(.new (.new (.br (.bin .ieq (.iv 0) (.il 2)) t_equal_1 t_equal_2)))
theorem x_equal : xfn Tryz.prog { ex := false, inl := [24, 25, 29, 26, 65, 64, 66, 67, 68, 69], loops := [], unroll := [], mu := [], mus := [], stays := [], rowT := [], rwx := false, rws := [] } Tryz.f48 [(.agg [(.int .u8 (.iv 0)), (.int .i64 (.iv 1)), (.str (.tv 0))]), (.agg [(.int .u8 (.iv 2)), (.int .i64 (.iv 3)), (.str (.tv 1))])] [] [] ⟨4, 0, 0, 2, 0, 0, 0, 0⟩ = some t_equal := by kernel_rfl
theorem vc_equal (i0 i1 i2 i3 : Int) (t0 t1 : ByteArray) (W : Wd) (R : Ending → World → Prop) (h : t_equal.den Tryz.prog W.w.heap.size R [] { I := [i0, i1, i2, i3], T := [t0, t1] } W) : CallsE Tryz.prog 48 #[.agg #[.int .u8 i0, .int .i64 i1, .string t0], .agg #[.int .u8 i2, .int .i64 i3, .string t1]] W R :=
  fn_calls Tryz.func48 _ _ { I := [i0, i1, i2, i3], T := [t0, t1] } _ x_equal (fun v hv => by cases hv) h

-- callboard/value.Two
@[reducible] def t_two5_1 : Tree := (.wr (.ret (.tup [(.agg [(.int .u8 (.il 0)), (.int .i64 (.il 0)), (.str (.tl []))]), (.int .i64 (.il 23))]) [] [] []))
@[reducible] def t_two5_2 : Tree := (.wr (.ret (.tup [(.agg [(.int .u8 (.iv 4)), (.int .i64 (.iv 5)), (.str (.tv 2))]), (.int .i64 (.iv 6))]) [] [] []))
@[reducible] def t_two5_3 : Tree := (.call 46 [(.int .u8 (.il 5)), (.int .i64 (.iv 1)), (.int .i64 (.iv 3))] [] [] [] (.tup [(.agg [(.int .u8 (.iv 4)), (.int .i64 (.iv 5)), (.str (.tv 2))]), (.int .i64 (.iv 6))]) ⟨3, 0, 0, 1, 0, 0, 0, 0⟩ t_two5_2)
@[reducible] def t_two5 : Tree :=
(.new (.new (.new (.br (.un .not (.bin .band (.bin .ieq (.iv 0) (.il 1)) (.bin .ieq (.iv 2) (.il 1)))) t_two5_1 t_two5_3))))
theorem x_two5 : xfn Tryz.prog { ex := false, inl := [24, 25, 29, 26, 65, 64, 66, 67, 68, 69], loops := [], unroll := [], mu := [], mus := [], stays := [], rowT := [], rwx := false, rws := [] } Tryz.f30 [(.int .u8 (.il 5)), (.agg [(.int .u8 (.iv 0)), (.int .i64 (.iv 1)), (.str (.tv 0))]), (.agg [(.int .u8 (.iv 2)), (.int .i64 (.iv 3)), (.str (.tv 1))])] [] [] ⟨4, 0, 0, 2, 0, 0, 0, 0⟩ = some t_two5 := by kernel_rfl
theorem vc_two5 (i0 i1 i2 i3 : Int) (t0 t1 : ByteArray) (W : Wd) (R : Ending → World → Prop) (h : t_two5.den Tryz.prog W.w.heap.size R [] { I := [i0, i1, i2, i3], T := [t0, t1] } W) : CallsE Tryz.prog 30 #[.int .u8 5, .agg #[.int .u8 i0, .int .i64 i1, .string t0], .agg #[.int .u8 i2, .int .i64 i3, .string t1]] W R :=
  fn_calls Tryz.func30 _ _ { I := [i0, i1, i2, i3], T := [t0, t1] } _ x_two5 (fun v hv => by cases hv) h

-- callboard/value.Two
@[reducible] def t_two6_1 : Tree := (.wr (.ret (.tup [(.agg [(.int .u8 (.il 0)), (.int .i64 (.il 0)), (.str (.tl []))]), (.int .i64 (.il 23))]) [] [] []))
@[reducible] def t_two6_2 : Tree := (.wr (.ret (.tup [(.agg [(.int .u8 (.iv 4)), (.int .i64 (.iv 5)), (.str (.tv 2))]), (.int .i64 (.iv 6))]) [] [] []))
@[reducible] def t_two6_3 : Tree := (.call 46 [(.int .u8 (.il 6)), (.int .i64 (.iv 1)), (.int .i64 (.iv 3))] [] [] [] (.tup [(.agg [(.int .u8 (.iv 4)), (.int .i64 (.iv 5)), (.str (.tv 2))]), (.int .i64 (.iv 6))]) ⟨3, 0, 0, 1, 0, 0, 0, 0⟩ t_two6_2)
@[reducible] def t_two6 : Tree :=
(.new (.new (.new (.br (.un .not (.bin .band (.bin .ieq (.iv 0) (.il 1)) (.bin .ieq (.iv 2) (.il 1)))) t_two6_1 t_two6_3))))
theorem x_two6 : xfn Tryz.prog { ex := false, inl := [24, 25, 29, 26, 65, 64, 66, 67, 68, 69], loops := [], unroll := [], mu := [], mus := [], stays := [], rowT := [], rwx := false, rws := [] } Tryz.f30 [(.int .u8 (.il 6)), (.agg [(.int .u8 (.iv 0)), (.int .i64 (.iv 1)), (.str (.tv 0))]), (.agg [(.int .u8 (.iv 2)), (.int .i64 (.iv 3)), (.str (.tv 1))])] [] [] ⟨4, 0, 0, 2, 0, 0, 0, 0⟩ = some t_two6 := by kernel_rfl
theorem vc_two6 (i0 i1 i2 i3 : Int) (t0 t1 : ByteArray) (W : Wd) (R : Ending → World → Prop) (h : t_two6.den Tryz.prog W.w.heap.size R [] { I := [i0, i1, i2, i3], T := [t0, t1] } W) : CallsE Tryz.prog 30 #[.int .u8 6, .agg #[.int .u8 i0, .int .i64 i1, .string t0], .agg #[.int .u8 i2, .int .i64 i3, .string t1]] W R :=
  fn_calls Tryz.func30 _ _ { I := [i0, i1, i2, i3], T := [t0, t1] } _ x_two6 (fun v hv => by cases hv) h

-- callboard/value.Two
@[reducible] def t_two7_1 : Tree := (.wr (.ret (.tup [(.agg [(.int .u8 (.il 0)), (.int .i64 (.il 0)), (.str (.tl []))]), (.int .i64 (.il 23))]) [] [] []))
@[reducible] def t_two7_2 : Tree := (.wr (.ret (.tup [(.agg [(.int .u8 (.iv 4)), (.int .i64 (.iv 5)), (.str (.tv 2))]), (.int .i64 (.iv 6))]) [] [] []))
@[reducible] def t_two7_3 : Tree := (.call 46 [(.int .u8 (.il 7)), (.int .i64 (.iv 1)), (.int .i64 (.iv 3))] [] [] [] (.tup [(.agg [(.int .u8 (.iv 4)), (.int .i64 (.iv 5)), (.str (.tv 2))]), (.int .i64 (.iv 6))]) ⟨3, 0, 0, 1, 0, 0, 0, 0⟩ t_two7_2)
@[reducible] def t_two7 : Tree :=
(.new (.new (.new (.br (.un .not (.bin .band (.bin .ieq (.iv 0) (.il 1)) (.bin .ieq (.iv 2) (.il 1)))) t_two7_1 t_two7_3))))
theorem x_two7 : xfn Tryz.prog { ex := false, inl := [24, 25, 29, 26, 65, 64, 66, 67, 68, 69], loops := [], unroll := [], mu := [], mus := [], stays := [], rowT := [], rwx := false, rws := [] } Tryz.f30 [(.int .u8 (.il 7)), (.agg [(.int .u8 (.iv 0)), (.int .i64 (.iv 1)), (.str (.tv 0))]), (.agg [(.int .u8 (.iv 2)), (.int .i64 (.iv 3)), (.str (.tv 1))])] [] [] ⟨4, 0, 0, 2, 0, 0, 0, 0⟩ = some t_two7 := by kernel_rfl
theorem vc_two7 (i0 i1 i2 i3 : Int) (t0 t1 : ByteArray) (W : Wd) (R : Ending → World → Prop) (h : t_two7.den Tryz.prog W.w.heap.size R [] { I := [i0, i1, i2, i3], T := [t0, t1] } W) : CallsE Tryz.prog 30 #[.int .u8 7, .agg #[.int .u8 i0, .int .i64 i1, .string t0], .agg #[.int .u8 i2, .int .i64 i3, .string t1]] W R :=
  fn_calls Tryz.func30 _ _ { I := [i0, i1, i2, i3], T := [t0, t1] } _ x_two7 (fun v hv => by cases hv) h

-- callboard/value.Two
@[reducible] def t_two8_1 : Tree := (.wr (.ret (.tup [(.agg [(.int .u8 (.il 0)), (.int .i64 (.il 0)), (.str (.tl []))]), (.int .i64 (.il 23))]) [] [] []))
@[reducible] def t_two8_2 : Tree := (.wr (.ret (.tup [(.agg [(.int .u8 (.iv 4)), (.int .i64 (.iv 5)), (.str (.tv 2))]), (.int .i64 (.iv 6))]) [] [] []))
@[reducible] def t_two8_3 : Tree := (.call 46 [(.int .u8 (.il 8)), (.int .i64 (.iv 1)), (.int .i64 (.iv 3))] [] [] [] (.tup [(.agg [(.int .u8 (.iv 4)), (.int .i64 (.iv 5)), (.str (.tv 2))]), (.int .i64 (.iv 6))]) ⟨3, 0, 0, 1, 0, 0, 0, 0⟩ t_two8_2)
@[reducible] def t_two8_4 : Tree := (.wr (.ret (.tup [(.agg [(.int .u8 (.il 0)), (.int .i64 (.il 0)), (.str (.tl []))]), (.int .i64 (.il 20))]) [] [] []))
@[reducible] def t_two8_5 : Tree := (.chk (.bin .le (.bin .add (.un .len (.tv 0)) (.un .len (.tv 1))) (.il 9223372036854775807)) (.grow (.wr (.ret (.tup [(.agg [(.int .u8 (.il 3)), (.int .i64 (.il 0)), (.str (.bin .cat (.tv 0) (.tv 1)))]), (.int .i64 (.il 0))]) [] [] []))))
@[reducible] def t_two8_6 : Tree := (.br (.bin .bor (.bin .lt (.il 40) (.un .len (.tv 0))) (.bin .lt (.un (.wrap .i64) (.bin .sub (.il 40) (.un .len (.tv 0)))) (.un .len (.tv 1)))) t_two8_4 t_two8_5)
@[reducible] def t_two8_7 : Tree := (.br (.un .not (.bin .band (.bin .ieq (.iv 0) (.il 3)) (.bin .ieq (.iv 2) (.il 3)))) t_two8_3 t_two8_6)
@[reducible] def t_two8 : Tree :=
(.new (.new (.new (.br (.un .not (.bin .bor (.bin .band (.bin .ieq (.iv 0) (.il 1)) (.bin .ieq (.iv 2) (.il 1))) (.bin .band (.bin .ieq (.iv 0) (.il 3)) (.bin .ieq (.iv 2) (.il 3))))) t_two8_1 t_two8_7))))
theorem x_two8 : xfn Tryz.prog { ex := false, inl := [24, 25, 29, 26, 65, 64, 66, 67, 68, 69], loops := [], unroll := [], mu := [], mus := [], stays := [], rowT := [], rwx := false, rws := [] } Tryz.f30 [(.int .u8 (.il 8)), (.agg [(.int .u8 (.iv 0)), (.int .i64 (.iv 1)), (.str (.tv 0))]), (.agg [(.int .u8 (.iv 2)), (.int .i64 (.iv 3)), (.str (.tv 1))])] [] [] ⟨4, 0, 0, 2, 0, 0, 0, 0⟩ = some t_two8 := by kernel_rfl
theorem vc_two8 (i0 i1 i2 i3 : Int) (t0 t1 : ByteArray) (W : Wd) (R : Ending → World → Prop) (h : t_two8.den Tryz.prog W.w.heap.size R [] { I := [i0, i1, i2, i3], T := [t0, t1] } W) : CallsE Tryz.prog 30 #[.int .u8 8, .agg #[.int .u8 i0, .int .i64 i1, .string t0], .agg #[.int .u8 i2, .int .i64 i3, .string t1]] W R :=
  fn_calls Tryz.func30 _ _ { I := [i0, i1, i2, i3], T := [t0, t1] } _ x_two8 (fun v hv => by cases hv) h

-- callboard/value.Two
@[reducible] def t_two9_1 : Tree := (.wr (.ret (.tup [(.agg [(.int .u8 (.il 0)), (.int .i64 (.il 0)), (.str (.tl []))]), (.int .i64 (.il 23))]) [] [] []))
@[reducible] def t_two9_2 : Tree := (.grow (.wr (.ret (.tup [(.agg [(.int .u8 (.il 2)), (.int .i64 (.il 1)), (.str (.tl []))]), (.int .i64 (.il 0))]) [] [] [])))
@[reducible] def t_two9_3 : Tree := (.grow (.wr (.ret (.tup [(.agg [(.int .u8 (.il 2)), (.int .i64 (.il 0)), (.str (.tl []))]), (.int .i64 (.il 0))]) [] [] [])))
@[reducible] def t_two9_4 : Tree := (.call 47 [(.agg [(.int .u8 (.iv 0)), (.int .i64 (.iv 1)), (.str (.tv 0))]), (.agg [(.int .u8 (.iv 2)), (.int .i64 (.iv 3)), (.str (.tv 1))])] [] [] [] (.int .i64 (.iv 4)) ⟨1, 0, 0, 0, 0, 0, 0, 0⟩ (.br (.bin .lt (.iv 4) (.il 0)) t_two9_2 t_two9_3))
@[reducible] def t_two9 : Tree :=
(.new (.new (.new (.br (.un .not (.bin .bor (.bin .band (.bin .ieq (.iv 0) (.il 1)) (.bin .ieq (.iv 2) (.il 1))) (.bin .band (.bin .ieq (.iv 0) (.il 3)) (.bin .ieq (.iv 2) (.il 3))))) t_two9_1 t_two9_4))))
theorem x_two9 : xfn Tryz.prog { ex := false, inl := [24, 25, 29, 26, 65, 64, 66, 67, 68, 69], loops := [], unroll := [], mu := [], mus := [], stays := [], rowT := [], rwx := false, rws := [] } Tryz.f30 [(.int .u8 (.il 9)), (.agg [(.int .u8 (.iv 0)), (.int .i64 (.iv 1)), (.str (.tv 0))]), (.agg [(.int .u8 (.iv 2)), (.int .i64 (.iv 3)), (.str (.tv 1))])] [] [] ⟨4, 0, 0, 2, 0, 0, 0, 0⟩ = some t_two9 := by kernel_rfl
theorem vc_two9 (i0 i1 i2 i3 : Int) (t0 t1 : ByteArray) (W : Wd) (R : Ending → World → Prop) (h : t_two9.den Tryz.prog W.w.heap.size R [] { I := [i0, i1, i2, i3], T := [t0, t1] } W) : CallsE Tryz.prog 30 #[.int .u8 9, .agg #[.int .u8 i0, .int .i64 i1, .string t0], .agg #[.int .u8 i2, .int .i64 i3, .string t1]] W R :=
  fn_calls Tryz.func30 _ _ { I := [i0, i1, i2, i3], T := [t0, t1] } _ x_two9 (fun v hv => by cases hv) h

-- callboard/value.Two
@[reducible] def t_two10_1 : Tree := (.wr (.ret (.tup [(.agg [(.int .u8 (.il 0)), (.int .i64 (.il 0)), (.str (.tl []))]), (.int .i64 (.il 23))]) [] [] []))
@[reducible] def t_two10_2 : Tree := (.grow (.wr (.ret (.tup [(.agg [(.int .u8 (.il 2)), (.int .i64 (.il 1)), (.str (.tl []))]), (.int .i64 (.il 0))]) [] [] [])))
@[reducible] def t_two10_3 : Tree := (.grow (.wr (.ret (.tup [(.agg [(.int .u8 (.il 2)), (.int .i64 (.il 0)), (.str (.tl []))]), (.int .i64 (.il 0))]) [] [] [])))
@[reducible] def t_two10_4 : Tree := (.call 47 [(.agg [(.int .u8 (.iv 0)), (.int .i64 (.iv 1)), (.str (.tv 0))]), (.agg [(.int .u8 (.iv 2)), (.int .i64 (.iv 3)), (.str (.tv 1))])] [] [] [] (.int .i64 (.iv 4)) ⟨1, 0, 0, 0, 0, 0, 0, 0⟩ (.br (.bin .le (.iv 4) (.il 0)) t_two10_2 t_two10_3))
@[reducible] def t_two10 : Tree :=
(.new (.new (.new (.br (.un .not (.bin .bor (.bin .band (.bin .ieq (.iv 0) (.il 1)) (.bin .ieq (.iv 2) (.il 1))) (.bin .band (.bin .ieq (.iv 0) (.il 3)) (.bin .ieq (.iv 2) (.il 3))))) t_two10_1 t_two10_4))))
theorem x_two10 : xfn Tryz.prog { ex := false, inl := [24, 25, 29, 26, 65, 64, 66, 67, 68, 69], loops := [], unroll := [], mu := [], mus := [], stays := [], rowT := [], rwx := false, rws := [] } Tryz.f30 [(.int .u8 (.il 10)), (.agg [(.int .u8 (.iv 0)), (.int .i64 (.iv 1)), (.str (.tv 0))]), (.agg [(.int .u8 (.iv 2)), (.int .i64 (.iv 3)), (.str (.tv 1))])] [] [] ⟨4, 0, 0, 2, 0, 0, 0, 0⟩ = some t_two10 := by kernel_rfl
theorem vc_two10 (i0 i1 i2 i3 : Int) (t0 t1 : ByteArray) (W : Wd) (R : Ending → World → Prop) (h : t_two10.den Tryz.prog W.w.heap.size R [] { I := [i0, i1, i2, i3], T := [t0, t1] } W) : CallsE Tryz.prog 30 #[.int .u8 10, .agg #[.int .u8 i0, .int .i64 i1, .string t0], .agg #[.int .u8 i2, .int .i64 i3, .string t1]] W R :=
  fn_calls Tryz.func30 _ _ { I := [i0, i1, i2, i3], T := [t0, t1] } _ x_two10 (fun v hv => by cases hv) h

-- callboard/value.Two
@[reducible] def t_two11_1 : Tree := (.wr (.ret (.tup [(.agg [(.int .u8 (.il 0)), (.int .i64 (.il 0)), (.str (.tl []))]), (.int .i64 (.il 23))]) [] [] []))
@[reducible] def t_two11_2 : Tree := (.grow (.wr (.ret (.tup [(.agg [(.int .u8 (.il 2)), (.int .i64 (.il 1)), (.str (.tl []))]), (.int .i64 (.il 0))]) [] [] [])))
@[reducible] def t_two11_3 : Tree := (.grow (.wr (.ret (.tup [(.agg [(.int .u8 (.il 2)), (.int .i64 (.il 0)), (.str (.tl []))]), (.int .i64 (.il 0))]) [] [] [])))
@[reducible] def t_two11_4 : Tree := (.call 48 [(.agg [(.int .u8 (.iv 0)), (.int .i64 (.iv 1)), (.str (.tv 0))]), (.agg [(.int .u8 (.iv 2)), (.int .i64 (.iv 3)), (.str (.tv 1))])] [] [] [] (.bool (.bv 0)) ⟨0, 0, 1, 0, 0, 0, 0, 0⟩ (.br (.bin .beq (.bv 0) (.bl true)) t_two11_2 t_two11_3))
@[reducible] def t_two11 : Tree :=
(.new (.new (.new (.br (.un .not (.bin .bor (.bin .bor (.bin .band (.bin .ieq (.iv 0) (.il 1)) (.bin .ieq (.iv 2) (.il 1))) (.bin .band (.bin .ieq (.iv 0) (.il 3)) (.bin .ieq (.iv 2) (.il 3)))) (.bin .band (.bin .ieq (.iv 0) (.il 2)) (.bin .ieq (.iv 2) (.il 2))))) t_two11_1 t_two11_4))))
theorem x_two11 : xfn Tryz.prog { ex := false, inl := [24, 25, 29, 26, 65, 64, 66, 67, 68, 69], loops := [], unroll := [], mu := [], mus := [], stays := [], rowT := [], rwx := false, rws := [] } Tryz.f30 [(.int .u8 (.il 11)), (.agg [(.int .u8 (.iv 0)), (.int .i64 (.iv 1)), (.str (.tv 0))]), (.agg [(.int .u8 (.iv 2)), (.int .i64 (.iv 3)), (.str (.tv 1))])] [] [] ⟨4, 0, 0, 2, 0, 0, 0, 0⟩ = some t_two11 := by kernel_rfl
theorem vc_two11 (i0 i1 i2 i3 : Int) (t0 t1 : ByteArray) (W : Wd) (R : Ending → World → Prop) (h : t_two11.den Tryz.prog W.w.heap.size R [] { I := [i0, i1, i2, i3], T := [t0, t1] } W) : CallsE Tryz.prog 30 #[.int .u8 11, .agg #[.int .u8 i0, .int .i64 i1, .string t0], .agg #[.int .u8 i2, .int .i64 i3, .string t1]] W R :=
  fn_calls Tryz.func30 _ _ { I := [i0, i1, i2, i3], T := [t0, t1] } _ x_two11 (fun v hv => by cases hv) h

-- callboard/value.Two
@[reducible] def t_two12_1 : Tree := (.wr (.ret (.tup [(.agg [(.int .u8 (.il 0)), (.int .i64 (.il 0)), (.str (.tl []))]), (.int .i64 (.il 23))]) [] [] []))
@[reducible] def t_two12_2 : Tree := (.grow (.wr (.ret (.tup [(.agg [(.int .u8 (.il 2)), (.int .i64 (.il 1)), (.str (.tl []))]), (.int .i64 (.il 0))]) [] [] [])))
@[reducible] def t_two12_3 : Tree := (.grow (.wr (.ret (.tup [(.agg [(.int .u8 (.il 2)), (.int .i64 (.il 0)), (.str (.tl []))]), (.int .i64 (.il 0))]) [] [] [])))
@[reducible] def t_two12_4 : Tree := (.call 48 [(.agg [(.int .u8 (.iv 0)), (.int .i64 (.iv 1)), (.str (.tv 0))]), (.agg [(.int .u8 (.iv 2)), (.int .i64 (.iv 3)), (.str (.tv 1))])] [] [] [] (.bool (.bv 0)) ⟨0, 0, 1, 0, 0, 0, 0, 0⟩ (.br (.bin .beq (.bv 0) (.bl false)) t_two12_2 t_two12_3))
@[reducible] def t_two12 : Tree :=
(.new (.new (.new (.br (.un .not (.bin .bor (.bin .bor (.bin .band (.bin .ieq (.iv 0) (.il 1)) (.bin .ieq (.iv 2) (.il 1))) (.bin .band (.bin .ieq (.iv 0) (.il 3)) (.bin .ieq (.iv 2) (.il 3)))) (.bin .band (.bin .ieq (.iv 0) (.il 2)) (.bin .ieq (.iv 2) (.il 2))))) t_two12_1 t_two12_4))))
theorem x_two12 : xfn Tryz.prog { ex := false, inl := [24, 25, 29, 26, 65, 64, 66, 67, 68, 69], loops := [], unroll := [], mu := [], mus := [], stays := [], rowT := [], rwx := false, rws := [] } Tryz.f30 [(.int .u8 (.il 12)), (.agg [(.int .u8 (.iv 0)), (.int .i64 (.iv 1)), (.str (.tv 0))]), (.agg [(.int .u8 (.iv 2)), (.int .i64 (.iv 3)), (.str (.tv 1))])] [] [] ⟨4, 0, 0, 2, 0, 0, 0, 0⟩ = some t_two12 := by kernel_rfl
theorem vc_two12 (i0 i1 i2 i3 : Int) (t0 t1 : ByteArray) (W : Wd) (R : Ending → World → Prop) (h : t_two12.den Tryz.prog W.w.heap.size R [] { I := [i0, i1, i2, i3], T := [t0, t1] } W) : CallsE Tryz.prog 30 #[.int .u8 12, .agg #[.int .u8 i0, .int .i64 i1, .string t0], .agg #[.int .u8 i2, .int .i64 i3, .string t1]] W R :=
  fn_calls Tryz.func30 _ _ { I := [i0, i1, i2, i3], T := [t0, t1] } _ x_two12 (fun v hv => by cases hv) h

-- callboard/value.Two
@[reducible] def t_two13_1 : Tree := (.wr (.ret (.tup [(.agg [(.int .u8 (.il 0)), (.int .i64 (.il 0)), (.str (.tl []))]), (.int .i64 (.il 23))]) [] [] []))
@[reducible] def t_two13_2 : Tree := (.grow (.wr (.ret (.tup [(.agg [(.int .u8 (.il 2)), (.int .i64 (.il 1)), (.str (.tl []))]), (.int .i64 (.il 0))]) [] [] [])))
@[reducible] def t_two13_3 : Tree := (.grow (.wr (.ret (.tup [(.agg [(.int .u8 (.il 2)), (.int .i64 (.il 0)), (.str (.tl []))]), (.int .i64 (.il 0))]) [] [] [])))
@[reducible] def t_two13_4 : Tree := (.grow (.br (.bin .band (.bin .ieq (.iv 2) (.il 2)) (.un .not (.bin .ieq (.iv 3) (.il 0)))) t_two13_2 t_two13_3))
@[reducible] def t_two13_5 : Tree := (.grow (.br (.bin .band (.bin .ieq (.iv 0) (.il 2)) (.un .not (.bin .ieq (.iv 1) (.il 0)))) t_two13_4 t_two13_3))
@[reducible] def t_two13 : Tree :=
(.new (.new (.new (.br (.un .not (.bin .band (.bin .ieq (.iv 0) (.il 2)) (.bin .ieq (.iv 2) (.il 2)))) t_two13_1 t_two13_5))))
theorem x_two13 : xfn Tryz.prog { ex := false, inl := [24, 25, 29, 26, 65, 64, 66, 67, 68, 69], loops := [], unroll := [], mu := [], mus := [], stays := [], rowT := [], rwx := false, rws := [] } Tryz.f30 [(.int .u8 (.il 13)), (.agg [(.int .u8 (.iv 0)), (.int .i64 (.iv 1)), (.str (.tv 0))]), (.agg [(.int .u8 (.iv 2)), (.int .i64 (.iv 3)), (.str (.tv 1))])] [] [] ⟨4, 0, 0, 2, 0, 0, 0, 0⟩ = some t_two13 := by kernel_rfl
theorem vc_two13 (i0 i1 i2 i3 : Int) (t0 t1 : ByteArray) (W : Wd) (R : Ending → World → Prop) (h : t_two13.den Tryz.prog W.w.heap.size R [] { I := [i0, i1, i2, i3], T := [t0, t1] } W) : CallsE Tryz.prog 30 #[.int .u8 13, .agg #[.int .u8 i0, .int .i64 i1, .string t0], .agg #[.int .u8 i2, .int .i64 i3, .string t1]] W R :=
  fn_calls Tryz.func30 _ _ { I := [i0, i1, i2, i3], T := [t0, t1] } _ x_two13 (fun v hv => by cases hv) h

-- callboard/value.Two
@[reducible] def t_two14_1 : Tree := (.wr (.ret (.tup [(.agg [(.int .u8 (.il 0)), (.int .i64 (.il 0)), (.str (.tl []))]), (.int .i64 (.il 23))]) [] [] []))
@[reducible] def t_two14_2 : Tree := (.grow (.wr (.ret (.tup [(.agg [(.int .u8 (.il 2)), (.int .i64 (.il 1)), (.str (.tl []))]), (.int .i64 (.il 0))]) [] [] [])))
@[reducible] def t_two14_3 : Tree := (.grow (.wr (.ret (.tup [(.agg [(.int .u8 (.il 2)), (.int .i64 (.il 0)), (.str (.tl []))]), (.int .i64 (.il 0))]) [] [] [])))
@[reducible] def t_two14_4 : Tree := (.grow (.br (.bin .band (.bin .ieq (.iv 2) (.il 2)) (.un .not (.bin .ieq (.iv 3) (.il 0)))) t_two14_2 t_two14_3))
@[reducible] def t_two14_5 : Tree := (.grow (.br (.un .not (.bin .band (.bin .ieq (.iv 0) (.il 2)) (.un .not (.bin .ieq (.iv 1) (.il 0))))) t_two14_4 t_two14_2))
@[reducible] def t_two14 : Tree :=
(.new (.new (.new (.br (.un .not (.bin .band (.bin .ieq (.iv 0) (.il 2)) (.bin .ieq (.iv 2) (.il 2)))) t_two14_1 t_two14_5))))
theorem x_two14 : xfn Tryz.prog { ex := false, inl := [24, 25, 29, 26, 65, 64, 66, 67, 68, 69], loops := [], unroll := [], mu := [], mus := [], stays := [], rowT := [], rwx := false, rws := [] } Tryz.f30 [(.int .u8 (.il 14)), (.agg [(.int .u8 (.iv 0)), (.int .i64 (.iv 1)), (.str (.tv 0))]), (.agg [(.int .u8 (.iv 2)), (.int .i64 (.iv 3)), (.str (.tv 1))])] [] [] ⟨4, 0, 0, 2, 0, 0, 0, 0⟩ = some t_two14 := by kernel_rfl
theorem vc_two14 (i0 i1 i2 i3 : Int) (t0 t1 : ByteArray) (W : Wd) (R : Ending → World → Prop) (h : t_two14.den Tryz.prog W.w.heap.size R [] { I := [i0, i1, i2, i3], T := [t0, t1] } W) : CallsE Tryz.prog 30 #[.int .u8 14, .agg #[.int .u8 i0, .int .i64 i1, .string t0], .agg #[.int .u8 i2, .int .i64 i3, .string t1]] W R :=
  fn_calls Tryz.func30 _ _ { I := [i0, i1, i2, i3], T := [t0, t1] } _ x_two14 (fun v hv => by cases hv) h

-- callboard/value.Two
@[reducible] def t_two15_1 : Tree := (.wr (.ret (.tup [(.agg [(.int .u8 (.il 0)), (.int .i64 (.il 0)), (.str (.tl []))]), (.int .i64 (.il 23))]) [] [] []))
@[reducible] def t_two15_2 : Tree := (.wr (.ret (.tup [(.agg [(.int .u8 (.iv 4)), (.int .i64 (.iv 5)), (.str (.tv 2))]), (.int .i64 (.iv 6))]) [] [] []))
@[reducible] def t_two15_3 : Tree := (.call 46 [(.int .u8 (.il 15)), (.int .i64 (.iv 1)), (.int .i64 (.iv 3))] [] [] [] (.tup [(.agg [(.int .u8 (.iv 4)), (.int .i64 (.iv 5)), (.str (.tv 2))]), (.int .i64 (.iv 6))]) ⟨3, 0, 0, 1, 0, 0, 0, 0⟩ t_two15_2)
@[reducible] def t_two15 : Tree :=
(.new (.new (.new (.br (.un .not (.bin .band (.bin .ieq (.iv 0) (.il 1)) (.bin .ieq (.iv 2) (.il 1)))) t_two15_1 t_two15_3))))
theorem x_two15 : xfn Tryz.prog { ex := false, inl := [24, 25, 29, 26, 65, 64, 66, 67, 68, 69], loops := [], unroll := [], mu := [], mus := [], stays := [], rowT := [], rwx := false, rws := [] } Tryz.f30 [(.int .u8 (.il 15)), (.agg [(.int .u8 (.iv 0)), (.int .i64 (.iv 1)), (.str (.tv 0))]), (.agg [(.int .u8 (.iv 2)), (.int .i64 (.iv 3)), (.str (.tv 1))])] [] [] ⟨4, 0, 0, 2, 0, 0, 0, 0⟩ = some t_two15 := by kernel_rfl
theorem vc_two15 (i0 i1 i2 i3 : Int) (t0 t1 : ByteArray) (W : Wd) (R : Ending → World → Prop) (h : t_two15.den Tryz.prog W.w.heap.size R [] { I := [i0, i1, i2, i3], T := [t0, t1] } W) : CallsE Tryz.prog 30 #[.int .u8 15, .agg #[.int .u8 i0, .int .i64 i1, .string t0], .agg #[.int .u8 i2, .int .i64 i3, .string t1]] W R :=
  fn_calls Tryz.func30 _ _ { I := [i0, i1, i2, i3], T := [t0, t1] } _ x_two15 (fun v hv => by cases hv) h

-- callboard/value.Two
@[reducible] def t_vtwo_1 : Tree := (.wr (.ret (.tup [(.agg [(.int .u8 (.il 0)), (.int .i64 (.il 0)), (.str (.tl []))]), (.int .i64 (.il 23))]) [] [] []))
@[reducible] def t_vtwo_2 : Tree := (.wr (.ret (.tup [(.agg [(.int .u8 (.iv 5)), (.int .i64 (.iv 6)), (.str (.tv 2))]), (.int .i64 (.iv 7))]) [] [] []))
@[reducible] def t_vtwo_3 : Tree := (.call 46 [(.int .u8 (.iv 0)), (.int .i64 (.iv 2)), (.int .i64 (.iv 4))] [] [] [] (.tup [(.agg [(.int .u8 (.iv 5)), (.int .i64 (.iv 6)), (.str (.tv 2))]), (.int .i64 (.iv 7))]) ⟨3, 0, 0, 1, 0, 0, 0, 0⟩ t_vtwo_2)
@[reducible] def t_vtwo_4 : Tree := (.br (.un .not (.bin .band (.bin .ieq (.iv 1) (.il 1)) (.bin .ieq (.iv 3) (.il 1)))) t_vtwo_1 t_vtwo_3)
@[reducible] def t_vtwo_5 : Tree := (.wr (.ret (.tup [(.agg [(.int .u8 (.il 0)), (.int .i64 (.il 0)), (.str (.tl []))]), (.int .i64 (.il 20))]) [] [] []))
@[reducible] def t_vtwo_6 : Tree := (.chk (.bin .le (.bin .add (.un .len (.tv 0)) (.un .len (.tv 1))) (.il 9223372036854775807)) (.grow (.wr (.ret (.tup [(.agg [(.int .u8 (.il 3)), (.int .i64 (.il 0)), (.str (.bin .cat (.tv 0) (.tv 1)))]), (.int .i64 (.il 0))]) [] [] []))))
@[reducible] def t_vtwo_7 : Tree := (.br (.bin .bor (.bin .lt (.il 40) (.un .len (.tv 0))) (.bin .lt (.un (.wrap .i64) (.bin .sub (.il 40) (.un .len (.tv 0)))) (.un .len (.tv 1)))) t_vtwo_5 t_vtwo_6)
@[reducible] def t_vtwo_8 : Tree := (.br (.un .not (.bin .band (.bin .ieq (.iv 1) (.il 3)) (.bin .ieq (.iv 3) (.il 3)))) t_vtwo_3 t_vtwo_7)
@[reducible] def t_vtwo_9 : Tree := (.br (.un .not (.bin .bor (.bin .band (.bin .ieq (.iv 1) (.il 1)) (.bin .ieq (.iv 3) (.il 1))) (.bin .band (.bin .ieq (.iv 1) (.il 3)) (.bin .ieq (.iv 3) (.il 3))))) t_vtwo_1 t_vtwo_8)
@[reducible] def t_vtwo_10 : Tree := (.grow (.wr (.ret (.tup [(.agg [(.int .u8 (.il 2)), (.int .i64 (.il 1)), (.str (.tl []))]), (.int .i64 (.il 0))]) [] [] [])))
@[reducible] def t_vtwo_11 : Tree := (.grow (.wr (.ret (.tup [(.agg [(.int .u8 (.il 2)), (.int .i64 (.il 0)), (.str (.tl []))]), (.int .i64 (.il 0))]) [] [] [])))
@[reducible] def t_vtwo_12 : Tree := (.call 47 [(.agg [(.int .u8 (.iv 1)), (.int .i64 (.iv 2)), (.str (.tv 0))]), (.agg [(.int .u8 (.iv 3)), (.int .i64 (.iv 4)), (.str (.tv 1))])] [] [] [] (.int .i64 (.iv 5)) ⟨1, 0, 0, 0, 0, 0, 0, 0⟩ (.br (.bin .lt (.iv 5) (.il 0)) t_vtwo_10 t_vtwo_11))
@[reducible] def t_vtwo_13 : Tree := (.br (.un .not (.bin .bor (.bin .band (.bin .ieq (.iv 1) (.il 1)) (.bin .ieq (.iv 3) (.il 1))) (.bin .band (.bin .ieq (.iv 1) (.il 3)) (.bin .ieq (.iv 3) (.il 3))))) t_vtwo_1 t_vtwo_12)
@[reducible] def t_vtwo_14 : Tree := (.call 47 [(.agg [(.int .u8 (.iv 1)), (.int .i64 (.iv 2)), (.str (.tv 0))]), (.agg [(.int .u8 (.iv 3)), (.int .i64 (.iv 4)), (.str (.tv 1))])] [] [] [] (.int .i64 (.iv 5)) ⟨1, 0, 0, 0, 0, 0, 0, 0⟩ (.br (.bin .le (.iv 5) (.il 0)) t_vtwo_10 t_vtwo_11))
@[reducible] def t_vtwo_15 : Tree := (.br (.un .not (.bin .bor (.bin .band (.bin .ieq (.iv 1) (.il 1)) (.bin .ieq (.iv 3) (.il 1))) (.bin .band (.bin .ieq (.iv 1) (.il 3)) (.bin .ieq (.iv 3) (.il 3))))) t_vtwo_1 t_vtwo_14)
@[reducible] def t_vtwo_16 : Tree := (.call 48 [(.agg [(.int .u8 (.iv 1)), (.int .i64 (.iv 2)), (.str (.tv 0))]), (.agg [(.int .u8 (.iv 3)), (.int .i64 (.iv 4)), (.str (.tv 1))])] [] [] [] (.bool (.bv 0)) ⟨0, 0, 1, 0, 0, 0, 0, 0⟩ (.br (.bin .beq (.bv 0) (.bin .ieq (.iv 0) (.il 11))) t_vtwo_10 t_vtwo_11))
@[reducible] def t_vtwo_17 : Tree := (.br (.un .not (.bin .bor (.bin .bor (.bin .band (.bin .ieq (.iv 1) (.il 1)) (.bin .ieq (.iv 3) (.il 1))) (.bin .band (.bin .ieq (.iv 1) (.il 3)) (.bin .ieq (.iv 3) (.il 3)))) (.bin .band (.bin .ieq (.iv 1) (.il 2)) (.bin .ieq (.iv 3) (.il 2))))) t_vtwo_1 t_vtwo_16)
@[reducible] def t_vtwo_18 : Tree := (.grow (.br (.bin .band (.bin .ieq (.iv 3) (.il 2)) (.un .not (.bin .ieq (.iv 4) (.il 0)))) t_vtwo_10 t_vtwo_11))
@[reducible] def t_vtwo_19 : Tree := (.grow (.br (.bin .band (.bin .ieq (.iv 1) (.il 2)) (.un .not (.bin .ieq (.iv 2) (.il 0)))) t_vtwo_18 t_vtwo_11))
@[reducible] def t_vtwo_20 : Tree := (.br (.un .not (.bin .band (.bin .ieq (.iv 1) (.il 2)) (.bin .ieq (.iv 3) (.il 2)))) t_vtwo_1 t_vtwo_19)
@[reducible] def t_vtwo_21 : Tree := (.grow (.br (.un .not (.bin .band (.bin .ieq (.iv 1) (.il 2)) (.un .not (.bin .ieq (.iv 2) (.il 0))))) t_vtwo_18 t_vtwo_10))
@[reducible] def t_vtwo_22 : Tree := (.br (.un .not (.bin .band (.bin .ieq (.iv 1) (.il 2)) (.bin .ieq (.iv 3) (.il 2)))) t_vtwo_1 t_vtwo_21)
@[reducible] def t_vtwo_23 : Tree := (.wr (.ret (.tup [(.agg [(.int .u8 (.il 0)), (.int .i64 (.il 0)), (.str (.tl []))]), (.int .i64 (.il 4))]) [] [] []))
@[reducible] def t_vtwo_24 : Tree := (.br (.bin .ieq (.iv 0) (.il 13)) t_vtwo_20 (.br (.bin .ieq (.iv 0) (.il 14)) t_vtwo_22 t_vtwo_23))
@[reducible] def t_vtwo_25 : Tree := (.br (.bin .ieq (.iv 0) (.il 11)) t_vtwo_17 (.br (.bin .ieq (.iv 0) (.il 12)) t_vtwo_17 t_vtwo_24))
@[reducible] def t_vtwo_26 : Tree := (.br (.bin .ieq (.iv 0) (.il 9)) t_vtwo_13 (.br (.bin .ieq (.iv 0) (.il 10)) t_vtwo_15 t_vtwo_25))
@[reducible] def t_vtwo_27 : Tree := (.br (.bin .ieq (.iv 0) (.il 15)) t_vtwo_4 (.br (.bin .ieq (.iv 0) (.il 8)) t_vtwo_9 t_vtwo_26))
@[reducible] def t_vtwo_28 : Tree := (.br (.bin .ieq (.iv 0) (.il 6)) t_vtwo_4 (.br (.bin .ieq (.iv 0) (.il 7)) t_vtwo_4 t_vtwo_27))
@[reducible] def t_vtwo : Tree :=
(.new (.new (.new (.br (.bin .ieq (.iv 0) (.il 5)) t_vtwo_4 t_vtwo_28))))
theorem x_vtwo : xfn Tryz.prog { ex := false, inl := [24, 25, 29, 26, 65, 64, 66, 67, 68, 69], loops := [], unroll := [], mu := [], mus := [], stays := [], rowT := [], rwx := false, rws := [] } Tryz.f30 [(.int .u8 (.iv 0)), (.agg [(.int .u8 (.iv 1)), (.int .i64 (.iv 2)), (.str (.tv 0))]), (.agg [(.int .u8 (.iv 3)), (.int .i64 (.iv 4)), (.str (.tv 1))])] [] [] ⟨5, 0, 0, 2, 0, 0, 0, 0⟩ = some t_vtwo := by kernel_rfl
theorem vc_vtwo (i0 i1 i2 i3 i4 : Int) (t0 t1 : ByteArray) (W : Wd) (R : Ending → World → Prop) (h : t_vtwo.den Tryz.prog W.w.heap.size R [] { I := [i0, i1, i2, i3, i4], T := [t0, t1] } W) : CallsE Tryz.prog 30 #[.int .u8 i0, .agg #[.int .u8 i1, .int .i64 i2, .string t0], .agg #[.int .u8 i3, .int .i64 i4, .string t1]] W R :=
  fn_calls Tryz.func30 _ _ { I := [i0, i1, i2, i3, i4], T := [t0, t1] } _ x_vtwo (fun v hv => by cases hv) h

-- callboard/value.One
@[reducible] def t_vone_1 : Tree := (.wr (.ret (.tup [(.agg [(.int .u8 (.il 0)), (.int .i64 (.il 0)), (.str (.tl []))]), (.int .i64 (.il 23))]) [] [] []))
@[reducible] def t_vone_2 : Tree := (.wr (.ret (.tup [(.agg [(.int .u8 (.iv 3)), (.int .i64 (.iv 4)), (.str (.tv 1))]), (.int .i64 (.iv 5))]) [] [] []))
@[reducible] def t_vone_3 : Tree := (.call 46 [(.int .u8 (.il 15)), (.int .i64 (.il 0)), (.int .i64 (.iv 2))] [] [] [] (.tup [(.agg [(.int .u8 (.iv 3)), (.int .i64 (.iv 4)), (.str (.tv 1))]), (.int .i64 (.iv 5))]) ⟨3, 0, 0, 1, 0, 0, 0, 0⟩ t_vone_2)
@[reducible] def t_vone_4 : Tree := (.grow (.wr (.ret (.tup [(.agg [(.int .u8 (.il 2)), (.int .i64 (.il 1)), (.str (.tl []))]), (.int .i64 (.il 0))]) [] [] [])))
@[reducible] def t_vone_5 : Tree := (.grow (.wr (.ret (.tup [(.agg [(.int .u8 (.il 2)), (.int .i64 (.il 0)), (.str (.tl []))]), (.int .i64 (.il 0))]) [] [] [])))
@[reducible] def t_vone_6 : Tree := (.grow (.br (.un .not (.bin .band (.bin .ieq (.iv 1) (.il 2)) (.un .not (.bin .ieq (.iv 2) (.il 0))))) t_vone_4 t_vone_5))
@[reducible] def t_vone_7 : Tree := (.grow (.wr (.ret (.tup [(.agg [(.int .u8 (.il 1)), (.int .i64 (.un .len (.tv 0))), (.str (.tl []))]), (.int .i64 (.il 0))]) [] [] [])))
@[reducible] def t_vone_8 : Tree := (.wr (.ret (.tup [(.agg [(.int .u8 (.il 0)), (.int .i64 (.il 0)), (.str (.tl []))]), (.int .i64 (.il 4))]) [] [] []))
@[reducible] def t_vone_9 : Tree := (.br (.bin .ieq (.iv 0) (.il 16)) (.br (.un .not (.bin .ieq (.iv 1) (.il 3))) t_vone_1 t_vone_7) t_vone_8)
@[reducible] def t_vone_10 : Tree := (.br (.bin .ieq (.iv 0) (.il 4)) (.br (.un .not (.bin .ieq (.iv 1) (.il 2))) t_vone_1 t_vone_6) t_vone_9)
@[reducible] def t_vone : Tree :=
(.new (.new (.br (.bin .ieq (.iv 0) (.il 3)) (.br (.un .not (.bin .ieq (.iv 1) (.il 1))) t_vone_1 t_vone_3) t_vone_10)))
theorem x_vone : xfn Tryz.prog { ex := false, inl := [24, 25, 29, 26, 65, 64, 66, 67, 68, 69], loops := [], unroll := [], mu := [], mus := [], stays := [], rowT := [], rwx := false, rws := [] } Tryz.f28 [(.int .u8 (.iv 0)), (.agg [(.int .u8 (.iv 1)), (.int .i64 (.iv 2)), (.str (.tv 0))])] [] [] ⟨3, 0, 0, 1, 0, 0, 0, 0⟩ = some t_vone := by kernel_rfl
theorem vc_vone (i0 i1 i2 : Int) (t0 : ByteArray) (W : Wd) (R : Ending → World → Prop) (h : t_vone.den Tryz.prog W.w.heap.size R [] { I := [i0, i1, i2], T := [t0] } W) : CallsE Tryz.prog 28 #[.int .u8 i0, .agg #[.int .u8 i1, .int .i64 i2, .string t0]] W R :=
  fn_calls Tryz.func28 _ _ { I := [i0, i1, i2], T := [t0] } _ x_vone (fun v hv => by cases hv) h

end Go.Proofs.YtijinopghlpdbaaGreatDoor
