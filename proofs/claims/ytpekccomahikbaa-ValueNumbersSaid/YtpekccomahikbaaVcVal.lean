/- What is left to show of functions, as the walk that the kernel computes finds it (written by wip/vc.py). -/
import Derived.Test.YtpekccomahikbaaProg
import Derived.Test.YtpekccomahikbaaSeC
namespace Go.Proofs.Ytpekccomahikbaa
open Go Go.RowKit Go.SE
set_option maxRecDepth 100000

-- callboard/value.Num
def t_num : Tree :=
(.new
(.wr
(.ret (.agg [(.int .u8 (.il 1)), (.int .i64 (.iv 0)), (.str (.tl []))]) [])))
theorem x_num : xfn Try.prog { ex := false, inl := [33, 13, 12, 21, 36, 35, 37, 38, 39, 40], loops := [] } Try.f33 [(.int .i64 (.iv 0))] [] ⟨1, 0, 0, 0, 0, 0, 0⟩ = some t_num := by kernel_rfl
theorem vc_num (i0 : Int) (W : Wd) (R : Value → Wd → Prop) (h : t_num.den Try.prog W.w.heap.size R [] { I := [i0] } W) : CallsI Try.prog 33 #[.int .i64 i0] W R :=
  fn_calls Try.func33 _ _ { I := [i0] } _ x_num (fun v hv => by cases hv) h

-- callboard/value.Truth
def t_truth : Tree :=
(.new
(.new
(.wr
(.br (.bv 0)
 (.wr
 (.wr
 (.ret (.agg [(.int .u8 (.il 2)), (.int .i64 (.il 1)), (.str (.tl []))]) [])))
 (.wr
 (.ret (.agg [(.int .u8 (.il 2)), (.int .i64 (.il 0)), (.str (.tl []))]) []))))))
theorem x_truth : xfn Try.prog { ex := false, inl := [33, 13, 12, 21, 36, 35, 37, 38, 39, 40], loops := [] } Try.f13 [(.bool (.bv 0))] [] ⟨0, 0, 1, 0, 0, 0, 0⟩ = some t_truth := by kernel_rfl
theorem vc_truth (b0 : Bool) (W : Wd) (R : Value → Wd → Prop) (h : t_truth.den Try.prog W.w.heap.size R [] { B := [b0] } W) : CallsI Try.prog 13 #[.bool b0] W R :=
  fn_calls Try.func13 _ _ { B := [b0] } _ x_truth (fun v hv => by cases hv) h

-- callboard/value.Yes
def t_yes : Tree :=
(.new
(.ret (.bool (.bin .band (.bin .ieq (.iv 0) (.il 2)) (.un .not (.bin .ieq (.iv 1) (.il 0))))) []))
theorem x_yes : xfn Try.prog { ex := false, inl := [33, 13, 12, 21, 36, 35, 37, 38, 39, 40], loops := [] } Try.f12 [(.agg [(.int .u8 (.iv 0)), (.int .i64 (.iv 1)), (.str (.tv 0))])] [] ⟨2, 0, 0, 1, 0, 0, 0⟩ = some t_yes := by kernel_rfl
theorem vc_yes (i0 i1 : Int) (t0 : ByteArray) (W : Wd) (R : Value → Wd → Prop) (h : t_yes.den Try.prog W.w.heap.size R [] { I := [i0, i1], T := [t0] } W) : CallsI Try.prog 12 #[.agg #[.int .u8 i0, .int .i64 i1, .string t0]] W R :=
  fn_calls Try.func12 _ _ { I := [i0, i1], T := [t0] } _ x_yes (fun v hv => by cases hv) h

-- callboard/value.numbers
def t_nums5 : Tree :=
(.new
(.new
(.new
(.new
(.wr
(.new
(.wr
(.br (.bin .bor (.bin .ieq (.iv 0) (.il 0)) (.bin .ieq (.iv 1) (.il 0)))
 (.grow
 (.grow
 (.wr
 (.ret (.tup [(.agg [(.int .u8 (.il 1)), (.int .i64 (.il 0)), (.str (.tl []))]), (.int .i64 (.il 0))]) []))))
 (.br (.bin .bor (.bin .band (.bin .ieq (.iv 0) (.il (-1))) (.bin .ieq (.iv 1) (.il (-9223372036854775808)))) (.bin .band (.bin .ieq (.iv 1) (.il (-1))) (.bin .ieq (.iv 0) (.il (-9223372036854775808)))))
  (.grow
  (.wr
  (.ret (.tup [(.agg [(.int .u8 (.il 0)), (.int .i64 (.il 0)), (.str (.tl []))]), (.int .i64 (.il 20))]) [])))
  (.grow
  (.br (.un .not (.bin .ieq (.un (.wrap .i64) (.bin .quo (.un (.wrap .i64) (.bin .mul (.iv 0) (.iv 1))) (.iv 1))) (.iv 0)))
   (.wr
   (.ret (.tup [(.agg [(.int .u8 (.il 0)), (.int .i64 (.il 0)), (.str (.tl []))]), (.int .i64 (.il 20))]) []))
   (.grow
   (.wr
   (.ret (.tup [(.agg [(.int .u8 (.il 1)), (.int .i64 (.un (.wrap .i64) (.bin .mul (.iv 0) (.iv 1)))), (.str (.tl []))]), (.int .i64 (.il 0))]) []))))))))))))))
theorem x_nums5 : xfn Try.prog { ex := false, inl := [33, 13, 12, 21, 36, 35, 37, 38, 39, 40], loops := [] } Try.f20 [(.int .u8 (.il 5)), (.int .i64 (.iv 0)), (.int .i64 (.iv 1))] [] ⟨2, 0, 0, 0, 0, 0, 0⟩ = some t_nums5 := by kernel_rfl
theorem vc_nums5 (i0 i1 : Int) (W : Wd) (R : Value → Wd → Prop) (h : t_nums5.den Try.prog W.w.heap.size R [] { I := [i0, i1] } W) : CallsI Try.prog 20 #[.int .u8 5, .int .i64 i0, .int .i64 i1] W R :=
  fn_calls Try.func20 _ _ { I := [i0, i1] } _ x_nums5 (fun v hv => by cases hv) h

-- callboard/value.numbers
def t_nums6 : Tree :=
(.new
(.new
(.new
(.br (.bin .ieq (.iv 1) (.il 0))
 (.wr
 (.ret (.tup [(.agg [(.int .u8 (.il 0)), (.int .i64 (.il 0)), (.str (.tl []))]), (.int .i64 (.il 21))]) []))
 (.new
 (.wr
 (.new
 (.wr
 (.grow
 (.br (.un .not (.bin .bor (.un .not (.bin .ieq (.iv 0) (.il (-9223372036854775808)))) (.un .not (.bin .ieq (.iv 1) (.il (-1))))))
  (.wr
  (.ret (.tup [(.agg [(.int .u8 (.il 0)), (.int .i64 (.il 0)), (.str (.tl []))]), (.int .i64 (.il 20))]) []))
  (.grow
  (.wr
  (.ret (.tup [(.agg [(.int .u8 (.il 1)), (.int .i64 (.un (.wrap .i64) (.bin .quo (.iv 0) (.iv 1)))), (.str (.tl []))]), (.int .i64 (.il 0))]) [])))))))))))))
theorem x_nums6 : xfn Try.prog { ex := false, inl := [33, 13, 12, 21, 36, 35, 37, 38, 39, 40], loops := [] } Try.f20 [(.int .u8 (.il 6)), (.int .i64 (.iv 0)), (.int .i64 (.iv 1))] [] ⟨2, 0, 0, 0, 0, 0, 0⟩ = some t_nums6 := by kernel_rfl
theorem vc_nums6 (i0 i1 : Int) (W : Wd) (R : Value → Wd → Prop) (h : t_nums6.den Try.prog W.w.heap.size R [] { I := [i0, i1] } W) : CallsI Try.prog 20 #[.int .u8 6, .int .i64 i0, .int .i64 i1] W R :=
  fn_calls Try.func20 _ _ { I := [i0, i1] } _ x_nums6 (fun v hv => by cases hv) h

-- callboard/value.numbers
def t_nums7 : Tree :=
(.new
(.new
(.new
(.br (.bin .ieq (.iv 1) (.il 0))
 (.wr
 (.ret (.tup [(.agg [(.int .u8 (.il 0)), (.int .i64 (.il 0)), (.str (.tl []))]), (.int .i64 (.il 21))]) []))
 (.new
 (.wr
 (.new
 (.wr
 (.grow
 (.br (.un .not (.bin .bor (.un .not (.bin .ieq (.iv 0) (.il (-9223372036854775808)))) (.un .not (.bin .ieq (.iv 1) (.il (-1))))))
  (.wr
  (.ret (.tup [(.agg [(.int .u8 (.il 0)), (.int .i64 (.il 0)), (.str (.tl []))]), (.int .i64 (.il 20))]) []))
  (.grow
  (.wr
  (.ret (.tup [(.agg [(.int .u8 (.il 1)), (.int .i64 (.bin .rem (.iv 0) (.iv 1))), (.str (.tl []))]), (.int .i64 (.il 0))]) [])))))))))))))
theorem x_nums7 : xfn Try.prog { ex := false, inl := [33, 13, 12, 21, 36, 35, 37, 38, 39, 40], loops := [] } Try.f20 [(.int .u8 (.il 7)), (.int .i64 (.iv 0)), (.int .i64 (.iv 1))] [] ⟨2, 0, 0, 0, 0, 0, 0⟩ = some t_nums7 := by kernel_rfl
theorem vc_nums7 (i0 i1 : Int) (W : Wd) (R : Value → Wd → Prop) (h : t_nums7.den Try.prog W.w.heap.size R [] { I := [i0, i1] } W) : CallsI Try.prog 20 #[.int .u8 7, .int .i64 i0, .int .i64 i1] W R :=
  fn_calls Try.func20 _ _ { I := [i0, i1] } _ x_nums7 (fun v hv => by cases hv) h

-- callboard/value.numbers
def t_nums8 : Tree :=
(.new
(.new
(.new
(.new
(.wr
(.new
(.wr
(.grow
(.br (.un .not (.bin .beq (.bin .lt (.un (.wrap .i64) (.bin .add (.iv 0) (.iv 1))) (.iv 0)) (.bin .lt (.iv 1) (.il 0))))
 (.wr
 (.ret (.tup [(.agg [(.int .u8 (.il 0)), (.int .i64 (.il 0)), (.str (.tl []))]), (.int .i64 (.il 20))]) []))
 (.grow
 (.wr
 (.ret (.tup [(.agg [(.int .u8 (.il 1)), (.int .i64 (.un (.wrap .i64) (.bin .add (.iv 0) (.iv 1)))), (.str (.tl []))]), (.int .i64 (.il 0))]) []))))))))))))
theorem x_nums8 : xfn Try.prog { ex := false, inl := [33, 13, 12, 21, 36, 35, 37, 38, 39, 40], loops := [] } Try.f20 [(.int .u8 (.il 8)), (.int .i64 (.iv 0)), (.int .i64 (.iv 1))] [] ⟨2, 0, 0, 0, 0, 0, 0⟩ = some t_nums8 := by kernel_rfl
theorem vc_nums8 (i0 i1 : Int) (W : Wd) (R : Value → Wd → Prop) (h : t_nums8.den Try.prog W.w.heap.size R [] { I := [i0, i1] } W) : CallsI Try.prog 20 #[.int .u8 8, .int .i64 i0, .int .i64 i1] W R :=
  fn_calls Try.func20 _ _ { I := [i0, i1] } _ x_nums8 (fun v hv => by cases hv) h

-- callboard/value.numbers
def t_nums15 : Tree :=
(.new
(.new
(.new
(.new
(.wr
(.new
(.wr
(.grow
(.br (.un .not (.bin .beq (.bin .lt (.iv 0) (.un (.wrap .i64) (.bin .sub (.iv 0) (.iv 1)))) (.bin .lt (.iv 1) (.il 0))))
 (.wr
 (.ret (.tup [(.agg [(.int .u8 (.il 0)), (.int .i64 (.il 0)), (.str (.tl []))]), (.int .i64 (.il 20))]) []))
 (.grow
 (.wr
 (.ret (.tup [(.agg [(.int .u8 (.il 1)), (.int .i64 (.un (.wrap .i64) (.bin .sub (.iv 0) (.iv 1)))), (.str (.tl []))]), (.int .i64 (.il 0))]) []))))))))))))
theorem x_nums15 : xfn Try.prog { ex := false, inl := [33, 13, 12, 21, 36, 35, 37, 38, 39, 40], loops := [] } Try.f20 [(.int .u8 (.il 15)), (.int .i64 (.iv 0)), (.int .i64 (.iv 1))] [] ⟨2, 0, 0, 0, 0, 0, 0⟩ = some t_nums15 := by kernel_rfl
theorem vc_nums15 (i0 i1 : Int) (W : Wd) (R : Value → Wd → Prop) (h : t_nums15.den Try.prog W.w.heap.size R [] { I := [i0, i1] } W) : CallsI Try.prog 20 #[.int .u8 15, .int .i64 i0, .int .i64 i1] W R :=
  fn_calls Try.func20 _ _ { I := [i0, i1] } _ x_nums15 (fun v hv => by cases hv) h

-- callboard/value.order
def t_order : Tree :=
(.new
(.new
(.br (.bin .ieq (.iv 0) (.il 3))
 (.call 34 [(.str (.tv 0)), (.str (.tv 1))] [] (.int .i64 (.iv 4)) ⟨1, 0, 0, 0, 0, 0, 0⟩
 (.ret (.int .i64 (.iv 4)) []))
 (.br (.bin .lt (.iv 1) (.iv 3))
  (.ret (.int .i64 (.il (-1))) [])
  (.br (.bin .lt (.iv 3) (.iv 1))
   (.ret (.int .i64 (.il 1)) [])
   (.ret (.int .i64 (.il 0)) []))))))
theorem x_order : xfn Try.prog { ex := false, inl := [33, 13, 12, 21, 36, 35, 37, 38, 39, 40], loops := [] } Try.f18 [(.agg [(.int .u8 (.iv 0)), (.int .i64 (.iv 1)), (.str (.tv 0))]), (.agg [(.int .u8 (.iv 2)), (.int .i64 (.iv 3)), (.str (.tv 1))])] [] ⟨4, 0, 0, 2, 0, 0, 0⟩ = some t_order := by kernel_rfl
theorem vc_order (i0 i1 i2 i3 : Int) (t0 t1 : ByteArray) (W : Wd) (R : Value → Wd → Prop) (h : t_order.den Try.prog W.w.heap.size R [] { I := [i0, i1, i2, i3], T := [t0, t1] } W) : CallsI Try.prog 18 #[.agg #[.int .u8 i0, .int .i64 i1, .string t0], .agg #[.int .u8 i2, .int .i64 i3, .string t1]] W R :=
  fn_calls Try.func18 _ _ { I := [i0, i1, i2, i3], T := [t0, t1] } _ x_order (fun v hv => by cases hv) h

-- callboard/value.equal
def t_equal : Tree :=
(.new
(.new
(.br (.bin .ieq (.iv 0) (.il 2))
 (.grow
 (.ret (.bool (.bin .beq (.bin .band (.bin .ieq (.iv 0) (.il 2)) (.un .not (.bin .ieq (.iv 1) (.il 0)))) (.bin .band (.bin .ieq (.iv 2) (.il 2)) (.un .not (.bin .ieq (.iv 3) (.il 0)))))) []))
 (.call 18 [(.agg [(.int .u8 (.iv 0)), (.int .i64 (.iv 1)), (.str (.tv 0))]), (.agg [(.int .u8 (.iv 2)), (.int .i64 (.iv 3)), (.str (.tv 1))])] [] (.int .i64 (.iv 4)) ⟨1, 0, 0, 0, 0, 0, 0⟩
 (.ret (.bool (.bin .ieq (.iv 4) (.il 0))) [])))))
theorem x_equal : xfn Try.prog { ex := false, inl := [33, 13, 12, 21, 36, 35, 37, 38, 39, 40], loops := [] } Try.f19 [(.agg [(.int .u8 (.iv 0)), (.int .i64 (.iv 1)), (.str (.tv 0))]), (.agg [(.int .u8 (.iv 2)), (.int .i64 (.iv 3)), (.str (.tv 1))])] [] ⟨4, 0, 0, 2, 0, 0, 0⟩ = some t_equal := by kernel_rfl
theorem vc_equal (i0 i1 i2 i3 : Int) (t0 t1 : ByteArray) (W : Wd) (R : Value → Wd → Prop) (h : t_equal.den Try.prog W.w.heap.size R [] { I := [i0, i1, i2, i3], T := [t0, t1] } W) : CallsI Try.prog 19 #[.agg #[.int .u8 i0, .int .i64 i1, .string t0], .agg #[.int .u8 i2, .int .i64 i3, .string t1]] W R :=
  fn_calls Try.func19 _ _ { I := [i0, i1, i2, i3], T := [t0, t1] } _ x_equal (fun v hv => by cases hv) h

-- callboard/value.Two
def t_two5 : Tree :=
(.new
(.new
(.new
(.br (.un .not (.bin .band (.bin .ieq (.iv 0) (.il 1)) (.bin .ieq (.iv 2) (.il 1))))
 (.wr
 (.ret (.tup [(.agg [(.int .u8 (.il 0)), (.int .i64 (.il 0)), (.str (.tl []))]), (.int .i64 (.il 23))]) []))
 (.call 20 [(.int .u8 (.il 5)), (.int .i64 (.iv 1)), (.int .i64 (.iv 3))] [] (.tup [(.agg [(.int .u8 (.iv 4)), (.int .i64 (.iv 5)), (.str (.tv 2))]), (.int .i64 (.iv 6))]) ⟨3, 0, 0, 1, 0, 0, 0⟩
 (.wr
 (.ret (.tup [(.agg [(.int .u8 (.iv 4)), (.int .i64 (.iv 5)), (.str (.tv 2))]), (.int .i64 (.iv 6))]) [])))))))
theorem x_two5 : xfn Try.prog { ex := false, inl := [33, 13, 12, 21, 36, 35, 37, 38, 39, 40], loops := [] } Try.f8 [(.int .u8 (.il 5)), (.agg [(.int .u8 (.iv 0)), (.int .i64 (.iv 1)), (.str (.tv 0))]), (.agg [(.int .u8 (.iv 2)), (.int .i64 (.iv 3)), (.str (.tv 1))])] [] ⟨4, 0, 0, 2, 0, 0, 0⟩ = some t_two5 := by kernel_rfl
theorem vc_two5 (i0 i1 i2 i3 : Int) (t0 t1 : ByteArray) (W : Wd) (R : Value → Wd → Prop) (h : t_two5.den Try.prog W.w.heap.size R [] { I := [i0, i1, i2, i3], T := [t0, t1] } W) : CallsI Try.prog 8 #[.int .u8 5, .agg #[.int .u8 i0, .int .i64 i1, .string t0], .agg #[.int .u8 i2, .int .i64 i3, .string t1]] W R :=
  fn_calls Try.func8 _ _ { I := [i0, i1, i2, i3], T := [t0, t1] } _ x_two5 (fun v hv => by cases hv) h

-- callboard/value.Two
def t_two6 : Tree :=
(.new
(.new
(.new
(.br (.un .not (.bin .band (.bin .ieq (.iv 0) (.il 1)) (.bin .ieq (.iv 2) (.il 1))))
 (.wr
 (.ret (.tup [(.agg [(.int .u8 (.il 0)), (.int .i64 (.il 0)), (.str (.tl []))]), (.int .i64 (.il 23))]) []))
 (.call 20 [(.int .u8 (.il 6)), (.int .i64 (.iv 1)), (.int .i64 (.iv 3))] [] (.tup [(.agg [(.int .u8 (.iv 4)), (.int .i64 (.iv 5)), (.str (.tv 2))]), (.int .i64 (.iv 6))]) ⟨3, 0, 0, 1, 0, 0, 0⟩
 (.wr
 (.ret (.tup [(.agg [(.int .u8 (.iv 4)), (.int .i64 (.iv 5)), (.str (.tv 2))]), (.int .i64 (.iv 6))]) [])))))))
theorem x_two6 : xfn Try.prog { ex := false, inl := [33, 13, 12, 21, 36, 35, 37, 38, 39, 40], loops := [] } Try.f8 [(.int .u8 (.il 6)), (.agg [(.int .u8 (.iv 0)), (.int .i64 (.iv 1)), (.str (.tv 0))]), (.agg [(.int .u8 (.iv 2)), (.int .i64 (.iv 3)), (.str (.tv 1))])] [] ⟨4, 0, 0, 2, 0, 0, 0⟩ = some t_two6 := by kernel_rfl
theorem vc_two6 (i0 i1 i2 i3 : Int) (t0 t1 : ByteArray) (W : Wd) (R : Value → Wd → Prop) (h : t_two6.den Try.prog W.w.heap.size R [] { I := [i0, i1, i2, i3], T := [t0, t1] } W) : CallsI Try.prog 8 #[.int .u8 6, .agg #[.int .u8 i0, .int .i64 i1, .string t0], .agg #[.int .u8 i2, .int .i64 i3, .string t1]] W R :=
  fn_calls Try.func8 _ _ { I := [i0, i1, i2, i3], T := [t0, t1] } _ x_two6 (fun v hv => by cases hv) h

-- callboard/value.Two
def t_two7 : Tree :=
(.new
(.new
(.new
(.br (.un .not (.bin .band (.bin .ieq (.iv 0) (.il 1)) (.bin .ieq (.iv 2) (.il 1))))
 (.wr
 (.ret (.tup [(.agg [(.int .u8 (.il 0)), (.int .i64 (.il 0)), (.str (.tl []))]), (.int .i64 (.il 23))]) []))
 (.call 20 [(.int .u8 (.il 7)), (.int .i64 (.iv 1)), (.int .i64 (.iv 3))] [] (.tup [(.agg [(.int .u8 (.iv 4)), (.int .i64 (.iv 5)), (.str (.tv 2))]), (.int .i64 (.iv 6))]) ⟨3, 0, 0, 1, 0, 0, 0⟩
 (.wr
 (.ret (.tup [(.agg [(.int .u8 (.iv 4)), (.int .i64 (.iv 5)), (.str (.tv 2))]), (.int .i64 (.iv 6))]) [])))))))
theorem x_two7 : xfn Try.prog { ex := false, inl := [33, 13, 12, 21, 36, 35, 37, 38, 39, 40], loops := [] } Try.f8 [(.int .u8 (.il 7)), (.agg [(.int .u8 (.iv 0)), (.int .i64 (.iv 1)), (.str (.tv 0))]), (.agg [(.int .u8 (.iv 2)), (.int .i64 (.iv 3)), (.str (.tv 1))])] [] ⟨4, 0, 0, 2, 0, 0, 0⟩ = some t_two7 := by kernel_rfl
theorem vc_two7 (i0 i1 i2 i3 : Int) (t0 t1 : ByteArray) (W : Wd) (R : Value → Wd → Prop) (h : t_two7.den Try.prog W.w.heap.size R [] { I := [i0, i1, i2, i3], T := [t0, t1] } W) : CallsI Try.prog 8 #[.int .u8 7, .agg #[.int .u8 i0, .int .i64 i1, .string t0], .agg #[.int .u8 i2, .int .i64 i3, .string t1]] W R :=
  fn_calls Try.func8 _ _ { I := [i0, i1, i2, i3], T := [t0, t1] } _ x_two7 (fun v hv => by cases hv) h

-- callboard/value.Two
def t_two8 : Tree :=
(.new
(.new
(.new
(.br (.un .not (.bin .bor (.bin .band (.bin .ieq (.iv 0) (.il 1)) (.bin .ieq (.iv 2) (.il 1))) (.bin .band (.bin .ieq (.iv 0) (.il 3)) (.bin .ieq (.iv 2) (.il 3)))))
 (.wr
 (.ret (.tup [(.agg [(.int .u8 (.il 0)), (.int .i64 (.il 0)), (.str (.tl []))]), (.int .i64 (.il 23))]) []))
 (.br (.un .not (.bin .band (.bin .ieq (.iv 0) (.il 3)) (.bin .ieq (.iv 2) (.il 3))))
  (.call 20 [(.int .u8 (.il 8)), (.int .i64 (.iv 1)), (.int .i64 (.iv 3))] [] (.tup [(.agg [(.int .u8 (.iv 4)), (.int .i64 (.iv 5)), (.str (.tv 2))]), (.int .i64 (.iv 6))]) ⟨3, 0, 0, 1, 0, 0, 0⟩
  (.wr
  (.ret (.tup [(.agg [(.int .u8 (.iv 4)), (.int .i64 (.iv 5)), (.str (.tv 2))]), (.int .i64 (.iv 6))]) [])))
  (.br (.bin .bor (.bin .lt (.il 40) (.un .len (.tv 0))) (.bin .lt (.un (.wrap .i64) (.bin .sub (.il 40) (.un .len (.tv 0)))) (.un .len (.tv 1))))
   (.wr
   (.ret (.tup [(.agg [(.int .u8 (.il 0)), (.int .i64 (.il 0)), (.str (.tl []))]), (.int .i64 (.il 20))]) []))
   (.chk (.bin .le (.bin .add (.un .len (.tv 0)) (.un .len (.tv 1))) (.il 9223372036854775807))
   (.grow
   (.wr
   (.ret (.tup [(.agg [(.int .u8 (.il 3)), (.int .i64 (.il 0)), (.str (.bin .cat (.tv 0) (.tv 1)))]), (.int .i64 (.il 0))]) []))))))))))
theorem x_two8 : xfn Try.prog { ex := false, inl := [33, 13, 12, 21, 36, 35, 37, 38, 39, 40], loops := [] } Try.f8 [(.int .u8 (.il 8)), (.agg [(.int .u8 (.iv 0)), (.int .i64 (.iv 1)), (.str (.tv 0))]), (.agg [(.int .u8 (.iv 2)), (.int .i64 (.iv 3)), (.str (.tv 1))])] [] ⟨4, 0, 0, 2, 0, 0, 0⟩ = some t_two8 := by kernel_rfl
theorem vc_two8 (i0 i1 i2 i3 : Int) (t0 t1 : ByteArray) (W : Wd) (R : Value → Wd → Prop) (h : t_two8.den Try.prog W.w.heap.size R [] { I := [i0, i1, i2, i3], T := [t0, t1] } W) : CallsI Try.prog 8 #[.int .u8 8, .agg #[.int .u8 i0, .int .i64 i1, .string t0], .agg #[.int .u8 i2, .int .i64 i3, .string t1]] W R :=
  fn_calls Try.func8 _ _ { I := [i0, i1, i2, i3], T := [t0, t1] } _ x_two8 (fun v hv => by cases hv) h

-- callboard/value.Two
def t_two9 : Tree :=
(.new
(.new
(.new
(.br (.un .not (.bin .bor (.bin .band (.bin .ieq (.iv 0) (.il 1)) (.bin .ieq (.iv 2) (.il 1))) (.bin .band (.bin .ieq (.iv 0) (.il 3)) (.bin .ieq (.iv 2) (.il 3)))))
 (.wr
 (.ret (.tup [(.agg [(.int .u8 (.il 0)), (.int .i64 (.il 0)), (.str (.tl []))]), (.int .i64 (.il 23))]) []))
 (.call 18 [(.agg [(.int .u8 (.iv 0)), (.int .i64 (.iv 1)), (.str (.tv 0))]), (.agg [(.int .u8 (.iv 2)), (.int .i64 (.iv 3)), (.str (.tv 1))])] [] (.int .i64 (.iv 4)) ⟨1, 0, 0, 0, 0, 0, 0⟩
 (.br (.bin .lt (.iv 4) (.il 0))
  (.grow
  (.wr
  (.ret (.tup [(.agg [(.int .u8 (.il 2)), (.int .i64 (.il 1)), (.str (.tl []))]), (.int .i64 (.il 0))]) [])))
  (.grow
  (.wr
  (.ret (.tup [(.agg [(.int .u8 (.il 2)), (.int .i64 (.il 0)), (.str (.tl []))]), (.int .i64 (.il 0))]) [])))))))))
theorem x_two9 : xfn Try.prog { ex := false, inl := [33, 13, 12, 21, 36, 35, 37, 38, 39, 40], loops := [] } Try.f8 [(.int .u8 (.il 9)), (.agg [(.int .u8 (.iv 0)), (.int .i64 (.iv 1)), (.str (.tv 0))]), (.agg [(.int .u8 (.iv 2)), (.int .i64 (.iv 3)), (.str (.tv 1))])] [] ⟨4, 0, 0, 2, 0, 0, 0⟩ = some t_two9 := by kernel_rfl
theorem vc_two9 (i0 i1 i2 i3 : Int) (t0 t1 : ByteArray) (W : Wd) (R : Value → Wd → Prop) (h : t_two9.den Try.prog W.w.heap.size R [] { I := [i0, i1, i2, i3], T := [t0, t1] } W) : CallsI Try.prog 8 #[.int .u8 9, .agg #[.int .u8 i0, .int .i64 i1, .string t0], .agg #[.int .u8 i2, .int .i64 i3, .string t1]] W R :=
  fn_calls Try.func8 _ _ { I := [i0, i1, i2, i3], T := [t0, t1] } _ x_two9 (fun v hv => by cases hv) h

-- callboard/value.Two
def t_two10 : Tree :=
(.new
(.new
(.new
(.br (.un .not (.bin .bor (.bin .band (.bin .ieq (.iv 0) (.il 1)) (.bin .ieq (.iv 2) (.il 1))) (.bin .band (.bin .ieq (.iv 0) (.il 3)) (.bin .ieq (.iv 2) (.il 3)))))
 (.wr
 (.ret (.tup [(.agg [(.int .u8 (.il 0)), (.int .i64 (.il 0)), (.str (.tl []))]), (.int .i64 (.il 23))]) []))
 (.call 18 [(.agg [(.int .u8 (.iv 0)), (.int .i64 (.iv 1)), (.str (.tv 0))]), (.agg [(.int .u8 (.iv 2)), (.int .i64 (.iv 3)), (.str (.tv 1))])] [] (.int .i64 (.iv 4)) ⟨1, 0, 0, 0, 0, 0, 0⟩
 (.br (.bin .le (.iv 4) (.il 0))
  (.grow
  (.wr
  (.ret (.tup [(.agg [(.int .u8 (.il 2)), (.int .i64 (.il 1)), (.str (.tl []))]), (.int .i64 (.il 0))]) [])))
  (.grow
  (.wr
  (.ret (.tup [(.agg [(.int .u8 (.il 2)), (.int .i64 (.il 0)), (.str (.tl []))]), (.int .i64 (.il 0))]) [])))))))))
theorem x_two10 : xfn Try.prog { ex := false, inl := [33, 13, 12, 21, 36, 35, 37, 38, 39, 40], loops := [] } Try.f8 [(.int .u8 (.il 10)), (.agg [(.int .u8 (.iv 0)), (.int .i64 (.iv 1)), (.str (.tv 0))]), (.agg [(.int .u8 (.iv 2)), (.int .i64 (.iv 3)), (.str (.tv 1))])] [] ⟨4, 0, 0, 2, 0, 0, 0⟩ = some t_two10 := by kernel_rfl
theorem vc_two10 (i0 i1 i2 i3 : Int) (t0 t1 : ByteArray) (W : Wd) (R : Value → Wd → Prop) (h : t_two10.den Try.prog W.w.heap.size R [] { I := [i0, i1, i2, i3], T := [t0, t1] } W) : CallsI Try.prog 8 #[.int .u8 10, .agg #[.int .u8 i0, .int .i64 i1, .string t0], .agg #[.int .u8 i2, .int .i64 i3, .string t1]] W R :=
  fn_calls Try.func8 _ _ { I := [i0, i1, i2, i3], T := [t0, t1] } _ x_two10 (fun v hv => by cases hv) h

-- callboard/value.Two
def t_two11 : Tree :=
(.new
(.new
(.new
(.br (.un .not (.bin .bor (.bin .bor (.bin .band (.bin .ieq (.iv 0) (.il 1)) (.bin .ieq (.iv 2) (.il 1))) (.bin .band (.bin .ieq (.iv 0) (.il 3)) (.bin .ieq (.iv 2) (.il 3)))) (.bin .band (.bin .ieq (.iv 0) (.il 2)) (.bin .ieq (.iv 2) (.il 2)))))
 (.wr
 (.ret (.tup [(.agg [(.int .u8 (.il 0)), (.int .i64 (.il 0)), (.str (.tl []))]), (.int .i64 (.il 23))]) []))
 (.call 19 [(.agg [(.int .u8 (.iv 0)), (.int .i64 (.iv 1)), (.str (.tv 0))]), (.agg [(.int .u8 (.iv 2)), (.int .i64 (.iv 3)), (.str (.tv 1))])] [] (.bool (.bv 0)) ⟨0, 0, 1, 0, 0, 0, 0⟩
 (.br (.bin .beq (.bv 0) (.bl true))
  (.grow
  (.wr
  (.ret (.tup [(.agg [(.int .u8 (.il 2)), (.int .i64 (.il 1)), (.str (.tl []))]), (.int .i64 (.il 0))]) [])))
  (.grow
  (.wr
  (.ret (.tup [(.agg [(.int .u8 (.il 2)), (.int .i64 (.il 0)), (.str (.tl []))]), (.int .i64 (.il 0))]) [])))))))))
theorem x_two11 : xfn Try.prog { ex := false, inl := [33, 13, 12, 21, 36, 35, 37, 38, 39, 40], loops := [] } Try.f8 [(.int .u8 (.il 11)), (.agg [(.int .u8 (.iv 0)), (.int .i64 (.iv 1)), (.str (.tv 0))]), (.agg [(.int .u8 (.iv 2)), (.int .i64 (.iv 3)), (.str (.tv 1))])] [] ⟨4, 0, 0, 2, 0, 0, 0⟩ = some t_two11 := by kernel_rfl
theorem vc_two11 (i0 i1 i2 i3 : Int) (t0 t1 : ByteArray) (W : Wd) (R : Value → Wd → Prop) (h : t_two11.den Try.prog W.w.heap.size R [] { I := [i0, i1, i2, i3], T := [t0, t1] } W) : CallsI Try.prog 8 #[.int .u8 11, .agg #[.int .u8 i0, .int .i64 i1, .string t0], .agg #[.int .u8 i2, .int .i64 i3, .string t1]] W R :=
  fn_calls Try.func8 _ _ { I := [i0, i1, i2, i3], T := [t0, t1] } _ x_two11 (fun v hv => by cases hv) h

-- callboard/value.Two
def t_two12 : Tree :=
(.new
(.new
(.new
(.br (.un .not (.bin .bor (.bin .bor (.bin .band (.bin .ieq (.iv 0) (.il 1)) (.bin .ieq (.iv 2) (.il 1))) (.bin .band (.bin .ieq (.iv 0) (.il 3)) (.bin .ieq (.iv 2) (.il 3)))) (.bin .band (.bin .ieq (.iv 0) (.il 2)) (.bin .ieq (.iv 2) (.il 2)))))
 (.wr
 (.ret (.tup [(.agg [(.int .u8 (.il 0)), (.int .i64 (.il 0)), (.str (.tl []))]), (.int .i64 (.il 23))]) []))
 (.call 19 [(.agg [(.int .u8 (.iv 0)), (.int .i64 (.iv 1)), (.str (.tv 0))]), (.agg [(.int .u8 (.iv 2)), (.int .i64 (.iv 3)), (.str (.tv 1))])] [] (.bool (.bv 0)) ⟨0, 0, 1, 0, 0, 0, 0⟩
 (.br (.bin .beq (.bv 0) (.bl false))
  (.grow
  (.wr
  (.ret (.tup [(.agg [(.int .u8 (.il 2)), (.int .i64 (.il 1)), (.str (.tl []))]), (.int .i64 (.il 0))]) [])))
  (.grow
  (.wr
  (.ret (.tup [(.agg [(.int .u8 (.il 2)), (.int .i64 (.il 0)), (.str (.tl []))]), (.int .i64 (.il 0))]) [])))))))))
theorem x_two12 : xfn Try.prog { ex := false, inl := [33, 13, 12, 21, 36, 35, 37, 38, 39, 40], loops := [] } Try.f8 [(.int .u8 (.il 12)), (.agg [(.int .u8 (.iv 0)), (.int .i64 (.iv 1)), (.str (.tv 0))]), (.agg [(.int .u8 (.iv 2)), (.int .i64 (.iv 3)), (.str (.tv 1))])] [] ⟨4, 0, 0, 2, 0, 0, 0⟩ = some t_two12 := by kernel_rfl
theorem vc_two12 (i0 i1 i2 i3 : Int) (t0 t1 : ByteArray) (W : Wd) (R : Value → Wd → Prop) (h : t_two12.den Try.prog W.w.heap.size R [] { I := [i0, i1, i2, i3], T := [t0, t1] } W) : CallsI Try.prog 8 #[.int .u8 12, .agg #[.int .u8 i0, .int .i64 i1, .string t0], .agg #[.int .u8 i2, .int .i64 i3, .string t1]] W R :=
  fn_calls Try.func8 _ _ { I := [i0, i1, i2, i3], T := [t0, t1] } _ x_two12 (fun v hv => by cases hv) h

-- callboard/value.Two
def t_two13 : Tree :=
(.new
(.new
(.new
(.br (.un .not (.bin .band (.bin .ieq (.iv 0) (.il 2)) (.bin .ieq (.iv 2) (.il 2))))
 (.wr
 (.ret (.tup [(.agg [(.int .u8 (.il 0)), (.int .i64 (.il 0)), (.str (.tl []))]), (.int .i64 (.il 23))]) []))
 (.grow
 (.br (.bin .band (.bin .ieq (.iv 0) (.il 2)) (.un .not (.bin .ieq (.iv 1) (.il 0))))
  (.grow
  (.br (.bin .band (.bin .ieq (.iv 2) (.il 2)) (.un .not (.bin .ieq (.iv 3) (.il 0))))
   (.grow
   (.wr
   (.ret (.tup [(.agg [(.int .u8 (.il 2)), (.int .i64 (.il 1)), (.str (.tl []))]), (.int .i64 (.il 0))]) [])))
   (.grow
   (.wr
   (.ret (.tup [(.agg [(.int .u8 (.il 2)), (.int .i64 (.il 0)), (.str (.tl []))]), (.int .i64 (.il 0))]) [])))))
  (.grow
  (.wr
  (.ret (.tup [(.agg [(.int .u8 (.il 2)), (.int .i64 (.il 0)), (.str (.tl []))]), (.int .i64 (.il 0))]) [])))))))))
theorem x_two13 : xfn Try.prog { ex := false, inl := [33, 13, 12, 21, 36, 35, 37, 38, 39, 40], loops := [] } Try.f8 [(.int .u8 (.il 13)), (.agg [(.int .u8 (.iv 0)), (.int .i64 (.iv 1)), (.str (.tv 0))]), (.agg [(.int .u8 (.iv 2)), (.int .i64 (.iv 3)), (.str (.tv 1))])] [] ⟨4, 0, 0, 2, 0, 0, 0⟩ = some t_two13 := by kernel_rfl
theorem vc_two13 (i0 i1 i2 i3 : Int) (t0 t1 : ByteArray) (W : Wd) (R : Value → Wd → Prop) (h : t_two13.den Try.prog W.w.heap.size R [] { I := [i0, i1, i2, i3], T := [t0, t1] } W) : CallsI Try.prog 8 #[.int .u8 13, .agg #[.int .u8 i0, .int .i64 i1, .string t0], .agg #[.int .u8 i2, .int .i64 i3, .string t1]] W R :=
  fn_calls Try.func8 _ _ { I := [i0, i1, i2, i3], T := [t0, t1] } _ x_two13 (fun v hv => by cases hv) h

-- callboard/value.Two
def t_two14 : Tree :=
(.new
(.new
(.new
(.br (.un .not (.bin .band (.bin .ieq (.iv 0) (.il 2)) (.bin .ieq (.iv 2) (.il 2))))
 (.wr
 (.ret (.tup [(.agg [(.int .u8 (.il 0)), (.int .i64 (.il 0)), (.str (.tl []))]), (.int .i64 (.il 23))]) []))
 (.grow
 (.br (.un .not (.bin .band (.bin .ieq (.iv 0) (.il 2)) (.un .not (.bin .ieq (.iv 1) (.il 0)))))
  (.grow
  (.br (.bin .band (.bin .ieq (.iv 2) (.il 2)) (.un .not (.bin .ieq (.iv 3) (.il 0))))
   (.grow
   (.wr
   (.ret (.tup [(.agg [(.int .u8 (.il 2)), (.int .i64 (.il 1)), (.str (.tl []))]), (.int .i64 (.il 0))]) [])))
   (.grow
   (.wr
   (.ret (.tup [(.agg [(.int .u8 (.il 2)), (.int .i64 (.il 0)), (.str (.tl []))]), (.int .i64 (.il 0))]) [])))))
  (.grow
  (.wr
  (.ret (.tup [(.agg [(.int .u8 (.il 2)), (.int .i64 (.il 1)), (.str (.tl []))]), (.int .i64 (.il 0))]) [])))))))))
theorem x_two14 : xfn Try.prog { ex := false, inl := [33, 13, 12, 21, 36, 35, 37, 38, 39, 40], loops := [] } Try.f8 [(.int .u8 (.il 14)), (.agg [(.int .u8 (.iv 0)), (.int .i64 (.iv 1)), (.str (.tv 0))]), (.agg [(.int .u8 (.iv 2)), (.int .i64 (.iv 3)), (.str (.tv 1))])] [] ⟨4, 0, 0, 2, 0, 0, 0⟩ = some t_two14 := by kernel_rfl
theorem vc_two14 (i0 i1 i2 i3 : Int) (t0 t1 : ByteArray) (W : Wd) (R : Value → Wd → Prop) (h : t_two14.den Try.prog W.w.heap.size R [] { I := [i0, i1, i2, i3], T := [t0, t1] } W) : CallsI Try.prog 8 #[.int .u8 14, .agg #[.int .u8 i0, .int .i64 i1, .string t0], .agg #[.int .u8 i2, .int .i64 i3, .string t1]] W R :=
  fn_calls Try.func8 _ _ { I := [i0, i1, i2, i3], T := [t0, t1] } _ x_two14 (fun v hv => by cases hv) h

-- callboard/value.Two
def t_two15 : Tree :=
(.new
(.new
(.new
(.br (.un .not (.bin .band (.bin .ieq (.iv 0) (.il 1)) (.bin .ieq (.iv 2) (.il 1))))
 (.wr
 (.ret (.tup [(.agg [(.int .u8 (.il 0)), (.int .i64 (.il 0)), (.str (.tl []))]), (.int .i64 (.il 23))]) []))
 (.call 20 [(.int .u8 (.il 15)), (.int .i64 (.iv 1)), (.int .i64 (.iv 3))] [] (.tup [(.agg [(.int .u8 (.iv 4)), (.int .i64 (.iv 5)), (.str (.tv 2))]), (.int .i64 (.iv 6))]) ⟨3, 0, 0, 1, 0, 0, 0⟩
 (.wr
 (.ret (.tup [(.agg [(.int .u8 (.iv 4)), (.int .i64 (.iv 5)), (.str (.tv 2))]), (.int .i64 (.iv 6))]) [])))))))
theorem x_two15 : xfn Try.prog { ex := false, inl := [33, 13, 12, 21, 36, 35, 37, 38, 39, 40], loops := [] } Try.f8 [(.int .u8 (.il 15)), (.agg [(.int .u8 (.iv 0)), (.int .i64 (.iv 1)), (.str (.tv 0))]), (.agg [(.int .u8 (.iv 2)), (.int .i64 (.iv 3)), (.str (.tv 1))])] [] ⟨4, 0, 0, 2, 0, 0, 0⟩ = some t_two15 := by kernel_rfl
theorem vc_two15 (i0 i1 i2 i3 : Int) (t0 t1 : ByteArray) (W : Wd) (R : Value → Wd → Prop) (h : t_two15.den Try.prog W.w.heap.size R [] { I := [i0, i1, i2, i3], T := [t0, t1] } W) : CallsI Try.prog 8 #[.int .u8 15, .agg #[.int .u8 i0, .int .i64 i1, .string t0], .agg #[.int .u8 i2, .int .i64 i3, .string t1]] W R :=
  fn_calls Try.func8 _ _ { I := [i0, i1, i2, i3], T := [t0, t1] } _ x_two15 (fun v hv => by cases hv) h

-- callboard/value.Two
def t_two : Tree :=
(.new
(.new
(.new
(.br (.bin .ieq (.iv 0) (.il 5))
 (.br (.un .not (.bin .band (.bin .ieq (.iv 1) (.il 1)) (.bin .ieq (.iv 3) (.il 1))))
  (.wr
  (.ret (.tup [(.agg [(.int .u8 (.il 0)), (.int .i64 (.il 0)), (.str (.tl []))]), (.int .i64 (.il 23))]) []))
  (.call 20 [(.int .u8 (.iv 0)), (.int .i64 (.iv 2)), (.int .i64 (.iv 4))] [] (.tup [(.agg [(.int .u8 (.iv 5)), (.int .i64 (.iv 6)), (.str (.tv 2))]), (.int .i64 (.iv 7))]) ⟨3, 0, 0, 1, 0, 0, 0⟩
  (.wr
  (.ret (.tup [(.agg [(.int .u8 (.iv 5)), (.int .i64 (.iv 6)), (.str (.tv 2))]), (.int .i64 (.iv 7))]) []))))
 (.br (.bin .ieq (.iv 0) (.il 6))
  (.br (.un .not (.bin .band (.bin .ieq (.iv 1) (.il 1)) (.bin .ieq (.iv 3) (.il 1))))
   (.wr
   (.ret (.tup [(.agg [(.int .u8 (.il 0)), (.int .i64 (.il 0)), (.str (.tl []))]), (.int .i64 (.il 23))]) []))
   (.call 20 [(.int .u8 (.iv 0)), (.int .i64 (.iv 2)), (.int .i64 (.iv 4))] [] (.tup [(.agg [(.int .u8 (.iv 5)), (.int .i64 (.iv 6)), (.str (.tv 2))]), (.int .i64 (.iv 7))]) ⟨3, 0, 0, 1, 0, 0, 0⟩
   (.wr
   (.ret (.tup [(.agg [(.int .u8 (.iv 5)), (.int .i64 (.iv 6)), (.str (.tv 2))]), (.int .i64 (.iv 7))]) []))))
  (.br (.bin .ieq (.iv 0) (.il 7))
   (.br (.un .not (.bin .band (.bin .ieq (.iv 1) (.il 1)) (.bin .ieq (.iv 3) (.il 1))))
    (.wr
    (.ret (.tup [(.agg [(.int .u8 (.il 0)), (.int .i64 (.il 0)), (.str (.tl []))]), (.int .i64 (.il 23))]) []))
    (.call 20 [(.int .u8 (.iv 0)), (.int .i64 (.iv 2)), (.int .i64 (.iv 4))] [] (.tup [(.agg [(.int .u8 (.iv 5)), (.int .i64 (.iv 6)), (.str (.tv 2))]), (.int .i64 (.iv 7))]) ⟨3, 0, 0, 1, 0, 0, 0⟩
    (.wr
    (.ret (.tup [(.agg [(.int .u8 (.iv 5)), (.int .i64 (.iv 6)), (.str (.tv 2))]), (.int .i64 (.iv 7))]) []))))
   (.br (.bin .ieq (.iv 0) (.il 15))
    (.br (.un .not (.bin .band (.bin .ieq (.iv 1) (.il 1)) (.bin .ieq (.iv 3) (.il 1))))
     (.wr
     (.ret (.tup [(.agg [(.int .u8 (.il 0)), (.int .i64 (.il 0)), (.str (.tl []))]), (.int .i64 (.il 23))]) []))
     (.call 20 [(.int .u8 (.iv 0)), (.int .i64 (.iv 2)), (.int .i64 (.iv 4))] [] (.tup [(.agg [(.int .u8 (.iv 5)), (.int .i64 (.iv 6)), (.str (.tv 2))]), (.int .i64 (.iv 7))]) ⟨3, 0, 0, 1, 0, 0, 0⟩
     (.wr
     (.ret (.tup [(.agg [(.int .u8 (.iv 5)), (.int .i64 (.iv 6)), (.str (.tv 2))]), (.int .i64 (.iv 7))]) []))))
    (.br (.bin .ieq (.iv 0) (.il 8))
     (.br (.un .not (.bin .bor (.bin .band (.bin .ieq (.iv 1) (.il 1)) (.bin .ieq (.iv 3) (.il 1))) (.bin .band (.bin .ieq (.iv 1) (.il 3)) (.bin .ieq (.iv 3) (.il 3)))))
      (.wr
      (.ret (.tup [(.agg [(.int .u8 (.il 0)), (.int .i64 (.il 0)), (.str (.tl []))]), (.int .i64 (.il 23))]) []))
      (.br (.un .not (.bin .band (.bin .ieq (.iv 1) (.il 3)) (.bin .ieq (.iv 3) (.il 3))))
       (.call 20 [(.int .u8 (.iv 0)), (.int .i64 (.iv 2)), (.int .i64 (.iv 4))] [] (.tup [(.agg [(.int .u8 (.iv 5)), (.int .i64 (.iv 6)), (.str (.tv 2))]), (.int .i64 (.iv 7))]) ⟨3, 0, 0, 1, 0, 0, 0⟩
       (.wr
       (.ret (.tup [(.agg [(.int .u8 (.iv 5)), (.int .i64 (.iv 6)), (.str (.tv 2))]), (.int .i64 (.iv 7))]) [])))
       (.br (.bin .bor (.bin .lt (.il 40) (.un .len (.tv 0))) (.bin .lt (.un (.wrap .i64) (.bin .sub (.il 40) (.un .len (.tv 0)))) (.un .len (.tv 1))))
        (.wr
        (.ret (.tup [(.agg [(.int .u8 (.il 0)), (.int .i64 (.il 0)), (.str (.tl []))]), (.int .i64 (.il 20))]) []))
        (.chk (.bin .le (.bin .add (.un .len (.tv 0)) (.un .len (.tv 1))) (.il 9223372036854775807))
        (.grow
        (.wr
        (.ret (.tup [(.agg [(.int .u8 (.il 3)), (.int .i64 (.il 0)), (.str (.bin .cat (.tv 0) (.tv 1)))]), (.int .i64 (.il 0))]) [])))))))
     (.br (.bin .ieq (.iv 0) (.il 9))
      (.br (.un .not (.bin .bor (.bin .band (.bin .ieq (.iv 1) (.il 1)) (.bin .ieq (.iv 3) (.il 1))) (.bin .band (.bin .ieq (.iv 1) (.il 3)) (.bin .ieq (.iv 3) (.il 3)))))
       (.wr
       (.ret (.tup [(.agg [(.int .u8 (.il 0)), (.int .i64 (.il 0)), (.str (.tl []))]), (.int .i64 (.il 23))]) []))
       (.call 18 [(.agg [(.int .u8 (.iv 1)), (.int .i64 (.iv 2)), (.str (.tv 0))]), (.agg [(.int .u8 (.iv 3)), (.int .i64 (.iv 4)), (.str (.tv 1))])] [] (.int .i64 (.iv 5)) ⟨1, 0, 0, 0, 0, 0, 0⟩
       (.br (.bin .lt (.iv 5) (.il 0))
        (.grow
        (.wr
        (.ret (.tup [(.agg [(.int .u8 (.il 2)), (.int .i64 (.il 1)), (.str (.tl []))]), (.int .i64 (.il 0))]) [])))
        (.grow
        (.wr
        (.ret (.tup [(.agg [(.int .u8 (.il 2)), (.int .i64 (.il 0)), (.str (.tl []))]), (.int .i64 (.il 0))]) []))))))
      (.br (.bin .ieq (.iv 0) (.il 10))
       (.br (.un .not (.bin .bor (.bin .band (.bin .ieq (.iv 1) (.il 1)) (.bin .ieq (.iv 3) (.il 1))) (.bin .band (.bin .ieq (.iv 1) (.il 3)) (.bin .ieq (.iv 3) (.il 3)))))
        (.wr
        (.ret (.tup [(.agg [(.int .u8 (.il 0)), (.int .i64 (.il 0)), (.str (.tl []))]), (.int .i64 (.il 23))]) []))
        (.call 18 [(.agg [(.int .u8 (.iv 1)), (.int .i64 (.iv 2)), (.str (.tv 0))]), (.agg [(.int .u8 (.iv 3)), (.int .i64 (.iv 4)), (.str (.tv 1))])] [] (.int .i64 (.iv 5)) ⟨1, 0, 0, 0, 0, 0, 0⟩
        (.br (.bin .le (.iv 5) (.il 0))
         (.grow
         (.wr
         (.ret (.tup [(.agg [(.int .u8 (.il 2)), (.int .i64 (.il 1)), (.str (.tl []))]), (.int .i64 (.il 0))]) [])))
         (.grow
         (.wr
         (.ret (.tup [(.agg [(.int .u8 (.il 2)), (.int .i64 (.il 0)), (.str (.tl []))]), (.int .i64 (.il 0))]) []))))))
       (.br (.bin .ieq (.iv 0) (.il 11))
        (.br (.un .not (.bin .bor (.bin .bor (.bin .band (.bin .ieq (.iv 1) (.il 1)) (.bin .ieq (.iv 3) (.il 1))) (.bin .band (.bin .ieq (.iv 1) (.il 3)) (.bin .ieq (.iv 3) (.il 3)))) (.bin .band (.bin .ieq (.iv 1) (.il 2)) (.bin .ieq (.iv 3) (.il 2)))))
         (.wr
         (.ret (.tup [(.agg [(.int .u8 (.il 0)), (.int .i64 (.il 0)), (.str (.tl []))]), (.int .i64 (.il 23))]) []))
         (.call 19 [(.agg [(.int .u8 (.iv 1)), (.int .i64 (.iv 2)), (.str (.tv 0))]), (.agg [(.int .u8 (.iv 3)), (.int .i64 (.iv 4)), (.str (.tv 1))])] [] (.bool (.bv 0)) ⟨0, 0, 1, 0, 0, 0, 0⟩
         (.br (.bin .beq (.bv 0) (.bin .ieq (.iv 0) (.il 11)))
          (.grow
          (.wr
          (.ret (.tup [(.agg [(.int .u8 (.il 2)), (.int .i64 (.il 1)), (.str (.tl []))]), (.int .i64 (.il 0))]) [])))
          (.grow
          (.wr
          (.ret (.tup [(.agg [(.int .u8 (.il 2)), (.int .i64 (.il 0)), (.str (.tl []))]), (.int .i64 (.il 0))]) []))))))
        (.br (.bin .ieq (.iv 0) (.il 12))
         (.br (.un .not (.bin .bor (.bin .bor (.bin .band (.bin .ieq (.iv 1) (.il 1)) (.bin .ieq (.iv 3) (.il 1))) (.bin .band (.bin .ieq (.iv 1) (.il 3)) (.bin .ieq (.iv 3) (.il 3)))) (.bin .band (.bin .ieq (.iv 1) (.il 2)) (.bin .ieq (.iv 3) (.il 2)))))
          (.wr
          (.ret (.tup [(.agg [(.int .u8 (.il 0)), (.int .i64 (.il 0)), (.str (.tl []))]), (.int .i64 (.il 23))]) []))
          (.call 19 [(.agg [(.int .u8 (.iv 1)), (.int .i64 (.iv 2)), (.str (.tv 0))]), (.agg [(.int .u8 (.iv 3)), (.int .i64 (.iv 4)), (.str (.tv 1))])] [] (.bool (.bv 0)) ⟨0, 0, 1, 0, 0, 0, 0⟩
          (.br (.bin .beq (.bv 0) (.bin .ieq (.iv 0) (.il 11)))
           (.grow
           (.wr
           (.ret (.tup [(.agg [(.int .u8 (.il 2)), (.int .i64 (.il 1)), (.str (.tl []))]), (.int .i64 (.il 0))]) [])))
           (.grow
           (.wr
           (.ret (.tup [(.agg [(.int .u8 (.il 2)), (.int .i64 (.il 0)), (.str (.tl []))]), (.int .i64 (.il 0))]) []))))))
         (.br (.bin .ieq (.iv 0) (.il 13))
          (.br (.un .not (.bin .band (.bin .ieq (.iv 1) (.il 2)) (.bin .ieq (.iv 3) (.il 2))))
           (.wr
           (.ret (.tup [(.agg [(.int .u8 (.il 0)), (.int .i64 (.il 0)), (.str (.tl []))]), (.int .i64 (.il 23))]) []))
           (.grow
           (.br (.bin .band (.bin .ieq (.iv 1) (.il 2)) (.un .not (.bin .ieq (.iv 2) (.il 0))))
            (.grow
            (.br (.bin .band (.bin .ieq (.iv 3) (.il 2)) (.un .not (.bin .ieq (.iv 4) (.il 0))))
             (.grow
             (.wr
             (.ret (.tup [(.agg [(.int .u8 (.il 2)), (.int .i64 (.il 1)), (.str (.tl []))]), (.int .i64 (.il 0))]) [])))
             (.grow
             (.wr
             (.ret (.tup [(.agg [(.int .u8 (.il 2)), (.int .i64 (.il 0)), (.str (.tl []))]), (.int .i64 (.il 0))]) [])))))
            (.grow
            (.wr
            (.ret (.tup [(.agg [(.int .u8 (.il 2)), (.int .i64 (.il 0)), (.str (.tl []))]), (.int .i64 (.il 0))]) []))))))
          (.br (.bin .ieq (.iv 0) (.il 14))
           (.br (.un .not (.bin .band (.bin .ieq (.iv 1) (.il 2)) (.bin .ieq (.iv 3) (.il 2))))
            (.wr
            (.ret (.tup [(.agg [(.int .u8 (.il 0)), (.int .i64 (.il 0)), (.str (.tl []))]), (.int .i64 (.il 23))]) []))
            (.grow
            (.br (.un .not (.bin .band (.bin .ieq (.iv 1) (.il 2)) (.un .not (.bin .ieq (.iv 2) (.il 0)))))
             (.grow
             (.br (.bin .band (.bin .ieq (.iv 3) (.il 2)) (.un .not (.bin .ieq (.iv 4) (.il 0))))
              (.grow
              (.wr
              (.ret (.tup [(.agg [(.int .u8 (.il 2)), (.int .i64 (.il 1)), (.str (.tl []))]), (.int .i64 (.il 0))]) [])))
              (.grow
              (.wr
              (.ret (.tup [(.agg [(.int .u8 (.il 2)), (.int .i64 (.il 0)), (.str (.tl []))]), (.int .i64 (.il 0))]) [])))))
             (.grow
             (.wr
             (.ret (.tup [(.agg [(.int .u8 (.il 2)), (.int .i64 (.il 1)), (.str (.tl []))]), (.int .i64 (.il 0))]) []))))))
           (.wr
           (.ret (.tup [(.agg [(.int .u8 (.il 0)), (.int .i64 (.il 0)), (.str (.tl []))]), (.int .i64 (.il 4))]) []))))))))))))))))
theorem x_two : xfn Try.prog { ex := false, inl := [33, 13, 12, 21, 36, 35, 37, 38, 39, 40], loops := [] } Try.f8 [(.int .u8 (.iv 0)), (.agg [(.int .u8 (.iv 1)), (.int .i64 (.iv 2)), (.str (.tv 0))]), (.agg [(.int .u8 (.iv 3)), (.int .i64 (.iv 4)), (.str (.tv 1))])] [] ⟨5, 0, 0, 2, 0, 0, 0⟩ = some t_two := by kernel_rfl
theorem vc_two (i0 i1 i2 i3 i4 : Int) (t0 t1 : ByteArray) (W : Wd) (R : Value → Wd → Prop) (h : t_two.den Try.prog W.w.heap.size R [] { I := [i0, i1, i2, i3, i4], T := [t0, t1] } W) : CallsI Try.prog 8 #[.int .u8 i0, .agg #[.int .u8 i1, .int .i64 i2, .string t0], .agg #[.int .u8 i3, .int .i64 i4, .string t1]] W R :=
  fn_calls Try.func8 _ _ { I := [i0, i1, i2, i3, i4], T := [t0, t1] } _ x_two (fun v hv => by cases hv) h

-- callboard/value.One
def t_one : Tree :=
(.new
(.new
(.br (.bin .ieq (.iv 0) (.il 3))
 (.br (.un .not (.bin .ieq (.iv 1) (.il 1)))
  (.wr
  (.ret (.tup [(.agg [(.int .u8 (.il 0)), (.int .i64 (.il 0)), (.str (.tl []))]), (.int .i64 (.il 23))]) []))
  (.call 20 [(.int .u8 (.il 15)), (.int .i64 (.il 0)), (.int .i64 (.iv 2))] [] (.tup [(.agg [(.int .u8 (.iv 3)), (.int .i64 (.iv 4)), (.str (.tv 1))]), (.int .i64 (.iv 5))]) ⟨3, 0, 0, 1, 0, 0, 0⟩
  (.wr
  (.ret (.tup [(.agg [(.int .u8 (.iv 3)), (.int .i64 (.iv 4)), (.str (.tv 1))]), (.int .i64 (.iv 5))]) []))))
 (.br (.bin .ieq (.iv 0) (.il 4))
  (.br (.un .not (.bin .ieq (.iv 1) (.il 2)))
   (.wr
   (.ret (.tup [(.agg [(.int .u8 (.il 0)), (.int .i64 (.il 0)), (.str (.tl []))]), (.int .i64 (.il 23))]) []))
   (.grow
   (.br (.un .not (.bin .band (.bin .ieq (.iv 1) (.il 2)) (.un .not (.bin .ieq (.iv 2) (.il 0)))))
    (.grow
    (.wr
    (.ret (.tup [(.agg [(.int .u8 (.il 2)), (.int .i64 (.il 1)), (.str (.tl []))]), (.int .i64 (.il 0))]) [])))
    (.grow
    (.wr
    (.ret (.tup [(.agg [(.int .u8 (.il 2)), (.int .i64 (.il 0)), (.str (.tl []))]), (.int .i64 (.il 0))]) []))))))
  (.br (.bin .ieq (.iv 0) (.il 16))
   (.br (.un .not (.bin .ieq (.iv 1) (.il 3)))
    (.wr
    (.ret (.tup [(.agg [(.int .u8 (.il 0)), (.int .i64 (.il 0)), (.str (.tl []))]), (.int .i64 (.il 23))]) []))
    (.grow
    (.wr
    (.ret (.tup [(.agg [(.int .u8 (.il 1)), (.int .i64 (.un .len (.tv 0))), (.str (.tl []))]), (.int .i64 (.il 0))]) []))))
   (.wr
   (.ret (.tup [(.agg [(.int .u8 (.il 0)), (.int .i64 (.il 0)), (.str (.tl []))]), (.int .i64 (.il 4))]) [])))))))
theorem x_one : xfn Try.prog { ex := false, inl := [33, 13, 12, 21, 36, 35, 37, 38, 39, 40], loops := [] } Try.f15 [(.int .u8 (.iv 0)), (.agg [(.int .u8 (.iv 1)), (.int .i64 (.iv 2)), (.str (.tv 0))])] [] ⟨3, 0, 0, 1, 0, 0, 0⟩ = some t_one := by kernel_rfl
theorem vc_one (i0 i1 i2 : Int) (t0 : ByteArray) (W : Wd) (R : Value → Wd → Prop) (h : t_one.den Try.prog W.w.heap.size R [] { I := [i0, i1, i2], T := [t0] } W) : CallsI Try.prog 15 #[.int .u8 i0, .agg #[.int .u8 i1, .int .i64 i2, .string t0]] W R :=
  fn_calls Try.func15 _ _ { I := [i0, i1, i2], T := [t0] } _ x_one (fun v hv => by cases hv) h

end Go.Proofs.Ytpekccomahikbaa
