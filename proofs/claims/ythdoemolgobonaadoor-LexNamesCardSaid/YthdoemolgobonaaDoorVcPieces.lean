/- What is left to show of functions, as the walk that the kernel computes finds it (written by wip/vc2.py). -/
import Derived.Test.YthdoemolgobonaaDoorProg
import Derived.Test.YthdoemolgobonaaDoorSfD
namespace Go.Proofs.YthdoemolgobonaaDoor
open Go Go.RowKit Go.SF
set_option maxRecDepth 100000

-- callboard/callboardlaw10.LexPieces
@[reducible] def t_lexPieces_1 : Tree := (.call 9 [] [] [] [] (.bool (.bv 1)) ⟨0, 0, 1, 0, 0, 0, 0, 0⟩ (.ret (.bool (.bv 1)) [] [] []))
@[reducible] def t_lexPieces_2 : Tree := (.ret (.bool (.bv 1)) [] [] [⟨(.slc 6 (.bin .add (.nv 8) (.nv 10)) (.nv 12)), (.bin .add (.nv 8) (.nv 10)), 39, 2, [(.l 1), (.l 2)]⟩, ⟨(.slc 5 (.nv 10) (.nv 11)), (.nv 10), 39, 2, [(.l 2)]⟩, ⟨(.slc 3 (.nv 6) (.nv 7)), (.nv 6), 39, 2, [(.l 0)]⟩])
@[reducible] def t_lexPieces_3 : Tree := (.chk (.bin .le (.bin .add (.nv 8) (.nv 10)) (.il 5864062014805)) (.app (.bin .add (.nv 8) (.nv 10)) (.call 13 [(.slc 3 (.nv 6) (.nv 7)), (.slc 6 (.bin .add (.nv 8) (.nv 10)) (.nv 12))] [] [⟨(.slc 6 (.bin .add (.nv 8) (.nv 10)) (.nv 12)), (.bin .add (.nv 8) (.nv 10)), 39, 2, [(.l 1), (.l 2)]⟩, ⟨(.slc 5 (.nv 10) (.nv 11)), (.nv 10), 39, 2, [(.l 2)]⟩, ⟨(.slc 3 (.nv 6) (.nv 7)), (.nv 6), 39, 2, [(.l 0)]⟩] [] (.bool (.bv 1)) ⟨0, 0, 1, 0, 0, 0, 0, 0⟩ t_lexPieces_2)))
@[reducible] def t_lexPieces_4 : Tree := (.callr 14 [(.slc 1 (.nv 2) (.nv 3))] [] [⟨(.slc 4 (.nv 8) (.nv 9)), (.nv 8), 39, 2, [(.l 1)]⟩, ⟨(.slc 3 (.nv 6) (.nv 7)), (.nv 6), 39, 2, [(.l 0)]⟩] [] (.slc 5 (.nv 10) (.nv 11)) [⟨(.slc 5 (.nv 10) (.nv 11)), (.nv 10), 39, 2, [(.l 2)]⟩] ⟨0, 2, 0, 0, 0, 1, 0, 1⟩ t_lexPieces_3)
@[reducible] def t_lexPieces_5 : Tree := (.callr 14 [(.slc 0 (.nv 0) (.nv 1))] [] [⟨(.slc 3 (.nv 6) (.nv 7)), (.nv 6), 39, 2, [(.l 0)]⟩] [] (.slc 4 (.nv 8) (.nv 9)) [⟨(.slc 4 (.nv 8) (.nv 9)), (.nv 8), 39, 2, [(.l 1)]⟩] ⟨0, 2, 0, 0, 0, 1, 0, 1⟩ t_lexPieces_4)
@[reducible] def t_lexPieces_6 : Tree := (.callr 14 [(.slc 2 (.nv 4) (.nv 5))] [] [] [] (.slc 3 (.nv 6) (.nv 7)) [⟨(.slc 3 (.nv 6) (.nv 7)), (.nv 6), 39, 2, [(.l 0)]⟩] ⟨0, 2, 0, 0, 0, 1, 0, 1⟩ t_lexPieces_5)
@[reducible] def t_lexPieces_7 : Tree := (.br (.un .not (.bin .ieq (.iv 1) (.il 0))) (.ret (.bool (.bin .ieq (.iv 2) (.iv 1))) [] [] []) (.br (.bin .ieq (.iv 2) (.il 0)) t_lexPieces_6 (.ret (.bool (.bl false)) [] [] [])))
@[reducible] def t_lexPieces_8 : Tree := (.br (.un .not (.bin .ieq (.iv 0) (.il 0))) (.ret (.bool (.bl true)) [] [] []) t_lexPieces_7)
@[reducible] def t_lexPieces_9 : Tree := (.br (.bin .lt (.il 100) (.un (.wrap .i64) (.bin .add (.un (.wrap .i64) (.bin .add (.un .len (.tv 0)) (.un .len (.tv 1)))) (.il 1)))) (.ret (.bool (.bin .ieq (.iv 2) (.il 40))) [] [] []) t_lexPieces_8)
@[reducible] def t_lexPieces_10 : Tree := (.chk (.bin .le (.bin .add (.un .len (.tv 0)) (.un .len (.tl [32]))) (.il 9223372036854775807)) (.chk (.bin .le (.bin .add (.un .len (.bin .cat (.tv 0) (.tl [32]))) (.un .len (.tv 1))) (.il 9223372036854775807)) (.call 10 [(.str (.bin .cat (.bin .cat (.tv 0) (.tl [32])) (.tv 1)))] [] [] [] (.tup [(.slc 2 (.nv 4) (.nv 5)), (.int .i64 (.iv 2))]) ⟨1, 2, 0, 0, 0, 1, 0, 0⟩ t_lexPieces_9)))
@[reducible] def t_lexPieces_11 : Tree := (.call 10 [(.str (.tv 1))] [] [] [] (.tup [(.slc 1 (.nv 2) (.nv 3)), (.int .i64 (.iv 1))]) ⟨1, 2, 0, 0, 0, 1, 0, 0⟩ t_lexPieces_10)
@[reducible] def t_lexPieces_12 : Tree := (.call 10 [(.str (.tv 0))] [] [] [] (.tup [(.slc 0 (.nv 0) (.nv 1)), (.int .i64 (.iv 0))]) ⟨1, 2, 0, 0, 0, 1, 0, 0⟩ t_lexPieces_11)
@[reducible] def t_lexPieces_13 : Tree := (.call 9 [] [] [] [] (.bool (.bv 0)) ⟨0, 0, 1, 0, 0, 0, 0, 0⟩ (.br (.un .not (.bv 0)) t_lexPieces_1 t_lexPieces_12))
@[reducible] def t_lexPieces_14 : Tree := (.call 9 [] [] [] [] (.bool (.bv 0)) ⟨0, 0, 1, 0, 0, 0, 0, 0⟩ (.ret (.bool (.bv 0)) [] [] []))
@[reducible] def t_lexPieces : Tree :=
(.br (.un .not (.bin .lt (.il 1000) (.un (.wrap .i64) (.bin .add (.un .len (.tv 0)) (.un .len (.tv 1)))))) t_lexPieces_13 t_lexPieces_14)
theorem x_lexPieces : xfn Tryd.prog { ex := false, inl := [], loops := [], unroll := [], mu := [], mus := [], rws := [(14, [], [(0, 39, 2)])] } Tryd.f4 [(.str (.tv 0)), (.str (.tv 1))] [] [] ⟨0, 0, 0, 2, 0, 0, 0, 0⟩ = some t_lexPieces := by kernel_rfl
theorem vc_lexPieces (t0 t1 : ByteArray) (W : Wd) (R : Ending → World → Prop) (h : t_lexPieces.den Tryd.prog W.w.heap.size R [] { T := [t0, t1] } W) : CallsE Tryd.prog 4 #[.string t0, .string t1] W R :=
  fn_calls Tryd.func4 _ _ { T := [t0, t1] } _ x_lexPieces (fun v hv => by cases hv) h

end Go.Proofs.YthdoemolgobonaaDoor
