/- What is left to show of functions, as the walk that the kernel computes finds it (written by wip/vc2.py). -/
import Derived.Test.YtijinopghlpdbaaGreatDoorProg
import Derived.Test.YtijinopghlpdbaaGreatDoorSfD
namespace Go.Proofs.YtijinopghlpdbaaGreatDoor
open Go Go.RowKit Go.SF
set_option maxRecDepth 100000

-- callboard/parse.Parse
@[reducible] def t_parse_1 : Tree := (.wr (.ret (.tup [(.agg [(.int .u8 (.il 0)), (.int .u8 (.il 0)), (.int .i64 (.il 0)), (.str (.tl [])), (.str (.tl [])), .nils]), (.int .i64 (.iv 0))]) [] [] []))
@[reducible] def t_parse_2 : Tree := (.wr (.ret (.tup [(.agg [(.int .u8 (.il 0)), (.int .u8 (.il 0)), (.int .i64 (.il 0)), (.str (.tl [])), (.str (.tl [])), .nils]), (.int .i64 (.il 4))]) [] [] []))
@[reducible] def t_parse_3 : Tree := (.wr (.ret (.tup [(.agg [(.int .u8 (.il 0)), (.int .u8 (.il 0)), (.int .i64 (.il 0)), (.str (.tl [])), (.str (.tl [])), .nils]), (.int .i64 (.il 40))]) [] [] []))
@[reducible] def t_parse_4 : Tree := (.wr (.ret (.tup [(.agg [(.int .u8 (.iv 1)), (.int .u8 (.iv 2)), (.int .i64 (.iv 3)), (.str (.tv 1)), (.str (.tv 2)), (.slc 1 (.nv 2) (.nv 3))]), (.int .i64 (.il 0))]) [] [] []))
@[reducible] def t_parse_5 : Tree := (.call 42 [(.agg [(.int .u8 (.iv 1)), (.int .u8 (.iv 2)), (.int .i64 (.iv 3)), (.str (.tv 1)), (.str (.tv 2)), (.slc 1 (.nv 2) (.nv 3))])] [] [] [] (.int .i64 (.iv 4)) ⟨1, 0, 0, 0, 0, 0, 0, 0⟩ (.br (.bin .lt (.il 16) (.iv 4)) t_parse_3 t_parse_4))
@[reducible] def t_parse_6 : Tree := (.call 41 [(.slc 0 (.nv 0) (.nv 1))] [] [] [] (.tup [(.agg [(.int .u8 (.iv 1)), (.int .u8 (.iv 2)), (.int .i64 (.iv 3)), (.str (.tv 1)), (.str (.tv 2)), (.slc 1 (.nv 2) (.nv 3))]), (.bool (.bv 0))]) ⟨3, 2, 1, 2, 0, 1, 0, 0⟩ (.new (.wr (.br (.un .not (.bv 0)) t_parse_2 t_parse_5))))
@[reducible] def t_parse : Tree :=
(.new (.call 40 [(.str (.tv 0))] [] [] [] (.tup [(.slc 0 (.nv 0) (.nv 1)), (.int .i64 (.iv 0))]) ⟨1, 2, 0, 0, 0, 1, 0, 0⟩ (.br (.un .not (.bin .ieq (.iv 0) (.il 0))) t_parse_1 t_parse_6)))
theorem x_parse : xfn Tryz.prog { ex := false, inl := [], loops := [], unroll := [], mu := [], mus := [], stays := [], rowT := [], rwx := false, rws := [] } Tryz.f22 [(.str (.tv 0))] [] [] ⟨0, 0, 0, 1, 0, 0, 0, 0⟩ = some t_parse := by kernel_rfl
theorem vc_parse (t0 : ByteArray) (W : Wd) (R : Ending → World → Prop) (h : t_parse.den Tryz.prog W.w.heap.size R [] { T := [t0] } W) : CallsE Tryz.prog 22 #[.string t0] W R :=
  fn_calls Tryz.func22 _ _ { T := [t0] } _ x_parse (fun v hv => by cases hv) h

end Go.Proofs.YtijinopghlpdbaaGreatDoor
