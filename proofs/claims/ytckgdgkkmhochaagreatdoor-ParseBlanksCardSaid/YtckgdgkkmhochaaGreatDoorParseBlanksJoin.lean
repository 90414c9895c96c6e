/- ParseBlanks: the walk, in the terms of the law's frame. -/
import Derived.Test.YtckgdgkkmhochaaGreatDoorParseJoin
import Derived.Test.YtckgdgkkmhochaaGreatDoorPxBlanks
namespace Go.Proofs.YtckgdgkkmhochaaGreatDoor
open Go Go.RowKit Go.SF Go.Own
theorem parseBlanks_walk (t : ByteArray) (n : Int) (W : World) (ht : t.size ≤ 140737488351232) (_ : (Lit.int .i64 n).wf = true) (hL : laidMetH Tryz.prog parseLaid W) (sh : W.ShapedOpen Tryz.prog) :
    Calls Tryz.prog 5 #[.string t, .int .i64 n] W fun e w' => e = .returned (.bool true) ∧ Up W w' := by
  have h := blanks_q t.data.toList n (by rw [size_len]; omega) (Wd.of W).all (glob_of hL sh) (tabs_of (table hL))
  rw [ba_list] at h
  exact h.out
end Go.Proofs.YtckgdgkkmhochaaGreatDoor
