/- VarsNames' walk, joined with what is handed in: nothing. -/
import Derived.Test.YtamnfdmmjjekhaaKit
import Derived.Test.YtamnfdmmjjekhaaVrLNames
namespace Go.Proofs.Ytamnfdmmjjekhaa
open Go Go.RowKit Go.SF Go.Own
theorem varsNames_walk (W : World) : Calls Try.prog 8 #[] W fun e w' => e = .returned (.bool true) ∧ Up W w' :=
  (lnames_q (Wd.of W)).out
end Go.Proofs.Ytamnfdmmjjekhaa
