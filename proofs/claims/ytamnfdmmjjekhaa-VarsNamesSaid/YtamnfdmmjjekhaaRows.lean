/-
  No cell of these rows narrows 'for every input' (looked for: loops, veiled, ifaces, maps, wideKeys, modest, calm, conditions, laid).
  DERIVED. THE GIVEN ROWS OF THIS SEAT. 6 by the template 'for every input the law returns true; each argument reads behind the call as it read before'; 0 by the template 'total and deterministic' (their statements: YtamnfdmmjjekhaaTotals.lean).
  GIVEN WITH THE SEED: the statements are not yours to turn. If you find one false, say at which input.
  Laid BY PROGRAM, IN A SANDBOX (cutbox-rows.mjs): the forced cells as the released guide's own fill.sh prints them over the translation 2a370bd356b062d3… (all of the seat's roots in one cut). By AI agents, Wed Nov 11 2026. No macro, syntax, notation, axiom, sorry.
-/
import Derived.Test.YtamnfdmmjjekhaaChecked
import GoSem.Claim
import GoSem.ClaimJoined
import GoSem.ClaimMapViews
import Derived.JoinedTies
import Derived.KernelRfl
namespace Go.Proofs.Ytamnfdmmjjekhaa
/- THE CELL 'sum', in the pinned program and in every row, IS THE sha256 OF THE DUMP (.gsa) THAT YtamnfdmmjjekhaaProg.lean LOADS. Nothing in Lean hashes anything: it is a label: what it is worth is what the hold of that sum in a sandbox is worth. -/
noncomputable def Try.pinned : Pinned := { name := "ytamnfdmmjjekhaa", sum := "2a370bd356b062d344fa80f7c0a413deac265daa3f77a641e1db047938e3eb4f", checked := Try.checked }
namespace Rows
def none {H : Type} : Left H := { results := [], args := [] }

/-- 'callboardlaw19.VarsNearest': WHATEVER THE INPUT: true; the input reads as it did. -/
def varsNearestSpec : ChangeSpec := { name := "varsNearest", fn := fun _ => fun
  | [d1, d2, d3, d4, d5] => { results := [.lit (.bool true)], args := [d1, d2, d3, d4, d5] }
  | _ => none }
def varsNearestRow : OpenClaim := { program := "ytamnfdmmjjekhaa", sum := "2a370bd356b062d344fa80f7c0a413deac265daa3f77a641e1db047938e3eb4f", func := "callboard/callboardlaw19.VarsNearest", spec := "varsNearest", unfollowed := true, recurses := true, apart := false }
def VarsNearestSaid : Prop := varsNearestRow.holds Try.pinned (OpenSpec.ofChange varsNearestSpec)

/-- ITS FALSE NEIGHBOUR: 'it returns false'. Refute it at one input. -/
def varsNearestWrong : ChangeSpec := { name := "varsNearest", fn := fun _ => fun
  | [d1, d2, d3, d4, d5] => { results := [.lit (.bool false)], args := [d1, d2, d3, d4, d5] }
  | _ => none }
def VarsNearestWrongFalsely : Prop := varsNearestRow.holds Try.pinned (OpenSpec.ofChange varsNearestWrong)

/-- 'callboardlaw19.VarsPut': WHATEVER THE INPUT: true; the input reads as it did. -/
def varsPutSpec : ChangeSpec := { name := "varsPut", fn := fun _ => fun
  | [d1, d2, d3, d4, d5] => { results := [.lit (.bool true)], args := [d1, d2, d3, d4, d5] }
  | _ => none }
def varsPutRow : OpenClaim := { program := "ytamnfdmmjjekhaa", sum := "2a370bd356b062d344fa80f7c0a413deac265daa3f77a641e1db047938e3eb4f", func := "callboard/callboardlaw19.VarsPut", spec := "varsPut", unfollowed := true, recurses := true, apart := false }
def VarsPutSaid : Prop := varsPutRow.holds Try.pinned (OpenSpec.ofChange varsPutSpec)

/-- ITS FALSE NEIGHBOUR: 'it returns false'. Refute it at one input. -/
def varsPutWrong : ChangeSpec := { name := "varsPut", fn := fun _ => fun
  | [d1, d2, d3, d4, d5] => { results := [.lit (.bool false)], args := [d1, d2, d3, d4, d5] }
  | _ => none }
def VarsPutWrongFalsely : Prop := varsPutRow.holds Try.pinned (OpenSpec.ofChange varsPutWrong)

/-- 'callboardlaw19.VarsCall': WHATEVER THE INPUT: true; the input reads as it did. -/
def varsCallSpec : ChangeSpec := { name := "varsCall", fn := fun _ => fun
  | [d1, d2, d3] => { results := [.lit (.bool true)], args := [d1, d2, d3] }
  | _ => none }
def varsCallRow : OpenClaim := { program := "ytamnfdmmjjekhaa", sum := "2a370bd356b062d344fa80f7c0a413deac265daa3f77a641e1db047938e3eb4f", func := "callboard/callboardlaw19.VarsCall", spec := "varsCall", unfollowed := true, recurses := true, apart := false }
def VarsCallSaid : Prop := varsCallRow.holds Try.pinned (OpenSpec.ofChange varsCallSpec)

/-- ITS FALSE NEIGHBOUR: 'it returns false'. Refute it at one input. -/
def varsCallWrong : ChangeSpec := { name := "varsCall", fn := fun _ => fun
  | [d1, d2, d3] => { results := [.lit (.bool false)], args := [d1, d2, d3] }
  | _ => none }
def VarsCallWrongFalsely : Prop := varsCallRow.holds Try.pinned (OpenSpec.ofChange varsCallWrong)

/-- 'callboardlaw19.VarsEnv': WHATEVER THE INPUT: true; the input reads as it did. -/
def varsEnvSpec : ChangeSpec := { name := "varsEnv", fn := fun _ => fun
  | [d1, d2, d3] => { results := [.lit (.bool true)], args := [d1, d2, d3] }
  | _ => none }
def varsEnvRow : OpenClaim := { program := "ytamnfdmmjjekhaa", sum := "2a370bd356b062d344fa80f7c0a413deac265daa3f77a641e1db047938e3eb4f", func := "callboard/callboardlaw19.VarsEnv", spec := "varsEnv", unfollowed := true, recurses := true, apart := false }
def VarsEnvSaid : Prop := varsEnvRow.holds Try.pinned (OpenSpec.ofChange varsEnvSpec)

/-- ITS FALSE NEIGHBOUR: 'it returns false'. Refute it at one input. -/
def varsEnvWrong : ChangeSpec := { name := "varsEnv", fn := fun _ => fun
  | [d1, d2, d3] => { results := [.lit (.bool false)], args := [d1, d2, d3] }
  | _ => none }
def VarsEnvWrongFalsely : Prop := varsEnvRow.holds Try.pinned (OpenSpec.ofChange varsEnvWrong)

/-- 'callboardlaw19.VarsDropped': WHATEVER THE INPUT: true; the input reads as it did. -/
def varsDroppedSpec : ChangeSpec := { name := "varsDropped", fn := fun _ => fun
  | [d1, d2, d3] => { results := [.lit (.bool true)], args := [d1, d2, d3] }
  | _ => none }
def varsDroppedRow : OpenClaim := { program := "ytamnfdmmjjekhaa", sum := "2a370bd356b062d344fa80f7c0a413deac265daa3f77a641e1db047938e3eb4f", func := "callboard/callboardlaw19.VarsDropped", spec := "varsDropped", unfollowed := true, recurses := true, apart := false }
def VarsDroppedSaid : Prop := varsDroppedRow.holds Try.pinned (OpenSpec.ofChange varsDroppedSpec)

/-- ITS FALSE NEIGHBOUR: 'it returns false'. Refute it at one input. -/
def varsDroppedWrong : ChangeSpec := { name := "varsDropped", fn := fun _ => fun
  | [d1, d2, d3] => { results := [.lit (.bool false)], args := [d1, d2, d3] }
  | _ => none }
def VarsDroppedWrongFalsely : Prop := varsDroppedRow.holds Try.pinned (OpenSpec.ofChange varsDroppedWrong)

/-- 'callboardlaw19.VarsNames': WHATEVER THE INPUT: true; the input reads as it did. -/
def varsNamesSpec : ChangeSpec := { name := "varsNames", fn := fun _ => fun
  | [] => { results := [.lit (.bool true)], args := [] }
  | _ => none }
def varsNamesRow : OpenClaim := { program := "ytamnfdmmjjekhaa", sum := "2a370bd356b062d344fa80f7c0a413deac265daa3f77a641e1db047938e3eb4f", func := "callboard/callboardlaw19.VarsNames", spec := "varsNames", unfollowed := true, recurses := true, apart := false }
def VarsNamesSaid : Prop := varsNamesRow.holds Try.pinned (OpenSpec.ofChange varsNamesSpec)

/-- ITS FALSE NEIGHBOUR: 'it returns false'. Refute it at one input. -/
def varsNamesWrong : ChangeSpec := { name := "varsNames", fn := fun _ => fun
  | [] => { results := [.lit (.bool false)], args := [] }
  | _ => none }
def VarsNamesWrongFalsely : Prop := varsNamesRow.holds Try.pinned (OpenSpec.ofChange varsNamesWrong)

/- THE SECOND FORM. 'bulk': how many values and letters a reading holds, each counted each time it is reached (what is shared counts as often as it is met; a slice's spare places count too). A statement '..UptoSaid' is the law's where the arguments, and the package variables that the reading takes, are together of bulk at most 1048576: NARROWER than '..Said'. Prove '..Said' where nothing that the law and all that it calls make is longer than what came in: it says more and counts as full. Else prove '..UptoSaid'. A law counts once. -/
mutual
def uptoBulk {H : Type} : DataW H → Nat
  | .lit (.string bytes) => bytes.length + 1
  | .lit _ => 1
  | .nil => 1
  | .ptr d => uptoBulk d + 1
  | .slice elems spare => uptoBulkAll elems + uptoBulkAll spare + 1
  | .agg parts => uptoBulkAll parts + 1
  | .iface _ d => uptoBulk d + 1
  | .map entries => uptoBulkEntries entries + 1
  | .held _ => 1
def uptoBulkAll {H : Type} : List (DataW H) → Nat
  | [] => 0
  | d :: r => uptoBulk d + uptoBulkAll r
def uptoBulkEntries {H : Type} : List (Lit × DataW H) → Nat
  | [] => 0
  | x :: r => uptoBulkEntry x + uptoBulkEntries r
def uptoBulkEntry {H : Type} : Lit × DataW H → Nat
  | (.string bytes, d) => bytes.length + uptoBulk d + 1
  | (_, d) => uptoBulk d + 1
 end
def uptoSmall : (H : Type) → List (DataW H) → Bool := fun _ ds => decide (uptoBulkAll ds ≤ 1048576)
def OpenSpec.upto (s : _root_.Go.ChangeSpec) : _root_.Go.OpenSpec := { _root_.Go.OpenSpec.ofChange s with cond := some uptoSmall }

/-- 'callboardlaw19.VarsNearest', WHERE WHAT IT READS IS OF BULK AT MOST 1048576: true; the input reads as it did. -/
def varsNearestUptoRow : OpenClaim := { program := "ytamnfdmmjjekhaa", sum := "2a370bd356b062d344fa80f7c0a413deac265daa3f77a641e1db047938e3eb4f", func := "callboard/callboardlaw19.VarsNearest", spec := "varsNearest", unfollowed := true, recurses := true, apart := false, narrowed := true }
def VarsNearestUptoSaid : Prop := varsNearestUptoRow.holds Try.pinned (OpenSpec.upto varsNearestSpec)

/-- 'callboardlaw19.VarsPut', WHERE WHAT IT READS IS OF BULK AT MOST 1048576: true; the input reads as it did. -/
def varsPutUptoRow : OpenClaim := { program := "ytamnfdmmjjekhaa", sum := "2a370bd356b062d344fa80f7c0a413deac265daa3f77a641e1db047938e3eb4f", func := "callboard/callboardlaw19.VarsPut", spec := "varsPut", unfollowed := true, recurses := true, apart := false, narrowed := true }
def VarsPutUptoSaid : Prop := varsPutUptoRow.holds Try.pinned (OpenSpec.upto varsPutSpec)

/-- 'callboardlaw19.VarsCall', WHERE WHAT IT READS IS OF BULK AT MOST 1048576: true; the input reads as it did. -/
def varsCallUptoRow : OpenClaim := { program := "ytamnfdmmjjekhaa", sum := "2a370bd356b062d344fa80f7c0a413deac265daa3f77a641e1db047938e3eb4f", func := "callboard/callboardlaw19.VarsCall", spec := "varsCall", unfollowed := true, recurses := true, apart := false, narrowed := true }
def VarsCallUptoSaid : Prop := varsCallUptoRow.holds Try.pinned (OpenSpec.upto varsCallSpec)

/-- 'callboardlaw19.VarsEnv', WHERE WHAT IT READS IS OF BULK AT MOST 1048576: true; the input reads as it did. -/
def varsEnvUptoRow : OpenClaim := { program := "ytamnfdmmjjekhaa", sum := "2a370bd356b062d344fa80f7c0a413deac265daa3f77a641e1db047938e3eb4f", func := "callboard/callboardlaw19.VarsEnv", spec := "varsEnv", unfollowed := true, recurses := true, apart := false, narrowed := true }
def VarsEnvUptoSaid : Prop := varsEnvUptoRow.holds Try.pinned (OpenSpec.upto varsEnvSpec)

/-- 'callboardlaw19.VarsDropped', WHERE WHAT IT READS IS OF BULK AT MOST 1048576: true; the input reads as it did. -/
def varsDroppedUptoRow : OpenClaim := { program := "ytamnfdmmjjekhaa", sum := "2a370bd356b062d344fa80f7c0a413deac265daa3f77a641e1db047938e3eb4f", func := "callboard/callboardlaw19.VarsDropped", spec := "varsDropped", unfollowed := true, recurses := true, apart := false, narrowed := true }
def VarsDroppedUptoSaid : Prop := varsDroppedUptoRow.holds Try.pinned (OpenSpec.upto varsDroppedSpec)

/-- 'callboardlaw19.VarsNames', WHERE WHAT IT READS IS OF BULK AT MOST 1048576: true; the input reads as it did. -/
def varsNamesUptoRow : OpenClaim := { program := "ytamnfdmmjjekhaa", sum := "2a370bd356b062d344fa80f7c0a413deac265daa3f77a641e1db047938e3eb4f", func := "callboard/callboardlaw19.VarsNames", spec := "varsNames", unfollowed := true, recurses := true, apart := false, narrowed := true }
def VarsNamesUptoSaid : Prop := varsNamesUptoRow.holds Try.pinned (OpenSpec.upto varsNamesSpec)

end Rows
end Go.Proofs.Ytamnfdmmjjekhaa
