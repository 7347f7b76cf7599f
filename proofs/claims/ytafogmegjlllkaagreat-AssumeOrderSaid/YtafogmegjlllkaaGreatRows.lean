/-
  No cell of these rows narrows 'for every input' (looked for: loops, veiled, ifaces, maps, wideKeys, modest, calm, conditions, laid).
  DERIVED. THE GIVEN ROWS OF THIS SEAT. 6 by the template 'for every input the law returns true; each argument reads behind the call as it read before'; 0 by the template 'total and deterministic' (their statements: YtafogmegjlllkaaGreatTotals.lean).
  GIVEN WITH THE SEED: the statements are not yours to turn. If you find one false, say at which input.
  Laid BY PROGRAM, IN A SANDBOX (cutbox-rows.mjs): the forced cells as the released guide's own fill.sh prints them over the translation 13a552ec93214a27… (all of the seat's roots in one cut). By AI agents, Wed Nov 11 2026. No macro, syntax, notation, axiom, sorry.
-/
import Derived.Test.YtafogmegjlllkaaGreatChecked
import GoSem.Claim
import GoSem.ClaimJoined
import GoSem.ClaimMapViews
import Derived.JoinedTies
import Derived.KernelRfl
namespace Go.Proofs.YtafogmegjlllkaaGreat
/- THE CELL 'sum', in the pinned program and in every row, IS THE sha256 OF THE DUMP (.gsa) THAT YtafogmegjlllkaaGreatProg.lean LOADS. Nothing in Lean hashes anything: it is a label: what it is worth is what the hold of that sum in a sandbox is worth. -/
noncomputable def Tryz.pinned : Pinned := { name := "ytafogmegjlllkaagreat", sum := "13a552ec93214a27d3c18533bea9554fa90b7f4a5645d7c15bbaf30c4a6ace9e", checked := Tryz.checked }
namespace Rows
def none {H : Type} : Left H := { results := [], args := [] }

/-- 'spiritleveltop.TopSolver': WHATEVER THE INPUT: true; the input reads as it did. -/
def topSolverSpec : ChangeSpec := { name := "topSolver", fn := fun _ => fun
  | [d1, d2, d3] => { results := [.lit (.bool true)], args := [d1, d2, d3] }
  | _ => none }
def topSolverRow : OpenClaim := { program := "ytafogmegjlllkaagreat", sum := "13a552ec93214a27d3c18533bea9554fa90b7f4a5645d7c15bbaf30c4a6ace9e", func := "spiritlevel/spiritleveltop.TopSolver", spec := "topSolver", unfollowed := true, recurses := true, apart := false }
def TopSolverSaid : Prop := topSolverRow.holds Tryz.pinned (OpenSpec.ofChange topSolverSpec)

/-- ITS FALSE NEIGHBOUR: 'it returns false'. Refute it at one input. -/
def topSolverWrong : ChangeSpec := { name := "topSolver", fn := fun _ => fun
  | [d1, d2, d3] => { results := [.lit (.bool false)], args := [d1, d2, d3] }
  | _ => none }
def TopSolverWrongFalsely : Prop := topSolverRow.holds Tryz.pinned (OpenSpec.ofChange topSolverWrong)

/-- 'spiritlevellaw20.AssumeCore': WHATEVER THE INPUT: true; the input reads as it did. -/
def assumeCoreSpec : ChangeSpec := { name := "assumeCore", fn := fun _ => fun
  | [d1, d2, d3] => { results := [.lit (.bool true)], args := [d1, d2, d3] }
  | _ => none }
def assumeCoreRow : OpenClaim := { program := "ytafogmegjlllkaagreat", sum := "13a552ec93214a27d3c18533bea9554fa90b7f4a5645d7c15bbaf30c4a6ace9e", func := "spiritlevel/spiritlevellaw20.AssumeCore", spec := "assumeCore", unfollowed := true, recurses := true, apart := false }
def AssumeCoreSaid : Prop := assumeCoreRow.holds Tryz.pinned (OpenSpec.ofChange assumeCoreSpec)

/-- ITS FALSE NEIGHBOUR: 'it returns false'. Refute it at one input. -/
def assumeCoreWrong : ChangeSpec := { name := "assumeCore", fn := fun _ => fun
  | [d1, d2, d3] => { results := [.lit (.bool false)], args := [d1, d2, d3] }
  | _ => none }
def AssumeCoreWrongFalsely : Prop := assumeCoreRow.holds Tryz.pinned (OpenSpec.ofChange assumeCoreWrong)

/-- 'spiritlevellaw20.AssumeLeast': WHATEVER THE INPUT: true; the input reads as it did. -/
def assumeLeastSpec : ChangeSpec := { name := "assumeLeast", fn := fun _ => fun
  | [d1, d2, d3] => { results := [.lit (.bool true)], args := [d1, d2, d3] }
  | _ => none }
def assumeLeastRow : OpenClaim := { program := "ytafogmegjlllkaagreat", sum := "13a552ec93214a27d3c18533bea9554fa90b7f4a5645d7c15bbaf30c4a6ace9e", func := "spiritlevel/spiritlevellaw20.AssumeLeast", spec := "assumeLeast", unfollowed := true, recurses := true, apart := false }
def AssumeLeastSaid : Prop := assumeLeastRow.holds Tryz.pinned (OpenSpec.ofChange assumeLeastSpec)

/-- ITS FALSE NEIGHBOUR: 'it returns false'. Refute it at one input. -/
def assumeLeastWrong : ChangeSpec := { name := "assumeLeast", fn := fun _ => fun
  | [d1, d2, d3] => { results := [.lit (.bool false)], args := [d1, d2, d3] }
  | _ => none }
def AssumeLeastWrongFalsely : Prop := assumeLeastRow.holds Tryz.pinned (OpenSpec.ofChange assumeLeastWrong)

/-- 'spiritlevellaw20.AssumeNone': WHATEVER THE INPUT: true; the input reads as it did. -/
def assumeNoneSpec : ChangeSpec := { name := "assumeNone", fn := fun _ => fun
  | [d1, d2, d3] => { results := [.lit (.bool true)], args := [d1, d2, d3] }
  | _ => none }
def assumeNoneRow : OpenClaim := { program := "ytafogmegjlllkaagreat", sum := "13a552ec93214a27d3c18533bea9554fa90b7f4a5645d7c15bbaf30c4a6ace9e", func := "spiritlevel/spiritlevellaw20.AssumeNone", spec := "assumeNone", unfollowed := true, recurses := true, apart := false }
def AssumeNoneSaid : Prop := assumeNoneRow.holds Tryz.pinned (OpenSpec.ofChange assumeNoneSpec)

/-- ITS FALSE NEIGHBOUR: 'it returns false'. Refute it at one input. -/
def assumeNoneWrong : ChangeSpec := { name := "assumeNone", fn := fun _ => fun
  | [d1, d2, d3] => { results := [.lit (.bool false)], args := [d1, d2, d3] }
  | _ => none }
def AssumeNoneWrongFalsely : Prop := assumeNoneRow.holds Tryz.pinned (OpenSpec.ofChange assumeNoneWrong)

/-- 'spiritlevellaw20.AssumeOrder': WHATEVER THE INPUT: true; the input reads as it did. -/
def assumeOrderSpec : ChangeSpec := { name := "assumeOrder", fn := fun _ => fun
  | [d1, d2, d3, d4, d5] => { results := [.lit (.bool true)], args := [d1, d2, d3, d4, d5] }
  | _ => none }
def assumeOrderRow : OpenClaim := { program := "ytafogmegjlllkaagreat", sum := "13a552ec93214a27d3c18533bea9554fa90b7f4a5645d7c15bbaf30c4a6ace9e", func := "spiritlevel/spiritlevellaw20.AssumeOrder", spec := "assumeOrder", unfollowed := true, recurses := true, apart := false }
def AssumeOrderSaid : Prop := assumeOrderRow.holds Tryz.pinned (OpenSpec.ofChange assumeOrderSpec)

/-- ITS FALSE NEIGHBOUR: 'it returns false'. Refute it at one input. -/
def assumeOrderWrong : ChangeSpec := { name := "assumeOrder", fn := fun _ => fun
  | [d1, d2, d3, d4, d5] => { results := [.lit (.bool false)], args := [d1, d2, d3, d4, d5] }
  | _ => none }
def AssumeOrderWrongFalsely : Prop := assumeOrderRow.holds Tryz.pinned (OpenSpec.ofChange assumeOrderWrong)

/-- 'spiritlevellaw20.AssumeLog': WHATEVER THE INPUT: true; the input reads as it did. -/
def assumeLogSpec : ChangeSpec := { name := "assumeLog", fn := fun _ => fun
  | [d1, d2, d3] => { results := [.lit (.bool true)], args := [d1, d2, d3] }
  | _ => none }
def assumeLogRow : OpenClaim := { program := "ytafogmegjlllkaagreat", sum := "13a552ec93214a27d3c18533bea9554fa90b7f4a5645d7c15bbaf30c4a6ace9e", func := "spiritlevel/spiritlevellaw20.AssumeLog", spec := "assumeLog", unfollowed := true, recurses := true, apart := false }
def AssumeLogSaid : Prop := assumeLogRow.holds Tryz.pinned (OpenSpec.ofChange assumeLogSpec)

/-- ITS FALSE NEIGHBOUR: 'it returns false'. Refute it at one input. -/
def assumeLogWrong : ChangeSpec := { name := "assumeLog", fn := fun _ => fun
  | [d1, d2, d3] => { results := [.lit (.bool false)], args := [d1, d2, d3] }
  | _ => none }
def AssumeLogWrongFalsely : Prop := assumeLogRow.holds Tryz.pinned (OpenSpec.ofChange assumeLogWrong)

/- THE SECOND FORM. 'bulk': how many values and letters a reading holds, each counted each time it is reached (what is shared counts as often as it is met; a slice's spare places count too). A statement '..UptoSaid' is the law's where the arguments, and the package variables that the reading takes, are together of bulk at most 1048576: NARROWER than '..Said'. Prove '..Said' where nothing that the law and all that it calls make is longer than what came in: it says more and counts as full. Else prove '..UptoSaid'. A law counts once. -/
mutual
def uptoBulk {H : Type} : DataW H → Nat
  | .lit (.string bytes) => bytes.length + 1
  | .lit _ => 1
  | .nil => 1
  | .ptr d => uptoBulk d + 1
  | .slice elems spare => uptoBulkAll elems + uptoBulkAll spare + 1
  | .agg parts => uptoBulkAll parts + 1
  | .iface _ d => uptoBulk d + 1
  | .map entries => uptoBulkEntries entries + 1
  | .held _ => 1
def uptoBulkAll {H : Type} : List (DataW H) → Nat
  | [] => 0
  | d :: r => uptoBulk d + uptoBulkAll r
def uptoBulkEntries {H : Type} : List (Lit × DataW H) → Nat
  | [] => 0
  | x :: r => uptoBulkEntry x + uptoBulkEntries r
def uptoBulkEntry {H : Type} : Lit × DataW H → Nat
  | (.string bytes, d) => bytes.length + uptoBulk d + 1
  | (_, d) => uptoBulk d + 1
 end
def uptoSmall : (H : Type) → List (DataW H) → Bool := fun _ ds => decide (uptoBulkAll ds ≤ 1048576)
def OpenSpec.upto (s : _root_.Go.ChangeSpec) : _root_.Go.OpenSpec := { _root_.Go.OpenSpec.ofChange s with cond := some uptoSmall }

/-- 'spiritleveltop.TopSolver', WHERE WHAT IT READS IS OF BULK AT MOST 1048576: true; the input reads as it did. -/
def topSolverUptoRow : OpenClaim := { program := "ytafogmegjlllkaagreat", sum := "13a552ec93214a27d3c18533bea9554fa90b7f4a5645d7c15bbaf30c4a6ace9e", func := "spiritlevel/spiritleveltop.TopSolver", spec := "topSolver", unfollowed := true, recurses := true, apart := false, narrowed := true }
def TopSolverUptoSaid : Prop := topSolverUptoRow.holds Tryz.pinned (OpenSpec.upto topSolverSpec)

/-- 'spiritlevellaw20.AssumeCore', WHERE WHAT IT READS IS OF BULK AT MOST 1048576: true; the input reads as it did. -/
def assumeCoreUptoRow : OpenClaim := { program := "ytafogmegjlllkaagreat", sum := "13a552ec93214a27d3c18533bea9554fa90b7f4a5645d7c15bbaf30c4a6ace9e", func := "spiritlevel/spiritlevellaw20.AssumeCore", spec := "assumeCore", unfollowed := true, recurses := true, apart := false, narrowed := true }
def AssumeCoreUptoSaid : Prop := assumeCoreUptoRow.holds Tryz.pinned (OpenSpec.upto assumeCoreSpec)

/-- 'spiritlevellaw20.AssumeLeast', WHERE WHAT IT READS IS OF BULK AT MOST 1048576: true; the input reads as it did. -/
def assumeLeastUptoRow : OpenClaim := { program := "ytafogmegjlllkaagreat", sum := "13a552ec93214a27d3c18533bea9554fa90b7f4a5645d7c15bbaf30c4a6ace9e", func := "spiritlevel/spiritlevellaw20.AssumeLeast", spec := "assumeLeast", unfollowed := true, recurses := true, apart := false, narrowed := true }
def AssumeLeastUptoSaid : Prop := assumeLeastUptoRow.holds Tryz.pinned (OpenSpec.upto assumeLeastSpec)

/-- 'spiritlevellaw20.AssumeNone', WHERE WHAT IT READS IS OF BULK AT MOST 1048576: true; the input reads as it did. -/
def assumeNoneUptoRow : OpenClaim := { program := "ytafogmegjlllkaagreat", sum := "13a552ec93214a27d3c18533bea9554fa90b7f4a5645d7c15bbaf30c4a6ace9e", func := "spiritlevel/spiritlevellaw20.AssumeNone", spec := "assumeNone", unfollowed := true, recurses := true, apart := false, narrowed := true }
def AssumeNoneUptoSaid : Prop := assumeNoneUptoRow.holds Tryz.pinned (OpenSpec.upto assumeNoneSpec)

/-- 'spiritlevellaw20.AssumeOrder', WHERE WHAT IT READS IS OF BULK AT MOST 1048576: true; the input reads as it did. -/
def assumeOrderUptoRow : OpenClaim := { program := "ytafogmegjlllkaagreat", sum := "13a552ec93214a27d3c18533bea9554fa90b7f4a5645d7c15bbaf30c4a6ace9e", func := "spiritlevel/spiritlevellaw20.AssumeOrder", spec := "assumeOrder", unfollowed := true, recurses := true, apart := false, narrowed := true }
def AssumeOrderUptoSaid : Prop := assumeOrderUptoRow.holds Tryz.pinned (OpenSpec.upto assumeOrderSpec)

/-- 'spiritlevellaw20.AssumeLog', WHERE WHAT IT READS IS OF BULK AT MOST 1048576: true; the input reads as it did. -/
def assumeLogUptoRow : OpenClaim := { program := "ytafogmegjlllkaagreat", sum := "13a552ec93214a27d3c18533bea9554fa90b7f4a5645d7c15bbaf30c4a6ace9e", func := "spiritlevel/spiritlevellaw20.AssumeLog", spec := "assumeLog", unfollowed := true, recurses := true, apart := false, narrowed := true }
def AssumeLogUptoSaid : Prop := assumeLogUptoRow.holds Tryz.pinned (OpenSpec.upto assumeLogSpec)

end Rows
end Go.Proofs.YtafogmegjlllkaaGreat
