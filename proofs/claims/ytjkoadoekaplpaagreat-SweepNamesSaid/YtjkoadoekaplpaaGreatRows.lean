/-
  No cell of these rows narrows 'for every input' (looked for: loops, veiled, ifaces, maps, wideKeys, modest, calm, conditions, laid).
  DERIVED. THE GIVEN ROWS OF THIS SEAT. 5 by the template 'for every input the law returns true; each argument reads behind the call as it read before'; 0 by the template 'total and deterministic' (their statements: YtjkoadoekaplpaaGreatTotals.lean).
  GIVEN WITH THE SEED: the statements are not yours to turn. If you find one false, say at which input.
  Laid BY PROGRAM, IN A SANDBOX (cutbox-rows.mjs): the forced cells as the released guide's own fill.sh prints them over the translation 3abc5ba086e2dab3… (all of the seat's roots in one cut). By AI agents, Wed Nov 11 2026. No macro, syntax, notation, axiom, sorry.
-/
import Derived.Test.YtjkoadoekaplpaaGreatChecked
import GoSem.Claim
import GoSem.ClaimJoined
import GoSem.ClaimMapViews
import Derived.JoinedTies
import Derived.KernelRfl
namespace Go.Proofs.YtjkoadoekaplpaaGreat
/- THE CELL 'sum', in the pinned program and in every row, IS THE sha256 OF THE DUMP (.gsa) THAT YtjkoadoekaplpaaGreatProg.lean LOADS. Nothing in Lean hashes anything: it is a label: what it is worth is what the hold of that sum in a sandbox is worth. -/
noncomputable def Tryz.pinned : Pinned := { name := "ytjkoadoekaplpaagreat", sum := "3abc5ba086e2dab3f4e1b681d7b1d6f7bb21bad7b58bb58e4f4bd589c28a4005", checked := Tryz.checked }
namespace Rows
def none {H : Type} : Left H := { results := [], args := [] }

/-- 'spiritlevellaw29.SweepPasses': WHATEVER THE INPUT: true; the input reads as it did. -/
def sweepPassesSpec : ChangeSpec := { name := "sweepPasses", fn := fun _ => fun
  | [d1, d2] => { results := [.lit (.bool true)], args := [d1, d2] }
  | _ => none }
def sweepPassesRow : OpenClaim := { program := "ytjkoadoekaplpaagreat", sum := "3abc5ba086e2dab3f4e1b681d7b1d6f7bb21bad7b58bb58e4f4bd589c28a4005", func := "spiritlevel/spiritlevellaw29.SweepPasses", spec := "sweepPasses", unfollowed := true, recurses := true, plainKeys := false, apart := false }
def SweepPassesSaid : Prop := sweepPassesRow.holds Tryz.pinned (OpenSpec.ofChange sweepPassesSpec)

/-- ITS FALSE NEIGHBOUR: 'it returns false'. Refute it at one input. -/
def sweepPassesWrong : ChangeSpec := { name := "sweepPasses", fn := fun _ => fun
  | [d1, d2] => { results := [.lit (.bool false)], args := [d1, d2] }
  | _ => none }
def SweepPassesWrongFalsely : Prop := sweepPassesRow.holds Tryz.pinned (OpenSpec.ofChange sweepPassesWrong)

/-- 'spiritlevellaw29.SweepNames': WHATEVER THE INPUT: true; the input reads as it did. -/
def sweepNamesSpec : ChangeSpec := { name := "sweepNames", fn := fun _ => fun
  | [] => { results := [.lit (.bool true)], args := [] }
  | _ => none }
def sweepNamesRow : OpenClaim := { program := "ytjkoadoekaplpaagreat", sum := "3abc5ba086e2dab3f4e1b681d7b1d6f7bb21bad7b58bb58e4f4bd589c28a4005", func := "spiritlevel/spiritlevellaw29.SweepNames", spec := "sweepNames", unfollowed := true, recurses := true, plainKeys := false, apart := false }
def SweepNamesSaid : Prop := sweepNamesRow.holds Tryz.pinned (OpenSpec.ofChange sweepNamesSpec)

/-- ITS FALSE NEIGHBOUR: 'it returns false'. Refute it at one input. -/
def sweepNamesWrong : ChangeSpec := { name := "sweepNames", fn := fun _ => fun
  | [] => { results := [.lit (.bool false)], args := [] }
  | _ => none }
def SweepNamesWrongFalsely : Prop := sweepNamesRow.holds Tryz.pinned (OpenSpec.ofChange sweepNamesWrong)

/-- 'spiritlevellaw29.SweepAll': WHATEVER THE INPUT: true; the input reads as it did. -/
def sweepAllSpec : ChangeSpec := { name := "sweepAll", fn := fun _ => fun
  | [d] => { results := [.lit (.bool true)], args := [d] }
  | _ => none }
def sweepAllRow : OpenClaim := { program := "ytjkoadoekaplpaagreat", sum := "3abc5ba086e2dab3f4e1b681d7b1d6f7bb21bad7b58bb58e4f4bd589c28a4005", func := "spiritlevel/spiritlevellaw29.SweepAll", spec := "sweepAll", unfollowed := true, recurses := true, plainKeys := false, apart := false }
def SweepAllSaid : Prop := sweepAllRow.holds Tryz.pinned (OpenSpec.ofChange sweepAllSpec)

/-- ITS FALSE NEIGHBOUR: 'it returns false'. Refute it at one input. -/
def sweepAllWrong : ChangeSpec := { name := "sweepAll", fn := fun _ => fun
  | [d] => { results := [.lit (.bool false)], args := [d] }
  | _ => none }
def SweepAllWrongFalsely : Prop := sweepAllRow.holds Tryz.pinned (OpenSpec.ofChange sweepAllWrong)

/-- 'spiritlevellaw29.SweepGiven': WHATEVER THE INPUT: true; the input reads as it did. -/
def sweepGivenSpec : ChangeSpec := { name := "sweepGiven", fn := fun _ => fun
  | [d1, d2, d3, d4] => { results := [.lit (.bool true)], args := [d1, d2, d3, d4] }
  | _ => none }
def sweepGivenRow : OpenClaim := { program := "ytjkoadoekaplpaagreat", sum := "3abc5ba086e2dab3f4e1b681d7b1d6f7bb21bad7b58bb58e4f4bd589c28a4005", func := "spiritlevel/spiritlevellaw29.SweepGiven", spec := "sweepGiven", unfollowed := true, recurses := true, plainKeys := false, apart := false }
def SweepGivenSaid : Prop := sweepGivenRow.holds Tryz.pinned (OpenSpec.ofChange sweepGivenSpec)

/-- ITS FALSE NEIGHBOUR: 'it returns false'. Refute it at one input. -/
def sweepGivenWrong : ChangeSpec := { name := "sweepGiven", fn := fun _ => fun
  | [d1, d2, d3, d4] => { results := [.lit (.bool false)], args := [d1, d2, d3, d4] }
  | _ => none }
def SweepGivenWrongFalsely : Prop := sweepGivenRow.holds Tryz.pinned (OpenSpec.ofChange sweepGivenWrong)

/-- 'spiritlevellaw29.SweepValues': WHATEVER THE INPUT: true; the input reads as it did. -/
def sweepValuesSpec : ChangeSpec := { name := "sweepValues", fn := fun _ => fun
  | [d1, d2, d3, d4] => { results := [.lit (.bool true)], args := [d1, d2, d3, d4] }
  | _ => none }
def sweepValuesRow : OpenClaim := { program := "ytjkoadoekaplpaagreat", sum := "3abc5ba086e2dab3f4e1b681d7b1d6f7bb21bad7b58bb58e4f4bd589c28a4005", func := "spiritlevel/spiritlevellaw29.SweepValues", spec := "sweepValues", unfollowed := true, recurses := true, plainKeys := false, apart := false }
def SweepValuesSaid : Prop := sweepValuesRow.holds Tryz.pinned (OpenSpec.ofChange sweepValuesSpec)

/-- ITS FALSE NEIGHBOUR: 'it returns false'. Refute it at one input. -/
def sweepValuesWrong : ChangeSpec := { name := "sweepValues", fn := fun _ => fun
  | [d1, d2, d3, d4] => { results := [.lit (.bool false)], args := [d1, d2, d3, d4] }
  | _ => none }
def SweepValuesWrongFalsely : Prop := sweepValuesRow.holds Tryz.pinned (OpenSpec.ofChange sweepValuesWrong)

/- THE SECOND FORM. 'bulk': how many values and letters a reading holds, each counted each time it is reached (what is shared counts as often as it is met; a slice's spare places count too). A statement '..UptoSaid' is the law's where the arguments, and the package variables that the reading takes, are together of bulk at most 1048576: NARROWER than '..Said'. Prove '..Said' where nothing that the law and all that it calls make is longer than what came in: it says more and counts as full. Else prove '..UptoSaid'. A law counts once. -/
mutual
def uptoBulk {H : Type} : DataW H → Nat
  | .lit (.string bytes) => bytes.length + 1
  | .lit _ => 1
  | .nil => 1
  | .ptr d => uptoBulk d + 1
  | .slice elems spare => uptoBulkAll elems + uptoBulkAll spare + 1
  | .agg parts => uptoBulkAll parts + 1
  | .iface _ d => uptoBulk d + 1
  | .map entries => uptoBulkEntries entries + 1
  | .held _ => 1
def uptoBulkAll {H : Type} : List (DataW H) → Nat
  | [] => 0
  | d :: r => uptoBulk d + uptoBulkAll r
def uptoBulkEntries {H : Type} : List (Lit × DataW H) → Nat
  | [] => 0
  | x :: r => uptoBulkEntry x + uptoBulkEntries r
def uptoBulkEntry {H : Type} : Lit × DataW H → Nat
  | (.string bytes, d) => bytes.length + uptoBulk d + 1
  | (_, d) => uptoBulk d + 1
 end
def uptoSmall : (H : Type) → List (DataW H) → Bool := fun _ ds => decide (uptoBulkAll ds ≤ 1048576)
def OpenSpec.upto (s : _root_.Go.ChangeSpec) : _root_.Go.OpenSpec := { _root_.Go.OpenSpec.ofChange s with cond := some uptoSmall }

/-- 'spiritlevellaw29.SweepPasses', WHERE WHAT IT READS IS OF BULK AT MOST 1048576: true; the input reads as it did. -/
def sweepPassesUptoRow : OpenClaim := { program := "ytjkoadoekaplpaagreat", sum := "3abc5ba086e2dab3f4e1b681d7b1d6f7bb21bad7b58bb58e4f4bd589c28a4005", func := "spiritlevel/spiritlevellaw29.SweepPasses", spec := "sweepPasses", unfollowed := true, recurses := true, plainKeys := false, apart := false, narrowed := true }
def SweepPassesUptoSaid : Prop := sweepPassesUptoRow.holds Tryz.pinned (OpenSpec.upto sweepPassesSpec)

/-- 'spiritlevellaw29.SweepNames', WHERE WHAT IT READS IS OF BULK AT MOST 1048576: true; the input reads as it did. -/
def sweepNamesUptoRow : OpenClaim := { program := "ytjkoadoekaplpaagreat", sum := "3abc5ba086e2dab3f4e1b681d7b1d6f7bb21bad7b58bb58e4f4bd589c28a4005", func := "spiritlevel/spiritlevellaw29.SweepNames", spec := "sweepNames", unfollowed := true, recurses := true, plainKeys := false, apart := false, narrowed := true }
def SweepNamesUptoSaid : Prop := sweepNamesUptoRow.holds Tryz.pinned (OpenSpec.upto sweepNamesSpec)

/-- 'spiritlevellaw29.SweepAll', WHERE WHAT IT READS IS OF BULK AT MOST 1048576: true; the input reads as it did. -/
def sweepAllUptoRow : OpenClaim := { program := "ytjkoadoekaplpaagreat", sum := "3abc5ba086e2dab3f4e1b681d7b1d6f7bb21bad7b58bb58e4f4bd589c28a4005", func := "spiritlevel/spiritlevellaw29.SweepAll", spec := "sweepAll", unfollowed := true, recurses := true, plainKeys := false, apart := false, narrowed := true }
def SweepAllUptoSaid : Prop := sweepAllUptoRow.holds Tryz.pinned (OpenSpec.upto sweepAllSpec)

/-- 'spiritlevellaw29.SweepGiven', WHERE WHAT IT READS IS OF BULK AT MOST 1048576: true; the input reads as it did. -/
def sweepGivenUptoRow : OpenClaim := { program := "ytjkoadoekaplpaagreat", sum := "3abc5ba086e2dab3f4e1b681d7b1d6f7bb21bad7b58bb58e4f4bd589c28a4005", func := "spiritlevel/spiritlevellaw29.SweepGiven", spec := "sweepGiven", unfollowed := true, recurses := true, plainKeys := false, apart := false, narrowed := true }
def SweepGivenUptoSaid : Prop := sweepGivenUptoRow.holds Tryz.pinned (OpenSpec.upto sweepGivenSpec)

/-- 'spiritlevellaw29.SweepValues', WHERE WHAT IT READS IS OF BULK AT MOST 1048576: true; the input reads as it did. -/
def sweepValuesUptoRow : OpenClaim := { program := "ytjkoadoekaplpaagreat", sum := "3abc5ba086e2dab3f4e1b681d7b1d6f7bb21bad7b58bb58e4f4bd589c28a4005", func := "spiritlevel/spiritlevellaw29.SweepValues", spec := "sweepValues", unfollowed := true, recurses := true, plainKeys := false, apart := false, narrowed := true }
def SweepValuesUptoSaid : Prop := sweepValuesUptoRow.holds Tryz.pinned (OpenSpec.upto sweepValuesSpec)

end Rows
end Go.Proofs.YtjkoadoekaplpaaGreat
