/-
  No cell of these rows narrows 'for every input' (looked for: loops, veiled, ifaces, maps, wideKeys, modest, calm, conditions, laid).
  DERIVED. THE GIVEN ROWS OF THIS SEAT. 4 by the template 'for every input the law returns true; each argument reads behind the call as it read before'; 0 by the template 'total and deterministic' (their statements: YtfjpfjnepdhnaaaGreatTotals.lean).
  GIVEN WITH THE SEED: the statements are not yours to turn. If you find one false, say at which input.
  Laid BY PROGRAM, IN A SANDBOX (cutbox-rows.mjs): the forced cells as the released guide's own fill.sh prints them over the translation c6924b9808b82737… (all of the seat's roots in one cut). By AI agents, Wed Nov 11 2026. No macro, syntax, notation, axiom, sorry.
-/
import Derived.Test.YtfjpfjnepdhnaaaGreatChecked
import GoSem.Claim
import GoSem.ClaimJoined
import GoSem.ClaimMapViews
import Derived.JoinedTies
import Derived.KernelRfl
namespace Go.Proofs.YtfjpfjnepdhnaaaGreat
/- THE CELL 'sum', in the pinned program and in every row, IS THE sha256 OF THE DUMP (.gsa) THAT YtfjpfjnepdhnaaaGreatProg.lean LOADS. Nothing in Lean hashes anything: it is a label: what it is worth is what the hold of that sum in a sandbox is worth. -/
noncomputable def Tryz.pinned : Pinned := { name := "ytfjpfjnepdhnaaagreat", sum := "c6924b9808b827373d8299fd8c4b97a5b713843612f0a8196fde5bf2a8ab2624", checked := Tryz.checked }
namespace Rows
def none {H : Type} : Left H := { results := [], args := [] }

/-- 'spiritlevellaw31.LatchcorrOne': WHATEVER THE INPUT: true; the input reads as it did. -/
def latchcorrOneSpec : ChangeSpec := { name := "latchcorrOne", fn := fun _ => fun
  | [d1, d2] => { results := [.lit (.bool true)], args := [d1, d2] }
  | _ => none }
def latchcorrOneRow : OpenClaim := { program := "ytfjpfjnepdhnaaagreat", sum := "c6924b9808b827373d8299fd8c4b97a5b713843612f0a8196fde5bf2a8ab2624", func := "spiritlevel/spiritlevellaw31.LatchcorrOne", spec := "latchcorrOne", unfollowed := true, recurses := true, plainKeys := false, apart := false }
def LatchcorrOneSaid : Prop := latchcorrOneRow.holds Tryz.pinned (OpenSpec.ofChange latchcorrOneSpec)

/-- ITS FALSE NEIGHBOUR: 'it returns false'. Refute it at one input. -/
def latchcorrOneWrong : ChangeSpec := { name := "latchcorrOne", fn := fun _ => fun
  | [d1, d2] => { results := [.lit (.bool false)], args := [d1, d2] }
  | _ => none }
def LatchcorrOneWrongFalsely : Prop := latchcorrOneRow.holds Tryz.pinned (OpenSpec.ofChange latchcorrOneWrong)

/-- 'spiritlevellaw31.LatchcorrNames': WHATEVER THE INPUT: true; the input reads as it did. -/
def latchcorrNamesSpec : ChangeSpec := { name := "latchcorrNames", fn := fun _ => fun
  | [] => { results := [.lit (.bool true)], args := [] }
  | _ => none }
def latchcorrNamesRow : OpenClaim := { program := "ytfjpfjnepdhnaaagreat", sum := "c6924b9808b827373d8299fd8c4b97a5b713843612f0a8196fde5bf2a8ab2624", func := "spiritlevel/spiritlevellaw31.LatchcorrNames", spec := "latchcorrNames", unfollowed := true, recurses := true, plainKeys := false, apart := false }
def LatchcorrNamesSaid : Prop := latchcorrNamesRow.holds Tryz.pinned (OpenSpec.ofChange latchcorrNamesSpec)

/-- ITS FALSE NEIGHBOUR: 'it returns false'. Refute it at one input. -/
def latchcorrNamesWrong : ChangeSpec := { name := "latchcorrNames", fn := fun _ => fun
  | [] => { results := [.lit (.bool false)], args := [] }
  | _ => none }
def LatchcorrNamesWrongFalsely : Prop := latchcorrNamesRow.holds Tryz.pinned (OpenSpec.ofChange latchcorrNamesWrong)

/-- 'spiritlevellaw31.LatchcorrValues': WHATEVER THE INPUT: true; the input reads as it did. -/
def latchcorrValuesSpec : ChangeSpec := { name := "latchcorrValues", fn := fun _ => fun
  | [d1, d2, d3, d4] => { results := [.lit (.bool true)], args := [d1, d2, d3, d4] }
  | _ => none }
def latchcorrValuesRow : OpenClaim := { program := "ytfjpfjnepdhnaaagreat", sum := "c6924b9808b827373d8299fd8c4b97a5b713843612f0a8196fde5bf2a8ab2624", func := "spiritlevel/spiritlevellaw31.LatchcorrValues", spec := "latchcorrValues", unfollowed := true, recurses := true, plainKeys := false, apart := false }
def LatchcorrValuesSaid : Prop := latchcorrValuesRow.holds Tryz.pinned (OpenSpec.ofChange latchcorrValuesSpec)

/-- ITS FALSE NEIGHBOUR: 'it returns false'. Refute it at one input. -/
def latchcorrValuesWrong : ChangeSpec := { name := "latchcorrValues", fn := fun _ => fun
  | [d1, d2, d3, d4] => { results := [.lit (.bool false)], args := [d1, d2, d3, d4] }
  | _ => none }
def LatchcorrValuesWrongFalsely : Prop := latchcorrValuesRow.holds Tryz.pinned (OpenSpec.ofChange latchcorrValuesWrong)

/-- 'spiritlevellaw31.LatchcorrInductive': WHATEVER THE INPUT: true; the input reads as it did. -/
def latchcorrInductiveSpec : ChangeSpec := { name := "latchcorrInductive", fn := fun _ => fun
  | [d1, d2, d3, d4] => { results := [.lit (.bool true)], args := [d1, d2, d3, d4] }
  | _ => none }
def latchcorrInductiveRow : OpenClaim := { program := "ytfjpfjnepdhnaaagreat", sum := "c6924b9808b827373d8299fd8c4b97a5b713843612f0a8196fde5bf2a8ab2624", func := "spiritlevel/spiritlevellaw31.LatchcorrInductive", spec := "latchcorrInductive", unfollowed := true, recurses := true, plainKeys := false, apart := false }
def LatchcorrInductiveSaid : Prop := latchcorrInductiveRow.holds Tryz.pinned (OpenSpec.ofChange latchcorrInductiveSpec)

/-- ITS FALSE NEIGHBOUR: 'it returns false'. Refute it at one input. -/
def latchcorrInductiveWrong : ChangeSpec := { name := "latchcorrInductive", fn := fun _ => fun
  | [d1, d2, d3, d4] => { results := [.lit (.bool false)], args := [d1, d2, d3, d4] }
  | _ => none }
def LatchcorrInductiveWrongFalsely : Prop := latchcorrInductiveRow.holds Tryz.pinned (OpenSpec.ofChange latchcorrInductiveWrong)

/- THE SECOND FORM. 'bulk': how many values and letters a reading holds, each counted each time it is reached (what is shared counts as often as it is met; a slice's spare places count too). A statement '..UptoSaid' is the law's where the arguments, and the package variables that the reading takes, are together of bulk at most 1048576: NARROWER than '..Said'. Prove '..Said' where nothing that the law and all that it calls make is longer than what came in: it says more and counts as full. Else prove '..UptoSaid'. A law counts once. -/
mutual
def uptoBulk {H : Type} : DataW H → Nat
  | .lit (.string bytes) => bytes.length + 1
  | .lit _ => 1
  | .nil => 1
  | .ptr d => uptoBulk d + 1
  | .slice elems spare => uptoBulkAll elems + uptoBulkAll spare + 1
  | .agg parts => uptoBulkAll parts + 1
  | .iface _ d => uptoBulk d + 1
  | .map entries => uptoBulkEntries entries + 1
  | .held _ => 1
def uptoBulkAll {H : Type} : List (DataW H) → Nat
  | [] => 0
  | d :: r => uptoBulk d + uptoBulkAll r
def uptoBulkEntries {H : Type} : List (Lit × DataW H) → Nat
  | [] => 0
  | x :: r => uptoBulkEntry x + uptoBulkEntries r
def uptoBulkEntry {H : Type} : Lit × DataW H → Nat
  | (.string bytes, d) => bytes.length + uptoBulk d + 1
  | (_, d) => uptoBulk d + 1
 end
def uptoSmall : (H : Type) → List (DataW H) → Bool := fun _ ds => decide (uptoBulkAll ds ≤ 1048576)
def OpenSpec.upto (s : _root_.Go.ChangeSpec) : _root_.Go.OpenSpec := { _root_.Go.OpenSpec.ofChange s with cond := some uptoSmall }

/-- 'spiritlevellaw31.LatchcorrOne', WHERE WHAT IT READS IS OF BULK AT MOST 1048576: true; the input reads as it did. -/
def latchcorrOneUptoRow : OpenClaim := { program := "ytfjpfjnepdhnaaagreat", sum := "c6924b9808b827373d8299fd8c4b97a5b713843612f0a8196fde5bf2a8ab2624", func := "spiritlevel/spiritlevellaw31.LatchcorrOne", spec := "latchcorrOne", unfollowed := true, recurses := true, plainKeys := false, apart := false, narrowed := true }
def LatchcorrOneUptoSaid : Prop := latchcorrOneUptoRow.holds Tryz.pinned (OpenSpec.upto latchcorrOneSpec)

/-- 'spiritlevellaw31.LatchcorrNames', WHERE WHAT IT READS IS OF BULK AT MOST 1048576: true; the input reads as it did. -/
def latchcorrNamesUptoRow : OpenClaim := { program := "ytfjpfjnepdhnaaagreat", sum := "c6924b9808b827373d8299fd8c4b97a5b713843612f0a8196fde5bf2a8ab2624", func := "spiritlevel/spiritlevellaw31.LatchcorrNames", spec := "latchcorrNames", unfollowed := true, recurses := true, plainKeys := false, apart := false, narrowed := true }
def LatchcorrNamesUptoSaid : Prop := latchcorrNamesUptoRow.holds Tryz.pinned (OpenSpec.upto latchcorrNamesSpec)

/-- 'spiritlevellaw31.LatchcorrValues', WHERE WHAT IT READS IS OF BULK AT MOST 1048576: true; the input reads as it did. -/
def latchcorrValuesUptoRow : OpenClaim := { program := "ytfjpfjnepdhnaaagreat", sum := "c6924b9808b827373d8299fd8c4b97a5b713843612f0a8196fde5bf2a8ab2624", func := "spiritlevel/spiritlevellaw31.LatchcorrValues", spec := "latchcorrValues", unfollowed := true, recurses := true, plainKeys := false, apart := false, narrowed := true }
def LatchcorrValuesUptoSaid : Prop := latchcorrValuesUptoRow.holds Tryz.pinned (OpenSpec.upto latchcorrValuesSpec)

/-- 'spiritlevellaw31.LatchcorrInductive', WHERE WHAT IT READS IS OF BULK AT MOST 1048576: true; the input reads as it did. -/
def latchcorrInductiveUptoRow : OpenClaim := { program := "ytfjpfjnepdhnaaagreat", sum := "c6924b9808b827373d8299fd8c4b97a5b713843612f0a8196fde5bf2a8ab2624", func := "spiritlevel/spiritlevellaw31.LatchcorrInductive", spec := "latchcorrInductive", unfollowed := true, recurses := true, plainKeys := false, apart := false, narrowed := true }
def LatchcorrInductiveUptoSaid : Prop := latchcorrInductiveUptoRow.holds Tryz.pinned (OpenSpec.upto latchcorrInductiveSpec)

end Rows
end Go.Proofs.YtfjpfjnepdhnaaaGreat
