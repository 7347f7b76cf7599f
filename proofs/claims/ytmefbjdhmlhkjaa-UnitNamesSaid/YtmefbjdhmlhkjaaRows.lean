/-
  No cell of these rows narrows 'for every input' (looked for: loops, veiled, ifaces, maps, wideKeys, modest, calm, conditions, laid).
  DERIVED. THE GIVEN ROWS OF THIS SEAT. 8 by the template 'for every input the law returns true; each argument reads behind the call as it read before'; 0 by the template 'total and deterministic' (their statements: YtmefbjdhmlhkjaaTotals.lean).
  GIVEN WITH THE SEED: the statements are not yours to turn. If you find one false, say at which input.
  Laid BY PROGRAM, IN A SANDBOX (cutbox-rows.mjs): the forced cells as the released guide's own fill.sh prints them over the translation 80f58676c010175a… (all of the seat's roots in one cut). By AI agents, Wed Nov 11 2026. No macro, syntax, notation, axiom, sorry.
-/
import Derived.Test.YtmefbjdhmlhkjaaChecked
import GoSem.Claim
import GoSem.ClaimJoined
import GoSem.ClaimMapViews
import Derived.JoinedTies
import Derived.KernelRfl
namespace Go.Proofs.Ytmefbjdhmlhkjaa
/- THE CELL 'sum', in the pinned program and in every row, IS THE sha256 OF THE DUMP (.gsa) THAT YtmefbjdhmlhkjaaProg.lean LOADS. Nothing in Lean hashes anything: it is a label: what it is worth is what the hold of that sum in a sandbox is worth. -/
noncomputable def Try.pinned : Pinned := { name := "ytmefbjdhmlhkjaa", sum := "80f58676c010175a155a48b54ece8f0e354b8dea1d1d4cd419a87301bd3a6f17", checked := Try.checked }
namespace Rows
def none {H : Type} : Left H := { results := [], args := [] }

/-- 'spiritlevellaw29.SweepSignatures': WHATEVER THE INPUT: true; the input reads as it did. -/
def sweepSignaturesSpec : ChangeSpec := { name := "sweepSignatures", fn := fun _ => fun
  | [d] => { results := [.lit (.bool true)], args := [d] }
  | _ => none }
def sweepSignaturesRow : OpenClaim := { program := "ytmefbjdhmlhkjaa", sum := "80f58676c010175a155a48b54ece8f0e354b8dea1d1d4cd419a87301bd3a6f17", func := "spiritlevel/spiritlevellaw29.SweepSignatures", spec := "sweepSignatures", unfollowed := true, recurses := true, apart := false }
def SweepSignaturesSaid : Prop := sweepSignaturesRow.holds Try.pinned (OpenSpec.ofChange sweepSignaturesSpec)

/-- ITS FALSE NEIGHBOUR: 'it returns false'. Refute it at one input. -/
def sweepSignaturesWrong : ChangeSpec := { name := "sweepSignatures", fn := fun _ => fun
  | [d] => { results := [.lit (.bool false)], args := [d] }
  | _ => none }
def SweepSignaturesWrongFalsely : Prop := sweepSignaturesRow.holds Try.pinned (OpenSpec.ofChange sweepSignaturesWrong)

/-- 'spiritlevellaw15.UnitOrder': WHATEVER THE INPUT: true; the input reads as it did. -/
def unitOrderSpec : ChangeSpec := { name := "unitOrder", fn := fun _ => fun
  | [d1, d2, d3] => { results := [.lit (.bool true)], args := [d1, d2, d3] }
  | _ => none }
def unitOrderRow : OpenClaim := { program := "ytmefbjdhmlhkjaa", sum := "80f58676c010175a155a48b54ece8f0e354b8dea1d1d4cd419a87301bd3a6f17", func := "spiritlevel/spiritlevellaw15.UnitOrder", spec := "unitOrder", apart := false }
def UnitOrderSaid : Prop := unitOrderRow.holds Try.pinned (OpenSpec.ofChange unitOrderSpec)

/-- ITS FALSE NEIGHBOUR: 'it returns false'. Refute it at one input. -/
def unitOrderWrong : ChangeSpec := { name := "unitOrder", fn := fun _ => fun
  | [d1, d2, d3] => { results := [.lit (.bool false)], args := [d1, d2, d3] }
  | _ => none }
def UnitOrderWrongFalsely : Prop := unitOrderRow.holds Try.pinned (OpenSpec.ofChange unitOrderWrong)

/-- 'spiritlevellaw15.UnitFollows': WHATEVER THE INPUT: true; the input reads as it did. -/
def unitFollowsSpec : ChangeSpec := { name := "unitFollows", fn := fun _ => fun
  | [d1, d2] => { results := [.lit (.bool true)], args := [d1, d2] }
  | _ => none }
def unitFollowsRow : OpenClaim := { program := "ytmefbjdhmlhkjaa", sum := "80f58676c010175a155a48b54ece8f0e354b8dea1d1d4cd419a87301bd3a6f17", func := "spiritlevel/spiritlevellaw15.UnitFollows", spec := "unitFollows", apart := false }
def UnitFollowsSaid : Prop := unitFollowsRow.holds Try.pinned (OpenSpec.ofChange unitFollowsSpec)

/-- ITS FALSE NEIGHBOUR: 'it returns false'. Refute it at one input. -/
def unitFollowsWrong : ChangeSpec := { name := "unitFollows", fn := fun _ => fun
  | [d1, d2] => { results := [.lit (.bool false)], args := [d1, d2] }
  | _ => none }
def UnitFollowsWrongFalsely : Prop := unitFollowsRow.holds Try.pinned (OpenSpec.ofChange unitFollowsWrong)

/-- 'spiritlevellaw15.UnitMore': WHATEVER THE INPUT: true; the input reads as it did. -/
def unitMoreSpec : ChangeSpec := { name := "unitMore", fn := fun _ => fun
  | [d1, d2, d3, d4] => { results := [.lit (.bool true)], args := [d1, d2, d3, d4] }
  | _ => none }
def unitMoreRow : OpenClaim := { program := "ytmefbjdhmlhkjaa", sum := "80f58676c010175a155a48b54ece8f0e354b8dea1d1d4cd419a87301bd3a6f17", func := "spiritlevel/spiritlevellaw15.UnitMore", spec := "unitMore", apart := false }
def UnitMoreSaid : Prop := unitMoreRow.holds Try.pinned (OpenSpec.ofChange unitMoreSpec)

/-- ITS FALSE NEIGHBOUR: 'it returns false'. Refute it at one input. -/
def unitMoreWrong : ChangeSpec := { name := "unitMore", fn := fun _ => fun
  | [d1, d2, d3, d4] => { results := [.lit (.bool false)], args := [d1, d2, d3, d4] }
  | _ => none }
def UnitMoreWrongFalsely : Prop := unitMoreRow.holds Try.pinned (OpenSpec.ofChange unitMoreWrong)

/-- 'spiritlevellaw15.UnitTells': WHATEVER THE INPUT: true; the input reads as it did. -/
def unitTellsSpec : ChangeSpec := { name := "unitTells", fn := fun _ => fun
  | [d1, d2, d3] => { results := [.lit (.bool true)], args := [d1, d2, d3] }
  | _ => none }
def unitTellsRow : OpenClaim := { program := "ytmefbjdhmlhkjaa", sum := "80f58676c010175a155a48b54ece8f0e354b8dea1d1d4cd419a87301bd3a6f17", func := "spiritlevel/spiritlevellaw15.UnitTells", spec := "unitTells", apart := false }
def UnitTellsSaid : Prop := unitTellsRow.holds Try.pinned (OpenSpec.ofChange unitTellsSpec)

/-- ITS FALSE NEIGHBOUR: 'it returns false'. Refute it at one input. -/
def unitTellsWrong : ChangeSpec := { name := "unitTells", fn := fun _ => fun
  | [d1, d2, d3] => { results := [.lit (.bool false)], args := [d1, d2, d3] }
  | _ => none }
def UnitTellsWrongFalsely : Prop := unitTellsRow.holds Try.pinned (OpenSpec.ofChange unitTellsWrong)

/-- 'spiritlevellaw15.UnitNames': WHATEVER THE INPUT: true; the input reads as it did. -/
def unitNamesSpec : ChangeSpec := { name := "unitNames", fn := fun _ => fun
  | [] => { results := [.lit (.bool true)], args := [] }
  | _ => none }
def unitNamesRow : OpenClaim := { program := "ytmefbjdhmlhkjaa", sum := "80f58676c010175a155a48b54ece8f0e354b8dea1d1d4cd419a87301bd3a6f17", func := "spiritlevel/spiritlevellaw15.UnitNames", spec := "unitNames", apart := false }
def UnitNamesSaid : Prop := unitNamesRow.holds Try.pinned (OpenSpec.ofChange unitNamesSpec)

/-- ITS FALSE NEIGHBOUR: 'it returns false'. Refute it at one input. -/
def unitNamesWrong : ChangeSpec := { name := "unitNames", fn := fun _ => fun
  | [] => { results := [.lit (.bool false)], args := [] }
  | _ => none }
def UnitNamesWrongFalsely : Prop := unitNamesRow.holds Try.pinned (OpenSpec.ofChange unitNamesWrong)

/-- 'spiritlevellaw15.UnitEnd': WHATEVER THE INPUT: true; the input reads as it did. -/
def unitEndSpec : ChangeSpec := { name := "unitEnd", fn := fun _ => fun
  | [d1, d2] => { results := [.lit (.bool true)], args := [d1, d2] }
  | _ => none }
def unitEndRow : OpenClaim := { program := "ytmefbjdhmlhkjaa", sum := "80f58676c010175a155a48b54ece8f0e354b8dea1d1d4cd419a87301bd3a6f17", func := "spiritlevel/spiritlevellaw15.UnitEnd", spec := "unitEnd", apart := false }
def UnitEndSaid : Prop := unitEndRow.holds Try.pinned (OpenSpec.ofChange unitEndSpec)

/-- ITS FALSE NEIGHBOUR: 'it returns false'. Refute it at one input. -/
def unitEndWrong : ChangeSpec := { name := "unitEnd", fn := fun _ => fun
  | [d1, d2] => { results := [.lit (.bool false)], args := [d1, d2] }
  | _ => none }
def UnitEndWrongFalsely : Prop := unitEndRow.holds Try.pinned (OpenSpec.ofChange unitEndWrong)

/-- 'spiritlevellaw15.UnitStates': WHATEVER THE INPUT: true; the input reads as it did. -/
def unitStatesSpec : ChangeSpec := { name := "unitStates", fn := fun _ => fun
  | [d1, d2, d3] => { results := [.lit (.bool true)], args := [d1, d2, d3] }
  | _ => none }
def unitStatesRow : OpenClaim := { program := "ytmefbjdhmlhkjaa", sum := "80f58676c010175a155a48b54ece8f0e354b8dea1d1d4cd419a87301bd3a6f17", func := "spiritlevel/spiritlevellaw15.UnitStates", spec := "unitStates", apart := false }
def UnitStatesSaid : Prop := unitStatesRow.holds Try.pinned (OpenSpec.ofChange unitStatesSpec)

/-- ITS FALSE NEIGHBOUR: 'it returns false'. Refute it at one input. -/
def unitStatesWrong : ChangeSpec := { name := "unitStates", fn := fun _ => fun
  | [d1, d2, d3] => { results := [.lit (.bool false)], args := [d1, d2, d3] }
  | _ => none }
def UnitStatesWrongFalsely : Prop := unitStatesRow.holds Try.pinned (OpenSpec.ofChange unitStatesWrong)

/- THE SECOND FORM. 'bulk': how many values and letters a reading holds, each counted each time it is reached (what is shared counts as often as it is met; a slice's spare places count too). A statement '..UptoSaid' is the law's where the arguments, and the package variables that the reading takes, are together of bulk at most 1048576: NARROWER than '..Said'. Prove '..Said' where nothing that the law and all that it calls make is longer than what came in: it says more and counts as full. Else prove '..UptoSaid'. A law counts once. -/
mutual
def uptoBulk {H : Type} : DataW H → Nat
  | .lit (.string bytes) => bytes.length + 1
  | .lit _ => 1
  | .nil => 1
  | .ptr d => uptoBulk d + 1
  | .slice elems spare => uptoBulkAll elems + uptoBulkAll spare + 1
  | .agg parts => uptoBulkAll parts + 1
  | .iface _ d => uptoBulk d + 1
  | .map entries => uptoBulkEntries entries + 1
  | .held _ => 1
def uptoBulkAll {H : Type} : List (DataW H) → Nat
  | [] => 0
  | d :: r => uptoBulk d + uptoBulkAll r
def uptoBulkEntries {H : Type} : List (Lit × DataW H) → Nat
  | [] => 0
  | x :: r => uptoBulkEntry x + uptoBulkEntries r
def uptoBulkEntry {H : Type} : Lit × DataW H → Nat
  | (.string bytes, d) => bytes.length + uptoBulk d + 1
  | (_, d) => uptoBulk d + 1
 end
def uptoSmall : (H : Type) → List (DataW H) → Bool := fun _ ds => decide (uptoBulkAll ds ≤ 1048576)
def OpenSpec.upto (s : _root_.Go.ChangeSpec) : _root_.Go.OpenSpec := { _root_.Go.OpenSpec.ofChange s with cond := some uptoSmall }

/-- 'spiritlevellaw29.SweepSignatures', WHERE WHAT IT READS IS OF BULK AT MOST 1048576: true; the input reads as it did. -/
def sweepSignaturesUptoRow : OpenClaim := { program := "ytmefbjdhmlhkjaa", sum := "80f58676c010175a155a48b54ece8f0e354b8dea1d1d4cd419a87301bd3a6f17", func := "spiritlevel/spiritlevellaw29.SweepSignatures", spec := "sweepSignatures", unfollowed := true, recurses := true, apart := false, narrowed := true }
def SweepSignaturesUptoSaid : Prop := sweepSignaturesUptoRow.holds Try.pinned (OpenSpec.upto sweepSignaturesSpec)

/-- 'spiritlevellaw15.UnitOrder', WHERE WHAT IT READS IS OF BULK AT MOST 1048576: true; the input reads as it did. -/
def unitOrderUptoRow : OpenClaim := { program := "ytmefbjdhmlhkjaa", sum := "80f58676c010175a155a48b54ece8f0e354b8dea1d1d4cd419a87301bd3a6f17", func := "spiritlevel/spiritlevellaw15.UnitOrder", spec := "unitOrder", apart := false, narrowed := true }
def UnitOrderUptoSaid : Prop := unitOrderUptoRow.holds Try.pinned (OpenSpec.upto unitOrderSpec)

/-- 'spiritlevellaw15.UnitFollows', WHERE WHAT IT READS IS OF BULK AT MOST 1048576: true; the input reads as it did. -/
def unitFollowsUptoRow : OpenClaim := { program := "ytmefbjdhmlhkjaa", sum := "80f58676c010175a155a48b54ece8f0e354b8dea1d1d4cd419a87301bd3a6f17", func := "spiritlevel/spiritlevellaw15.UnitFollows", spec := "unitFollows", apart := false, narrowed := true }
def UnitFollowsUptoSaid : Prop := unitFollowsUptoRow.holds Try.pinned (OpenSpec.upto unitFollowsSpec)

/-- 'spiritlevellaw15.UnitMore', WHERE WHAT IT READS IS OF BULK AT MOST 1048576: true; the input reads as it did. -/
def unitMoreUptoRow : OpenClaim := { program := "ytmefbjdhmlhkjaa", sum := "80f58676c010175a155a48b54ece8f0e354b8dea1d1d4cd419a87301bd3a6f17", func := "spiritlevel/spiritlevellaw15.UnitMore", spec := "unitMore", apart := false, narrowed := true }
def UnitMoreUptoSaid : Prop := unitMoreUptoRow.holds Try.pinned (OpenSpec.upto unitMoreSpec)

/-- 'spiritlevellaw15.UnitTells', WHERE WHAT IT READS IS OF BULK AT MOST 1048576: true; the input reads as it did. -/
def unitTellsUptoRow : OpenClaim := { program := "ytmefbjdhmlhkjaa", sum := "80f58676c010175a155a48b54ece8f0e354b8dea1d1d4cd419a87301bd3a6f17", func := "spiritlevel/spiritlevellaw15.UnitTells", spec := "unitTells", apart := false, narrowed := true }
def UnitTellsUptoSaid : Prop := unitTellsUptoRow.holds Try.pinned (OpenSpec.upto unitTellsSpec)

/-- 'spiritlevellaw15.UnitNames', WHERE WHAT IT READS IS OF BULK AT MOST 1048576: true; the input reads as it did. -/
def unitNamesUptoRow : OpenClaim := { program := "ytmefbjdhmlhkjaa", sum := "80f58676c010175a155a48b54ece8f0e354b8dea1d1d4cd419a87301bd3a6f17", func := "spiritlevel/spiritlevellaw15.UnitNames", spec := "unitNames", apart := false, narrowed := true }
def UnitNamesUptoSaid : Prop := unitNamesUptoRow.holds Try.pinned (OpenSpec.upto unitNamesSpec)

/-- 'spiritlevellaw15.UnitEnd', WHERE WHAT IT READS IS OF BULK AT MOST 1048576: true; the input reads as it did. -/
def unitEndUptoRow : OpenClaim := { program := "ytmefbjdhmlhkjaa", sum := "80f58676c010175a155a48b54ece8f0e354b8dea1d1d4cd419a87301bd3a6f17", func := "spiritlevel/spiritlevellaw15.UnitEnd", spec := "unitEnd", apart := false, narrowed := true }
def UnitEndUptoSaid : Prop := unitEndUptoRow.holds Try.pinned (OpenSpec.upto unitEndSpec)

/-- 'spiritlevellaw15.UnitStates', WHERE WHAT IT READS IS OF BULK AT MOST 1048576: true; the input reads as it did. -/
def unitStatesUptoRow : OpenClaim := { program := "ytmefbjdhmlhkjaa", sum := "80f58676c010175a155a48b54ece8f0e354b8dea1d1d4cd419a87301bd3a6f17", func := "spiritlevel/spiritlevellaw15.UnitStates", spec := "unitStates", apart := false, narrowed := true }
def UnitStatesUptoSaid : Prop := unitStatesUptoRow.holds Try.pinned (OpenSpec.upto unitStatesSpec)

end Rows
end Go.Proofs.Ytmefbjdhmlhkjaa
