/-
  No cell of these rows narrows 'for every input' (looked for: loops, veiled, ifaces, maps, wideKeys, modest, calm, conditions, laid).
  DERIVED. THE GIVEN ROWS OF THIS SEAT. 11 by the template 'for every input the law returns true; each argument reads behind the call as it read before'; 0 by the template 'total and deterministic' (their statements: YtdojdblncegjcaaTotals.lean).
  GIVEN WITH THE SEED: the statements are not yours to turn. If you find one false, say at which input.
  Laid BY PROGRAM, IN A SANDBOX (cutbox-rows.mjs): the forced cells as the released guide's own fill.sh prints them over the translation f5ef81020a2658d7… (all of the seat's roots in one cut). By AI agents, Wed Nov 11 2026. No macro, syntax, notation, axiom, sorry.
-/
import Derived.Test.YtdojdblncegjcaaChecked
import GoSem.Claim
import GoSem.ClaimJoined
import GoSem.ClaimMapViews
import Derived.JoinedTies
import Derived.KernelRfl
namespace Go.Proofs.Ytdojdblncegjcaa
/- THE CELL 'sum', in the pinned program and in every row, IS THE sha256 OF THE DUMP (.gsa) THAT YtdojdblncegjcaaProg.lean LOADS. Nothing in Lean hashes anything: it is a label: what it is worth is what the hold of that sum in a sandbox is worth. -/
noncomputable def Try.pinned : Pinned := { name := "ytdojdblncegjcaa", sum := "f5ef81020a2658d71f816963cb464e519025352bdb3c651ea7f7e48e8dd18622", checked := Try.checked }
namespace Rows
def none {H : Type} : Left H := { results := [], args := [] }

/-- 'spiritlevellaw21.RupTells': WHATEVER THE INPUT: true; the input reads as it did. -/
def rupTellsSpec : ChangeSpec := { name := "rupTells", fn := fun _ => fun
  | [d1, d2, d3, d4] => { results := [.lit (.bool true)], args := [d1, d2, d3, d4] }
  | _ => none }
def rupTellsRow : OpenClaim := { program := "ytdojdblncegjcaa", sum := "f5ef81020a2658d71f816963cb464e519025352bdb3c651ea7f7e48e8dd18622", func := "spiritlevel/spiritlevellaw21.RupTells", spec := "rupTells", apart := false }
def RupTellsSaid : Prop := rupTellsRow.holds Try.pinned (OpenSpec.ofChange rupTellsSpec)

/-- ITS FALSE NEIGHBOUR: 'it returns false'. Refute it at one input. -/
def rupTellsWrong : ChangeSpec := { name := "rupTells", fn := fun _ => fun
  | [d1, d2, d3, d4] => { results := [.lit (.bool false)], args := [d1, d2, d3, d4] }
  | _ => none }
def RupTellsWrongFalsely : Prop := rupTellsRow.holds Try.pinned (OpenSpec.ofChange rupTellsWrong)

/-- 'spiritlevellaw21.RupNames': WHATEVER THE INPUT: true; the input reads as it did. -/
def rupNamesSpec : ChangeSpec := { name := "rupNames", fn := fun _ => fun
  | [] => { results := [.lit (.bool true)], args := [] }
  | _ => none }
def rupNamesRow : OpenClaim := { program := "ytdojdblncegjcaa", sum := "f5ef81020a2658d71f816963cb464e519025352bdb3c651ea7f7e48e8dd18622", func := "spiritlevel/spiritlevellaw21.RupNames", spec := "rupNames", apart := false }
def RupNamesSaid : Prop := rupNamesRow.holds Try.pinned (OpenSpec.ofChange rupNamesSpec)

/-- ITS FALSE NEIGHBOUR: 'it returns false'. Refute it at one input. -/
def rupNamesWrong : ChangeSpec := { name := "rupNames", fn := fun _ => fun
  | [] => { results := [.lit (.bool false)], args := [] }
  | _ => none }
def RupNamesWrongFalsely : Prop := rupNamesRow.holds Try.pinned (OpenSpec.ofChange rupNamesWrong)

/-- 'spiritlevellaw21.RupMore': WHATEVER THE INPUT: true; the input reads as it did. -/
def rupMoreSpec : ChangeSpec := { name := "rupMore", fn := fun _ => fun
  | [d1, d2, d3, d4] => { results := [.lit (.bool true)], args := [d1, d2, d3, d4] }
  | _ => none }
def rupMoreRow : OpenClaim := { program := "ytdojdblncegjcaa", sum := "f5ef81020a2658d71f816963cb464e519025352bdb3c651ea7f7e48e8dd18622", func := "spiritlevel/spiritlevellaw21.RupMore", spec := "rupMore", apart := false }
def RupMoreSaid : Prop := rupMoreRow.holds Try.pinned (OpenSpec.ofChange rupMoreSpec)

/-- ITS FALSE NEIGHBOUR: 'it returns false'. Refute it at one input. -/
def rupMoreWrong : ChangeSpec := { name := "rupMore", fn := fun _ => fun
  | [d1, d2, d3, d4] => { results := [.lit (.bool false)], args := [d1, d2, d3, d4] }
  | _ => none }
def RupMoreWrongFalsely : Prop := rupMoreRow.holds Try.pinned (OpenSpec.ofChange rupMoreWrong)

/-- 'spiritlevellaw21.RupTrue': WHATEVER THE INPUT: true; the input reads as it did. -/
def rupTrueSpec : ChangeSpec := { name := "rupTrue", fn := fun _ => fun
  | [d1, d2, d3, d4] => { results := [.lit (.bool true)], args := [d1, d2, d3, d4] }
  | _ => none }
def rupTrueRow : OpenClaim := { program := "ytdojdblncegjcaa", sum := "f5ef81020a2658d71f816963cb464e519025352bdb3c651ea7f7e48e8dd18622", func := "spiritlevel/spiritlevellaw21.RupTrue", spec := "rupTrue", apart := false }
def RupTrueSaid : Prop := rupTrueRow.holds Try.pinned (OpenSpec.ofChange rupTrueSpec)

/-- ITS FALSE NEIGHBOUR: 'it returns false'. Refute it at one input. -/
def rupTrueWrong : ChangeSpec := { name := "rupTrue", fn := fun _ => fun
  | [d1, d2, d3, d4] => { results := [.lit (.bool false)], args := [d1, d2, d3, d4] }
  | _ => none }
def RupTrueWrongFalsely : Prop := rupTrueRow.holds Try.pinned (OpenSpec.ofChange rupTrueWrong)

/-- 'spiritlevellaw18.JumpTells': WHATEVER THE INPUT: true; the input reads as it did. -/
def jumpTellsSpec : ChangeSpec := { name := "jumpTells", fn := fun _ => fun
  | [d1, d2] => { results := [.lit (.bool true)], args := [d1, d2] }
  | _ => none }
def jumpTellsRow : OpenClaim := { program := "ytdojdblncegjcaa", sum := "f5ef81020a2658d71f816963cb464e519025352bdb3c651ea7f7e48e8dd18622", func := "spiritlevel/spiritlevellaw18.JumpTells", spec := "jumpTells", unfollowed := true, recurses := true, apart := false }
def JumpTellsSaid : Prop := jumpTellsRow.holds Try.pinned (OpenSpec.ofChange jumpTellsSpec)

/-- ITS FALSE NEIGHBOUR: 'it returns false'. Refute it at one input. -/
def jumpTellsWrong : ChangeSpec := { name := "jumpTells", fn := fun _ => fun
  | [d1, d2] => { results := [.lit (.bool false)], args := [d1, d2] }
  | _ => none }
def JumpTellsWrongFalsely : Prop := jumpTellsRow.holds Try.pinned (OpenSpec.ofChange jumpTellsWrong)

/-- 'spiritlevellaw18.JumpNames': WHATEVER THE INPUT: true; the input reads as it did. -/
def jumpNamesSpec : ChangeSpec := { name := "jumpNames", fn := fun _ => fun
  | [] => { results := [.lit (.bool true)], args := [] }
  | _ => none }
def jumpNamesRow : OpenClaim := { program := "ytdojdblncegjcaa", sum := "f5ef81020a2658d71f816963cb464e519025352bdb3c651ea7f7e48e8dd18622", func := "spiritlevel/spiritlevellaw18.JumpNames", spec := "jumpNames", unfollowed := true, recurses := true, apart := false }
def JumpNamesSaid : Prop := jumpNamesRow.holds Try.pinned (OpenSpec.ofChange jumpNamesSpec)

/-- ITS FALSE NEIGHBOUR: 'it returns false'. Refute it at one input. -/
def jumpNamesWrong : ChangeSpec := { name := "jumpNames", fn := fun _ => fun
  | [] => { results := [.lit (.bool false)], args := [] }
  | _ => none }
def JumpNamesWrongFalsely : Prop := jumpNamesRow.holds Try.pinned (OpenSpec.ofChange jumpNamesWrong)

/-- 'spiritlevellaw18.JumpValue': WHATEVER THE INPUT: true; the input reads as it did. -/
def jumpValueSpec : ChangeSpec := { name := "jumpValue", fn := fun _ => fun
  | [d1, d2] => { results := [.lit (.bool true)], args := [d1, d2] }
  | _ => none }
def jumpValueRow : OpenClaim := { program := "ytdojdblncegjcaa", sum := "f5ef81020a2658d71f816963cb464e519025352bdb3c651ea7f7e48e8dd18622", func := "spiritlevel/spiritlevellaw18.JumpValue", spec := "jumpValue", unfollowed := true, recurses := true, apart := false }
def JumpValueSaid : Prop := jumpValueRow.holds Try.pinned (OpenSpec.ofChange jumpValueSpec)

/-- ITS FALSE NEIGHBOUR: 'it returns false'. Refute it at one input. -/
def jumpValueWrong : ChangeSpec := { name := "jumpValue", fn := fun _ => fun
  | [d1, d2] => { results := [.lit (.bool false)], args := [d1, d2] }
  | _ => none }
def JumpValueWrongFalsely : Prop := jumpValueRow.holds Try.pinned (OpenSpec.ofChange jumpValueWrong)

/-- 'spiritlevellaw18.JumpLevels': WHATEVER THE INPUT: true; the input reads as it did. -/
def jumpLevelsSpec : ChangeSpec := { name := "jumpLevels", fn := fun _ => fun
  | [d1, d2, d3] => { results := [.lit (.bool true)], args := [d1, d2, d3] }
  | _ => none }
def jumpLevelsRow : OpenClaim := { program := "ytdojdblncegjcaa", sum := "f5ef81020a2658d71f816963cb464e519025352bdb3c651ea7f7e48e8dd18622", func := "spiritlevel/spiritlevellaw18.JumpLevels", spec := "jumpLevels", unfollowed := true, recurses := true, apart := false }
def JumpLevelsSaid : Prop := jumpLevelsRow.holds Try.pinned (OpenSpec.ofChange jumpLevelsSpec)

/-- ITS FALSE NEIGHBOUR: 'it returns false'. Refute it at one input. -/
def jumpLevelsWrong : ChangeSpec := { name := "jumpLevels", fn := fun _ => fun
  | [d1, d2, d3] => { results := [.lit (.bool false)], args := [d1, d2, d3] }
  | _ => none }
def JumpLevelsWrongFalsely : Prop := jumpLevelsRow.holds Try.pinned (OpenSpec.ofChange jumpLevelsWrong)

/-- 'spiritlevellaw18.JumpSecond': WHATEVER THE INPUT: true; the input reads as it did. -/
def jumpSecondSpec : ChangeSpec := { name := "jumpSecond", fn := fun _ => fun
  | [d1, d2] => { results := [.lit (.bool true)], args := [d1, d2] }
  | _ => none }
def jumpSecondRow : OpenClaim := { program := "ytdojdblncegjcaa", sum := "f5ef81020a2658d71f816963cb464e519025352bdb3c651ea7f7e48e8dd18622", func := "spiritlevel/spiritlevellaw18.JumpSecond", spec := "jumpSecond", unfollowed := true, recurses := true, apart := false }
def JumpSecondSaid : Prop := jumpSecondRow.holds Try.pinned (OpenSpec.ofChange jumpSecondSpec)

/-- ITS FALSE NEIGHBOUR: 'it returns false'. Refute it at one input. -/
def jumpSecondWrong : ChangeSpec := { name := "jumpSecond", fn := fun _ => fun
  | [d1, d2] => { results := [.lit (.bool false)], args := [d1, d2] }
  | _ => none }
def JumpSecondWrongFalsely : Prop := jumpSecondRow.holds Try.pinned (OpenSpec.ofChange jumpSecondWrong)

/-- 'spiritlevellaw18.JumpDecisions': WHATEVER THE INPUT: true; the input reads as it did. -/
def jumpDecisionsSpec : ChangeSpec := { name := "jumpDecisions", fn := fun _ => fun
  | [d1, d2] => { results := [.lit (.bool true)], args := [d1, d2] }
  | _ => none }
def jumpDecisionsRow : OpenClaim := { program := "ytdojdblncegjcaa", sum := "f5ef81020a2658d71f816963cb464e519025352bdb3c651ea7f7e48e8dd18622", func := "spiritlevel/spiritlevellaw18.JumpDecisions", spec := "jumpDecisions", unfollowed := true, recurses := true, apart := false }
def JumpDecisionsSaid : Prop := jumpDecisionsRow.holds Try.pinned (OpenSpec.ofChange jumpDecisionsSpec)

/-- ITS FALSE NEIGHBOUR: 'it returns false'. Refute it at one input. -/
def jumpDecisionsWrong : ChangeSpec := { name := "jumpDecisions", fn := fun _ => fun
  | [d1, d2] => { results := [.lit (.bool false)], args := [d1, d2] }
  | _ => none }
def JumpDecisionsWrongFalsely : Prop := jumpDecisionsRow.holds Try.pinned (OpenSpec.ofChange jumpDecisionsWrong)

/-- 'spiritlevellaw21.RupImplied': WHATEVER THE INPUT: true; the input reads as it did. -/
def rupImpliedSpec : ChangeSpec := { name := "rupImplied", fn := fun _ => fun
  | [d1, d2, d3, d4] => { results := [.lit (.bool true)], args := [d1, d2, d3, d4] }
  | _ => none }
def rupImpliedRow : OpenClaim := { program := "ytdojdblncegjcaa", sum := "f5ef81020a2658d71f816963cb464e519025352bdb3c651ea7f7e48e8dd18622", func := "spiritlevel/spiritlevellaw21.RupImplied", spec := "rupImplied", recurses := true, apart := false }
def RupImpliedSaid : Prop := rupImpliedRow.holds Try.pinned (OpenSpec.ofChange rupImpliedSpec)

/-- ITS FALSE NEIGHBOUR: 'it returns false'. Refute it at one input. -/
def rupImpliedWrong : ChangeSpec := { name := "rupImplied", fn := fun _ => fun
  | [d1, d2, d3, d4] => { results := [.lit (.bool false)], args := [d1, d2, d3, d4] }
  | _ => none }
def RupImpliedWrongFalsely : Prop := rupImpliedRow.holds Try.pinned (OpenSpec.ofChange rupImpliedWrong)

/- THE SECOND FORM. 'bulk': how many values and letters a reading holds, each counted each time it is reached (what is shared counts as often as it is met; a slice's spare places count too). A statement '..UptoSaid' is the law's where the arguments, and the package variables that the reading takes, are together of bulk at most 1048576: NARROWER than '..Said'. Prove '..Said' where nothing that the law and all that it calls make is longer than what came in: it says more and counts as full. Else prove '..UptoSaid'. A law counts once. -/
mutual
def uptoBulk {H : Type} : DataW H → Nat
  | .lit (.string bytes) => bytes.length + 1
  | .lit _ => 1
  | .nil => 1
  | .ptr d => uptoBulk d + 1
  | .slice elems spare => uptoBulkAll elems + uptoBulkAll spare + 1
  | .agg parts => uptoBulkAll parts + 1
  | .iface _ d => uptoBulk d + 1
  | .map entries => uptoBulkEntries entries + 1
  | .held _ => 1
def uptoBulkAll {H : Type} : List (DataW H) → Nat
  | [] => 0
  | d :: r => uptoBulk d + uptoBulkAll r
def uptoBulkEntries {H : Type} : List (Lit × DataW H) → Nat
  | [] => 0
  | x :: r => uptoBulkEntry x + uptoBulkEntries r
def uptoBulkEntry {H : Type} : Lit × DataW H → Nat
  | (.string bytes, d) => bytes.length + uptoBulk d + 1
  | (_, d) => uptoBulk d + 1
 end
def uptoSmall : (H : Type) → List (DataW H) → Bool := fun _ ds => decide (uptoBulkAll ds ≤ 1048576)
def OpenSpec.upto (s : _root_.Go.ChangeSpec) : _root_.Go.OpenSpec := { _root_.Go.OpenSpec.ofChange s with cond := some uptoSmall }

/-- 'spiritlevellaw21.RupTells', WHERE WHAT IT READS IS OF BULK AT MOST 1048576: true; the input reads as it did. -/
def rupTellsUptoRow : OpenClaim := { program := "ytdojdblncegjcaa", sum := "f5ef81020a2658d71f816963cb464e519025352bdb3c651ea7f7e48e8dd18622", func := "spiritlevel/spiritlevellaw21.RupTells", spec := "rupTells", apart := false, narrowed := true }
def RupTellsUptoSaid : Prop := rupTellsUptoRow.holds Try.pinned (OpenSpec.upto rupTellsSpec)

/-- 'spiritlevellaw21.RupNames', WHERE WHAT IT READS IS OF BULK AT MOST 1048576: true; the input reads as it did. -/
def rupNamesUptoRow : OpenClaim := { program := "ytdojdblncegjcaa", sum := "f5ef81020a2658d71f816963cb464e519025352bdb3c651ea7f7e48e8dd18622", func := "spiritlevel/spiritlevellaw21.RupNames", spec := "rupNames", apart := false, narrowed := true }
def RupNamesUptoSaid : Prop := rupNamesUptoRow.holds Try.pinned (OpenSpec.upto rupNamesSpec)

/-- 'spiritlevellaw21.RupMore', WHERE WHAT IT READS IS OF BULK AT MOST 1048576: true; the input reads as it did. -/
def rupMoreUptoRow : OpenClaim := { program := "ytdojdblncegjcaa", sum := "f5ef81020a2658d71f816963cb464e519025352bdb3c651ea7f7e48e8dd18622", func := "spiritlevel/spiritlevellaw21.RupMore", spec := "rupMore", apart := false, narrowed := true }
def RupMoreUptoSaid : Prop := rupMoreUptoRow.holds Try.pinned (OpenSpec.upto rupMoreSpec)

/-- 'spiritlevellaw21.RupTrue', WHERE WHAT IT READS IS OF BULK AT MOST 1048576: true; the input reads as it did. -/
def rupTrueUptoRow : OpenClaim := { program := "ytdojdblncegjcaa", sum := "f5ef81020a2658d71f816963cb464e519025352bdb3c651ea7f7e48e8dd18622", func := "spiritlevel/spiritlevellaw21.RupTrue", spec := "rupTrue", apart := false, narrowed := true }
def RupTrueUptoSaid : Prop := rupTrueUptoRow.holds Try.pinned (OpenSpec.upto rupTrueSpec)

/-- 'spiritlevellaw18.JumpTells', WHERE WHAT IT READS IS OF BULK AT MOST 1048576: true; the input reads as it did. -/
def jumpTellsUptoRow : OpenClaim := { program := "ytdojdblncegjcaa", sum := "f5ef81020a2658d71f816963cb464e519025352bdb3c651ea7f7e48e8dd18622", func := "spiritlevel/spiritlevellaw18.JumpTells", spec := "jumpTells", unfollowed := true, recurses := true, apart := false, narrowed := true }
def JumpTellsUptoSaid : Prop := jumpTellsUptoRow.holds Try.pinned (OpenSpec.upto jumpTellsSpec)

/-- 'spiritlevellaw18.JumpNames', WHERE WHAT IT READS IS OF BULK AT MOST 1048576: true; the input reads as it did. -/
def jumpNamesUptoRow : OpenClaim := { program := "ytdojdblncegjcaa", sum := "f5ef81020a2658d71f816963cb464e519025352bdb3c651ea7f7e48e8dd18622", func := "spiritlevel/spiritlevellaw18.JumpNames", spec := "jumpNames", unfollowed := true, recurses := true, apart := false, narrowed := true }
def JumpNamesUptoSaid : Prop := jumpNamesUptoRow.holds Try.pinned (OpenSpec.upto jumpNamesSpec)

/-- 'spiritlevellaw18.JumpValue', WHERE WHAT IT READS IS OF BULK AT MOST 1048576: true; the input reads as it did. -/
def jumpValueUptoRow : OpenClaim := { program := "ytdojdblncegjcaa", sum := "f5ef81020a2658d71f816963cb464e519025352bdb3c651ea7f7e48e8dd18622", func := "spiritlevel/spiritlevellaw18.JumpValue", spec := "jumpValue", unfollowed := true, recurses := true, apart := false, narrowed := true }
def JumpValueUptoSaid : Prop := jumpValueUptoRow.holds Try.pinned (OpenSpec.upto jumpValueSpec)

/-- 'spiritlevellaw18.JumpLevels', WHERE WHAT IT READS IS OF BULK AT MOST 1048576: true; the input reads as it did. -/
def jumpLevelsUptoRow : OpenClaim := { program := "ytdojdblncegjcaa", sum := "f5ef81020a2658d71f816963cb464e519025352bdb3c651ea7f7e48e8dd18622", func := "spiritlevel/spiritlevellaw18.JumpLevels", spec := "jumpLevels", unfollowed := true, recurses := true, apart := false, narrowed := true }
def JumpLevelsUptoSaid : Prop := jumpLevelsUptoRow.holds Try.pinned (OpenSpec.upto jumpLevelsSpec)

/-- 'spiritlevellaw18.JumpSecond', WHERE WHAT IT READS IS OF BULK AT MOST 1048576: true; the input reads as it did. -/
def jumpSecondUptoRow : OpenClaim := { program := "ytdojdblncegjcaa", sum := "f5ef81020a2658d71f816963cb464e519025352bdb3c651ea7f7e48e8dd18622", func := "spiritlevel/spiritlevellaw18.JumpSecond", spec := "jumpSecond", unfollowed := true, recurses := true, apart := false, narrowed := true }
def JumpSecondUptoSaid : Prop := jumpSecondUptoRow.holds Try.pinned (OpenSpec.upto jumpSecondSpec)

/-- 'spiritlevellaw18.JumpDecisions', WHERE WHAT IT READS IS OF BULK AT MOST 1048576: true; the input reads as it did. -/
def jumpDecisionsUptoRow : OpenClaim := { program := "ytdojdblncegjcaa", sum := "f5ef81020a2658d71f816963cb464e519025352bdb3c651ea7f7e48e8dd18622", func := "spiritlevel/spiritlevellaw18.JumpDecisions", spec := "jumpDecisions", unfollowed := true, recurses := true, apart := false, narrowed := true }
def JumpDecisionsUptoSaid : Prop := jumpDecisionsUptoRow.holds Try.pinned (OpenSpec.upto jumpDecisionsSpec)

/-- 'spiritlevellaw21.RupImplied', WHERE WHAT IT READS IS OF BULK AT MOST 1048576: true; the input reads as it did. -/
def rupImpliedUptoRow : OpenClaim := { program := "ytdojdblncegjcaa", sum := "f5ef81020a2658d71f816963cb464e519025352bdb3c651ea7f7e48e8dd18622", func := "spiritlevel/spiritlevellaw21.RupImplied", spec := "rupImplied", recurses := true, apart := false, narrowed := true }
def RupImpliedUptoSaid : Prop := rupImpliedUptoRow.holds Try.pinned (OpenSpec.upto rupImpliedSpec)

end Rows
end Go.Proofs.Ytdojdblncegjcaa
