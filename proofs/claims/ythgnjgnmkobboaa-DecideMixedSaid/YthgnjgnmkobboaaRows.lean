/-
  No cell of these rows narrows 'for every input' (looked for: loops, veiled, ifaces, maps, wideKeys, modest, calm, conditions, laid).
  DERIVED. THE GIVEN ROWS OF THIS SEAT. 12 by the template 'for every input the law returns true; each argument reads behind the call as it read before'; 0 by the template 'total and deterministic' (their statements: YthgnjgnmkobboaaTotals.lean).
  GIVEN WITH THE SEED: the statements are not yours to turn. If you find one false, say at which input.
  Laid BY PROGRAM, IN A SANDBOX (cutbox-rows.mjs): the forced cells as the released guide's own fill.sh prints them over the translation 7cb4659ea615d2fb… (all of the seat's roots in one cut). By AI agents, Wed Nov 11 2026. No macro, syntax, notation, axiom, sorry.
-/
import Derived.Test.YthgnjgnmkobboaaChecked
import GoSem.Claim
import GoSem.ClaimJoined
import GoSem.ClaimMapViews
import Derived.JoinedTies
import Derived.KernelRfl
namespace Go.Proofs.Ythgnjgnmkobboaa
/- THE CELL 'sum', in the pinned program and in every row, IS THE sha256 OF THE DUMP (.gsa) THAT YthgnjgnmkobboaaProg.lean LOADS. Nothing in Lean hashes anything: it is a label: what it is worth is what the hold of that sum in a sandbox is worth. -/
noncomputable def Try.pinned : Pinned := { name := "ythgnjgnmkobboaa", sum := "7cb4659ea615d2fb3f394b8317476fe4329c8ea8219a7cbe1c0cd7115c09fe72", checked := Try.checked }
namespace Rows
def none {H : Type} : Left H := { results := [], args := [] }

/-- 'spiritlevellaw16.DecideTells': WHATEVER THE INPUT: true; the input reads as it did. -/
def decideTellsSpec : ChangeSpec := { name := "decideTells", fn := fun _ => fun
  | [d1, d2, d3] => { results := [.lit (.bool true)], args := [d1, d2, d3] }
  | _ => none }
def decideTellsRow : OpenClaim := { program := "ythgnjgnmkobboaa", sum := "7cb4659ea615d2fb3f394b8317476fe4329c8ea8219a7cbe1c0cd7115c09fe72", func := "spiritlevel/spiritlevellaw16.DecideTells", spec := "decideTells", apart := false }
def DecideTellsSaid : Prop := decideTellsRow.holds Try.pinned (OpenSpec.ofChange decideTellsSpec)

/-- ITS FALSE NEIGHBOUR: 'it returns false'. Refute it at one input. -/
def decideTellsWrong : ChangeSpec := { name := "decideTells", fn := fun _ => fun
  | [d1, d2, d3] => { results := [.lit (.bool false)], args := [d1, d2, d3] }
  | _ => none }
def DecideTellsWrongFalsely : Prop := decideTellsRow.holds Try.pinned (OpenSpec.ofChange decideTellsWrong)

/-- 'spiritlevellaw16.DecideNames': WHATEVER THE INPUT: true; the input reads as it did. -/
def decideNamesSpec : ChangeSpec := { name := "decideNames", fn := fun _ => fun
  | [] => { results := [.lit (.bool true)], args := [] }
  | _ => none }
def decideNamesRow : OpenClaim := { program := "ythgnjgnmkobboaa", sum := "7cb4659ea615d2fb3f394b8317476fe4329c8ea8219a7cbe1c0cd7115c09fe72", func := "spiritlevel/spiritlevellaw16.DecideNames", spec := "decideNames", apart := false }
def DecideNamesSaid : Prop := decideNamesRow.holds Try.pinned (OpenSpec.ofChange decideNamesSpec)

/-- ITS FALSE NEIGHBOUR: 'it returns false'. Refute it at one input. -/
def decideNamesWrong : ChangeSpec := { name := "decideNames", fn := fun _ => fun
  | [] => { results := [.lit (.bool false)], args := [] }
  | _ => none }
def DecideNamesWrongFalsely : Prop := decideNamesRow.holds Try.pinned (OpenSpec.ofChange decideNamesWrong)

/-- 'spiritlevellaw16.DecideFirst': WHATEVER THE INPUT: true; the input reads as it did. -/
def decideFirstSpec : ChangeSpec := { name := "decideFirst", fn := fun _ => fun
  | [d] => { results := [.lit (.bool true)], args := [d] }
  | _ => none }
def decideFirstRow : OpenClaim := { program := "ythgnjgnmkobboaa", sum := "7cb4659ea615d2fb3f394b8317476fe4329c8ea8219a7cbe1c0cd7115c09fe72", func := "spiritlevel/spiritlevellaw16.DecideFirst", spec := "decideFirst", apart := false }
def DecideFirstSaid : Prop := decideFirstRow.holds Try.pinned (OpenSpec.ofChange decideFirstSpec)

/-- ITS FALSE NEIGHBOUR: 'it returns false'. Refute it at one input. -/
def decideFirstWrong : ChangeSpec := { name := "decideFirst", fn := fun _ => fun
  | [d] => { results := [.lit (.bool false)], args := [d] }
  | _ => none }
def DecideFirstWrongFalsely : Prop := decideFirstRow.holds Try.pinned (OpenSpec.ofChange decideFirstWrong)

/-- 'spiritlevellaw16.DecideNext': WHATEVER THE INPUT: true; the input reads as it did. -/
def decideNextSpec : ChangeSpec := { name := "decideNext", fn := fun _ => fun
  | [d1, d2] => { results := [.lit (.bool true)], args := [d1, d2] }
  | _ => none }
def decideNextRow : OpenClaim := { program := "ythgnjgnmkobboaa", sum := "7cb4659ea615d2fb3f394b8317476fe4329c8ea8219a7cbe1c0cd7115c09fe72", func := "spiritlevel/spiritlevellaw16.DecideNext", spec := "decideNext", apart := false }
def DecideNextSaid : Prop := decideNextRow.holds Try.pinned (OpenSpec.ofChange decideNextSpec)

/-- ITS FALSE NEIGHBOUR: 'it returns false'. Refute it at one input. -/
def decideNextWrong : ChangeSpec := { name := "decideNext", fn := fun _ => fun
  | [d1, d2] => { results := [.lit (.bool false)], args := [d1, d2] }
  | _ => none }
def DecideNextWrongFalsely : Prop := decideNextRow.holds Try.pinned (OpenSpec.ofChange decideNextWrong)

/-- 'spiritlevellaw16.DecideBack': WHATEVER THE INPUT: true; the input reads as it did. -/
def decideBackSpec : ChangeSpec := { name := "decideBack", fn := fun _ => fun
  | [d1, d2] => { results := [.lit (.bool true)], args := [d1, d2] }
  | _ => none }
def decideBackRow : OpenClaim := { program := "ythgnjgnmkobboaa", sum := "7cb4659ea615d2fb3f394b8317476fe4329c8ea8219a7cbe1c0cd7115c09fe72", func := "spiritlevel/spiritlevellaw16.DecideBack", spec := "decideBack", apart := false }
def DecideBackSaid : Prop := decideBackRow.holds Try.pinned (OpenSpec.ofChange decideBackSpec)

/-- ITS FALSE NEIGHBOUR: 'it returns false'. Refute it at one input. -/
def decideBackWrong : ChangeSpec := { name := "decideBack", fn := fun _ => fun
  | [d1, d2] => { results := [.lit (.bool false)], args := [d1, d2] }
  | _ => none }
def DecideBackWrongFalsely : Prop := decideBackRow.holds Try.pinned (OpenSpec.ofChange decideBackWrong)

/-- 'spiritlevellaw16.DecideMixed': WHATEVER THE INPUT: true; the input reads as it did. -/
def decideMixedSpec : ChangeSpec := { name := "decideMixed", fn := fun _ => fun
  | [d1, d2] => { results := [.lit (.bool true)], args := [d1, d2] }
  | _ => none }
def decideMixedRow : OpenClaim := { program := "ythgnjgnmkobboaa", sum := "7cb4659ea615d2fb3f394b8317476fe4329c8ea8219a7cbe1c0cd7115c09fe72", func := "spiritlevel/spiritlevellaw16.DecideMixed", spec := "decideMixed", apart := false }
def DecideMixedSaid : Prop := decideMixedRow.holds Try.pinned (OpenSpec.ofChange decideMixedSpec)

/-- ITS FALSE NEIGHBOUR: 'it returns false'. Refute it at one input. -/
def decideMixedWrong : ChangeSpec := { name := "decideMixed", fn := fun _ => fun
  | [d1, d2] => { results := [.lit (.bool false)], args := [d1, d2] }
  | _ => none }
def DecideMixedWrongFalsely : Prop := decideMixedRow.holds Try.pinned (OpenSpec.ofChange decideMixedWrong)

/-- 'spiritlevellaw14.AssignTells': WHATEVER THE INPUT: true; the input reads as it did. -/
def assignTellsSpec : ChangeSpec := { name := "assignTells", fn := fun _ => fun
  | [d1, d2, d3, d4] => { results := [.lit (.bool true)], args := [d1, d2, d3, d4] }
  | _ => none }
def assignTellsRow : OpenClaim := { program := "ythgnjgnmkobboaa", sum := "7cb4659ea615d2fb3f394b8317476fe4329c8ea8219a7cbe1c0cd7115c09fe72", func := "spiritlevel/spiritlevellaw14.AssignTells", spec := "assignTells", unfollowed := true, recurses := true, apart := false }
def AssignTellsSaid : Prop := assignTellsRow.holds Try.pinned (OpenSpec.ofChange assignTellsSpec)

/-- ITS FALSE NEIGHBOUR: 'it returns false'. Refute it at one input. -/
def assignTellsWrong : ChangeSpec := { name := "assignTells", fn := fun _ => fun
  | [d1, d2, d3, d4] => { results := [.lit (.bool false)], args := [d1, d2, d3, d4] }
  | _ => none }
def AssignTellsWrongFalsely : Prop := assignTellsRow.holds Try.pinned (OpenSpec.ofChange assignTellsWrong)

/-- 'spiritlevellaw14.AssignNames': WHATEVER THE INPUT: true; the input reads as it did. -/
def assignNamesSpec : ChangeSpec := { name := "assignNames", fn := fun _ => fun
  | [] => { results := [.lit (.bool true)], args := [] }
  | _ => none }
def assignNamesRow : OpenClaim := { program := "ythgnjgnmkobboaa", sum := "7cb4659ea615d2fb3f394b8317476fe4329c8ea8219a7cbe1c0cd7115c09fe72", func := "spiritlevel/spiritlevellaw14.AssignNames", spec := "assignNames", unfollowed := true, recurses := true, apart := false }
def AssignNamesSaid : Prop := assignNamesRow.holds Try.pinned (OpenSpec.ofChange assignNamesSpec)

/-- ITS FALSE NEIGHBOUR: 'it returns false'. Refute it at one input. -/
def assignNamesWrong : ChangeSpec := { name := "assignNames", fn := fun _ => fun
  | [] => { results := [.lit (.bool false)], args := [] }
  | _ => none }
def AssignNamesWrongFalsely : Prop := assignNamesRow.holds Try.pinned (OpenSpec.ofChange assignNamesWrong)

/-- 'spiritlevellaw14.AssignBack': WHATEVER THE INPUT: true; the input reads as it did. -/
def assignBackSpec : ChangeSpec := { name := "assignBack", fn := fun _ => fun
  | [d1, d2, d3] => { results := [.lit (.bool true)], args := [d1, d2, d3] }
  | _ => none }
def assignBackRow : OpenClaim := { program := "ythgnjgnmkobboaa", sum := "7cb4659ea615d2fb3f394b8317476fe4329c8ea8219a7cbe1c0cd7115c09fe72", func := "spiritlevel/spiritlevellaw14.AssignBack", spec := "assignBack", unfollowed := true, recurses := true, apart := false }
def AssignBackSaid : Prop := assignBackRow.holds Try.pinned (OpenSpec.ofChange assignBackSpec)

/-- ITS FALSE NEIGHBOUR: 'it returns false'. Refute it at one input. -/
def assignBackWrong : ChangeSpec := { name := "assignBack", fn := fun _ => fun
  | [d1, d2, d3] => { results := [.lit (.bool false)], args := [d1, d2, d3] }
  | _ => none }
def AssignBackWrongFalsely : Prop := assignBackRow.holds Try.pinned (OpenSpec.ofChange assignBackWrong)

/-- 'spiritlevellaw14.AssignTwice': WHATEVER THE INPUT: true; the input reads as it did. -/
def assignTwiceSpec : ChangeSpec := { name := "assignTwice", fn := fun _ => fun
  | [d1, d2, d3] => { results := [.lit (.bool true)], args := [d1, d2, d3] }
  | _ => none }
def assignTwiceRow : OpenClaim := { program := "ythgnjgnmkobboaa", sum := "7cb4659ea615d2fb3f394b8317476fe4329c8ea8219a7cbe1c0cd7115c09fe72", func := "spiritlevel/spiritlevellaw14.AssignTwice", spec := "assignTwice", unfollowed := true, recurses := true, apart := false }
def AssignTwiceSaid : Prop := assignTwiceRow.holds Try.pinned (OpenSpec.ofChange assignTwiceSpec)

/-- ITS FALSE NEIGHBOUR: 'it returns false'. Refute it at one input. -/
def assignTwiceWrong : ChangeSpec := { name := "assignTwice", fn := fun _ => fun
  | [d1, d2, d3] => { results := [.lit (.bool false)], args := [d1, d2, d3] }
  | _ => none }
def AssignTwiceWrongFalsely : Prop := assignTwiceRow.holds Try.pinned (OpenSpec.ofChange assignTwiceWrong)

/-- 'spiritlevellaw14.AssignValues': WHATEVER THE INPUT: true; the input reads as it did. -/
def assignValuesSpec : ChangeSpec := { name := "assignValues", fn := fun _ => fun
  | [d1, d2] => { results := [.lit (.bool true)], args := [d1, d2] }
  | _ => none }
def assignValuesRow : OpenClaim := { program := "ythgnjgnmkobboaa", sum := "7cb4659ea615d2fb3f394b8317476fe4329c8ea8219a7cbe1c0cd7115c09fe72", func := "spiritlevel/spiritlevellaw14.AssignValues", spec := "assignValues", unfollowed := true, recurses := true, apart := false }
def AssignValuesSaid : Prop := assignValuesRow.holds Try.pinned (OpenSpec.ofChange assignValuesSpec)

/-- ITS FALSE NEIGHBOUR: 'it returns false'. Refute it at one input. -/
def assignValuesWrong : ChangeSpec := { name := "assignValues", fn := fun _ => fun
  | [d1, d2] => { results := [.lit (.bool false)], args := [d1, d2] }
  | _ => none }
def AssignValuesWrongFalsely : Prop := assignValuesRow.holds Try.pinned (OpenSpec.ofChange assignValuesWrong)

/-- 'spiritlevellaw14.AssignLevels': WHATEVER THE INPUT: true; the input reads as it did. -/
def assignLevelsSpec : ChangeSpec := { name := "assignLevels", fn := fun _ => fun
  | [d1, d2] => { results := [.lit (.bool true)], args := [d1, d2] }
  | _ => none }
def assignLevelsRow : OpenClaim := { program := "ythgnjgnmkobboaa", sum := "7cb4659ea615d2fb3f394b8317476fe4329c8ea8219a7cbe1c0cd7115c09fe72", func := "spiritlevel/spiritlevellaw14.AssignLevels", spec := "assignLevels", unfollowed := true, recurses := true, apart := false }
def AssignLevelsSaid : Prop := assignLevelsRow.holds Try.pinned (OpenSpec.ofChange assignLevelsSpec)

/-- ITS FALSE NEIGHBOUR: 'it returns false'. Refute it at one input. -/
def assignLevelsWrong : ChangeSpec := { name := "assignLevels", fn := fun _ => fun
  | [d1, d2] => { results := [.lit (.bool false)], args := [d1, d2] }
  | _ => none }
def AssignLevelsWrongFalsely : Prop := assignLevelsRow.holds Try.pinned (OpenSpec.ofChange assignLevelsWrong)

/- THE SECOND FORM. 'bulk': how many values and letters a reading holds, each counted each time it is reached (what is shared counts as often as it is met; a slice's spare places count too). A statement '..UptoSaid' is the law's where the arguments, and the package variables that the reading takes, are together of bulk at most 1048576: NARROWER than '..Said'. Prove '..Said' where nothing that the law and all that it calls make is longer than what came in: it says more and counts as full. Else prove '..UptoSaid'. A law counts once. -/
mutual
def uptoBulk {H : Type} : DataW H → Nat
  | .lit (.string bytes) => bytes.length + 1
  | .lit _ => 1
  | .nil => 1
  | .ptr d => uptoBulk d + 1
  | .slice elems spare => uptoBulkAll elems + uptoBulkAll spare + 1
  | .agg parts => uptoBulkAll parts + 1
  | .iface _ d => uptoBulk d + 1
  | .map entries => uptoBulkEntries entries + 1
  | .held _ => 1
def uptoBulkAll {H : Type} : List (DataW H) → Nat
  | [] => 0
  | d :: r => uptoBulk d + uptoBulkAll r
def uptoBulkEntries {H : Type} : List (Lit × DataW H) → Nat
  | [] => 0
  | x :: r => uptoBulkEntry x + uptoBulkEntries r
def uptoBulkEntry {H : Type} : Lit × DataW H → Nat
  | (.string bytes, d) => bytes.length + uptoBulk d + 1
  | (_, d) => uptoBulk d + 1
 end
def uptoSmall : (H : Type) → List (DataW H) → Bool := fun _ ds => decide (uptoBulkAll ds ≤ 1048576)
def OpenSpec.upto (s : _root_.Go.ChangeSpec) : _root_.Go.OpenSpec := { _root_.Go.OpenSpec.ofChange s with cond := some uptoSmall }

/-- 'spiritlevellaw16.DecideTells', WHERE WHAT IT READS IS OF BULK AT MOST 1048576: true; the input reads as it did. -/
def decideTellsUptoRow : OpenClaim := { program := "ythgnjgnmkobboaa", sum := "7cb4659ea615d2fb3f394b8317476fe4329c8ea8219a7cbe1c0cd7115c09fe72", func := "spiritlevel/spiritlevellaw16.DecideTells", spec := "decideTells", apart := false, narrowed := true }
def DecideTellsUptoSaid : Prop := decideTellsUptoRow.holds Try.pinned (OpenSpec.upto decideTellsSpec)

/-- 'spiritlevellaw16.DecideNames', WHERE WHAT IT READS IS OF BULK AT MOST 1048576: true; the input reads as it did. -/
def decideNamesUptoRow : OpenClaim := { program := "ythgnjgnmkobboaa", sum := "7cb4659ea615d2fb3f394b8317476fe4329c8ea8219a7cbe1c0cd7115c09fe72", func := "spiritlevel/spiritlevellaw16.DecideNames", spec := "decideNames", apart := false, narrowed := true }
def DecideNamesUptoSaid : Prop := decideNamesUptoRow.holds Try.pinned (OpenSpec.upto decideNamesSpec)

/-- 'spiritlevellaw16.DecideFirst', WHERE WHAT IT READS IS OF BULK AT MOST 1048576: true; the input reads as it did. -/
def decideFirstUptoRow : OpenClaim := { program := "ythgnjgnmkobboaa", sum := "7cb4659ea615d2fb3f394b8317476fe4329c8ea8219a7cbe1c0cd7115c09fe72", func := "spiritlevel/spiritlevellaw16.DecideFirst", spec := "decideFirst", apart := false, narrowed := true }
def DecideFirstUptoSaid : Prop := decideFirstUptoRow.holds Try.pinned (OpenSpec.upto decideFirstSpec)

/-- 'spiritlevellaw16.DecideNext', WHERE WHAT IT READS IS OF BULK AT MOST 1048576: true; the input reads as it did. -/
def decideNextUptoRow : OpenClaim := { program := "ythgnjgnmkobboaa", sum := "7cb4659ea615d2fb3f394b8317476fe4329c8ea8219a7cbe1c0cd7115c09fe72", func := "spiritlevel/spiritlevellaw16.DecideNext", spec := "decideNext", apart := false, narrowed := true }
def DecideNextUptoSaid : Prop := decideNextUptoRow.holds Try.pinned (OpenSpec.upto decideNextSpec)

/-- 'spiritlevellaw16.DecideBack', WHERE WHAT IT READS IS OF BULK AT MOST 1048576: true; the input reads as it did. -/
def decideBackUptoRow : OpenClaim := { program := "ythgnjgnmkobboaa", sum := "7cb4659ea615d2fb3f394b8317476fe4329c8ea8219a7cbe1c0cd7115c09fe72", func := "spiritlevel/spiritlevellaw16.DecideBack", spec := "decideBack", apart := false, narrowed := true }
def DecideBackUptoSaid : Prop := decideBackUptoRow.holds Try.pinned (OpenSpec.upto decideBackSpec)

/-- 'spiritlevellaw16.DecideMixed', WHERE WHAT IT READS IS OF BULK AT MOST 1048576: true; the input reads as it did. -/
def decideMixedUptoRow : OpenClaim := { program := "ythgnjgnmkobboaa", sum := "7cb4659ea615d2fb3f394b8317476fe4329c8ea8219a7cbe1c0cd7115c09fe72", func := "spiritlevel/spiritlevellaw16.DecideMixed", spec := "decideMixed", apart := false, narrowed := true }
def DecideMixedUptoSaid : Prop := decideMixedUptoRow.holds Try.pinned (OpenSpec.upto decideMixedSpec)

/-- 'spiritlevellaw14.AssignTells', WHERE WHAT IT READS IS OF BULK AT MOST 1048576: true; the input reads as it did. -/
def assignTellsUptoRow : OpenClaim := { program := "ythgnjgnmkobboaa", sum := "7cb4659ea615d2fb3f394b8317476fe4329c8ea8219a7cbe1c0cd7115c09fe72", func := "spiritlevel/spiritlevellaw14.AssignTells", spec := "assignTells", unfollowed := true, recurses := true, apart := false, narrowed := true }
def AssignTellsUptoSaid : Prop := assignTellsUptoRow.holds Try.pinned (OpenSpec.upto assignTellsSpec)

/-- 'spiritlevellaw14.AssignNames', WHERE WHAT IT READS IS OF BULK AT MOST 1048576: true; the input reads as it did. -/
def assignNamesUptoRow : OpenClaim := { program := "ythgnjgnmkobboaa", sum := "7cb4659ea615d2fb3f394b8317476fe4329c8ea8219a7cbe1c0cd7115c09fe72", func := "spiritlevel/spiritlevellaw14.AssignNames", spec := "assignNames", unfollowed := true, recurses := true, apart := false, narrowed := true }
def AssignNamesUptoSaid : Prop := assignNamesUptoRow.holds Try.pinned (OpenSpec.upto assignNamesSpec)

/-- 'spiritlevellaw14.AssignBack', WHERE WHAT IT READS IS OF BULK AT MOST 1048576: true; the input reads as it did. -/
def assignBackUptoRow : OpenClaim := { program := "ythgnjgnmkobboaa", sum := "7cb4659ea615d2fb3f394b8317476fe4329c8ea8219a7cbe1c0cd7115c09fe72", func := "spiritlevel/spiritlevellaw14.AssignBack", spec := "assignBack", unfollowed := true, recurses := true, apart := false, narrowed := true }
def AssignBackUptoSaid : Prop := assignBackUptoRow.holds Try.pinned (OpenSpec.upto assignBackSpec)

/-- 'spiritlevellaw14.AssignTwice', WHERE WHAT IT READS IS OF BULK AT MOST 1048576: true; the input reads as it did. -/
def assignTwiceUptoRow : OpenClaim := { program := "ythgnjgnmkobboaa", sum := "7cb4659ea615d2fb3f394b8317476fe4329c8ea8219a7cbe1c0cd7115c09fe72", func := "spiritlevel/spiritlevellaw14.AssignTwice", spec := "assignTwice", unfollowed := true, recurses := true, apart := false, narrowed := true }
def AssignTwiceUptoSaid : Prop := assignTwiceUptoRow.holds Try.pinned (OpenSpec.upto assignTwiceSpec)

/-- 'spiritlevellaw14.AssignValues', WHERE WHAT IT READS IS OF BULK AT MOST 1048576: true; the input reads as it did. -/
def assignValuesUptoRow : OpenClaim := { program := "ythgnjgnmkobboaa", sum := "7cb4659ea615d2fb3f394b8317476fe4329c8ea8219a7cbe1c0cd7115c09fe72", func := "spiritlevel/spiritlevellaw14.AssignValues", spec := "assignValues", unfollowed := true, recurses := true, apart := false, narrowed := true }
def AssignValuesUptoSaid : Prop := assignValuesUptoRow.holds Try.pinned (OpenSpec.upto assignValuesSpec)

/-- 'spiritlevellaw14.AssignLevels', WHERE WHAT IT READS IS OF BULK AT MOST 1048576: true; the input reads as it did. -/
def assignLevelsUptoRow : OpenClaim := { program := "ythgnjgnmkobboaa", sum := "7cb4659ea615d2fb3f394b8317476fe4329c8ea8219a7cbe1c0cd7115c09fe72", func := "spiritlevel/spiritlevellaw14.AssignLevels", spec := "assignLevels", unfollowed := true, recurses := true, apart := false, narrowed := true }
def AssignLevelsUptoSaid : Prop := assignLevelsUptoRow.holds Try.pinned (OpenSpec.upto assignLevelsSpec)

end Rows
end Go.Proofs.Ythgnjgnmkobboaa
