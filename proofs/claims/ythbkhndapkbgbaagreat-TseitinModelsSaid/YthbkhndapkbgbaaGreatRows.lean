/-
  No cell of these rows narrows 'for every input' (looked for: loops, veiled, ifaces, maps, wideKeys, modest, calm, conditions, laid).
  DERIVED. THE GIVEN ROWS OF THIS SEAT. 3 by the template 'for every input the law returns true; each argument reads behind the call as it read before'; 0 by the template 'total and deterministic' (their statements: YthbkhndapkbgbaaGreatTotals.lean).
  GIVEN WITH THE SEED: the statements are not yours to turn. If you find one false, say at which input.
  Laid BY PROGRAM, IN A SANDBOX (cutbox-rows.mjs): the forced cells as the released guide's own fill.sh prints them over the translation f34ee9f05f909c51… (all of the seat's roots in one cut). By AI agents, Wed Nov 11 2026. No macro, syntax, notation, axiom, sorry.
-/
import Derived.Test.YthbkhndapkbgbaaGreatChecked
import GoSem.Claim
import GoSem.ClaimJoined
import GoSem.ClaimMapViews
import Derived.JoinedTies
import Derived.KernelRfl
namespace Go.Proofs.YthbkhndapkbgbaaGreat
/- THE CELL 'sum', in the pinned program and in every row, IS THE sha256 OF THE DUMP (.gsa) THAT YthbkhndapkbgbaaGreatProg.lean LOADS. Nothing in Lean hashes anything: it is a label: what it is worth is what the hold of that sum in a sandbox is worth. -/
noncomputable def Tryz.pinned : Pinned := { name := "ythbkhndapkbgbaagreat", sum := "f34ee9f05f909c51a685e9fbd27228527f60e8f9f611abcbc6f9e1d18f3e657f", checked := Tryz.checked }
namespace Rows
def none {H : Type} : Left H := { results := [], args := [] }

/-- 'spiritlevellaw19.SolveTells': WHATEVER THE INPUT: true; the input reads as it did. -/
def solveTellsSpec : ChangeSpec := { name := "solveTells", fn := fun _ => fun
  | [d1, d2, d3, d4] => { results := [.lit (.bool true)], args := [d1, d2, d3, d4] }
  | _ => none }
def solveTellsRow : OpenClaim := { program := "ythbkhndapkbgbaagreat", sum := "f34ee9f05f909c51a685e9fbd27228527f60e8f9f611abcbc6f9e1d18f3e657f", func := "spiritlevel/spiritlevellaw19.SolveTells", spec := "solveTells", unfollowed := true, recurses := true, apart := false }
def SolveTellsSaid : Prop := solveTellsRow.holds Tryz.pinned (OpenSpec.ofChange solveTellsSpec)

/-- ITS FALSE NEIGHBOUR: 'it returns false'. Refute it at one input. -/
def solveTellsWrong : ChangeSpec := { name := "solveTells", fn := fun _ => fun
  | [d1, d2, d3, d4] => { results := [.lit (.bool false)], args := [d1, d2, d3, d4] }
  | _ => none }
def SolveTellsWrongFalsely : Prop := solveTellsRow.holds Tryz.pinned (OpenSpec.ofChange solveTellsWrong)

/-- 'spiritlevellaw22.TseitinModels': WHATEVER THE INPUT: true; the input reads as it did. -/
def tseitinModelsSpec : ChangeSpec := { name := "tseitinModels", fn := fun _ => fun
  | [d1, d2, d3] => { results := [.lit (.bool true)], args := [d1, d2, d3] }
  | _ => none }
def tseitinModelsRow : OpenClaim := { program := "ythbkhndapkbgbaagreat", sum := "f34ee9f05f909c51a685e9fbd27228527f60e8f9f611abcbc6f9e1d18f3e657f", func := "spiritlevel/spiritlevellaw22.TseitinModels", spec := "tseitinModels", unfollowed := true, recurses := true, apart := false }
def TseitinModelsSaid : Prop := tseitinModelsRow.holds Tryz.pinned (OpenSpec.ofChange tseitinModelsSpec)

/-- ITS FALSE NEIGHBOUR: 'it returns false'. Refute it at one input. -/
def tseitinModelsWrong : ChangeSpec := { name := "tseitinModels", fn := fun _ => fun
  | [d1, d2, d3] => { results := [.lit (.bool false)], args := [d1, d2, d3] }
  | _ => none }
def TseitinModelsWrongFalsely : Prop := tseitinModelsRow.holds Tryz.pinned (OpenSpec.ofChange tseitinModelsWrong)

/-- 'spiritlevellaw21.RupAnswers': WHATEVER THE INPUT: true; the input reads as it did. -/
def rupAnswersSpec : ChangeSpec := { name := "rupAnswers", fn := fun _ => fun
  | [d1, d2, d3] => { results := [.lit (.bool true)], args := [d1, d2, d3] }
  | _ => none }
def rupAnswersRow : OpenClaim := { program := "ythbkhndapkbgbaagreat", sum := "f34ee9f05f909c51a685e9fbd27228527f60e8f9f611abcbc6f9e1d18f3e657f", func := "spiritlevel/spiritlevellaw21.RupAnswers", spec := "rupAnswers", unfollowed := true, recurses := true, apart := false }
def RupAnswersSaid : Prop := rupAnswersRow.holds Tryz.pinned (OpenSpec.ofChange rupAnswersSpec)

/-- ITS FALSE NEIGHBOUR: 'it returns false'. Refute it at one input. -/
def rupAnswersWrong : ChangeSpec := { name := "rupAnswers", fn := fun _ => fun
  | [d1, d2, d3] => { results := [.lit (.bool false)], args := [d1, d2, d3] }
  | _ => none }
def RupAnswersWrongFalsely : Prop := rupAnswersRow.holds Tryz.pinned (OpenSpec.ofChange rupAnswersWrong)

/- THE SECOND FORM. 'bulk': how many values and letters a reading holds, each counted each time it is reached (what is shared counts as often as it is met; a slice's spare places count too). A statement '..UptoSaid' is the law's where the arguments, and the package variables that the reading takes, are together of bulk at most 1048576: NARROWER than '..Said'. Prove '..Said' where nothing that the law and all that it calls make is longer than what came in: it says more and counts as full. Else prove '..UptoSaid'. A law counts once. -/
mutual
def uptoBulk {H : Type} : DataW H → Nat
  | .lit (.string bytes) => bytes.length + 1
  | .lit _ => 1
  | .nil => 1
  | .ptr d => uptoBulk d + 1
  | .slice elems spare => uptoBulkAll elems + uptoBulkAll spare + 1
  | .agg parts => uptoBulkAll parts + 1
  | .iface _ d => uptoBulk d + 1
  | .map entries => uptoBulkEntries entries + 1
  | .held _ => 1
def uptoBulkAll {H : Type} : List (DataW H) → Nat
  | [] => 0
  | d :: r => uptoBulk d + uptoBulkAll r
def uptoBulkEntries {H : Type} : List (Lit × DataW H) → Nat
  | [] => 0
  | x :: r => uptoBulkEntry x + uptoBulkEntries r
def uptoBulkEntry {H : Type} : Lit × DataW H → Nat
  | (.string bytes, d) => bytes.length + uptoBulk d + 1
  | (_, d) => uptoBulk d + 1
 end
def uptoSmall : (H : Type) → List (DataW H) → Bool := fun _ ds => decide (uptoBulkAll ds ≤ 1048576)
def OpenSpec.upto (s : _root_.Go.ChangeSpec) : _root_.Go.OpenSpec := { _root_.Go.OpenSpec.ofChange s with cond := some uptoSmall }

/-- 'spiritlevellaw19.SolveTells', WHERE WHAT IT READS IS OF BULK AT MOST 1048576: true; the input reads as it did. -/
def solveTellsUptoRow : OpenClaim := { program := "ythbkhndapkbgbaagreat", sum := "f34ee9f05f909c51a685e9fbd27228527f60e8f9f611abcbc6f9e1d18f3e657f", func := "spiritlevel/spiritlevellaw19.SolveTells", spec := "solveTells", unfollowed := true, recurses := true, apart := false, narrowed := true }
def SolveTellsUptoSaid : Prop := solveTellsUptoRow.holds Tryz.pinned (OpenSpec.upto solveTellsSpec)

/-- 'spiritlevellaw22.TseitinModels', WHERE WHAT IT READS IS OF BULK AT MOST 1048576: true; the input reads as it did. -/
def tseitinModelsUptoRow : OpenClaim := { program := "ythbkhndapkbgbaagreat", sum := "f34ee9f05f909c51a685e9fbd27228527f60e8f9f611abcbc6f9e1d18f3e657f", func := "spiritlevel/spiritlevellaw22.TseitinModels", spec := "tseitinModels", unfollowed := true, recurses := true, apart := false, narrowed := true }
def TseitinModelsUptoSaid : Prop := tseitinModelsUptoRow.holds Tryz.pinned (OpenSpec.upto tseitinModelsSpec)

/-- 'spiritlevellaw21.RupAnswers', WHERE WHAT IT READS IS OF BULK AT MOST 1048576: true; the input reads as it did. -/
def rupAnswersUptoRow : OpenClaim := { program := "ythbkhndapkbgbaagreat", sum := "f34ee9f05f909c51a685e9fbd27228527f60e8f9f611abcbc6f9e1d18f3e657f", func := "spiritlevel/spiritlevellaw21.RupAnswers", spec := "rupAnswers", unfollowed := true, recurses := true, apart := false, narrowed := true }
def RupAnswersUptoSaid : Prop := rupAnswersUptoRow.holds Tryz.pinned (OpenSpec.upto rupAnswersSpec)

end Rows
end Go.Proofs.YthbkhndapkbgbaaGreat
