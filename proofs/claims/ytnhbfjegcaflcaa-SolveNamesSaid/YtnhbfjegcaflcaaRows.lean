/-
  No cell of these rows narrows 'for every input' (looked for: loops, veiled, ifaces, maps, wideKeys, modest, calm, conditions, laid).
  DERIVED. THE GIVEN ROWS OF THIS SEAT. 6 by the template 'for every input the law returns true; each argument reads behind the call as it read before'; 0 by the template 'total and deterministic' (their statements: YtnhbfjegcaflcaaTotals.lean).
  GIVEN WITH THE SEED: the statements are not yours to turn. If you find one false, say at which input.
  Laid BY PROGRAM, IN A SANDBOX (cutbox-rows.mjs): the forced cells as the released guide's own fill.sh prints them over the translation 886aac536c45b9ac… (all of the seat's roots in one cut). By AI agents, Wed Nov 11 2026. No macro, syntax, notation, axiom, sorry.
-/
import Derived.Test.YtnhbfjegcaflcaaChecked
import GoSem.Claim
import GoSem.ClaimJoined
import GoSem.ClaimMapViews
import Derived.JoinedTies
import Derived.KernelRfl
namespace Go.Proofs.Ytnhbfjegcaflcaa
/- THE CELL 'sum', in the pinned program and in every row, IS THE sha256 OF THE DUMP (.gsa) THAT YtnhbfjegcaflcaaProg.lean LOADS. Nothing in Lean hashes anything: it is a label: what it is worth is what the hold of that sum in a sandbox is worth. -/
noncomputable def Try.pinned : Pinned := { name := "ytnhbfjegcaflcaa", sum := "886aac536c45b9ac8ac7b3b261edfdd4184a22994b7b8d17b1ad731fdce84c5b", checked := Try.checked }
namespace Rows
def none {H : Type} : Left H := { results := [], args := [] }

/-- 'spiritlevellaw19.SolveBudget': WHATEVER THE INPUT: true; the input reads as it did. -/
def solveBudgetSpec : ChangeSpec := { name := "solveBudget", fn := fun _ => fun
  | [d1, d2, d3] => { results := [.lit (.bool true)], args := [d1, d2, d3] }
  | _ => none }
def solveBudgetRow : OpenClaim := { program := "ytnhbfjegcaflcaa", sum := "886aac536c45b9ac8ac7b3b261edfdd4184a22994b7b8d17b1ad731fdce84c5b", func := "spiritlevel/spiritlevellaw19.SolveBudget", spec := "solveBudget", unfollowed := true, recurses := true, apart := false }
def SolveBudgetSaid : Prop := solveBudgetRow.holds Try.pinned (OpenSpec.ofChange solveBudgetSpec)

/-- ITS FALSE NEIGHBOUR: 'it returns false'. Refute it at one input. -/
def solveBudgetWrong : ChangeSpec := { name := "solveBudget", fn := fun _ => fun
  | [d1, d2, d3] => { results := [.lit (.bool false)], args := [d1, d2, d3] }
  | _ => none }
def SolveBudgetWrongFalsely : Prop := solveBudgetRow.holds Try.pinned (OpenSpec.ofChange solveBudgetWrong)

/-- 'spiritlevellaw19.SolveOrder': WHATEVER THE INPUT: true; the input reads as it did. -/
def solveOrderSpec : ChangeSpec := { name := "solveOrder", fn := fun _ => fun
  | [d1, d2, d3] => { results := [.lit (.bool true)], args := [d1, d2, d3] }
  | _ => none }
def solveOrderRow : OpenClaim := { program := "ytnhbfjegcaflcaa", sum := "886aac536c45b9ac8ac7b3b261edfdd4184a22994b7b8d17b1ad731fdce84c5b", func := "spiritlevel/spiritlevellaw19.SolveOrder", spec := "solveOrder", unfollowed := true, recurses := true, apart := false }
def SolveOrderSaid : Prop := solveOrderRow.holds Try.pinned (OpenSpec.ofChange solveOrderSpec)

/-- ITS FALSE NEIGHBOUR: 'it returns false'. Refute it at one input. -/
def solveOrderWrong : ChangeSpec := { name := "solveOrder", fn := fun _ => fun
  | [d1, d2, d3] => { results := [.lit (.bool false)], args := [d1, d2, d3] }
  | _ => none }
def SolveOrderWrongFalsely : Prop := solveOrderRow.holds Try.pinned (OpenSpec.ofChange solveOrderWrong)

/-- 'spiritlevellaw19.SolveMore': WHATEVER THE INPUT: true; the input reads as it did. -/
def solveMoreSpec : ChangeSpec := { name := "solveMore", fn := fun _ => fun
  | [d1, d2, d3, d4] => { results := [.lit (.bool true)], args := [d1, d2, d3, d4] }
  | _ => none }
def solveMoreRow : OpenClaim := { program := "ytnhbfjegcaflcaa", sum := "886aac536c45b9ac8ac7b3b261edfdd4184a22994b7b8d17b1ad731fdce84c5b", func := "spiritlevel/spiritlevellaw19.SolveMore", spec := "solveMore", unfollowed := true, recurses := true, apart := false }
def SolveMoreSaid : Prop := solveMoreRow.holds Try.pinned (OpenSpec.ofChange solveMoreSpec)

/-- ITS FALSE NEIGHBOUR: 'it returns false'. Refute it at one input. -/
def solveMoreWrong : ChangeSpec := { name := "solveMore", fn := fun _ => fun
  | [d1, d2, d3, d4] => { results := [.lit (.bool false)], args := [d1, d2, d3, d4] }
  | _ => none }
def SolveMoreWrongFalsely : Prop := solveMoreRow.holds Try.pinned (OpenSpec.ofChange solveMoreWrong)

/-- 'spiritlevellaw19.SolveLog': WHATEVER THE INPUT: true; the input reads as it did. -/
def solveLogSpec : ChangeSpec := { name := "solveLog", fn := fun _ => fun
  | [d1, d2] => { results := [.lit (.bool true)], args := [d1, d2] }
  | _ => none }
def solveLogRow : OpenClaim := { program := "ytnhbfjegcaflcaa", sum := "886aac536c45b9ac8ac7b3b261edfdd4184a22994b7b8d17b1ad731fdce84c5b", func := "spiritlevel/spiritlevellaw19.SolveLog", spec := "solveLog", unfollowed := true, recurses := true, apart := false }
def SolveLogSaid : Prop := solveLogRow.holds Try.pinned (OpenSpec.ofChange solveLogSpec)

/-- ITS FALSE NEIGHBOUR: 'it returns false'. Refute it at one input. -/
def solveLogWrong : ChangeSpec := { name := "solveLog", fn := fun _ => fun
  | [d1, d2] => { results := [.lit (.bool false)], args := [d1, d2] }
  | _ => none }
def SolveLogWrongFalsely : Prop := solveLogRow.holds Try.pinned (OpenSpec.ofChange solveLogWrong)

/-- 'spiritlevellaw19.SolveNames': WHATEVER THE INPUT: true; the input reads as it did. -/
def solveNamesSpec : ChangeSpec := { name := "solveNames", fn := fun _ => fun
  | [] => { results := [.lit (.bool true)], args := [] }
  | _ => none }
def solveNamesRow : OpenClaim := { program := "ytnhbfjegcaflcaa", sum := "886aac536c45b9ac8ac7b3b261edfdd4184a22994b7b8d17b1ad731fdce84c5b", func := "spiritlevel/spiritlevellaw19.SolveNames", spec := "solveNames", unfollowed := true, recurses := true, apart := false }
def SolveNamesSaid : Prop := solveNamesRow.holds Try.pinned (OpenSpec.ofChange solveNamesSpec)

/-- ITS FALSE NEIGHBOUR: 'it returns false'. Refute it at one input. -/
def solveNamesWrong : ChangeSpec := { name := "solveNames", fn := fun _ => fun
  | [] => { results := [.lit (.bool false)], args := [] }
  | _ => none }
def SolveNamesWrongFalsely : Prop := solveNamesRow.holds Try.pinned (OpenSpec.ofChange solveNamesWrong)

/-- 'spiritlevellaw19.SolveLeast': WHATEVER THE INPUT: true; the input reads as it did. -/
def solveLeastSpec : ChangeSpec := { name := "solveLeast", fn := fun _ => fun
  | [d1, d2] => { results := [.lit (.bool true)], args := [d1, d2] }
  | _ => none }
def solveLeastRow : OpenClaim := { program := "ytnhbfjegcaflcaa", sum := "886aac536c45b9ac8ac7b3b261edfdd4184a22994b7b8d17b1ad731fdce84c5b", func := "spiritlevel/spiritlevellaw19.SolveLeast", spec := "solveLeast", unfollowed := true, recurses := true, apart := false }
def SolveLeastSaid : Prop := solveLeastRow.holds Try.pinned (OpenSpec.ofChange solveLeastSpec)

/-- ITS FALSE NEIGHBOUR: 'it returns false'. Refute it at one input. -/
def solveLeastWrong : ChangeSpec := { name := "solveLeast", fn := fun _ => fun
  | [d1, d2] => { results := [.lit (.bool false)], args := [d1, d2] }
  | _ => none }
def SolveLeastWrongFalsely : Prop := solveLeastRow.holds Try.pinned (OpenSpec.ofChange solveLeastWrong)

/- THE SECOND FORM. 'bulk': how many values and letters a reading holds, each counted each time it is reached (what is shared counts as often as it is met; a slice's spare places count too). A statement '..UptoSaid' is the law's where the arguments, and the package variables that the reading takes, are together of bulk at most 1048576: NARROWER than '..Said'. Prove '..Said' where nothing that the law and all that it calls make is longer than what came in: it says more and counts as full. Else prove '..UptoSaid'. A law counts once. -/
mutual
def uptoBulk {H : Type} : DataW H → Nat
  | .lit (.string bytes) => bytes.length + 1
  | .lit _ => 1
  | .nil => 1
  | .ptr d => uptoBulk d + 1
  | .slice elems spare => uptoBulkAll elems + uptoBulkAll spare + 1
  | .agg parts => uptoBulkAll parts + 1
  | .iface _ d => uptoBulk d + 1
  | .map entries => uptoBulkEntries entries + 1
  | .held _ => 1
def uptoBulkAll {H : Type} : List (DataW H) → Nat
  | [] => 0
  | d :: r => uptoBulk d + uptoBulkAll r
def uptoBulkEntries {H : Type} : List (Lit × DataW H) → Nat
  | [] => 0
  | x :: r => uptoBulkEntry x + uptoBulkEntries r
def uptoBulkEntry {H : Type} : Lit × DataW H → Nat
  | (.string bytes, d) => bytes.length + uptoBulk d + 1
  | (_, d) => uptoBulk d + 1
 end
def uptoSmall : (H : Type) → List (DataW H) → Bool := fun _ ds => decide (uptoBulkAll ds ≤ 1048576)
def OpenSpec.upto (s : _root_.Go.ChangeSpec) : _root_.Go.OpenSpec := { _root_.Go.OpenSpec.ofChange s with cond := some uptoSmall }

/-- 'spiritlevellaw19.SolveBudget', WHERE WHAT IT READS IS OF BULK AT MOST 1048576: true; the input reads as it did. -/
def solveBudgetUptoRow : OpenClaim := { program := "ytnhbfjegcaflcaa", sum := "886aac536c45b9ac8ac7b3b261edfdd4184a22994b7b8d17b1ad731fdce84c5b", func := "spiritlevel/spiritlevellaw19.SolveBudget", spec := "solveBudget", unfollowed := true, recurses := true, apart := false, narrowed := true }
def SolveBudgetUptoSaid : Prop := solveBudgetUptoRow.holds Try.pinned (OpenSpec.upto solveBudgetSpec)

/-- 'spiritlevellaw19.SolveOrder', WHERE WHAT IT READS IS OF BULK AT MOST 1048576: true; the input reads as it did. -/
def solveOrderUptoRow : OpenClaim := { program := "ytnhbfjegcaflcaa", sum := "886aac536c45b9ac8ac7b3b261edfdd4184a22994b7b8d17b1ad731fdce84c5b", func := "spiritlevel/spiritlevellaw19.SolveOrder", spec := "solveOrder", unfollowed := true, recurses := true, apart := false, narrowed := true }
def SolveOrderUptoSaid : Prop := solveOrderUptoRow.holds Try.pinned (OpenSpec.upto solveOrderSpec)

/-- 'spiritlevellaw19.SolveMore', WHERE WHAT IT READS IS OF BULK AT MOST 1048576: true; the input reads as it did. -/
def solveMoreUptoRow : OpenClaim := { program := "ytnhbfjegcaflcaa", sum := "886aac536c45b9ac8ac7b3b261edfdd4184a22994b7b8d17b1ad731fdce84c5b", func := "spiritlevel/spiritlevellaw19.SolveMore", spec := "solveMore", unfollowed := true, recurses := true, apart := false, narrowed := true }
def SolveMoreUptoSaid : Prop := solveMoreUptoRow.holds Try.pinned (OpenSpec.upto solveMoreSpec)

/-- 'spiritlevellaw19.SolveLog', WHERE WHAT IT READS IS OF BULK AT MOST 1048576: true; the input reads as it did. -/
def solveLogUptoRow : OpenClaim := { program := "ytnhbfjegcaflcaa", sum := "886aac536c45b9ac8ac7b3b261edfdd4184a22994b7b8d17b1ad731fdce84c5b", func := "spiritlevel/spiritlevellaw19.SolveLog", spec := "solveLog", unfollowed := true, recurses := true, apart := false, narrowed := true }
def SolveLogUptoSaid : Prop := solveLogUptoRow.holds Try.pinned (OpenSpec.upto solveLogSpec)

/-- 'spiritlevellaw19.SolveNames', WHERE WHAT IT READS IS OF BULK AT MOST 1048576: true; the input reads as it did. -/
def solveNamesUptoRow : OpenClaim := { program := "ytnhbfjegcaflcaa", sum := "886aac536c45b9ac8ac7b3b261edfdd4184a22994b7b8d17b1ad731fdce84c5b", func := "spiritlevel/spiritlevellaw19.SolveNames", spec := "solveNames", unfollowed := true, recurses := true, apart := false, narrowed := true }
def SolveNamesUptoSaid : Prop := solveNamesUptoRow.holds Try.pinned (OpenSpec.upto solveNamesSpec)

/-- 'spiritlevellaw19.SolveLeast', WHERE WHAT IT READS IS OF BULK AT MOST 1048576: true; the input reads as it did. -/
def solveLeastUptoRow : OpenClaim := { program := "ytnhbfjegcaflcaa", sum := "886aac536c45b9ac8ac7b3b261edfdd4184a22994b7b8d17b1ad731fdce84c5b", func := "spiritlevel/spiritlevellaw19.SolveLeast", spec := "solveLeast", unfollowed := true, recurses := true, apart := false, narrowed := true }
def SolveLeastUptoSaid : Prop := solveLeastUptoRow.holds Try.pinned (OpenSpec.upto solveLeastSpec)

end Rows
end Go.Proofs.Ytnhbfjegcaflcaa
