/- Logs, of plain values: a clause that is made; RupImplied. -/
import Derived.Test.YtafogmegjlllkaaPR2
import Derived.Test.YtafogmegjlllkaaPA1
namespace Go.Proofs.Ytafogmegjlllkaa
open Go Go.Proofs.Ytafogmegjlllkaa.R
set_option linter.unusedVariables false

/-! ### Sorted and compact -/

theorem sortI_spec (l : List Int) : (sortI l).Perm l ∧ (sortI l).Pairwise (· ≤ ·) := by
  refine ⟨List.mergeSort_perm _ _, ?_⟩
  have := List.pairwise_mergeSort (le := fun x y : Int => decide (x ≤ y)) (by simp; omega) (by simp; omega) l
  exact this.imp fun h => by simpa using h

/-! ### A clause that is made -/

/-! ### Is a clause part of another one? -/

theorem okC.inc {v : Int} {c : List Int} (h : okC v c) : c.Pairwise (· < ·) := h.2.imp fun hab => by omega

/-! ### RupImplied -/

end Go.Proofs.Ytafogmegjlllkaa
