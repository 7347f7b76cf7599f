/- The solver's laws, of plain values: SolveMore, SolveLog. -/
import Derived.Test.YtafogmegjlllkaaGreatPS5
namespace Go.Proofs.YtafogmegjlllkaaGreat
open Go Go.Proofs.YtafogmegjlllkaaGreat.R
set_option linter.unusedVariables false

/-! ### SolveMore -/

section
variable {v : Int} {L : List (List Int)}

theorem models_app {A B : List (List Int)} {W : List Bool} : Models (A ++ B) W ↔ Models A W ∧ Models B W := by
  constructor
  · exact fun h => ⟨fun c hc => h c (List.mem_append_left _ hc), fun c hc => h c (List.mem_append_right _ hc)⟩
  · rintro ⟨h1, h2⟩ c hc
    rcases List.mem_append.1 hc with h | h
    · exact h1 c h
    · exact h2 c h

theorem ansR_sat {v : Int} {r : Bool × List Int × List (List Int) × Nat} (h : r.1 = true) : (ansR v r).2.1 = mdl v r.2.1 := by unfold ansR; rw [h]; rfl
theorem ansR_un {v : Int} {r : Bool × List Int × List (List Int) × Nat} (h : r.1 = false) : (ansR v r).2.1 = [] := by unfold ansR; rw [h]; rfl

/-! ### SolveLog -/

def cntF (l : List (List Int)) : Nat := (l.filter fun c => decide (c ≠ [])).length

end

end Go.Proofs.YtafogmegjlllkaaGreat
