/- . -/
import Derived.Test.YthbkhndapkbgbaaGreatPR1
namespace Go.Proofs.YthbkhndapkbgbaaGreat
open Go Go.Proofs.YthbkhndapkbgbaaGreat.R
set_option linter.unusedVariables false



theorem follows_true {v : Int} (hv : okV v) {L : List (List Int)} (hL : okL v L) {c : List Int} (hc : okC v c) {W : List Bool} (hm : ∀ c ∈ L, c.any (truth W) = true) (h : fromC v L c = true) : c.any (truth W) = true := by
  apply Classical.byContradiction
  intro hn
  have hf : ∀ l ∈ c, truth W l = false := fun l hl => by
    cases ht : truth W l with
    | false => rfl
    | true => exact absurd (List.any_eq_true.2 ⟨l, hl, ht⟩) hn
  have := (prop_models hL hm (v + 1).toNat (okA_neg hv hc) fun l hl => by
    obtain ⟨x, hx, rfl⟩ := List.mem_map.1 hl
    rw [truth_neg (hc.1 x hx).1, hf x hx]; rfl).1
  unfold fromC confC at h
  have := of_decide_eq_true h
  omega

end Go.Proofs.YthbkhndapkbgbaaGreat
