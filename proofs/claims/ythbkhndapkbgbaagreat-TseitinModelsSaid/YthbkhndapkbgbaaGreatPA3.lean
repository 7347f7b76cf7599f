/- . -/
import Derived.Test.YthbkhndapkbgbaaGreatPA2
namespace Go.Proofs.YthbkhndapkbgbaaGreat
open Go Go.Proofs.YthbkhndapkbgbaaGreat.R
set_option linter.unusedVariables false

theorem okA.dec {v : Int} {t s : List Int} (h : okA v t s) {x : Int} (hx : isLit v x) (hf : isS t x = 2) : okA v (t ++ [x]) (s ++ [(t.length : Int)]) := by
  have h3 := h.push hx hf
  refine { h3 with inc := ?_, bnd := fun y hy => ?_ }
  · rw [List.pairwise_append]
    refine ⟨h.inc, by simp, fun x hx y hy => ?_⟩
    rw [List.mem_singleton.1 hy]
    exact (h.bnd x hx).2
  · rw [List.length_append, List.length_singleton]
    rcases List.mem_append.1 hy with hy | hy
    · have := h.bnd y hy; omega
    · rw [List.mem_singleton.1 hy]; omega

theorem idxC_at : ∀ {t : List Int} {k : Int} (i : Nat) (hi : i < t.length), t.Pairwise (fun a b => a / 2 ≠ b / 2) → idxC t[i] k t = k + i
  | a :: r, k, 0, hi, _ => by simp [idxC]
  | a :: r, k, i + 1, hi, hd => by
    rw [List.pairwise_cons] at hd
    have hlt : i < r.length := by simpa using hi
    have := hd.1 _ (List.getElem_mem hlt)
    simp only [List.getElem_cons_succ, idxC]
    rw [if_neg this, idxC_at i hlt hd.2]
    omega

end Go.Proofs.YthbkhndapkbgbaaGreat
