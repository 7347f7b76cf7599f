/- . -/
import Derived.Test.YthbkhndapkbgbaaGreatPD3
import Derived.Test.YthbkhndapkbgbaaGreatP5
namespace Go.Proofs.YthbkhndapkbgbaaGreat
open Go Go.Proofs.YthbkhndapkbgbaaGreat.R
set_option linter.unusedVariables false



def allL (n : Nat) : List Int := (List.range n).map fun i : Nat => (i : Int) + 1

theorem allL_succ {n : Nat} : allL (n + 1) = allL n ++ [(n : Int) + 1] := by
  unfold allL
  rw [List.range_succ, List.map_append]; rfl

theorem allL_len {n : Nat} : (allL n).length = n := by unfold allL; rw [List.length_map, List.length_range]

theorem allL_gd {n i : Nat} (hi : i < n) : gd (allL n) i = (i : Int) + 1 := by
  rw [gd_lt (by rw [allL_len]; exact hi)]
  simp [allL]

theorem allL_mem {n : Nat} {x : Int} : x ∈ allL n ↔ 1 ≤ x ∧ x ≤ n := by
  unfold allL
  rw [List.mem_map]
  constructor
  · rintro ⟨i, hi, rfl⟩
    rw [List.mem_range] at hi
    omega
  · intro h
    exact ⟨(x - 1).toNat, List.mem_range.2 (by omega), by omega⟩


theorem mem_popped {h : List Int} (k : okH h) (hne : h ≠ []) {y : Int} : y ∈ popped h ↔ y ∈ h ∧ y ≠ gd h 0 := by
  have hp := popped_perm hne
  have hd := List.nodup_cons.1 (hp.nodup_iff.2 k.nodup)
  rw [← hp.mem_iff, List.mem_cons]
  constructor
  · intro hy
    exact ⟨.inr hy, fun e => hd.1 (e ▸ hy)⟩
  · rintro ⟨hy | hy, hn⟩
    · exact absurd hy hn
    · exact hy

end Go.Proofs.YthbkhndapkbgbaaGreat
