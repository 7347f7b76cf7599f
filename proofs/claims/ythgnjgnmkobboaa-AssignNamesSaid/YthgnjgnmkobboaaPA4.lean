/- AssignNames, of plain values. -/
import Derived.Test.YthgnjgnmkobboaaPA3
namespace Go.Proofs.Ythgnjgnmkobboaa
open Go Go.Proofs.Ythgnjgnmkobboaa.R
set_option linter.unusedVariables false

theorem AssignNames.loop {L : List (Int × List Int × List Int)} (hn : L.length ≤ 1000) (hL : ∀ b ∈ L, small64 b.2.1 = true ∧ b.2.2.length ≤ 1000 ∧ ¬ okA b.1 b.2.1 b.2.2) : ∀ (m i : Nat), i + m = L.length → spiritlevellaw14_AssignNames.l0 (i : Int) L = spiritlevellaw14_AssignNames.l0 (L.length : Int) L
  | 0, i, hi => by
    have : i = L.length := by omega
    subst this; rfl
  | m + 1, i, hi => by
    have hlt : i < L.length := by omega
    obtain ⟨h1, h2, h3⟩ := hL _ (List.getElem_mem hlt)
    have hsm := small64_of h1
    have hw2 : IntKind.wrap .i64 ((i : Int) + 1) = ((i + 1 : Nat) : Int) := by rw [wr] <;> omega
    have hz : ((i : Int)).toNat = i := by omega
    have z0 : in64 0 := by decide
    have q1 : ∀ d, putC L[i].1 L[i].2.1 L[i].2.2 0 d = (noneA, 8) := fun d => by unfold putC; rw [if_neg h3]
    have q2 : valC L[i].1 L[i].2.1 L[i].2.2 0 = (0, 8) := by unfold valC; rw [if_neg h3]
    have q3 : levC L[i].1 L[i].2.1 L[i].2.2 0 = (0, 8) := by unfold levC; rw [if_neg h3]
    have q4 : undC L[i].1 L[i].2.1 L[i].2.2 (-1) = (noneA, 8) := by unfold undC; rw [if_neg h3]
    rw [spiritlevellaw14_AssignNames.l0_eq, cd, if_pos (by omega)]
    simp only [gsome hlt, hz, List.getElem?_eq_getElem hlt, Option.bind_some, dec_s ⟨h1, h2, z0⟩, imp_s ⟨h1, h2, z0⟩, val_s ⟨h1, h2, z0⟩, lev_s ⟨h1, h2, z0⟩, und_s ⟨h1, h2⟩, q1, q2, q3, q4]
    rw [assign_Check_eq (by omega) (by omega) hsm.2, Option.bind_some, if_neg h3, hw2, AssignNames.loop hn hL m (i + 1) (by omega)]
    rfl

theorem AssignNames_pure : spiritlevellaw14_AssignNames = some true := by
  rw [spiritlevellaw14_AssignNames.eq]
  have hlp := AssignNames.loop (L := [(-1, ([], [])), (4001, ([], [])), (2, ([6], [])), (2, ([1], [])), (2, ([2, 3], [])), (2, ([2, 2], [])), (2, ([], [0])), (2, ([2, 4], [1, 1])), (2, ([2, 4], [1, 0])), (2, ([2], [-1])), (2, ([2], [1]))]) (by decide) (by decide) 11 0 rfl
  rw [show ((0 : Nat) : Int) = 0 from rfl] at hlp
  rw [hlp, spiritlevellaw14_AssignNames.l0_eq, cd, if_neg (by decide), new_eq, Option.bind_some, new_eq, Option.bind_some]
  simp only [ex14_eq, Option.bind_some]
  rw [dec_s (by decide), Option.bind_some, imp_s (by decide), Option.bind_some, dec_s (by decide), Option.bind_some, imp_s (by decide), Option.bind_some, lev_s (by decide), Option.bind_some, val_s (by decide), Option.bind_some, und_s (by decide), Option.bind_some,
    und_s (by decide), Option.bind_some, und_s (by decide), Option.bind_some, spiritlevellaw14_AssignNames.m0_eq]
  simp only [ex14_eq, Option.bind_some]
  rw [lev_s (by decide), Option.bind_some, lev_s (by decide), Option.bind_some, val_s (by decide), Option.bind_some, alive14_eq, Option.bind_some, ct]
  have e : undC 5 [4, 7, 2, 9] [1, 3] 2 = ((5, ([4, 7, 2, 9], [1, 3])), 0) := by decide
  rw [e, same_s (by decide)]
  decide

end Go.Proofs.Ythgnjgnmkobboaa
