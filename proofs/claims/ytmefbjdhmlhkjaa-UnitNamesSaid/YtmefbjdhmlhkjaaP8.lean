/- UnitNames of plain values. -/
import Derived.Test.YtmefbjdhmlhkjaaP7
namespace Go.Proofs.Ytmefbjdhmlhkjaa
open Go Go.Proofs.Ytmefbjdhmlhkjaa.R
set_option linter.unusedVariables false

theorem names_state {v : Int} {t s c : List Int} (h : (t ++ c).all (fun x => decide (in64 x)) = true) (h1 : t.length ≤ 1000 ∧ s.length ≤ 1000 ∧ c.length ≤ 1000) : unit_State v t s c = some (stateC v t s c) := by
  rw [List.all_eq_true] at h
  exact unit_State_eq (by omega) (by omega) (fun l hl => of_decide_eq_true (h l (List.mem_append_left _ hl))) (by omega) (fun l hl => of_decide_eq_true (h l (List.mem_append_right _ hl)))

theorem names_loop : ∀ (m i : Nat), i + m = 6 → spiritlevellaw15_UnitNames.l0 (i : Int) 4 [1, 0, 3, 2, 0, 1] [0, 0, 7, 0, 0, 0] [[3, 5], [3, 4], [3, 4, 7], [7, 9], [], [2, 4, 6]] [2, 5] [0] = spiritlevellaw15_UnitNames.l0 6 4 [1, 0, 3, 2, 0, 1] [0, 0, 7, 0, 0, 0] [[3, 5], [3, 4], [3, 4, 7], [7, 9], [], [2, 4, 6]] [2, 5] [0]
  | 0, i, hi => by
    have : i = 6 := by omega
    subst this; rfl
  | m + 1, i, hi => by
    have ih := names_loop m (i + 1) (by omega)
    rw [spiritlevellaw15_UnitNames.l0_eq]
    have hi6 : i = 0 ∨ i = 1 ∨ i = 2 ∨ i = 3 ∨ i = 4 ∨ i = 5 := by omega
    rcases hi6 with h | h | h | h | h | h <;> subst h
    · rw [← ih]
      show (unit_State 4 [2, 5] [0] [3, 5]).bind _ = _
      rw [names_state (by decide) (by decide)]; rfl
    · rw [← ih]
      show (unit_State 4 [2, 5] [0] [3, 4]).bind _ = _
      rw [names_state (by decide) (by decide)]; rfl
    · rw [← ih]
      show (unit_State 4 [2, 5] [0] [3, 4, 7]).bind _ = _
      rw [names_state (by decide) (by decide)]; rfl
    · rw [← ih]
      show (unit_State 4 [2, 5] [0] [7, 9]).bind _ = _
      rw [names_state (by decide) (by decide)]; rfl
    · rw [← ih]
      show (unit_State 4 [2, 5] [0] []).bind _ = _
      rw [names_state (by decide) (by decide)]; rfl
    · rw [← ih]
      show (unit_State 4 [2, 5] [0] [2, 4, 6]).bind _ = _
      rw [names_state (by decide) (by decide)]; rfl

theorem run_nils {n : Nat} (h : n ≤ 30000) : unit_Run 4 [2, 5] [0] (List.replicate n []) = some (runC 4 [2, 5] [0] (List.replicate n [])) := by
  refine unit_Run_eq (by decide) (by decide) (by decide) (by rw [List.length_replicate]; omega) fun c hc => ?_
  rw [(List.mem_replicate.1 hc).2]
  exact ⟨by decide, by simp⟩

theorem UnitNames_pure : spiritlevellaw15_UnitNames = some true := by
  have h0 := names_loop 6 0 rfl
  rw [show ((0 : Nat) : Int) = 0 from rfl] at h0
  have hok : okA 4 [2, 5] [0] := by decide
  have hmany : runC 4 [2, 5] [0] (List.replicate 20001 []) = ((0, [], []), 0, 4) := by
    unfold runC
    rw [if_pos hok, if_pos (by rw [List.length_replicate]; omega)]
  have hmax : runC 4 [2, 5] [0] (List.replicate 20000 []) = ((4, [2, 5], [0]), 0, 0) := by
    rw [runC_ok hok (fun c hc => by rw [(List.mem_replicate.1 hc).2]; exact ⟨by simp, by simp⟩) (by rw [List.length_replicate]; omega)]
    rw [show List.replicate 20000 ([] : List Int) = [] :: List.replicate 19999 [] from List.replicate_succ]
    rfl
  have hrest : spiritlevellaw15_UnitNames.l0 6 4 [1, 0, 3, 2, 0, 1] [0, 0, 7, 0, 0, 0] [[3, 5], [3, 4], [3, 4, 7], [7, 9], [], [2, 4, 6]] [2, 5] [0] = some true := by
    rw [spiritlevellaw15_UnitNames.l0_eq, cd, if_neg (by decide)]
    rw [names_state (by decide) (by decide), Option.bind_some, run_small (by decide) (by decide) (by decide), Option.bind_some, names_state (by decide) (by decide), Option.bind_some, run_small (by decide) (by decide) (by decide), Option.bind_some]
    rw [mkl_ok (by decide) (by decide), Option.bind_some, if_pos rfl, run_nils (by omega), Option.bind_some, mkl_ok (by decide) (by decide), Option.bind_some, if_pos rfl, run_nils (by omega), Option.bind_some]
    rw [show (20001 : Int).toNat = 20001 from rfl, show (20000 : Int).toNat = 20000 from rfl, hmany, hmax, run_small (by decide) (by decide) (by decide), Option.bind_some, run_small (by decide) (by decide) (by decide), Option.bind_some, alive_eq, Option.bind_some, ct]
    rw [ref14_Same_eq (by decide) (by decide), ref14_Same_eq (by decide) (by decide)]
    decide
  rw [spiritlevellaw15_UnitNames.eq, h0, hrest]

end Go.Proofs.Ytmefbjdhmlhkjaa
