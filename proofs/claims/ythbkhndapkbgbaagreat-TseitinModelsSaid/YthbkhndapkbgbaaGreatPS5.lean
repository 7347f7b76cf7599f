/- . -/
import Derived.Test.YthbkhndapkbgbaaGreatPS4
namespace Go.Proofs.YthbkhndapkbgbaaGreat
open Go Go.Proofs.YthbkhndapkbgbaaGreat.R
set_option linter.unusedVariables false


theorem drop_iff {α : Type} {a b : List α} {i : Nat} (h1 : i < a.length) (h2 : i < b.length) : a.drop i = b.drop i ↔ a[i] = b[i] ∧ a.drop (i + 1) = b.drop (i + 1) := by
  rw [drop_cons h1, drop_cons h2, List.cons.injEq]

theorem ref13_SameAll.loop {a b : List (List Int)} (hl : a.length = b.length) (hn : a.length ≤ 140737488351232) (hc : ∀ c ∈ a, c.length ≤ 140737488351232) : ∀ (n i : Nat), i + n = a.length → spiritlevelref13_SameAll.l0 a b (i : Int) = some (decide (a.drop i = b.drop i))
  | 0, i, hi => by
    rw [spiritlevelref13_SameAll.l0_eq, cd, if_neg (by omega), List.drop_of_length_le (by omega), List.drop_of_length_le (by omega)]; rfl
  | n + 1, i, hi => by
    have h1 : i < a.length := by omega
    have h2 : i < b.length := by omega
    have hw : IntKind.wrap .i64 ((i : Int) + 1) = ((i + 1 : Nat) : Int) := by rw [wr] <;> omega
    rw [spiritlevelref13_SameAll.l0_eq, cd, if_pos (by omega), gsome h1, Option.bind_some, gsome h2, Option.bind_some, ref13_Same_eq (hc _ (List.getElem_mem h1)), Option.bind_some, hw, ref13_SameAll.loop hl hn hc n (i + 1) (by omega), show decide (a.drop i = b.drop i) = decide (a[i] = b[i] ∧ a.drop (i + 1) = b.drop (i + 1)) from decide_eq_decide.2 (drop_iff h1 h2), cnot, cd]
    by_cases hx : a[i] = b[i]
    · rw [if_pos hx]; simp only [hx, true_and]
    · rw [if_neg hx]; simp only [hx, false_and, decide_false]

theorem small_pow {v : Int} (h0 : 0 ≤ v) (h : v ≤ 12) : 2 ^ v.toNat ≤ 4096 := Nat.pow_le_pow_right (n := 2) (by omega) (show v.toNat ≤ 12 by omega)

section
variable {v : Int} {L : List (List Int)}

theorem run_all (hv : okV v) (h12 : v ≤ 12) (hL : okL v L) (hn : L.length ≤ 10000) {b : Int} (hb : ((solR v L).2.2.2 : Int) ≤ b ∧ b ≤ 100000) : solve_Run v L b = some (ansR v (solR v L), 0) := by
  have hp := small_pow hv.1 h12
  rw [solve_Run_eq hv ⟨by omega, hb.2⟩ hL (by omega)]
  unfold ansC
  rw [if_pos hb.1]

theorem conf_le (hv : okV v) (h12 : v ≤ 12) (hL : okL v L) : (solR v L).2.2.2 ≤ 4095 := by
  have hp := small_pow hv.1 h12
  have := (solR_ok hv hL).bnd
  omega

theorem run5000 (hv : okV v) (h12 : v ≤ 12) (hL : okL v L) (hn : L.length ≤ 10000) : solve_Run v L 5000 = some (ansR v (solR v L), 0) := by
  have := conf_le hv h12 hL
  exact run_all hv h12 hL hn ⟨by omega, by omega⟩

end


theorem ref19_Great.loop {v : Int} {L : List (List Int)} (hn : L.length ≤ 140737488351232) : ∀ (n i : Nat), i + n = L.length → (∀ c ∈ L.take i, c.length ≤ 10) →
    ∃ b, spiritlevelref19_Great.l0 v L (i : Int) = some b ∧ (b = false → L.length ≤ 40 ∧ (∀ c ∈ L, c.length ≤ 10) ∧ (v ≤ 12 ∨ v = 4001)) := by
  have fin : ∀ {P : Prop}, (L.length ≤ 40 → P) → ∃ b, (bif (decide ((List.length L : Int) > (40 : Int))) then (some true) else (bif (decide (v > (12 : Int))) then (some (v != (4001 : Int))) else (some false))) = some b ∧ (b = false → L.length ≤ 40 ∧ P ∧ (v ≤ 12 ∨ v = 4001)) := by
    intro P hP
    rw [cd]
    by_cases h1 : (L.length : Int) > 40
    · exact ⟨true, by rw [if_pos h1], by simp⟩
    · rw [if_neg h1, cd]
      by_cases h2 : v > 12
      · rw [if_pos h2]
        refine ⟨_, rfl, fun h => ⟨by omega, hP (by omega), .inr ?_⟩⟩
        simpa using h
      · exact ⟨false, by rw [if_neg h2], fun _ => ⟨by omega, hP (by omega), .inl (by omega)⟩⟩
  intro n
  induction n with
  | zero =>
    intro i hi hp
    rw [spiritlevelref19_Great.l0_eq, cd, if_neg (by omega)]
    exact fin fun _ => by rwa [List.take_of_length_le (by omega)] at hp
  | succ n ih =>
    intro i hi hp
    have hlt : i < L.length := by omega
    have hw : IntKind.wrap .i64 ((i : Int) + 1) = ((i + 1 : Nat) : Int) := by rw [wr] <;> omega
    rw [spiritlevelref19_Great.l0_eq, cd, if_pos (by omega), cd]
    by_cases h40 : (i : Int) ≤ 40
    · rw [if_pos h40, gsome hlt, Option.bind_some, cd]
      by_cases hc : (L[i].length : Int) > 10
      · exact ⟨true, by rw [if_pos hc], by simp⟩
      · rw [if_neg hc, hw]
        refine ih (i + 1) (by omega) fun c hcm => ?_
        rw [List.take_add_one, List.getElem?_eq_getElem hlt, List.mem_append, Option.toList_some, List.mem_singleton] at hcm
        rcases hcm with h | h
        · exact hp c h
        · rw [h]; omega
    · rw [if_neg h40]
      exact fin fun h => by omega


end Go.Proofs.YthbkhndapkbgbaaGreat
