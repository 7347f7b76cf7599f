/- The solver's laws, of plain values: what they share; SolveBudget, SolveOrder. -/
import Derived.Test.YtafogmegjlllkaaPS4
namespace Go.Proofs.Ytafogmegjlllkaa
open Go Go.Proofs.Ytafogmegjlllkaa.R
set_option linter.unusedVariables false

/-! ### Comparing -/

theorem drop_iff {α : Type} {a b : List α} {i : Nat} (h1 : i < a.length) (h2 : i < b.length) : a.drop i = b.drop i ↔ a[i] = b[i] ∧ a.drop (i + 1) = b.drop (i + 1) := by
  rw [drop_cons h1, drop_cons h2, List.cons.injEq]

theorem ref19_SameValues.loop {a b : List Bool} (hl : a.length = b.length) (hn : a.length ≤ 140737488351232) : ∀ (n i : Nat), i + n = a.length → spiritlevelref19_SameValues.l0 a b (i : Int) = some (decide (a.drop i = b.drop i))
  | 0, i, hi => by
    rw [spiritlevelref19_SameValues.l0_eq, cd, if_neg (by omega), List.drop_of_length_le (by omega), List.drop_of_length_le (by omega)]; rfl
  | n + 1, i, hi => by
    have h1 : i < a.length := by omega
    have h2 : i < b.length := by omega
    have hw : IntKind.wrap .i64 ((i : Int) + 1) = ((i + 1 : Nat) : Int) := by rw [wr] <;> omega
    rw [spiritlevelref19_SameValues.l0_eq, cd, if_pos (by omega), gsome h1, Option.bind_some, gsome h2, Option.bind_some, hw, ref19_SameValues.loop hl hn n (i + 1) (by omega), show decide (a.drop i = b.drop i) = decide (a[i] = b[i] ∧ a.drop (i + 1) = b.drop (i + 1)) from decide_eq_decide.2 (drop_iff h1 h2)]
    cases hx : a[i] == b[i] with
    | true =>
      have := eq_of_beq hx
      simp only [this, true_and, Bool.not_true, cond_false]
    | false =>
      have : a[i] ≠ b[i] := fun e => by rw [e] at hx; simp at hx
      simp only [this, false_and, decide_false, Bool.not_false, cond_true]

theorem ref19_SameValues_eq {a b : List Bool} (hn : a.length ≤ 140737488351232) : spiritlevelref19_SameValues a b = some (decide (a = b)) := by
  rw [spiritlevelref19_SameValues.eq, cn]
  by_cases hl : (a.length : Int) = b.length
  · have := ref19_SameValues.loop (a := a) (b := b) (by omega) hn a.length 0 (by omega)
    rw [if_pos hl, show (0 : Int) = ((0 : Nat) : Int) from rfl, this]; simp
  · rw [if_neg hl]
    have : a ≠ b := fun e => hl (by rw [e])
    simp [this]

theorem ref13_SameAll.loop {a b : List (List Int)} (hl : a.length = b.length) (hn : a.length ≤ 140737488351232) (hc : ∀ c ∈ a, c.length ≤ 140737488351232) : ∀ (n i : Nat), i + n = a.length → spiritlevelref13_SameAll.l0 a b (i : Int) = some (decide (a.drop i = b.drop i))
  | 0, i, hi => by
    rw [spiritlevelref13_SameAll.l0_eq, cd, if_neg (by omega), List.drop_of_length_le (by omega), List.drop_of_length_le (by omega)]; rfl
  | n + 1, i, hi => by
    have h1 : i < a.length := by omega
    have h2 : i < b.length := by omega
    have hw : IntKind.wrap .i64 ((i : Int) + 1) = ((i + 1 : Nat) : Int) := by rw [wr] <;> omega
    rw [spiritlevelref13_SameAll.l0_eq, cd, if_pos (by omega), gsome h1, Option.bind_some, gsome h2, Option.bind_some, ref13_Same_eq (hc _ (List.getElem_mem h1)), Option.bind_some, hw, ref13_SameAll.loop hl hn hc n (i + 1) (by omega), show decide (a.drop i = b.drop i) = decide (a[i] = b[i] ∧ a.drop (i + 1) = b.drop (i + 1)) from decide_eq_decide.2 (drop_iff h1 h2), cnot, cd]
    by_cases hx : a[i] = b[i]
    · rw [if_pos hx]; simp only [hx, true_and]
    · rw [if_neg hx]; simp only [hx, false_and, decide_false]

theorem ref13_SameAll_eq {a b : List (List Int)} (hn : a.length ≤ 140737488351232) (hc : ∀ c ∈ a, c.length ≤ 140737488351232) : spiritlevelref13_SameAll a b = some (decide (a = b)) := by
  rw [spiritlevelref13_SameAll.eq, cn]
  by_cases hl : (a.length : Int) = b.length
  · have := ref13_SameAll.loop (a := a) (b := b) (by omega) hn hc a.length 0 (by omega)
    rw [if_pos hl, show (0 : Int) = ((0 : Nat) : Int) from rfl, this]; simp
  · rw [if_neg hl]
    have : a ≠ b := fun e => hl (by rw [e])
    simp [this]

abbrev Ansr := Bool × List Bool × List Int × List (List Int) × Int

/-- An answer that is not great. -/
structure AnsS (a : Ansr) : Prop where
  m : a.2.1.length ≤ 140737488351232
  co : a.2.2.1.length ≤ 140737488351232
  log : a.2.2.2.1.length ≤ 140737488351232
  cl : ∀ c ∈ a.2.2.2.1, c.length ≤ 140737488351232

theorem ref19_Same_eq {a b : Ansr} (h : AnsS a) : spiritlevelref19_Same a.1 a.2.1 a.2.2.1 a.2.2.2.1 a.2.2.2.2 b.1 b.2.1 b.2.2.1 b.2.2.2.1 b.2.2.2.2 = some (decide (a = b)) := by
  obtain ⟨a1, a2, a3, a4, a5⟩ := a
  obtain ⟨b1, b2, b3, b4, b5⟩ := b
  have e : ((a1, a2, a3, a4, a5) = (b1, b2, b3, b4, b5)) ↔ (a1 = b1 ∧ a2 = b2 ∧ a3 = b3 ∧ a4 = b4 ∧ a5 = b5) := by simp [Prod.ext_iff]
  rw [spiritlevelref19_Same.eq, ref19_SameValues_eq h.m, Option.bind_some, ref13_Same_eq h.co, Option.bind_some, ref13_SameAll_eq h.log h.cl, Option.bind_some]
  dsimp only
  have b1e : (a1 == b1) = decide (a1 = b1) := by cases a1 <;> cases b1 <;> rfl
  have b5e : (a5 == b5) = decide (a5 = b5) := by rw [Bool.eq_iff_iff]; simp
  have he : decide ((a1, a2, a3, a4, a5) = (b1, b2, b3, b4, b5)) = decide (a1 = b1 ∧ a2 = b2 ∧ a3 = b3 ∧ a4 = b4 ∧ a5 = b5) := decide_eq_decide.2 e
  rw [he, b1e, b5e]
  clear b1e b5e he e h
  by_cases h1 : a1 = b1 <;> by_cases h2 : a2 = b2 <;> by_cases h3 : a3 = b3 <;> by_cases h4 : a4 = b4 <;> by_cases h5 : a5 = b5 <;> simp [h1, h2, h3, h4, h5]

theorem small_pow {v : Int} (h0 : 0 ≤ v) (h : v ≤ 12) : 2 ^ v.toNat ≤ 4096 := Nat.pow_le_pow_right (n := 2) (by omega) (show v.toNat ≤ 12 by omega)

section
variable {v : Int} {L : List (List Int)}

theorem lrn_is {D o S : List Int} (h : shr v L D D = o) (hd : (o.map neg).Nodup) (hS : S.Pairwise (· < ·)) (hm : ∀ y, y ∈ S ↔ y ∈ o.map neg) : lrnC v L D = S := by
  unfold lrnC
  rw [h]
  exact sortI_is hd hS hm

end

/-! ### What is considered -/

/-! ### SolveBudget, SolveOrder -/

end Go.Proofs.Ytafogmegjlllkaa
