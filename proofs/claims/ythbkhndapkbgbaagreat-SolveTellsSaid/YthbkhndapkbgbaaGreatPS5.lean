/- The solver's laws, of plain values: what they share; SolveBudget, SolveOrder. -/
import Derived.Test.YthbkhndapkbgbaaGreatPS4
namespace Go.Proofs.YthbkhndapkbgbaaGreat
open Go Go.Proofs.YthbkhndapkbgbaaGreat.R
set_option linter.unusedVariables false

/-! ### Comparing -/

theorem drop_iff {α : Type} {a b : List α} {i : Nat} (h1 : i < a.length) (h2 : i < b.length) : a.drop i = b.drop i ↔ a[i] = b[i] ∧ a.drop (i + 1) = b.drop (i + 1) := by
  rw [drop_cons h1, drop_cons h2, List.cons.injEq]

theorem ref19_SameValues.loop {a b : List Bool} (hl : a.length = b.length) (hn : a.length ≤ 140737488351232) : ∀ (n i : Nat), i + n = a.length → spiritlevelref19_SameValues.l0 a b (i : Int) = some (decide (a.drop i = b.drop i))
  | 0, i, hi => by
    rw [spiritlevelref19_SameValues.l0_eq, cd, if_neg (by omega), List.drop_of_length_le (by omega), List.drop_of_length_le (by omega)]; rfl
  | n + 1, i, hi => by
    have h1 : i < a.length := by omega
    have h2 : i < b.length := by omega
    have hw : IntKind.wrap .i64 ((i : Int) + 1) = ((i + 1 : Nat) : Int) := by rw [wr] <;> omega
    rw [spiritlevelref19_SameValues.l0_eq, cd, if_pos (by omega), gsome h1, Option.bind_some, gsome h2, Option.bind_some, hw, ref19_SameValues.loop hl hn n (i + 1) (by omega), show decide (a.drop i = b.drop i) = decide (a[i] = b[i] ∧ a.drop (i + 1) = b.drop (i + 1)) from decide_eq_decide.2 (drop_iff h1 h2)]
    cases hx : a[i] == b[i] with
    | true =>
      have := eq_of_beq hx
      simp only [this, true_and, Bool.not_true, cond_false]
    | false =>
      have : a[i] ≠ b[i] := fun e => by rw [e] at hx; simp at hx
      simp only [this, false_and, decide_false, Bool.not_false, cond_true]

theorem ref19_SameValues_eq {a b : List Bool} (hn : a.length ≤ 140737488351232) : spiritlevelref19_SameValues a b = some (decide (a = b)) := by
  rw [spiritlevelref19_SameValues.eq, cn]
  by_cases hl : (a.length : Int) = b.length
  · have := ref19_SameValues.loop (a := a) (b := b) (by omega) hn a.length 0 (by omega)
    rw [if_pos hl, show (0 : Int) = ((0 : Nat) : Int) from rfl, this]; simp
  · rw [if_neg hl]
    have : a ≠ b := fun e => hl (by rw [e])
    simp [this]

theorem ref13_SameAll.loop {a b : List (List Int)} (hl : a.length = b.length) (hn : a.length ≤ 140737488351232) (hc : ∀ c ∈ a, c.length ≤ 140737488351232) : ∀ (n i : Nat), i + n = a.length → spiritlevelref13_SameAll.l0 a b (i : Int) = some (decide (a.drop i = b.drop i))
  | 0, i, hi => by
    rw [spiritlevelref13_SameAll.l0_eq, cd, if_neg (by omega), List.drop_of_length_le (by omega), List.drop_of_length_le (by omega)]; rfl
  | n + 1, i, hi => by
    have h1 : i < a.length := by omega
    have h2 : i < b.length := by omega
    have hw : IntKind.wrap .i64 ((i : Int) + 1) = ((i + 1 : Nat) : Int) := by rw [wr] <;> omega
    rw [spiritlevelref13_SameAll.l0_eq, cd, if_pos (by omega), gsome h1, Option.bind_some, gsome h2, Option.bind_some, ref13_Same_eq (hc _ (List.getElem_mem h1)), Option.bind_some, hw, ref13_SameAll.loop hl hn hc n (i + 1) (by omega), show decide (a.drop i = b.drop i) = decide (a[i] = b[i] ∧ a.drop (i + 1) = b.drop (i + 1)) from decide_eq_decide.2 (drop_iff h1 h2), cnot, cd]
    by_cases hx : a[i] = b[i]
    · rw [if_pos hx]; simp only [hx, true_and]
    · rw [if_neg hx]; simp only [hx, false_and, decide_false]

theorem ref13_SameAll_eq {a b : List (List Int)} (hn : a.length ≤ 140737488351232) (hc : ∀ c ∈ a, c.length ≤ 140737488351232) : spiritlevelref13_SameAll a b = some (decide (a = b)) := by
  rw [spiritlevelref13_SameAll.eq, cn]
  by_cases hl : (a.length : Int) = b.length
  · have := ref13_SameAll.loop (a := a) (b := b) (by omega) hn hc a.length 0 (by omega)
    rw [if_pos hl, show (0 : Int) = ((0 : Nat) : Int) from rfl, this]; simp
  · rw [if_neg hl]
    have : a ≠ b := fun e => hl (by rw [e])
    simp [this]

abbrev Ansr := Bool × List Bool × List Int × List (List Int) × Int

/-- An answer that is not great. -/
structure AnsS (a : Ansr) : Prop where
  m : a.2.1.length ≤ 140737488351232
  co : a.2.2.1.length ≤ 140737488351232
  log : a.2.2.2.1.length ≤ 140737488351232
  cl : ∀ c ∈ a.2.2.2.1, c.length ≤ 140737488351232

theorem ref19_Same_eq {a b : Ansr} (h : AnsS a) : spiritlevelref19_Same a.1 a.2.1 a.2.2.1 a.2.2.2.1 a.2.2.2.2 b.1 b.2.1 b.2.2.1 b.2.2.2.1 b.2.2.2.2 = some (decide (a = b)) := by
  obtain ⟨a1, a2, a3, a4, a5⟩ := a
  obtain ⟨b1, b2, b3, b4, b5⟩ := b
  have e : ((a1, a2, a3, a4, a5) = (b1, b2, b3, b4, b5)) ↔ (a1 = b1 ∧ a2 = b2 ∧ a3 = b3 ∧ a4 = b4 ∧ a5 = b5) := by simp [Prod.ext_iff]
  rw [spiritlevelref19_Same.eq, ref19_SameValues_eq h.m, Option.bind_some, ref13_Same_eq h.co, Option.bind_some, ref13_SameAll_eq h.log h.cl, Option.bind_some]
  dsimp only
  have b1e : (a1 == b1) = decide (a1 = b1) := by cases a1 <;> cases b1 <;> rfl
  have b5e : (a5 == b5) = decide (a5 = b5) := by rw [Bool.eq_iff_iff]; simp
  have he : decide ((a1, a2, a3, a4, a5) = (b1, b2, b3, b4, b5)) = decide (a1 = b1 ∧ a2 = b2 ∧ a3 = b3 ∧ a4 = b4 ∧ a5 = b5) := decide_eq_decide.2 e
  rw [he, b1e, b5e]
  clear b1e b5e he e h
  by_cases h1 : a1 = b1 <;> by_cases h2 : a2 = b2 <;> by_cases h3 : a3 = b3 <;> by_cases h4 : a4 = b4 <;> by_cases h5 : a5 = b5 <;> simp [h1, h2, h3, h4, h5]

theorem small_pow {v : Int} (h0 : 0 ≤ v) (h : v ≤ 12) : 2 ^ v.toNat ≤ 4096 := Nat.pow_le_pow_right (n := 2) (by omega) (show v.toNat ≤ 12 by omega)

section
variable {v : Int} {L : List (List Int)}

theorem log_len {r : Bool × List Int × List (List Int) × Nat} (h : AnsOk v L r) : r.2.2.1.length ≤ 2 ^ v.toNat := by
  have hb := h.bnd
  cases hr : r.1 with
  | true => have := (h.sat hr).2.2.1; omega
  | false =>
    obtain ⟨lg, e, _, e2, _⟩ := h.unsat hr
    rw [e, List.length_append, List.length_singleton]; omega

theorem AnsOk.small (hv : okV v) {r : Bool × List Int × List (List Int) × Nat} (h : AnsOk v L r) (hp : 2 ^ v.toNat ≤ 4096) : AnsS (ansR v r) where
  m := by
    unfold ansR
    cases r.1 with
    | true => show (mdl v r.2.1).length ≤ _; rw [mdl_len]; omega
    | false => simp
  co := by simp [ansR]
  log := by have := log_len h; show r.2.2.1.length ≤ _; omega
  cl := fun c hc => by
    have := (h.ok c (List.mem_append_right _ hc)).len hv
    omega

/-- With budget enough. -/
theorem run_all (hv : okV v) (h12 : v ≤ 12) (hL : okL v L) (hn : L.length ≤ 10000) {b : Int} (hb : ((solR v L).2.2.2 : Int) ≤ b ∧ b ≤ 100000) : solve_Run v L b = some (ansR v (solR v L), 0) := by
  have hp := small_pow hv.1 h12
  rw [solve_Run_eq hv ⟨by omega, hb.2⟩ hL (by omega)]
  unfold ansC
  rw [if_pos hb.1]

theorem conf_le (hv : okV v) (h12 : v ≤ 12) (hL : okL v L) : (solR v L).2.2.2 ≤ 4095 := by
  have hp := small_pow hv.1 h12
  have := (solR_ok hv hL).bnd
  omega

theorem run5000 (hv : okV v) (h12 : v ≤ 12) (hL : okL v L) (hn : L.length ≤ 10000) : solve_Run v L 5000 = some (ansR v (solR v L), 0) := by
  have := conf_le hv h12 hL
  exact run_all hv h12 hL hn ⟨by omega, by omega⟩

theorem sol_dec {n : Nat} {t s T : List Int} {log : List (List Int)} {x : Int} (hp : propC L (v + 1).toNat t = (T, -1)) (hx : lf v T = x) (h0 : x ≠ 0) : sol v (n + 1) L t s log = sol v n L (T ++ [2 * x + 1]) (s ++ [(T.length : Int)]) log := by
  subst hx
  rw [sol, hp, if_neg (by omega), if_neg h0]

theorem sol_sat {n : Nat} {t s T : List Int} {log : List (List Int)} (hp : propC L (v + 1).toNat t = (T, -1)) (hx : lf v T = 0) : sol v (n + 1) L t s log = (true, T, log, log.length) := by
  rw [sol, hp, if_neg (by omega), if_pos hx]

theorem sol_con {n : Nat} {t s T c t' s' : List Int} {log : List (List Int)} {i : Int} (hp : propC L (v + 1).toNat t = (T, i)) (hi : 0 ≤ i) (hc : lrnC v L (decs T s) = c) (h0 : c ≠ []) (hb : jbackC v T s c = ((v, (t', s')), 0)) :
    sol v (n + 1) L t s log = sol v n (L ++ [c]) t' s' (log ++ [c]) := by
  subst hc
  rw [sol, hp, if_pos hi, if_neg h0]
  dsimp only
  rw [hb]

theorem sol_end {n : Nat} {t s T : List Int} {log : List (List Int)} {i : Int} (hp : propC L (v + 1).toNat t = (T, i)) (hi : 0 ≤ i) (hc : lrnC v L (decs T s) = []) : sol v (n + 1) L t s log = (false, [], log ++ [[]], log.length) := by
  rw [sol, hp, if_pos hi, if_pos hc]

theorem lrn_is {D o S : List Int} (h : shr v L D D = o) (hd : (o.map neg).Nodup) (hS : S.Pairwise (· < ·)) (hm : ∀ y, y ∈ S ↔ y ∈ o.map neg) : lrnC v L D = S := by
  unfold lrnC
  rw [h]
  exact sortI_is hd hS hm

end

theorem sol1 : solR 2 [[2, 4], [3, 5]] = (true, [3, 4], [], 0) := by
  show sol 2 (14 + 1) _ _ _ _ = _
  rw [sol_dec (T := []) (x := 1) (by decide) (by decide) (by decide), sol_sat (T := [3, 4]) (by decide) (by decide)]; rfl

theorem sol2 : solR 2 [[2, 4], [2, 5]] = (true, [2, 5], [[2]], 1) := by
  show sol 2 (14 + 1) _ _ _ _ = _
  rw [sol_dec (T := []) (x := 1) (by decide) (by decide) (by decide),
    sol_con (T := [3, 4]) (i := 1) (c := [2]) (t' := [2]) (s' := []) (by decide) (by decide) (lrn_is (o := [3]) (by decide) (by decide) (by decide) (fun y => by simp [neg])) (by decide) (by decide),
    sol_dec (T := [2]) (x := 2) (by decide) (by decide) (by decide), sol_sat (T := [2, 5]) (by decide) (by decide)]; rfl

theorem sol3 : solR 2 [[2, 4], [2, 5], [3, 4], [3, 5]] = (false, [], [[2], []], 1) := by
  show sol 2 (14 + 1) _ _ _ _ = _
  rw [sol_dec (T := []) (x := 1) (by decide) (by decide) (by decide),
    sol_con (T := [3, 4]) (i := 1) (c := [2]) (t' := [2]) (s' := []) (by decide) (by decide) (lrn_is (o := [3]) (by decide) (by decide) (by decide) (fun y => by simp [neg])) (by decide) (by decide),
    sol_end (T := [2, 4]) (i := 3) (by decide) (by decide) (lrn_nil)]; rfl

/-! ### What is considered -/

theorem ref19_Great.loop {v : Int} {L : List (List Int)} (hn : L.length ≤ 140737488351232) : ∀ (n i : Nat), i + n = L.length → (∀ c ∈ L.take i, c.length ≤ 10) →
    ∃ b, spiritlevelref19_Great.l0 v L (i : Int) = some b ∧ (b = false → L.length ≤ 40 ∧ (∀ c ∈ L, c.length ≤ 10) ∧ (v ≤ 12 ∨ v = 4001)) := by
  have fin : ∀ {P : Prop}, (L.length ≤ 40 → P) → ∃ b, (bif (decide ((List.length L : Int) > (40 : Int))) then (some true) else (bif (decide (v > (12 : Int))) then (some (v != (4001 : Int))) else (some false))) = some b ∧ (b = false → L.length ≤ 40 ∧ P ∧ (v ≤ 12 ∨ v = 4001)) := by
    intro P hP
    rw [cd]
    by_cases h1 : (L.length : Int) > 40
    · exact ⟨true, by rw [if_pos h1], by simp⟩
    · rw [if_neg h1, cd]
      by_cases h2 : v > 12
      · rw [if_pos h2]
        refine ⟨_, rfl, fun h => ⟨by omega, hP (by omega), .inr ?_⟩⟩
        simpa using h
      · exact ⟨false, by rw [if_neg h2], fun _ => ⟨by omega, hP (by omega), .inl (by omega)⟩⟩
  intro n
  induction n with
  | zero =>
    intro i hi hp
    rw [spiritlevelref19_Great.l0_eq, cd, if_neg (by omega)]
    exact fin fun _ => by rwa [List.take_of_length_le (by omega)] at hp
  | succ n ih =>
    intro i hi hp
    have hlt : i < L.length := by omega
    have hw : IntKind.wrap .i64 ((i : Int) + 1) = ((i + 1 : Nat) : Int) := by rw [wr] <;> omega
    rw [spiritlevelref19_Great.l0_eq, cd, if_pos (by omega), cd]
    by_cases h40 : (i : Int) ≤ 40
    · rw [if_pos h40, gsome hlt, Option.bind_some, cd]
      by_cases hc : (L[i].length : Int) > 10
      · exact ⟨true, by rw [if_pos hc], by simp⟩
      · rw [if_neg hc, hw]
        refine ih (i + 1) (by omega) fun c hcm => ?_
        rw [List.take_add_one, List.getElem?_eq_getElem hlt, List.mem_append, Option.toList_some, List.mem_singleton] at hcm
        rcases hcm with h | h
        · exact hp c h
        · rw [h]; omega
    · rw [if_neg h40]
      exact fin fun h => by omega

/-! ### SolveBudget, SolveOrder -/

/-- The same models, the same model found. -/
theorem same_models {v : Int} (hv : okV v) {L L' : List (List Int)} (hL : okL v L) (hL' : okL v L') (h : ∀ W, Models L W ↔ Models L' W) : (solR v L).1 = (solR v L').1 ∧ (ansR v (solR v L)).2.1 = (ansR v (solR v L')).2.1 := by
  have A := solR_ok hv hL
  have A' := solR_ok hv hL'
  cases h1 : (solR v L).1 with
  | true =>
    have S := (A.sat h1).1
    cases h2 : (solR v L').1 with
    | true =>
      have S' := (A'.sat h2).1
      refine ⟨rfl, ?_⟩
      unfold ansR
      rw [h1, h2]
      exact S.unique S' ((h _).2 S'.2.1) ((h _).1 S.2.1)
    | false => exact absurd ((h _).1 S.2.1) (A'.none hv h2 _)
  | false =>
    cases h2 : (solR v L').1 with
    | true => exact absurd ((h _).2 (A'.sat h2).1.2.1) (A.none hv h1 _)
    | false =>
      refine ⟨rfl, ?_⟩
      unfold ansR
      rw [h1, h2]; rfl

end Go.Proofs.YthbkhndapkbgbaaGreat
