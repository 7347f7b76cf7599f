/- The laws of the solver under assumptions, of plain values: AssumeNames. -/
import Derived.Test.YtafogmegjlllkaaPU4
namespace Go.Proofs.Ytafogmegjlllkaa
open Go Go.Proofs.Ytafogmegjlllkaa.R
set_option linter.unusedVariables false

section
variable {v b e : Int} {L : List (List Int)} {A : List Int}

theorem asm_err (hc : assume_check v L A b = some e) (he : e ≠ 0) : assume_Run v L A b = some (ans0, e) := by
  rw [assume_Run.eq, hc, Option.bind_some, cn, if_neg he]; rfl

theorem asm_cerr (hc : assume_check v L A 0 = some e) (he : e ≠ 0) : assume_Core v L A = some ([], e) := by
  rw [assume_Core.eq, hc, Option.bind_some, cn, if_neg he]

theorem asm_many {A : List Int} (hA : A.length ≤ 100 ∧ ∀ x ∈ A, in64 x) (hb : 0 ≤ b ∧ b ≤ 100000) : assume_check 4 (List.replicate 20001 []) A b = some 4 := by
  rw [assume_check_eq (by rw [List.length_replicate]; omega) (fun c hc => by rw [List.eq_of_mem_replicate hc]; simp) (by omega) hA.2, if_neg (by omega), if_pos (by rw [List.length_replicate]; omega)]

theorem asm_arg {A : List Int} (hA : A.length ≤ 100 ∧ ∀ x ∈ A, in64 x) (h : v < 0 ∨ v > 4000 ∨ b < 0 ∨ b > 100000) {n : Nat} (hn : n ≤ 20001) : assume_check v (List.replicate n []) A b = some 2 := by
  rw [assume_check_eq (by rw [List.length_replicate]; omega) (fun c hc => by rw [List.eq_of_mem_replicate hc]; simp) (by omega) hA.2, if_pos h]

theorem asm_bad {A : List Int} (hA : A.length ≤ 100 ∧ ∀ x ∈ A, in64 x) (hL : L.length ≤ 100 ∧ ∀ c ∈ L, c.length ≤ 100 ∧ ∀ x ∈ c, in64 x) (h : ¬ (okL 4 L ∧ okA 4 A [])) : assume_check 4 L A 0 = some 8 := by
  rw [assume_check_eq (by omega) (fun c hc => ⟨by have := (hL.2 c hc).1; omega, (hL.2 c hc).2⟩) (by omega) hA.2, if_neg (by omega), if_neg (by omega), if_neg h]

theorem asm_is (hA : okA v A []) (h12 : v ≤ 12) (hL : okL v L) (hn : A.length + L.length ≤ 10000) (hb : 0 ≤ b ∧ b ≤ 1000) {x : Ans} (hx : runA v b A L = x) : assume_Run v L A b = some x := by
  have hp := small_pow hA.vars.1 h12
  rw [assume_Run_eq hA ⟨hb.1, by omega⟩ hL (by omega), hx]
end

theorem asmN1 : solAR 4 [4] [[2], [3]] = (false, [], [[]], 0) := by
  show solA 4 [4] (84 + 1) _ _ _ _ = _
  rw [solA_end (T := [2]) (i := 1) (by decide) (by decide) lrn_nil]; rfl
theorem asmN1' : solAR 4 [] [[2], [3]] = (false, [], [[]], 0) := by
  show solA 4 [] (84 + 1) _ _ _ _ = _
  rw [solA_end (T := [2]) (i := 1) (by decide) (by decide) lrn_nil]; rfl
theorem asmN2 : solAR 4 [3] [[2, 4], [2, 5]] = (false, [], [[2], [2]], 1) := by
  show solA 4 [3] (84 + 1) _ _ _ _ = _
  rw [solA_want (T := []) (l := 3) (by decide) (by decide) (by decide),
    solA_con (T := [3, 4]) (i := 1) (c := [2]) (t' := [2]) (s' := []) (by decide) (by decide) (lrn_is (o := [3]) (by decide) (by decide) (by decide) (fun y => by simp [neg])) (by decide) (by decide),
    solA_under (T := [2]) (l := 3) (c := [2]) (by decide) (by decide) (by decide) (lrn_is (o := [3]) (by decide) (by decide) (by decide) (fun y => by simp [neg]))]; rfl
theorem asmN3 : solAR 4 [6, 3] [[2, 4], [2, 5]] = (false, [], [[2], [2]], 1) := by
  show solA 4 [6, 3] (84 + 1) _ _ _ _ = _
  rw [solA_want (T := []) (l := 6) (by decide) (by decide) (by decide), solA_want (T := [6]) (l := 3) (by decide) (by decide) (by decide),
    solA_con (T := [6, 3, 4]) (i := 1) (c := [2]) (t' := [2]) (s' := []) (by decide) (by decide) (lrn_is (o := [3]) (by decide) (by decide) (by decide) (fun y => by simp [neg])) (by decide) (by decide),
    solA_want (T := [2]) (l := 6) (by decide) (by decide) (by decide),
    solA_under (T := [2, 6]) (l := 3) (c := [2]) (by decide) (by decide) (by decide) (lrn_is (o := [3]) (by decide) (by decide) (by decide) (fun y => by simp [neg]))]; rfl
theorem asmN4 : solAR 2 [4, 3] [[2, 4]] = (true, [4, 3], [], 0) := by
  show solA 2 [4, 3] (14 + 1) _ _ _ _ = _
  rw [solA_want (T := []) (l := 4) (by decide) (by decide) (by decide), solA_want (T := [4]) (l := 3) (by decide) (by decide) (by decide), solA_sat (T := [4, 3]) (by decide) (by decide) (by decide)]; rfl

theorem okN : okA 4 [4] [] ∧ okA 4 [] [] ∧ okA 4 [3] [] ∧ okA 4 [6, 3] [] ∧ okA 2 [4, 3] [] ∧ okA 2 [2, 4] [] ∧ okA 4 [2, 4] [] := by
  refine ⟨?_, ?_, ?_, ?_, ?_, ?_, ?_⟩ <;> exact ⟨by decide, by decide, by decide, by decide, by decide⟩

theorem runN1 : runA 4 0 [4] [[2], [3]] = ((false, [], [], [[]], 0), 0) := by
  have h0 : noneC 4 [[2], [3]] [] = true := noneC_of okN.2.1 (by decide) asmN1' rfl
  have hc : coreC 4 [[2], [3]] [4] [4] = [] := by
    have e1 : rm 4 [4] = [] := by decide
    simp only [coreC, e1, h0, if_true]
  unfold runA
  rw [ansA_is asmN1 hc rfl, asmN1]
  decide

theorem runN2 : runA 4 0 [3] [[2, 4], [2, 5]] = (ans0, 55) := by
  unfold runA
  rw [asmN2]
  rfl

theorem runN3 : runA 4 1 [6, 3] [[2, 4], [2, 5]] = ((false, [], [3], [[2], [2]], 1), 0) := by
  have h0 : noneC 4 [[2, 4], [2, 5]] [3] = true := noneC_of okN.2.2.1 (by decide) asmN2 rfl
  have h1 : noneC 4 [[2, 4], [2, 5]] [] = false := noneC_false (by decide) (by decide) (by decide) [true, true, true, true] (by decide)
  have hc : coreC 4 [[2, 4], [2, 5]] [6, 3] [6, 3] = [3] := by
    have e1 : rm 6 [6, 3] = [3] := by decide
    have e2 : rm 3 [3] = [] := by decide
    simp only [coreC, e1, h0, if_true]
    rw [e2, h1]; rfl
  unfold runA
  rw [ansA_is asmN3 hc rfl, asmN3]
  decide

theorem runN4 : runA 2 0 [4, 3] [[2, 4]] = ((true, [false, true], [], [], 0), 0) := by
  unfold runA
  rw [ansA_is asmN4 rfl rfl, asmN4]
  decide

theorem AssumeNames_pure : spiritlevellaw20_AssumeNames = some true := by
  obtain ⟨a1, a2, a3, a4, a5, a6, a7⟩ := okN
  have mk : mkl (20001 : Int) ([] : List Int) = some (List.replicate 20001 []) := mkl_ok (by omega) (by omega)
  have s : ∀ {a : Ansr}, AnsS a → spiritlevelref19_Same a.1 a.2.1 a.2.2.1 a.2.2.2.1 a.2.2.2.2 a.1 a.2.1 a.2.2.1 a.2.2.2.1 a.2.2.2.2 = some true := fun h => by rw [ref19_Same_eq h, decide_eq_true rfl]
  have w1 : AnsS (false, [], [], [[]], 0) := ⟨by simp, by simp, by simp, by simp⟩
  have w2 : AnsS (false, [], [], [], 0) := ⟨by simp, by simp, by simp, by simp⟩
  have w3 : AnsS (false, [], [3], [[2], [2]], 1) := ⟨by simp, by simp, by simp, by simp⟩
  have w4 : AnsS (true, [false, true], [], [], 0) := ⟨by simp, by simp, by simp, by simp⟩
  have t1 := s w1
  have t2 := s w2
  have t3 := s w3
  have t4 := s w4
  dsimp only at t1 t2 t3 t4
  have i1 : ([1] : List Int).length ≤ 100 ∧ ∀ x ∈ ([1] : List Int), in64 x := ⟨by decide, by simp [in64]⟩
  have i0 : ([] : List Int).length ≤ 100 ∧ ∀ x ∈ ([] : List Int), in64 x := ⟨by decide, by simp⟩
  have b2 : ¬ okA 4 [2, 3] [] := fun h => by have := h.dis; simp at this
  have b3 : ¬ okA 4 [10] [] := fun h => by have := h.lits 10 (by simp); omega
  have n10 : noneC 4 [] [2, 4] = false := noneC_false (by decide) (by decide) (by decide) [true, true, true, true] (by decide)
  have n15 : ∀ A : List Int, (∀ a ∈ A, isLit 2 a) → noneC 2 [[]] A = true := fun A hA => (noneC_iff (by decide) (by decide) hA).2 fun W hW => by
    have := hW [] (by simp)
    simp at this
  have c10 := assume_Core_eq a7 (L := []) (by decide) (by decide)
  have c15 := assume_Core_eq a6 (L := [[]]) (by decide) (by decide)
  have e1 : rm 2 [2, 4] = [4] := by decide
  have e2 : rm 4 [4] = [] := by decide
  have k15 : coreC 2 [[]] [2, 4] [2, 4] = [] := by
    simp only [coreC, e1, e2, n15 [4] (by decide), n15 [] (by decide), if_true]
  rw [n10] at c10
  rw [n15 [2, 4] (by decide), if_pos rfl, k15] at c15
  have c11 : assume_Core 4001 [] [] = some ([], 2) := asm_cerr (asm_arg (n := 0) i0 (by omega) (by omega)) (by omega)
  rw [spiritlevellaw20_AssumeNames.eq, mk, Option.bind_some, if_pos rfl, asm_err (asm_arg i1 (by omega) (by omega)) (by omega), Option.bind_some, asm_err (asm_arg i1 (by omega) (by omega)) (by omega), Option.bind_some, asm_err (asm_arg i1 (by omega) (by omega)) (by omega), Option.bind_some,
    asm_err (asm_many i1 (by omega)) (by omega), Option.bind_some, asm_cerr (asm_many i0 (by omega)) (by omega), Option.bind_some, asm_err (asm_bad (L := [[1]]) i0 (by simp [in64]) (fun h => absurd h.1 (by decide))) (by omega), Option.bind_some, spiritlevellaw20_AssumeNames.m0_eq,
    asm_err (asm_bad (L := []) (A := [2, 3]) (by simp [in64]) (by simp) (fun h => b2 h.2)) (by omega), Option.bind_some, asm_cerr (asm_bad (L := []) (A := [10]) (by simp [in64]) (by simp) (fun h => b3 h.2)) (by omega), Option.bind_some, c10, Option.bind_some, c11, Option.bind_some,
    asm_is a1 (by omega) (by decide) (by decide) (by omega) runN1, Option.bind_some, asm_is a3 (by omega) (by decide) (by decide) (by omega) runN2, Option.bind_some, spiritlevellaw20_AssumeNames.m1_eq, asm_is a4 (by omega) (by decide) (by decide) (by omega) runN3, Option.bind_some, c15, Option.bind_some, asm_is a5 (by omega) (by decide) (by decide) (by omega) runN4, Option.bind_some]
  dsimp only
  simp only [beq_self_eq_true, cond_true]
  rw [spiritlevellaw20_AssumeNames.m2_eq]
  simp only [ans0, beq_self_eq_true, cond_true, alive20_eq, Option.bind_some, t1, t2, t3, t4, List.length_nil, Int.natCast_zero, if_false, Bool.false_eq_true]


end Go.Proofs.Ytafogmegjlllkaa
