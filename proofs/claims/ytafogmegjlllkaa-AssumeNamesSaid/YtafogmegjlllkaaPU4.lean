/- The laws of the solver under assumptions, of plain values: the chapter's examples. -/
import Derived.Test.YtafogmegjlllkaaPU3
namespace Go.Proofs.Ytafogmegjlllkaa
open Go Go.Proofs.Ytafogmegjlllkaa.R
set_option linter.unusedVariables false

/-! ### The chapter's examples -/

section
variable {v : Int} {L : List (List Int)} {A : List Int}

theorem noneC_false (hv : okV v) (hL : okL v L) (hA : ∀ a ∈ A, isLit v a) (W : List Bool) (h : ∀ c ∈ unitsC A ++ L, c.any (truth W) = true) : noneC v L A = false := by
  cases hn : noneC v L A with
  | false => rfl
  | true => exact absurd h ((noneC_iff hv hL hA).1 hn W)

theorem solA_want {n : Nat} {t s T : List Int} {log : List (List Int)} {l : Int} (hp : propC L (v + 1).toNat t = (T, -1)) (hw : wantA A T = some l) (h0 : ¬ isS T l = 0) : solA v A (n + 1) L t s log = solA v A n L (T ++ [l]) (s ++ [(T.length : Int)]) log := by
  rw [solA, hp, if_neg (by omega), hw]
  dsimp only
  rw [if_neg h0]

theorem solA_under {n : Nat} {t s T c : List Int} {log : List (List Int)} {l : Int} (hp : propC L (v + 1).toNat t = (T, -1)) (hw : wantA A T = some l) (h0 : isS T l = 0) (hc : lrnC v L A = c) : solA v A (n + 1) L t s log = (false, [], log ++ [c], log.length) := by
  rw [solA, hp, if_neg (by omega), hw]
  dsimp only
  rw [if_pos h0, hc]

theorem solA_sat {n : Nat} {t s T : List Int} {log : List (List Int)} (hp : propC L (v + 1).toNat t = (T, -1)) (hw : wantA A T = none) (hx : lf v T = 0) : solA v A (n + 1) L t s log = (true, T, log, log.length) := by
  rw [solA, hp, if_neg (by omega), hw]
  dsimp only
  rw [if_pos hx]

theorem solA_con {n : Nat} {t s T c t' s' : List Int} {log : List (List Int)} {i : Int} (hp : propC L (v + 1).toNat t = (T, i)) (hi : 0 ≤ i) (hc : lrnC v L (decs T s) = c) (h0 : c ≠ []) (hb : jbackC v T s c = ((v, (t', s')), 0)) :
    solA v A (n + 1) L t s log = solA v A n (L ++ [c]) t' s' (log ++ [c]) := by
  subst hc
  rw [solA, hp, if_pos hi, if_neg h0]
  dsimp only
  rw [hb]

theorem solA_end {n : Nat} {t s T : List Int} {log : List (List Int)} {i : Int} (hp : propC L (v + 1).toNat t = (T, i)) (hi : 0 ≤ i) (hc : lrnC v L (decs T s) = []) : solA v A (n + 1) L t s log = (false, [], log ++ [[]], log.length) := by
  rw [solA, hp, if_pos hi, if_pos hc]

theorem noneC_of (hA : okA v A []) (hL : okL v L) {r : Bool × List Int × List (List Int) × Nat} (h : solAR v A L = r) (hr : r.1 = false) : noneC v L A = true := by
  have := solAR_none hA hL
  rw [h, hr] at this
  cases hn : noneC v L A with
  | true => rfl
  | false => rw [hn] at this; cases this

theorem ansA_is {r : Bool × List Int × List (List Int) × Nat} (h : solAR v A L = r) {c : List Int} (hc : coreC v L A A = c) {w : Ansr} (hw : (r.1, if r.1 then mdl v r.2.1 else [], if r.1 then [] else c, r.2.2.1, (r.2.2.2 : Int)) = w) : ansA v A L = w := by
  unfold ansA; rw [h, hc, hw]

end

theorem asm1 : solAR 4 [2, 6] [[3, 4], [5, 7]] = (false, [], [[3, 7]], 0) := by
  show solA 4 [2, 6] (84 + 1) _ _ _ _ = _
  rw [solA_want (T := []) (l := 2) (by decide) (by decide) (by decide), solA_under (T := [2, 4, 7]) (l := 6) (c := [3, 7]) (by decide) (by decide) (by decide) (lrn_is (o := [2, 6]) (by decide) (by decide) (by decide) (fun y => by simp [neg]))]; rfl

theorem asm3 : solAR 3 [6] [[3, 4], [5, 7]] = (true, [6, 5, 3], [], 0) := by
  show solA 3 [6] (35 + 1) _ _ _ _ = _
  rw [solA_want (T := []) (l := 6) (by decide) (by decide) (by decide), solA_sat (T := [6, 5, 3]) (by decide) (by decide) (by decide)]; rfl

theorem ex20 : okL 4 [[3, 4], [5, 7]] ∧ okL 3 [[3, 4], [5, 7]] ∧ okA 4 [2, 6] [] ∧ okA 4 [8, 6, 2] [] ∧ okA 3 [6] [] := by
  refine ⟨by decide, by decide, ?_, ?_, ?_⟩ <;> exact ⟨by decide, by decide, by decide, by decide, by decide⟩

theorem ex20_6 : noneC 4 [[3, 4], [5, 7]] [6] = false := noneC_false (by decide) ex20.1 (by decide) [false, false, true, false] (by decide)
theorem ex20_2 : noneC 4 [[3, 4], [5, 7]] [2] = false := noneC_false (by decide) ex20.1 (by decide) [true, true, false, false] (by decide)
theorem ex20_26 : noneC 4 [[3, 4], [5, 7]] [2, 6] = true := noneC_of ex20.2.2.1 ex20.1 asm1 rfl
theorem ex20_62 : noneC 4 [[3, 4], [5, 7]] [6, 2] = true := noneC_mono (A := [2, 6]) (by decide) ex20.1 (by decide) (by decide) ex20_26
theorem ex20_862 : noneC 4 [[3, 4], [5, 7]] [8, 6, 2] = true := noneC_mono (A := [2, 6]) (by decide) ex20.1 (by decide) (by decide) ex20_26

theorem core1 : coreC 4 [[3, 4], [5, 7]] [2, 6] [2, 6] = [2, 6] := by
  have e1 : rm 2 [2, 6] = [6] := by decide
  have e2 : rm 6 [2, 6] = [2] := by decide
  simp only [coreC, e1, ex20_6]
  show (if noneC 4 [[3, 4], [5, 7]] (rm 6 [2, 6]) = true then rm 6 [2, 6] else [2, 6]) = [2, 6]
  rw [e2, ex20_2]; rfl

theorem core2 : coreC 4 [[3, 4], [5, 7]] [8, 6, 2] [8, 6, 2] = [6, 2] := by
  have e1 : rm 8 [8, 6, 2] = [6, 2] := by decide
  have e2 : rm 6 [6, 2] = [2] := by decide
  have e3 : rm 2 [6, 2] = [6] := by decide
  simp only [coreC, e1, e2, ex20_62, ex20_2, if_true]
  show (if noneC 4 [[3, 4], [5, 7]] (rm 2 [6, 2]) = true then rm 2 [6, 2] else [6, 2]) = [6, 2]
  rw [e3, ex20_6]; rfl

theorem ansA1 : ansA 4 [2, 6] [[3, 4], [5, 7]] = (false, [], [2, 6], [[3, 7]], 0) := ansA_is asm1 core1 (by rfl)
theorem ansA3 : ansA 3 [6] [[3, 4], [5, 7]] = (true, [false, false, true], [], [], 0) := ansA_is asm3 rfl (by decide)

theorem alive20_eq : spiritlevellaw20_alive = some true := by
  obtain ⟨l4, l3, a1, a2, a3⟩ := ex20
  have r1 := assume_run (b := 9) a1 (by omega) l4 (by decide) ⟨by rw [asm1]; decide, by omega⟩
  have r3 := assume_run (b := 9) a3 (by omega) l3 (by decide) ⟨by rw [asm3]; decide, by omega⟩
  have r2 := assume_Core_eq a2 l4 (by decide)
  have s1 := smallA a1 l4 (by decide)
  have s3 := smallA a3 l3 (by decide)
  have q1 := ref19_Same_eq (b := (false, [], [2, 6], [[3, 7]], 0)) s1
  have q3 := ref19_Same_eq (b := (true, [false, false, true], [], [], 0)) s3
  rw [ansA1] at r1 q1
  rw [ansA3] at r3 q3
  rw [ex20_862, core2] at r2
  rw [spiritlevellaw20_alive.eq, spiritlevellaw20_example.eq, Option.bind_some, r1, Option.bind_some, Option.bind_some, r2, Option.bind_some, Option.bind_some, r3, Option.bind_some]
  dsimp only
  rw [ce, if_pos rfl]
  dsimp only at q1 q3
  rw [q1, Option.bind_some, decide_eq_true rfl, ct, ce, if_pos rfl, ref13_Same_eq (by decide), Option.bind_some, decide_eq_true rfl, ct, ce, if_pos rfl, q3, Option.bind_some, decide_eq_true rfl]
  exact if_pos rfl

end Go.Proofs.Ytafogmegjlllkaa
