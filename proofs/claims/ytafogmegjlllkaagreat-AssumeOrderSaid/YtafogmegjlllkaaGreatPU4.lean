/- The laws of the solver under assumptions, of plain values: what they share; AssumeNone, AssumeLeast, AssumeCore. -/
import Derived.Test.YtafogmegjlllkaaGreatPS7
import Derived.Test.YtafogmegjlllkaaGreatPU3
namespace Go.Proofs.YtafogmegjlllkaaGreat
open Go Go.Proofs.YtafogmegjlllkaaGreat.R
set_option linter.unusedVariables false

/-! ### The chapter's examples -/

section
variable {v : Int} {L : List (List Int)} {A : List Int}

theorem noneC_false (hv : okV v) (hL : okL v L) (hA : ∀ a ∈ A, isLit v a) (W : List Bool) (h : ∀ c ∈ unitsC A ++ L, c.any (truth W) = true) : noneC v L A = false := by
  cases hn : noneC v L A with
  | false => rfl
  | true => exact absurd h ((noneC_iff hv hL hA).1 hn W)

theorem solA_want {n : Nat} {t s T : List Int} {log : List (List Int)} {l : Int} (hp : propC L (v + 1).toNat t = (T, -1)) (hw : wantA A T = some l) (h0 : ¬ isS T l = 0) : solA v A (n + 1) L t s log = solA v A n L (T ++ [l]) (s ++ [(T.length : Int)]) log := by
  rw [solA, hp, if_neg (by omega), hw]
  dsimp only
  rw [if_neg h0]

theorem solA_under {n : Nat} {t s T c : List Int} {log : List (List Int)} {l : Int} (hp : propC L (v + 1).toNat t = (T, -1)) (hw : wantA A T = some l) (h0 : isS T l = 0) (hc : lrnC v L A = c) : solA v A (n + 1) L t s log = (false, [], log ++ [c], log.length) := by
  rw [solA, hp, if_neg (by omega), hw]
  dsimp only
  rw [if_pos h0, hc]

theorem solA_dec {n : Nat} {t s T : List Int} {log : List (List Int)} {x : Int} (hp : propC L (v + 1).toNat t = (T, -1)) (hw : wantA A T = none) (hx : lf v T = x) (h0 : x ≠ 0) : solA v A (n + 1) L t s log = solA v A n L (T ++ [2 * x + 1]) (s ++ [(T.length : Int)]) log := by
  subst hx
  rw [solA, hp, if_neg (by omega), hw]
  dsimp only
  rw [if_neg h0]

theorem solA_sat {n : Nat} {t s T : List Int} {log : List (List Int)} (hp : propC L (v + 1).toNat t = (T, -1)) (hw : wantA A T = none) (hx : lf v T = 0) : solA v A (n + 1) L t s log = (true, T, log, log.length) := by
  rw [solA, hp, if_neg (by omega), hw]
  dsimp only
  rw [if_pos hx]

theorem solA_con {n : Nat} {t s T c t' s' : List Int} {log : List (List Int)} {i : Int} (hp : propC L (v + 1).toNat t = (T, i)) (hi : 0 ≤ i) (hc : lrnC v L (decs T s) = c) (h0 : c ≠ []) (hb : jbackC v T s c = ((v, (t', s')), 0)) :
    solA v A (n + 1) L t s log = solA v A n (L ++ [c]) t' s' (log ++ [c]) := by
  subst hc
  rw [solA, hp, if_pos hi, if_neg h0]
  dsimp only
  rw [hb]

theorem solA_end {n : Nat} {t s T : List Int} {log : List (List Int)} {i : Int} (hp : propC L (v + 1).toNat t = (T, i)) (hi : 0 ≤ i) (hc : lrnC v L (decs T s) = []) : solA v A (n + 1) L t s log = (false, [], log ++ [[]], log.length) := by
  rw [solA, hp, if_pos hi, if_pos hc]

theorem noneC_of (hA : okA v A []) (hL : okL v L) {r : Bool × List Int × List (List Int) × Nat} (h : solAR v A L = r) (hr : r.1 = false) : noneC v L A = true := by
  have := solAR_none hA hL
  rw [h, hr] at this
  cases hn : noneC v L A with
  | true => rfl
  | false => rw [hn] at this; cases this

theorem ansA_is {r : Bool × List Int × List (List Int) × Nat} (h : solAR v A L = r) {c : List Int} (hc : coreC v L A A = c) {w : Ansr} (hw : (r.1, if r.1 then mdl v r.2.1 else [], if r.1 then [] else c, r.2.2.1, (r.2.2.2 : Int)) = w) : ansA v A L = w := by
  unfold ansA; rw [h, hc, hw]

end

theorem asm1 : solAR 4 [2, 6] [[3, 4], [5, 7]] = (false, [], [[3, 7]], 0) := by
  show solA 4 [2, 6] (84 + 1) _ _ _ _ = _
  rw [solA_want (T := []) (l := 2) (by decide) (by decide) (by decide), solA_under (T := [2, 4, 7]) (l := 6) (c := [3, 7]) (by decide) (by decide) (by decide) (lrn_is (o := [2, 6]) (by decide) (by decide) (by decide) (fun y => by simp [neg]))]; rfl

theorem asm3 : solAR 3 [6] [[3, 4], [5, 7]] = (true, [6, 5, 3], [], 0) := by
  show solA 3 [6] (35 + 1) _ _ _ _ = _
  rw [solA_want (T := []) (l := 6) (by decide) (by decide) (by decide), solA_sat (T := [6, 5, 3]) (by decide) (by decide) (by decide)]; rfl

theorem ex20 : okL 4 [[3, 4], [5, 7]] ∧ okL 3 [[3, 4], [5, 7]] ∧ okA 4 [2, 6] [] ∧ okA 4 [8, 6, 2] [] ∧ okA 3 [6] [] := by
  refine ⟨by decide, by decide, ?_, ?_, ?_⟩ <;> exact ⟨by decide, by decide, by decide, by decide, by decide⟩

theorem ex20_6 : noneC 4 [[3, 4], [5, 7]] [6] = false := noneC_false (by decide) ex20.1 (by decide) [false, false, true, false] (by decide)
theorem ex20_2 : noneC 4 [[3, 4], [5, 7]] [2] = false := noneC_false (by decide) ex20.1 (by decide) [true, true, false, false] (by decide)
theorem ex20_26 : noneC 4 [[3, 4], [5, 7]] [2, 6] = true := noneC_of ex20.2.2.1 ex20.1 asm1 rfl
theorem ex20_62 : noneC 4 [[3, 4], [5, 7]] [6, 2] = true := noneC_mono (A := [2, 6]) (by decide) ex20.1 (by decide) (by decide) ex20_26
theorem ex20_862 : noneC 4 [[3, 4], [5, 7]] [8, 6, 2] = true := noneC_mono (A := [2, 6]) (by decide) ex20.1 (by decide) (by decide) ex20_26

theorem core1 : coreC 4 [[3, 4], [5, 7]] [2, 6] [2, 6] = [2, 6] := by
  have e1 : rm 2 [2, 6] = [6] := by decide
  have e2 : rm 6 [2, 6] = [2] := by decide
  simp only [coreC, e1, ex20_6]
  show (if noneC 4 [[3, 4], [5, 7]] (rm 6 [2, 6]) = true then rm 6 [2, 6] else [2, 6]) = [2, 6]
  rw [e2, ex20_2]; rfl

theorem core2 : coreC 4 [[3, 4], [5, 7]] [8, 6, 2] [8, 6, 2] = [6, 2] := by
  have e1 : rm 8 [8, 6, 2] = [6, 2] := by decide
  have e2 : rm 6 [6, 2] = [2] := by decide
  have e3 : rm 2 [6, 2] = [6] := by decide
  simp only [coreC, e1, e2, ex20_62, ex20_2, if_true]
  show (if noneC 4 [[3, 4], [5, 7]] (rm 2 [6, 2]) = true then rm 2 [6, 2] else [6, 2]) = [6, 2]
  rw [e3, ex20_6]; rfl

theorem ansA1 : ansA 4 [2, 6] [[3, 4], [5, 7]] = (false, [], [2, 6], [[3, 7]], 0) := ansA_is asm1 core1 (by rfl)
theorem ansA3 : ansA 3 [6] [[3, 4], [5, 7]] = (true, [false, false, true], [], [], 0) := ansA_is asm3 rfl (by decide)

theorem alive20_eq : spiritlevellaw20_alive = some true := by
  obtain ⟨l4, l3, a1, a2, a3⟩ := ex20
  have r1 := assume_run (b := 9) a1 (by omega) l4 (by decide) ⟨by rw [asm1]; decide, by omega⟩
  have r3 := assume_run (b := 9) a3 (by omega) l3 (by decide) ⟨by rw [asm3]; decide, by omega⟩
  have r2 := assume_Core_eq a2 l4 (by decide)
  have s1 := smallA a1 l4 (by decide)
  have s3 := smallA a3 l3 (by decide)
  have q1 := ref19_Same_eq (b := (false, [], [2, 6], [[3, 7]], 0)) s1
  have q3 := ref19_Same_eq (b := (true, [false, false, true], [], [], 0)) s3
  rw [ansA1] at r1 q1
  rw [ansA3] at r3 q3
  rw [ex20_862, core2] at r2
  rw [spiritlevellaw20_alive.eq, spiritlevellaw20_example.eq, Option.bind_some, r1, Option.bind_some, Option.bind_some, r2, Option.bind_some, Option.bind_some, r3, Option.bind_some]
  dsimp only
  rw [ce, if_pos rfl]
  dsimp only at q1 q3
  rw [q1, Option.bind_some, decide_eq_true rfl, ct, ce, if_pos rfl, ref13_Same_eq (by decide), Option.bind_some, decide_eq_true rfl, ct, ce, if_pos rfl, q3, Option.bind_some, decide_eq_true rfl]
  exact if_pos rfl

/-! ### What the references answer -/

section
variable {v : Int} {L : List (List Int)} {A : List Int}

theorem ref20_Units.loop (hn : A.length ≤ 100000) (hl : L.length ≤ 100000) : ∀ (n i : Nat), i + n = A.length → spiritlevelref20_Units.l0 L A (i : Int) (unitsC (A.take i)) = some (unitsC A ++ L)
  | 0, i, hi => by
    have hul : (unitsC A).length = A.length := by simp [unitsC]
    rw [spiritlevelref20_Units.l0_eq, cd, if_neg (by omega), List.take_of_length_le (by omega), app_ok (by omega), Option.bind_some]
  | n + 1, i, hi => by
    have hlt : i < A.length := by omega
    have hw : IntKind.wrap .i64 ((i : Int) + 1) = ((i + 1 : Nat) : Int) := by rw [wr] <;> omega
    have hl2 : (unitsC (A.take i)).length ≤ 100000 := by unfold unitsC; rw [List.length_map, List.length_take]; omega
    have he : unitsC (A.take i) ++ [[A[i]]] = unitsC (A.take (i + 1)) := by
      rw [List.take_add_one, List.getElem?_eq_getElem hlt]
      unfold unitsC
      rw [List.map_append]; rfl
    rw [spiritlevelref20_Units.l0_eq, cd, if_pos (by omega), gsome hlt, Option.bind_some, app_ok (by simp only [List.length_singleton]; omega), Option.bind_some, hw, he, ref20_Units.loop hn hl n (i + 1) (by omega)]

theorem ref20_Units_eq (hn : A.length ≤ 100000) (hl : L.length ≤ 100000) : spiritlevelref20_Units L A = some (unitsC A ++ L) := by
  rw [spiritlevelref20_Units.eq]
  exact ref20_Units.loop hn hl A.length 0 (by omega)

theorem ref19_Least_eq (ov : okV v) (o12 : v ≤ 12) (oL : okL v L) (on : L.length ≤ 1000) : spiritlevelref19_Least v L = some (if (solR v L).1 then (mdl v (solR v L).2.1, true) else ([], false)) := by
  have A := solR_ok ov oL
  rw [spiritlevelref19_Least.eq, show (0 : Int) = ((0 : Nat) : Int) from rfl]
  rcases ref19_Least.loop ov o12 oL on (2 ^ v.toNat) 0 (by omega) (by intro k hk; omega) with ⟨k, k1, k2, k3, k4⟩ | ⟨k1, k2⟩
  · have hs : (solR v L).1 = true := by
      cases h : (solR v L).1 with
      | true => rfl
      | false => exact absurd k2 (A.none ov h _)
    rw [k4, if_pos hs, least_num (A.sat hs).1 k1 k2 k3]
  · have hs : (solR v L).1 = false := by
      cases h : (solR v L).1 with
      | false => rfl
      | true =>
        have M := (A.sat h).1
        have hl := num_lt (mdl v (solR v L).2.1)
        rw [M.1] at hl
        have hMn : valR v.toNat (num (mdl v (solR v L).2.1)) = mdl v (solR v L).2.1 := num_inj (by rw [valR_len, M.1]) (by rw [num_valR, Nat.mod_eq_of_lt hl])
        exact absurd (by rw [hMn]; exact M.2.1) (k1 _ hl)
    rw [k2, hs]; rfl

theorem solR_none (v : Int) (L : List (List Int)) (A : List Int) : (solR v (unitsC A ++ L)).1 = !noneC v L A := by unfold noneC; rw [Bool.not_not]

theorem units_len : (unitsC A ++ L).length = A.length + L.length := by simp [unitsC]

/-- The same model as with the assumptions as clauses. -/
theorem same_model (hA : okA v A []) (hL : okL v L) (hs : (solAR v A L).1 = true) : mdl v (solAR v A L).2.1 = mdl v (solR v (unitsC A ++ L)).2.1 := by
  have h := (solAR_ok hA hL).sat hs
  have hR := solR_ok hA.vars (okL_asm hL hA.lits)
  have hs2 : (solR v (unitsC A ++ L)).1 = true := by rw [solR_none, ← solAR_none hA hL, hs]
  exact h.1.unique (hR.sat hs2).1 (hR.sat hs2).1.2.1 h.1.2.1

theorem ansA_sat (h : (solAR v A L).1 = true) : ansA v A L = (true, mdl v (solAR v A L).2.1, [], (solAR v A L).2.2.1, ((solAR v A L).2.2.2 : Int)) := by unfold ansA; rw [h]; rfl
theorem ansA_un (h : (solAR v A L).1 = false) : ansA v A L = (false, [], coreC v L A A, (solAR v A L).2.2.1, ((solAR v A L).2.2.2 : Int)) := by unfold ansA; rw [h]; rfl

end

theorem nilA {v : Int} (hv : okV v) : okA v [] [] := ⟨hv, by simp, List.Pairwise.nil, List.Pairwise.nil, by simp⟩

/-! ### AssumeNone -/

theorem ansA_nil {v : Int} {L : List (List Int)} : ansA v [] L = ansR v (solR v L) := by
  unfold ansA ansR solAR solR
  rw [solA_nil]
  cases (sol v (meas v [] [] + 1) L [] [] []).1 <;> rfl

theorem runA_nil {v b : Int} {L : List (List Int)} : runA v b [] L = ansC v b (solR v L) := by
  unfold runA ansC
  rw [ansA_nil]
  unfold solAR solR
  rw [solA_nil]

theorem AssumeNone_pure (v : Int) (L : List (List Int)) (b : Int) (hv : okD (.int .i64) v) (hL : okD TLL L) (hb : okD (.int .i64) b) : spiritlevellaw20_AssumeNone v L b = some true := by
  obtain ⟨l1, l2⟩ := okTLL hL
  obtain ⟨f, h1, h2⟩ := fit20_eq (v := v) (A := []) l1 (fun c hc => (l2 c hc).1) (by simp)
  rw [spiritlevellaw20_AssumeNone.eq, alive20_eq, Option.bind_some, h1, Option.bind_some]
  cases f with
  | false => rfl
  | true =>
    obtain ⟨oA, o12, oL, on, _⟩ := h2 rfl
    have hp := small_pow oA.vars.1 o12
    rw [cnot, ct, cd]
    split
    · rfl
    rename_i b0
    rw [cd]
    split
    · rfl
    rename_i b1
    have hS : AnsS (ansC v b (solR v L)).1 := by
      unfold ansC
      split
      · exact (solR_ok oA.vars oL).small oA.vars hp
      · exact ⟨by simp [ans0], by simp [ans0], by simp [ans0], by simp [ans0]⟩
    have hq := ref19_Same_eq (b := (ansC v b (solR v L)).1) hS
    rw [cnot, ct, assume_Run_eq oA ⟨by omega, by omega⟩ oL (by simp; omega), Option.bind_some, solve_Run_eq oA.vars ⟨by omega, by omega⟩ oL (by omega), Option.bind_some, runA_nil, ct, ce, if_pos rfl, hq, Option.bind_some, decide_eq_true rfl]

/-! ### AssumeLeast -/

theorem AssumeLeast_pure (v : Int) (L : List (List Int)) (A : List Int) (hv : okD (.int .i64) v) (hL : okD TLL L) (hA : okD TL A) : spiritlevellaw20_AssumeLeast v L A = some true := by
  obtain ⟨l1, l2⟩ := okTLL hL
  obtain ⟨c1, c2⟩ := okTL hA
  obtain ⟨f, h1, h2⟩ := fit20_eq (v := v) (A := A) l1 (fun c hc => (l2 c hc).1) c1
  rw [spiritlevellaw20_AssumeLeast.eq, alive20_eq, Option.bind_some, h1, Option.bind_some]
  cases f with
  | false => rfl
  | true =>
    obtain ⟨oA, o12, oL, on, oa⟩ := h2 rfl
    rw [cnot, ct, cd]
    split
    · rfl
    rename_i m0
    have oU := okL_asm oL oA.lits
    have hul : (unitsC A ++ L).length ≤ 60 := by rw [units_len]; omega
    have hS := smallA oA oL (small_pow oA.vars.1 o12)
    have hm := hS.m
    rw [cnot, ct, assume5000 oA o12 oL (by omega), Option.bind_some, ref20_Units_eq (by omega) (by omega), Option.bind_some, run5000 oA.vars o12 oU (by omega), Option.bind_some, Option.bind_some, ref19_Least_eq oA.vars o12 oU (by omega), Option.bind_some]
    dsimp only
    rw [cn, if_pos rfl, cn, if_pos rfl]
    have hs1 := solAR_none oA oL
    have hs2 := solR_none v L A
    cases hn : noneC v L A with
    | true =>
      rw [hn] at hs1 hs2
      have hs1' : (solAR v A L).1 = false := hs1
      have hs2' : (solR v (unitsC A ++ L)).1 = false := hs2
      have e1 : ansR v (solR v (unitsC A ++ L)) = (false, [], [], (solR v (unitsC A ++ L)).2.2.1, ((solR v (unitsC A ++ L)).2.2.2 : Int)) := by unfold ansR; rw [hs2']; rfl
      rw [ansA_un hs1', e1, hs2']
      dsimp only
      rw [ref19_SameValues_eq (by simp)]
      rfl
    | false =>
      rw [hn] at hs1 hs2
      have hs1' : (solAR v A L).1 = true := hs1
      have hs2' : (solR v (unitsC A ++ L)).1 = true := hs2
      have hmm := same_model oA oL hs1'
      have e1 : ansR v (solR v (unitsC A ++ L)) = (true, mdl v (solR v (unitsC A ++ L)).2.1, [], (solR v (unitsC A ++ L)).2.2.1, ((solR v (unitsC A ++ L)).2.2.2 : Int)) := by unfold ansR; rw [hs2']; rfl
      have hv4 := oA.vars
      rw [ansA_sat hs1', e1, hs2', hmm, if_pos rfl]
      dsimp only
      rw [ref19_SameValues_eq (by rw [mdl_len]; omega), decide_eq_true rfl]
      rfl

end Go.Proofs.YtafogmegjlllkaaGreat
