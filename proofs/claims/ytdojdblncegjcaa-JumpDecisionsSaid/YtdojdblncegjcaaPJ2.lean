/- Going back, of plain values: JumpTells, JumpNames, JumpValue, JumpLevels, JumpSecond. -/
import Derived.Test.YtdojdblncegjcaaPJ1
namespace Go.Proofs.Ytdojdblncegjcaa
open Go Go.Proofs.Ytdojdblncegjcaa.R
set_option linter.unusedVariables false

theorem jlev_s {v : Int} {t s c : List Int} (h : small64 t = true ∧ s.length ≤ 1000 ∧ small64 c = true) : jump_Level v t s c = some (jlevC v t s c) := by
  have h1 := small64_of h.1
  have h2 := small64_of h.2.2
  exact jump_Level_eq (by omega) (by omega) h1.2 (by omega) h2.2

theorem jback_s {v : Int} {t s c : List Int} (h : small64 t = true ∧ s.length ≤ 1000 ∧ small64 c = true) : jump_Back v t s c = some (jbackC v t s c) := by
  have h1 := small64_of h.1
  have h2 := small64_of h.2.2
  exact jump_Back_eq (by omega) (by omega) h1.2 (by omega) h2.2

theorem ex18_eq : spiritlevellaw18_example = some (4, ([4, 7, 2, 9], [1, 2, 3])) := spiritlevellaw18_example.eq

theorem goes_s {c want s' : List Int} {level : Int} (hc : small64 c = true) (hw : want.length ≤ 1000) (h1 : jlevC 4 [4, 7, 2, 9] [1, 2, 3] c = (level, 0)) (h2 : jbackC 4 [4, 7, 2, 9] [1, 2, 3] c = ((4, (want, s')), 0)) (h3 : (s'.length : Int) = level) :
    spiritlevellaw18_goes c level want = some true := by
  rw [spiritlevellaw18_goes.eq, ex18_eq, Option.bind_some, jlev_s ⟨by decide, by decide, hc⟩, Option.bind_some, Option.bind_some, jback_s ⟨by decide, by decide, hc⟩, Option.bind_some, h1, h2]
  dsimp only
  rw [beq_self_eq_true, ct, beq_self_eq_true, ct, ref13_Same_eq (by omega), Option.bind_some, decide_eq_true rfl, ct, h3, beq_self_eq_true]
  rfl

theorem alive18_eq : spiritlevellaw18_alive = some true := by
  have g1 := goes_s (c := [3, 6]) (want := [4, 7, 3]) (s' := [1]) (level := 1) (by decide) (by decide) (by decide) (by decide) (by decide)
  have g2 := goes_s (c := [8]) (want := [4, 8]) (s' := []) (level := 0) (by decide) (by decide) (by decide) (by decide) (by decide)
  have g3 := goes_s (c := [5, 6]) (want := [4, 6]) (s' := []) (level := 0) (by decide) (by decide) (by decide) (by decide) (by decide)
  rw [spiritlevellaw18_alive.eq, g1, Option.bind_some, ct, g2, Option.bind_some, ct, g3, Option.bind_some]

theorem JumpNames_pure : spiritlevellaw18_JumpNames = some true := by
  have p1 : jlevC 2 [2, 2] [] [1] = (0, 8) := by decide
  have p2 : jbackC 2 [2, 2] [] [1] = (noneA, 8) := by decide
  have p4 : jlevC 4 [4, 7, 2, 9] [1, 2, 3] [1] = (0, 8) := by decide
  have p6 : jbackC 4 [4, 7, 2, 9] [1, 2, 3] [8, 3] = (noneA, 8) := by decide
  have p8 : jlevC 4 [4, 7, 2, 9] [1, 2, 3] [2, 8] = (0, 2) := by decide
  have p9 : jbackC 2 [2] [] [3, 4] = (noneA, 2) := by decide
  have p11 : jlevC 4 [4, 7, 2, 9] [1, 2, 3] [] = (0, 0) := by decide
  have p13 : jbackC 4 [4, 7, 2, 9] [1, 2, 3] [] = (noneA, 6) := by decide
  have p15 : jbackC 4 [4, 7, 2, 9] [1, 2, 3] [5] = (noneA, 6) := by decide
  have p17 : jlevC 4 [4, 7, 2, 9] [1, 2, 3] [5] = (0, 0) := by decide
  have p18 : jlevC 4 [2, 4, 6] [0, 1] [5, 7] = (2, 0) := by decide
  have p19 : jbackC 4 [2, 4, 6] [0, 1] [5, 7] = (noneA, 6) := by decide
  have p20 : jlevC 4 [2, 4, 6] [0, 1] [3, 5, 7] = (2, 0) := by decide
  rw [spiritlevellaw18_JumpNames.eq, ex18_eq, jlev_s (by decide), Option.bind_some, p1, jback_s (by decide), Option.bind_some, p2, Option.bind_some, jlev_s (by decide), Option.bind_some, p4, Option.bind_some, jback_s (by decide), Option.bind_some, p6, Option.bind_some,
    jlev_s (by decide), Option.bind_some, p8, jback_s (by decide), Option.bind_some, p9, Option.bind_some, jlev_s (by decide), Option.bind_some, p11, Option.bind_some, jback_s (by decide), Option.bind_some, p13, Option.bind_some, jback_s (by decide), Option.bind_some, p15,
    Option.bind_some, jlev_s (by decide), Option.bind_some, p17, jlev_s (by decide), Option.bind_some, p18, jback_s (by decide), Option.bind_some, p19, jlev_s (by decide), Option.bind_some, p20, alive18_eq, Option.bind_some]
  rfl

theorem jbackC_len {v : Int} {t s c : List Int} (ht : t.length ≤ 200 ∧ s.length ≤ 200) : (jbackC v t s c).1.2.1.length ≤ 201 ∧ (jbackC v t s c).1.2.2.length ≤ 201 := by
  unfold jbackC
  split
  · split
    · simp
    · simp only [List.length_append, List.length_take, List.length_singleton]; omega
  · simp

theorem JumpTells_pure (a : Int × List Int × List Int) (c : List Int) (ha : okD TA a) (hc : okD TL c) : spiritlevellaw18_JumpTells a.1 a.2.1 a.2.2 c = some true := by
  obtain ⟨a0, ⟨a1, a2⟩, a3, a4⟩ := okTA ha
  have hc := okTL hc
  rw [spiritlevellaw18_JumpTells.eq, ref14_Great_eq, Option.bind_some, cd]
  split
  · rfl
  · rename_i g1
    rw [cd]
    split
    · rfl
    · rename_i g2
      have g3 : a.2.1.length ≤ 200 ∧ a.2.2.length ≤ 200 := by omega
      have l1 := jbackC_len (v := a.1) (c := c) g3
      rw [ref14_Twin_eq (by omega) (by omega), Option.bind_some]
      dsimp only
      rw [jump_Level_eq (by omega) (by omega) a2 (by omega) hc.2, Option.bind_some, ref18_Level_eq (by omega) (by omega) (by omega), Option.bind_some, jump_Back_eq (by omega) (by omega) a2 (by omega) hc.2, Option.bind_some, ref18_Back_eq (by omega) (by omega) (by omega), Option.bind_some,
        beq_self_eq_true, ct, beq_self_eq_true, ct, ref14_Same_eq (by omega) (by omega), Option.bind_some, decide_eq_true ⟨rfl, rfl, rfl⟩, ct, beq_self_eq_true, ct, ref14_Same_eq (by omega) (by omega), Option.bind_some, decide_eq_true ⟨rfl, rfl, rfl⟩]

theorem fit18_eq {v : Int} {t s c : List Int} (ht : t.length ≤ 140737488351232) (hs : s.length ≤ 140737488351232) : spiritlevellaw18_fit v t s c = some (decide ((t.length ≤ 200 ∧ s.length ≤ 200) ∧ c.length ≤ 100 ∧ askC v t s c = 0)) := by
  rw [spiritlevellaw18_fit.eq, ref14_Great_eq, Option.bind_some, cnot, cd]
  by_cases g1 : t.length > 200 ∨ s.length > 200
  · rw [if_pos g1, decide_eq_false (by omega)]
  · rw [if_neg g1, cd]
    by_cases g2 : (c.length : Int) ≤ 100
    · rw [if_pos g2, ref18_Asked_eq ht hs (by omega), Option.bind_some]
      congr 1
      by_cases g3 : askC v t s c = 0
      · rw [g3, decide_eq_true ⟨by omega, by omega, rfl⟩]; rfl
      · rw [beq_false_of_ne g3, decide_eq_false (fun h => g3 h.2.2)]
    · rw [if_neg g2, decide_eq_false (by omega)]

section
variable {v : Int} {t s c : List Int}

theorem Fals.ask (h : Fals v t s c) : askC v t s c = 0 := by
  unfold askC
  rw [if_pos h.a, if_pos h.c, if_pos (stC_zero.2 h.z)]

theorem Fals.jl (h : Fals v t s c) : jlevC v t s c = ((toC t s c : Int), 0) := by
  unfold jlevC
  rw [if_pos h.ask]

theorem Fals.jb0 (h : Fals v t s c) (hg : givC t s c = 0) : jbackC v t s c = (noneA, 6) := by
  unfold jbackC
  rw [if_pos h.ask, if_pos hg]

theorem Fals.jb (h : Fals v t s c) (hg : givC t s c ≠ 0) : jbackC v t s c = ((v, (t.take (keep t s (toC t s c)) ++ [givC t s c], s.take (toC t s c))), 0) := by
  unfold jbackC
  rw [if_pos h.ask, if_neg hg]

/-- The assignment behind going back. -/
theorem Fals.back (h : Fals v t s c) (hg : givC t s c ≠ 0) : okA v (t.take (keep t s (toC t s c)) ++ [givC t s c]) (s.take (toC t s c)) :=
  (h.a.undone h.to).push (h.c.1 _ (h.open_ hg).1) (h.open_ hg).2

theorem Fals.unit (h : Fals v t s c) (hg : givC t s c ≠ 0) {k : Nat} (hk : k ≤ s.length) (h1 : toC t s c ≤ k) (h2 : (k : Int) < lvl t s (givC t s c)) : stC (t.take (keep t s k)) c = (3, givC t s c) := by
  rcases h.spec with ⟨g1, _⟩ | ⟨g1, g2, g3⟩
  · exact absurd g1 hg
  · refine stC_three_of h.c g1 (by rw [isS_undone h g1 hk, if_neg (by omega)]) (fun l hl hne => ?_)
    have := g3 l hl hne
    rw [isS_undone h hl hk, if_pos (by omega)]

theorem Fals.two (h : Fals v t s c) : toC t s c = 0 ∨ 2 ≤ cntGE (lvl t s) c (toC t s c : Int) := toF_two _ _ _
theorem Fals.one (h : Fals v t s c) : cntGE (lvl t s) c ((toC t s c : Int) + 1) < 2 := toF_one _ _ _ fun l hl => (h.rng l hl).2

theorem stC_none {t' : List Int} (hz : ∀ l ∈ c, isS t' l = 0) : (stC t' c).1 = 0 := stC_zero.2 hz
end

theorem last_app {l : List Int} {x : Int} (hl : l.length ≤ 100000) : IntKind.wrap .i64 (((l ++ [x]).length : Int) - 1) = (l.length : Int) := by
  rw [List.length_append, List.length_singleton, wr] <;> omega
theorem get_last {l : List Int} {x : Int} : geti (l ++ [x]) (l.length : Int) = some x ∧ (l ++ [x])[l.length]? = some x := by
  rw [gi]
  simp

theorem JumpValue_pure (a : Int × List Int × List Int) (c : List Int) (ha : okD TA a) (hc : okD TL c) : spiritlevellaw18_JumpValue a.1 a.2.1 a.2.2 c = some true := by
  obtain ⟨a0, ⟨a1, a2⟩, a3, a4⟩ := okTA ha
  have hc := okTL hc
  rw [spiritlevellaw18_JumpValue.eq, alive18_eq, Option.bind_some, fit18_eq a1 a3, Option.bind_some, cnot, cd]
  split
  · rename_i g
    obtain ⟨g1, g2, g3⟩ := g
    have F := askC_zero g3
    have hto := F.to
    have hkl := keep_le F.a (toC a.2.1 a.2.2 c)
    rw [cnot, ct, jump_Level_eq (by omega) (by omega) a2 (by omega) hc.2, Option.bind_some, jump_Back_eq (by omega) (by omega) a2 (by omega) hc.2, Option.bind_some, F.jl]
    dsimp only
    rw [cn, if_pos rfl, cn]
    by_cases h0 : givC a.2.1 a.2.2 c = 0
    · rw [F.jb0 h0]; rfl
    · have hB := F.back h0
      obtain ⟨o1, o2⟩ := F.open_ h0
      have hU := F.a.undone hto
      have hspec := F.spec
      have hlt : (toC a.2.1 a.2.2 c : Int) < lvl a.2.1 a.2.2 (givC a.2.1 a.2.2 c) := by
        rcases hspec with ⟨q, _⟩ | ⟨_, q, _⟩
        · exact absurd q h0
        · exact q
      have hst := F.unit h0 hto (Nat.le_refl _) hlt
      have hu := undC_ok F.a (k := (toC a.2.1 a.2.2 c : Int)) ⟨by omega, by omega⟩
      rw [Int.toNat_natCast] at hu
      have hlev := F.lev o1
      rw [F.jb h0]
      generalize hg : givC a.2.1 a.2.2 c = x at *
      generalize hT : toC a.2.1 a.2.2 c = T at *
      generalize hk : keep a.2.1 a.2.2 T = K at *
      have htl : (a.2.1.take K).length ≤ 200 := by rw [List.length_take]; omega
      have hsl : (a.2.2.take T).length = T := by rw [List.length_take]; omega
      have hx64 := F.in64.2 _ o1
      have s1 : stateC a.1 (a.2.1.take K) (a.2.2.take T) c = (3, x, 0) := by unfold stateC; rw [if_pos hU, if_pos F.c, hst]
      have s2 : (stateC a.1 (a.2.1.take K ++ [x]) (a.2.2.take T) c).1 = 1 ∧ (stateC a.1 (a.2.1.take K ++ [x]) (a.2.2.take T) c).2.2 = 0 := by
        unfold stateC
        rw [if_pos hB, if_pos F.c]
        exact ⟨stC_one.2 ⟨x, o1, (isS_true hB.dis).2 (by simp)⟩, rfl⟩
      have s3 : levC a.1 (a.2.1.take K ++ [x]) (a.2.2.take T) x = ((T : Int), 0) := by
        have hi : idxC x 0 (a.2.1.take K ++ [x]) = ((a.2.1.take K).length : Int) := by
          have := idxC_at (k := 0) (a.2.1.take K).length (t := a.2.1.take K ++ [x]) (by simp) hB.dis
          rw [List.getElem_append_right (Nat.le_refl _)] at this
          simpa using this
        have hcn : cntLE (a.2.2.take T) ((a.2.1.take K).length : Int) = T := by
          rw [cntLE_all (fun y hy => by have := hU.bnd y hy; omega), hsl]
        unfold levC
        rw [if_pos hB, if_pos (F.c.1 _ o1), hi, if_neg (by omega), hcn]
      have hin : ∀ l ∈ a.2.1.take K ++ [x], in64 l := fun l hl => by
        rcases List.mem_append.1 hl with hl | hl
        · exact a2 l (List.mem_of_mem_take hl)
        · rw [List.mem_singleton] at hl; subst hl; exact hx64
      have hbl : (a.2.1.take K ++ [x]).length ≤ 201 := by simp only [List.length_append, List.length_singleton]; omega
      have hchk : chk (decide ((0 : Int) ≤ 0) && decide ((0 : Int) ≤ ((a.2.1.take K).length : Int)) && decide (((a.2.1.take K).length : Int) ≤ ((a.2.1.take K ++ [x]).length : Int))) = some () := by
        have : (decide ((0 : Int) ≤ 0) && decide ((0 : Int) ≤ ((a.2.1.take K).length : Int)) && decide (((a.2.1.take K).length : Int) ≤ ((a.2.1.take K ++ [x]).length : Int))) = true := by
          rw [Bool.and_eq_true, Bool.and_eq_true, decide_eq_true_eq, decide_eq_true_eq, decide_eq_true_eq, List.length_append]; omega
        rw [this]; rfl
      have hsub : subOf (a.2.1.take K ++ [x]) (Int.toNat 0) (Int.toNat (((a.2.1.take K).length : Int) - 0)) = a.2.1.take K := by
        rw [Int.sub_zero, Int.toNat_natCast]
        simp [subOf]
      dsimp only
      rw [if_pos rfl, ce, if_neg (by simp only [List.length_append, List.length_singleton]; omega), ref14_Check_eq (by omega) (by omega), Option.bind_some, if_pos hB, cn, if_pos rfl, cn, if_pos (by omega), last_app (by omega), get_last.1, Option.bind_some, Int.toNat_natCast, get_last.2, Option.bind_some,
        assign_Undo_eq (by omega) (by omega) a2, Option.bind_some, hu]
      dsimp only
      rw [unit_State_eq (by omega) (by omega) (fun l hl => a2 l (List.mem_of_mem_take hl)) (by omega) hc.2, Option.bind_some, unit_State_eq (by omega) (by omega) hin (by omega) hc.2, Option.bind_some, assign_Level_eq (by omega) (by omega) hin hx64, Option.bind_some,
        assign_Level_eq (by omega) (by omega) a2 hx64, Option.bind_some, s1, s2.1, s2.2, s3, hlev]
      dsimp only
      rw [cd, if_pos hlt, hchk, Option.bind_some, hsub, ref13_Same_eq (by omega), Option.bind_some, decide_eq_true rfl]
      simp
  · rfl

/-! ### JumpLevels -/

theorem JumpLevels.loop {v : Int} {t s c : List Int} (F : Fals v t s c) {level n : Int} {ok : Bool} : ∀ (m i : Nat) (hi : Int), i + m = c.length →
    ∃ hi', spiritlevellaw18_JumpLevels.l0 c level ok n hi (i : Int) v t s = spiritlevellaw18_JumpLevels.l0 c level ok n hi' (c.length : Int) v t s ∧ hi ≤ hi' ∧ (∀ l ∈ c.drop i, lvl t s l ≤ hi') ∧ (hi' = hi ∨ ∃ l ∈ c.drop i, lvl t s l = hi')
  | 0, i, hi, h => by
    have : i = c.length := by omega
    subst this
    exact ⟨hi, rfl, Int.le_refl _, by rw [List.drop_of_length_le (Nat.le_refl _)]; simp, .inl rfl⟩
  | m + 1, i, hi, h => by
    have hlt : i < c.length := by omega
    have hmem := List.getElem_mem hlt
    have hcs := F.c.short F.a.vars
    have hw : IntKind.wrap .i64 ((i : Int) + 1) = ((i + 1 : Nat) : Int) := by rw [wr] <;> omega
    obtain ⟨hi', e1, e2, e3, e4⟩ := JumpLevels.loop F (level := level) (n := n) (ok := ok) m (i + 1) (if hi < lvl t s c[i] then lvl t s c[i] else hi) (by omega)
    refine ⟨hi', ?_, ?_, ?_, ?_⟩
    · rw [spiritlevellaw18_JumpLevels.l0_eq, cd, if_pos (by omega), gsome hlt, Option.bind_some, ref14_Of_eq F.a (F.c.1 _ hmem) (F.idx hmem), Option.bind_some, hw, e1]
    · split at e2 <;> omega
    · rw [drop_cons hlt]
      intro l hl
      rcases List.mem_cons.1 hl with rfl | hl
      · split at e2 <;> omega
      · exact e3 l hl
    · rw [drop_cons hlt]
      rcases e4 with e4 | ⟨l, hl, e4⟩
      · split at e4
        · exact .inr ⟨c[i], List.mem_cons_self .., e4.symm⟩
        · exact .inl e4
      · exact .inr ⟨l, List.mem_cons_of_mem _ hl, e4⟩

theorem cnt_ex {f : Int → Int} {c : List Int} (hd : c.Nodup) {k : Int} (h : 2 ≤ cntGE f c k) (x : Int) : ∃ y ∈ c, y ≠ x ∧ k ≤ f y := by
  unfold cntGE at h
  have hn : (c.filter fun l => decide (k ≤ f l)).Nodup := hd.filter _
  have hm : ∀ y ∈ c.filter fun l => decide (k ≤ f l), y ∈ c ∧ k ≤ f y := fun y hy => ⟨(List.mem_filter.1 hy).1, of_decide_eq_true (List.mem_filter.1 hy).2⟩
  generalize c.filter (fun l => decide (k ≤ f l)) = L at h hn hm
  match L, h, hn, hm with
  | [], h, _, _ => simp at h
  | [a], h, _, _ => simp at h
  | a :: b :: r, _, hn, hm =>
    have hab : a ≠ b := fun e => by
      rw [List.nodup_cons] at hn
      exact hn.1 (e ▸ List.mem_cons_self ..)
    by_cases ha : a = x
    · exact ⟨b, (hm b (by simp)).1, fun e => hab (ha.trans e.symm), (hm b (by simp)).2⟩
    · exact ⟨a, (hm a (by simp)).1, ha, (hm a (by simp)).2⟩

theorem JumpLevels_pure (a : Int × List Int × List Int) (c : List Int) (level : Int) (ha : okD TA a) (hc : okD TL c) (hl : okD (.int .i64) level) : spiritlevellaw18_JumpLevels a.1 a.2.1 a.2.2 c level = some true := by
  obtain ⟨a0, ⟨a1, a2⟩, a3, a4⟩ := okTA ha
  have hc := okTL hc
  rw [spiritlevellaw18_JumpLevels.eq, alive18_eq, Option.bind_some, fit18_eq a1 a3, Option.bind_some, cnot, cd]
  split
  · rename_i g
    obtain ⟨g1, g2, g3⟩ := g
    have F := askC_zero g3
    have hto := F.to
    rw [cd]
    split
    · rfl
    · rename_i l1
      rw [cd]
      split
      · rfl
      · rename_i l2
        rw [cnot, ct, jump_Level_eq (by omega) (by omega) a2 (by omega) hc.2, Option.bind_some, jump_Back_eq (by omega) (by omega) a2 (by omega) hc.2, Option.bind_some, F.jl]
        dsimp only
        rw [cn, if_pos rfl, cn]
        by_cases h0 : givC a.2.1 a.2.2 c = 0
        · rw [F.jb0 h0]; rfl
        · rw [F.jb h0, if_pos rfl]
          obtain ⟨hi, e1, e2, e3, e4⟩ := JumpLevels.loop F (level := level) (n := (toC a.2.1 a.2.2 c : Int)) (ok := true) c.length 0 0 (by omega)
          rw [show ((0 : Nat) : Int) = 0 from rfl] at e1
          rw [List.drop_zero] at e3 e4
          obtain ⟨k, rfl⟩ := Int.eq_ofNat_of_zero_le (show 0 ≤ level by omega)
          have hk : k ≤ a.2.2.length := by omega
          have hu := undC_ok F.a (k := (k : Int)) ⟨by omega, by omega⟩
          rw [Int.toNat_natCast] at hu
          have hU := F.a.undone hk
          have hkl := keep_le F.a k
          have s1 : stateC a.1 (a.2.1.take (keep a.2.1 a.2.2 k)) (a.2.2.take k) c = ((stC (a.2.1.take (keep a.2.1 a.2.2 k)) c).1, (stC (a.2.1.take (keep a.2.1 a.2.2 k)) c).2, 0) := by unfold stateC; rw [if_pos hU, if_pos F.c]
          rcases F.spec with ⟨q, _⟩ | ⟨q1, q2, q3⟩
          · exact absurd q h0
          · have hhi : hi = lvl a.2.1 a.2.2 (givC a.2.1 a.2.2 c) := by
              have b1 := e3 _ q1
              rcases e4 with e4 | ⟨l, hl, e4⟩
              · omega
              · by_cases he : l = givC a.2.1 a.2.2 c
                · rw [← he]; exact e4.symm
                · have := q3 l hl he; omega
            rw [e1, spiritlevellaw18_JumpLevels.l0_eq, cd, if_neg (by omega), assign_Undo_eq (by omega) (by omega) a2, Option.bind_some, hu]
            dsimp only
            rw [unit_State_eq (by rw [List.length_take]; omega) (by rw [List.length_take]; omega) (fun l hl => a2 l (List.mem_of_mem_take hl)) (by omega) hc.2, Option.bind_some, s1]
            dsimp only
            rw [cn, if_pos rfl, cn, if_pos rfl, cd]
            by_cases c1 : (k : Int) ≥ hi
            · have hz : (stC (a.2.1.take (keep a.2.1 a.2.2 k)) c).1 = 0 := stC_none fun l hl => by
                have := e3 l hl
                rw [isS_undone F hl hk, if_pos (by omega)]
              rw [if_pos c1, hz, cn, if_pos rfl, ct, cd, if_pos c1]
            · rw [if_neg c1, ct, cd, if_neg c1, cd]
              by_cases c2 : (k : Int) ≥ (toC a.2.1 a.2.2 c : Int)
              · have := F.unit h0 hk (by omega) (by omega)
                rw [if_pos c2, this]; rfl
              · rw [if_neg c2]
                have h2 : 2 ≤ cntGE (lvl a.2.1 a.2.2) c (toC a.2.1 a.2.2 c : Int) := by
                  rcases F.two with w | w
                  · omega
                  · exact w
                obtain ⟨y, y1, y2, y3⟩ := cnt_ex F.c.nodup h2 (givC a.2.1 a.2.2 c)
                have n3 : (stC (a.2.1.take (keep a.2.1 a.2.2 k)) c).1 ≠ 3 := fun h3 => by
                  obtain ⟨z1, z2, z3⟩ := stC_three h3
                  have w1 : isS (a.2.1.take (keep a.2.1 a.2.2 k)) y = 2 := by rw [isS_undone F y1 hk, if_neg (by omega)]
                  have w2 : isS (a.2.1.take (keep a.2.1 a.2.2 k)) (givC a.2.1 a.2.2 c) = 2 := by rw [isS_undone F q1 hk, if_neg (by omega)]
                  by_cases e5 : y = (stC (a.2.1.take (keep a.2.1 a.2.2 k)) c).2
                  · have := z3 _ q1 (fun e6 => y2 (e5.trans e6.symm)); omega
                  · have := z3 _ y1 e5; omega
                have n1 : ¬ (c.length : Int) = 1 := fun e => by
                  have e' : c.length = 1 := by omega
                  obtain ⟨z, rfl⟩ := List.length_eq_one_iff.1 e'
                  rw [List.mem_singleton] at y1 q1
                  exact y2 (y1.trans q1.symm)
                rw [beq_false_of_ne n3, beq_false_of_ne n1]; rfl
  · rfl

/-! ### JumpSecond -/

theorem JumpSecond.loop {v : Int} {t s c : List Int} (F : Fals v t s c) {n e f : Int} (hn : in64 n) : ∀ (m i x y : Nat), i + m = c.length → x ≤ i → y ≤ i →
    spiritlevellaw18_JumpSecond.l0 c true n e f (x : Int) (y : Int) (i : Int) v t s = spiritlevellaw18_JumpSecond.l0 c true n e f ((x + cntGE (lvl t s) (c.drop i) n : Nat) : Int) ((y + cntGE (lvl t s) (c.drop i) (n + 1) : Nat) : Int) (c.length : Int) v t s
  | 0, i, x, y, h, hx, hy => by
    have : i = c.length := by omega
    subst this
    rw [List.drop_of_length_le (Nat.le_refl _)]; rfl
  | m + 1, i, x, y, h, hx, hy => by
    have hlt : i < c.length := by omega
    have hmem := List.getElem_mem hlt
    have hsh := F.a.short
    have hv := F.a.vars
    have hcs := F.c.short F.a.vars
    have hw : IntKind.wrap .i64 ((i : Int) + 1) = ((i + 1 : Nat) : Int) := by rw [wr] <;> omega
    have hwx : IntKind.wrap .i64 ((x : Int) + 1) = ((x + 1 : Nat) : Int) := by rw [wr] <;> omega
    have hwy : IntKind.wrap .i64 ((y : Int) + 1) = ((y + 1 : Nat) : Int) := by rw [wr] <;> omega
    have fc : ∀ k : Int, cntGE (lvl t s) (c.drop i) k = (if k ≤ lvl t s c[i] then 1 else 0) + cntGE (lvl t s) (c.drop (i + 1)) k := fun k => by
      rw [drop_cons hlt]
      unfold cntGE
      rw [List.filter_cons]
      by_cases hc : k ≤ lvl t s c[i]
      · rw [if_pos (decide_eq_true hc), if_pos hc, List.length_cons]; omega
      · rw [if_neg (by simpa using hc), if_neg hc]; omega
    rw [spiritlevellaw18_JumpSecond.l0_eq, cd, if_pos (by omega), gsome hlt, Option.bind_some, assign_Level_eq (by omega) (by omega) F.in64.1 (F.in64.2 _ hmem), Option.bind_some, F.lev hmem]
    dsimp only
    rw [cn, if_pos rfl, cd, cd, cd, hw, hwx, hwy, fc n, fc (n + 1)]
    by_cases c1 : lvl t s c[i] ≥ n
    · by_cases c2 : lvl t s c[i] > n
      · rw [if_pos c1, if_pos c2, JumpSecond.loop F hn m (i + 1) (x + 1) (y + 1) (by omega) (by omega) (by omega), if_pos c1, if_pos (by omega), Nat.add_assoc, Nat.add_assoc]
      · rw [if_pos c1, if_neg c2, JumpSecond.loop F hn m (i + 1) (x + 1) y (by omega) (by omega) (by omega), if_pos c1, if_neg (by omega), Nat.add_assoc, Nat.zero_add]
    · rw [if_neg c1, if_neg (by omega), JumpSecond.loop F hn m (i + 1) x y (by omega) (by omega) (by omega), if_neg (by omega), if_neg (by omega), Nat.zero_add, Nat.zero_add]

theorem JumpSecond_pure (a : Int × List Int × List Int) (c : List Int) (ha : okD TA a) (hc : okD TL c) : spiritlevellaw18_JumpSecond a.1 a.2.1 a.2.2 c = some true := by
  obtain ⟨a0, ⟨a1, a2⟩, a3, a4⟩ := okTA ha
  have hc := okTL hc
  rw [spiritlevellaw18_JumpSecond.eq, alive18_eq, Option.bind_some, fit18_eq a1 a3, Option.bind_some, cnot, cd]
  split
  · rename_i g
    obtain ⟨g1, g2, g3⟩ := g
    have F := askC_zero g3
    have hto := F.to
    rw [cnot, ct, jump_Level_eq (by omega) (by omega) a2 (by omega) hc.2, Option.bind_some, jump_Back_eq (by omega) (by omega) a2 (by omega) hc.2, Option.bind_some, F.jl]
    have e1 := JumpSecond.loop F (n := (toC a.2.1 a.2.2 c : Int)) (e := 0) (f := (jbackC a.1 a.2.1 a.2.2 c).2) (by unfold in64; omega) c.length 0 0 0 (by omega) (Nat.le_refl _) (Nat.le_refl _)
    rw [show ((0 : Nat) : Int) = 0 from rfl, List.drop_zero, Nat.zero_add, Nat.zero_add] at e1
    dsimp only
    rw [e1, spiritlevellaw18_JumpSecond.l0_eq, cd, if_neg (by omega), ct, ce, if_pos rfl, cd, if_pos (by omega), cd, if_pos (by omega), ce]
    have one := F.one
    have hlast : ((jbackC a.1 a.2.1 a.2.2 c).2 == 0) = ((cntGE (lvl a.2.1 a.2.2) c ((toC a.2.1 a.2.2 c : Int) + 1) : Int) == 1) := by
      by_cases h0 : givC a.2.1 a.2.2 c = 0
      · rw [F.jb0 h0]
        rcases F.spec with ⟨_, q⟩ | ⟨q, _⟩
        · have : cntGE (lvl a.2.1 a.2.2) c ((toC a.2.1 a.2.2 c : Int) + 1) = 0 := by
            unfold cntGE
            rw [List.length_eq_zero_iff, List.filter_eq_nil_iff]
            intro l hl hd
            have h1 := q l hl
            have h2 := of_decide_eq_true hd
            omega
          rw [this]; rfl
        · exact absurd h0 (F.ne _ q)
      · rw [F.jb h0]
        rcases F.spec with ⟨q, _⟩ | ⟨q1, q2, _⟩
        · exact absurd q h0
        · have : 0 < cntGE (lvl a.2.1 a.2.2) c ((toC a.2.1 a.2.2 c : Int) + 1) := by
            unfold cntGE
            exact List.length_pos_of_mem (List.mem_filter.2 ⟨q1, decide_eq_true (by omega)⟩)
          have : cntGE (lvl a.2.1 a.2.2) c ((toC a.2.1 a.2.2 c : Int) + 1) = 1 := by
            have := one
            omega
          rw [this]; rfl
    by_cases hz : (toC a.2.1 a.2.2 c : Int) = 0
    · rw [if_pos hz, cd, if_pos (by have := one; omega), hlast, beq_self_eq_true]
    · rw [if_neg hz, cd, if_pos (by
        rcases F.two with w | w
        · omega
        · omega), cd, if_pos (by have := one; omega), hlast, beq_self_eq_true]
  · rfl

end Go.Proofs.Ytdojdblncegjcaa
