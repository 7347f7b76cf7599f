/- Going back, of plain values: JumpDecisions. -/
import Derived.Test.YtdojdblncegjcaaPJ2
namespace Go.Proofs.Ytdojdblncegjcaa
open Go Go.Proofs.Ytdojdblncegjcaa.R
set_option linter.unusedVariables false

/-- The negation of a decision. -/
def dl (t s : List Int) (j : Nat) : Int := neg (t.getD (s.getD j 0).toNat 0)

/-- The level of the last one of some decisions. -/
def top (J : List Nat) : Int := match J.getLast? with | none => 0 | some k => (k : Int) + 1

def lastD (t s : List Int) (J : List Nat) : Int := match J.getLast? with | none => 0 | some k => dl t s k

theorem top_app {J : List Nat} {k : Nat} : top (J ++ [k]) = (k : Int) + 1 := by unfold top; rw [List.getLast?_append]; simp
theorem lastD_app {t s : List Int} {J : List Nat} {k : Nat} : lastD t s (J ++ [k]) = dl t s k := by unfold lastD; rw [List.getLast?_append]; simp

section
variable {v : Int} {t s : List Int}

theorem dec_at (h : okA v t s) {j : Nat} (hj : j < s.length) : ∃ i : Nat, ∃ hi : i < t.length, s[j] = (i : Int) ∧ dl t s j = neg t[i] := by
  have hb := h.bnd _ (List.getElem_mem hj)
  refine ⟨s[j].toNat, by omega, by omega, ?_⟩
  unfold dl
  rw [List.getD_eq_getElem?_getD, List.getD_eq_getElem?_getD, List.getElem?_eq_getElem hj]
  simp only [Option.getD_some]
  rw [List.getElem?_eq_getElem (by omega)]; rfl

theorem dl_lit (h : okA v t s) {j : Nat} (hj : j < s.length) : isLit v (dl t s j) ∧ isS t (dl t s j) = 0 := by
  obtain ⟨i, hi, _, he⟩ := dec_at h hj
  have hm := List.getElem_mem hi
  rw [he]
  exact ⟨neg_lit (h.lits _ hm), (isS_false h.dis).2 (by rw [neg_neg]; exact hm)⟩

theorem dl_lvl (h : okA v t s) {j : Nat} (hj : j < s.length) : lvl t s (dl t s j) = (j : Int) + 1 := by
  obtain ⟨i, hi, hs, he⟩ := dec_at h hj
  have hx : idxC (dl t s j) 0 t = (i : Int) := by rw [he, idxC_neg, idxC_at i hi h.dis]; omega
  unfold lvl
  rw [hx]
  have c1 := (cntLE_lt (i := (i : Int)) h.inc j hj).1 (by omega)
  have c2 : cntLE s (i : Int) ≤ s.length := cntLE_le
  by_cases hlt : j + 1 < s.length
  · have h3 := List.pairwise_iff_getElem.1 h.inc j (j + 1) hj hlt (by omega)
    have c3 : ¬ j + 1 < cntLE s (i : Int) := fun q => by
      have := (cntLE_lt (i := (i : Int)) h.inc (j + 1) hlt).2 q
      omega
    omega
  · omega

theorem dl_inj (h : okA v t s) {j k : Nat} (hj : j < s.length) (hk : k < s.length) (he : dl t s j / 2 = dl t s k / 2) : j = k := by
  obtain ⟨i, hi, h1, e1⟩ := dec_at h hj
  obtain ⟨i', hi', h2, e2⟩ := dec_at h hk
  rw [e1, e2, neg_div, neg_div] at he
  have hii : i = i' := by
    apply Classical.byContradiction
    intro hne
    rcases Nat.lt_or_ge i i' with h3 | h3
    · exact List.pairwise_iff_getElem.1 h.dis i i' hi hi' h3 he
    · exact List.pairwise_iff_getElem.1 h.dis i' i hi' hi (by omega) he.symm
  apply Classical.byContradiction
  intro hne
  rcases Nat.lt_or_ge j k with h3 | h3
  · have := List.pairwise_iff_getElem.1 h.inc j k hj hk h3; omega
  · have := List.pairwise_iff_getElem.1 h.inc k j hk hj (by omega); omega

theorem JumpDecisions.loop (h : okA v t s) {w : List Bool} (hw : s.length ≤ w.length) : ∀ (n i : Nat) {J : List Nat}, i + n = s.length → J.Pairwise (· < ·) → (∀ k ∈ J, k < i) → J.length ≤ i →
    ∃ J', spiritlevellaw18_JumpDecisions.l0 w true (lastD t s J) (top J) (top J.dropLast) (i : Int) v t s (J.map (dl t s)) =
      spiritlevellaw18_JumpDecisions.l0 w true (lastD t s J') (top J') (top J'.dropLast) (s.length : Int) v t s (J'.map (dl t s)) ∧ J'.Pairwise (· < ·) ∧ (∀ k ∈ J', k < s.length) ∧ J'.length ≤ s.length
  | 0, i, J, hi, hJ, hb, hl => by
    have : i = s.length := by omega
    subst this
    exact ⟨J, rfl, hJ, hb, hl⟩
  | n + 1, i, J, hi, hJ, hb, hl => by
    have hlt : i < s.length := by omega
    have hltw : i < w.length := by omega
    have hv := h.vars
    have hsh := h.short
    have hsuc : IntKind.wrap .i64 ((i : Int) + 1) = ((i + 1 : Nat) : Int) := by rw [wr] <;> omega
    obtain ⟨j, hj, h1, e1⟩ := dec_at h hlt
    have hlit := h.lits _ (List.getElem_mem hj)
    rw [spiritlevellaw18_JumpDecisions.l0_eq, cd, if_pos (by omega), gsome hltw, Option.bind_some, gsome hlt, Option.bind_some, h1, gsome hj, Option.bind_some, ref13_Not_eq (by omega), Option.bind_some, app_ok (by simp; omega), Option.bind_some, hsuc]
    cases hwi : w[i] with
    | false =>
      rw [cf]
      exact JumpDecisions.loop h hw n (i + 1) (by omega) hJ (fun k hk => by have := hb k hk; omega) (by omega)
    | true =>
      rw [ct]
      have g := JumpDecisions.loop h hw n (i + 1) (J := J ++ [i]) (by omega) (by
        rw [List.pairwise_append]
        refine ⟨hJ, by simp, fun a ha b hb' => ?_⟩
        rw [List.mem_singleton] at hb'
        subst hb'
        exact hb a ha) (fun k hk => by
        rcases List.mem_append.1 hk with hk | hk
        · have := hb k hk; omega
        · rw [List.mem_singleton] at hk; omega) (by simp; omega)
      rw [lastD_app, top_app, List.dropLast_concat, List.map_append, List.map_singleton, e1] at g
      rw [show ((i + 1 : Nat) : Int) = (i : Int) + 1 from by omega] at g ⊢
      exact g

theorem pair_cnt {f : Int → Int} {c : List Int} {k x y : Int} (hx : x ∈ c) (hy : y ∈ c) (hne : x ≠ y) (h1 : k ≤ f x) (h2 : k ≤ f y) : 2 ≤ cntGE f c k := by
  apply Classical.byContradiction
  intro h
  exact hne (cnt_one (by omega) hx hy h1 h2)

/-- The clause of negated decisions: where it goes back, and with what. -/
theorem dec_back (h : okA v t s) {J : List Nat} (hJ : J.Pairwise (· < ·)) (hb : ∀ k ∈ J, k < s.length) {S : List Int} (hS : S.Pairwise (· < ·)) (hm : ∀ y, y ∈ S ↔ y ∈ J.map (dl t s)) :
    Fals v t s S ∧ (J = [] → S = []) ∧ (J ≠ [] → S ≠ [] ∧ (toC t s S : Int) = top J.dropLast ∧ givC t s S = lastD t s J) := by
  have mem : ∀ {y}, y ∈ S → ∃ k, k ∈ J ∧ y = dl t s k := fun {y} hy => by
    obtain ⟨k, hk, e⟩ := List.mem_map.1 ((hm y).1 hy)
    exact ⟨k, hk, e.symm⟩
  have F : Fals v t s S := by
    refine ⟨h, ⟨fun l hl => ?_, ?_⟩, fun l hl => ?_⟩
    · obtain ⟨k, hk, rfl⟩ := mem hl
      exact (dl_lit h (hb k hk)).1
    · refine List.Pairwise.imp_of_mem (fun {a b} ha hb' hab => ?_) hS
      obtain ⟨j, hj, rfl⟩ := mem ha
      obtain ⟨k, hk, rfl⟩ := mem hb'
      apply Classical.byContradiction
      intro hn
      have : dl t s j / 2 = dl t s k / 2 := by omega
      have := dl_inj h (hb j hj) (hb k hk) this
      subst this
      omega
    · obtain ⟨k, hk, rfl⟩ := mem hl
      exact (dl_lit h (hb k hk)).2
  refine ⟨F, fun e => ?_, fun hne => ?_⟩
  · subst e
    cases S with
    | nil => rfl
    | cons a r => have := (hm a).1 (List.mem_cons_self ..); simp at this
  · rcases List.eq_nil_or_concat J with rfl | ⟨J', j, rfl⟩
    · exact absurd rfl hne
    · rw [List.concat_eq_append] at hJ hb hm mem hne ⊢
      rw [List.dropLast_concat, lastD_app]
      have hj : j < s.length := hb j (by simp)
      have hxS : dl t s j ∈ S := (hm _).2 (List.mem_map.2 ⟨j, by simp, rfl⟩)
      have hfx := dl_lvl h hj
      rw [List.pairwise_append] at hJ
      have hlow : ∀ k ∈ J', k < j := fun k hk => hJ.2.2 k hk j (by simp)
      have oth : ∀ y ∈ S, y ≠ dl t s j → ∃ k ∈ J', y = dl t s k := fun y hy hny => by
        obtain ⟨k, hk, rfl⟩ := mem hy
        rcases List.mem_append.1 hk with hk | hk
        · exact ⟨k, hk, rfl⟩
        · rw [List.mem_singleton] at hk; subst hk; exact absurd rfl hny
      have htop0 : 0 ≤ top J' ∧ top J' ≤ j ∧ ∀ k ∈ J', (k : Int) + 1 ≤ top J' := by
        rcases List.eq_nil_or_concat J' with rfl | ⟨J2, k2, rfl⟩
        · exact ⟨Int.le_refl _, by simp [top], by simp⟩
        · rw [List.concat_eq_append] at hJ hlow ⊢
          rw [top_app]
          have hJ1 := hJ.1
          rw [List.pairwise_append] at hJ1
          have := hlow k2 (by simp)
          refine ⟨by omega, by omega, fun k hk => ?_⟩
          rcases List.mem_append.1 hk with hk | hk
          · have := hJ1.2.2 k hk k2 (by simp); omega
          · rw [List.mem_singleton] at hk; omega
      have hto : (toC t s S : Int) = top J' := by
        apply Int.le_antisymm
        · apply Classical.byContradiction
          intro hgt
          rcases F.two with w | w
          · omega
          · obtain ⟨y, y1, y2, y3⟩ := cnt_ex F.c.nodup w (dl t s j)
            obtain ⟨k, hk, rfl⟩ := oth y y1 y2
            rw [dl_lvl h (hb k (by simp [hk]))] at y3
            have := htop0.2.2 k hk
            omega
        · rcases List.eq_nil_or_concat J' with rfl | ⟨J2, k2, rfl⟩
          · simp [top]
          · rw [List.concat_eq_append] at hJ hlow hb hm ⊢
            rw [top_app]
            have hk2 : k2 < s.length := hb k2 (by simp)
            have hyS : dl t s k2 ∈ S := (hm _).2 (List.mem_map.2 ⟨k2, by simp, rfl⟩)
            have hfy := dl_lvl h hk2
            have hlt := hlow k2 (by simp)
            have hxy : dl t s j ≠ dl t s k2 := fun e => by
              have := dl_inj h hj hk2 (by rw [e])
              omega
            apply Classical.byContradiction
            intro hgt
            have h2 := pair_cnt (f := lvl t s) (k := (toC t s S : Int) + 1) hxS hyS hxy (by omega) (by omega)
            have := F.one
            omega
      refine ⟨(fun e => by rw [e] at hxS; cases hxS), hto, ?_⟩
      rcases F.spec with ⟨_, q⟩ | ⟨q1, q2, q3⟩
      · have := q _ hxS
        have := htop0.2.1
        omega
      · apply Classical.byContradiction
        intro hne2
        have := q3 _ hxS (fun e => hne2 e.symm)
        have := htop0.2.1
        omega
end

theorem JumpDecisions_pure (a : Int × List Int × List Int) (w : List Bool) (ha : okD TA a) (hw : okD (.list .bool) w) : spiritlevellaw18_JumpDecisions a.1 a.2.1 a.2.2 w = some true := by
  obtain ⟨a0, ⟨a1, a2⟩, a3, a4⟩ := okTA ha
  rw [spiritlevellaw18_JumpDecisions.eq, alive18_eq, Option.bind_some, ref14_Great_eq, Option.bind_some, cd]
  split
  · rfl
  · rename_i g
    rw [ref14_Check_eq a1 a3, Option.bind_some, cn]
    by_cases hA : okA a.1 a.2.1 a.2.2
    · rw [if_pos hA, if_pos rfl, cd]
      by_cases hl : (w.length : Int) < (a.2.2.length : Int)
      · rw [if_pos hl]
      · rw [if_neg hl, cnot, ct]
        obtain ⟨J, e1, j1, j2, j3⟩ := JumpDecisions.loop hA (w := w) (by omega) a.2.2.length 0 (J := []) (by omega) List.Pairwise.nil (by simp) (by simp)
        have e1' : spiritlevellaw18_JumpDecisions.l0 w true 0 0 0 0 a.1 a.2.1 a.2.2 [] = _ := e1
        obtain ⟨S, s1, s2, s3, s4⟩ := ref13_Sorted_ok (l := J.map (dl a.2.1 a.2.2)) (by rw [List.length_map]; omega)
        obtain ⟨F, d1, d2⟩ := dec_back hA j1 j2 s2 s3
        have hSl := F.c.short hA.vars
        have hv := hA.vars
        rw [e1', spiritlevellaw18_JumpDecisions.l0_eq, cd, if_neg (by omega), s1, Option.bind_some, jump_Back_eq (by omega) (by omega) a2 (by omega) F.in64.2, Option.bind_some, jump_Level_eq (by omega) (by omega) a2 (by omega) F.in64.2, Option.bind_some, F.jl, ce]
        by_cases hJ : J = []
        · have hS := d1 hJ
          subst hS
          rw [if_pos (by simp), ct, F.jb0 (by rfl)]
          rfl
        · obtain ⟨q1, q2, q3⟩ := d2 hJ
          have hne : givC a.2.1 a.2.2 S ≠ 0 := fun e => by
            rcases F.spec with ⟨_, q⟩ | ⟨q, _⟩
            · obtain ⟨J', j, rfl⟩ : ∃ J' j, J = J' ++ [j] := by
                rcases List.eq_nil_or_concat J with h' | ⟨J', j, h'⟩
                · exact absurd h' hJ
                · exact ⟨J', j, by rw [h', List.concat_eq_append]⟩
              rw [lastD_app, e] at q3
              have := (dl_lit hA (j2 j (by simp))).1
              omega
            · exact F.ne _ q e
          have hSn : ¬ (S.length : Int) = 0 := fun e => q1 (List.eq_nil_of_length_eq_zero (by omega))
          have hkl := keep_le hA (toC a.2.1 a.2.2 S)
          have htl : (a.2.1.take (keep a.2.1 a.2.2 (toC a.2.1 a.2.2 S))).length ≤ 200 := by rw [List.length_take]; omega
          rw [if_neg hSn, ct, F.jb hne]
          dsimp only
          rw [ce, if_pos rfl, ce, if_pos rfl, ce, if_pos q2, cd, if_pos (by simp only [List.length_append, List.length_singleton]; omega), last_app (by omega), get_last.1, Option.bind_some, Int.toNat_natCast, get_last.2, Option.bind_some, q3, beq_self_eq_true]
    · rw [if_neg hA, if_neg (by omega)]

end Go.Proofs.Ytdojdblncegjcaa
