/- Assignments, of plain values: AssignLevels, AssignBack, AssignNames. -/
import Derived.Test.YthgnjgnmkobboaaPA2
namespace Go.Proofs.Ythgnjgnmkobboaa
open Go Go.Proofs.Ythgnjgnmkobboaa.R
set_option linter.unusedVariables false

theorem okA.dec {v : Int} {t s : List Int} (h : okA v t s) {x : Int} (hx : isLit v x) (hf : isS t x = 2) : okA v (t ++ [x]) (s ++ [(t.length : Int)]) := by
  have h3 := h.push hx hf
  refine { h3 with inc := ?_, bnd := fun y hy => ?_ }
  · rw [List.pairwise_append]
    refine ⟨h.inc, by simp, fun x hx y hy => ?_⟩
    rw [List.mem_singleton.1 hy]
    exact (h.bnd x hx).2
  · rw [List.length_append, List.length_singleton]
    rcases List.mem_append.1 hy with hy | hy
    · have := h.bnd y hy; omega
    · rw [List.mem_singleton.1 hy]; omega

theorem putC_cases (v : Int) (t s : List Int) (l : Int) (d : Bool) : (putC v t s l d).2 ≠ 0 ∨ (putC v t s l d = ((v, (t ++ [l], if d then s ++ [(t.length : Int)] else s)), 0) ∧ isLit v l ∧ isS t l = 2) := by
  unfold putC
  by_cases h : okA v t s
  · by_cases h2 : isLit v l
    · by_cases h3 : isS t l = 2
      · rw [if_pos h, if_pos h2, if_pos h3]; exact .inr ⟨rfl, h2, h3⟩
      · rw [if_pos h, if_pos h2, if_neg h3]; exact .inl (by decide)
    · rw [if_pos h, if_neg h2]; exact .inl (by decide)
  · rw [if_neg h]; exact .inl (by decide)

theorem putC_err (v : Int) (t s : List Int) (l : Int) : (putC v t s l true).2 = (putC v t s l false).2 := by
  unfold putC
  split
  · split
    · split <;> rfl
    · rfl
  · rfl

theorem cntLE_step : ∀ {s : List Int} {i : Int}, s.Pairwise (· < ·) → cntLE s i = cntLE s (i - 1) + if i ∈ s then 1 else 0
  | [], i, _ => by simp [cntLE]
  | a :: r, i, hs => by
    rw [List.pairwise_cons] at hs
    have ih := cntLE_step (i := i) hs.2
    unfold cntLE at ih ⊢
    rw [List.filter_cons, List.filter_cons]
    by_cases h1 : a ≤ i - 1
    · rw [if_pos (decide_eq_true (show a ≤ i by omega)), if_pos (decide_eq_true h1), List.length_cons, List.length_cons, ih]
      have : (i ∈ a :: r) ↔ i ∈ r := by
        rw [List.mem_cons]
        exact ⟨fun h => h.resolve_left (by omega), .inr⟩
      simp only [this]
      omega
    · have h0 : ∀ j : Int, j ≤ i → r.filter (fun x => decide (x ≤ j)) = [] := fun j hj => by
        rw [List.filter_eq_nil_iff]
        intro x hx hxi
        have := hs.1 x hx
        have := of_decide_eq_true hxi
        omega
      rw [if_neg (show ¬ decide (a ≤ i - 1) = true by simpa using h1), h0 i (by omega), h0 (i - 1) (by omega)]
      by_cases h2 : a = i
      · subst h2
        rw [if_pos (decide_eq_true (Int.le_refl _)), if_pos (List.mem_cons_self ..)]; rfl
      · rw [if_neg (by simp; omega), if_neg]
        · rfl
        · intro hm
          rcases List.mem_cons.1 hm with h | h
          · exact h2 h.symm
          · have := hs.1 i h; omega

theorem idxC_at : ∀ {t : List Int} {k : Int} (i : Nat) (hi : i < t.length), t.Pairwise (fun a b => a / 2 ≠ b / 2) → idxC t[i] k t = k + i
  | a :: r, k, 0, hi, _ => by simp [idxC]
  | a :: r, k, i + 1, hi, hd => by
    rw [List.pairwise_cons] at hd
    have hlt : i < r.length := by simpa using hi
    have := hd.1 _ (List.getElem_mem hlt)
    simp only [List.getElem_cons_succ, idxC]
    rw [if_neg this, idxC_at i hlt hd.2]
    omega

theorem cntLE_all {s : List Int} {n : Int} (h : ∀ x ∈ s, x ≤ n) : cntLE s n = s.length := by
  unfold cntLE
  rw [List.filter_eq_self.2 fun x hx => decide_eq_true (h x hx)]

theorem levC_at {v : Int} {t s : List Int} (h : okA v t s) (i : Nat) (hi : i < t.length) : levC v t s t[i] = ((cntLE s (i : Int) : Int), 0) := by
  unfold levC
  rw [if_pos h, if_pos (h.lits _ (List.getElem_mem hi)), idxC_at i hi h.dis, if_neg (by omega), Int.zero_add]

theorem levC_last {v : Int} {t s : List Int} {l : Int} (h : okA v (t ++ [l]) s) : levC v (t ++ [l]) s l = ((s.length : Int), 0) := by
  have hi : t.length < (t ++ [l]).length := by simp
  have := levC_at h t.length hi
  rw [List.getElem_append_right (by omega)] at this
  simp only [Nat.sub_self, List.getElem_singleton] at this
  rw [this, cntLE_all]
  intro x hx
  have := h.bnd x hx
  rw [List.length_append, List.length_singleton] at this
  omega

theorem AssignLevels.loop {v : Int} {t s : List Int} (h : okA v t s) (ht : t.length ≤ 200 ∧ s.length ≤ 200) {lit : Int} (hl : in64 lit) : ∀ (m i : Nat), i + m = t.length → spiritlevellaw14_AssignLevels.l0 lit true (cntLE s ((i : Int) - 1) : Int) (i : Int) v t s = some true
  | 0, i, hi => by
    have hv := h.vars
    have htr : ∀ l ∈ t, in64 l := fun l hl => lit64 hv (h.lits l hl)
    have hcnt : cntLE s ((i : Int) - 1) = s.length := cntLE_all fun x hx => by have := h.bnd x hx; omega
    rw [spiritlevellaw14_AssignLevels.l0_eq, cd, if_neg (by omega), assign_Decide_eq (by omega) (by omega) htr hl, Option.bind_some, assign_Imply_eq (by omega) (by omega) htr hl, Option.bind_some, putC_err, bne_self_eq_false, cf, hcnt, bne_self_eq_false, cf, cn]
    rcases putC_cases v t s lit true with hc | ⟨hc, h1, h2⟩
    · rw [if_neg (by rw [← putC_err]; exact hc)]
    · have hc' : putC v t s lit false = ((v, (t ++ [lit], s)), 0) := by
        rcases putC_cases v t s lit false with q | ⟨q, _, _⟩
        · rw [← putC_err, hc] at q; exact absurd rfl q
        · exact q
      have hokb := h.dec h1 h2
      have hokc := h.push h1 h2
      have e1 : assign_Level v (t ++ [lit]) (s ++ [(t.length : Int)]) lit = some ((((s ++ [(t.length : Int)]).length : Nat) : Int), 0) := by
        rw [assign_Level_eq (by simp; omega) (by simp; omega) (fun l hl => lit64 hv (hokb.lits l hl)) hl, levC_last hokb]
      have e2 : assign_Level v (t ++ [lit]) s lit = some ((s.length : Int), 0) := by
        rw [assign_Level_eq (by simp; omega) (by omega) (fun l hl => lit64 hv (hokc.lits l hl)) hl, levC_last hokc]
      have hw : IntKind.wrap .i64 ((s.length : Int) + 1) = ((s.length + 1 : Nat) : Int) := by rw [wr] <;> omega
      rw [hc, hc', if_pos rfl]
      show (assign_Level v (t ++ [lit]) (s ++ [(t.length : Int)]) lit).bind _ = _
      rw [e1, Option.bind_some]
      show (assign_Level v (t ++ [lit]) s lit).bind _ = _
      rw [e2, Option.bind_some, hw]
      simp
  | m + 1, i, hi => by
    have hv := h.vars
    have hlt : i < t.length := by omega
    have htr : ∀ l ∈ t, in64 l := fun l hl => lit64 hv (h.lits l hl)
    have hw2 : IntKind.wrap .i64 ((i : Int) + 1) = ((i + 1 : Nat) : Int) := by rw [wr] <;> omega
    have hcl := cntLE_le (s := s) (i := (i : Int) - 1)
    have hw3 : IntKind.wrap .i64 ((cntLE s ((i : Int) - 1) : Int) + 1) = ((cntLE s ((i : Int) - 1) + 1 : Nat) : Int) := by rw [wr] <;> omega
    have hst := cntLE_step (i := (i : Int)) h.inc
    have ih := AssignLevels.loop h ht hl m (i + 1) (by omega)
    rw [show (((i + 1 : Nat) : Int) - 1) = (i : Int) by omega] at ih
    rw [spiritlevellaw14_AssignLevels.l0_eq, cd, if_pos (by omega), gsome hlt, Option.bind_some, assign_Level_eq (by omega) (by omega) htr (htr _ (List.getElem_mem hlt)), Option.bind_some, levC_at h i hlt, ref13_Has_eq (by omega), Option.bind_some, cd, hw2]
    simp only [cn, if_true]
    by_cases hm : (i : Int) ∈ s
    · rw [if_pos hm, hw3]
      rw [if_pos hm] at hst
      rw [← hst, if_pos rfl]
      exact ih
    · rw [if_neg hm]
      rw [if_neg hm, Nat.add_zero] at hst
      rw [← hst, if_pos rfl]
      exact ih

theorem AssignLevels_pure (a : Int × List Int × List Int) (lit : Int) (ha : okD TA a) (hl : okD (.int .i64) lit) : spiritlevellaw14_AssignLevels a.1 a.2.1 a.2.2 lit = some true := by
  obtain ⟨a0, ⟨a1, a2⟩, a3, a4⟩ := okTA ha
  have hl := wf64 hl
  rw [spiritlevellaw14_AssignLevels.eq, alive14_eq, Option.bind_some, ref14_Great_eq, Option.bind_some, cd]
  split
  · rfl
  · rename_i hg
    rw [ref14_Check_eq a1 a3, Option.bind_some, cn]
    by_cases hok : okA a.1 a.2.1 a.2.2
    · have h0 : cntLE a.2.2 (((0 : Nat) : Int) - 1) = 0 := by
        unfold cntLE
        rw [List.filter_eq_nil_iff.2]
        · rfl
        · intro x hx hxi
          have := hok.bnd x hx
          have := of_decide_eq_true hxi
          omega
      have hlp := AssignLevels.loop hok (by omega) hl a.2.1.length 0 (by omega)
      rw [h0, show ((0 : Nat) : Int) = 0 from rfl] at hlp
      rw [if_pos hok, if_pos rfl, cnot, ct, hlp]
    · rw [if_neg hok, if_neg (by omega)]

theorem AssignBack.loop {v : Int} {t s : List Int} (h : okA v t s) (ht : t.length ≤ 200 ∧ s.length ≤ 200) {l : List Int} {ds : List Bool} (hl : l.length ≤ 60) (hr : ∀ x ∈ l, in64 x) (hd : l.length ≤ ds.length) :
    ∀ (m i : Nat) (u w : List Int), i + m = l.length → okA v (t ++ u) (s ++ w) → u.length ≤ i → w.length ≤ i → ((u = [] ∧ w = []) ∨ (u ≠ [] ∧ ∃ w', w = (t.length : Int) :: w')) →
      spiritlevellaw14_AssignBack.l0 l ds true (u.length : Int) (i : Int) v t s v (t ++ u) (s ++ w) = some true
  | 0, i, u, w, hi, hok, hu, hw, hc => by
    have hv := hok.vars
    have hlu : ((t ++ u).length : Int) = (t.length : Int) + (u.length : Int) := by rw [List.length_append]; omega
    have hwr : IntKind.wrap .i64 ((t.length : Int) + (u.length : Int)) = (t.length : Int) + (u.length : Int) := by rw [wr] <;> omega
    have hlw : (s ++ w).length = s.length + w.length := List.length_append ..
    rw [spiritlevellaw14_AssignBack.l0_eq, cd, if_neg (by omega), assign_Undo_eq (by simp; omega) (by simp; omega) (fun l hl => lit64 hv (hok.lits l hl)), Option.bind_some, undC_ok hok (by omega), hlu, hwr]
    have hz : ((s.length : Int)).toNat = s.length := by omega
    rw [hz]
    have e1 : (s ++ w).take s.length = s := by simp
    have e2 : (t ++ u).take (keep (t ++ u) (s ++ w) s.length) = t := by
      unfold keep
      rw [List.getElem?_append_right (Nat.le_refl _), Nat.sub_self]
      rcases hc with ⟨rfl, rfl⟩ | ⟨_, w', rfl⟩
      · simp
      · simp
    rw [e1, e2, ct]
    simp only [beq_self_eq_true, ct]
    rw [ref14_Same_eq (by omega) (by omega), Option.bind_some, decide_eq_true ⟨rfl, rfl, rfl⟩, ct]
  | m + 1, i, u, w, hi, hok, hu, hw, hc => by
    have hv := hok.vars
    have hlt : i < l.length := by omega
    have hltd : i < ds.length := by omega
    have htr : ∀ l ∈ t ++ u, in64 l := fun l hl => lit64 hv (hok.lits l hl)
    have hli := hr _ (List.getElem_mem hlt)
    have htl : (t ++ u).length ≤ 400 := by rw [List.length_append]; omega
    have hsl : (s ++ w).length ≤ 400 := by rw [List.length_append]; omega
    have hw2 : IntKind.wrap .i64 ((i : Int) + 1) = ((i + 1 : Nat) : Int) := by rw [wr] <;> omega
    have hw3 : IntKind.wrap .i64 ((u.length : Int) + 1) = (((u ++ [l[i]]).length : Nat) : Int) := by rw [List.length_append, List.length_singleton, wr] <;> omega
    have hw4 : IntKind.wrap .i64 (((t ++ u).length : Int) + 1) = (((t ++ u ++ [l[i]]).length : Nat) : Int) := by rw [List.length_append (bs := [l[i]]), List.length_singleton, wr] <;> omega
    have stay := AssignBack.loop h ht hl hr hd m (i + 1) u w (by omega) hok (by omega) (by omega) hc
    -- what putting does
    have stepD : (fun r5_ : (Int × List Int × List Int) × Int => bif (r5_.2 != (0 : Int)) then (spiritlevellaw14_AssignBack.l0 l ds true (u.length : Int) (IntKind.wrap .i64 ((i : Int) + (1 : Int))) v t s v (t ++ u) (s ++ w)) else (bif ((List.length r5_.1.2.1 : Int) != (IntKind.wrap .i64 ((List.length (t ++ u) : Int) + (1 : Int)))) then (some false) else ((assign_Check r5_.1.1 r5_.1.2.1 r5_.1.2.2).bind fun r6_ => bif (r6_ != (0 : Int)) then (some false) else (spiritlevellaw14_AssignBack.l0 l ds true (IntKind.wrap .i64 ((u.length : Int) + (1 : Int))) (IntKind.wrap .i64 ((i : Int) + (1 : Int))) v t s r5_.1.1 r5_.1.2.1 r5_.1.2.2)))) (putC v (t ++ u) (s ++ w) l[i] true) = some true := by
      simp only [hw2, hw3, hw4]
      rcases putC_cases v (t ++ u) (s ++ w) l[i] true with hp | ⟨hp, h1, h2⟩
      · rw [cn, if_neg hp]; exact stay
      · have hokn := hok.dec h1 h2
        have := AssignBack.loop h ht hl hr hd m (i + 1) (u ++ [l[i]]) (w ++ [((t ++ u).length : Int)]) (by omega) (by rw [← List.append_assoc, ← List.append_assoc]; exact hokn) (by simp; omega) (by simp; omega) (.inr ⟨by simp, by
          rcases hc with ⟨rfl, rfl⟩ | ⟨_, w', rfl⟩
          · exact ⟨[], by simp⟩
          · exact ⟨w' ++ [((t ++ u).length : Int)], rfl⟩⟩)
        rw [← List.append_assoc, ← List.append_assoc] at this
        rw [hp]
        simp only [cn, if_true]
        rw [assign_Check_eq (by simp; omega) (by simp; omega) (fun l hl => lit64 hv (hokn.lits l hl)), Option.bind_some, if_pos hokn, if_pos rfl]
        exact this
    have stepI : u ≠ [] → (fun r5_ : (Int × List Int × List Int) × Int => bif (r5_.2 != (0 : Int)) then (spiritlevellaw14_AssignBack.l0 l ds true (u.length : Int) (IntKind.wrap .i64 ((i : Int) + (1 : Int))) v t s v (t ++ u) (s ++ w)) else (bif ((List.length r5_.1.2.1 : Int) != (IntKind.wrap .i64 ((List.length (t ++ u) : Int) + (1 : Int)))) then (some false) else ((assign_Check r5_.1.1 r5_.1.2.1 r5_.1.2.2).bind fun r6_ => bif (r6_ != (0 : Int)) then (some false) else (spiritlevellaw14_AssignBack.l0 l ds true (IntKind.wrap .i64 ((u.length : Int) + (1 : Int))) (IntKind.wrap .i64 ((i : Int) + (1 : Int))) v t s r5_.1.1 r5_.1.2.1 r5_.1.2.2)))) (putC v (t ++ u) (s ++ w) l[i] false) = some true := by
      intro hne
      simp only [hw2, hw3, hw4]
      rcases putC_cases v (t ++ u) (s ++ w) l[i] false with hp | ⟨hp, h1, h2⟩
      · rw [cn, if_neg hp]; exact stay
      · have hokn := hok.push h1 h2
        have := AssignBack.loop h ht hl hr hd m (i + 1) (u ++ [l[i]]) w (by omega) (by rw [← List.append_assoc]; exact hokn) (by simp; omega) (by omega) (.inr ⟨by simp, by
          rcases hc with ⟨rfl, rfl⟩ | ⟨_, w', rfl⟩
          · exact absurd rfl hne
          · exact ⟨w', rfl⟩⟩)
        rw [← List.append_assoc] at this
        rw [hp]
        simp only [cn, if_true]
        rw [if_neg (by decide : ¬ (false = true)), assign_Check_eq (by simp; omega) (by omega) (fun l hl => lit64 hv (hokn.lits l hl)), Option.bind_some, if_pos hokn, if_pos rfl]
        exact this
    rw [spiritlevellaw14_AssignBack.l0_eq, cd, if_pos (by omega), ce]
    by_cases hu0 : (u.length : Int) = 0
    · rw [if_pos hu0, gsome hlt, Option.bind_some, assign_Decide_eq (by omega) (by omega) htr hli, Option.bind_some]
      exact stepD
    · have hne : u ≠ [] := fun e => hu0 (by rw [e]; rfl)
      rw [if_neg hu0, gsome hltd, Option.bind_some]
      cases ds[i] with
      | true =>
        rw [ct, gsome hlt, Option.bind_some, assign_Decide_eq (by omega) (by omega) htr hli, Option.bind_some]
        exact stepD
      | false =>
        rw [cf, gsome hlt, Option.bind_some, assign_Imply_eq (by omega) (by omega) htr hli, Option.bind_some]
        exact stepI hne

theorem AssignBack_pure (a : Int × List Int × List Int) (l : List Int) (ds : List Bool) (ha : okD TA a) (hl : okD TL l) (hd : okD (.list .bool) ds) : spiritlevellaw14_AssignBack a.1 a.2.1 a.2.2 l ds = some true := by
  obtain ⟨a0, ⟨a1, a2⟩, a3, a4⟩ := okTA ha
  obtain ⟨l1, l2⟩ := okTL hl
  rw [spiritlevellaw14_AssignBack.eq, alive14_eq, Option.bind_some, ref14_Great_eq, Option.bind_some, cd]
  split
  · rfl
  · rename_i hg
    rw [ref14_Check_eq a1 a3, Option.bind_some, cn]
    by_cases hok : okA a.1 a.2.1 a.2.2
    · rw [if_pos hok, if_pos rfl, cd, cd]
      by_cases g1 : (l.length : Int) > 60
      · rw [if_pos g1]
      · rw [if_neg g1]
        by_cases g2 : (ds.length : Int) < (l.length : Int)
        · rw [if_pos g2]
        · have := AssignBack.loop hok (by omega) (l := l) (ds := ds) (by omega) l2 (by omega) l.length 0 [] [] (by omega) (by rw [List.append_nil, List.append_nil]; exact hok) (by simp) (by simp) (.inl ⟨rfl, rfl⟩)
          rw [List.append_nil, List.append_nil] at this
          rw [if_neg g2, cnot, ct]
          exact this
    · rw [if_neg hok, if_neg (by omega)]

end Go.Proofs.Ythgnjgnmkobboaa
