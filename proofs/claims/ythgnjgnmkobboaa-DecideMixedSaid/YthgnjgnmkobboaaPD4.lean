/- Heaps, of plain values: what pushing one after the other gives; DecideTells, DecideNames, DecideFirst. -/
import Derived.Test.YthgnjgnmkobboaaPD3
import Derived.Test.YthgnjgnmkobboaaP5
namespace Go.Proofs.Ythgnjgnmkobboaa
open Go Go.Proofs.Ythgnjgnmkobboaa.R
set_option linter.unusedVariables false

def addH (h : List Int) (x : Int) : List Int := if x ∈ h then h else pushed h x

theorem okH_nil : okH [] := ⟨by simp, by simp, by simp, fun i hi => by simp at hi⟩

theorem mem_pushed {h : List Int} {v y : Int} : y ∈ pushed h v ↔ y ∈ h ∨ y = v := by
  rw [pushed_perm.mem_iff, List.mem_append, List.mem_singleton]

theorem okH.add {h : List Int} (k : okH h) {x : Int} (hx : 1 ≤ x ∧ x ≤ 4000) : okH (addH h x) ∧ ∀ y, y ∈ addH h x ↔ y ∈ h ∨ y = x := by
  unfold addH
  by_cases c : x ∈ h
  · rw [if_pos c]
    exact ⟨k, fun y => ⟨.inl, fun h => h.elim id fun e => e ▸ c⟩⟩
  · rw [if_neg c]
    exact ⟨k.pushed hx c, fun y => mem_pushed⟩

theorem okH.adds : ∀ {l h : List Int}, okH h → (∀ x ∈ l, 1 ≤ x ∧ x ≤ 4000) → okH (l.foldl addH h) ∧ ∀ y, y ∈ l.foldl addH h ↔ y ∈ h ∨ y ∈ l
  | [], h, k, hl => ⟨k, fun y => by simp⟩
  | x :: l, h, k, hl => by
    obtain ⟨k1, m1⟩ := k.add (hl x (List.mem_cons_self ..))
    obtain ⟨k2, m2⟩ := k1.adds (l := l) fun y hy => hl y (List.mem_cons_of_mem _ hy)
    refine ⟨k2, fun y => ?_⟩
    rw [List.foldl_cons, m2, m1, List.mem_cons, or_assoc]

theorem law16_pushed.loop {l : List Int} (hl : l.length ≤ 1000000000) (hr : ∀ x ∈ l, 1 ≤ x ∧ x ≤ 4000) : ∀ (n i : Nat) {o : List Int}, i + n = l.length → okH o → spiritlevellaw16_pushed.l0 l (i : Int) o = some ((l.drop i).foldl addH o, true)
  | 0, i, o, hi, k => by
    rw [spiritlevellaw16_pushed.l0_eq, cd, if_neg (by omega), List.drop_of_length_le (by omega)]; rfl
  | n + 1, i, o, hi, k => by
    have hlt : i < l.length := by omega
    have hx := hr _ (List.getElem_mem hlt)
    have ho := k.len
    rw [spiritlevellaw16_pushed.l0_eq, cd, if_pos (by omega), gsome hlt, Option.bind_some, decide_Push_eq, Option.bind_some, Option.bind_some, suc_w (by omega), drop_cons hlt, List.foldl_cons]
    have ih := law16_pushed.loop hl hr n (i + 1) (by omega) (k.add hx).1
    rw [← ih]
    unfold addH pushC
    rw [if_pos k, if_pos hx]
    by_cases c : l[i] ∈ o
    · rw [if_pos c, if_pos c]
      dsimp only
      rw [ce, if_pos rfl, ref13_Has_eq (by omega), Option.bind_some, decide_eq_true c, ct]
    · rw [if_neg c, if_neg c]
      dsimp only
      rw [ce, if_neg (by omega), cn, if_pos rfl]

theorem law16_pushed_eq {l : List Int} (hl : l.length ≤ 1000000000) (hr : ∀ x ∈ l, 1 ≤ x ∧ x ≤ 4000) : spiritlevellaw16_pushed l = some (l.foldl addH [], true) := by
  have := law16_pushed.loop hl hr l.length 0 (by omega) okH_nil
  rw [show ((0 : Nat) : Int) = 0 from rfl, List.drop_zero] at this
  rw [spiritlevellaw16_pushed.eq, this]

theorem alive16_eq : spiritlevellaw16_alive = some true := by
  have p1 : [5, 3, 8, 1].foldl addH [] = [1, 3, 8, 5] := by decide
  have p2 : popC [1, 3, 8, 5] = (1, [3, 5, 8], 0) := by decide
  have p3 : nextC [1, 3, 8, 5] 9 [3, 11] [] = (3, [5, 8], 0) := by decide
  rw [spiritlevellaw16_alive.eq, law16_pushed_eq (by decide) (by decide), Option.bind_some, p1]
  dsimp only
  rw [decide_Pop_eq, Option.bind_some, p2, decide_Next_eq (by decide) (by decide) (by decide), Option.bind_some, p3, ct, ref13_Same_eq (by decide), Option.bind_some, decide_eq_true rfl, ct, ref13_Same_eq (by decide), Option.bind_some, decide_eq_true rfl, ref13_Same_eq (by decide), Option.bind_some,
    decide_eq_true rfl]
  rfl

abbrev isFew (l : List Int) : Prop := l.length ≤ 80 ∧ ∀ x ∈ l, 1 ≤ x ∧ x ≤ 4000

theorem law16_few.loop {l : List Int} (hl : l.length ≤ 140737488351232) : ∀ (n i : Nat), i + n = l.length → i ≤ 80 → spiritlevellaw16_few.l0 l (i : Int) = some (decide (l.length ≤ 80 ∧ ∀ x ∈ l.drop i, 1 ≤ x ∧ x ≤ 4000))
  | 0, i, hi, h8 => by
    rw [spiritlevellaw16_few.l0_eq, cd, if_neg (by omega), List.drop_of_length_le (by omega)]
    congr 1
    rw [decide_eq_decide]
    simp only [List.not_mem_nil, false_implies, implies_true, and_true]
    omega
  | n + 1, i, hi, h8 => by
    have hlt : i < l.length := by omega
    rw [spiritlevellaw16_few.l0_eq, cd, if_pos (by omega), cd]
    by_cases c0 : i < 80
    · rw [if_pos (by omega), gsome hlt, Option.bind_some, cd, Option.bind_some, cd, suc_w (by omega), law16_few.loop hl n (i + 1) (by omega) (by omega), drop_cons hlt]
      have no : ∀ {y : Int} {r : List Int}, ¬ (1 ≤ y ∧ y ≤ 4000) → some false = some (decide (l.length ≤ 80 ∧ ∀ x ∈ y :: r, 1 ≤ x ∧ x ≤ 4000)) := fun h => by
        congr 1
        symm
        rw [decide_eq_false_iff_not]
        exact fun q => h (q.2 _ (List.mem_cons_self ..))
      by_cases c1 : l[i] < 1
      · rw [if_pos c1]; exact no (by omega)
      · rw [if_neg c1]
        by_cases c2 : l[i] > 4000
        · rw [if_pos c2]; exact no (by omega)
        · rw [if_neg c2]
          congr 1
          rw [decide_eq_decide, List.forall_mem_cons]
          exact ⟨fun h => ⟨h.1, by omega, h.2⟩, fun h => ⟨h.1, h.2.2⟩⟩
    · rw [if_neg (by omega)]
      congr 1
      have : ¬ l.length ≤ 80 := by omega
      rw [decide_eq_false (by omega), decide_eq_false (fun h => this h.1)]

theorem law16_few_eq {l : List Int} (hl : l.length ≤ 140737488351232) : spiritlevellaw16_few l = some (decide (isFew l)) := by
  have := law16_few.loop hl l.length 0 (by omega) (by omega)
  rw [show ((0 : Nat) : Int) = 0 from rfl, List.drop_zero] at this
  rw [spiritlevellaw16_few.eq, this]

/-! ### DecideTells -/

theorem ref16_Great_eq {h : List Int} : spiritlevelref16_Great h = some (decide (h.length > 200 ∧ h.length ≠ 4000 ∧ h.length ≠ 4001)) := by
  rw [spiritlevelref16_Great.eq, cd, cn]
  by_cases c1 : (h.length : Int) > 200
  · rw [if_pos c1]
    by_cases c2 : (h.length : Int) = 4000
    · rw [if_pos c2, decide_eq_false (by omega)]
    · rw [if_neg c2]
      by_cases c3 : (h.length : Int) = 4001
      · rw [c3, decide_eq_false (by omega)]; rfl
      · rw [decide_eq_true (by omega)]
        congr 1
        rw [bne, beq_false_of_ne c3]; rfl
  · rw [if_neg c1, decide_eq_false (by omega)]

theorem pushed_len {h : List Int} {v : Int} : (pushed h v).length = h.length + 1 := by rw [pushed_perm.length_eq, List.length_append, List.length_singleton]

theorem pushC_len {h : List Int} {v : Int} : (pushC h v).1.length ≤ 5000 := by
  unfold pushC
  split
  · rename_i k
    have := k.len
    split
    · split
      · simp
      · rw [pushed_len]; omega
    · simp
  · simp

theorem popC_len {h : List Int} : (popC h).2.1.length ≤ 5000 := by
  unfold popC
  split
  · rename_i k
    have := k.len
    split
    · simp
    · rw [popped_len]; omega
  · simp

theorem nextL_len {v : Int} {t : List Int} : ∀ (n : Nat) {h : List Int}, (nextL v t n h).2.1.length ≤ h.length
  | 0, h => by simp [nextL]
  | n + 1, h => by
    simp only [nextL]
    split
    · simp
    · split
      · simp only [popped_len]; omega
      · have := nextL_len (v := v) (t := t) n (h := popped h)
        rw [popped_len] at this; omega

theorem nextC_len {h : List Int} {v : Int} {t s : List Int} : (nextC h v t s).2.1.length ≤ 5000 := by
  unfold nextC
  split
  · rename_i k
    have := k.len
    split
    · have := nextL_len (v := v) (t := t) (h.length + 1) (h := h); omega
    · simp
  · simp

theorem DecideTells_pure (h : List Int) (v : Int) (a : Int × List Int × List Int) (hh : okD TL h) (hv : okD (.int .i64) v) (ha : okD TA a) : spiritlevellaw16_DecideTells h v a.1 a.2.1 a.2.2 = some true := by
  obtain ⟨a0, ⟨a1, a2⟩, a3, a4⟩ := okTA ha
  rw [spiritlevellaw16_DecideTells.eq, ref16_Great_eq, Option.bind_some, cd]
  split
  · rfl
  · rename_i g1
    rw [ref14_Great_eq, Option.bind_some, cd]
    split
    · rfl
    · rename_i g2
      have l1 := pushC_len (h := h) (v := v)
      have l2 := popC_len (h := h)
      have l3 := nextC_len (h := h) (v := a.1) (t := a.2.1) (s := a.2.2)
      rw [app_nil (by omega), Option.bind_some, decide_Push_eq, Option.bind_some, ref16_Push_eq, Option.bind_some, decide_Pop_eq, Option.bind_some, ref16_Pop_eq, Option.bind_some, decide_Next_eq (by omega) (by omega) a2, Option.bind_some, ref16_Next_eq (by omega) (by omega) a2, Option.bind_some,
        ref13_Same_eq (by omega), Option.bind_some, decide_eq_true rfl, ct, beq_self_eq_true, ct, beq_self_eq_true, ct, ref13_Same_eq (by omega), Option.bind_some, decide_eq_true rfl, ct, beq_self_eq_true, ct, beq_self_eq_true, ct, ref13_Same_eq (by omega), Option.bind_some, decide_eq_true rfl, ct, beq_self_eq_true, ct,
        decide_Check_eq, Option.bind_some, ref16_Check_eq, Option.bind_some, beq_self_eq_true, ct, ref13_Same_eq (by omega), Option.bind_some, decide_eq_true rfl]

/-! ### DecideNames -/

def allL (n : Nat) : List Int := (List.range n).map fun i : Nat => (i : Int) + 1

theorem allL_succ {n : Nat} : allL (n + 1) = allL n ++ [(n : Int) + 1] := by
  unfold allL
  rw [List.range_succ, List.map_append]; rfl

theorem allL_len {n : Nat} : (allL n).length = n := by unfold allL; rw [List.length_map, List.length_range]

theorem allL_gd {n i : Nat} (hi : i < n) : gd (allL n) i = (i : Int) + 1 := by
  rw [gd_lt (by rw [allL_len]; exact hi)]
  simp [allL]

theorem allL_mem {n : Nat} {x : Int} : x ∈ allL n ↔ 1 ≤ x ∧ x ≤ n := by
  unfold allL
  rw [List.mem_map]
  constructor
  · rintro ⟨i, hi, rfl⟩
    rw [List.mem_range] at hi
    omega
  · intro h
    exact ⟨(x - 1).toNat, List.mem_range.2 (by omega), by omega⟩

theorem allL_ok : okH (allL 4000) := by
  refine ⟨by rw [allL_len]; omega, fun x hx => by have := allL_mem.1 hx; omega, ?_, fun i hi h0 => ?_⟩
  · unfold allL
    rw [List.Nodup, List.pairwise_map]
    exact List.pairwise_lt_range.imp fun hab e => by omega
  · rw [allL_len] at hi
    rw [allL_gd hi, allL_gd (by omega)]; omega

theorem DecideNames.loop1 : ∀ (n k : Nat), k + n = 4000 → spiritlevellaw16_DecideNames.l1 ((k + 1 : Nat) : Int) (allL k) = spiritlevellaw16_DecideNames.l1 4001 (allL 4000)
  | 0, k, hk => by
    have : k = 4000 := by omega
    subst this; rfl
  | n + 1, k, hk => by
    have hl : ((allL k).length : Int) = k := by rw [allL_len]
    rw [← DecideNames.loop1 n (k + 1) (by omega), spiritlevellaw16_DecideNames.l1_eq (v12 := ((k + 1 : Nat) : Int)), cd, if_pos (by omega), app_ok (by simp; omega), Option.bind_some, suc_w (by omega), allL_succ]
    rfl

theorem DecideNames.loop0 {o : List (List Int)} (hl : o.length ≤ 1000000) (hb : ∀ b ∈ o, ¬ okH b) : ∀ (n i : Nat), i + n = o.length → spiritlevellaw16_DecideNames.l0 (i : Int) o = spiritlevellaw16_DecideNames.l1 1 []
  | 0, i, hi => by rw [spiritlevellaw16_DecideNames.l0_eq, cd, if_neg (by omega)]
  | n + 1, i, hi => by
    have hlt : i < o.length := by omega
    have hx := hb _ (List.getElem_mem hlt)
    have q1 : pushC o[i] 0 = ([], 8) := by unfold pushC; rw [if_neg hx]
    have q2 : popC o[i] = (0, [], 8) := by unfold popC; rw [if_neg hx]
    have q3 : nextC o[i] (-1) [] [] = (0, [], 8) := by unfold nextC; rw [if_neg hx]
    rw [spiritlevellaw16_DecideNames.l0_eq, cd, if_pos (by omega), gsome hlt]
    simp only [Option.bind_some, Int.toNat_natCast, List.getElem?_eq_getElem hlt]
    rw [decide_Push_eq, Option.bind_some, q1, decide_Pop_eq, Option.bind_some, q2, decide_Next_eq (by decide) (by decide) (by decide), Option.bind_some, q3, decide_Check_eq, Option.bind_some, if_neg hx, suc_w (by omega), DecideNames.loop0 hl hb n (i + 1) (by omega)]
    rfl

theorem DecideNames_pure : spiritlevellaw16_DecideNames = some true := by
  have h0 := DecideNames.loop0 (o := [[0], [-1], [4001], [2, 1], [1, 1], [1, 3, 2, 2], [1, 5, 3, 4]]) (by decide) (by decide) 7 0 (by decide)
  rw [show ((0 : Nat) : Int) = 0 from rfl] at h0
  have h1 : spiritlevellaw16_DecideNames.l1 1 [] = spiritlevellaw16_DecideNames.l1 4001 (allL 4000) := DecideNames.loop1 4000 0 (by omega)
  have p1 : pushC [4] 0 = ([], 2) := by decide
  have p2 : pushC [4] 4001 = ([], 2) := by decide
  have p3 : pushC [4] 4 = ([], 18) := by decide
  have p4 : pushC (allL 4000) 4000 = ([], 18) := by
    unfold pushC
    rw [if_pos allL_ok, if_pos (by omega), if_pos (allL_mem.2 (by omega))]
  have p5 : popC [] = (0, [], 6) := by decide
  have p6 : nextC [3, 4] 3 [6] [] = (0, [], 6) := by decide
  have p7 : nextC [3] 3 [6, 7] [] = (0, [], 8) := by decide
  have p8 : nextC (allL 4000) 4000 [] [] = (1, popped (allL 4000), 0) := by
    have g : gd (allL 4000) 0 = 1 := by rw [allL_gd (by omega)]; rfl
    have hA : okA 4000 [] [] := by decide
    unfold nextC
    rw [if_pos allL_ok, if_pos hA, nextL, if_neg (by rw [allL_len]; omega), g, if_pos ⟨by omega, by simp⟩]
  have p9 : popC [9] = (9, [], 0) := by decide
  have hlen : ((popped (allL 4000)).length : Int) = 3999 := by rw [popped_len, allL_len]; rfl
  rw [spiritlevellaw16_DecideNames.eq, h0]
  refine h1.trans ?_
  rw [spiritlevellaw16_DecideNames.l1_eq, cd, if_neg (by omega), decide_Push_eq, Option.bind_some, p1, decide_Push_eq, Option.bind_some, p2, decide_Push_eq, Option.bind_some, p3, decide_Push_eq, Option.bind_some, p4, decide_Pop_eq, Option.bind_some, p5, decide_Next_eq (by decide) (by decide) (by decide), Option.bind_some, p6,
    decide_Next_eq (by decide) (by decide) (by decide), Option.bind_some, p7, decide_Next_eq (by decide) (by decide) (by decide), Option.bind_some, p8, decide_Pop_eq, Option.bind_some, p9, alive16_eq, Option.bind_some, ct, decide_Check_eq, Option.bind_some, if_pos allL_ok]
  dsimp only
  rw [hlen]
  rfl

/-! ### DecideFirst -/

theorem mem_popped {h : List Int} (k : okH h) (hne : h ≠ []) {y : Int} : y ∈ popped h ↔ y ∈ h ∧ y ≠ gd h 0 := by
  have hp := popped_perm hne
  have hd := List.nodup_cons.1 (hp.nodup_iff.2 k.nodup)
  rw [← hp.mem_iff, List.mem_cons]
  constructor
  · intro hy
    exact ⟨.inr hy, fun e => hd.1 (e ▸ hy)⟩
  · rintro ⟨hy | hy, hn⟩
    · exact absurd hy hn
    · exact hy

theorem popC_ok {h : List Int} (k : okH h) (hne : h ≠ []) : popC h = (gd h 0, popped h, 0) := by
  unfold popC
  rw [if_pos k, if_neg fun e => hne (List.length_eq_zero_iff.1 e)]

theorem popC_nil : popC [] = (0, [], 6) := by
  unfold popC
  rw [if_pos okH_nil]
  exact if_pos rfl

theorem first_gd {h W : List Int} (k : okH h) (hne : h ≠ []) (hW : W.Pairwise (· < ·)) {i : Nat} (hi : i < W.length) (hm : ∀ y, y ∈ h ↔ y ∈ W.drop i) : gd h 0 = W[i] ∧ ∀ y, y ∈ popped h ↔ y ∈ W.drop (i + 1) := by
  have h0 : 0 < h.length := by cases h with | nil => exact absurd rfl hne | cons a r => simp
  have hd : W.drop i = W[i] :: W.drop (i + 1) := drop_cons hi
  have hs : (W[i] :: W.drop (i + 1)).Pairwise (· < ·) := by rw [← hd]; exact hW.sublist (List.drop_sublist ..)
  rw [List.pairwise_cons] at hs
  have e : gd h 0 = W[i] := by
    have h1 := k.least ((hm W[i]).2 (by rw [hd]; exact List.mem_cons_self ..))
    have h2 := (hm _).1 (gd_mem h0)
    rw [hd, List.mem_cons] at h2
    rcases h2 with h2 | h2
    · exact h2
    · have := hs.1 _ h2; omega
  refine ⟨e, fun y => ?_⟩
  rw [mem_popped k hne, hm, hd, List.mem_cons, e]
  constructor
  · rintro ⟨h1 | h1, h2⟩
    · exact absurd h1 h2
    · exact h1
  · intro h1
    exact ⟨.inr h1, fun e' => by have := hs.1 _ h1; omega⟩

theorem nil_of {h W : List Int} {i : Nat} (hi : W.length ≤ i) (hm : ∀ y, y ∈ h ↔ y ∈ W.drop i) : h = [] := by
  rw [List.drop_of_length_le hi] at hm
  cases h with
  | nil => rfl
  | cons a r => have := (hm a).1 (List.mem_cons_self ..); cases this

theorem DecideFirst.loop {W : List Int} (hW : W.Pairwise (· < ·)) (hl : W.length ≤ 1000000) : ∀ (n i : Nat) {h : List Int}, i + n = W.length → okH h → (∀ y, y ∈ h ↔ y ∈ W.drop i) → spiritlevellaw16_DecideFirst.l0 true (i : Int) h W = some true
  | 0, i, h, hi, k, hm => by
    rw [nil_of (by omega) hm, spiritlevellaw16_DecideFirst.l0_eq, cd, if_neg (by omega), decide_Pop_eq, Option.bind_some, popC_nil]; rfl
  | n + 1, i, h, hi, k, hm => by
    have hlt : i < W.length := by omega
    have hne : h ≠ [] := fun e => by
      have := (hm W[i]).2 (by rw [drop_cons hlt]; exact List.mem_cons_self ..)
      rw [e] at this; cases this
    have h0 : 0 < h.length := by cases h with | nil => exact absurd rfl hne | cons a r => simp
    have hk := k.len
    obtain ⟨e, hm2⟩ := first_gd k hne hW hlt hm
    have hk2 := k.popped hne
    have hpl : ((popped h).length : Int) = ((h.length - 1 : Nat) : Int) := by rw [popped_len]
    rw [spiritlevellaw16_DecideFirst.l0_eq, cd, if_pos (by omega), decide_Pop_eq, Option.bind_some, popC_ok k hne]
    dsimp only
    rw [cn, if_pos rfl, gsome hlt, Option.bind_some, Int.toNat_natCast, List.getElem?_eq_getElem hlt, Option.bind_some, cn, if_pos e, prd_w (by omega) h0, cn, if_pos hpl, decide_Check_eq, Option.bind_some, if_pos hk2, cn, if_pos rfl, suc_w (by omega)]
    exact DecideFirst.loop hW hl n (i + 1) (by omega) hk2 hm2

theorem DecideFirst_pure (l : List Int) (hl : okD TL l) : spiritlevellaw16_DecideFirst l = some true := by
  have hl := okTL hl
  rw [spiritlevellaw16_DecideFirst.eq, alive16_eq, Option.bind_some, law16_few_eq (by omega), Option.bind_some, cnot, cd]
  by_cases c : isFew l
  · obtain ⟨k, hm⟩ := okH_nil.adds c.2
    obtain ⟨S, s1, s2, s3, s4⟩ := ref13_Sorted_ok (l := l) (by have := c.1; omega)
    rw [if_pos c, cnot, ct, law16_pushed_eq (by have := c.1; omega) c.2, Option.bind_some]
    dsimp only
    have hSl : S.length ≤ 1000000 := by
      have hn : S.Nodup := s2.imp fun hab e => by omega
      have := pigeon 4001 hn (fun x hx => by have := c.2 x ((s3 x).1 hx); omega)
      omega
    rw [cnot, ct, decide_Check_eq, Option.bind_some, if_pos k, cn, if_pos rfl, s1, Option.bind_some]
    have := DecideFirst.loop s2 hSl S.length 0 (by omega) k (fun y => by rw [hm, List.drop_zero, s3]; simp)
    rw [show ((0 : Nat) : Int) = 0 from rfl] at this
    exact this
  · rw [if_neg c]

end Go.Proofs.Ythgnjgnmkobboaa
