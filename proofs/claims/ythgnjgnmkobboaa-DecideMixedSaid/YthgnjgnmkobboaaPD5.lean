/- Heaps, of plain values: DecideNext, DecideBack, DecideMixed. -/
import Derived.Test.YthgnjgnmkobboaaPD4
namespace Go.Proofs.Ythgnjgnmkobboaa
open Go Go.Proofs.Ythgnjgnmkobboaa.R
set_option linter.unusedVariables false

theorem nextL_spec {v : Int} {t : List Int} : ∀ (n : Nat) {h : List Int}, okH h → h.length < n → ((∀ x ∈ h, ¬ free v t x) ∧ nextL v t n h = (0, [], 6)) ∨
    ∃ m r, nextL v t n h = (m, r, 0) ∧ okH r ∧ m ∈ h ∧ free v t m ∧ (∀ x ∈ h, free v t x → m ≤ x) ∧ (∀ x ∈ h, x ∈ r ↔ m < x) ∧ ∀ x ∈ r, x ∈ h
  | 0, h, k, hn => by omega
  | n + 1, h, k, hn => by
    simp only [nextL]
    by_cases c1 : h.length = 0
    · rw [if_pos c1]
      rw [List.length_eq_zero_iff] at c1
      subst c1
      exact .inl ⟨by simp, rfl⟩
    · have hne := ne_nil c1
      have h0 : 0 < h.length := by omega
      rw [if_neg c1]
      by_cases c2 : free v t (gd h 0)
      · rw [if_pos c2]
        refine .inr ⟨_, _, rfl, k.popped hne, gd_mem h0, c2, fun x hx _ => k.least hx, fun x hx => ?_, fun x hx => ((mem_popped k hne).1 hx).1⟩
        rw [mem_popped k hne]
        have := k.least hx
        exact ⟨fun h => by have := h.2; omega, fun h => ⟨hx, by omega⟩⟩
      · rw [if_neg c2]
        have hpl := popped_len (h := h)
        rcases nextL_spec n (k.popped hne) (by omega) with ⟨h1, h2⟩ | ⟨m, r, h1, h2, h3, h4, h5, h6, h7⟩
        · refine .inl ⟨fun x hx hf => ?_, h2⟩
          by_cases e : x = gd h 0
          · exact c2 (e ▸ hf)
          · exact h1 x ((mem_popped k hne).2 ⟨hx, e⟩) hf
        · refine .inr ⟨m, r, h1, h2, ((mem_popped k hne).1 h3).1, h4, fun x hx hf => ?_, fun x hx => ?_, fun x hx => ((mem_popped k hne).1 (h7 x hx)).1⟩
          · by_cases e : x = gd h 0
            · exact absurd (e ▸ hf) c2
            · exact h5 x ((mem_popped k hne).2 ⟨hx, e⟩) hf
          · by_cases e : x = gd h 0
            · have hm := (mem_popped k hne).1 h3
              have := k.least hm.1
              have hnr : x ∉ r := fun hr => ((mem_popped k hne).1 (h7 x hr)).2 e
              exact ⟨fun hr => absurd hr hnr, fun hlt => by omega⟩
            · exact h6 x ((mem_popped k hne).2 ⟨hx, e⟩)

/-- The least free one among some. -/
def LeastF (v : Int) (t : List Int) (m : Int) (l : List Int) : Prop := (m = 0 ∧ ∀ x ∈ l, ¬ free v t x) ∨ (m ≠ 0 ∧ m ∈ l ∧ free v t m ∧ ∀ x ∈ l, free v t x → m ≤ x)

theorem DecideNext.loop0 {v : Int} (hv : okV v) {t s h r : List Int} {ok : Bool} {w e : Int} (ht : t.length ≤ 100000000) (hlit : ∀ l ∈ t, isLit v l) (k : okH h) : ∀ (n i : Nat) {m : Int}, i + n = h.length → LeastF v t m (h.take i) →
    ∃ m', spiritlevellaw16_DecideNext.l0 ok w e m (i : Int) v t s h r = spiritlevellaw16_DecideNext.l0 ok w e m' (h.length : Int) v t s h r ∧ LeastF v t m' h
  | 0, i, m, hi, hm => by
    have : i = h.length := by omega
    subst this
    rw [List.take_of_length_le (Nat.le_refl _)] at hm
    exact ⟨m, rfl, hm⟩
  | n + 1, i, m, hi, hm => by
    have hlt : i < h.length := by omega
    have hlen := k.len
    have hr := k.rng _ (List.getElem_mem hlt)
    have htk : h.take (i + 1) = h.take i ++ [h[i]] := by rw [List.take_add_one, List.getElem?_eq_getElem hlt]; rfl
    have mem : ∀ {x : Int}, x ∈ h.take (i + 1) ↔ x ∈ h.take i ∨ x = h[i] := fun {x} => by rw [htk, List.mem_append, List.mem_singleton]
    have go := fun {m' : Int} (q : LeastF v t m' (h.take (i + 1))) => DecideNext.loop0 (s := s) (r := r) (ok := ok) (w := w) (e := e) hv ht hlit k n (i + 1) (m := m') (by omega) q
    rw [spiritlevellaw16_DecideNext.l0_eq, cd, if_pos (by omega), gsome hlt]
    simp only [Option.bind_some, Int.toNat_natCast, List.getElem?_eq_getElem hlt]
    rw [ref16_Free_eq hv ht hr hlit, Option.bind_some, cd, suc_w (by omega), ce, cd]
    by_cases c1 : free v t h[i]
    · rw [if_pos c1]
      by_cases c2 : m = 0
      · rw [if_pos c2]
        rcases hm with ⟨_, hm⟩ | ⟨hm, _⟩
        · refine go (.inr ⟨by omega, mem.2 (.inr rfl), c1, fun x hx hf => ?_⟩)
          rcases mem.1 hx with hx | hx
          · exact absurd hf (hm x hx)
          · omega
        · exact absurd c2 hm
      · rw [if_neg c2]
        rcases hm with ⟨hm, _⟩ | ⟨m1, m2, m3, m4⟩
        · exact absurd hm c2
        · by_cases c3 : h[i] < m
          · rw [if_pos c3]
            refine go (.inr ⟨by omega, mem.2 (.inr rfl), c1, fun x hx hf => ?_⟩)
            rcases mem.1 hx with hx | hx
            · have := m4 x hx hf; omega
            · omega
          · rw [if_neg c3]
            refine go (.inr ⟨m1, mem.2 (.inl m2), m3, fun x hx hf => ?_⟩)
            rcases mem.1 hx with hx | hx
            · exact m4 x hx hf
            · omega
    · rw [if_neg c1]
      refine go (hm.imp (fun q => ⟨q.1, fun x hx hf => ?_⟩) (fun q => ⟨q.1, mem.2 (.inl q.2.1), q.2.2.1, fun x hx hf => ?_⟩))
      · rcases mem.1 hx with hx | hx
        · exact q.2 x hx hf
        · exact c1 (hx ▸ hf)
      · rcases mem.1 hx with hx | hx
        · exact q.2.2.2 x hx hf
        · exact absurd (hx ▸ hf) c1

theorem DecideNext.loop1 {h r : List Int} {m : Int} (hh : h.length ≤ 1000000) (hr : r.length ≤ 1000000) (hm : ∀ x ∈ h, x ∈ r ↔ m < x) (hs : ∀ x ∈ r, x ∈ h) : ∀ (n i : Nat), i + n = h.length → spiritlevellaw16_DecideNext.l1 true m (i : Int) h r = some true
  | 0, i, hi => by
    rw [spiritlevellaw16_DecideNext.l1_eq, cd, if_neg (by omega), ct, ref13_Part_eq (by omega) (by omega), Option.bind_some, decide_eq_true hs]
  | n + 1, i, hi => by
    have hlt : i < h.length := by omega
    have q : (decide (h[i] ∈ r) == decide (h[i] > m)) = true := by
      rw [beq_iff_eq, decide_eq_decide]
      exact hm _ (List.getElem_mem hlt)
    rw [spiritlevellaw16_DecideNext.l1_eq, cd, if_pos (by omega), gsome hlt]
    simp only [Option.bind_some, Int.toNat_natCast, List.getElem?_eq_getElem hlt]
    rw [ref13_Has_eq (by omega), Option.bind_some, q, suc_w (by omega), cnot, ct]
    exact DecideNext.loop1 hh hr hm hs n (i + 1) (by omega)

theorem DecideNext_pure (l : List Int) (a : Int × List Int × List Int) (hl : okD TL l) (ha : okD TA a) : spiritlevellaw16_DecideNext l a.1 a.2.1 a.2.2 = some true := by
  obtain ⟨a0, ⟨a1, a2⟩, a3, a4⟩ := okTA ha
  have hl := okTL hl
  rw [spiritlevellaw16_DecideNext.eq, alive16_eq, Option.bind_some, law16_few_eq (by omega), Option.bind_some, cnot, cd]
  by_cases c : isFew l
  · obtain ⟨k, hm⟩ := okH_nil.adds c.2
    have hlen := k.len
    rw [if_pos c, ref14_Great_eq, Option.bind_some, cd]
    split
    · rfl
    · rename_i g
      rw [ref14_Check_eq (by omega) (by omega), Option.bind_some, cn]
      by_cases hA : okA a.1 a.2.1 a.2.2
      · rw [if_pos hA, if_pos rfl, cnot, ct, law16_pushed_eq (by have := c.1; omega) c.2, Option.bind_some]
        dsimp only
        rw [decide_Next_eq (by omega) (by omega) a2, Option.bind_some, cnot, ct]
        obtain ⟨m', e1, e2⟩ := DecideNext.loop0 (s := a.2.2) (r := (nextC (l.foldl addH []) a.1 a.2.1 a.2.2).2.1) (ok := true) (w := (nextC (l.foldl addH []) a.1 a.2.1 a.2.2).1) (e := (nextC (l.foldl addH []) a.1 a.2.1 a.2.2).2.2) hA.vars (by omega) hA.lits k _ 0 (m := 0) (Nat.zero_add _) (.inl ⟨rfl, by simp⟩)
        rw [show ((0 : Nat) : Int) = 0 from rfl] at e1
        rw [e1, spiritlevellaw16_DecideNext.l0_eq, cd, if_neg (by omega), ce]
        have hC : nextC (l.foldl addH []) a.1 a.2.1 a.2.2 = nextL a.1 a.2.1 ((l.foldl addH []).length + 1) (l.foldl addH []) := by unfold nextC; rw [if_pos k, if_pos hA]
        rw [hC]
        rcases nextL_spec (v := a.1) (t := a.2.1) ((l.foldl addH []).length + 1) k (by omega) with ⟨h1, h2⟩ | ⟨m, r, h1, h2, h3, h4, h5, h6, h7⟩
        · rw [h2]
          rcases e2 with ⟨f1, f2⟩ | ⟨f1, f2, f3, f4⟩
          · rw [if_pos f1]; rfl
          · exact absurd f3 (h1 _ f2)
        · rw [h1]
          rcases e2 with ⟨f1, f2⟩ | ⟨f1, f2, f3, f4⟩
          · exact absurd h4 (f2 _ h3)
          · have hmm : m = m' := Int.le_antisymm (h5 _ f2 f3) (f4 _ h3 h4)
            have hrl := h2.len
            rw [if_neg f1]
            dsimp only
            rw [cn, if_pos rfl, cn, if_pos hmm, decide_Check_eq, Option.bind_some, if_pos h2, cn, if_pos rfl]
            have := DecideNext.loop1 (by omega) (by omega) h6 h7 _ 0 (Nat.zero_add _)
            rw [show ((0 : Nat) : Int) = 0 from rfl] at this
            exact this
      · rw [if_neg hA, if_neg (by omega)]
  · rw [if_neg c]

/-! ### DecideBack -/

theorem subOf_one {W : List Int} (h : 1 ≤ W.length) : subOf W (Int.toNat 1) (Int.toNat ((W.length : Int) - 1)) = W.drop 1 := by
  unfold subOf
  rw [show Int.toNat 1 = 1 from rfl]
  exact List.take_of_length_le (by rw [List.length_drop]; omega)

theorem sorted_drop {W : List Int} (hW : W.Pairwise (· < ·)) : (W.drop 1).Pairwise (· < ·) := hW.sublist (List.drop_sublist ..)

theorem chk_one {n : Nat} (h : 1 ≤ n) : chk (decide ((0 : Int) ≤ 1) && decide ((1 : Int) ≤ (n : Int)) && decide ((n : Int) ≤ (n : Int))) = some () := by
  have : (decide ((0 : Int) ≤ 1) && decide ((1 : Int) ≤ (n : Int)) && decide ((n : Int) ≤ (n : Int))) = true := by
    rw [Bool.and_eq_true, Bool.and_eq_true, decide_eq_true_eq, decide_eq_true_eq, decide_eq_true_eq]; omega
  rw [this]; rfl

theorem DecideBack_pure (l : List Int) (v : Int) (hl : okD TL l) (hv : okD (.int .i64) v) : spiritlevellaw16_DecideBack l v = some true := by
  have hl := okTL hl
  rw [spiritlevellaw16_DecideBack.eq, alive16_eq, Option.bind_some, law16_few_eq (by omega), Option.bind_some, cnot, cd]
  by_cases c : isFew l
  · obtain ⟨k, hm⟩ := okH_nil.adds c.2
    generalize hH : l.foldl addH [] = h at k hm
    have hlen := k.len
    rw [if_pos c, cnot, ct, law16_pushed_eq (by have := c.1; omega) c.2, Option.bind_some, hH]
    dsimp only
    rw [decide_Push_eq, Option.bind_some, cnot, ct]
    unfold pushC
    rw [if_pos k]
    by_cases c1 : 1 ≤ v ∧ v ≤ 4000
    · rw [if_pos c1]
      by_cases c2 : v ∈ h
      · rw [if_pos c2]
        dsimp only
        rw [cn, if_neg (by omega), ct, cd, if_neg (by omega), cd, if_neg (by omega), ref13_Has_eq (by omega), Option.bind_some, decide_eq_true c2]
      · rw [if_neg c2]
        dsimp only
        have k2 := k.pushed c1 c2
        have hpl := pushed_len (h := h) (v := v)
        have hk2 := k2.len
        have hne : pushed h v ≠ [] := fun e => by rw [e] at hpl; simp at hpl
        have k3 := k2.popped hne
        have hk3 := k3.len
        obtain ⟨W, s1, s2, s3, s4⟩ := ref13_Sorted_ok (l := h ++ [v]) (by simp; omega)
        obtain ⟨V, t1, t2, t3, t4⟩ := ref13_Sorted_ok (l := popped (pushed h v)) (by omega)
        have hWl : W.length = (pushed h v).length := by rw [s4 (pushed_perm.nodup_iff.1 k2.nodup), hpl]; simp
        have hlt : 0 < W.length := by omega
        obtain ⟨e1, e2⟩ := first_gd k2 hne s2 (i := 0) hlt (fun y => by rw [List.drop_zero, s3, pushed_perm.mem_iff])
        have hV : V = W.drop 1 := sorted_unique t2 (sorted_drop s2) fun y => by rw [t3, e2]
        have hVl : V.length ≤ 5000 := by rw [hV, List.length_drop]; omega
        have hz : geti W 0 = some W[0] := gsome (i := 0) hlt
        have hrl : ((popped (pushed h v)).length : Int) = IntKind.wrap .i64 ((W.length : Int) - 1) := by rw [prd_w (by omega) hlt, popped_len, hWl]
        rw [cn, if_pos rfl, decide_Pop_eq, Option.bind_some, popC_ok k2 hne, app_nil (by omega), Option.bind_some, app_ok (by simp; omega), Option.bind_some, s1, Option.bind_some, ct]
        dsimp only
        rw [ce, if_pos rfl, ce, if_pos (by omega), hz, Option.bind_some, show Int.toNat (0 : Int) = 0 from rfl, List.getElem?_eq_getElem hlt, Option.bind_some, ce, if_pos e1, ce, if_pos hrl, t1, Option.bind_some, chk_one hlt, Option.bind_some, subOf_one hlt, ref13_Same_eq (by omega), Option.bind_some, decide_eq_true hV]
    · rw [if_neg c1]
      dsimp only
      rw [cn, if_neg (by omega), ct, cd]
      by_cases c2 : v < 1
      · rw [if_pos c2]
      · rw [if_neg c2, cd, if_pos (by omega)]
  · rw [if_neg c]

/-! ### DecideMixed -/

theorem sub_one {W : List Int} (h : 1 ≤ W.length) : subl W 1 (W.length : Int) = some (W.drop 1) := by
  unfold subl
  rw [if_pos (by omega)]; simp

theorem DecideMixed.loop {l : List Int} {p : List Bool} (hl : l.length ≤ 80) (hp : p.length = l.length) (hr : ∀ x ∈ l, 1 ≤ x ∧ x ≤ 4000) : ∀ (n i : Nat) {h W : List Int}, i + n = l.length → okH h → W.Pairwise (· < ·) → (∀ y, y ∈ h ↔ y ∈ W) →
    spiritlevellaw16_DecideMixed.l0 l p true W (i : Int) h = some true
  | 0, i, h, W, hi, k, hW, hm => by
    have hlen := k.len
    obtain ⟨S, s1, s2, s3, s4⟩ := ref13_Sorted_ok (l := h) (by omega)
    have hS : S = W := sorted_unique s2 hW fun y => by rw [s3, hm]
    have hSl : S.length ≤ 5000 := by rw [s4 k.nodup]; omega
    rw [spiritlevellaw16_DecideMixed.l0_eq, cd, if_neg (by omega), ct, s1, Option.bind_some, ref13_Same_eq (by omega), Option.bind_some, decide_eq_true hS]
  | n + 1, i, h, W, hi, k, hW, hm => by
    have hlt : i < l.length := by omega
    have hltp : i < p.length := by omega
    have hx := hr _ (List.getElem_mem hlt)
    have hlen := k.len
    have hWl : W.length ≤ 5000 := by
      have hn : W.Nodup := hW.imp fun hab e => by omega
      have := pigeon 4001 hn (fun x hx => by have := k.rng x ((hm x).2 hx); omega)
      omega
    have ih := fun {h W : List Int} => DecideMixed.loop hl hp hr n (i + 1) (h := h) (W := W) (by omega)
    -- popping, or not
    have pop : ∀ {h W : List Int}, okH h → W.Pairwise (· < ·) → (∀ y, y ∈ h ↔ y ∈ W) → (0 < W.length → h ≠ [] ∧ ∃ hlt : 0 < W.length, gd h 0 = W[0] ∧ (W.drop 1).Pairwise (· < ·) ∧ ∀ y, y ∈ popped h ↔ y ∈ W.drop 1) ∧ (W.length = 0 → h = []) := fun {h W} k hW hm => by
      refine ⟨fun h0 => ?_, fun h0 => nil_of (W := W) (i := 0) (by omega) (by rw [List.drop_zero]; exact hm)⟩
      have hne : h ≠ [] := fun e => by
        have := (hm _).2 (List.getElem_mem h0)
        rw [e] at this; cases this
      obtain ⟨e1, e2⟩ := first_gd k hne hW (i := 0) h0 (by rw [List.drop_zero]; exact hm)
      exact ⟨hne, h0, e1, sorted_drop hW, e2⟩
    rw [spiritlevellaw16_DecideMixed.l0_eq, cd, if_pos (by omega), gsome hlt, Option.bind_some, decide_Push_eq, Option.bind_some, Option.bind_some, ref13_Has_eq (by omega), Option.bind_some, suc_w (by omega), gsome hltp]
    unfold pushC
    rw [if_pos k, if_pos hx]
    by_cases c : l[i] ∈ h
    · rw [if_pos c, decide_eq_true ((hm _).1 c)]
      simp only [Option.bind_some]
      rw [show (!(((18 : Int) == 18) == true)) = false from rfl, cf, show ((18 : Int) != 0) = true from rfl, ct, show ((18 : Int) != 18) = false from rfl, cf, show ((18 : Int) == 0) = false from rfl, cf, cnot]
      cases hpi : p[i] with
      | false => rw [cf]; exact ih k hW hm
      | true =>
        rw [ct, decide_Pop_eq, Option.bind_some, ce]
        obtain ⟨q1, q2⟩ := pop k hW hm
        by_cases c0 : W.length = 0
        · rw [if_pos (by omega), ct, q2 c0, popC_nil]; rfl
        · obtain ⟨hne, h0, e1, e2, e3⟩ := q1 (by omega)
          have hz : geti W 0 = some W[0] := gsome (i := 0) h0
          rw [if_neg (by omega), popC_ok k hne]
          dsimp only
          rw [cn, if_pos rfl, hz, Option.bind_some, cn, if_pos e1, sub_one h0, Option.bind_some]
          exact ih (k.popped hne) e2 e3
    · have hcW : l[i] ∉ W := fun h' => c ((hm _).2 h')
      have k2 := k.pushed hx c
      have hk2 := k2.len
      obtain ⟨S, s1, s2, s3, s4⟩ := ref13_Sorted_ok (l := W ++ [l[i]]) (by simp; omega)
      have hm2 : ∀ y, y ∈ pushed h l[i] ↔ y ∈ S := fun y => by rw [mem_pushed, s3, List.mem_append, List.mem_singleton, hm]
      rw [if_neg c, decide_eq_false hcW, app_nil (by omega)]
      simp only [Option.bind_some]
      rw [app_ok (by simp; omega)]
      simp only [Option.bind_some]
      rw [show (!(((0 : Int) == 18) == false)) = false from rfl, cf, show ((0 : Int) != 0) = false from rfl, cf, show ((0 : Int) == 0) = true from rfl, ct, s1, Option.bind_some, cnot]
      cases hpi : p[i] with
      | false => rw [cf]; exact ih k2 s2 hm2
      | true =>
        rw [ct, decide_Pop_eq, Option.bind_some, ce]
        obtain ⟨q1, q2⟩ := pop k2 s2 hm2
        by_cases c0 : S.length = 0
        · rw [if_pos (by omega), ct, q2 c0, popC_nil]; rfl
        · obtain ⟨hne, h0, e1, e2, e3⟩ := q1 (by omega)
          have hz : geti S 0 = some S[0] := gsome (i := 0) h0
          rw [if_neg (by omega), popC_ok k2 hne]
          dsimp only
          rw [cn, if_pos rfl, hz, Option.bind_some, show Int.toNat (0 : Int) = 0 from rfl, List.getElem?_eq_getElem h0, Option.bind_some, cn, if_pos e1, chk_one h0, Option.bind_some, subOf_one h0]
          exact ih (k2.popped hne) e2 e3

theorem DecideMixed_pure (l : List Int) (p : List Bool) (hl : okD TL l) (hp : okD (.list .bool) p) : spiritlevellaw16_DecideMixed l p = some true := by
  have hl := okTL hl
  rw [spiritlevellaw16_DecideMixed.eq, alive16_eq, Option.bind_some, law16_few_eq (by omega), Option.bind_some, cnot, cd]
  by_cases c : isFew l
  · rw [if_pos c, cn]
    by_cases c2 : (p.length : Int) = (l.length : Int)
    · rw [if_pos c2, cnot, ct]
      have := DecideMixed.loop (l := l) (p := p) c.1 (by omega) c.2 l.length 0 (by omega) okH_nil List.Pairwise.nil (fun y => Iff.rfl)
      rw [show ((0 : Nat) : Int) = 0 from rfl] at this
      exact this
    · rw [if_neg c2]
  · rw [if_neg c]


end Go.Proofs.Ythgnjgnmkobboaa
