/- . -/
import Derived.Test.YthbkhndapkbgbaaGreatP4
namespace Go.Proofs.YthbkhndapkbgbaaGreat
open Go Go.Proofs.YthbkhndapkbgbaaGreat.R
set_option linter.unusedVariables false


def truth (W : List Bool) (l : Int) : Bool := if l % 2 = 1 then !(W.getD (l / 2 - 1).toNat false) else W.getD (l / 2 - 1).toNat false

theorem truth_neg {W : List Bool} {l : Int} (h : 2 ≤ l) : truth W (neg l) = !truth W l := by
  unfold truth
  rw [neg_div]
  unfold neg
  by_cases h2 : l % 2 = 0
  · rw [if_pos h2, if_pos (show (l + 1) % 2 = 1 by omega), if_neg (show ¬ l % 2 = 1 by omega)]
  · rw [if_neg h2, if_neg (show ¬ (l - 1) % 2 = 1 by omega), if_pos (show l % 2 = 1 by omega)]; simp

theorem ref13_Truth_eq {v : Int} (hv : okV v) {W : List Bool} (hW : (W.length : Int) = v) {l : Int} (hl : isLit v l) : spiritlevelref13_Truth l W = some (truth W l) := by
  have hk : (l / 2 - 1).toNat < W.length := by omega
  have hg : geti W (l / 2 - 1) = some (W.getD (l / 2 - 1).toNat false) := by
    rw [gsI (by omega) hk, List.getD_eq_getElem?_getD, List.getElem?_eq_getElem hk, Option.getD_some]
  have hw : IntKind.wrap .i64 (IntKind.wrap .i64 (Int.tdiv l 2) - 1) = l / 2 - 1 := by
    rw [td (by omega) (by omega), wr] <;> omega
  rw [spiritlevelref13_Truth.eq, ce, tm (by omega), hw, hg]
  unfold truth
  split <;> rfl


theorem stC_zero {t c : List Int} : (stC t c).1 = 0 ↔ ∀ l ∈ c, isS t l = 0 := by
  unfold stC
  constructor
  · intro h
    split at h
    · simp at h
    · rename_i h1
      split at h
      · rename_i h2
        intro l hl
        have h3 : ¬ isS t l = 1 := fun e => h1 (List.any_eq_true.2 ⟨l, hl, decide_eq_true e⟩)
        have h4 : ¬ isS t l = 2 := fun e => by
          have : l ∈ c.filter (fun l => decide (isS t l = 2)) := List.mem_filter.2 ⟨hl, decide_eq_true e⟩
          rw [h2] at this; cases this
        rcases isS_cases t l with h | h | h <;> omega
      · simp at h
      · simp at h
  · intro h
    have h1 : ¬ (c.any (fun l => decide (isS t l = 1)) = true) := by
      rw [List.any_eq_true]
      rintro ⟨l, hl, he⟩
      have := h l hl
      have := of_decide_eq_true he
      omega
    have h2 : c.filter (fun l => decide (isS t l = 2)) = [] := by
      rw [List.filter_eq_nil_iff]
      intro l hl he
      have := h l hl
      have := of_decide_eq_true he
      omega
    rw [if_neg h1, h2]

theorem stC_one {t c : List Int} : (stC t c).1 = 1 ↔ ∃ l ∈ c, isS t l = 1 := by
  unfold stC
  constructor
  · intro h
    split at h
    · rename_i h1
      obtain ⟨l, hl, he⟩ := List.any_eq_true.1 h1
      exact ⟨l, hl, of_decide_eq_true he⟩
    · split at h <;> simp at h
  · rintro ⟨l, hl, he⟩
    rw [if_pos (List.any_eq_true.2 ⟨l, hl, decide_eq_true he⟩)]

theorem stC_three {t c : List Int} (h : (stC t c).1 = 3) : (stC t c).2 ∈ c ∧ isS t (stC t c).2 = 2 ∧ ∀ l ∈ c, l ≠ (stC t c).2 → isS t l = 0 := by
  obtain ⟨h1, h2⟩ := stC_unit h
  refine ⟨h1, h2, fun l hl hne => ?_⟩
  unfold stC at h hne
  split at h
  · simp at h
  · rename_i h3
    rw [if_neg h3] at hne
    have h4 : ¬ isS t l = 1 := fun e => h3 (List.any_eq_true.2 ⟨l, hl, decide_eq_true e⟩)
    split at h
    · simp at h
    · rename_i x hx
      rw [hx] at hne
      have h5 : ¬ isS t l = 2 := fun e => by
        have : l ∈ c.filter (fun l => decide (isS t l = 2)) := List.mem_filter.2 ⟨hl, decide_eq_true e⟩
        rw [hx] at this
        exact hne (List.mem_singleton.1 this)
      rcases isS_cases t l with h | h | h <;> omega
    · simp at h

theorem okC.nodup {v : Int} {c : List Int} (h : okC v c) : c.Nodup := h.2.imp fun hab e => by rw [e] at hab; omega

theorem stC_three_of {v : Int} {t c : List Int} (hc : okC v c) {x : Int} (hx : x ∈ c) (h2 : isS t x = 2) (h0 : ∀ l ∈ c, l ≠ x → isS t l = 0) : stC t c = (3, x) := by
  unfold stC
  have h1 : ¬ (c.any (fun l => decide (isS t l = 1)) = true) := by
    rw [List.any_eq_true]
    rintro ⟨l, hl, he⟩
    have he := of_decide_eq_true he
    by_cases hlx : l = x
    · subst hlx; omega
    · have := h0 l hl hlx; omega
  have hf : c.filter (fun l => decide (isS t l = 2)) = [x] := by
    have hnd : (c.filter (fun l => decide (isS t l = 2))).Nodup := hc.nodup.filter _
    have hmem : ∀ l, l ∈ c.filter (fun l => decide (isS t l = 2)) ↔ l = x := by
      intro l
      rw [List.mem_filter, decide_eq_true_iff]
      constructor
      · rintro ⟨h1, h3⟩
        apply Classical.byContradiction
        intro hne
        have := h0 l h1 hne
        omega
      · rintro rfl; exact ⟨hx, h2⟩
    cases hl : c.filter (fun l => decide (isS t l = 2)) with
    | nil => have := (hmem x).2 rfl; rw [hl] at this; cases this
    | cons a r =>
      rw [hl] at hmem hnd
      have ha : a = x := (hmem a).1 (by simp)
      cases r with
      | nil => rw [ha]
      | cons b r =>
        have hb : b = x := (hmem b).1 (by simp)
        rw [ha, hb] at hnd
        simp at hnd
  rw [if_neg h1, hf]


theorem prop_models {v : Int} {s : List Int} {L : List (List Int)} (hL : okL v L) {W : List Bool} (hm : ∀ c ∈ L, c.any (truth W) = true) : ∀ (n : Nat) {t : List Int}, okA v t s → (∀ l ∈ t, truth W l = true) → (propC L n t).2 < 0 ∧ ∀ l ∈ (propC L n t).1, truth W l = true
  | 0, t, h, ht => ⟨by simp [propC], ht⟩
  | n + 1, t, h, ht => by
    have hfalse : ∀ l, 2 ≤ l → isS t l = 0 → truth W l = false := fun l h2 h0 => by
      have := ht _ ((isS_false h.dis).1 h0)
      rw [truth_neg h2] at this
      simpa using this
    have hff : ffC t 0 L < 0 := by
      rcases ffC_lt t L 0 with h1 | h1
      · omega
      · exfalso
        obtain ⟨i, hi⟩ : ∃ i : Nat, ffC t 0 L = (i : Int) := ⟨(ffC t 0 L).toNat, by omega⟩
        have hlt : i < L.length := by omega
        have h0 := (ffC_spec (t := t) (L := L) (k := 0) i hlt).2.1 (by omega) (by omega)
        have hc := hL _ (List.getElem_mem hlt)
        obtain ⟨l, hl, hlt2⟩ := List.any_eq_true.1 (hm _ (List.getElem_mem hlt))
        rw [hfalse l (hc.1 l hl).1 (stC_zero.1 h0 l hl)] at hlt2
        cases hlt2
    simp only [propC]
    split
    · exact ⟨hff, ht⟩
    · rename_i hc
      rw [not_or] at hc
      obtain ⟨hx, hf⟩ := fuC_lit hL hc.2
      refine prop_models hL hm n (h.push hx hf) fun l hl => ?_
      rcases List.mem_append.1 hl with hl | hl
      · exact ht l hl
      · have hlx := List.mem_singleton.1 hl
        subst hlx
        obtain ⟨c, hcm, he⟩ := fuC_spec hc.2
        obtain ⟨g1, g2, g3⟩ := stC_three (t := t) (c := c) (by rw [he])
        rw [he] at g1 g2 g3
        obtain ⟨l, hl, hlt⟩ := List.any_eq_true.1 (hm c hcm)
        by_cases hlx : l = fuC t L
        · rw [hlx] at hlt; exact hlt
        · rw [hfalse l ((hL c hcm).1 l hl).1 (g3 l hl hlx)] at hlt; cases hlt


theorem isS_sub {v : Int} {t Y s s' : List Int} (h : okA v t s) (hY : okA v Y s') (hs : ∀ l ∈ t, l ∈ Y) {l : Int} : (isS t l = 0 → isS Y l = 0) ∧ (isS t l = 1 → isS Y l = 1) :=
  ⟨fun h0 => (isS_false hY.dis).2 (hs _ ((isS_false h.dis).1 h0)), fun h1 => (isS_true hY.dis).2 (hs _ ((isS_true h.dis).1 h1))⟩

theorem prop_sub {v : Int} {s s' : List Int} {L : List (List Int)} (hL : okL v L) {Y : List Int} (hY : okA v Y s') (hcl : ∀ c ∈ L, (stC Y c).1 ≠ 0 ∧ (stC Y c).1 ≠ 3) : ∀ (n : Nat) {t : List Int}, okA v t s → (∀ l ∈ t, l ∈ Y) → (propC L n t).2 < 0 ∧ ∀ l ∈ (propC L n t).1, l ∈ Y
  | 0, t, h, ht => ⟨by simp [propC], ht⟩
  | n + 1, t, h, ht => by
    have hff : ffC t 0 L < 0 := by
      rcases ffC_lt t L 0 with h1 | h1
      · omega
      · exfalso
        obtain ⟨i, hi⟩ : ∃ i : Nat, ffC t 0 L = (i : Int) := ⟨(ffC t 0 L).toNat, by omega⟩
        have hlt : i < L.length := by omega
        have h0 := (ffC_spec (t := t) (L := L) (k := 0) i hlt).2.1 (by omega) (by omega)
        exact (hcl _ (List.getElem_mem hlt)).1 (stC_zero.2 fun l hl => (isS_sub h hY ht).1 (stC_zero.1 h0 l hl))
    simp only [propC]
    split
    · exact ⟨hff, ht⟩
    · rename_i hc
      rw [not_or] at hc
      obtain ⟨hx, hf⟩ := fuC_lit hL hc.2
      refine prop_sub hL hY hcl n (h.push hx hf) fun l hl => ?_
      rcases List.mem_append.1 hl with hl | hl
      · exact ht l hl
      · have hlx := List.mem_singleton.1 hl
        subst hlx
        obtain ⟨c, hcm, he⟩ := fuC_spec hc.2
        obtain ⟨g1, g2, g3⟩ := stC_three (t := t) (c := c) (by rw [he])
        rw [he] at g1 g2 g3
        have g3' : ∀ l ∈ c, l ≠ fuC t L → isS Y l = 0 := fun l hl hne => (isS_sub h hY ht).1 (g3 l hl hne)
        rcases isS_cases Y (fuC t L) with h0 | h1 | h2
        · exact absurd (stC_zero.2 fun l hl => by
            by_cases hlx : l = fuC t L
            · rw [hlx]; exact h0
            · exact g3' l hl hlx) (hcl c hcm).1
        · exact (isS_true hY.dis).1 h1
        · exact absurd (by rw [stC_three_of (hL c hcm) g1 h2 g3']) (hcl c hcm).2

theorem prop_closed {v : Int} {s : List Int} {L : List (List Int)} (hL : okL v L) {t : List Int} (h : okA v t s) (hat : (propC L (v + 1).toNat t).2 < 0) : ∀ c ∈ L, (stC (propC L (v + 1).toNat t).1 c).1 ≠ 0 ∧ (stC (propC L (v + 1).toNat t).1 c).1 ≠ 3 := by
  obtain ⟨h1, h2⟩ := propC_end hL (v + 1).toNat h (by have := h.vars; omega)
  have hff : ffC (propC L (v + 1).toNat t).1 0 L = -1 := by
    have := ffC_lt (propC L (v + 1).toNat t).1 L 0; omega
  intro c hc
  obtain ⟨i, hi, rfl⟩ := List.getElem_of_mem hc
  exact ⟨(ffC_spec (L := L) (k := 0) i hi).2.2 hff (by omega), fuC_zero (fun c hc l hl => by have := (hL c hc).1 l hl; omega) (h2.resolve_left (by omega)) _ (List.getElem_mem hi)⟩


theorem ref13_Sorted.ins {l : List Int} {i : Int} : ∀ (A : List Int) (x : Int) (B : List Int), (A ++ B).Pairwise (· < ·) → (∀ b ∈ B, x < b) → x ∉ A → (A ++ x :: B).length ≤ 140737488351232 →
    ∃ S, spiritlevelref13_Sorted.l1 l i (A.length : Int) (A ++ x :: B) = spiritlevelref13_Sorted.l0 l (IntKind.wrap .i64 (i + 1)) S ∧ S.Pairwise (· < ·) ∧ (∀ y, y ∈ S ↔ y ∈ A ++ x :: B) ∧ S.length = (A ++ x :: B).length := by
  intro A
  generalize hn : A.length = n
  induction n generalizing A with
  | zero =>
    intro x B hs hx hxA hlen
    have hA : A = [] := List.eq_nil_of_length_eq_zero hn
    subst hA
    refine ⟨x :: B, ?_, ?_, fun y => Iff.rfl, rfl⟩
    · rw [spiritlevelref13_Sorted.l1_eq, cd, if_neg (by omega)]; rfl
    · exact List.pairwise_cons.2 ⟨hx, by simpa using hs⟩
  | succ n ih =>
    intro x B hs hx hxA hlen
    obtain ⟨A', z, rfl⟩ : ∃ A' z, A = A' ++ [z] := by
      have hne : A ≠ [] := fun e => by subst e; simp at hn
      exact ⟨A.dropLast, A.getLast hne, (List.dropLast_concat_getLast hne).symm⟩
    have hA' : A'.length = n := by simpa using hn
    have hk : (n + 1 : Nat) < (A' ++ [z] ++ x :: B).length := by simp; omega
    have hk1 : n < (A' ++ [z] ++ x :: B).length := by simp; omega
    have hkx : (A' ++ [z] ++ x :: B)[n + 1]? = some x := by
      rw [List.getElem?_append_right (by simp; omega)]; simp [hA']
    have hkz : (A' ++ [z] ++ x :: B)[n]? = some z := by
      rw [List.append_assoc, List.getElem?_append_right (by omega)]; simp [hA']
    have hw : IntKind.wrap .i64 (((n + 1 : Nat) : Int) - 1) = (n : Int) := by rw [wr] <;> simp only [List.length_append] at hlen <;> omega
    have ht1 : (((n + 1 : Nat) : Int)).toNat = n + 1 := by omega
    have ht0 : ((n : Int)).toNat = n := by omega
    have hset : ((A' ++ [z] ++ x :: B).set (n + 1) z).set n x = A' ++ x :: (z :: B) := by
      rw [List.set_append, if_neg (by simp; omega), List.append_assoc, List.set_append, if_neg (by omega)]
      simp [hA']
    rw [spiritlevelref13_Sorted.l1_eq, cd, if_pos (by omega)]
    simp only [hw, gi, hkx, hkz, ht1, ht0, Option.bind_some, cd]
    have hz : (List.set (A' ++ [z] ++ x :: B) (n + 1) z)[n]? = some z := by
      rw [List.getElem?_set_ne (by omega)]; exact hkz
    by_cases hlt : x < z
    · rw [if_pos hlt]
      simp only [hz, Option.bind_some, hset]
      obtain ⟨S, h1, h2, h3, h4⟩ := ih A' hA' x (z :: B) (by simpa using hs) (fun b hb => by
        rcases List.mem_cons.1 hb with rfl | hb
        · exact hlt
        · exact hx b hb) (fun h => hxA (by simp [h])) (by simp at hlen ⊢; omega)
      refine ⟨S, h1, h2, fun y => ?_, by rw [h4]; simp⟩
      rw [h3]; simp only [List.mem_append, List.mem_cons, List.not_mem_nil, or_false, or_assoc]
      constructor
      · rintro (h | h | h | h)
        · exact .inl h
        · exact .inr (.inr (.inl h))
        · exact .inr (.inl h)
        · exact .inr (.inr (.inr h))
      · rintro (h | h | h | h)
        · exact .inl h
        · exact .inr (.inr (.inl h))
        · exact .inr (.inl h)
        · exact .inr (.inr (.inr h))
    · rw [if_neg hlt]
      refine ⟨A' ++ [z] ++ x :: B, rfl, ?_, fun y => Iff.rfl, rfl⟩
      have hzx : z < x := by
        have : z ≠ x := fun e => hxA (by simp [e])
        omega
      rw [List.pairwise_append] at hs ⊢
      obtain ⟨s1, s2, s3⟩ := hs
      refine ⟨s1, List.pairwise_cons.2 ⟨hx, s2⟩, fun a ha b hb => ?_⟩
      rcases List.mem_cons.1 hb with rfl | hb
      · rw [List.pairwise_append] at s1
        rcases List.mem_append.1 ha with ha | ha
        · exact Int.lt_trans (s1.2.2 a ha z (by simp)) hzx
        · rw [List.mem_singleton.1 ha]; exact hzx
      · exact s3 a ha b hb

theorem ref13_Sorted.loop {l : List Int} (hl : l.length ≤ 68719476736) : ∀ (n i : Nat) (o : List Int), i + n = l.length → o.length ≤ i → o.Pairwise (· < ·) →
    ∃ S, spiritlevelref13_Sorted.l0 l (i : Int) o = some S ∧ S.Pairwise (· < ·) ∧ (∀ y, y ∈ S ↔ y ∈ o ∨ y ∈ l.drop i) ∧ ((l.drop i).Nodup → (∀ y ∈ l.drop i, y ∉ o) → S.length = o.length + n)
  | 0, i, o, hi, ho, hs => by
    refine ⟨o, ?_, hs, fun y => ?_, fun _ _ => rfl⟩
    · rw [spiritlevelref13_Sorted.l0_eq, cd, if_neg (by omega)]
    · rw [List.drop_of_length_le (by omega)]; simp
  | n + 1, i, o, hi, ho, hs => by
    have hlt : i < l.length := by omega
    have hw : IntKind.wrap .i64 ((i : Int) + 1) = ((i + 1 : Nat) : Int) := by rw [wr] <;> omega
    rw [spiritlevelref13_Sorted.l0_eq, cd, if_pos (by omega), gsome hlt, Option.bind_some, ref13_Has_eq (by omega), Option.bind_some, cd, drop_cons hlt]
    by_cases hm : l[i] ∈ o
    · rw [if_pos hm, hw]
      obtain ⟨S, h1, h2, h3, h4⟩ := ref13_Sorted.loop hl n (i + 1) o (by omega) (by omega) hs
      refine ⟨S, h1, h2, fun y => ?_, fun _ hno => absurd hm (hno _ (List.mem_cons_self ..))⟩
      rw [h3, List.mem_cons]
      constructor
      · rintro (h | h)
        · exact .inl h
        · exact .inr (.inr h)
      · rintro (h | h | h)
        · exact .inl h
        · subst h; exact .inl hm
        · exact .inr h
    · rw [if_neg hm, Option.bind_some, app_ok (by rw [List.length_singleton]; omega), Option.bind_some]
      have hw2 : IntKind.wrap .i64 (((o ++ [l[i]]).length : Int) - 1) = (o.length : Int) := by rw [List.length_append, List.length_singleton, wr] <;> omega
      rw [hw2]
      obtain ⟨S, h1, h2, h3, h4⟩ := ref13_Sorted.ins (l := l) (i := (i : Int)) o l[i] [] (by simpa using hs) (by simp) hm (by rw [List.length_append, List.length_singleton]; omega)
      rw [h1, hw]
      obtain ⟨S', g1, g2, g3, g4⟩ := ref13_Sorted.loop hl n (i + 1) S (by omega) (by rw [h4, List.length_append, List.length_singleton]; omega) h2
      refine ⟨S', g1, g2, fun y => ?_, fun hnd hno => ?_⟩
      · rw [g3, h3, List.mem_append, List.mem_cons, List.mem_cons, or_assoc]; simp only [List.not_mem_nil, or_false]
      · rw [List.nodup_cons] at hnd
        have := g4 hnd.2 (fun y hy hyS => by
          rw [h3, List.mem_append, List.mem_singleton] at hyS
          rcases hyS with h | h
          · exact hno y (List.mem_cons_of_mem _ hy) h
          · subst h; exact hnd.1 hy)
        rw [this, h4, List.length_append, List.length_singleton]; omega

theorem ref13_Sorted_ok {l : List Int} (hl : l.length ≤ 68719476736) : ∃ S, spiritlevelref13_Sorted l = some S ∧ S.Pairwise (· < ·) ∧ (∀ y, y ∈ S ↔ y ∈ l) ∧ (l.Nodup → S.length = l.length) := by
  rw [spiritlevelref13_Sorted.eq]
  obtain ⟨S, h1, h2, h3, h4⟩ := ref13_Sorted.loop hl l.length 0 [] (by omega) (by simp) List.Pairwise.nil
  refine ⟨S, h1, h2, fun y => by rw [h3]; simp, fun hnd => ?_⟩
  have := h4 (by simpa using hnd) (by simp)
  simpa using this

theorem sorted_unique : ∀ {a b : List Int}, a.Pairwise (· < ·) → b.Pairwise (· < ·) → (∀ y, y ∈ a ↔ y ∈ b) → a = b
  | [], [], _, _, _ => rfl
  | [], y :: b, _, _, h => by have := (h y).2 (by simp); cases this
  | x :: a, [], _, _, h => by have := (h x).1 (by simp); cases this
  | x :: a, y :: b, ha, hb, h => by
    rw [List.pairwise_cons] at ha hb
    have hxy : x = y := by
      have h1 := (h x).1 (by simp)
      have h2 := (h y).2 (by simp)
      rcases List.mem_cons.1 h1 with h1 | h1
      · exact h1
      · rcases List.mem_cons.1 h2 with h2 | h2
        · exact h2.symm
        · have := ha.1 y h2; have := hb.1 x h1; omega
    subst hxy
    congr 1
    refine sorted_unique ha.2 hb.2 fun z => ?_
    constructor
    · intro hz
      rcases List.mem_cons.1 ((h z).1 (List.mem_cons_of_mem _ hz)) with h1 | h1
      · subst h1; have := ha.1 z hz; omega
      · exact h1
    · intro hz
      rcases List.mem_cons.1 ((h z).2 (List.mem_cons_of_mem _ hz)) with h1 | h1
      · subst h1; have := hb.1 z hz; omega
      · exact h1

theorem okA.nodup {v : Int} {t s : List Int} (h : okA v t s) : t.Nodup := h.dis.imp fun hab e => hab (by rw [e])

end Go.Proofs.YthbkhndapkbgbaaGreat
