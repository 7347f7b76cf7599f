/- Plain values: models, closed sets of literals, sorted lists. -/
import Derived.Test.YtcgbilghglbgaaaP4
namespace Go.Proofs.Ytcgbilghglbgaaa
open Go Go.Proofs.Ytcgbilghglbgaaa.R
set_option linter.unusedVariables false

/-! ### Truth -/

def truth (W : List Bool) (l : Int) : Bool := if l % 2 = 1 then !(W.getD (l / 2 - 1).toNat false) else W.getD (l / 2 - 1).toNat false

theorem truth_neg {W : List Bool} {l : Int} (h : 2 ≤ l) : truth W (neg l) = !truth W l := by
  unfold truth
  rw [neg_div]
  unfold neg
  by_cases h2 : l % 2 = 0
  · rw [if_pos h2, if_pos (show (l + 1) % 2 = 1 by omega), if_neg (show ¬ l % 2 = 1 by omega)]
  · rw [if_neg h2, if_neg (show ¬ (l - 1) % 2 = 1 by omega), if_pos (show l % 2 = 1 by omega)]; simp

/-! ### States of clauses, told -/

theorem stC_zero {t c : List Int} : (stC t c).1 = 0 ↔ ∀ l ∈ c, isS t l = 0 := by
  unfold stC
  constructor
  · intro h
    split at h
    · simp at h
    · rename_i h1
      split at h
      · rename_i h2
        intro l hl
        have h3 : ¬ isS t l = 1 := fun e => h1 (List.any_eq_true.2 ⟨l, hl, decide_eq_true e⟩)
        have h4 : ¬ isS t l = 2 := fun e => by
          have : l ∈ c.filter (fun l => decide (isS t l = 2)) := List.mem_filter.2 ⟨hl, decide_eq_true e⟩
          rw [h2] at this; cases this
        rcases isS_cases t l with h | h | h <;> omega
      · simp at h
      · simp at h
  · intro h
    have h1 : ¬ (c.any (fun l => decide (isS t l = 1)) = true) := by
      rw [List.any_eq_true]
      rintro ⟨l, hl, he⟩
      have := h l hl
      have := of_decide_eq_true he
      omega
    have h2 : c.filter (fun l => decide (isS t l = 2)) = [] := by
      rw [List.filter_eq_nil_iff]
      intro l hl he
      have := h l hl
      have := of_decide_eq_true he
      omega
    rw [if_neg h1, h2]

theorem stC_one {t c : List Int} : (stC t c).1 = 1 ↔ ∃ l ∈ c, isS t l = 1 := by
  unfold stC
  constructor
  · intro h
    split at h
    · rename_i h1
      obtain ⟨l, hl, he⟩ := List.any_eq_true.1 h1
      exact ⟨l, hl, of_decide_eq_true he⟩
    · split at h <;> simp at h
  · rintro ⟨l, hl, he⟩
    rw [if_pos (List.any_eq_true.2 ⟨l, hl, decide_eq_true he⟩)]

/-- A unit clause: all others are false. -/
theorem stC_three {t c : List Int} (h : (stC t c).1 = 3) : (stC t c).2 ∈ c ∧ isS t (stC t c).2 = 2 ∧ ∀ l ∈ c, l ≠ (stC t c).2 → isS t l = 0 := by
  obtain ⟨h1, h2⟩ := stC_unit h
  refine ⟨h1, h2, fun l hl hne => ?_⟩
  unfold stC at h hne
  split at h
  · simp at h
  · rename_i h3
    rw [if_neg h3] at hne
    have h4 : ¬ isS t l = 1 := fun e => h3 (List.any_eq_true.2 ⟨l, hl, decide_eq_true e⟩)
    split at h
    · simp at h
    · rename_i x hx
      rw [hx] at hne
      have h5 : ¬ isS t l = 2 := fun e => by
        have : l ∈ c.filter (fun l => decide (isS t l = 2)) := List.mem_filter.2 ⟨hl, decide_eq_true e⟩
        rw [hx] at this
        exact hne (List.mem_singleton.1 this)
      rcases isS_cases t l with h | h | h <;> omega
    · simp at h

theorem okC.nodup {v : Int} {c : List Int} (h : okC v c) : c.Nodup := h.2.imp fun hab e => by rw [e] at hab; omega

/-- One that is open, the others false: it is unit. -/
theorem stC_three_of {v : Int} {t c : List Int} (hc : okC v c) {x : Int} (hx : x ∈ c) (h2 : isS t x = 2) (h0 : ∀ l ∈ c, l ≠ x → isS t l = 0) : stC t c = (3, x) := by
  unfold stC
  have h1 : ¬ (c.any (fun l => decide (isS t l = 1)) = true) := by
    rw [List.any_eq_true]
    rintro ⟨l, hl, he⟩
    have he := of_decide_eq_true he
    by_cases hlx : l = x
    · subst hlx; omega
    · have := h0 l hl hlx; omega
  have hf : c.filter (fun l => decide (isS t l = 2)) = [x] := by
    have hnd : (c.filter (fun l => decide (isS t l = 2))).Nodup := hc.nodup.filter _
    have hmem : ∀ l, l ∈ c.filter (fun l => decide (isS t l = 2)) ↔ l = x := by
      intro l
      rw [List.mem_filter, decide_eq_true_iff]
      constructor
      · rintro ⟨h1, h3⟩
        apply Classical.byContradiction
        intro hne
        have := h0 l h1 hne
        omega
      · rintro rfl; exact ⟨hx, h2⟩
    cases hl : c.filter (fun l => decide (isS t l = 2)) with
    | nil => have := (hmem x).2 rfl; rw [hl] at this; cases this
    | cons a r =>
      rw [hl] at hmem hnd
      have ha : a = x := (hmem a).1 (by simp)
      cases r with
      | nil => rw [ha]
      | cons b r =>
        have hb : b = x := (hmem b).1 (by simp)
        rw [ha, hb] at hnd
        simp at hnd
  rw [if_neg h1, hf]

/-! ### What follows -/

theorem prop_models {v : Int} {s : List Int} {L : List (List Int)} (hL : okL v L) {W : List Bool} (hm : ∀ c ∈ L, c.any (truth W) = true) : ∀ (n : Nat) {t : List Int}, okA v t s → (∀ l ∈ t, truth W l = true) → (propC L n t).2 < 0 ∧ ∀ l ∈ (propC L n t).1, truth W l = true
  | 0, t, h, ht => ⟨by simp [propC], ht⟩
  | n + 1, t, h, ht => by
    have hfalse : ∀ l, 2 ≤ l → isS t l = 0 → truth W l = false := fun l h2 h0 => by
      have := ht _ ((isS_false h.dis).1 h0)
      rw [truth_neg h2] at this
      simpa using this
    have hff : ffC t 0 L < 0 := by
      rcases ffC_lt t L 0 with h1 | h1
      · omega
      · exfalso
        obtain ⟨i, hi⟩ : ∃ i : Nat, ffC t 0 L = (i : Int) := ⟨(ffC t 0 L).toNat, by omega⟩
        have hlt : i < L.length := by omega
        have h0 := (ffC_spec (t := t) (L := L) (k := 0) i hlt).2.1 (by omega) (by omega)
        have hc := hL _ (List.getElem_mem hlt)
        obtain ⟨l, hl, hlt2⟩ := List.any_eq_true.1 (hm _ (List.getElem_mem hlt))
        rw [hfalse l (hc.1 l hl).1 (stC_zero.1 h0 l hl)] at hlt2
        cases hlt2
    simp only [propC]
    split
    · exact ⟨hff, ht⟩
    · rename_i hc
      rw [not_or] at hc
      obtain ⟨hx, hf⟩ := fuC_lit hL hc.2
      refine prop_models hL hm n (h.push hx hf) fun l hl => ?_
      rcases List.mem_append.1 hl with hl | hl
      · exact ht l hl
      · have hlx := List.mem_singleton.1 hl
        subst hlx
        obtain ⟨c, hcm, he⟩ := fuC_spec hc.2
        obtain ⟨g1, g2, g3⟩ := stC_three (t := t) (c := c) (by rw [he])
        rw [he] at g1 g2 g3
        obtain ⟨l, hl, hlt⟩ := List.any_eq_true.1 (hm c hcm)
        by_cases hlx : l = fuC t L
        · rw [hlx] at hlt; exact hlt
        · rw [hfalse l ((hL c hcm).1 l hl).1 (g3 l hl hlx)] at hlt; cases hlt

/-! ### Closed sets -/

theorem isS_sub {v : Int} {t Y s s' : List Int} (h : okA v t s) (hY : okA v Y s') (hs : ∀ l ∈ t, l ∈ Y) {l : Int} : (isS t l = 0 → isS Y l = 0) ∧ (isS t l = 1 → isS Y l = 1) :=
  ⟨fun h0 => (isS_false hY.dis).2 (hs _ ((isS_false h.dis).1 h0)), fun h1 => (isS_true hY.dis).2 (hs _ ((isS_true h.dis).1 h1))⟩

theorem prop_sub {v : Int} {s s' : List Int} {L : List (List Int)} (hL : okL v L) {Y : List Int} (hY : okA v Y s') (hcl : ∀ c ∈ L, (stC Y c).1 ≠ 0 ∧ (stC Y c).1 ≠ 3) : ∀ (n : Nat) {t : List Int}, okA v t s → (∀ l ∈ t, l ∈ Y) → (propC L n t).2 < 0 ∧ ∀ l ∈ (propC L n t).1, l ∈ Y
  | 0, t, h, ht => ⟨by simp [propC], ht⟩
  | n + 1, t, h, ht => by
    have hff : ffC t 0 L < 0 := by
      rcases ffC_lt t L 0 with h1 | h1
      · omega
      · exfalso
        obtain ⟨i, hi⟩ : ∃ i : Nat, ffC t 0 L = (i : Int) := ⟨(ffC t 0 L).toNat, by omega⟩
        have hlt : i < L.length := by omega
        have h0 := (ffC_spec (t := t) (L := L) (k := 0) i hlt).2.1 (by omega) (by omega)
        exact (hcl _ (List.getElem_mem hlt)).1 (stC_zero.2 fun l hl => (isS_sub h hY ht).1 (stC_zero.1 h0 l hl))
    simp only [propC]
    split
    · exact ⟨hff, ht⟩
    · rename_i hc
      rw [not_or] at hc
      obtain ⟨hx, hf⟩ := fuC_lit hL hc.2
      refine prop_sub hL hY hcl n (h.push hx hf) fun l hl => ?_
      rcases List.mem_append.1 hl with hl | hl
      · exact ht l hl
      · have hlx := List.mem_singleton.1 hl
        subst hlx
        obtain ⟨c, hcm, he⟩ := fuC_spec hc.2
        obtain ⟨g1, g2, g3⟩ := stC_three (t := t) (c := c) (by rw [he])
        rw [he] at g1 g2 g3
        have g3' : ∀ l ∈ c, l ≠ fuC t L → isS Y l = 0 := fun l hl hne => (isS_sub h hY ht).1 (g3 l hl hne)
        rcases isS_cases Y (fuC t L) with h0 | h1 | h2
        · exact absurd (stC_zero.2 fun l hl => by
            by_cases hlx : l = fuC t L
            · rw [hlx]; exact h0
            · exact g3' l hl hlx) (hcl c hcm).1
        · exact (isS_true hY.dis).1 h1
        · exact absurd (by rw [stC_three_of (hL c hcm) g1 h2 g3']) (hcl c hcm).2

/-- What is left without a conflict is closed. -/
theorem prop_closed {v : Int} {s : List Int} {L : List (List Int)} (hL : okL v L) {t : List Int} (h : okA v t s) (hat : (propC L (v + 1).toNat t).2 < 0) : ∀ c ∈ L, (stC (propC L (v + 1).toNat t).1 c).1 ≠ 0 ∧ (stC (propC L (v + 1).toNat t).1 c).1 ≠ 3 := by
  obtain ⟨h1, h2⟩ := propC_end hL (v + 1).toNat h (by have := h.vars; omega)
  have hff : ffC (propC L (v + 1).toNat t).1 0 L = -1 := by
    have := ffC_lt (propC L (v + 1).toNat t).1 L 0; omega
  intro c hc
  obtain ⟨i, hi, rfl⟩ := List.getElem_of_mem hc
  exact ⟨(ffC_spec (L := L) (k := 0) i hi).2.2 hff (by omega), fuC_zero (fun c hc l hl => by have := (hL c hc).1 l hl; omega) (h2.resolve_left (by omega)) _ (List.getElem_mem hi)⟩

/-! ### Parts and sorted lists -/

theorem sorted_unique : ∀ {a b : List Int}, a.Pairwise (· < ·) → b.Pairwise (· < ·) → (∀ y, y ∈ a ↔ y ∈ b) → a = b
  | [], [], _, _, _ => rfl
  | [], y :: b, _, _, h => by have := (h y).2 (by simp); cases this
  | x :: a, [], _, _, h => by have := (h x).1 (by simp); cases this
  | x :: a, y :: b, ha, hb, h => by
    rw [List.pairwise_cons] at ha hb
    have hxy : x = y := by
      have h1 := (h x).1 (by simp)
      have h2 := (h y).2 (by simp)
      rcases List.mem_cons.1 h1 with h1 | h1
      · exact h1
      · rcases List.mem_cons.1 h2 with h2 | h2
        · exact h2.symm
        · have := ha.1 y h2; have := hb.1 x h1; omega
    subst hxy
    congr 1
    refine sorted_unique ha.2 hb.2 fun z => ?_
    constructor
    · intro hz
      rcases List.mem_cons.1 ((h z).1 (List.mem_cons_of_mem _ hz)) with h1 | h1
      · subst h1; have := ha.1 z hz; omega
      · exact h1
    · intro hz
      rcases List.mem_cons.1 ((h z).2 (List.mem_cons_of_mem _ hz)) with h1 | h1
      · subst h1; have := hb.1 z hz; omega
      · exact h1

theorem okA.nodup {v : Int} {t s : List Int} (h : okA v t s) : t.Nodup := h.dis.imp fun hab e => hab (by rw [e])

end Go.Proofs.Ytcgbilghglbgaaa
