/- Assignments, of plain values: AssignLevels, AssignBack, AssignNames. -/
import Derived.Test.YthbkhndapkbgbaaGreatPA2
namespace Go.Proofs.YthbkhndapkbgbaaGreat
open Go Go.Proofs.YthbkhndapkbgbaaGreat.R
set_option linter.unusedVariables false

theorem okA.dec {v : Int} {t s : List Int} (h : okA v t s) {x : Int} (hx : isLit v x) (hf : isS t x = 2) : okA v (t ++ [x]) (s ++ [(t.length : Int)]) := by
  have h3 := h.push hx hf
  refine { h3 with inc := ?_, bnd := fun y hy => ?_ }
  · rw [List.pairwise_append]
    refine ⟨h.inc, by simp, fun x hx y hy => ?_⟩
    rw [List.mem_singleton.1 hy]
    exact (h.bnd x hx).2
  · rw [List.length_append, List.length_singleton]
    rcases List.mem_append.1 hy with hy | hy
    · have := h.bnd y hy; omega
    · rw [List.mem_singleton.1 hy]; omega

theorem putC_cases (v : Int) (t s : List Int) (l : Int) (d : Bool) : (putC v t s l d).2 ≠ 0 ∨ (putC v t s l d = ((v, (t ++ [l], if d then s ++ [(t.length : Int)] else s)), 0) ∧ isLit v l ∧ isS t l = 2) := by
  unfold putC
  by_cases h : okA v t s
  · by_cases h2 : isLit v l
    · by_cases h3 : isS t l = 2
      · rw [if_pos h, if_pos h2, if_pos h3]; exact .inr ⟨rfl, h2, h3⟩
      · rw [if_pos h, if_pos h2, if_neg h3]; exact .inl (by decide)
    · rw [if_pos h, if_neg h2]; exact .inl (by decide)
  · rw [if_neg h]; exact .inl (by decide)

theorem putC_err (v : Int) (t s : List Int) (l : Int) : (putC v t s l true).2 = (putC v t s l false).2 := by
  unfold putC
  split
  · split
    · split <;> rfl
    · rfl
  · rfl

theorem cntLE_step : ∀ {s : List Int} {i : Int}, s.Pairwise (· < ·) → cntLE s i = cntLE s (i - 1) + if i ∈ s then 1 else 0
  | [], i, _ => by simp [cntLE]
  | a :: r, i, hs => by
    rw [List.pairwise_cons] at hs
    have ih := cntLE_step (i := i) hs.2
    unfold cntLE at ih ⊢
    rw [List.filter_cons, List.filter_cons]
    by_cases h1 : a ≤ i - 1
    · rw [if_pos (decide_eq_true (show a ≤ i by omega)), if_pos (decide_eq_true h1), List.length_cons, List.length_cons, ih]
      have : (i ∈ a :: r) ↔ i ∈ r := by
        rw [List.mem_cons]
        exact ⟨fun h => h.resolve_left (by omega), .inr⟩
      simp only [this]
      omega
    · have h0 : ∀ j : Int, j ≤ i → r.filter (fun x => decide (x ≤ j)) = [] := fun j hj => by
        rw [List.filter_eq_nil_iff]
        intro x hx hxi
        have := hs.1 x hx
        have := of_decide_eq_true hxi
        omega
      rw [if_neg (show ¬ decide (a ≤ i - 1) = true by simpa using h1), h0 i (by omega), h0 (i - 1) (by omega)]
      by_cases h2 : a = i
      · subst h2
        rw [if_pos (decide_eq_true (Int.le_refl _)), if_pos (List.mem_cons_self ..)]; rfl
      · rw [if_neg (by simp; omega), if_neg]
        · rfl
        · intro hm
          rcases List.mem_cons.1 hm with h | h
          · exact h2 h.symm
          · have := hs.1 i h; omega

theorem idxC_at : ∀ {t : List Int} {k : Int} (i : Nat) (hi : i < t.length), t.Pairwise (fun a b => a / 2 ≠ b / 2) → idxC t[i] k t = k + i
  | a :: r, k, 0, hi, _ => by simp [idxC]
  | a :: r, k, i + 1, hi, hd => by
    rw [List.pairwise_cons] at hd
    have hlt : i < r.length := by simpa using hi
    have := hd.1 _ (List.getElem_mem hlt)
    simp only [List.getElem_cons_succ, idxC]
    rw [if_neg this, idxC_at i hlt hd.2]
    omega

theorem cntLE_all {s : List Int} {n : Int} (h : ∀ x ∈ s, x ≤ n) : cntLE s n = s.length := by
  unfold cntLE
  rw [List.filter_eq_self.2 fun x hx => decide_eq_true (h x hx)]

theorem levC_at {v : Int} {t s : List Int} (h : okA v t s) (i : Nat) (hi : i < t.length) : levC v t s t[i] = ((cntLE s (i : Int) : Int), 0) := by
  unfold levC
  rw [if_pos h, if_pos (h.lits _ (List.getElem_mem hi)), idxC_at i hi h.dis, if_neg (by omega), Int.zero_add]

theorem levC_last {v : Int} {t s : List Int} {l : Int} (h : okA v (t ++ [l]) s) : levC v (t ++ [l]) s l = ((s.length : Int), 0) := by
  have hi : t.length < (t ++ [l]).length := by simp
  have := levC_at h t.length hi
  rw [List.getElem_append_right (by omega)] at this
  simp only [Nat.sub_self, List.getElem_singleton] at this
  rw [this, cntLE_all]
  intro x hx
  have := h.bnd x hx
  rw [List.length_append, List.length_singleton] at this
  omega

end Go.Proofs.YthbkhndapkbgbaaGreat
