/- . -/
import Derived.Test.YthbkhndapkbgbaaGreatPA1
namespace Go.Proofs.YthbkhndapkbgbaaGreat
open Go Go.Proofs.YthbkhndapkbgbaaGreat.R
set_option linter.unusedVariables false


def keep (t s : List Int) (k : Nat) : Nat := match s[k]? with | some n => n.toNat | none => t.length

theorem keep_iff {v : Int} {t s : List Int} (h : okA v t s) {k i : Nat} (hk : k ≤ s.length) (hi : i < t.length) : (cntLE s (i : Int) ≤ k) ↔ i < keep t s k := by
  unfold keep
  by_cases hlt : k < s.length
  · have := cntLE_lt (i := (i : Int)) h.inc k hlt
    have hb := h.bnd _ (List.getElem_mem hlt)
    rw [List.getElem?_eq_getElem hlt]
    simp only
    constructor
    · intro h1
      apply Classical.byContradiction
      intro h2
      have := this.1 (by omega)
      omega
    · intro h1
      apply Classical.byContradiction
      intro h2
      have := this.2 (by omega)
      omega
  · rw [List.getElem?_eq_none (by omega)]
    have := cntLE_le (s := s) (i := (i : Int))
    simp only
    omega


section
variable {v : Int} {t s : List Int} {lit : Int}

end


theorem undC_ok {v : Int} {t s : List Int} (h : okA v t s) {k : Int} (hk : 0 ≤ k ∧ k ≤ s.length) : undC v t s k = ((v, (t.take (keep t s k.toNat), s.take k.toNat)), 0) := by
  unfold undC keep
  rw [if_pos h, if_pos hk]
  cases s[k.toNat]? with
  | none => simp
  | some n => rfl

theorem keep_le {v : Int} {t s : List Int} (h : okA v t s) (k : Nat) : keep t s k ≤ t.length := by
  unfold keep
  by_cases hlt : k < s.length
  · have hb := h.bnd _ (List.getElem_mem hlt)
    rw [List.getElem?_eq_getElem hlt]; simp only; omega
  · rw [List.getElem?_eq_none (by omega)]; simp

theorem okA.undone {v : Int} {t s : List Int} (h : okA v t s) {k : Nat} (hk : k ≤ s.length) : okA v (t.take (keep t s k)) (s.take k) where
  vars := h.vars
  lits := fun l hl => h.lits l (List.mem_of_mem_take hl)
  dis := h.dis.sublist (List.take_sublist ..)
  inc := h.inc.sublist (List.take_sublist ..)
  bnd := fun x hx => by
    have hb := h.bnd x (List.mem_of_mem_take hx)
    refine ⟨hb.1, ?_⟩
    rw [List.length_take, Nat.min_eq_left (keep_le h k)]
    unfold keep
    by_cases hlt : k < s.length
    · rw [List.getElem?_eq_getElem hlt]
      simp only
      obtain ⟨i, hi, rfl⟩ := List.getElem_of_mem hx
      have hik : i < k := by rw [List.length_take] at hi; omega
      have := List.pairwise_iff_getElem.1 h.inc i k (by omega) hlt hik
      have hb2 := h.bnd _ (List.getElem_mem hlt)
      rw [List.getElem_take] at hb ⊢
      omega
    · rw [List.getElem?_eq_none (by omega)]; simp only; omega

theorem idxC_neg (l : Int) : ∀ (t : List Int) (k : Int), idxC (neg l) k t = idxC l k t
  | [], k => rfl
  | a :: r, k => by simp only [idxC, neg_div, idxC_neg l r]

theorem idxC_none {l : Int} : ∀ {t : List Int} {k : Int}, 0 ≤ k → (idxC l k t < 0 ↔ isS t l = 2)
  | [], k, _ => by simp [idxC, isS]
  | a :: r, k, hk => by
    have ih := idxC_none (l := l) (t := r) (k := k + 1) (by omega)
    rw [isS_none] at ih ⊢
    simp only [idxC]
    by_cases h : a / 2 = l / 2
    · rw [if_pos h]
      exact ⟨fun h2 => by omega, fun h2 => absurd h (h2 a (List.mem_cons_self ..))⟩
    · rw [if_neg h, ih]
      constructor
      · intro h2 b hb
        rcases List.mem_cons.1 hb with rfl | hb
        · exact h
        · exact h2 b hb
      · exact fun h2 b hb => h2 b (List.mem_cons_of_mem _ hb)

end Go.Proofs.YthbkhndapkbgbaaGreat
