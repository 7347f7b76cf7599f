/- . -/
import Derived.Test.YthbkhndapkbgbaaGreatPD4
namespace Go.Proofs.YthbkhndapkbgbaaGreat
open Go Go.Proofs.YthbkhndapkbgbaaGreat.R
set_option linter.unusedVariables false

theorem nextL_spec {v : Int} {t : List Int} : ∀ (n : Nat) {h : List Int}, okH h → h.length < n → ((∀ x ∈ h, ¬ free v t x) ∧ nextL v t n h = (0, [], 6)) ∨
    ∃ m r, nextL v t n h = (m, r, 0) ∧ okH r ∧ m ∈ h ∧ free v t m ∧ (∀ x ∈ h, free v t x → m ≤ x) ∧ (∀ x ∈ h, x ∈ r ↔ m < x) ∧ ∀ x ∈ r, x ∈ h
  | 0, h, k, hn => by omega
  | n + 1, h, k, hn => by
    simp only [nextL]
    by_cases c1 : h.length = 0
    · rw [if_pos c1]
      rw [List.length_eq_zero_iff] at c1
      subst c1
      exact .inl ⟨by simp, rfl⟩
    · have hne := ne_nil c1
      have h0 : 0 < h.length := by omega
      rw [if_neg c1]
      by_cases c2 : free v t (gd h 0)
      · rw [if_pos c2]
        refine .inr ⟨_, _, rfl, k.popped hne, gd_mem h0, c2, fun x hx _ => k.least hx, fun x hx => ?_, fun x hx => ((mem_popped k hne).1 hx).1⟩
        rw [mem_popped k hne]
        have := k.least hx
        exact ⟨fun h => by have := h.2; omega, fun h => ⟨hx, by omega⟩⟩
      · rw [if_neg c2]
        have hpl := popped_len (h := h)
        rcases nextL_spec n (k.popped hne) (by omega) with ⟨h1, h2⟩ | ⟨m, r, h1, h2, h3, h4, h5, h6, h7⟩
        · refine .inl ⟨fun x hx hf => ?_, h2⟩
          by_cases e : x = gd h 0
          · exact c2 (e ▸ hf)
          · exact h1 x ((mem_popped k hne).2 ⟨hx, e⟩) hf
        · refine .inr ⟨m, r, h1, h2, ((mem_popped k hne).1 h3).1, h4, fun x hx hf => ?_, fun x hx => ?_, fun x hx => ((mem_popped k hne).1 (h7 x hx)).1⟩
          · by_cases e : x = gd h 0
            · exact absurd (e ▸ hf) c2
            · exact h5 x ((mem_popped k hne).2 ⟨hx, e⟩) hf
          · by_cases e : x = gd h 0
            · have hm := (mem_popped k hne).1 h3
              have := k.least hm.1
              have hnr : x ∉ r := fun hr => ((mem_popped k hne).1 (h7 x hr)).2 e
              exact ⟨fun hr => absurd hr hnr, fun hlt => by omega⟩
            · exact h6 x ((mem_popped k hne).2 ⟨hx, e⟩)




end Go.Proofs.YthbkhndapkbgbaaGreat
