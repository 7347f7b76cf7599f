/- Plain values: what propagation leaves; UnitTells, UnitEnd. -/
import Derived.Test.YtjkoadoekaplpaaGreatP3
namespace Go.Proofs.YtjkoadoekaplpaaGreat
open Go Go.Proofs.YtjkoadoekaplpaaGreat.R
set_option linter.unusedVariables false

abbrev TA : Ty := .pair (.int .i64) (.pair (.list (.int .i64)) (.list (.int .i64)))
abbrev TL : Ty := .list (.int .i64)
abbrev TLL : Ty := .list (.list (.int .i64))

theorem okTL {l : List Int} (h : okD TL l) : l.length ≤ 140737488351232 ∧ ∀ x ∈ l, in64 x := ⟨h.1, fun x hx => wf64 (h.2 x hx)⟩
theorem okTLL {l : List (List Int)} (h : okD TLL l) : l.length ≤ 140737488351232 ∧ ∀ c ∈ l, c.length ≤ 140737488351232 ∧ ∀ x ∈ c, in64 x := ⟨h.1, fun c hc => okTL (h.2 c hc)⟩
theorem okTA {a : Int × List Int × List Int} (h : okD TA a) : in64 a.1 ∧ (a.2.1.length ≤ 140737488351232 ∧ ∀ x ∈ a.2.1, in64 x) ∧ (a.2.2.length ≤ 140737488351232 ∧ ∀ x ∈ a.2.2, in64 x) := ⟨wf64 h.1, okTL h.2.1, okTL h.2.2⟩

/-! ### What propagation leaves -/

theorem propC_okA {v : Int} {s : List Int} {L : List (List Int)} (hL : okL v L) : ∀ (n : Nat) {t : List Int}, okA v t s → okA v (propC L n t).1 s ∧ ∃ u, (propC L n t).1 = t ++ u
  | 0, t, h => ⟨h, [], by simp [propC]⟩
  | n + 1, t, h => by
    simp only [propC]
    split
    · exact ⟨h, [], by simp⟩
    · rename_i hc
      rw [not_or] at hc
      obtain ⟨hx, hf⟩ := fuC_lit hL hc.2
      obtain ⟨h1, u, h2⟩ := propC_okA hL n (h.push hx hf)
      exact ⟨h1, fuC t L :: u, by rw [h2, List.append_assoc]; rfl⟩

theorem propC_end {v : Int} {s : List Int} {L : List (List Int)} (hL : okL v L) : ∀ (n : Nat) {t : List Int}, okA v t s → v - t.length < n → (propC L n t).2 = ffC (propC L n t).1 0 L ∧ (0 ≤ (propC L n t).2 ∨ fuC (propC L n t).1 L = 0)
  | 0, t, h, hlt => by have := h.short; omega
  | n + 1, t, h, hlt => by
    simp only [propC]
    split
    · rename_i hc; exact ⟨rfl, hc⟩
    · rename_i hc
      rw [not_or] at hc
      obtain ⟨hx, hf⟩ := fuC_lit hL hc.2
      exact propC_end hL n (h.push hx hf) (by rw [List.length_append, List.length_singleton]; omega)

theorem propC_again {L : List (List Int)} {n : Nat} {t : List Int} (hn : 0 < n) (h : 0 ≤ ffC t 0 L ∨ fuC t L = 0) : propC L n t = (t, ffC t 0 L) := by
  obtain ⟨m, rfl⟩ : ∃ m, n = m + 1 := ⟨n - 1, by omega⟩
  simp only [propC]
  rw [if_pos h]

theorem ffC_spec {t : List Int} : ∀ {L : List (List Int)} {k : Int} (i : Nat) (hi : i < L.length), (k + i < ffC t k L → (stC t L[i]).1 ≠ 0) ∧ (k + i = ffC t k L → 0 ≤ k → (stC t L[i]).1 = 0) ∧ (ffC t k L = -1 → 0 ≤ k → (stC t L[i]).1 ≠ 0)
  | [], k, i, hi => by simp at hi
  | c :: r, k, 0, hi => by
    simp only [ffC, List.getElem_cons_zero]
    split
    · rename_i h; exact ⟨fun h' => by omega, fun _ _ => h, fun h' hk => by omega⟩
    · rename_i h
      refine ⟨fun _ => h, fun h' hk => ?_, fun _ _ => h⟩
      rcases ffC_lt t r (k + 1) with h1 | h1 <;> omega
  | c :: r, k, i + 1, hi => by
    simp only [ffC, List.getElem_cons_succ]
    split
    · rename_i h; exact ⟨fun h' => by omega, fun h' _ => by omega, fun h' hk => by omega⟩
    · rename_i h
      obtain ⟨h1, h2, h3⟩ := ffC_spec (t := t) (L := r) (k := k + 1) i (by simpa using hi)
      exact ⟨fun h' => h1 (by omega), fun h' hk => h2 (by omega) (by omega), fun h' hk => h3 h' (by omega)⟩

theorem fuC_zero {t : List Int} : ∀ {L : List (List Int)}, (∀ c ∈ L, ∀ l ∈ c, l ≠ 0) → fuC t L = 0 → ∀ c ∈ L, (stC t c).1 ≠ 3
  | [], _, _, c, hc => by cases hc
  | d :: r, hz, h, c, hc => by
    simp only [fuC] at h
    split at h
    · rename_i h3
      exact absurd h (hz d (by simp) _ (stC_unit h3).1)
    · rename_i h3
      rcases List.mem_cons.1 hc with rfl | hc
      · exact h3
      · exact fuC_zero (fun c hc => hz c (by simp [hc])) h c hc

theorem stC_cases (t c : List Int) : (stC t c).1 = 0 ∨ (stC t c).1 = 1 ∨ (stC t c).1 = 2 ∨ (stC t c).1 = 3 := by
  unfold stC
  split
  · simp
  · split <;> simp

/-! ### The examples -/

/-! ### The laws -/

theorem runC_ok {v : Int} {t s : List Int} {L : List (List Int)} (h : okA v t s) (hL : okL v L) (hl : L.length ≤ 20000) : runC v t s L = ((v, (propC L (v + 1).toNat t).1, s), (propC L (v + 1).toNat t).2, 0) := by
  unfold runC
  rw [if_pos h, if_neg (by omega), if_pos hL]

theorem lit64 {v l : Int} (hv : okV v) (h : isLit v l) : in64 l := by unfold in64; omega

end Go.Proofs.YtjkoadoekaplpaaGreat
