/- Logs, of plain values: a clause that is made; RupImplied. -/
import Derived.Test.YthbkhndapkbgbaaGreatPR2
import Derived.Test.YthbkhndapkbgbaaGreatPA1
namespace Go.Proofs.YthbkhndapkbgbaaGreat
open Go Go.Proofs.YthbkhndapkbgbaaGreat.R
set_option linter.unusedVariables false

/-! ### Sorted and compact -/

theorem sortI_spec (l : List Int) : (sortI l).Perm l ∧ (sortI l).Pairwise (· ≤ ·) := by
  refine ⟨List.mergeSort_perm _ _, ?_⟩
  have := List.pairwise_mergeSort (le := fun x y : Int => decide (x ≤ y)) (by simp; omega) (by simp; omega) l
  exact this.imp fun h => by simpa using h

theorem keeps_iff {l : List Int} {j : Nat} (hj : j < l.length) : Lib.keeps l.toArray j = true ↔ j = 0 ∨ l[j] ≠ l[j - 1]'(by omega) := by
  unfold Lib.keeps
  by_cases h0 : j = 0
  · simp [h0]
  · have h1 : j - 1 < l.length := by omega
    simp [h0, hj, h1]

theorem compact_mem {l : List Int} {x : Int} : x ∈ Lib.compact l ↔ ∃ j, ∃ hj : j < l.length, Lib.keeps l.toArray j = true ∧ x = l[j] := by
  unfold Lib.compact Lib.compactUpTo
  rw [List.mem_map]
  constructor
  · rintro ⟨j, hj, rfl⟩
    rw [List.mem_filter, List.mem_range] at hj
    exact ⟨j, hj.1, hj.2, by simp [hj.1]⟩
  · rintro ⟨j, hj, hk, rfl⟩
    exact ⟨j, List.mem_filter.2 ⟨List.mem_range.2 hj, hk⟩, by simp [hj]⟩

theorem compact_spec {l : List Int} (hs : l.Pairwise (· ≤ ·)) : (Lib.compact l).Pairwise (· < ·) ∧ ∀ x, x ∈ Lib.compact l ↔ x ∈ l := by
  constructor
  · unfold Lib.compact Lib.compactUpTo
    rw [List.pairwise_map]
    refine List.Pairwise.imp_of_mem (fun {i j} hi hj hij => ?_) (List.pairwise_lt_range.filter _)
    rw [List.mem_filter, List.mem_range] at hi hj
    have hk := (keeps_iff hj.1).1 hj.2
    rcases hk with h0 | hne
    · omega
    · have h1 : l[j - 1]'(by omega) ≤ l[j] := List.pairwise_iff_getElem.1 hs (j - 1) j (by omega) hj.1 (by omega)
      have h2 : l[i]'hi.1 ≤ l[j - 1]'(by omega) := by
        by_cases he : i = j - 1
        · subst he; exact Int.le_refl _
        · exact List.pairwise_iff_getElem.1 hs i (j - 1) hi.1 (by omega) (by omega)
      have e1 : l.toArray[i]! = l[i]'hi.1 := by simp [hi.1]
      have e2 : l.toArray[j]! = l[j]'hj.1 := by simp [hj.1]
      rw [e1, e2]
      omega
  · intro x
    rw [compact_mem]
    constructor
    · rintro ⟨j, hj, _, rfl⟩
      exact List.getElem_mem hj
    · intro hx
      obtain ⟨i, hi, rfl⟩ := List.getElem_of_mem hx
      induction i with
      | zero => exact ⟨0, hi, (keeps_iff hi).2 (.inl rfl), rfl⟩
      | succ i ih =>
        by_cases he : l[i + 1] = l[i]'(by omega)
        · obtain ⟨j, hj, hk, e⟩ := ih (by omega) (List.getElem_mem _)
          exact ⟨j, hj, hk, he.trans e⟩
        · exact ⟨i + 1, hi, (keeps_iff hi).2 (.inr (by simpa using he)), rfl⟩

/-! ### A clause that is made -/

/-! ### Is a clause part of another one? -/

theorem search_found {s : List Int} (hs : s.Pairwise (· < ·)) (hn : s.length ≤ 100000000000000) {x : Int} : ∀ (m i j : Nat), j - i ≤ m → i ≤ j → j ≤ s.length → (∀ (k : Nat) (hk : k < s.length), k < i → s[k] < x) → (∀ (k : Nat) (hk : k < s.length), j ≤ k → x ≤ s[k]) →
    ∃ n : Int, slices_BinarySearch_int_int.l0 s x (s.length : Int) (i : Int) (j : Int) = some (n, decide (x ∈ s))
  | 0, i, j, hm, hij, hj, h1, h2 => by
    have he : j = i := by omega
    subst he
    rw [slices_BinarySearch_int_int.l0_eq, cd, if_neg (by omega), cd]
    have below : ∀ (k : Nat) (hk : k < s.length), x = s[k] → j ≤ k := fun k hk e => by
      apply Classical.byContradiction
      intro hlt
      have := h1 k hk (by omega); omega
    by_cases hlt : j < s.length
    · rw [if_pos (by omega), gsome hlt, Option.bind_some, ce]
      by_cases hx : s[j] = x
      · rw [if_pos hx, decide_eq_true (hx ▸ List.getElem_mem hlt)]
        exact ⟨_, rfl⟩
      · rw [if_neg hx, Option.bind_some, slices_isNaN_int.eq, Option.bind_some, bne_self_eq_false, cf, decide_eq_false]
        · exact ⟨_, rfl⟩
        · intro hm
          obtain ⟨k, hk, e⟩ := List.getElem_of_mem hm
          have hb := below k hk e.symm
          have h3 := h2 j hlt (Nat.le_refl _)
          by_cases hkj : k = j
          · subst hkj; exact hx e
          · have := List.pairwise_iff_getElem.1 hs j k hlt hk (by omega)
            omega
    · rw [if_neg (by omega), decide_eq_false]
      · exact ⟨_, rfl⟩
      · intro hm
        obtain ⟨k, hk, e⟩ := List.getElem_of_mem hm
        have := below k hk e.symm
        omega
  | m + 1, i, j, hm, hij, hj, h1, h2 => by
    by_cases he : i < j
    · have hh : (i + j) / 2 < s.length := by omega
      have hw : IntKind.wrap .i64 ((((i + j) / 2 : Nat) : Int) + 1) = (((i + j) / 2 + 1 : Nat) : Int) := by rw [wr] <;> omega
      rw [slices_BinarySearch_int_int.l0_eq, cd, if_pos (by omega), half (by omega), gsome hh, Option.bind_some, cmp_Less_eq, Option.bind_some, cd, hw]
      by_cases hx : s[(i + j) / 2] < x
      · rw [if_pos hx]
        refine search_found hs hn m ((i + j) / 2 + 1) j (by omega) (by omega) hj (fun k hk hki => ?_) h2
        rcases Nat.lt_or_ge k ((i + j) / 2) with hlt | hge
        · have := List.pairwise_iff_getElem.1 hs k ((i + j) / 2) hk hh hlt; omega
        · have : k = (i + j) / 2 := by omega
          subst this; exact hx
      · rw [if_neg hx]
        refine search_found hs hn m i ((i + j) / 2) (by omega) (by omega) (by omega) h1 fun k hk hki => ?_
        rcases Nat.lt_or_ge ((i + j) / 2) k with hlt | hge
        · have := List.pairwise_iff_getElem.1 hs ((i + j) / 2) k hh hk hlt; omega
        · have : k = (i + j) / 2 := by omega
          subst this; omega
    · exact search_found hs hn 0 i j (by omega) hij hj h1 h2

theorem okC.inc {v : Int} {c : List Int} (h : okC v c) : c.Pairwise (· < ·) := h.2.imp fun hab => by omega

theorem search_eq {s : List Int} (hs : s.Pairwise (· < ·)) (hn : s.length ≤ 100000000000000) (x : Int) : ∃ n : Int, slices_BinarySearch_int_int s x = some (n, decide (x ∈ s)) := by
  rw [slices_BinarySearch_int_int.eq]
  exact search_found hs hn s.length 0 s.length (by omega) (by omega) (Nat.le_refl _) (fun k hk h => by omega) (fun k hk h => by omega)

/-! ### RupImplied -/

/-- What is longer than one of the clauses follows. -/
theorem from_longer {v : Int} (hv : okV v) {L : List (List Int)} (hL : okL v L) {c x : List Int} (hc : c ∈ L) (hx : okC v x) (hs : ∀ l ∈ c, l ∈ x) : fromC v L x = true := by
  have hA := okA_neg hv hx
  obtain ⟨h1, u, h2⟩ := propC_okA hL (v + 1).toNat hA
  have hsh := hA.short
  obtain ⟨h3, _⟩ := propC_end hL (v + 1).toNat hA (by omega)
  have hz : (stC (propC L (v + 1).toNat (x.map neg)).1 c).1 = 0 := stC_zero.2 fun l hl => (isS_false h1.dis).2 (by
    rw [h2]
    exact List.mem_append_left _ (List.mem_map.2 ⟨l, hs l hl, rfl⟩))
  obtain ⟨i, hi, rfl⟩ := List.getElem_of_mem hc
  have hf := ffC_spec (t := (propC L (v + 1).toNat (x.map neg)).1) (k := 0) i hi
  have hlt := ffC_lt (propC L (v + 1).toNat (x.map neg)).1 L 0
  unfold fromC confC
  rw [decide_eq_true_eq, h3]
  rcases hlt with h4 | h4
  · exact absurd hz (hf.2.2 h4 (Int.le_refl _))
  · exact h4.1

end Go.Proofs.YthbkhndapkbgbaaGreat
