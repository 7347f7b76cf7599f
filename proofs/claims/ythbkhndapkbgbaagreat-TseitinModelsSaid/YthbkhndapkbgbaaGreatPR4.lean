/- . -/
import Derived.Test.YthbkhndapkbgbaaGreatPR2
import Derived.Test.YthbkhndapkbgbaaGreatPA1
namespace Go.Proofs.YthbkhndapkbgbaaGreat
open Go Go.Proofs.YthbkhndapkbgbaaGreat.R
set_option linter.unusedVariables false


theorem sortI_spec (l : List Int) : (sortI l).Perm l ∧ (sortI l).Pairwise (· ≤ ·) := by
  refine ⟨List.mergeSort_perm _ _, ?_⟩
  have := List.pairwise_mergeSort (le := fun x y : Int => decide (x ≤ y)) (by simp; omega) (by simp; omega) l
  exact this.imp fun h => by simpa using h

theorem keeps_iff {l : List Int} {j : Nat} (hj : j < l.length) : Lib.keeps l.toArray j = true ↔ j = 0 ∨ l[j] ≠ l[j - 1]'(by omega) := by
  unfold Lib.keeps
  by_cases h0 : j = 0
  · simp [h0]
  · have h1 : j - 1 < l.length := by omega
    simp [h0, hj, h1]

theorem compact_mem {l : List Int} {x : Int} : x ∈ Lib.compact l ↔ ∃ j, ∃ hj : j < l.length, Lib.keeps l.toArray j = true ∧ x = l[j] := by
  unfold Lib.compact Lib.compactUpTo
  rw [List.mem_map]
  constructor
  · rintro ⟨j, hj, rfl⟩
    rw [List.mem_filter, List.mem_range] at hj
    exact ⟨j, hj.1, hj.2, by simp [hj.1]⟩
  · rintro ⟨j, hj, hk, rfl⟩
    exact ⟨j, List.mem_filter.2 ⟨List.mem_range.2 hj, hk⟩, by simp [hj]⟩

theorem compact_spec {l : List Int} (hs : l.Pairwise (· ≤ ·)) : (Lib.compact l).Pairwise (· < ·) ∧ ∀ x, x ∈ Lib.compact l ↔ x ∈ l := by
  constructor
  · unfold Lib.compact Lib.compactUpTo
    rw [List.pairwise_map]
    refine List.Pairwise.imp_of_mem (fun {i j} hi hj hij => ?_) (List.pairwise_lt_range.filter _)
    rw [List.mem_filter, List.mem_range] at hi hj
    have hk := (keeps_iff hj.1).1 hj.2
    rcases hk with h0 | hne
    · omega
    · have h1 : l[j - 1]'(by omega) ≤ l[j] := List.pairwise_iff_getElem.1 hs (j - 1) j (by omega) hj.1 (by omega)
      have h2 : l[i]'hi.1 ≤ l[j - 1]'(by omega) := by
        by_cases he : i = j - 1
        · subst he; exact Int.le_refl _
        · exact List.pairwise_iff_getElem.1 hs i (j - 1) hi.1 (by omega) (by omega)
      have e1 : l.toArray[i]! = l[i]'hi.1 := by simp [hi.1]
      have e2 : l.toArray[j]! = l[j]'hj.1 := by simp [hj.1]
      rw [e1, e2]
      omega
  · intro x
    rw [compact_mem]
    constructor
    · rintro ⟨j, hj, _, rfl⟩
      exact List.getElem_mem hj
    · intro hx
      obtain ⟨i, hi, rfl⟩ := List.getElem_of_mem hx
      induction i with
      | zero => exact ⟨0, hi, (keeps_iff hi).2 (.inl rfl), rfl⟩
      | succ i ih =>
        by_cases he : l[i + 1] = l[i]'(by omega)
        · obtain ⟨j, hj, hk, e⟩ := ih (by omega) (List.getElem_mem _)
          exact ⟨j, hj, hk, he.trans e⟩
        · exact ⟨i + 1, hi, (keeps_iff hi).2 (.inr (by simpa using he)), rfl⟩


theorem clause_Make.loop1 {o : List Int} (hn : o.length ≤ 1000000) (hr : ∀ x ∈ o, 0 ≤ x ∧ x ≤ 100000) : ∀ (n i : Nat), i + n = o.length →
    clause_Make.l1 (o.length : Int) (i : Int) o = some (if ∀ j, j < o.length → i ≤ j → 0 < j → o.getD j 0 / 2 ≠ o.getD (j - 1) 0 / 2 then (o, false, 0) else ([], true, 0))
  | 0, i, hi => by
    rw [clause_Make.l1_eq, cd, if_neg (by omega), if_pos (fun j h1 h2 => by omega)]
  | n + 1, i, hi => by
    have hlt : i < o.length := by omega
    have hx := hr _ (List.getElem_mem hlt)
    have hw : IntKind.wrap .i64 ((i : Int) + 1) = ((i + 1 : Nat) : Int) := by rw [wr] <;> omega
    rw [clause_Make.l1_eq, cd, if_pos (by omega), cd, hw, clause_Make.loop1 hn hr n (i + 1) (by omega)]
    have stay : (0 < i → o.getD i 0 / 2 ≠ o.getD (i - 1) 0 / 2) → (if ∀ j, j < o.length → i + 1 ≤ j → 0 < j → o.getD j 0 / 2 ≠ o.getD (j - 1) 0 / 2 then (o, false, (0 : Int)) else ([], true, 0)) =
        if ∀ j, j < o.length → i ≤ j → 0 < j → o.getD j 0 / 2 ≠ o.getD (j - 1) 0 / 2 then (o, false, 0) else ([], true, 0) := fun hst => by
      by_cases hall : ∀ j, j < o.length → i ≤ j → 0 < j → o.getD j 0 / 2 ≠ o.getD (j - 1) 0 / 2
      · rw [if_pos hall, if_pos (fun j h1 h2 h3 => hall j h1 (by omega) h3)]
      · rw [if_neg hall, if_neg (fun h' => hall fun j h1 h2 h3 => by
          by_cases he : j = i
          · subst he; exact hst h3
          · exact h' j h1 (by omega) h3)]
    by_cases h0 : 0 < i
    · have hp : i - 1 < o.length := by omega
      have hy := hr _ (List.getElem_mem hp)
      have hw2 : IntKind.wrap .i64 ((i : Int) - 1) = ((i - 1 : Nat) : Int) := by rw [wr] <;> omega
      have g1 : o.getD i 0 = o[i] := by simp [hlt]
      have g2 : o.getD (i - 1) 0 = o[i - 1] := by simp [hp]
      rw [if_pos (by omega), gsome hlt, Option.bind_some, Int.toNat_natCast, List.getElem?_eq_getElem hlt, Option.bind_some, hw2, gsome hp, Option.bind_some, Int.toNat_natCast, List.getElem?_eq_getElem hp, Option.bind_some, td (by omega) (by omega), td (by omega) (by omega), ce]
      by_cases he : o[i] / 2 = o[i - 1] / 2
      · rw [if_pos he, if_neg (fun hall => hall i hlt (Nat.le_refl _) h0 (by rw [g1, g2]; exact he))]
      · rw [if_neg he, stay (fun _ => by rw [g1, g2]; exact he)]
    · rw [if_neg (by omega), stay (fun h => absurd h h0)]

theorem clause_Make.loop0 {v : Int} (hv : okV v) {l : List Int} (hl : ∀ x ∈ l, isLit v x) (hn : l.length ≤ 1000000) : ∀ (n i : Nat), i + n = l.length →
    clause_Make.l0 v l l (l.length : Int) (i : Int) = clause_Make.l1 ((Lib.compact (sortI l)).length : Int) 0 (Lib.compact (sortI l))
  | 0, i, hi => by
    have hs := (sortI_spec l).1.length_eq
    rw [clause_Make.l0_eq, cd, if_neg (by omega), app_nil (by omega), Option.bind_some]
    unfold lim LIM
    rw [if_pos (by omega), Option.bind_some, if_pos (by omega), Option.bind_some]
  | n + 1, i, hi => by
    have hlt : i < l.length := by omega
    have hm := hl _ (List.getElem_mem hlt)
    have hw : IntKind.wrap .i64 ((i : Int) + 1) = ((i + 1 : Nat) : Int) := by rw [wr] <;> omega
    rw [clause_Make.l0_eq, cd, if_pos (by omega), gsome hlt, Option.bind_some, clause_known_eq hv (by omega), Option.bind_some, decide_eq_true hm, Bool.not_true, cf, hw, clause_Make.loop0 hv hl hn n (i + 1) (by omega)]


theorem okC.inc {v : Int} {c : List Int} (h : okC v c) : c.Pairwise (· < ·) := h.2.imp fun hab => by omega


end Go.Proofs.YthbkhndapkbgbaaGreat
