/- Logs, of plain values: a clause that is made; RupImplied. -/
import Derived.Test.YtcgbilghglbgaaaPR2
import Derived.Test.YtcgbilghglbgaaaPA1
namespace Go.Proofs.Ytcgbilghglbgaaa
open Go Go.Proofs.Ytcgbilghglbgaaa.R
set_option linter.unusedVariables false

/-! ### Sorted and compact -/

theorem sortI_spec (l : List Int) : (sortI l).Perm l ∧ (sortI l).Pairwise (· ≤ ·) := by
  refine ⟨List.mergeSort_perm _ _, ?_⟩
  have := List.pairwise_mergeSort (le := fun x y : Int => decide (x ≤ y)) (by simp; omega) (by simp; omega) l
  exact this.imp fun h => by simpa using h

theorem keeps_iff {l : List Int} {j : Nat} (hj : j < l.length) : Lib.keeps l.toArray j = true ↔ j = 0 ∨ l[j] ≠ l[j - 1]'(by omega) := by
  unfold Lib.keeps
  by_cases h0 : j = 0
  · simp [h0]
  · have h1 : j - 1 < l.length := by omega
    simp [h0, hj, h1]

theorem compact_mem {l : List Int} {x : Int} : x ∈ Lib.compact l ↔ ∃ j, ∃ hj : j < l.length, Lib.keeps l.toArray j = true ∧ x = l[j] := by
  unfold Lib.compact Lib.compactUpTo
  rw [List.mem_map]
  constructor
  · rintro ⟨j, hj, rfl⟩
    rw [List.mem_filter, List.mem_range] at hj
    exact ⟨j, hj.1, hj.2, by simp [hj.1]⟩
  · rintro ⟨j, hj, hk, rfl⟩
    exact ⟨j, List.mem_filter.2 ⟨List.mem_range.2 hj, hk⟩, by simp [hj]⟩

theorem compact_spec {l : List Int} (hs : l.Pairwise (· ≤ ·)) : (Lib.compact l).Pairwise (· < ·) ∧ ∀ x, x ∈ Lib.compact l ↔ x ∈ l := by
  constructor
  · unfold Lib.compact Lib.compactUpTo
    rw [List.pairwise_map]
    refine List.Pairwise.imp_of_mem (fun {i j} hi hj hij => ?_) (List.pairwise_lt_range.filter _)
    rw [List.mem_filter, List.mem_range] at hi hj
    have hk := (keeps_iff hj.1).1 hj.2
    rcases hk with h0 | hne
    · omega
    · have h1 : l[j - 1]'(by omega) ≤ l[j] := List.pairwise_iff_getElem.1 hs (j - 1) j (by omega) hj.1 (by omega)
      have h2 : l[i]'hi.1 ≤ l[j - 1]'(by omega) := by
        by_cases he : i = j - 1
        · subst he; exact Int.le_refl _
        · exact List.pairwise_iff_getElem.1 hs i (j - 1) hi.1 (by omega) (by omega)
      have e1 : l.toArray[i]! = l[i]'hi.1 := by simp [hi.1]
      have e2 : l.toArray[j]! = l[j]'hj.1 := by simp [hj.1]
      rw [e1, e2]
      omega
  · intro x
    rw [compact_mem]
    constructor
    · rintro ⟨j, hj, _, rfl⟩
      exact List.getElem_mem hj
    · intro hx
      obtain ⟨i, hi, rfl⟩ := List.getElem_of_mem hx
      induction i with
      | zero => exact ⟨0, hi, (keeps_iff hi).2 (.inl rfl), rfl⟩
      | succ i ih =>
        by_cases he : l[i + 1] = l[i]'(by omega)
        · obtain ⟨j, hj, hk, e⟩ := ih (by omega) (List.getElem_mem _)
          exact ⟨j, hj, hk, he.trans e⟩
        · exact ⟨i + 1, hi, (keeps_iff hi).2 (.inr (by simpa using he)), rfl⟩

/-! ### A clause that is made -/

theorem clause_Make.loop1 {o : List Int} (hn : o.length ≤ 1000000) (hr : ∀ x ∈ o, 0 ≤ x ∧ x ≤ 100000) : ∀ (n i : Nat), i + n = o.length →
    clause_Make.l1 (o.length : Int) (i : Int) o = some (if ∀ j, j < o.length → i ≤ j → 0 < j → o.getD j 0 / 2 ≠ o.getD (j - 1) 0 / 2 then (o, false, 0) else ([], true, 0))
  | 0, i, hi => by
    rw [clause_Make.l1_eq, cd, if_neg (by omega), if_pos (fun j h1 h2 => by omega)]
  | n + 1, i, hi => by
    have hlt : i < o.length := by omega
    have hx := hr _ (List.getElem_mem hlt)
    have hw : IntKind.wrap .i64 ((i : Int) + 1) = ((i + 1 : Nat) : Int) := by rw [wr] <;> omega
    rw [clause_Make.l1_eq, cd, if_pos (by omega), cd, hw, clause_Make.loop1 hn hr n (i + 1) (by omega)]
    have stay : (0 < i → o.getD i 0 / 2 ≠ o.getD (i - 1) 0 / 2) → (if ∀ j, j < o.length → i + 1 ≤ j → 0 < j → o.getD j 0 / 2 ≠ o.getD (j - 1) 0 / 2 then (o, false, (0 : Int)) else ([], true, 0)) =
        if ∀ j, j < o.length → i ≤ j → 0 < j → o.getD j 0 / 2 ≠ o.getD (j - 1) 0 / 2 then (o, false, 0) else ([], true, 0) := fun hst => by
      by_cases hall : ∀ j, j < o.length → i ≤ j → 0 < j → o.getD j 0 / 2 ≠ o.getD (j - 1) 0 / 2
      · rw [if_pos hall, if_pos (fun j h1 h2 h3 => hall j h1 (by omega) h3)]
      · rw [if_neg hall, if_neg (fun h' => hall fun j h1 h2 h3 => by
          by_cases he : j = i
          · subst he; exact hst h3
          · exact h' j h1 (by omega) h3)]
    by_cases h0 : 0 < i
    · have hp : i - 1 < o.length := by omega
      have hy := hr _ (List.getElem_mem hp)
      have hw2 : IntKind.wrap .i64 ((i : Int) - 1) = ((i - 1 : Nat) : Int) := by rw [wr] <;> omega
      have g1 : o.getD i 0 = o[i] := by simp [hlt]
      have g2 : o.getD (i - 1) 0 = o[i - 1] := by simp [hp]
      rw [if_pos (by omega), gsome hlt, Option.bind_some, Int.toNat_natCast, List.getElem?_eq_getElem hlt, Option.bind_some, hw2, gsome hp, Option.bind_some, Int.toNat_natCast, List.getElem?_eq_getElem hp, Option.bind_some, td (by omega) (by omega), td (by omega) (by omega), ce]
      by_cases he : o[i] / 2 = o[i - 1] / 2
      · rw [if_pos he, if_neg (fun hall => hall i hlt (Nat.le_refl _) h0 (by rw [g1, g2]; exact he))]
      · rw [if_neg he, stay (fun _ => by rw [g1, g2]; exact he)]
    · rw [if_neg (by omega), stay (fun h => absurd h h0)]

theorem clause_Make.loop0 {v : Int} (hv : okV v) {l : List Int} (hl : ∀ x ∈ l, isLit v x) (hn : l.length ≤ 1000000) : ∀ (n i : Nat), i + n = l.length →
    clause_Make.l0 v l l (l.length : Int) (i : Int) = clause_Make.l1 ((Lib.compact (sortI l)).length : Int) 0 (Lib.compact (sortI l))
  | 0, i, hi => by
    have hs := (sortI_spec l).1.length_eq
    rw [clause_Make.l0_eq, cd, if_neg (by omega), app_nil (by omega), Option.bind_some]
    unfold lim LIM
    rw [if_pos (by omega), Option.bind_some, if_pos (by omega), Option.bind_some]
  | n + 1, i, hi => by
    have hlt : i < l.length := by omega
    have hm := hl _ (List.getElem_mem hlt)
    have hw : IntKind.wrap .i64 ((i : Int) + 1) = ((i + 1 : Nat) : Int) := by rw [wr] <;> omega
    rw [clause_Make.l0_eq, cd, if_pos (by omega), gsome hlt, Option.bind_some, clause_known_eq hv (by omega), Option.bind_some, decide_eq_true hm, Bool.not_true, cf, hw, clause_Make.loop0 hv hl hn n (i + 1) (by omega)]

/-- The clause of literals: it is a clause with just these; or they are true in any case. -/
theorem clause_Make_ok {v : Int} (hv : okV v) {l : List Int} (hl : ∀ x ∈ l, isLit v x) (hn : l.length ≤ 1000000) : (∃ C, clause_Make v l = some (C, false, 0) ∧ okC v C ∧ ∀ x, x ∈ C ↔ x ∈ l) ∨ clause_Make v l = some ([], true, 0) := by
  obtain ⟨p1, p2⟩ := sortI_spec l
  obtain ⟨c1, c2⟩ := compact_spec p2
  have hcl : (Lib.compact (sortI l)).length ≤ 1000000 := by
    have := compact_len (sortI l)
    rw [p1.length_eq] at this; omega
  have mem : ∀ x, x ∈ Lib.compact (sortI l) ↔ x ∈ l := fun x => (c2 x).trans p1.mem_iff
  have g0 := clause_Make.loop0 hv hl hn l.length 0 (by omega)
  have g1 := clause_Make.loop1 hcl (fun x hx => by have := hl x ((mem x).1 hx); omega) (Lib.compact (sortI l)).length 0 (by omega)
  rw [show ((0 : Nat) : Int) = 0 from rfl] at g0 g1
  have e : clause_Make v l = clause_Make.l1 ((Lib.compact (sortI l)).length : Int) 0 (Lib.compact (sortI l)) := by
    rw [clause_Make.eq, cd, if_neg (by omega), cd, if_neg (by omega), g0]
  rw [e, g1]
  generalize Lib.compact (sortI l) = C at c1 mem
  by_cases hall : ∀ j, j < C.length → 0 ≤ j → 0 < j → C.getD j 0 / 2 ≠ C.getD (j - 1) 0 / 2
  · rw [if_pos hall]
    refine .inl ⟨C, rfl, ⟨fun x hx => hl x ((mem x).1 hx), ?_⟩, mem⟩
    rw [List.pairwise_iff_getElem]
    intro i j hi hj hij
    have h1 := hall j hj (Nat.zero_le _) (by omega)
    have hp : j - 1 < C.length := by omega
    rw [show C.getD j 0 = C[j] from by simp [hj], show C.getD (j - 1) 0 = C[j - 1] from by simp [hp]] at h1
    have h2 := List.pairwise_iff_getElem.1 c1 (j - 1) j hp hj (by omega)
    have h3 : C[i] ≤ C[j - 1] := by
      by_cases he : i = j - 1
      · subst he; exact Int.le_refl _
      · have := List.pairwise_iff_getElem.1 c1 i (j - 1) hi hp (by omega); omega
    omega
  · rw [if_neg hall]
    exact .inr rfl

/-! ### Is a clause part of another one? -/

theorem okC.inc {v : Int} {c : List Int} (h : okC v c) : c.Pairwise (· < ·) := h.2.imp fun hab => by omega

/-! ### RupImplied -/

/-- What is longer than one of the clauses follows. -/
theorem from_longer {v : Int} (hv : okV v) {L : List (List Int)} (hL : okL v L) {c x : List Int} (hc : c ∈ L) (hx : okC v x) (hs : ∀ l ∈ c, l ∈ x) : fromC v L x = true := by
  have hA := okA_neg hv hx
  obtain ⟨h1, u, h2⟩ := propC_okA hL (v + 1).toNat hA
  have hsh := hA.short
  obtain ⟨h3, _⟩ := propC_end hL (v + 1).toNat hA (by omega)
  have hz : (stC (propC L (v + 1).toNat (x.map neg)).1 c).1 = 0 := stC_zero.2 fun l hl => (isS_false h1.dis).2 (by
    rw [h2]
    exact List.mem_append_left _ (List.mem_map.2 ⟨l, hs l hl, rfl⟩))
  obtain ⟨i, hi, rfl⟩ := List.getElem_of_mem hc
  have hf := ffC_spec (t := (propC L (v + 1).toNat (x.map neg)).1) (k := 0) i hi
  have hlt := ffC_lt (propC L (v + 1).toNat (x.map neg)).1 L 0
  unfold fromC confC
  rw [decide_eq_true_eq, h3]
  rcases hlt with h4 | h4
  · exact absurd hz (hf.2.2 h4 (Int.le_refl _))
  · exact h4.1

end Go.Proofs.Ytcgbilghglbgaaa
