/- . -/
import Derived.Test.YthbkhndapkbgbaaGreatP4
namespace Go.Proofs.YthbkhndapkbgbaaGreat
open Go Go.Proofs.YthbkhndapkbgbaaGreat.R
set_option linter.unusedVariables false

abbrev noneA : Int × List Int × List Int := (0, ([], []))

def openC (v : Int) (t s : List Int) (lit : Int) : Int := if okA v t s then (if isLit v lit then 0 else 2) else 8

theorem assign_open_eq {v : Int} {t s : List Int} {lit : Int} (ht : t.length ≤ 140737488351232) (hs : s.length ≤ 140737488351232) (hr : ∀ l ∈ t, in64 l) (hl : in64 lit) : assign_open v t s lit = some (openC v t s lit) := by
  rw [assign_open.eq, assign_Check_eq ht hs hr, Option.bind_some, cn]
  unfold openC
  by_cases h : okA v t s
  · rw [if_pos h, if_pos rfl, if_pos h, assign_known_eq hl, Option.bind_some, cnot, cd]
    split <;> rfl
  · rw [if_neg h, if_neg (by omega), if_neg h]


theorem slices_Index.loop {s : List Int} {x : Int} (hn : s.length ≤ 140737488351232) : ∀ (n i : Nat), i + n = s.length → ∃ k, slices_Index_int_int.l0 s x (s.length : Int) (i : Int) = some k ∧ (0 ≤ k ↔ x ∈ s.drop i)
  | 0, i, hi => ⟨-1, by rw [slices_Index_int_int.l0_eq, cd, if_neg (by omega)], by rw [List.drop_of_length_le (by omega)]; simp⟩
  | n + 1, i, hi => by
    have hlt : i < s.length := by omega
    have hw2 : IntKind.wrap .i64 ((i : Int) + 1) = ((i + 1 : Nat) : Int) := by rw [wr] <;> omega
    obtain ⟨k, h1, h2⟩ := slices_Index.loop hn n (i + 1) (by omega)
    rw [slices_Index_int_int.l0_eq, cd, if_pos (by omega), gsome hlt, Option.bind_some, ce, hw2, h1, drop_cons hlt]
    by_cases h : x = s[i]
    · rw [if_pos h]
      exact ⟨_, rfl, fun _ => by rw [h]; exact List.mem_cons_self .., fun _ => by omega⟩
    · rw [if_neg h]
      refine ⟨_, rfl, ?_⟩
      rw [h2, List.mem_cons]
      exact ⟨.inr, fun h' => h'.resolve_left h⟩

theorem slices_Contains_eq {s : List Int} {x : Int} (hn : s.length ≤ 140737488351232) : slices_Contains_int_int s x = some (decide (x ∈ s)) := by
  obtain ⟨k, h1, h2⟩ := slices_Index.loop (x := x) hn s.length 0 (by omega)
  rw [show ((0 : Nat) : Int) = 0 from rfl] at h1
  rw [List.drop_zero] at h2
  rw [slices_Contains_int_int.eq, slices_Index_int_int.eq, h1, Option.bind_some]
  congr 1
  rw [decide_eq_decide]
  exact h2

def idxC (l : Int) : Int → List Int → Int
  | _, [] => -1
  | k, a :: r => if a / 2 = l / 2 then k else idxC l (k + 1) r

theorem slices_IndexFunc.loop {v : Int} (hv : okV v) {t : List Int} (hl : ∀ l ∈ t, isLit v l) (hn : t.length ≤ 140737488351232) {lit : Int} (hlit : isLit v lit) : ∀ (n i : Nat), i + n = t.length → slices_IndexFunc_int_int_s1.l0 t lit (t.length : Int) (i : Int) = some (idxC lit (i : Int) (t.drop i))
  | 0, i, hi => by rw [slices_IndexFunc_int_int_s1.l0_eq, cd, if_neg (by omega), List.drop_of_length_le (by omega)]; rfl
  | n + 1, i, hi => by
    have hlt : i < t.length := by omega
    have hli := hl _ (List.getElem_mem hlt)
    have hw2 : IntKind.wrap .i64 ((i : Int) + 1) = ((i + 1 : Nat) : Int) := by rw [wr] <;> omega
    rw [slices_IndexFunc_int_int_s1.l0_eq, cd, if_pos (by omega), gsome hlt, Option.bind_some, assign_Level_1_s1.eq, Option.bind_some, td (by omega) (by omega), td (by omega) (by omega), ce, hw2, slices_IndexFunc.loop hv hl hn hlit n (i + 1) (by omega), drop_cons hlt]
    simp only [idxC]
    split <;> rfl

def cntLE (s : List Int) (i : Int) : Nat := (s.filter (fun x => decide (x ≤ i))).length

theorem cntLE_lt : ∀ {s : List Int} {i : Int}, s.Pairwise (· < ·) → ∀ (j : Nat) (hj : j < s.length), s[j] ≤ i ↔ j < cntLE s i
  | [], i, _, j, hj => by simp at hj
  | a :: r, i, hs, j, hj => by
    rw [List.pairwise_cons] at hs
    unfold cntLE
    rw [List.filter_cons]
    by_cases h : a ≤ i
    · rw [if_pos (decide_eq_true h), List.length_cons]
      cases j with
      | zero => simp [h]
      | succ j =>
        have := cntLE_lt (i := i) hs.2 j (by simpa using hj)
        unfold cntLE at this
        simp only [List.getElem_cons_succ]
        rw [this]; omega
    · rw [if_neg (by simpa using h)]
      have h0 : r.filter (fun x => decide (x ≤ i)) = [] := by
        rw [List.filter_eq_nil_iff]
        intro x hx hxi
        have := hs.1 x hx
        have := of_decide_eq_true hxi
        omega
      rw [h0]
      simp only [List.length_nil, Nat.not_lt_zero, iff_false]
      cases j with
      | zero => exact h
      | succ j =>
        have := hs.1 _ (List.getElem_mem (by simpa using hj : j < r.length))
        simp only [List.getElem_cons_succ]
        omega

theorem cntLE_le {s : List Int} {i : Int} : cntLE s i ≤ s.length := List.length_filter_le ..

theorem half {i j : Nat} (h : i + j ≤ 1000000000000000) : IntKind.wrap .i64 (bshr .u64 (IntKind.wrap .u64 (IntKind.wrap .i64 ((i : Int) + (j : Int)))) 1) = (((i + j) / 2 : Nat) : Int) := by
  have h1 : IntKind.wrap .i64 ((i : Int) + (j : Int)) = ((i + j : Nat) : Int) := by rw [wr] <;> omega
  have h2 : IntKind.wrap .u64 ((i + j : Nat) : Int) = ((i + j : Nat) : Int) := by
    show ((i + j : Nat) : Int) % 18446744073709551616 = _
    omega
  have h3 : bshr .u64 ((i + j : Nat) : Int) 1 = (((i + j) / 2 : Nat) : Int) := by
    show Int.fdiv ((i + j : Nat) : Int) (2 ^ 1) = _
    rw [Int.fdiv_eq_ediv_of_nonneg _ (by decide)]
    omega
  rw [h1, h2, h3, wr] <;> omega

theorem cmp_Less_eq {x y : Int} : cmp_Less_int x y = some (decide (x < y)) := by
  rw [cmp_Less_int.eq, cmp_isNaN_int.eq, Option.bind_some, bne_self_eq_false, cf]

theorem slices_BinarySearch.loop {s : List Int} (hs : s.Pairwise (· < ·)) (hn : s.length ≤ 100000000000000) {x : Int} : ∀ (m i j : Nat), j - i ≤ m → i ≤ j → j ≤ s.length → (∀ (k : Nat) (hk : k < s.length), k < i → s[k] < x) → (∀ (k : Nat) (hk : k < s.length), j ≤ k → x ≤ s[k]) →
    ∃ (n : Nat) (f : Bool), slices_BinarySearch_int_int.l0 s x (s.length : Int) (i : Int) (j : Int) = some ((n : Int), f) ∧ (bif f then n + 1 else n) = cntLE s x ∧ n ≤ s.length
  | 0, i, j, hm, hij, hj, h1, h2 => by
    have he : j = i := by omega
    subst he
    have hle := cntLE_le (s := s) (i := x)
    rw [slices_BinarySearch_int_int.l0_eq, cd, if_neg (by omega), cd]
    by_cases hlt : j < s.length
    · rw [if_pos (by omega), gsome hlt, Option.bind_some, ce]
      have hge := h2 j hlt (Nat.le_refl _)
      by_cases hx : s[j] = x
      · rw [if_pos hx]
        refine ⟨j, true, rfl, ?_, by omega⟩
        rw [ct]
        have q1 := (cntLE_lt (i := x) hs j hlt).1 (by omega)
        apply Classical.byContradiction
        intro hne
        have hlt2 : j + 1 < s.length := by omega
        have q2 := (cntLE_lt (i := x) hs (j + 1) hlt2).2 (by omega)
        have q3 := List.pairwise_iff_getElem.1 hs j (j + 1) hlt hlt2 (by omega)
        omega
      · rw [if_neg hx, Option.bind_some, slices_isNaN_int.eq, Option.bind_some, bne_self_eq_false, cf]
        refine ⟨j, false, rfl, ?_, by omega⟩
        rw [cf]
        apply Classical.byContradiction
        intro hne
        by_cases hc : j < cntLE s x
        · have := (cntLE_lt (i := x) hs j hlt).2 hc; omega
        · have hjp : cntLE s x < j := by omega
          have := (cntLE_lt (i := x) hs (cntLE s x) (by omega)).1 (by have := h1 (cntLE s x) (by omega) hjp; omega)
          omega
    · rw [if_neg (by omega)]
      refine ⟨j, false, rfl, ?_, by omega⟩
      rw [cf]
      apply Classical.byContradiction
      intro hne
      have hjp : cntLE s x < j := by omega
      have := (cntLE_lt (i := x) hs (cntLE s x) (by omega)).1 (by have := h1 (cntLE s x) (by omega) hjp; omega)
      omega
  | m + 1, i, j, hm, hij, hj, h1, h2 => by
    by_cases he : i < j
    · have hh : (i + j) / 2 < s.length := by omega
      have hw : IntKind.wrap .i64 ((((i + j) / 2 : Nat) : Int) + 1) = (((i + j) / 2 + 1 : Nat) : Int) := by rw [wr] <;> omega
      rw [slices_BinarySearch_int_int.l0_eq, cd, if_pos (by omega), half (by omega), gsome hh, Option.bind_some, cmp_Less_eq, Option.bind_some, cd, hw]
      by_cases hx : s[(i + j) / 2] < x
      · rw [if_pos hx]
        refine slices_BinarySearch.loop hs hn m ((i + j) / 2 + 1) j (by omega) (by omega) hj (fun k hk hki => ?_) h2
        rcases Nat.lt_or_ge k ((i + j) / 2) with hlt | hge
        · have := List.pairwise_iff_getElem.1 hs k ((i + j) / 2) hk hh hlt; omega
        · have : k = (i + j) / 2 := by omega
          subst this; exact hx
      · rw [if_neg hx]
        refine slices_BinarySearch.loop hs hn m i ((i + j) / 2) (by omega) (by omega) (by omega) h1 fun k hk hki => ?_
        rcases Nat.lt_or_ge ((i + j) / 2) k with hlt | hge
        · have := List.pairwise_iff_getElem.1 hs ((i + j) / 2) k hh hk hlt; omega
        · have : k = (i + j) / 2 := by omega
          subst this; omega
    · exact slices_BinarySearch.loop hs hn 0 i j (by omega) hij hj h1 h2

theorem slices_BinarySearch_ok {s : List Int} (hs : s.Pairwise (· < ·)) (hn : s.length ≤ 100000000000000) (x : Int) : ∃ (n : Nat) (f : Bool), slices_BinarySearch_int_int s x = some ((n : Int), f) ∧ (bif f then n + 1 else n) = cntLE s x ∧ n ≤ s.length := by
  rw [slices_BinarySearch_int_int.eq]
  exact slices_BinarySearch.loop hs hn s.length 0 s.length (by omega) (by omega) (Nat.le_refl _) (fun k hk h => by omega) (fun k hk h => by omega)


def putC (v : Int) (t s : List Int) (lit : Int) (d : Bool) : (Int × List Int × List Int) × Int :=
  if okA v t s then (if isLit v lit then (if isS t lit = 2 then ((v, (t ++ [lit], if d then s ++ [(t.length : Int)] else s)), 0) else (noneA, 18)) else (noneA, 2)) else (noneA, 8)

def levC (v : Int) (t s : List Int) (lit : Int) : Int × Int := if okA v t s then (if isLit v lit then (if idxC lit 0 t < 0 then (0, 6) else ((cntLE s (idxC lit 0 t) : Int), 0)) else (0, 2)) else (0, 8)

def undC (v : Int) (t s : List Int) (k : Int) : (Int × List Int × List Int) × Int :=
  if okA v t s then (if 0 ≤ k ∧ k ≤ s.length then ((v, ((match s[k.toNat]? with | some n => t.take n.toNat | none => t), s.take k.toNat)), 0) else (noneA, 2)) else (noneA, 8)

section
variable {v : Int} {t s : List Int} (ht : t.length ≤ 68719476000) (hs : s.length ≤ 68719476000) (hr : ∀ l ∈ t, in64 l) {lit : Int} (hl : in64 lit)

include ht hs hr hl

theorem assign_put_eq : assign_put v t s lit = some (putC v t s lit false) := by
  rw [assign_put.eq, assign_open_eq (by omega) (by omega) hr hl, Option.bind_some, cn]
  unfold openC putC
  by_cases h : okA v t s
  · simp only [if_pos h]
    by_cases h2 : isLit v lit
    · have hv := h.vars
      simp only [if_pos h2, if_true]
      rw [slices_Contains_eq (by omega), Option.bind_some, bxor_one (by omega) (by omega), slices_Contains_eq (by omega), Option.bind_some, cd, cd]
      by_cases c1 : lit ∈ t
      · have := (isS_true h.dis).2 c1
        rw [if_pos c1, if_neg (by omega)]
      · rw [if_neg c1]
        by_cases c2 : neg lit ∈ t
        · have := (isS_false h.dis).2 c2
          rw [if_pos c2, if_neg (by omega)]
        · have hS : isS t lit = 2 := by
            rcases isS_cases t lit with q | q | q
            · exact absurd ((isS_false h.dis).1 q) c2
            · exact absurd ((isS_true h.dis).1 q) c1
            · exact q
          have g1 : subl t 0 (t.length : Int) = some t := by unfold subl; rw [if_pos (by omega)]; simp
          have g2 : subl s 0 (s.length : Int) = some s := by unfold subl; rw [if_pos (by omega)]; simp
          rw [if_neg c2, if_pos hS, g1, Option.bind_some, app_ok (by simp; omega), Option.bind_some, g2, Option.bind_some, app_ok (by simp; omega), Option.bind_some]
          rfl
    · simp only [if_neg h2]; rfl
  · simp only [if_neg h]; rfl

theorem assign_Imply_eq : assign_Imply v t s lit = some (putC v t s lit false) := by
  rw [assign_Imply.eq, assign_put_eq ht hs hr hl]; rfl

theorem assign_Level_eq : assign_Level v t s lit = some (levC v t s lit) := by
  rw [assign_Level.eq, assign_open_eq (by omega) (by omega) hr hl, Option.bind_some, cn]
  unfold openC levC
  by_cases h : okA v t s
  · simp only [if_pos h]
    by_cases h2 : isLit v lit
    · have hv := h.vars
      simp only [if_pos h2, if_true]
      have hidx := slices_IndexFunc.loop hv h.lits (by omega) h2 t.length 0 (by omega)
      rw [show ((0 : Nat) : Int) = 0 from rfl, List.drop_zero] at hidx
      rw [slices_IndexFunc_int_int_s1.eq, hidx, Option.bind_some, cd]
      by_cases h3 : idxC lit 0 t < 0
      · rw [if_pos h3, if_pos h3]
      · obtain ⟨n, f, g1, g2, g3⟩ := slices_BinarySearch_ok h.inc (by omega) (idxC lit 0 t)
        rw [if_neg h3, if_neg h3, g1, Option.bind_some, ← g2]
        cases f with
        | true =>
          have hw : IntKind.wrap .i64 ((n : Int) + 1) = ((n + 1 : Nat) : Int) := by rw [wr] <;> omega
          show some (IntKind.wrap .i64 ((n : Int) + 1), (0 : Int)) = _
          rw [hw]; rfl
        | false => rfl
    · simp only [if_neg h2]; rfl
  · simp only [if_neg h]; rfl

end

theorem take_sub {t : List Int} {k : Int} (h : 0 ≤ k ∧ k ≤ t.length) : subl t 0 k = some (t.take k.toNat) := by
  unfold subl; rw [if_pos (by omega)]; simp

theorem assign_Undo_eq {v : Int} {t s : List Int} (ht : t.length ≤ 68719476000) (hs : s.length ≤ 68719476000) (hr : ∀ l ∈ t, in64 l) {k : Int} : assign_Undo v t s k = some (undC v t s k) := by
  rw [assign_Undo.eq, assign_Check_eq (by omega) (by omega) hr, Option.bind_some, cn, cd, cd, cd]
  unfold undC
  by_cases h : okA v t s
  · rw [if_pos h, if_pos rfl, if_pos h]
    by_cases h1 : k < 0
    · rw [if_pos h1, if_neg (by omega)]
    · rw [if_neg h1]
      by_cases h2 : k > (s.length : Int)
      · rw [if_pos h2, if_neg (by omega)]
      · rw [if_neg h2, if_pos (show 0 ≤ k ∧ k ≤ (s.length : Int) by omega)]
        have hk : (k.toNat : Int) = k := by omega
        by_cases h3 : k < (s.length : Int)
        · have hlt : k.toNat < s.length := by omega
          have hb := h.bnd _ (List.getElem_mem hlt)
          have hg : geti s k = some s[k.toNat] := by rw [gi' (by omega), List.getElem?_eq_getElem hlt]
          rw [if_pos h3, hg, Option.bind_some, take_sub (by omega), Option.bind_some, app_ok (by simp; omega), Option.bind_some, take_sub (by omega), Option.bind_some, app_ok (by simp; omega), Option.bind_some, List.getElem?_eq_getElem hlt]
          rfl
        · rw [if_neg h3, take_sub (by omega), Option.bind_some, app_ok (by simp; omega), Option.bind_some, take_sub (by omega), Option.bind_some, app_ok (by simp; omega), Option.bind_some, List.getElem?_eq_none (by omega)]
          simp
  · rw [if_neg h, if_neg (by omega), if_neg h]

end Go.Proofs.YthbkhndapkbgbaaGreat
