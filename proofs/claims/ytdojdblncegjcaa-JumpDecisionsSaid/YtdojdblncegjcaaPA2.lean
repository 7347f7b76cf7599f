/- Assignments, of plain values: the references; the laws. -/
import Derived.Test.YtdojdblncegjcaaPA1
namespace Go.Proofs.Ytdojdblncegjcaa
open Go Go.Proofs.Ytdojdblncegjcaa.R
set_option linter.unusedVariables false

/-! ### The references -/

theorem ref14_At.loop {v : Int} {t s : List Int} {x : Int} (hn : s.length ≤ 140737488351232) : ∀ (m i n : Nat), i + m = s.length → n ≤ i → spiritlevelref14_At.l0 x (n : Int) (i : Int) v t s = some (((n + cntLE (s.drop i) x : Nat) : Int))
  | 0, i, n, hi, h => by rw [spiritlevelref14_At.l0_eq, cd, if_neg (by omega), List.drop_of_length_le (by omega)]; rfl
  | m + 1, i, n, hi, h => by
    have hlt : i < s.length := by omega
    have hw2 : IntKind.wrap .i64 ((i : Int) + 1) = ((i + 1 : Nat) : Int) := by rw [wr] <;> omega
    have hw3 : IntKind.wrap .i64 ((n : Int) + 1) = ((n + 1 : Nat) : Int) := by rw [wr] <;> omega
    rw [spiritlevelref14_At.l0_eq, cd, if_pos (by omega), gsome hlt, Option.bind_some, cd, hw2, hw3, drop_cons hlt]
    unfold cntLE
    rw [List.filter_cons]
    by_cases hx : s[i] ≤ x
    · rw [if_pos hx, ref14_At.loop hn m (i + 1) (n + 1) (by omega) (by omega), if_pos (decide_eq_true hx), List.length_cons]
      unfold cntLE
      congr 2; omega
    · rw [if_neg hx, ref14_At.loop hn m (i + 1) n (by omega) (by omega), if_neg (by simpa using hx)]
      rfl

theorem ref14_At_eq {v : Int} {t s : List Int} {x : Int} (hn : s.length ≤ 140737488351232) : spiritlevelref14_At v t s x = some ((cntLE s x : Nat) : Int) := by
  rw [spiritlevelref14_At.eq]
  have := ref14_At.loop (v := v) (t := t) (x := x) hn s.length 0 0 (by omega) (by omega)
  rw [show ((0 : Nat) : Int) = 0 from rfl, List.drop_zero, Nat.zero_add] at this
  exact this

theorem idxC_bnd (l : Int) : ∀ (t : List Int) (k : Int), idxC l k t = -1 ∨ (k ≤ idxC l k t ∧ idxC l k t < k + t.length)
  | [], k => .inl rfl
  | a :: r, k => by
    simp only [idxC, List.length_cons]
    split
    · exact .inr ⟨by omega, by omega⟩
    · rcases idxC_bnd l r (k + 1) with h | h
      · exact .inl h
      · exact .inr ⟨by omega, by omega⟩

def ofC (s : List Int) (x : Int) : Int := if x < 0 then -1 else (cntLE s x : Int)

theorem idxC_cons {l k a : Int} {r : List Int} : idxC l k (a :: r) = if a / 2 = l / 2 then k else idxC l (k + 1) r := rfl

theorem ref14_Of.loop {v : Int} {t s : List Int} (h : okA v t s) {lit : Int} (hlit : isLit v lit) : ∀ (m i : Nat), i + m = t.length → spiritlevelref14_Of.l0 lit (i : Int) v t s = some (ofC s (idxC lit (i : Int) (t.drop i)))
  | 0, i, hi => by rw [spiritlevelref14_Of.l0_eq, cd, if_neg (by omega), List.drop_of_length_le (by omega)]; rfl
  | m + 1, i, hi => by
    have hv := h.vars
    have hsh := h.short
    have hlt : i < t.length := by omega
    have hli := h.lits _ (List.getElem_mem hlt)
    have hw2 : IntKind.wrap .i64 ((i : Int) + 1) = ((i + 1 : Nat) : Int) := by rw [wr] <;> omega
    rw [spiritlevelref14_Of.l0_eq, cd, if_pos (by omega), gsome hlt, Option.bind_some, td (by omega) (by omega), td (by omega) (by omega), ce, hw2, ref14_At_eq (by omega), Option.bind_some, ref14_Of.loop h hlit m (i + 1) (by omega), drop_cons hlt, idxC_cons]
    by_cases he : t[i] / 2 = lit / 2
    · rw [if_pos he, if_pos he]
      unfold ofC
      rw [if_neg (by omega)]
    · rw [if_neg he, if_neg he]; rfl

/-- How many stay behind undoing. -/
def keep (t s : List Int) (k : Nat) : Nat := match s[k]? with | some n => n.toNat | none => t.length

theorem keep_iff {v : Int} {t s : List Int} (h : okA v t s) {k i : Nat} (hk : k ≤ s.length) (hi : i < t.length) : (cntLE s (i : Int) ≤ k) ↔ i < keep t s k := by
  unfold keep
  by_cases hlt : k < s.length
  · have := cntLE_lt (i := (i : Int)) h.inc k hlt
    have hb := h.bnd _ (List.getElem_mem hlt)
    rw [List.getElem?_eq_getElem hlt]
    simp only
    constructor
    · intro h1
      apply Classical.byContradiction
      intro h2
      have := this.1 (by omega)
      omega
    · intro h1
      apply Classical.byContradiction
      intro h2
      have := this.2 (by omega)
      omega
  · rw [List.getElem?_eq_none (by omega)]
    have := cntLE_le (s := s) (i := (i : Int))
    simp only
    omega

theorem ref14_Undone.loop {v : Int} {t s : List Int} (h : okA v t s) {k : Nat} (hk : k ≤ s.length) {b1 b2 : Int} {o3 o4 o6 : List Int} : ∀ (m i : Nat), i + m = t.length →
    spiritlevelref14_Undone.l0 (k : Int) (i : Int) v t s b1 b2 o3 o4 (t.take (min i (keep t s k))) o6 = some (b2, (t.take (keep t s k), o6))
  | 0, i, hi => by
    have hkp : keep t s k ≤ t.length := by
      unfold keep
      by_cases hlt : k < s.length
      · have hb := h.bnd _ (List.getElem_mem hlt)
        rw [List.getElem?_eq_getElem hlt]; simp only; omega
      · rw [List.getElem?_eq_none (by omega)]; simp
    rw [spiritlevelref14_Undone.l0_eq, cd, if_neg (by omega), show min i (keep t s k) = keep t s k by omega]
  | m + 1, i, hi => by
    have hv := h.vars
    have hsh := h.short
    have hlt : i < t.length := by omega
    have hw2 : IntKind.wrap .i64 ((i : Int) + 1) = ((i + 1 : Nat) : Int) := by rw [wr] <;> omega
    have hkeep := keep_iff h hk hlt
    rw [spiritlevelref14_Undone.l0_eq, cd, if_pos (by omega), ref14_At_eq (by omega), Option.bind_some, cd, hw2]
    have ih := ref14_Undone.loop h hk (b1 := b1) (b2 := b2) (o3 := o3) (o4 := o4) (o6 := o6) m (i + 1) (by omega)
    by_cases hc : cntLE s (i : Int) ≤ k
    · have hik := hkeep.1 hc
      rw [if_pos (by omega), gsome hlt, Option.bind_some, app_ok (by simp; omega), Option.bind_some]
      have : t.take (min i (keep t s k)) ++ [t[i]] = t.take (min (i + 1) (keep t s k)) := by
        rw [show min i (keep t s k) = i by omega, show min (i + 1) (keep t s k) = i + 1 by omega, List.take_add_one, List.getElem?_eq_getElem hlt]; rfl
      rw [this]; exact ih
    · have hik : ¬ i < keep t s k := fun q => hc (hkeep.2 q)
      rw [if_neg (by omega)]
      rw [show min (i + 1) (keep t s k) = min i (keep t s k) by omega] at ih
      exact ih

/-! ### The examples -/

def small64 (t : List Int) : Bool := decide (t.length ≤ 1000) && t.all fun x => decide (in64 x)

theorem small64_of {t : List Int} (h : small64 t = true) : t.length ≤ 1000 ∧ ∀ l ∈ t, in64 l := by
  unfold small64 at h
  rw [Bool.and_eq_true, decide_eq_true_eq, List.all_eq_true] at h
  exact ⟨h.1, fun l hl => of_decide_eq_true (h.2 l hl)⟩

theorem same_s {v v' : Int} {t s t' s' : List Int} (h : t.length ≤ 1000 ∧ s.length ≤ 1000) : spiritlevelref14_Same v t s v' t' s' = some (decide (v = v' ∧ t = t' ∧ s = s')) := ref14_Same_eq (by omega) (by omega)

/-! ### The laws -/

theorem putC_short {v : Int} {t s : List Int} {lit : Int} {d : Bool} (ht : t.length ≤ 200 ∧ s.length ≤ 200) : (putC v t s lit d).1.2.1.length ≤ 201 ∧ (putC v t s lit d).1.2.2.length ≤ 201 := by
  unfold putC
  split
  · split
    · split
      · cases d <;> simp <;> omega
      · simp
    · simp
  · simp

theorem undC_short {v : Int} {t s : List Int} {k : Int} (ht : t.length ≤ 200 ∧ s.length ≤ 200) : (undC v t s k).1.2.1.length ≤ 201 ∧ (undC v t s k).1.2.2.length ≤ 201 := by
  unfold undC
  split
  · split
    · constructor
      · show (match s[k.toNat]? with | some n => t.take n.toNat | none => t).length ≤ 201
        cases s[k.toNat]? with
        | none => simp only; omega
        | some n => simp only [List.length_take]; omega
      · show (s.take k.toNat).length ≤ 201
        rw [List.length_take]; omega
    · simp
  · simp

theorem undC_ok {v : Int} {t s : List Int} (h : okA v t s) {k : Int} (hk : 0 ≤ k ∧ k ≤ s.length) : undC v t s k = ((v, (t.take (keep t s k.toNat), s.take k.toNat)), 0) := by
  unfold undC keep
  rw [if_pos h, if_pos hk]
  cases s[k.toNat]? with
  | none => simp
  | some n => rfl

theorem keep_le {v : Int} {t s : List Int} (h : okA v t s) (k : Nat) : keep t s k ≤ t.length := by
  unfold keep
  by_cases hlt : k < s.length
  · have hb := h.bnd _ (List.getElem_mem hlt)
    rw [List.getElem?_eq_getElem hlt]; simp only; omega
  · rw [List.getElem?_eq_none (by omega)]; simp

theorem okA.undone {v : Int} {t s : List Int} (h : okA v t s) {k : Nat} (hk : k ≤ s.length) : okA v (t.take (keep t s k)) (s.take k) where
  vars := h.vars
  lits := fun l hl => h.lits l (List.mem_of_mem_take hl)
  dis := h.dis.sublist (List.take_sublist ..)
  inc := h.inc.sublist (List.take_sublist ..)
  bnd := fun x hx => by
    have hb := h.bnd x (List.mem_of_mem_take hx)
    refine ⟨hb.1, ?_⟩
    rw [List.length_take, Nat.min_eq_left (keep_le h k)]
    unfold keep
    by_cases hlt : k < s.length
    · rw [List.getElem?_eq_getElem hlt]
      simp only
      obtain ⟨i, hi, rfl⟩ := List.getElem_of_mem hx
      have hik : i < k := by rw [List.length_take] at hi; omega
      have := List.pairwise_iff_getElem.1 h.inc i k (by omega) hlt hik
      have hb2 := h.bnd _ (List.getElem_mem hlt)
      rw [List.getElem_take] at hb ⊢
      omega
    · rw [List.getElem?_eq_none (by omega)]; simp only; omega

theorem idxC_neg (l : Int) : ∀ (t : List Int) (k : Int), idxC (neg l) k t = idxC l k t
  | [], k => rfl
  | a :: r, k => by simp only [idxC, neg_div, idxC_neg l r]

theorem idxC_none {l : Int} : ∀ {t : List Int} {k : Int}, 0 ≤ k → (idxC l k t < 0 ↔ isS t l = 2)
  | [], k, _ => by simp [idxC, isS]
  | a :: r, k, hk => by
    have ih := idxC_none (l := l) (t := r) (k := k + 1) (by omega)
    rw [isS_none] at ih ⊢
    simp only [idxC]
    by_cases h : a / 2 = l / 2
    · rw [if_pos h]
      exact ⟨fun h2 => by omega, fun h2 => absurd h (h2 a (List.mem_cons_self ..))⟩
    · rw [if_neg h, ih]
      constructor
      · intro h2 b hb
        rcases List.mem_cons.1 hb with rfl | hb
        · exact h
        · exact h2 b hb
      · exact fun h2 b hb => h2 b (List.mem_cons_of_mem _ hb)

end Go.Proofs.Ytdojdblncegjcaa
