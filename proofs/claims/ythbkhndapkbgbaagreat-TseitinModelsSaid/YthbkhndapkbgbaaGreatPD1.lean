/- . -/
import Derived.Test.YthbkhndapkbgbaaGreatPA2
namespace Go.Proofs.YthbkhndapkbgbaaGreat
open Go Go.Proofs.YthbkhndapkbgbaaGreat.R
set_option linter.unusedVariables false

abbrev gd (h : List Int) (i : Nat) : Int := h.getD i 0
theorem gd_lt {h : List Int} {i : Nat} (hi : i < h.length) : gd h i = h[i] := by unfold gd; rw [List.getD_eq_getElem?_getD, List.getElem?_eq_getElem hi]; rfl

abbrev parOk (h : List Int) : Prop := ∀ i, i < h.length → 0 < i → gd h ((i - 1) / 2) ≤ gd h i

structure okH (h : List Int) : Prop where
  len : h.length ≤ 4000
  rng : ∀ x ∈ h, 1 ≤ x ∧ x ≤ 4000
  nodup : h.Nodup
  par : parOk h

instance (h : List Int) : Decidable (okH h) :=
  decidable_of_iff (h.length ≤ 4000 ∧ (∀ x ∈ h, 1 ≤ x ∧ x ≤ 4000) ∧ h.Nodup ∧ parOk h) ⟨fun ⟨h1, h2, h3, h4⟩ => ⟨h1, h2, h3, h4⟩, fun h => ⟨h.1, h.2, h.3, h.4⟩⟩

abbrev atH (h : List Int) (i : Nat) : Prop := (1 ≤ gd h i ∧ gd h i ≤ 4000) ∧ gd h i ∉ h.take i ∧ (0 < i → gd h ((i - 1) / 2) ≤ gd h i)

theorem okH_iff {h : List Int} : okH h ↔ h.length ≤ 4000 ∧ ∀ i, i < h.length → atH h i := by
  constructor
  · intro k
    refine ⟨k.len, fun i hi => ⟨by rw [gd_lt hi]; exact k.rng _ (List.getElem_mem hi), fun hm => ?_, k.par i hi⟩⟩
    obtain ⟨j, hj, he⟩ := List.getElem_of_mem hm
    rw [List.length_take] at hj
    rw [List.getElem_take, gd_lt hi] at he
    have := (List.getElem_inj k.nodup).1 he
    omega
  · rintro ⟨k1, k2⟩
    refine ⟨k1, fun x hx => ?_, ?_, fun i hi h0 => (k2 i hi).2.2 h0⟩
    · obtain ⟨i, hi, rfl⟩ := List.getElem_of_mem hx
      have := (k2 i hi).1
      rwa [gd_lt hi] at this
    · rw [List.Nodup, List.pairwise_iff_getElem]
      intro i j hi hj hij he
      refine (k2 j hj).2.1 ?_
      rw [gd_lt hj, ← he, List.mem_iff_getElem]
      exact ⟨i, by rw [List.length_take]; omega, List.getElem_take⟩


def swapH (h : List Int) (i k : Nat) : List Int := (h.set i (gd h k)).set k (gd h i)

theorem swapH_len {h : List Int} {i k : Nat} : (swapH h i k).length = h.length := by unfold swapH; rw [List.length_set, List.length_set]

theorem swapH_gd {h : List Int} {i k : Nat} (hi : i < h.length) (hk : k < h.length) (j : Nat) : gd (swapH h i k) j = if j = k then gd h i else if j = i then gd h k else gd h j := by
  unfold swapH
  simp only [gd, List.getD_eq_getElem?_getD]
  rw [List.getElem?_set]
  by_cases h1 : j = k
  · rw [if_pos h1.symm, if_pos h1, if_pos (by rw [List.length_set]; omega)]; rfl
  · rw [if_neg (fun e => h1 e.symm), if_neg h1, List.getElem?_set]
    by_cases h2 : j = i
    · rw [if_pos h2.symm, if_pos h2, if_pos (by omega)]; rfl
    · rw [if_neg (fun e => h2 e.symm), if_neg h2]

theorem swapH_perm {h : List Int} {i k : Nat} (hi : i < h.length) (hk : k < h.length) : (swapH h i k).Perm h := by
  unfold swapH
  rw [gd_lt hi, gd_lt hk]
  exact List.set_set_perm hi hk



def bestOf (o : List Int) (i : Nat) : Nat :=
  if 2 * i + 2 < o.length ∧ gd o (2 * i + 2) < gd o (if 2 * i + 1 < o.length ∧ gd o (2 * i + 1) < gd o i then 2 * i + 1 else i) then 2 * i + 2
  else if 2 * i + 1 < o.length ∧ gd o (2 * i + 1) < gd o i then 2 * i + 1 else i

theorem bestOf_cases (o : List Int) (i : Nat) : bestOf o i = i ∧ (∀ j, j < o.length → 0 < j → (j - 1) / 2 = i → gd o i ≤ gd o j) ∨
    (bestOf o i < o.length ∧ 0 < bestOf o i ∧ (bestOf o i - 1) / 2 = i ∧ gd o (bestOf o i) < gd o i ∧ ∀ j, j < o.length → 0 < j → (j - 1) / 2 = i → gd o (bestOf o i) ≤ gd o j) := by
  have hj : ∀ j, 0 < j → (j - 1) / 2 = i → j = 2 * i + 1 ∨ j = 2 * i + 2 := fun j h0 h1 => by omega
  unfold bestOf
  by_cases h1 : 2 * i + 1 < o.length ∧ gd o (2 * i + 1) < gd o i
  · simp only [if_pos h1]
    by_cases h2 : 2 * i + 2 < o.length ∧ gd o (2 * i + 2) < gd o (2 * i + 1)
    · rw [if_pos h2]
      refine .inr ⟨h2.1, by omega, by omega, by omega, fun j hl h0 he => ?_⟩
      rcases hj j h0 he with rfl | rfl
      · omega
      · omega
    · rw [if_neg h2]
      refine .inr ⟨h1.1, by omega, by omega, h1.2, fun j hl h0 he => ?_⟩
      rcases hj j h0 he with rfl | rfl
      · omega
      · omega
  · simp only [if_neg h1]
    by_cases h2 : 2 * i + 2 < o.length ∧ gd o (2 * i + 2) < gd o i
    · rw [if_pos h2]
      refine .inr ⟨h2.1, by omega, by omega, by omega, fun j hl h0 he => ?_⟩
      rcases hj j h0 he with rfl | rfl
      · omega
      · omega
    · rw [if_neg h2]
      refine .inl ⟨rfl, fun j hl h0 he => ?_⟩
      rcases hj j h0 he with rfl | rfl
      · omega
      · omega

def siftDn : Nat → List Int → Nat → List Int
  | 0, o, _ => o
  | n + 1, o, i => if bestOf o i = i then o else siftDn n (swapH o i (bestOf o i)) (bestOf o i)

def popped (h : List Int) : List Int := siftDn h.length (h.dropLast.set 0 (gd h (h.length - 1))) 0

theorem bestOf_lt {o : List Int} {i : Nat} (h : bestOf o i ≠ i) : bestOf o i < o.length ∧ i < bestOf o i := by
  rcases bestOf_cases o i with ⟨h1, _⟩ | ⟨h1, h2, h3, _⟩
  · exact absurd h1 h
  · exact ⟨h1, by omega⟩

theorem siftDn_perm : ∀ (n : Nat) {o : List Int} {i : Nat}, (siftDn n o i).Perm o
  | 0, o, i => List.Perm.refl _
  | n + 1, o, i => by
    unfold siftDn
    split
    · exact List.Perm.refl _
    · rename_i h
      have hb := bestOf_lt h
      exact (siftDn_perm n).trans (swapH_perm (by omega) hb.1)

theorem siftDn_par : ∀ (n : Nat) {o : List Int} {i : Nat}, o.length < n + i → (∀ j, j < o.length → 0 < j → (j - 1) / 2 ≠ i → gd o ((j - 1) / 2) ≤ gd o j) →
    (0 < i → ∀ j, j < o.length → 0 < j → (j - 1) / 2 = i → gd o ((i - 1) / 2) ≤ gd o j) → parOk (siftDn n o i)
  | 0, o, i, hn, h1, h2 => by
    intro j hj h0
    exact h1 j hj h0 (by unfold siftDn at hj; omega)
  | n + 1, o, i, hn, h1, h2 => by
    unfold siftDn
    rcases bestOf_cases o i with ⟨h3, h4⟩ | ⟨h3, h4, h5, h6, h7⟩
    · rw [if_pos h3]
      intro j hj h0
      by_cases g : (j - 1) / 2 = i
      · rw [g]; exact h4 j hj h0 g
      · exact h1 j hj h0 g
    · generalize bestOf o i = b at h3 h4 h5 h6 h7 ⊢
      rw [if_neg (by omega)]
      have hi : i < o.length := by omega
      refine siftDn_par n (by rw [swapH_len]; omega) (fun j hj h0 hne => ?_) (fun hb0 j hj h0 he => ?_)
      · rw [swapH_len] at hj
        rw [swapH_gd hi h3, swapH_gd hi h3, if_neg hne]
        by_cases g1 : (j - 1) / 2 = i
        · rw [if_pos g1]
          by_cases g2 : j = b
          · rw [if_pos g2]; omega
          · rw [if_neg g2, if_neg (by omega)]
            exact h7 j hj h0 g1
        · rw [if_neg g1]
          by_cases g2 : j = b
          · subst g2; omega
          · rw [if_neg g2]
            by_cases g3 : j = i
            · rw [if_pos g3]
              subst g3
              exact h2 h0 b h3 h4 h5
            · rw [if_neg g3]
              exact h1 j hj h0 g1
      · rw [swapH_len] at hj
        rw [swapH_gd hi h3, swapH_gd hi h3, h5, if_neg (by omega), if_pos rfl, if_neg (by omega), if_neg (by omega)]
        have := h1 j hj h0 (by omega)
        rw [he] at this
        exact this

theorem gd_set0 {o : List Int} {x : Int} {i : Nat} (h : 0 < i) : gd (o.set 0 x) i = gd o i := by
  simp only [gd, List.getD_eq_getElem?_getD]
  rw [List.getElem?_set, if_neg (by omega)]

theorem gd_dropLast {h : List Int} {i : Nat} (hi : i < h.length - 1) : gd h.dropLast i = gd h i := by
  simp only [gd, List.getD_eq_getElem?_getD]
  rw [List.dropLast_eq_take, List.getElem?_take_of_lt hi]

theorem popped_perm {h : List Int} (hne : h ≠ []) : (gd h 0 :: popped h).Perm h := by
  have hp : (popped h).Perm (h.dropLast.set 0 (gd h (h.length - 1))) := siftDn_perm _
  refine (hp.cons _).trans ?_
  cases h with
  | nil => exact absurd rfl hne
  | cons a r =>
    rcases List.eq_nil_or_concat r with rfl | ⟨m, l, rfl⟩
    · simp
    · rw [List.concat_eq_append]
      have h1 : (a :: (m ++ [l])).dropLast = a :: m := by
        rw [← List.cons_append, List.dropLast_concat]
      have h2 : gd (a :: (m ++ [l])) ((a :: (m ++ [l])).length - 1) = l := by simp [gd]
      rw [h1, h2, List.set_cons_zero]
      show (a :: l :: m).Perm _
      exact (List.perm_append_singleton l m).symm.cons a

theorem popped_len {h : List Int} : (popped h).length = h.length - 1 := by
  unfold popped
  rw [(siftDn_perm _).length_eq, List.length_set, List.length_dropLast]

theorem okH.popped {h : List Int} (k : okH h) (hne : h ≠ []) : okH (popped h) := by
  have hp := popped_perm hne
  have hd := hp.nodup_iff.2 k.nodup
  have hl := popped_len (h := h)
  have h0 : 0 < h.length := by cases h with | nil => exact absurd rfl hne | cons a r => simp
  refine ⟨by have := k.len; omega, fun x hx => k.rng x (hp.mem_iff.1 (List.mem_cons_of_mem _ hx)), (List.nodup_cons.1 hd).2, ?_⟩
  refine siftDn_par _ (by rw [List.length_set, List.length_dropLast]; omega) (fun j hj hj0 hne => ?_) (fun h0 => absurd h0 (Nat.lt_irrefl _))
  rw [List.length_set, List.length_dropLast] at hj
  rw [gd_set0 (by omega), gd_set0 hj0, gd_dropLast (by omega), gd_dropLast hj]
  exact k.par j (by omega) hj0

theorem okH.min {h : List Int} (k : okH h) : ∀ (n i : Nat), i ≤ n → i < h.length → gd h 0 ≤ gd h i
  | 0, i, hn, hi => by have : i = 0 := by omega
                       subst this; exact Int.le_refl _
  | n + 1, i, hn, hi => by
    by_cases h0 : 0 < i
    · exact Int.le_trans (k.min n ((i - 1) / 2) (by omega) (by omega)) (k.par i hi h0)
    · exact k.min n i (by omega) hi

theorem okH.least {h : List Int} (k : okH h) {x : Int} (hx : x ∈ h) : gd h 0 ≤ x := by
  obtain ⟨i, hi, rfl⟩ := List.getElem_of_mem hx
  rw [← gd_lt hi]
  exact k.min i i (Nat.le_refl _) hi

end Go.Proofs.YthbkhndapkbgbaaGreat
