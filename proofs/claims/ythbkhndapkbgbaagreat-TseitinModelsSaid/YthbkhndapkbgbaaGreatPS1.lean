/- . -/
import Derived.Test.YthbkhndapkbgbaaGreatPT2
namespace Go.Proofs.YthbkhndapkbgbaaGreat
open Go Go.Proofs.YthbkhndapkbgbaaGreat.R
set_option linter.unusedVariables false

def Clo (L : List (List Int)) (Y : List Int) : Prop := ∀ c ∈ L, (stC Y c).1 ≠ 0 ∧ (stC Y c).1 ≠ 3

def LedK (v : Int) (L : List (List Int)) (t s : List Int) : Prop :=
  ∀ k, k ≤ s.length → ∀ Y, okA v Y [] → Clo L Y → (∀ j, j < k → dc t s j ∈ Y) → ∀ l ∈ t.take (keep t s k), l ∈ Y

def Dec (v : Int) (t s : List Int) : Prop :=
  ∀ j, j < s.length → ∃ x, dc t s j = 2 * x + 1 ∧ 1 ≤ x ∧ x ≤ v ∧ ∀ y, 1 ≤ y → y < x → isS (t.take (keep t s j)) (2 * y) ≠ 2

theorem keep_lt {t s : List Int} {k : Nat} (h : k < s.length) : keep t s k = s[k].toNat := by unfold keep; rw [List.getElem?_eq_getElem h]
theorem keep_len {t s : List Int} : keep t s s.length = t.length := by unfold keep; rw [List.getElem?_eq_none (Nat.le_refl _)]

section
variable {v : Int} {L : List (List Int)} {t s : List Int}

theorem keep_bnd (h : okA v t s) {k : Nat} (hk : k < s.length) : keep t s k < t.length := by
  rw [keep_lt hk]
  have := h.bnd _ (List.getElem_mem hk)
  omega

theorem keep_inc (h : okA v t s) {j k : Nat} (hj : j < k) (hk : k < s.length) : keep t s j < keep t s k := by
  rw [keep_lt hk, keep_lt (by omega)]
  have h1 := (List.pairwise_iff_getElem.1 h.inc) j k (by omega) hk hj
  have h2 := h.bnd _ (List.getElem_mem (show j < s.length by omega))
  omega

theorem dc_keep {j : Nat} (hj : j < s.length) : dc t s j = t.getD (keep t s j) 0 := by
  unfold dc
  rw [keep_lt hj, List.getD_eq_getElem?_getD (l := s), List.getElem?_eq_getElem hj]; rfl

theorem same_keep {t' s' : List Int} {k : Nat} (hk : k < s.length) (hk' : k < s'.length) (he : s'[k] = s[k]) : keep t' s' k = keep t s k := by
  rw [keep_lt hk, keep_lt hk', he]

theorem same_dc (h : okA v t s) {t' s' : List Int} {k : Nat} (hk : k < s.length) (hk' : k < s'.length) (he : s'[k] = s[k]) {m : Nat} (ht : t'.take m = t.take m) (hm : keep t s k < m) : dc t' s' k = dc t s k := by
  rw [dc_keep hk, dc_keep hk', same_keep hk hk' he, List.getD_eq_getElem?_getD, List.getD_eq_getElem?_getD]
  have h1 : (t'.take m)[keep t s k]? = (t.take m)[keep t s k]? := by rw [ht]
  rw [List.getElem?_take, List.getElem?_take, if_pos hm, if_pos hm] at h1
  rw [h1]

theorem take_le {t t' : List Int} {m n : Nat} (h : t'.take m = t.take m) (hn : n ≤ m) : t'.take n = t.take n := by
  have := congrArg (List.take n) h
  rwa [List.take_take, List.take_take, Nat.min_eq_left hn] at this

theorem LedK.empty (hv : okV v) : LedK v L [] [] := fun k hk Y _ _ _ l hl => by simp at hl

theorem Dec.empty : Dec v [] [] := fun j hj => by simp at hj

theorem LedK.prop (hL : okL v L) (h : okA v t s) (hl : LedK v L t s) {n : Nat} : LedK v L (propC L n t).1 s := by
  obtain ⟨hA, u, hu⟩ := propC_okA hL n h
  intro k hk Y hY hc hd l hl'
  rcases Nat.lt_or_ge k s.length with hlt | hge
  · have ht : (propC L n t).1.take t.length = t.take t.length := by rw [hu]; simp
    have hkb := keep_bnd h hlt
    have e := same_keep (t := t) (t' := (propC L n t).1) hlt hlt rfl
    rw [e, take_le ht (by omega)] at hl'
    refine hl k hk Y hY hc (fun j hj => ?_) l hl'
    rw [← same_dc h (t' := (propC L n t).1) (show j < s.length by omega) (by omega) rfl ht (keep_bnd h (by omega))]
    exact hd j hj
  · have hk' : k = s.length := by omega
    subst hk'
    rw [keep_len, List.take_length] at hl'
    refine (prop_sub hL hY hc n h fun l hl2 => ?_).2 l hl'
    have ht : (propC L n t).1.take t.length = t.take t.length := by rw [hu]; simp
    refine hl s.length (Nat.le_refl _) Y hY hc (fun j hj => ?_) l (by rw [keep_len, List.take_length]; exact hl2)
    rw [← same_dc h (t' := (propC L n t).1) hj hj rfl ht (keep_bnd h hj)]
    exact hd j hj

theorem Dec.prop (hL : okL v L) (h : okA v t s) (hd : Dec v t s) {n : Nat} : Dec v (propC L n t).1 s := by
  obtain ⟨hA, u, hu⟩ := propC_okA hL n h
  intro j hj
  have ht : (propC L n t).1.take t.length = t.take t.length := by rw [hu]; simp
  have hkb := keep_bnd h hj
  obtain ⟨x, h1, h2, h3, h4⟩ := hd j hj
  refine ⟨x, by rw [same_dc h hj hj rfl ht hkb]; exact h1, h2, h3, ?_⟩
  rw [same_keep (t := t) hj hj rfl, take_le ht (by omega)]
  exact h4

theorem LedK.dec (h : okA v t s) (hl : LedK v L t s) (x : Int) : LedK v L (t ++ [x]) (s ++ [(t.length : Int)]) := by
  intro k hk Y hY hc hd l hl'
  have ht : (t ++ [x]).take t.length = t.take t.length := by simp
  have hs : ∀ j (hj : j < s.length), (s ++ [(t.length : Int)])[j]'(by simp; omega) = s[j] := fun j hj => List.getElem_append_left hj
  have hdc : ∀ j, j < s.length → dc (t ++ [x]) (s ++ [(t.length : Int)]) j = dc t s j := fun j hj => same_dc h hj (by simp; omega) (hs j hj) ht (keep_bnd h hj)
  rw [List.length_append, List.length_singleton] at hk
  have hlast : keep (t ++ [x]) (s ++ [(t.length : Int)]) s.length = t.length := by rw [keep_lt (by simp)]; simp
  rcases Nat.lt_or_ge k s.length with hlt | hge
  · have hkb := keep_bnd h hlt
    rw [same_keep (t := t) hlt (by simp; omega) (hs k hlt), take_le ht (by omega)] at hl'
    exact hl k (by omega) Y hY hc (fun j hj => by rw [← hdc j (by omega)]; exact hd j hj) l hl'
  · have old : s.length ≤ k → ∀ l ∈ t, l ∈ Y := fun hk2 l hl2 => hl s.length (Nat.le_refl _) Y hY hc (fun j hj => by rw [← hdc j hj]; exact hd j (by omega)) l (by rw [keep_len, List.take_length]; exact hl2)
    by_cases hk' : k = s.length
    · subst hk'
      rw [hlast, ht, List.take_length] at hl'
      exact old (Nat.le_refl _) l hl'
    · have hk2 : k = (s ++ [(t.length : Int)]).length := by simp; omega
      rw [hk2, keep_len, List.take_length] at hl'
      rcases List.mem_append.1 hl' with hl' | hl'
      · exact old hge l hl'
      · rw [List.mem_singleton] at hl'
        subst hl'
        have := hd s.length (by omega)
        rw [dc_keep (by simp), hlast] at this
        simpa using this

theorem Dec.dec (h : okA v t s) (hd : Dec v t s) {x : Int} (h1 : 1 ≤ x) (h2 : x ≤ v) (h3 : ∀ y, 1 ≤ y → y < x → isS t (2 * y) ≠ 2) : Dec v (t ++ [2 * x + 1]) (s ++ [(t.length : Int)]) := by
  intro j hj
  have ht : (t ++ [2 * x + 1]).take t.length = t.take t.length := by simp
  rw [List.length_append, List.length_singleton] at hj
  have hlast : keep (t ++ [2 * x + 1]) (s ++ [(t.length : Int)]) s.length = t.length := by rw [keep_lt (by simp)]; simp
  rcases Nat.lt_or_ge j s.length with hlt | hge
  · have hs : (s ++ [(t.length : Int)])[j]'(by simp; omega) = s[j] := List.getElem_append_left hlt
    have hkb := keep_bnd h hlt
    obtain ⟨y, g1, g2, g3, g4⟩ := hd j hlt
    refine ⟨y, by rw [same_dc h hlt (by simp; omega) hs ht hkb]; exact g1, g2, g3, ?_⟩
    rw [same_keep (t := t) hlt (by simp; omega) hs, take_le ht (by omega)]
    exact g4
  · have : j = s.length := by omega
    subst this
    refine ⟨x, ?_, h1, h2, ?_⟩
    · rw [dc_keep (by simp), hlast]; simp
    · rw [hlast, ht, List.take_length]; exact h3

theorem LedK.back (h : okA v t s) (hl : LedK v L t s) {T : Nat} (hT : T < s.length) {c : List Int} (hc : okC v c) {g : Int} (hg : stC (t.take (keep t s T)) c = (3, g)) : LedK v (L ++ [c]) (t.take (keep t s T) ++ [g]) (s.take T) := by
  intro k hk Y hY hcl hd l hl'
  have hkb := keep_bnd h hT
  have htl : (t.take (keep t s T)).length = keep t s T := by rw [List.length_take]; omega
  have ht : (t.take (keep t s T) ++ [g]).take (keep t s T) = t.take (keep t s T) := by
    rw [List.take_append_of_le_length (by omega), List.take_take, Nat.min_self]
  have hsl : (s.take T).length = T := by rw [List.length_take]; omega
  rw [hsl] at hk
  have hs : ∀ j (hj : j < T), (s.take T)[j]'(by omega) = s[j]'(by omega) := fun j hj => by rw [List.getElem_take]
  have hdc : ∀ j, j < T → dc (t.take (keep t s T) ++ [g]) (s.take T) j = dc t s j := fun j hj => same_dc h (by omega) (by omega) (hs j hj) ht (keep_inc h hj hT)
  have old : ∀ k, k ≤ T → (∀ j, j < k → dc (t.take (keep t s T) ++ [g]) (s.take T) j ∈ Y) → ∀ l ∈ t.take (keep t s k), l ∈ Y := fun k hk hd l hl2 =>
    hl k (by omega) Y hY (fun d hd => hcl d (List.mem_append_left _ hd)) (fun j hj => by rw [← hdc j (by omega)]; exact hd j hj) l hl2
  rcases Nat.lt_or_ge k T with hlt | hge
  · rw [same_keep (t := t) (show k < s.length by omega) (by omega) (hs k hlt), take_le ht (by have := keep_inc h hlt hT; omega)] at hl'
    exact old k hk hd l hl'
  · have hk' : k = (s.take T).length := by omega
    rw [hk', keep_len, List.take_length] at hl'
    have pre := old T (Nat.le_refl _) (fun j hj => hd j (by omega))
    rcases List.mem_append.1 hl' with hl' | hl'
    · exact pre l hl'
    · rw [List.mem_singleton] at hl'
      subst hl'
      have hu := h.undone (k := T) (by omega)
      have h3 : (stC (t.take (keep t s T)) c).1 = 3 := by rw [hg]
      obtain ⟨q1, q2, q3⟩ := stC_three h3
      rw [hg] at q1 q2 q3
      obtain ⟨n0, n3⟩ := hcl c (List.mem_append_right _ (List.mem_singleton.2 rfl))
      have hz : ∀ x ∈ c, x ≠ l → isS Y x = 0 := fun x hx hne => (isS_sub hu hY pre).1 (q3 x hx hne)
      rcases isS_cases Y l with h0 | h0 | h0
      · exfalso
        refine n0 (stC_zero.2 fun x hx => ?_)
        by_cases hxl : x = l
        · rw [hxl]; exact h0
        · exact hz x hx hxl
      · exact (isS_true hY.dis).1 h0
      · exfalso
        exact n3 (by rw [stC_three_of hc q1 h0 hz])

theorem Dec.back (h : okA v t s) (hd : Dec v t s) {T : Nat} (hT : T < s.length) (g : Int) : Dec v (t.take (keep t s T) ++ [g]) (s.take T) := by
  intro j hj
  have hkb := keep_bnd h hT
  have ht : (t.take (keep t s T) ++ [g]).take (keep t s T) = t.take (keep t s T) := by
    rw [List.take_append_of_le_length (by rw [List.length_take]; omega), List.take_take, Nat.min_self]
  have hsl : (s.take T).length = T := by rw [List.length_take]; omega
  rw [hsl] at hj
  have hs : (s.take T)[j]'(by omega) = s[j]'(by omega) := by rw [List.getElem_take]
  obtain ⟨x, h1, h2, h3, h4⟩ := hd j (by omega)
  refine ⟨x, by rw [same_dc h (by omega) (by omega) hs ht (keep_inc h hj hT)]; exact h1, h2, h3, ?_⟩
  rw [same_keep (t := t) (show j < s.length by omega) (by omega) hs, take_le ht (by have := keep_inc h hj hT; omega)]
  exact h4

end


def mes (V : Nat) (s : List Int) : Nat → Nat
  | 0 => 0
  | n + 1 => mes V s n + if (n : Int) ∈ s then 0 else 2 ^ (V - 1 - n)

theorem mes_mono {V : Nat} {s : List Int} {n : Nat} : ∀ {m : Nat}, n ≤ m → mes V s n ≤ mes V s m
  | 0, h => by rw [Nat.le_zero.1 h]; exact Nat.le_refl _
  | m + 1, h => by
    rcases Nat.lt_or_ge n (m + 1) with h1 | h1
    · have := mes_mono (V := V) (s := s) (n := n) (m := m) (by omega)
      simp only [mes]; omega
    · have : n = m + 1 := by omega
      rw [this]; exact Nat.le_refl _

theorem mes_congr {V : Nat} {s s' : List Int} : ∀ {n : Nat}, (∀ i : Nat, i < n → ((i : Int) ∈ s ↔ (i : Int) ∈ s')) → mes V s n = mes V s' n
  | 0, _ => rfl
  | n + 1, h => by
    simp only [mes]
    rw [mes_congr fun i hi => h i (by omega)]
    by_cases h1 : (n : Int) ∈ s
    · rw [if_pos h1, if_pos ((h n (by omega)).1 h1)]
    · rw [if_neg h1, if_neg (fun h2 => h1 ((h n (by omega)).2 h2))]

theorem mes_bnd {V : Nat} {s : List Int} {n : Nat} : ∀ {m : Nat}, n ≤ m → m ≤ V → mes V s m + 2 ^ (V - m) ≤ mes V s n + 2 ^ (V - n)
  | 0, h, _ => by rw [Nat.le_zero.1 h]; exact Nat.le_refl _
  | m + 1, h, hm => by
    rcases Nat.lt_or_ge n (m + 1) with h1 | h1
    · have ih := mes_bnd (V := V) (s := s) (n := n) (m := m) (by omega) (by omega)
      have e : 2 ^ (V - m) = 2 ^ (V - (m + 1)) + 2 ^ (V - (m + 1)) := by
        rw [show V - m = V - (m + 1) + 1 from by omega, Nat.pow_succ]; omega
      have e2 : V - 1 - m = V - (m + 1) := by omega
      simp only [mes]
      rw [e2]
      generalize 2 ^ (V - (m + 1)) = g at *
      split <;> omega
    · have : n = m + 1 := by omega
      rw [this]; exact Nat.le_refl _

section
variable {v : Int} {t s : List Int}

theorem mes_back (h : okA v t s) {T : Nat} (hT : T < s.length) (g : Int) : mes v.toNat s t.length + 1 ≤ mes v.toNat (s.take T) (t.take (keep t s T) ++ [g]).length := by
  have hsh := h.short
  have hkb := keep_bnd h hT
  have hv := h.vars
  have hl : (t.take (keep t s T) ++ [g]).length = keep t s T + 1 := by rw [List.length_append, List.length_take, List.length_singleton]; omega
  have hlow : ∀ x ∈ s.take T, x < (keep t s T : Int) := fun x hx => by
    obtain ⟨j, hj, rfl⟩ := List.mem_iff_getElem.1 hx
    rw [List.length_take] at hj
    rw [List.getElem_take]
    have := keep_inc h (j := j) (k := T) (by omega) hT
    rw [keep_lt (show j < s.length by omega)] at this
    have hb := h.bnd _ (List.getElem_mem (show j < s.length by omega))
    omega
  have hmem : ((keep t s T : Nat) : Int) ∈ s := by
    rw [keep_lt hT]
    have hb := h.bnd _ (List.getElem_mem hT)
    rw [Int.toNat_of_nonneg hb.1]
    exact List.getElem_mem hT
  have hnot : ((keep t s T : Nat) : Int) ∉ s.take T := fun hx => by have := hlow _ hx; omega
  have hcong : mes v.toNat s (keep t s T) = mes v.toNat (s.take T) (keep t s T) := mes_congr fun i hi => by
    constructor
    · intro hx
      obtain ⟨j, hj, e⟩ := List.mem_iff_getElem.1 hx
      have hjT : j < T := by
        apply Classical.byContradiction
        intro hn
        have hb := h.bnd _ (List.getElem_mem hj)
        rcases Nat.lt_or_ge T j with h1 | h1
        · have := keep_inc h h1 hj
          rw [keep_lt hj, e] at this
          omega
        · have : j = T := by omega
          subst this
          rw [keep_lt hj, e] at hi
          omega
      exact List.mem_iff_getElem.2 ⟨j, by rw [List.length_take]; omega, by rw [List.getElem_take]; exact e⟩
    · exact fun hx => List.mem_of_mem_take hx
  rw [hl]
  have hb := mes_bnd (V := v.toNat) (s := s) (n := keep t s T + 1) (m := t.length) (by omega) (by omega)
  have hp : 0 < 2 ^ (v.toNat - t.length) := Nat.pow_pos (by omega)
  have e2 : v.toNat - 1 - keep t s T = v.toNat - (keep t s T + 1) := by omega
  simp only [mes] at hb ⊢
  rw [if_pos hmem] at hb
  rw [if_neg hnot, e2]
  omega

theorem mes_dec (h : okA v t s) (x : Int) : mes v.toNat s t.length ≤ mes v.toNat (s ++ [(t.length : Int)]) (t ++ [x]).length := by
  rw [List.length_append, List.length_singleton]
  simp only [mes]
  rw [mes_congr (s := s) (s' := s ++ [(t.length : Int)]) fun i hi => ⟨fun hx => List.mem_append_left _ hx, fun hx => by
    rcases List.mem_append.1 hx with h1 | h1
    · exact h1
    · rw [List.mem_singleton] at h1; omega⟩]
  omega

theorem mes_top (h : okA v t s) : mes v.toNat s t.length + 1 ≤ 2 ^ v.toNat := by
  have hsh := h.short
  have hv := h.vars
  have hb := mes_bnd (V := v.toNat) (s := s) (n := 0) (m := t.length) (by omega) (by omega)
  have hp : 0 < 2 ^ (v.toNat - t.length) := Nat.pow_pos (by omega)
  simp only [mes, Nat.sub_zero] at hb
  omega

end

end Go.Proofs.YthbkhndapkbgbaaGreat
