/- . -/
import Derived.Test.YthbkhndapkbgbaaGreatPJ2
namespace Go.Proofs.YthbkhndapkbgbaaGreat
open Go Go.Proofs.YthbkhndapkbgbaaGreat.R
set_option linter.unusedVariables false

def dl (t s : List Int) (j : Nat) : Int := neg (t.getD (s.getD j 0).toNat 0)

def top (J : List Nat) : Int := match J.getLast? with | none => 0 | some k => (k : Int) + 1

def lastD (t s : List Int) (J : List Nat) : Int := match J.getLast? with | none => 0 | some k => dl t s k

theorem top_app {J : List Nat} {k : Nat} : top (J ++ [k]) = (k : Int) + 1 := by unfold top; rw [List.getLast?_append]; simp
theorem lastD_app {t s : List Int} {J : List Nat} {k : Nat} : lastD t s (J ++ [k]) = dl t s k := by unfold lastD; rw [List.getLast?_append]; simp

section
variable {v : Int} {t s : List Int}

theorem dec_at (h : okA v t s) {j : Nat} (hj : j < s.length) : ∃ i : Nat, ∃ hi : i < t.length, s[j] = (i : Int) ∧ dl t s j = neg t[i] := by
  have hb := h.bnd _ (List.getElem_mem hj)
  refine ⟨s[j].toNat, by omega, by omega, ?_⟩
  unfold dl
  rw [List.getD_eq_getElem?_getD, List.getD_eq_getElem?_getD, List.getElem?_eq_getElem hj]
  simp only [Option.getD_some]
  rw [List.getElem?_eq_getElem (by omega)]; rfl

theorem dl_lit (h : okA v t s) {j : Nat} (hj : j < s.length) : isLit v (dl t s j) ∧ isS t (dl t s j) = 0 := by
  obtain ⟨i, hi, _, he⟩ := dec_at h hj
  have hm := List.getElem_mem hi
  rw [he]
  exact ⟨neg_lit (h.lits _ hm), (isS_false h.dis).2 (by rw [neg_neg]; exact hm)⟩

theorem dl_lvl (h : okA v t s) {j : Nat} (hj : j < s.length) : lvl t s (dl t s j) = (j : Int) + 1 := by
  obtain ⟨i, hi, hs, he⟩ := dec_at h hj
  have hx : idxC (dl t s j) 0 t = (i : Int) := by rw [he, idxC_neg, idxC_at i hi h.dis]; omega
  unfold lvl
  rw [hx]
  have c1 := (cntLE_lt (i := (i : Int)) h.inc j hj).1 (by omega)
  have c2 : cntLE s (i : Int) ≤ s.length := cntLE_le
  by_cases hlt : j + 1 < s.length
  · have h3 := List.pairwise_iff_getElem.1 h.inc j (j + 1) hj hlt (by omega)
    have c3 : ¬ j + 1 < cntLE s (i : Int) := fun q => by
      have := (cntLE_lt (i := (i : Int)) h.inc (j + 1) hlt).2 q
      omega
    omega
  · omega

theorem dl_inj (h : okA v t s) {j k : Nat} (hj : j < s.length) (hk : k < s.length) (he : dl t s j / 2 = dl t s k / 2) : j = k := by
  obtain ⟨i, hi, h1, e1⟩ := dec_at h hj
  obtain ⟨i', hi', h2, e2⟩ := dec_at h hk
  rw [e1, e2, neg_div, neg_div] at he
  have hii : i = i' := by
    apply Classical.byContradiction
    intro hne
    rcases Nat.lt_or_ge i i' with h3 | h3
    · exact List.pairwise_iff_getElem.1 h.dis i i' hi hi' h3 he
    · exact List.pairwise_iff_getElem.1 h.dis i' i hi' hi (by omega) he.symm
  apply Classical.byContradiction
  intro hne
  rcases Nat.lt_or_ge j k with h3 | h3
  · have := List.pairwise_iff_getElem.1 h.inc j k hj hk h3; omega
  · have := List.pairwise_iff_getElem.1 h.inc k j hk hj (by omega); omega

theorem pair_cnt {f : Int → Int} {c : List Int} {k x y : Int} (hx : x ∈ c) (hy : y ∈ c) (hne : x ≠ y) (h1 : k ≤ f x) (h2 : k ≤ f y) : 2 ≤ cntGE f c k := by
  apply Classical.byContradiction
  intro h
  exact hne (cnt_one (by omega) hx hy h1 h2)

theorem dec_back (h : okA v t s) {J : List Nat} (hJ : J.Pairwise (· < ·)) (hb : ∀ k ∈ J, k < s.length) {S : List Int} (hS : S.Pairwise (· < ·)) (hm : ∀ y, y ∈ S ↔ y ∈ J.map (dl t s)) :
    Fals v t s S ∧ (J = [] → S = []) ∧ (J ≠ [] → S ≠ [] ∧ (toC t s S : Int) = top J.dropLast ∧ givC t s S = lastD t s J) := by
  have mem : ∀ {y}, y ∈ S → ∃ k, k ∈ J ∧ y = dl t s k := fun {y} hy => by
    obtain ⟨k, hk, e⟩ := List.mem_map.1 ((hm y).1 hy)
    exact ⟨k, hk, e.symm⟩
  have F : Fals v t s S := by
    refine ⟨h, ⟨fun l hl => ?_, ?_⟩, fun l hl => ?_⟩
    · obtain ⟨k, hk, rfl⟩ := mem hl
      exact (dl_lit h (hb k hk)).1
    · refine List.Pairwise.imp_of_mem (fun {a b} ha hb' hab => ?_) hS
      obtain ⟨j, hj, rfl⟩ := mem ha
      obtain ⟨k, hk, rfl⟩ := mem hb'
      apply Classical.byContradiction
      intro hn
      have : dl t s j / 2 = dl t s k / 2 := by omega
      have := dl_inj h (hb j hj) (hb k hk) this
      subst this
      omega
    · obtain ⟨k, hk, rfl⟩ := mem hl
      exact (dl_lit h (hb k hk)).2
  refine ⟨F, fun e => ?_, fun hne => ?_⟩
  · subst e
    cases S with
    | nil => rfl
    | cons a r => have := (hm a).1 (List.mem_cons_self ..); simp at this
  · rcases List.eq_nil_or_concat J with rfl | ⟨J', j, rfl⟩
    · exact absurd rfl hne
    · rw [List.concat_eq_append] at hJ hb hm mem hne ⊢
      rw [List.dropLast_concat, lastD_app]
      have hj : j < s.length := hb j (by simp)
      have hxS : dl t s j ∈ S := (hm _).2 (List.mem_map.2 ⟨j, by simp, rfl⟩)
      have hfx := dl_lvl h hj
      rw [List.pairwise_append] at hJ
      have hlow : ∀ k ∈ J', k < j := fun k hk => hJ.2.2 k hk j (by simp)
      have oth : ∀ y ∈ S, y ≠ dl t s j → ∃ k ∈ J', y = dl t s k := fun y hy hny => by
        obtain ⟨k, hk, rfl⟩ := mem hy
        rcases List.mem_append.1 hk with hk | hk
        · exact ⟨k, hk, rfl⟩
        · rw [List.mem_singleton] at hk; subst hk; exact absurd rfl hny
      have htop0 : 0 ≤ top J' ∧ top J' ≤ j ∧ ∀ k ∈ J', (k : Int) + 1 ≤ top J' := by
        rcases List.eq_nil_or_concat J' with rfl | ⟨J2, k2, rfl⟩
        · exact ⟨Int.le_refl _, by simp [top], by simp⟩
        · rw [List.concat_eq_append] at hJ hlow ⊢
          rw [top_app]
          have hJ1 := hJ.1
          rw [List.pairwise_append] at hJ1
          have := hlow k2 (by simp)
          refine ⟨by omega, by omega, fun k hk => ?_⟩
          rcases List.mem_append.1 hk with hk | hk
          · have := hJ1.2.2 k hk k2 (by simp); omega
          · rw [List.mem_singleton] at hk; omega
      have hto : (toC t s S : Int) = top J' := by
        apply Int.le_antisymm
        · apply Classical.byContradiction
          intro hgt
          rcases F.two with w | w
          · omega
          · obtain ⟨y, y1, y2, y3⟩ := cnt_ex F.c.nodup w (dl t s j)
            obtain ⟨k, hk, rfl⟩ := oth y y1 y2
            rw [dl_lvl h (hb k (by simp [hk]))] at y3
            have := htop0.2.2 k hk
            omega
        · rcases List.eq_nil_or_concat J' with rfl | ⟨J2, k2, rfl⟩
          · simp [top]
          · rw [List.concat_eq_append] at hJ hlow hb hm ⊢
            rw [top_app]
            have hk2 : k2 < s.length := hb k2 (by simp)
            have hyS : dl t s k2 ∈ S := (hm _).2 (List.mem_map.2 ⟨k2, by simp, rfl⟩)
            have hfy := dl_lvl h hk2
            have hlt := hlow k2 (by simp)
            have hxy : dl t s j ≠ dl t s k2 := fun e => by
              have := dl_inj h hj hk2 (by rw [e])
              omega
            apply Classical.byContradiction
            intro hgt
            have h2 := pair_cnt (f := lvl t s) (k := (toC t s S : Int) + 1) hxS hyS hxy (by omega) (by omega)
            have := F.one
            omega
      refine ⟨(fun e => by rw [e] at hxS; cases hxS), hto, ?_⟩
      rcases F.spec with ⟨_, q⟩ | ⟨q1, q2, q3⟩
      · have := q _ hxS
        have := htop0.2.1
        omega
      · apply Classical.byContradiction
        intro hne2
        have := q3 _ hxS (fun e => hne2 e.symm)
        have := htop0.2.1
        omega

end

end Go.Proofs.YthbkhndapkbgbaaGreat
