/- . -/
import Derived.Test.YthbkhndapkbgbaaGreatPT1
import Derived.Test.YthbkhndapkbgbaaGreatPD5
namespace Go.Proofs.YthbkhndapkbgbaaGreat
open Go Go.Proofs.YthbkhndapkbgbaaGreat.R
set_option linter.unusedVariables false

def dc (t s : List Int) (j : Nat) : Int := t.getD (s.getD j 0).toNat 0
def decs (t s : List Int) : List Int := (List.range s.length).map (dc t s)

section
variable {v : Int} {t s : List Int} {L : List (List Int)}

theorem dc_at (h : okA v t s) {j : Nat} (hj : j < s.length) : ∃ i : Nat, ∃ hi : i < t.length, s[j] = (i : Int) ∧ dc t s j = t[i] := by
  have hb := h.bnd _ (List.getElem_mem hj)
  refine ⟨s[j].toNat, by omega, by omega, ?_⟩
  unfold dc
  rw [List.getD_eq_getElem?_getD, List.getD_eq_getElem?_getD, List.getElem?_eq_getElem hj]
  simp only [Option.getD_some]
  rw [List.getElem?_eq_getElem (by omega)]; rfl

theorem neg_dc {j : Nat} : neg (dc t s j) = dl t s j := rfl

theorem okA_decs (h : okA v t s) : okA v (decs t s) [] where
  vars := h.vars
  lits := fun l hl => by
    obtain ⟨j, hj, rfl⟩ := List.mem_map.1 hl
    obtain ⟨i, hi, _, e⟩ := dc_at h (List.mem_range.1 hj)
    rw [e]
    exact h.lits _ (List.getElem_mem hi)
  dis := by
    unfold decs
    rw [List.pairwise_map]
    refine List.Pairwise.imp_of_mem (fun {j k} hj hk hlt he => ?_) List.pairwise_lt_range
    have := dl_inj h (List.mem_range.1 hj) (List.mem_range.1 hk) (by rw [← neg_dc, ← neg_dc, neg_div, neg_div]; exact he)
    omega
  inc := List.Pairwise.nil
  bnd := by simp

theorem lrn_some (h : okA v t s) : ∃ J : List Nat, J.Pairwise (· < ·) ∧ (∀ k ∈ J, k < s.length) ∧ (lrnC v L (decs t s)).Pairwise (· < ·) ∧ (lrnC v L (decs t s)).length ≤ s.length ∧ ∀ y, y ∈ lrnC v L (decs t s) ↔ y ∈ J.map (dl t s) := by
  have hsub := shr_sub (v := v) (L := L) (decs t s) (decs t s)
  unfold decs at hsub
  obtain ⟨J, hJ, hJe⟩ := List.sublist_map_iff.1 hsub
  have hlt : ∀ k ∈ J, k < s.length := fun k hk => List.mem_range.1 (hJ.subset hk)
  have hp : J.Pairwise (· < ·) := List.pairwise_lt_range.sublist hJ
  have hmap : (shr v L (decs t s) (decs t s)).map neg = J.map (dl t s) := by
    show (shr v L ((List.range s.length).map (dc t s)) ((List.range s.length).map (dc t s))).map neg = _
    rw [hJe, List.map_map]; rfl
  have hnd : (J.map (dl t s)).Nodup := by
    rw [List.Nodup, List.pairwise_map]
    refine List.Pairwise.imp_of_mem (fun {j k} hj hk hl he => ?_) hp
    have := dl_inj h (hlt j hj) (hlt k hk) (by rw [he])
    omega
  obtain ⟨p1, p2⟩ := sortI_spec (J.map (dl t s))
  have hC : lrnC v L (decs t s) = sortI (J.map (dl t s)) := by unfold lrnC; rw [hmap]
  refine ⟨J, hp, hlt, ?_, ?_, fun y => by rw [hC, p1.mem_iff]⟩
  · rw [hC]
    have hn := p1.nodup_iff.2 hnd
    rw [List.Nodup] at hn
    exact (p2.and hn).imp fun h => by have := h.1; have := h.2; omega
  · rw [hC, p1.length_eq, List.length_map]
    have := hJ.length_le
    rwa [List.length_range] at this


theorem allL_okH {n : Nat} (hn : n ≤ 4000) : okH (allL n) := by
  refine ⟨by rw [allL_len]; omega, fun x hx => by have := allL_mem.1 hx; omega, ?_, fun i hi h0 => ?_⟩
  · unfold allL
    rw [List.Nodup, List.pairwise_map]
    exact List.pairwise_lt_range.imp fun hab e => by omega
  · rw [allL_len] at hi
    rw [allL_gd hi, allL_gd (by omega)]; omega

theorem free_iff {x : Int} (hx : x ≤ v) : free v t x ↔ isS t (2 * x) = 2 := by
  rw [isS_none]
  constructor
  · intro h a ha he
    exact h.2 a ha (by omega)
  · intro h
    exact ⟨hx, fun a ha he => h a ha (by omega)⟩

end


end Go.Proofs.YthbkhndapkbgbaaGreat
