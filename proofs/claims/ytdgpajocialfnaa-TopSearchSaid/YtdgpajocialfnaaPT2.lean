/- The layers of the search, of plain values: TopSearch. -/
import Derived.Test.YtdgpajocialfnaaPT1
import Derived.Test.YtdgpajocialfnaaPD5
namespace Go.Proofs.Ytdgpajocialfnaa
open Go Go.Proofs.Ytdgpajocialfnaa.R
set_option linter.unusedVariables false

/-- A decision. -/
def dc (t s : List Int) (j : Nat) : Int := t.getD (s.getD j 0).toNat 0
def decs (t s : List Int) : List Int := (List.range s.length).map (dc t s)

section
variable {v : Int} {t s : List Int} {L : List (List Int)}

theorem dc_at (h : okA v t s) {j : Nat} (hj : j < s.length) : ∃ i : Nat, ∃ hi : i < t.length, s[j] = (i : Int) ∧ dc t s j = t[i] := by
  have hb := h.bnd _ (List.getElem_mem hj)
  refine ⟨s[j].toNat, by omega, by omega, ?_⟩
  unfold dc
  rw [List.getD_eq_getElem?_getD, List.getD_eq_getElem?_getD, List.getElem?_eq_getElem hj]
  simp only [Option.getD_some]
  rw [List.getElem?_eq_getElem (by omega)]; rfl

theorem neg_dc {j : Nat} : neg (dc t s j) = dl t s j := rfl

theorem okA_decs (h : okA v t s) : okA v (decs t s) [] where
  vars := h.vars
  lits := fun l hl => by
    obtain ⟨j, hj, rfl⟩ := List.mem_map.1 hl
    obtain ⟨i, hi, _, e⟩ := dc_at h (List.mem_range.1 hj)
    rw [e]
    exact h.lits _ (List.getElem_mem hi)
  dis := by
    unfold decs
    rw [List.pairwise_map]
    refine List.Pairwise.imp_of_mem (fun {j k} hj hk hlt he => ?_) List.pairwise_lt_range
    have := dl_inj h (List.mem_range.1 hj) (List.mem_range.1 hk) (by rw [← neg_dc, ← neg_dc, neg_div, neg_div]; exact he)
    omega
  inc := List.Pairwise.nil
  bnd := by simp

/-- The clause that is learned of an assignment's decisions: negations of some of them. -/
theorem lrn_some (h : okA v t s) : ∃ J : List Nat, J.Pairwise (· < ·) ∧ (∀ k ∈ J, k < s.length) ∧ (lrnC v L (decs t s)).Pairwise (· < ·) ∧ (lrnC v L (decs t s)).length ≤ s.length ∧ ∀ y, y ∈ lrnC v L (decs t s) ↔ y ∈ J.map (dl t s) := by
  have hsub := shr_sub (v := v) (L := L) (decs t s) (decs t s)
  unfold decs at hsub
  obtain ⟨J, hJ, hJe⟩ := List.sublist_map_iff.1 hsub
  have hlt : ∀ k ∈ J, k < s.length := fun k hk => List.mem_range.1 (hJ.subset hk)
  have hp : J.Pairwise (· < ·) := List.pairwise_lt_range.sublist hJ
  have hmap : (shr v L (decs t s) (decs t s)).map neg = J.map (dl t s) := by
    show (shr v L ((List.range s.length).map (dc t s)) ((List.range s.length).map (dc t s))).map neg = _
    rw [hJe, List.map_map]; rfl
  have hnd : (J.map (dl t s)).Nodup := by
    rw [List.Nodup, List.pairwise_map]
    refine List.Pairwise.imp_of_mem (fun {j k} hj hk hl he => ?_) hp
    have := dl_inj h (hlt j hj) (hlt k hk) (by rw [he])
    omega
  obtain ⟨p1, p2⟩ := sortI_spec (J.map (dl t s))
  have hC : lrnC v L (decs t s) = sortI (J.map (dl t s)) := by unfold lrnC; rw [hmap]
  refine ⟨J, hp, hlt, ?_, ?_, fun y => by rw [hC, p1.mem_iff]⟩
  · rw [hC]
    have hn := p1.nodup_iff.2 hnd
    rw [List.Nodup] at hn
    exact (p2.and hn).imp fun h => by have := h.1; have := h.2; omega
  · rw [hC, p1.length_eq, List.length_map]
    have := hJ.length_le
    rwa [List.length_range] at this

theorem learned18.loop (h : okA v t s) : ∀ (n i : Nat), i + n = s.length → spiritleveltop_learned18.l0 L (i : Int) v t s ((List.range i).map (dc t s)) = spiritleveltop_learned18.l0 L (s.length : Int) v t s (decs t s)
  | 0, i, hi => by
    have : i = s.length := by omega
    subst this; rfl
  | n + 1, i, hi => by
    have hlt : i < s.length := by omega
    have hv := h.vars
    have hsh := h.short
    have hw : IntKind.wrap .i64 ((i : Int) + 1) = ((i + 1 : Nat) : Int) := by rw [wr] <;> omega
    obtain ⟨k, hk, h1, e1⟩ := dc_at h hlt
    rw [← learned18.loop h n (i + 1) (by omega), spiritleveltop_learned18.l0_eq (i6 := (i : Int)), cd, if_pos (by omega), gsome hlt, Option.bind_some, h1, gsome hk, Option.bind_some, app_ok (by simp; omega), Option.bind_some, hw, List.range_succ, List.map_append, List.map_singleton, e1]

theorem learned18_eq (h : okA v t s) (hL : okL v L) (hn : L.length ≤ 20000) (hc : confC v L (decs t s) = true) : spiritleveltop_learned18 v t s L = some true := by
  have hv := h.vars
  have hsh := h.short
  have g := learned18.loop (L := L) h s.length 0 (by omega)
  have hD := okA_decs h
  obtain ⟨J, j1, j2, hS, hlen, hm⟩ := lrn_some (L := L) h
  obtain ⟨F, d1, d2⟩ := dec_back h j1 j2 hS hm
  have ht64 := F.in64.1
  have hc64 := F.in64.2
  have hst : (stC t (lrnC v L (decs t s))).1 = 0 := stC_none F.z
  have s0 : (stateC v t s (lrnC v L (decs t s))).1 = 0 ∧ (stateC v t s (lrnC v L (decs t s))).2.2 = 0 := by unfold stateC; rw [if_pos h, if_pos F.c]; exact ⟨hst, rfl⟩
  have e0 : spiritleveltop_learned18 v t s L = _ := (spiritleveltop_learned18.eq v t s L).trans g
  rw [e0, spiritleveltop_learned18.l0_eq, cd, if_neg (by omega), learn_Conflict_eq hD hL hn, Option.bind_some, learn_Clause_eq hD hL hn hc, Option.bind_some, hc]
  dsimp only
  rw [cn, if_pos rfl, cnot, ct, cn, if_pos rfl, clause_Check_eq (by omega) hc64, Option.bind_some, if_pos hv, if_pos F.c, cn, if_pos rfl, unit_State_eq (by omega) (by omega) ht64 (by omega) hc64, Option.bind_some, s0.2, cn, if_pos rfl, s0.1, cn, if_pos rfl, ce]
  generalize lrnC v L (decs t s) = c at *
  by_cases hJ : J = []
  · have hcn := d1 hJ
    subst hcn
    rw [if_pos (by simp)]
  · obtain ⟨q1, q2, q3⟩ := d2 hJ
    have hcn : ¬ (c.length : Int) = 0 := fun e => q1 (List.eq_nil_of_length_eq_zero (by omega))
    have h0 : givC t s c ≠ 0 := fun e => by
      rcases F.spec with ⟨_, q⟩ | ⟨q, _⟩
      · obtain ⟨J', j, rfl⟩ : ∃ J' j, J = J' ++ [j] := by
          rcases List.eq_nil_or_concat J with h' | ⟨J', j, h'⟩
          · exact absurd h' hJ
          · exact ⟨J', j, by rw [h', List.concat_eq_append]⟩
        rw [lastD_app, e] at q3
        have := (dl_lit h (j2 j (by simp))).1
        omega
      · exact F.ne _ q e
    have hB := F.back h0
    obtain ⟨o1, o2⟩ := F.open_ h0
    have hto := F.to
    have hU := h.undone hto
    have hlt : (toC t s c : Int) < lvl t s (givC t s c) := by
      rcases F.spec with ⟨q, _⟩ | ⟨_, q, _⟩
      · exact absurd q h0
      · exact q
    have hunit := F.unit h0 hto (Nat.le_refl _) hlt
    have hu := undC_ok h (k := (toC t s c : Int)) ⟨by omega, by omega⟩
    rw [Int.toNat_natCast] at hu
    have hkl := keep_le h (toC t s c)
    rw [if_neg hcn, jump_Level_eq (by omega) (by omega) ht64 (by omega) hc64, Option.bind_some, jump_Back_eq (by omega) (by omega) ht64 (by omega) hc64, Option.bind_some, F.jl, F.jb h0]
    dsimp only
    generalize hg : givC t s c = x at *
    generalize hT : toC t s c = T at *
    generalize hk : keep t s T = K at *
    have hx64 := hc64 _ o1
    have s1 : stateC v (t.take K) (s.take T) c = (3, x, 0) := by unfold stateC; rw [if_pos hU, if_pos F.c, hunit]
    have s2 : (stateC v (t.take K ++ [x]) (s.take T) c).1 = 1 ∧ (stateC v (t.take K ++ [x]) (s.take T) c).2.2 = 0 := by
      unfold stateC
      rw [if_pos hB, if_pos F.c]
      exact ⟨stC_one.2 ⟨x, o1, (isS_true hB.dis).2 (by simp)⟩, rfl⟩
    have hin : ∀ l ∈ t.take K ++ [x], in64 l := fun l hl => by
      rcases List.mem_append.1 hl with hl | hl
      · exact ht64 l (List.mem_of_mem_take hl)
      · rw [List.mem_singleton] at hl; subst hl; exact hx64
    have htl : (t.take K).length ≤ 5000 := by rw [List.length_take]; omega
    have hsl : (s.take T).length ≤ 5000 := by rw [List.length_take]; omega
    have hbl : (t.take K ++ [x]).length ≤ 5001 := by simp only [List.length_append, List.length_singleton]; omega
    rw [assign_Undo_eq (by omega) (by omega) ht64, Option.bind_some, hu]
    dsimp only
    rw [unit_State_eq (by omega) (by omega) (fun l hl => ht64 l (List.mem_of_mem_take hl)) (by omega) hc64, Option.bind_some, unit_State_eq (by omega) (by omega) hin (by omega) hc64, Option.bind_some, s1, s2.1, s2.2, ce, if_pos rfl, ce, if_pos rfl, ce, if_pos rfl]
    dsimp only
    rw [ce, if_pos rfl, ce, if_pos rfl, cd, if_pos (by simp only [List.length_append, List.length_singleton]; omega), last_app (by omega), get_last.1, Option.bind_some, Int.toNat_natCast, get_last.2, Option.bind_some, beq_self_eq_true, ct, beq_self_eq_true, ct, beq_self_eq_true]

/-! ### The least free variable -/

theorem allL_okH {n : Nat} (hn : n ≤ 4000) : okH (allL n) := by
  refine ⟨by rw [allL_len]; omega, fun x hx => by have := allL_mem.1 hx; omega, ?_, fun i hi h0 => ?_⟩
  · unfold allL
    rw [List.Nodup, List.pairwise_map]
    exact List.pairwise_lt_range.imp fun hab e => by omega
  · rw [allL_len] at hi
    rw [allL_gd hi, allL_gd (by omega)]; omega

theorem free18.loop0 (h : okA v t s) : ∀ (n k : Nat), (k : Int) + n = v → spiritleveltop_free18.l0 ((k + 1 : Nat) : Int) v t s (allL k) = spiritleveltop_free18.l0 (v + 1) v t s (allL v.toNat)
  | 0, k, hk => by
    have e : v.toNat = k := by omega
    have e2 : ((k + 1 : Nat) : Int) = v + 1 := by omega
    rw [e, e2]
  | n + 1, k, hk => by
    have hv := h.vars
    have hl : ((allL k).length : Int) = k := by rw [allL_len]
    rw [← free18.loop0 h n (k + 1) (by omega), spiritleveltop_free18.l0_eq (v4 := ((k + 1 : Nat) : Int)), cd, if_pos (by omega), app_ok (by simp; omega), Option.bind_some, suc_w (by omega), allL_succ]
    rfl

theorem free_iff {x : Int} (hx : x ≤ v) : free v t x ↔ isS t (2 * x) = 2 := by
  rw [isS_none]
  constructor
  · intro h a ha he
    exact h.2 a ha (by omega)
  · intro h
    exact ⟨hx, fun a ha he => h a ha (by omega)⟩

theorem free18.loop1 (h : okA v t s) {w e : Int} (hsp : (e = 6 ∧ ∀ x, 1 ≤ x → x ≤ v → isS t (2 * x) ≠ 2) ∨ (e = 0 ∧ 1 ≤ w ∧ w ≤ v ∧ isS t (2 * w) = 2 ∧ ∀ x, 1 ≤ x → x ≤ v → isS t (2 * x) = 2 → w ≤ x)) : ∀ (n : Nat) (k : Int), 1 ≤ k → k + n = v + 1 → (e = 0 → k ≤ w) →
    spiritleveltop_free18.l1 w e k v t s = some true
  | 0, k, h1, hk, hw => by
    rw [spiritleveltop_free18.l1_eq, cd, if_neg (by omega)]
    rcases hsp with ⟨he, _⟩ | ⟨he, _, h3, _⟩
    · rw [he]; rfl
    · have := hw he; omega
  | n + 1, k, h1, hk, hw => by
    have hv := h.vars
    have hsh := h.short
    have ht64 : ∀ l ∈ t, in64 l := fun l hl => by have := h.lits l hl; omega
    have hw2 : IntKind.wrap .i64 (2 * k) = 2 * k := by rw [wr] <;> omega
    have hw3 : IntKind.wrap .i64 (k + 1) = k + 1 := by rw [wr] <;> omega
    have hlit : isLit v (2 * k) := by omega
    have hval : valC v t s (2 * k) = (isS t (2 * k), 0) := by unfold valC; rw [if_pos h, if_pos hlit]
    rw [spiritleveltop_free18.l1_eq, cd, if_pos (by omega), hw2, hw3, assign_Value_eq (by omega) (by omega) ht64 (by omega), Option.bind_some, hval]
    dsimp only
    rw [cn, if_pos rfl, ce]
    by_cases hS : isS t (2 * k) = 2
    · rw [if_pos hS]
      rcases hsp with ⟨_, h2⟩ | ⟨he, _, _, _, h5⟩
      · exact absurd hS (h2 k h1 (by omega))
      · have hwk : w = k := Int.le_antisymm (h5 k h1 (by omega) hS) (hw he)
        rw [he, ce, if_pos rfl, hwk, beq_self_eq_true]
    · rw [if_neg hS]
      refine free18.loop1 h hsp n (k + 1) (by omega) (by omega) (fun he => ?_)
      rcases hsp with ⟨he', _⟩ | ⟨_, _, _, h4, _⟩
      · omega
      · have := hw he
        have : w ≠ k := fun e' => hS (e' ▸ h4)
        omega

theorem free18_eq (h : okA v t s) : spiritleveltop_free18 v t s = some true := by
  have hv := h.vars
  have hsh := h.short
  have ht64 : ∀ l ∈ t, in64 l := fun l hl => by have := h.lits l hl; omega
  have g : spiritleveltop_free18.l0 1 v t s [] = spiritleveltop_free18.l0 (v + 1) v t s (allL v.toNat) := free18.loop0 h v.toNat 0 (by omega)
  have hH := allL_okH (n := v.toNat) (by omega)
  have hC : nextC (allL v.toNat) v t s = nextL v t ((allL v.toNat).length + 1) (allL v.toNat) := by unfold nextC; rw [if_pos hH, if_pos h]
  rw [spiritleveltop_free18.eq, g, spiritleveltop_free18.l0_eq, cd, if_neg (by omega), decide_Next_eq (by omega) (by omega) ht64, Option.bind_some, hC]
  refine free18.loop1 h ?_ v.toNat 1 (Int.le_refl _) (by omega) (fun he => ?_)
  · rcases nextL_spec (v := v) (t := t) ((allL v.toNat).length + 1) hH (by omega) with ⟨h1, h2⟩ | ⟨m, r, h1, h2, h3, h4, h5, h6, h7⟩
    · rw [h2]
      refine .inl ⟨rfl, fun x x1 x2 hS => h1 x (allL_mem.2 (by omega)) ((free_iff x2).2 hS)⟩
    · rw [h1]
      have hm := allL_mem.1 h3
      refine .inr ⟨rfl, hm.1, by omega, (free_iff (by omega)).1 h4, fun x x1 x2 hS => h5 x (allL_mem.2 (by omega)) ((free_iff x2).2 hS)⟩
  · rcases nextL_spec (v := v) (t := t) ((allL v.toNat).length + 1) hH (by omega) with ⟨h1, h2⟩ | ⟨m, r, h1, h2, h3, h4, h5, h6, h7⟩
    · rw [h2] at he; simp at he
    · rw [h1]
      exact (allL_mem.1 h3).1
end

/-! ### TopSearch -/

/-- What decisions lead to is in whatever is closed and has them. -/
def Led (v : Int) (L : List (List Int)) (t s : List Int) : Prop :=
  ∀ Y, okA v Y [] → (∀ c ∈ L, (stC Y c).1 ≠ 0 ∧ (stC Y c).1 ≠ 3) → (∀ d ∈ decs t s, d ∈ Y) → ∀ l ∈ t, l ∈ Y

theorem decs_next {v : Int} {t s : List Int} (h : okA v t s) (x : Int) (u : List Int) : decs (t ++ [x] ++ u) (s ++ [(t.length : Int)]) = decs t s ++ [x] := by
  unfold decs
  rw [List.length_append, List.length_singleton, List.range_succ, List.map_append, List.map_singleton]
  congr 1
  · refine List.map_congr_left fun j hj => ?_
    have hj := List.mem_range.1 hj
    have hb := h.bnd _ (List.getElem_mem hj)
    unfold dc
    simp only [List.getD_eq_getElem?_getD]
    rw [List.getElem?_append_left hj, List.getElem?_eq_getElem hj]
    simp only [Option.getD_some]
    rw [List.append_assoc, List.getElem?_append_left (by omega)]
  · unfold dc
    simp

theorem TopSearch.loop {v : Int} {L : List (List Int)} {lits : List Int} (hL : okL v L) (hn : L.length ≤ 60) (hl : lits.length ≤ 30) (h64 : ∀ x ∈ lits, in64 x) : ∀ (n i : Nat) {t s : List Int}, i + n = lits.length → okA v t s → Led v L t s →
    spiritleveltop_TopSearch.l0 L lits true (i : Int) v t s = some true
  | 0, i, t, s, hi, h, hld => by rw [spiritleveltop_TopSearch.l0_eq, cd, if_neg (by omega)]
  | n + 1, i, t, s, hi, h, hld => by
    have hlt : i < lits.length := by omega
    have hx := h64 _ (List.getElem_mem hlt)
    have hv := h.vars
    have hsh := h.short
    have ht64 : ∀ l ∈ t, in64 l := fun l hl => by have := h.lits l hl; omega
    have hw : IntKind.wrap .i64 ((i : Int) + 1) = ((i + 1 : Nat) : Int) := by rw [wr] <;> omega
    have hr : ∀ c ∈ L, c.length ≤ 140737488351232 ∧ ∀ x ∈ c, in64 x := fun c hc => ⟨by have := (hL c hc).len hv; omega, fun x hx => lit64 hv ((hL c hc).1 x hx)⟩
    rw [spiritleveltop_TopSearch.l0_eq, cd, if_pos (by omega), free18_eq h, Option.bind_some, cnot, ct, gsome hlt, Option.bind_some, assign_Decide_eq (by omega) (by omega) ht64 hx, Option.bind_some, hw]
    by_cases hp : isLit v lits[i] ∧ isS t lits[i] = 2
    · have hput : putC v t s lits[i] true = ((v, (t ++ [lits[i]], s ++ [(t.length : Int)])), 0) := by unfold putC; rw [if_pos h, if_pos hp.1, if_pos hp.2]; rfl
      have hA := h.dec hp.1 hp.2
      have hsh2 := hA.short
      obtain ⟨hA2, u, hu⟩ := propC_okA hL (v + 1).toNat hA
      have hsh3 := hA2.short
      have h264 : ∀ l ∈ t ++ [lits[i]], in64 l := fun l hl => by have := hA.lits l hl; omega
      have hrun : runC v (t ++ [lits[i]]) (s ++ [(t.length : Int)]) L = ((v, (propC L (v + 1).toNat (t ++ [lits[i]])).1, s ++ [(t.length : Int)]), (propC L (v + 1).toNat (t ++ [lits[i]])).2, 0) := by
        unfold runC
        rw [if_pos hA, if_neg (by omega), if_pos hL]
      have hdec : decs (propC L (v + 1).toNat (t ++ [lits[i]])).1 (s ++ [(t.length : Int)]) = decs t s ++ [lits[i]] := by rw [hu]; exact decs_next h _ _
      -- whatever is closed and has the decisions has this, and no conflict
      have all : ∀ Y, okA v Y [] → (∀ c ∈ L, (stC Y c).1 ≠ 0 ∧ (stC Y c).1 ≠ 3) → (∀ d ∈ decs t s ++ [lits[i]], d ∈ Y) → (propC L (v + 1).toNat (t ++ [lits[i]])).2 < 0 ∧ ∀ l ∈ (propC L (v + 1).toNat (t ++ [lits[i]])).1, l ∈ Y := fun Y hY hcl hd =>
        prop_sub hL hY hcl _ hA fun l hl => by
          rcases List.mem_append.1 hl with hl | hl
          · exact hld Y hY hcl (fun d hd' => hd d (List.mem_append_left _ hd')) l hl
          · exact hd l (List.mem_append_right _ hl)
      rw [hput]
      dsimp only
      rw [cn, if_pos rfl, unit_Run_eq (by omega) (by omega) h264 (by omega) hr, Option.bind_some, hrun]
      dsimp only
      rw [cn, if_pos rfl, ref14_Check_eq (by omega) (by omega), Option.bind_some, if_pos hA2, cn, if_pos rfl, cd]
      by_cases hat : (propC L (v + 1).toNat (t ++ [lits[i]])).2 ≥ 0
      · have hconf : confC v L (decs (propC L (v + 1).toNat (t ++ [lits[i]])).1 (s ++ [(t.length : Int)])) = true := by
          rw [hdec]
          have hD := okA_decs hA2
          rw [hdec] at hD
          cases hcf : confC v L (decs t s ++ [lits[i]]) with
          | true => rfl
          | false =>
            unfold confC at hcf
            rw [decide_eq_false_iff_not] at hcf
            obtain ⟨hY, u2, hu2⟩ := propC_okA hL (v + 1).toNat hD
            have := all _ hY (prop_closed hL hD (by omega)) (fun d hd => by rw [hu2]; exact List.mem_append_left _ hd)
            omega
        rw [if_pos hat, ct, learned18_eq hA2 hL (by omega) hconf, Option.bind_some]
      · rw [if_neg hat]
        refine TopSearch.loop hL hn hl h64 n (i + 1) (by omega) hA2 (fun Y hY hcl hd => ?_)
        rw [hdec] at hd
        exact (all Y hY hcl hd).2
    · have hput : (putC v t s lits[i] true).2 ≠ 0 := by
        unfold putC
        rw [if_pos h]
        by_cases h1 : isLit v lits[i]
        · rw [if_pos h1, if_neg (fun h2 => hp ⟨h1, h2⟩)]; simp
        · rw [if_neg h1]; simp
      rw [cn, if_neg hput]
      exact TopSearch.loop hL hn hl h64 n (i + 1) (by omega) h hld

theorem alive18top_eq : spiritleveltop_alive18 = some true := by
  have hD : okA 3 [6, 2, 4] [] := by decide
  have hL : okL 3 [[3, 5]] := fun c hc => by
    rw [List.mem_singleton] at hc
    subst hc
    decide
  have hc : confC 3 [[3, 5]] [6, 2, 4] = true := by decide
  have hs : shr 3 [[3, 5]] [6, 2, 4] [6, 2, 4] = [2, 4] := by decide
  have hl : lrnC 3 [[3, 5]] [6, 2, 4] = [3, 5] := by
    unfold lrnC
    rw [hs]
    exact sortI_is (by decide) (by decide) (fun y => by simp [neg])
  rw [spiritleveltop_alive18.eq, learn_Clause_eq hD hL (by decide) hc, Option.bind_some, hl]
  dsimp only
  rw [ce, if_pos rfl, ref13_Same_eq (by decide), Option.bind_some, decide_eq_true rfl]

theorem TopSearch_pure (v : Int) (L : List (List Int)) (lits : List Int) (hv : okD (.int .i64) v) (hL : okD TLL L) (hl : okD TL lits) : spiritleveltop_TopSearch v L lits = some true := by
  have hl := okTL hl
  have hr := okTLL hL
  obtain ⟨b, h1, h2⟩ := ref15_Great_eq (v := v) (L := L) (by omega)
  rw [spiritleveltop_TopSearch.eq, alive18top_eq, Option.bind_some, h1, Option.bind_some]
  cases b with
  | true => rfl
  | false =>
    have hs := h2.1 rfl
    rw [cf, cd]
    split
    · rfl
    · rename_i g1
      rw [ref13_Vars_eq, Option.bind_some, cnot, cd]
      by_cases okv : okV v
      · rw [if_pos okv, ref15_Wrong_eq okv (by omega) (fun c hc => (hr.2 c hc).1), Option.bind_some, if_neg (show ¬ L.length > 20000 by have := hs.1; omega), cn]
        by_cases okl : okL v L
        · rw [if_pos okl, if_pos rfl, cnot, ct, new_eq, Option.bind_some, if_pos okv]
          dsimp only
          rw [cn, if_pos rfl]
          exact TopSearch.loop okl hs.1 (by omega) hl.2 lits.length 0 (by omega) (by
            exact ⟨okv, by simp, List.Pairwise.nil, List.Pairwise.nil, by simp⟩) (fun Y _ _ _ l hl => by cases hl)
        · rw [if_neg okl, if_neg (by omega)]
      · rw [if_neg okv]

end Go.Proofs.Ytdgpajocialfnaa
