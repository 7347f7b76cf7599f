/- The laws of logs, of plain values. -/
import Derived.Test.YthbkhndapkbgbaaPR1
namespace Go.Proofs.Ythbkhndapkbgbaa
open Go Go.Proofs.Ythbkhndapkbgbaa.R
set_option linter.unusedVariables false

theorem small_ranged {L : List (List Int)} (h : okD TLL L) : ranged L := (okTLL h).2

theorem ref13_Valid_eq {v : Int} (hv : okV v) {c : List Int} (hn : c.length ≤ 140737488351232) : spiritlevelref13_Valid v c = some (decide (okC v c)) := by
  have h := ref13_Check_eq (v := v) hn
  rw [spiritlevelref13_Check.eq, ref13_Vars_eq, Option.bind_some, cnot, decide_eq_true hv, ct, if_pos hv] at h
  cases hc : spiritlevelref13_Valid v c with
  | none => rw [hc] at h; cases h
  | some b =>
    rw [hc, Option.bind_some, cnot] at h
    cases b with
    | true =>
      rw [ct] at h
      by_cases hk : okC v c
      · rw [decide_eq_true hk]
      · rw [if_neg hk] at h; cases h
    | false =>
      rw [cf] at h
      by_cases hk : okC v c
      · rw [if_pos hk] at h; cases h
      · rw [decide_eq_false hk]

theorem small_v {v : Int} {L : List (List Int)} (h : small v L) (hv : in64 v) : v ≤ 4001 := by
  rcases h.2.2 with h | h <;> omega

/-! ### The examples -/

/-! ### What follows is true -/

theorem follows_true {v : Int} (hv : okV v) {L : List (List Int)} (hL : okL v L) {c : List Int} (hc : okC v c) {W : List Bool} (hm : ∀ c ∈ L, c.any (truth W) = true) (h : fromC v L c = true) : c.any (truth W) = true := by
  apply Classical.byContradiction
  intro hn
  have hf : ∀ l ∈ c, truth W l = false := fun l hl => by
    cases ht : truth W l with
    | false => rfl
    | true => exact absurd (List.any_eq_true.2 ⟨l, hl, ht⟩) hn
  have := (prop_models hL hm (v + 1).toNat (okA_neg hv hc) fun l hl => by
    obtain ⟨x, hx, rfl⟩ := List.mem_map.1 hl
    rw [truth_neg (hc.1 x hx).1, hf x hx]; rfl).1
  unfold fromC confC at h
  have := of_decide_eq_true h
  omega

theorem chkC_bnd {v : Int} : ∀ (r : List (List Int)) (L : List (List Int)) (i : Int), chkC v L i r = -1 ∨ (i ≤ chkC v L i r ∧ chkC v L i r < i + r.length)
  | [], L, i => .inl rfl
  | c :: r, L, i => by
    simp only [chkC, List.length_cons]
    split
    · rcases chkC_bnd r (L ++ [c]) (i + 1) with h | h
      · exact .inl h
      · exact .inr ⟨by omega, by omega⟩
    · exact .inr ⟨by omega, by omega⟩

theorem chkC_true {v : Int} (hv : okV v) {W : List Bool} : ∀ (r : List (List Int)) (L : List (List Int)) (i : Nat), okL v (L ++ r) → (∀ c ∈ L, c.any (truth W) = true) → ∀ (j : Nat) (hj : j < r.length), (chkC v L (i : Int) r < 0 ∨ ((i + j : Nat) : Int) < chkC v L (i : Int) r) → r[j].any (truth W) = true
  | [], L, i, _, _, j, hj, _ => by simp at hj
  | c :: r, L, i, hL, hm, j, hj, hlt => by
    have hL2 := okL_append.1 hL
    have hc := hL2.2 c (List.mem_cons_self ..)
    simp only [chkC] at hlt
    cases hf : fromC v L c with
    | true =>
      have hct := follows_true hv hL2.1 hc hm hf
      rw [hf, if_pos rfl] at hlt
      cases j with
      | zero => exact hct
      | succ j =>
        have hcast : ((i : Int) + 1) = ((i + 1 : Nat) : Int) := by omega
        rw [hcast] at hlt
        have := chkC_true hv r (L ++ [c]) (i + 1) (by rw [List.append_assoc]; exact hL) (fun d hd => by
          rcases List.mem_append.1 hd with hd | hd
          · exact hm d hd
          · rw [List.mem_singleton.1 hd]; exact hct) j (by simpa using hj) (by rw [show i + 1 + j = i + (j + 1) by omega]; exact hlt)
        simpa using this
    | false =>
      rw [hf, if_neg (by simp)] at hlt
      omega

theorem clause_True.loop {v : Int} (hv : okV v) {W : List Bool} (hW : (W.length : Int) = v) {c : List Int} (hc : okC v c) : ∀ (n i : Nat), i + n = c.length → clause_True.l0 W c (c.length : Int) (i : Int) = some ((c.drop i).any (truth W), 0)
  | 0, i, hi => by
    rw [clause_True.l0_eq, cd, if_neg (by omega), List.drop_of_length_le (by omega)]; rfl
  | n + 1, i, hi => by
    have hlt : i < c.length := by omega
    have hcl := hc.len hv
    have hl := hc.1 _ (List.getElem_mem hlt)
    have hw2 : IntKind.wrap .i64 ((i : Int) + 1) = ((i + 1 : Nat) : Int) := by rw [wr] <;> omega
    have hk : (c[i] / 2 - 1).toNat < W.length := by omega
    have hg : geti W (c[i] / 2 - 1) = some (W.getD (c[i] / 2 - 1).toNat false) := by
      rw [gsI (by omega) hk, List.getD_eq_getElem?_getD, List.getElem?_eq_getElem hk, Option.getD_some]
    have hw : IntKind.wrap .i64 (IntKind.wrap .i64 (Int.tdiv c[i] 2) - 1) = c[i] / 2 - 1 := by
      rw [td (by omega) (by omega), wr] <;> omega
    have htr : (W.getD (c[i] / 2 - 1).toNat false == (c[i] % 2 == 0)) = truth W c[i] := by
      unfold truth
      by_cases h : c[i] % 2 = 1
      · rw [if_pos h, h]; cases W.getD (c[i] / 2 - 1).toNat false <;> rfl
      · rw [if_neg h, show c[i] % 2 = 0 by omega]; cases W.getD (c[i] / 2 - 1).toNat false <;> rfl
    rw [clause_True.l0_eq, cd, if_pos (by omega), gsome hlt, Option.bind_some, hw, hg, Option.bind_some, tm (by omega), htr, hw2, clause_True.loop hv hW hc n (i + 1) (by omega), drop_cons hlt, List.any_cons]
    cases truth W c[i] <;> rfl

theorem clause_True_eq {v : Int} (hv : okV v) {W : List Bool} (hW : (W.length : Int) = v) {c : List Int} (hc : okC v c) : clause_True c W = some (c.any (truth W), 0) := by
  have hcl := hc.len hv
  have := clause_True.loop hv hW hc c.length 0 (by omega)
  rw [show ((0 : Nat) : Int) = 0 from rfl, List.drop_zero] at this
  rw [clause_True.eq, clause_Check_eq (by omega) (fun l hl => lit64 hv (hc.1 l hl)), Option.bind_some, hW, if_pos hv, if_pos hc, cn, if_pos rfl, this]

theorem shl_small21 {v : Int} (h : 0 ≤ v ∧ v ≤ 8) : bshl .i64 1 v ≤ 256 := by
  have : v = 0 ∨ v = 1 ∨ v = 2 ∨ v = 3 ∨ v = 4 ∨ v = 5 ∨ v = 6 ∨ v = 7 ∨ v = 8 := by omega
  rcases this with h | h | h | h | h | h | h | h | h <;> subst h <;> decide

end Go.Proofs.Ythbkhndapkbgbaa
