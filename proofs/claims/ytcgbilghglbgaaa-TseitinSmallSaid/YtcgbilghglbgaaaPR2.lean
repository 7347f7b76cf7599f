/- The laws of logs, of plain values. -/
import Derived.Test.YtcgbilghglbgaaaPR1
namespace Go.Proofs.Ytcgbilghglbgaaa
open Go Go.Proofs.Ytcgbilghglbgaaa.R
set_option linter.unusedVariables false

theorem small_ranged {L : List (List Int)} (h : okD TLL L) : ranged L := (okTLL h).2

theorem small_v {v : Int} {L : List (List Int)} (h : small v L) (hv : in64 v) : v ≤ 4001 := by
  rcases h.2.2 with h | h <;> omega

/-! ### The examples -/

/-! ### What follows is true -/

theorem follows_true {v : Int} (hv : okV v) {L : List (List Int)} (hL : okL v L) {c : List Int} (hc : okC v c) {W : List Bool} (hm : ∀ c ∈ L, c.any (truth W) = true) (h : fromC v L c = true) : c.any (truth W) = true := by
  apply Classical.byContradiction
  intro hn
  have hf : ∀ l ∈ c, truth W l = false := fun l hl => by
    cases ht : truth W l with
    | false => rfl
    | true => exact absurd (List.any_eq_true.2 ⟨l, hl, ht⟩) hn
  have := (prop_models hL hm (v + 1).toNat (okA_neg hv hc) fun l hl => by
    obtain ⟨x, hx, rfl⟩ := List.mem_map.1 hl
    rw [truth_neg (hc.1 x hx).1, hf x hx]; rfl).1
  unfold fromC confC at h
  have := of_decide_eq_true h
  omega

theorem chkC_bnd {v : Int} : ∀ (r : List (List Int)) (L : List (List Int)) (i : Int), chkC v L i r = -1 ∨ (i ≤ chkC v L i r ∧ chkC v L i r < i + r.length)
  | [], L, i => .inl rfl
  | c :: r, L, i => by
    simp only [chkC, List.length_cons]
    split
    · rcases chkC_bnd r (L ++ [c]) (i + 1) with h | h
      · exact .inl h
      · exact .inr ⟨by omega, by omega⟩
    · exact .inr ⟨by omega, by omega⟩

theorem chkC_true {v : Int} (hv : okV v) {W : List Bool} : ∀ (r : List (List Int)) (L : List (List Int)) (i : Nat), okL v (L ++ r) → (∀ c ∈ L, c.any (truth W) = true) → ∀ (j : Nat) (hj : j < r.length), (chkC v L (i : Int) r < 0 ∨ ((i + j : Nat) : Int) < chkC v L (i : Int) r) → r[j].any (truth W) = true
  | [], L, i, _, _, j, hj, _ => by simp at hj
  | c :: r, L, i, hL, hm, j, hj, hlt => by
    have hL2 := okL_append.1 hL
    have hc := hL2.2 c (List.mem_cons_self ..)
    simp only [chkC] at hlt
    cases hf : fromC v L c with
    | true =>
      have hct := follows_true hv hL2.1 hc hm hf
      rw [hf, if_pos rfl] at hlt
      cases j with
      | zero => exact hct
      | succ j =>
        have hcast : ((i : Int) + 1) = ((i + 1 : Nat) : Int) := by omega
        rw [hcast] at hlt
        have := chkC_true hv r (L ++ [c]) (i + 1) (by rw [List.append_assoc]; exact hL) (fun d hd => by
          rcases List.mem_append.1 hd with hd | hd
          · exact hm d hd
          · rw [List.mem_singleton.1 hd]; exact hct) j (by simpa using hj) (by rw [show i + 1 + j = i + (j + 1) by omega]; exact hlt)
        simpa using this
    | false =>
      rw [hf, if_neg (by simp)] at hlt
      omega

theorem shl_small21 {v : Int} (h : 0 ≤ v ∧ v ≤ 8) : bshl .i64 1 v ≤ 256 := by
  have : v = 0 ∨ v = 1 ∨ v = 2 ∨ v = 3 ∨ v = 4 ∨ v = 5 ∨ v = 6 ∨ v = 7 ∨ v = 8 := by omega
  rcases this with h | h | h | h | h | h | h | h | h <;> subst h <;> decide

end Go.Proofs.Ytcgbilghglbgaaa
