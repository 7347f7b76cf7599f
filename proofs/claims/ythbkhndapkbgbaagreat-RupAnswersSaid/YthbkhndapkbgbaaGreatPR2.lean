/- The laws of logs, of plain values. -/
import Derived.Test.YthbkhndapkbgbaaGreatPR1
namespace Go.Proofs.YthbkhndapkbgbaaGreat
open Go Go.Proofs.YthbkhndapkbgbaaGreat.R
set_option linter.unusedVariables false

theorem small_ranged {L : List (List Int)} (h : okD TLL L) : ranged L := (okTLL h).2

theorem ref13_Valid_eq {v : Int} (hv : okV v) {c : List Int} (hn : c.length ≤ 140737488351232) : spiritlevelref13_Valid v c = some (decide (okC v c)) := by
  have h := ref13_Check_eq (v := v) hn
  rw [spiritlevelref13_Check.eq, ref13_Vars_eq, Option.bind_some, cnot, decide_eq_true hv, ct, if_pos hv] at h
  cases hc : spiritlevelref13_Valid v c with
  | none => rw [hc] at h; cases h
  | some b =>
    rw [hc, Option.bind_some, cnot] at h
    cases b with
    | true =>
      rw [ct] at h
      by_cases hk : okC v c
      · rw [decide_eq_true hk]
      · rw [if_neg hk] at h; cases h
    | false =>
      rw [cf] at h
      by_cases hk : okC v c
      · rw [if_pos hk] at h; cases h
      · rw [decide_eq_false hk]

theorem small_v {v : Int} {L : List (List Int)} (h : small v L) (hv : in64 v) : v ≤ 4001 := by
  rcases h.2.2 with h | h <;> omega

/-! ### The examples -/

theorem fol_small {v : Int} {L : List (List Int)} {c : List Int} (h : L.length ≤ 30000 ∧ (c :: L).all (fun c => decide (c.length ≤ 1000) && c.all fun x => decide (in64 x)) = true) : rup_Follows v L c = some (folC v L c) := by
  have h2 := List.all_eq_true.1 h.2
  have hr : ∀ d ∈ c :: L, d.length ≤ 140737488351232 ∧ ∀ x ∈ d, in64 x := fun d hd => by
    have := h2 d hd
    rw [Bool.and_eq_true, decide_eq_true_eq, List.all_eq_true] at this
    exact ⟨by omega, fun x hx => of_decide_eq_true (this.2 x hx)⟩
  exact rup_Follows_eq (by omega) (fun d hd => hr d (List.mem_cons_of_mem _ hd)) (hr c (List.mem_cons_self ..))

theorem chk_small {v : Int} {l m : List (List Int)} (h : l.length + m.length ≤ 30000 ∧ (l ++ m).all (fun c => decide (c.length ≤ 1000) && c.all fun x => decide (in64 x)) = true) : rup_Check v l m = some (chkR v l m) := by
  have h2 := List.all_eq_true.1 h.2
  have hr : ∀ d ∈ l ++ m, d.length ≤ 140737488351232 ∧ ∀ x ∈ d, in64 x := fun d hd => by
    have := h2 d hd
    rw [Bool.and_eq_true, decide_eq_true_eq, List.all_eq_true] at this
    exact ⟨by omega, fun x hx => of_decide_eq_true (this.2 x hx)⟩
  exact rup_Check_eq (by omega) (fun d hd => hr d (List.mem_append_left _ hd)) (fun d hd => hr d (List.mem_append_right _ hd))

theorem ex_eq : spiritlevellaw21_example = some [[2, 4], [2, 5]] := spiritlevellaw21_example.eq

theorem alive21_eq : spiritlevellaw21_alive = some true := by
  have f1 : spiritlevellaw21_follows [2] = some true := by
    rw [spiritlevellaw21_follows.eq, ex_eq, Option.bind_some, fol_small (by decide), Option.bind_some]; decide
  have f2 : spiritlevellaw21_follows [2, 6] = some true := by
    rw [spiritlevellaw21_follows.eq, ex_eq, Option.bind_some, fol_small (by decide), Option.bind_some]; decide
  rw [spiritlevellaw21_alive.eq, ex_eq, Option.bind_some, fol_small (by decide), Option.bind_some, Option.bind_some, app_ok (by decide), Option.bind_some, chk_small (by decide), Option.bind_some, Option.bind_some, app_ok (by decide), Option.bind_some,
    chk_small (by decide), Option.bind_some, f1, Option.bind_some, ct, f2, Option.bind_some, ct]
  decide

/-! ### What follows is true -/

theorem follows_true {v : Int} (hv : okV v) {L : List (List Int)} (hL : okL v L) {c : List Int} (hc : okC v c) {W : List Bool} (hm : ∀ c ∈ L, c.any (truth W) = true) (h : fromC v L c = true) : c.any (truth W) = true := by
  apply Classical.byContradiction
  intro hn
  have hf : ∀ l ∈ c, truth W l = false := fun l hl => by
    cases ht : truth W l with
    | false => rfl
    | true => exact absurd (List.any_eq_true.2 ⟨l, hl, ht⟩) hn
  have := (prop_models hL hm (v + 1).toNat (okA_neg hv hc) fun l hl => by
    obtain ⟨x, hx, rfl⟩ := List.mem_map.1 hl
    rw [truth_neg (hc.1 x hx).1, hf x hx]; rfl).1
  unfold fromC confC at h
  have := of_decide_eq_true h
  omega

theorem chkC_bnd {v : Int} : ∀ (r : List (List Int)) (L : List (List Int)) (i : Int), chkC v L i r = -1 ∨ (i ≤ chkC v L i r ∧ chkC v L i r < i + r.length)
  | [], L, i => .inl rfl
  | c :: r, L, i => by
    simp only [chkC, List.length_cons]
    split
    · rcases chkC_bnd r (L ++ [c]) (i + 1) with h | h
      · exact .inl h
      · exact .inr ⟨by omega, by omega⟩
    · exact .inr ⟨by omega, by omega⟩

theorem chkC_true {v : Int} (hv : okV v) {W : List Bool} : ∀ (r : List (List Int)) (L : List (List Int)) (i : Nat), okL v (L ++ r) → (∀ c ∈ L, c.any (truth W) = true) → ∀ (j : Nat) (hj : j < r.length), (chkC v L (i : Int) r < 0 ∨ ((i + j : Nat) : Int) < chkC v L (i : Int) r) → r[j].any (truth W) = true
  | [], L, i, _, _, j, hj, _ => by simp at hj
  | c :: r, L, i, hL, hm, j, hj, hlt => by
    have hL2 := okL_append.1 hL
    have hc := hL2.2 c (List.mem_cons_self ..)
    simp only [chkC] at hlt
    cases hf : fromC v L c with
    | true =>
      have hct := follows_true hv hL2.1 hc hm hf
      rw [hf, if_pos rfl] at hlt
      cases j with
      | zero => exact hct
      | succ j =>
        have hcast : ((i : Int) + 1) = ((i + 1 : Nat) : Int) := by omega
        rw [hcast] at hlt
        have := chkC_true hv r (L ++ [c]) (i + 1) (by rw [List.append_assoc]; exact hL) (fun d hd => by
          rcases List.mem_append.1 hd with hd | hd
          · exact hm d hd
          · rw [List.mem_singleton.1 hd]; exact hct) j (by simpa using hj) (by rw [show i + 1 + j = i + (j + 1) by omega]; exact hlt)
        simpa using this
    | false =>
      rw [hf, if_neg (by simp)] at hlt
      omega

theorem shl_small21 {v : Int} (h : 0 ≤ v ∧ v ≤ 8) : bshl .i64 1 v ≤ 256 := by
  have : v = 0 ∨ v = 1 ∨ v = 2 ∨ v = 3 ∨ v = 4 ∨ v = 5 ∨ v = 6 ∨ v = 7 ∨ v = 8 := by omega
  rcases this with h | h | h | h | h | h | h | h | h <;> subst h <;> decide

end Go.Proofs.YthbkhndapkbgbaaGreat
