/- . -/
import Derived.Test.YthbkhndapkbgbaaGreatPC6
namespace Go.Proofs.YthbkhndapkbgbaaGreat
open Go Go.Proofs.YthbkhndapkbgbaaGreat.R
set_option linter.unusedVariables false

section
variable {I : Int} {Ls As : List (Int × Int)} {Bs Cs : List Int} {f n : Nat}

theorem ref22_Check.loop1 {v : Int} (hv : okV v) {row : List Int} {cl : List (List Int)} (hn : row.length ≤ 100000) (hr : ∀ x ∈ row, -1 ≤ x ∧ x ≤ 2 * v + 1) : ∀ (m i : Nat), i + m = row.length → spiritlevelref22_Check.l1 0 (i : Int) v [row] cl = some 0
  | 0, i, hi => by
    rw [spiritlevelref22_Check.l1_eq, show geti [row] 0 = some row from rfl, Option.bind_some, cd, if_neg (by omega), show IntKind.wrap .i64 ((0 : Int) + 1) = 1 by decide, spiritlevelref22_Check.l0_eq, cd, if_neg (by simp)]
  | m + 1, i, hi => by
    have hlt : i < row.length := by omega
    obtain ⟨h1, h2⟩ := hr _ (List.getElem_mem hlt)
    have hv' := hv
    obtain ⟨v1, v2⟩ := hv'
    have hw : IntKind.wrap .i64 ((i : Int) + 1) = ((i + 1 : Nat) : Int) := by rw [wr] <;> omega
    have w1 : IntKind.wrap .i64 (IntKind.wrap .i64 (2 * v) + 1) = 2 * v + 1 := by rw [wr (x := 2 * v) (by omega) (by omega), wr (by omega) (by omega)]
    rw [spiritlevelref22_Check.l1_eq, show geti [row] 0 = some row from rfl, Option.bind_some, cd, if_pos (by omega), Option.bind_some, gsome hlt, Option.bind_some, cd, if_neg (by omega), cd, w1, if_neg (by omega), hw]
    exact ref22_Check.loop1 hv hn hr m (i + 1) (by omega)

theorem ref22_Check_ok {v : Int} (hv : okV v) {row : List Int} {cl : List (List Int)} (hn : row.length ≤ 100000) (h0 : 0 < row.length) (hz : row.getD 0 0 = 0) (hr : ∀ x ∈ row, -1 ≤ x ∧ x ≤ 2 * v + 1) (hc : cl.length ≤ 20000) (hL : okL v cl) : spiritlevelref22_Check v [row] cl = some 0 := by
  have hg : geti row 0 = some 0 := by have := getI h0; rw [hz] at this; exact this
  have hv' := hv
  obtain ⟨v1, v2⟩ := hv'
  rw [spiritlevelref22_Check.eq, cd, if_neg (by omega), ref13_Vars_eq, Option.bind_some, decide_eq_true hv, cnot, ct, ref15_Wrong_eq hv (by omega) (fun c hcm => by have := (hL c hcm).len hv; omega), Option.bind_some, if_neg (by omega), if_pos hL, cn, if_pos rfl,
    spiritlevelref22_Check.l0_eq, cd, if_pos (by simp), show geti [row] 0 = some row from rfl, Option.bind_some, ce, if_neg (by omega), Option.bind_some, Option.bind_some, cn, if_pos rfl, Option.bind_some, hg, Option.bind_some, cn, if_pos rfl]
  exact ref22_Check.loop1 hv hn hr row.length 0 (by omega)

theorem rowM_rng {M : List Bool} : ∀ x ∈ rowM M (n + 1) n, -1 ≤ x ∧ x ≤ 2 * (cntM M n : Int) + 1 := fun x hx => by
  obtain ⟨i, hi, rfl⟩ := List.getElem_of_mem hx
  have hi' := hi
  rw [rowM_len] at hi'
  have := rowM_get (M := M) (k := n) hi'
  rw [List.getD_eq_getElem?_getD, List.getElem?_eq_getElem hi, Option.getD_some] at this
  rw [this]
  have hc := (cntM_le (M := M) (a := i) (b := n) (by omega)).1
  split
  · omega
  · split
    · split <;> omega
    · omega

end

end Go.Proofs.YthbkhndapkbgbaaGreat
