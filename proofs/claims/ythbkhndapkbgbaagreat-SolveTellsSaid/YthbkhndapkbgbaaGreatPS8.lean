/- The solver's laws, of plain values: SolveNames. -/
import Derived.Test.YthbkhndapkbgbaaGreatPS5
namespace Go.Proofs.YthbkhndapkbgbaaGreat
open Go Go.Proofs.YthbkhndapkbgbaaGreat.R
set_option linter.unusedVariables false

theorem run_arg {v b : Int} {L : List (List Int)} (h : v < 0 ∨ v > 4000 ∨ b < 0 ∨ b > 100000) : solve_Run v L b = some (ans0, 2) := by
  rw [solve_Run.eq, cd]
  split
  · rfl
  · rw [cd]
    split
    · rfl
    · rw [cd]
      split
      · rfl
      · rw [cd, if_pos (by omega)]; rfl

theorem run_bad {v b e : Int} {L : List (List Int)} (hv : okV v) (hb : 0 ≤ b ∧ b ≤ 100000) (hc : solve_check v L = some e) (he : e ≠ 0) : solve_Run v L b = some (ans0, e) := by
  rw [solve_Run.eq, cd, if_neg (by omega), cd, if_neg (by omega), cd, if_neg (by omega), cd, if_neg (by omega), hc, Option.bind_some, cn, if_neg he]; rfl

theorem check_many {v : Int} (hv : okV v) : solve_check v (List.replicate 20001 []) = some 4 := by
  rw [solve_check_eq hv (by rw [List.length_replicate]; omega) (fun c hc => by rw [List.eq_of_mem_replicate hc]; simp), if_pos (by rw [List.length_replicate]; omega)]

theorem check_bad {v : Int} (hv : okV v) {L : List (List Int)} (hn : L.length ≤ 100) (hr : ∀ c ∈ L, c.length ≤ 100 ∧ ∀ x ∈ c, in64 x) (hL : ¬ okL v L) : solve_check v L = some 8 := by
  rw [solve_check_eq hv (by omega) (fun c hc => ⟨by have := (hr c hc).1; omega, (hr c hc).2⟩), if_neg (by omega), if_neg hL]

theorem check_ok {v : Int} (hv : okV v) {L : List (List Int)} (hn : L.length ≤ 100) (hL : okL v L) : solve_check v L = some 0 := by
  rw [solve_check_eq hv (by omega) (fun c hc => ⟨by have := (hL c hc).len hv; omega, fun x hx => lit64 hv ((hL c hc).1 x hx)⟩), if_neg (by omega), if_pos hL]

theorem model_bad {v e : Int} {L : List (List Int)} {W : List Bool} (hv : okV v) (hW : (W.length : Int) = v) (hc : solve_check v L = some e) (he : e ≠ 0) : solve_Model v L W = some (false, e) := by
  rw [solve_Model.eq, cd, if_neg (by omega), cd, if_neg (by omega), cn, if_pos hW, hc, Option.bind_some, cn, if_neg he]

theorem solve_Model.loop2 {v : Int} {L : List (List Int)} (ov : okV v) (oL : okL v L) (hn : L.length ≤ 20000) {W : List Bool} (hW : (W.length : Int) = v) : ∀ (n i : Nat), i + n = L.length → solve_Model.l0 W L (L.length : Int) (i : Int) = some ((L.drop i).all (fun c => c.any (truth W)), 0)
  | 0, i, hi => by rw [solve_Model.l0_eq, cd, if_neg (by omega), List.drop_of_length_le (by omega)]; rfl
  | n + 1, i, hi => by
    have hlt : i < L.length := by omega
    have hw : IntKind.wrap .i64 ((i : Int) + 1) = ((i + 1 : Nat) : Int) := by rw [wr] <;> omega
    rw [solve_Model.l0_eq, cd, if_pos (by omega), gsome hlt, Option.bind_some, clause_True_eq ov hW (oL _ (List.getElem_mem hlt)), Option.bind_some, drop_cons hlt, List.all_cons, hw, solve_Model.loop2 ov oL hn hW n (i + 1) (by omega)]
    dsimp only
    rw [cn, if_pos rfl]
    cases (L[i]).any (truth W) <;> rfl

theorem model_eq {v : Int} {L : List (List Int)} {W : List Bool} (hv : okV v) (hn : L.length ≤ 100) (hL : okL v L) (hW : (W.length : Int) = v) {b : Bool} (hb : L.all (fun c => c.any (truth W)) = b) : solve_Model v L W = some (b, 0) := by
  have g := solve_Model.loop2 hv hL (by omega) hW L.length 0 (by omega)
  rw [show ((0 : Nat) : Int) = 0 from rfl, List.drop_zero, hb] at g
  rw [solve_Model.eq, cd, if_neg (by omega), cd, if_neg (by omega), cn, if_pos hW, check_ok hv hn hL, Option.bind_some, cn, if_pos rfl, g]

theorem run_is {v b : Int} {L : List (List Int)} (hv : okV v) (h12 : v ≤ 12) (hL : okL v L) (hn : L.length ≤ 100) (hb : 0 ≤ b ∧ b ≤ 1000) {r : Bool × List Int × List (List Int) × Nat} (hr : solR v L = r) {x : Ans} (hx : ansC v b r = x) : solve_Run v L b = some x := by
  rw [solve_Run_eq hv ⟨hb.1, by omega⟩ hL (by have := small_pow hv.1 h12; omega), hr, hx]

theorem solN1 : solR 2 [[2], [3]] = (false, [], [[]], 0) := by
  show sol 2 (14 + 1) _ _ _ _ = _
  rw [sol_end (T := [2]) (i := 1) (by decide) (by decide) lrn_nil]; rfl

theorem solN2 : solR 0 [] = (true, [], [], 0) := by
  show sol 0 (1 + 1) _ _ _ _ = _
  rw [sol_sat (T := []) (by decide) (by decide)]; rfl

theorem solN3 : solR 3 [] = (true, [3, 5, 7], [], 0) := by
  show sol 3 (35 + 1) _ _ _ _ = _
  rw [sol_dec (T := []) (x := 1) (by decide) (by decide) (by decide), sol_dec (T := [3]) (x := 2) (by decide) (by decide) (by decide), sol_dec (T := [3, 5]) (x := 3) (by decide) (by decide) (by decide), sol_sat (T := [3, 5, 7]) (by decide) (by decide)]; rfl

theorem solN4 : solR 0 [[]] = (false, [], [[]], 0) := by
  show sol 0 (1 + 1) _ _ _ _ = _
  rw [sol_end (T := []) (i := 0) (by decide) (by decide) lrn_nil]; rfl

end Go.Proofs.YthbkhndapkbgbaaGreat
