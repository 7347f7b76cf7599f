/- Logs of answers, of plain values: RupAnswers. -/
import Derived.Test.YthbkhndapkbgbaaGreatPU3
namespace Go.Proofs.YthbkhndapkbgbaaGreat
open Go Go.Proofs.YthbkhndapkbgbaaGreat.R
set_option linter.unusedVariables false

theorem chk_chain {v : Int} {L0 log : List (List Int)} (h : Chain v L0 log) : ∀ (n i : Nat), i + n = log.length → chkC v (L0 ++ log.take i) (i : Int) (log.drop i) = -1
  | 0, i, hi => by rw [List.drop_of_length_le (by omega)]; rfl
  | n + 1, i, hi => by
    have hlt : i < log.length := by omega
    have hap : L0 ++ log.take i ++ [log[i]] = L0 ++ log.take (i + 1) := by
      rw [List.take_add_one, List.getElem?_eq_getElem hlt, List.append_assoc]; rfl
    rw [drop_cons hlt]
    unfold chkC
    rw [if_pos (h i hlt), hap]
    exact chk_chain h n (i + 1) (by omega)

theorem ref20_Asked_eq {v : Int} {L : List (List Int)} {A : List Int} (hn : L.length ≤ 140737488351232) (hr : ∀ c ∈ L, c.length ≤ 140737488351232) (hA : A.length ≤ 140737488351232) :
    ∃ e, spiritlevelref20_Asked v L A = some e ∧ (e = 0 → okA v A [] ∧ okL v L) := by
  rw [spiritlevelref20_Asked.eq, spiritlevelref19_Asked.eq, ref13_Vars_eq, Option.bind_some, cnot, cd]
  by_cases hv : okV v
  · rw [if_pos hv, ref15_Wrong_eq hv (by omega) hr, Option.bind_some]
    by_cases h2 : L.length > 20000
    · rw [if_pos h2, Option.bind_some, cn, if_neg (by omega)]
      exact ⟨_, rfl, fun h => by omega⟩
    rw [if_neg h2]
    by_cases hL : okL v L
    · rw [if_pos hL, Option.bind_some, cn, if_pos rfl, ref14_Check_eq hA (by simp), Option.bind_some, cn]
      by_cases hok : okA v A []
      · rw [if_pos hok, if_pos rfl]
        exact ⟨0, rfl, fun _ => ⟨hok, hL⟩⟩
      · rw [if_neg hok, if_neg (by omega)]
        exact ⟨8, rfl, fun h => by omega⟩
    · rw [if_neg hL, Option.bind_some, cn, if_neg (by omega)]
      exact ⟨8, rfl, fun h => by omega⟩
  · rw [if_neg hv, Option.bind_some, cn, if_neg (by omega)]
    exact ⟨2, rfl, fun h => by omega⟩

theorem RupAnswers_pure (v : Int) (L : List (List Int)) (A : List Int) (hv : okD (.int .i64) v) (hL : okD TLL L) (hA : okD TL A) : spiritlevellaw21_RupAnswers v L A = some true := by
  obtain ⟨l1, l2⟩ := okTLL hL
  obtain ⟨c1, c2⟩ := okTL hA
  obtain ⟨g, h1, h2⟩ := ref19_Great.loop (v := v) l1 L.length 0 (by omega) (by simp)
  have h1' : spiritlevelref19_Great v L = some g := by rw [spiritlevelref19_Great.eq]; exact h1
  obtain ⟨e, e1, e2⟩ := ref20_Asked_eq (v := v) (A := A) l1 (fun c hc => (l2 c hc).1) c1
  rw [spiritlevellaw21_RupAnswers.eq, alive21_eq, Option.bind_some, h1', Option.bind_some]
  cases g with
  | true => rfl
  | false =>
    obtain ⟨g1, g2, g3⟩ := h2 rfl
    rw [cf, cd]
    split
    · rfl
    rename_i m0
    rw [e1, Option.bind_some, cn]
    by_cases he : e = 0
    · rw [if_pos he]
      obtain ⟨oA, oL⟩ := e2 he
      have hv := oA.vars
      have o12 : v ≤ 12 := by omega
      have hA2 := solAR_ok oA oL
      have hll := logA_len hA2
      have hp := small_pow hv.1 o12
      have hlog : (ansA v A L).2.2.2.1 = (solAR v A L).2.2.1 := rfl
      have hc := chk_chain hA2.chain (solAR v A L).2.2.1.length 0 (by omega)
      rw [List.take_zero, List.append_nil, List.drop_zero] at hc
      have hR : chkR v L (solAR v A L).2.2.1 = (-1, 0) := by
        unfold chkR
        rw [if_pos hv, if_neg (by omega), if_pos hA2.ok, ← hc]; rfl
      rw [cnot, ct, assume5000 oA o12 oL (by omega), Option.bind_some]
      dsimp only
      rw [cn, if_pos rfl, hlog, cd, if_neg (by omega), rup_Check_eq (by omega) (ranged_ok hv oL) (ranged_ok hv (okL_append.1 hA2.ok).2), Option.bind_some, hR]
      rfl
    · rw [if_neg he]

end Go.Proofs.YthbkhndapkbgbaaGreat
