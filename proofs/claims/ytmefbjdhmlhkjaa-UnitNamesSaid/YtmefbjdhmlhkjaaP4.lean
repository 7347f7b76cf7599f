/- Plain values: what propagation leaves; UnitTells, UnitEnd. -/
import Derived.Test.YtmefbjdhmlhkjaaP3
namespace Go.Proofs.Ytmefbjdhmlhkjaa
open Go Go.Proofs.Ytmefbjdhmlhkjaa.R
set_option linter.unusedVariables false

abbrev TA : Ty := .pair (.int .i64) (.pair (.list (.int .i64)) (.list (.int .i64)))
abbrev TL : Ty := .list (.int .i64)
abbrev TLL : Ty := .list (.list (.int .i64))

theorem okTL {l : List Int} (h : okD TL l) : l.length ≤ 140737488351232 ∧ ∀ x ∈ l, in64 x := ⟨h.1, fun x hx => wf64 (h.2 x hx)⟩
theorem okTLL {l : List (List Int)} (h : okD TLL l) : l.length ≤ 140737488351232 ∧ ∀ c ∈ l, c.length ≤ 140737488351232 ∧ ∀ x ∈ c, in64 x := ⟨h.1, fun c hc => okTL (h.2 c hc)⟩
theorem okTA {a : Int × List Int × List Int} (h : okD TA a) : in64 a.1 ∧ (a.2.1.length ≤ 140737488351232 ∧ ∀ x ∈ a.2.1, in64 x) ∧ (a.2.2.length ≤ 140737488351232 ∧ ∀ x ∈ a.2.2, in64 x) := ⟨wf64 h.1, okTL h.2.1, okTL h.2.2⟩

/-! ### What propagation leaves -/

theorem propC_okA {v : Int} {s : List Int} {L : List (List Int)} (hL : okL v L) : ∀ (n : Nat) {t : List Int}, okA v t s → okA v (propC L n t).1 s ∧ ∃ u, (propC L n t).1 = t ++ u
  | 0, t, h => ⟨h, [], by simp [propC]⟩
  | n + 1, t, h => by
    simp only [propC]
    split
    · exact ⟨h, [], by simp⟩
    · rename_i hc
      rw [not_or] at hc
      obtain ⟨hx, hf⟩ := fuC_lit hL hc.2
      obtain ⟨h1, u, h2⟩ := propC_okA hL n (h.push hx hf)
      exact ⟨h1, fuC t L :: u, by rw [h2, List.append_assoc]; rfl⟩

theorem propC_end {v : Int} {s : List Int} {L : List (List Int)} (hL : okL v L) : ∀ (n : Nat) {t : List Int}, okA v t s → v - t.length < n → (propC L n t).2 = ffC (propC L n t).1 0 L ∧ (0 ≤ (propC L n t).2 ∨ fuC (propC L n t).1 L = 0)
  | 0, t, h, hlt => by have := h.short; omega
  | n + 1, t, h, hlt => by
    simp only [propC]
    split
    · rename_i hc; exact ⟨rfl, hc⟩
    · rename_i hc
      rw [not_or] at hc
      obtain ⟨hx, hf⟩ := fuC_lit hL hc.2
      exact propC_end hL n (h.push hx hf) (by rw [List.length_append, List.length_singleton]; omega)

theorem propC_again {L : List (List Int)} {n : Nat} {t : List Int} (hn : 0 < n) (h : 0 ≤ ffC t 0 L ∨ fuC t L = 0) : propC L n t = (t, ffC t 0 L) := by
  obtain ⟨m, rfl⟩ : ∃ m, n = m + 1 := ⟨n - 1, by omega⟩
  simp only [propC]
  rw [if_pos h]

theorem ffC_spec {t : List Int} : ∀ {L : List (List Int)} {k : Int} (i : Nat) (hi : i < L.length), (k + i < ffC t k L → (stC t L[i]).1 ≠ 0) ∧ (k + i = ffC t k L → 0 ≤ k → (stC t L[i]).1 = 0) ∧ (ffC t k L = -1 → 0 ≤ k → (stC t L[i]).1 ≠ 0)
  | [], k, i, hi => by simp at hi
  | c :: r, k, 0, hi => by
    simp only [ffC, List.getElem_cons_zero]
    split
    · rename_i h; exact ⟨fun h' => by omega, fun _ _ => h, fun h' hk => by omega⟩
    · rename_i h
      refine ⟨fun _ => h, fun h' hk => ?_, fun _ _ => h⟩
      rcases ffC_lt t r (k + 1) with h1 | h1 <;> omega
  | c :: r, k, i + 1, hi => by
    simp only [ffC, List.getElem_cons_succ]
    split
    · rename_i h; exact ⟨fun h' => by omega, fun h' _ => by omega, fun h' hk => by omega⟩
    · rename_i h
      obtain ⟨h1, h2, h3⟩ := ffC_spec (t := t) (L := r) (k := k + 1) i (by simpa using hi)
      exact ⟨fun h' => h1 (by omega), fun h' hk => h2 (by omega) (by omega), fun h' hk => h3 h' (by omega)⟩

theorem fuC_zero {t : List Int} : ∀ {L : List (List Int)}, (∀ c ∈ L, ∀ l ∈ c, l ≠ 0) → fuC t L = 0 → ∀ c ∈ L, (stC t c).1 ≠ 3
  | [], _, _, c, hc => by cases hc
  | d :: r, hz, h, c, hc => by
    simp only [fuC] at h
    split at h
    · rename_i h3
      exact absurd h (hz d (by simp) _ (stC_unit h3).1)
    · rename_i h3
      rcases List.mem_cons.1 hc with rfl | hc
      · exact h3
      · exact fuC_zero (fun c hc => hz c (by simp [hc])) h c hc

theorem stC_cases (t c : List Int) : (stC t c).1 = 0 ∨ (stC t c).1 = 1 ∨ (stC t c).1 = 2 ∨ (stC t c).1 = 3 := by
  unfold stC
  split
  · simp
  · split <;> simp

/-! ### The examples -/

theorem run_small {v : Int} {t s : List Int} {L : List (List Int)} (ht : t.all (fun x => decide (in64 x)) = true) (hL : L.all (fun c => c.all fun x => decide (in64 x)) = true) (h1 : t.length ≤ 1000 ∧ s.length ≤ 1000 ∧ L.length ≤ 30000 ∧ L.all (fun c => decide (c.length ≤ 1000)) = true) : unit_Run v t s L = some (runC v t s L) := by
  rw [List.all_eq_true] at ht hL
  have h4 := List.all_eq_true.1 h1.2.2.2
  refine unit_Run_eq (by omega) (by omega) (fun l hl => of_decide_eq_true (ht l hl)) (by omega) fun c hc => ⟨?_, fun l hl => of_decide_eq_true (List.all_eq_true.1 (hL c hc) l hl)⟩
  have := of_decide_eq_true (h4 c hc)
  omega

theorem gives_eq {L : List (List Int)} {k : Int} {want : List Int} (h : unit_Run 5 [2] [] L = some ((5, 2 :: want, []), k, 0)) (hw : want.length ≤ 1000) : spiritlevellaw15_gives L k want = some true := by
  rw [spiritlevellaw15_gives.eq, h, Option.bind_some, ce, ce, if_pos rfl, if_pos rfl, app_ok (by simp; omega), Option.bind_some, ref13_Same_eq (by simp; omega), Option.bind_some]
  simp

theorem alive_eq : spiritlevellaw15_alive = some true := by
  rw [spiritlevellaw15_alive.eq, gives_eq (by rw [run_small (by decide) (by decide) (by decide)]; decide) (by decide), Option.bind_some, ct, gives_eq (by rw [run_small (by decide) (by decide) (by decide)]; decide) (by decide), Option.bind_some, ct,
    gives_eq (by rw [run_small (by decide) (by decide) (by decide)]; decide) (by decide), Option.bind_some]

/-! ### The laws -/

theorem UnitTells_pure (a : Int × List Int × List Int) (L : List (List Int)) (c : List Int) (ha : okD TA a) (hL : okD TLL L) (hc : okD TL c) : spiritlevellaw15_UnitTells a.1 a.2.1 a.2.2 L c = some true := by
  obtain ⟨a0, ⟨a1, a2⟩, a3, a4⟩ := okTA ha
  obtain ⟨l1, l2⟩ := okTLL hL
  obtain ⟨c1, c2⟩ := okTL hc
  rw [spiritlevellaw15_UnitTells.eq, ref14_Great_eq, Option.bind_some, cd]
  split
  · rfl
  · rename_i hg
    obtain ⟨b, h1, h2⟩ := ref15_Great_eq (v := a.1) l1
    rw [h1, Option.bind_some]
    cases b with
    | true => rfl
    | false =>
      obtain ⟨s1, s2, s3⟩ := h2.1 rfl
      rw [cf, cd]
      split
      · rfl
      · rename_i hcl
        rw [ref14_Twin_eq (by omega) (by omega), Option.bind_some, unit_State_eq a1 a3 a2 c1 c2, Option.bind_some, ref15_State_eq a1 a3 (by omega), Option.bind_some, unit_Run_eq a1 a3 a2 l1 l2, Option.bind_some, ref15_Run_eq a1 a3 l1 (fun c hc => (l2 c hc).1), Option.bind_some]
        simp only [beq_self_eq_true, cond_true]
        have hlen : (runC a.1 a.2.1 a.2.2 L).1.2.1.length ≤ 140737488351232 ∧ (runC a.1 a.2.1 a.2.2 L).1.2.2.length ≤ 140737488351232 := by
          unfold runC
          split
          · rename_i hok
            split
            · simp
            · split
              · rename_i hLL
                have h := (propC_okA hLL (a.1 + 1).toNat hok).1
                have := h.short
                have := h.vars
                simp only; omega
              · simp
          · simp
        rw [ref14_Same_eq hlen.1 hlen.2, Option.bind_some, ref14_Same_eq a1 a3, Option.bind_some]
        simp

theorem fit_eq {a : Int × List Int × List Int} {L : List (List Int)} (ha : okD TA a) (hL : okD TLL L) : ∃ b, spiritlevellaw15_fit a.1 a.2.1 a.2.2 L = some b ∧ (b = true → okA a.1 a.2.1 a.2.2 ∧ okL a.1 L ∧ small a.1 L ∧ a.2.1.length ≤ 200 ∧ a.2.2.length ≤ 200) := by
  obtain ⟨a0, ⟨a1, a2⟩, a3, a4⟩ := okTA ha
  obtain ⟨l1, l2⟩ := okTLL hL
  rw [spiritlevellaw15_fit.eq, ref14_Great_eq, Option.bind_some, cnot, cd]
  split
  · exact ⟨false, rfl, by simp⟩
  · rename_i hg
    obtain ⟨b, h1, h2⟩ := ref15_Great_eq (v := a.1) l1
    rw [h1, Option.bind_some, cnot]
    cases b with
    | true => exact ⟨false, rfl, by simp⟩
    | false =>
      have hs := h2.1 rfl
      rw [cf, ref14_Check_eq a1 a3, Option.bind_some, ce]
      by_cases hok : okA a.1 a.2.1 a.2.2
      · have hlen : ¬ L.length > 20000 := by have := hs.1; omega
        rw [if_pos hok, if_pos rfl, ref15_Wrong_eq hok.vars l1 (fun c hc => (l2 c hc).1), Option.bind_some, if_neg hlen]
        by_cases hLL : okL a.1 L
        · rw [if_pos hLL]
          exact ⟨true, rfl, fun _ => ⟨hok, hLL, hs, by omega, by omega⟩⟩
        · rw [if_neg hLL]
          exact ⟨false, rfl, by simp⟩
      · rw [if_neg hok, if_neg (by omega)]
        exact ⟨false, rfl, by simp⟩

theorem runC_ok {v : Int} {t s : List Int} {L : List (List Int)} (h : okA v t s) (hL : okL v L) (hl : L.length ≤ 20000) : runC v t s L = ((v, (propC L (v + 1).toNat t).1, s), (propC L (v + 1).toNat t).2, 0) := by
  unfold runC
  rw [if_pos h, if_neg (by omega), if_pos hL]

theorem lit64 {v l : Int} (hv : okV v) (h : isLit v l) : in64 l := by unfold in64; omega

theorem UnitEnd.loop {L : List (List Int)} {v : Int} {x s : List Int} {k : Int} (hx : okA v x s) (hL : okL v L) (hl : L.length ≤ 60) (hk : k = ffC x 0 L) (hf : 0 ≤ k ∨ fuC x L = 0) : ∀ (n i : Nat), i + n = L.length → spiritlevellaw15_UnitEnd.l0 L true k (i : Int) v x s = some true
  | 0, i, hi => by
    have hsh := hx.short
    have hv := hx.vars
    have hz := hf
    rw [hk] at hz
    rw [spiritlevellaw15_UnitEnd.l0_eq, cd, if_neg (by omega), unit_Run_eq (by omega) (by omega) (fun l hl => lit64 hv (hx.lits l hl)) (by omega) (fun c hc => ⟨by have := (hL c hc).len hv; omega, fun l hl => lit64 hv ((hL c hc).1 l hl)⟩), Option.bind_some, runC_ok hx hL (by omega), propC_again (by omega) hz, ct, ce, if_pos rfl, ce, if_pos hk.symm, ref14_Same_eq (by simp only; omega) (by simp only; omega), Option.bind_some]
    simp
  | n + 1, i, hi => by
    have hlt : i < L.length := by omega
    have hv := hx.vars
    have hsh := hx.short
    have hc := hL _ (List.getElem_mem hlt)
    have hcl := hc.len hv
    have hw : IntKind.wrap .i64 ((i : Int) + 1) = ((i + 1 : Nat) : Int) := by rw [wr] <;> omega
    have ih := UnitEnd.loop hx hL hl hk hf n (i + 1) (by omega)
    obtain ⟨f1, f2, f3⟩ := ffC_spec (t := x) (L := L) (k := 0) i hlt
    rw [spiritlevellaw15_UnitEnd.l0_eq, cd, if_pos (by omega), gsome hlt, Option.bind_some, unit_State_eq (by omega) (by omega) (fun l hl => lit64 hv (hx.lits l hl)) (by omega) (fun l hl => lit64 hv (hc.1 l hl)), Option.bind_some]
    have hst : stateC v x s L[i] = ((stC x L[i]).1, (stC x L[i]).2, 0) := by
      unfold stateC; rw [if_pos hx, if_pos hc]
    rw [hst, hw, ih]
    simp only [cn, ce, cd, if_true]
    have hcs := stC_cases x L[i]
    have h3 : k < 0 → (stC x L[i]).1 ≠ 3 ∧ (stC x L[i]).1 ≠ 0 := fun hk0 => by
      refine ⟨fuC_zero (fun c hc l hl => by have := (hL c hc).1 l hl; omega) (hf.resolve_left (by omega)) _ (List.getElem_mem hlt), f3 ?_ (by omega)⟩
      have := ffC_lt x L 0; omega
    have e1 : (i : Int) < k → (stC x L[i]).1 ≠ 0 := fun h => f1 (by omega)
    have e2 : (i : Int) = k → (stC x L[i]).1 = 0 := fun h => f2 (by omega) (by omega)
    generalize (stC x L[i]).1 = z at *
    by_cases q1 : (i : Int) < k
    · have := e1 q1
      rw [if_pos q1, if_neg this]
      rw [if_neg (show ¬ (i : Int) = k by omega), if_neg (show ¬ k < 0 by omega)]
    · rw [if_neg q1]
      by_cases q2 : (i : Int) = k
      · rw [if_pos q2, if_pos (e2 q2), if_neg (show ¬ k < 0 by omega)]
      · rw [if_neg q2]
        by_cases q3 : k < 0
        · have := h3 q3
          rw [if_pos q3]
          rcases hcs with h | h | h | h
          · omega
          · rw [if_pos h]
          · rw [if_neg (by omega), if_pos h]
          · omega
        · rw [if_neg q3]

theorem UnitEnd_pure (a : Int × List Int × List Int) (L : List (List Int)) (ha : okD TA a) (hL : okD TLL L) : spiritlevellaw15_UnitEnd a.1 a.2.1 a.2.2 L = some true := by
  obtain ⟨a0, ⟨a1, a2⟩, a3, a4⟩ := okTA ha
  obtain ⟨l1, l2⟩ := okTLL hL
  obtain ⟨b, h1, h2⟩ := fit_eq ha hL
  rw [spiritlevellaw15_UnitEnd.eq, alive_eq, Option.bind_some, h1, Option.bind_some]
  cases b with
  | false => rfl
  | true =>
    obtain ⟨hok, hLL, hs, hsh⟩ := h2 rfl
    have hl60 := hs.1
    obtain ⟨p1, u, p2⟩ := propC_okA hLL (a.1 + 1).toNat hok
    obtain ⟨p3, p4⟩ := propC_end hLL (a.1 + 1).toNat hok (by have := hok.vars; omega)
    have hp := p1.short
    have hv := hok.vars
    rw [cnot, ct, cnot, ct, unit_Run_eq a1 a3 a2 l1 l2, Option.bind_some, runC_ok hok hLL (by omega)]
    simp only [cn, cd]
    have hlt := ffC_lt (propC L (a.1 + 1).toNat a.2.1).1 L 0
    rw [if_pos trivial, if_neg (by omega), p2]
    have hlu : ¬ ((a.2.1 ++ u).length : Int) < (a.2.1.length : Int) := by rw [List.length_append]; omega
    rw [if_neg hlu]
    have hchk : chk (decide (0 ≤ (0 : Int)) && decide ((0 : Int) ≤ (a.2.1.length : Int)) && decide ((a.2.1.length : Int) ≤ ((a.2.1 ++ u).length : Int))) = some () := by
      unfold chk
      rw [if_pos]
      simp only [Bool.and_eq_true, decide_eq_true_eq]
      omega
    have hsub : subOf (a.2.1 ++ u) (Int.toNat 0) (Int.toNat ((a.2.1.length : Int) - 0)) = a.2.1 := by
      simp [subOf]
    rw [hchk, Option.bind_some, hsub, ref13_Same_eq a1, Option.bind_some, cnot]
    rw [decide_eq_true rfl, ct, ref13_Same_eq a3, Option.bind_some, cnot, decide_eq_true rfl, ct]
    rw [p2] at p1 p3 p4
    exact UnitEnd.loop p1 hLL hl60 p3 p4 L.length 0 (by omega)

end Go.Proofs.Ytmefbjdhmlhkjaa
