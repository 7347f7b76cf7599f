/- RupMore, of plain values. -/
import Derived.Test.YtdojdblncegjcaaPR2
namespace Go.Proofs.Ytdojdblncegjcaa
open Go Go.Proofs.Ytdojdblncegjcaa.R
set_option linter.unusedVariables false

/-- Fewer clauses imply no more. -/
theorem prop_le {v : Int} {s : List Int} {L L' : List (List Int)} (hL : okL v L) (h : ∀ c ∈ L', c ∈ L) {t t' s' : List Int} (ht : okA v t s) (ht' : okA v t' s') (hs : ∀ l ∈ t', l ∈ t) (hn : (propC L (v + 1).toNat t).2 < 0) :
    (propC L' (v + 1).toNat t').2 < 0 ∧ ∀ l ∈ (propC L' (v + 1).toNat t').1, l ∈ (propC L (v + 1).toNat t).1 := by
  obtain ⟨h1, u, h2⟩ := propC_okA hL (v + 1).toNat ht
  refine prop_sub (fun c hc => hL c (h c hc)) h1 (fun c hc => prop_closed hL ht hn c (h c hc)) _ ht' fun l hl => ?_
  rw [h2]; exact List.mem_append_left _ (hs l hl)

/-- With more clauses no less follows. -/
theorem fromC_more {v : Int} (hv : okV v) {L L' : List (List Int)} (hL' : okL v L') (h : ∀ c ∈ L, c ∈ L') {c : List Int} (hc : okC v c) (hf : fromC v L c = true) : fromC v L' c = true := by
  unfold fromC confC at hf ⊢
  have hf := of_decide_eq_true hf
  rw [decide_eq_true_iff]
  apply Classical.byContradiction
  intro hn
  have := (prop_le hL' h (okA_neg hv hc) (okA_neg hv hc) (fun l hl => hl) (by omega)).1
  omega

theorem chkC_more {v : Int} (hv : okV v) : ∀ (r : List (List Int)) {L L' : List (List Int)} {i j : Int}, okL v (L' ++ r) → (∀ c ∈ L, c ∈ L') → 0 ≤ i → chkC v L i r < 0 → chkC v L' j r = -1
  | [], L, L', i, j, _, _, _, _ => rfl
  | c :: r, L, L', i, j, hL, hm, hi, h => by
    have hL2 := okL_append.1 hL
    have hc := hL2.2 c (List.mem_cons_self ..)
    simp only [chkC] at h ⊢
    cases hf : fromC v L c with
    | false => rw [hf, if_neg (by simp)] at h; omega
    | true =>
      rw [hf, if_pos rfl] at h
      rw [fromC_more hv hL2.1 hm hc hf, if_pos rfl]
      refine chkC_more hv r (by rw [List.append_assoc]; exact hL) (fun d hd => ?_) (by omega) h
      rcases List.mem_append.1 hd with hd | hd
      · exact List.mem_append_left _ (hm d hd)
      · exact List.mem_append_right _ hd

theorem chkC_take {v : Int} : ∀ (a b : List (List Int)) (L : List (List Int)) (i : Int), 0 ≤ i → chkC v L i (a ++ b) < 0 → chkC v L i a = -1
  | [], b, L, i, _, _ => rfl
  | c :: a, b, L, i, hi, h => by
    simp only [List.cons_append, chkC] at h ⊢
    cases hf : fromC v L c with
    | false => rw [hf, if_neg (by simp)] at h; omega
    | true =>
      rw [hf, if_pos rfl] at h
      rw [if_pos rfl]
      exact chkC_take a b (L ++ [c]) (i + 1) (by omega) h

theorem folC_ok {v : Int} {L : List (List Int)} {c : List Int} (hv : okV v) (hn : L.length ≤ 20000) (hL : okL v L) (hc : okC v c) : folC v L c = (fromC v L c, 0) := by
  unfold folC; rw [if_pos hv, if_neg (by omega), if_pos hL, if_pos hc]

theorem chkR_ok {v : Int} {l log : List (List Int)} (hv : okV v) (hn : l.length + log.length ≤ 20000) (hL : okL v (l ++ log)) : chkR v l log = (chkC v l 0 log, 0) := by
  unfold chkR; rw [if_pos hv, if_neg (by omega), if_pos hL]

theorem okL_ranged {v : Int} (hv : okV v) {L : List (List Int)} (h : okL v L) : ranged L := fun c hc => ⟨by have := (h c hc).len hv; omega, fun x hx => lit64 hv ((h c hc).1 x hx)⟩

theorem fol_ok {v : Int} {L : List (List Int)} {c : List Int} (hv : okV v) (hn : L.length ≤ 20000) (hL : okL v L) (hc : okC v c) : rup_Follows v L c = some (fromC v L c, 0) := by
  have := hc.len hv
  rw [rup_Follows_eq (by omega) (okL_ranged hv hL) ⟨by omega, fun x hx => lit64 hv (hc.1 x hx)⟩, folC_ok hv hn hL hc]

theorem chk_ok {v : Int} {l log : List (List Int)} (hv : okV v) (hn : l.length + log.length ≤ 20000) (hL : okL v (l ++ log)) : rup_Check v l log = some (chkC v l 0 log, 0) := by
  have h2 := okL_append.1 hL
  rw [rup_Check_eq (by omega) (okL_ranged hv h2.1) (okL_ranged hv h2.2), chkR_ok hv hn hL]

theorem RupMore.l0 {v : Int} (hv : okV v) {l log : List (List Int)} {c : List Int} (hL : okL v (l ++ log)) (hc : okC v c) (hl : l.length ≤ 60) (hn : log.length ≤ 60) : ∀ (m i : Nat), i + m = log.length → spiritlevellaw21_RupMore.l0 v l log c true (i : Int) (l ++ [c]) = some true
  | 0, i, hi => by
    have hL2 := okL_append.1 hL
    have hb := chkC_bnd (v := v) log l 0
    have hcl : okL v (c :: log) := fun d hd => by
      rcases List.mem_cons.1 hd with rfl | hd
      · exact hc
      · exact hL2.2 d hd
    have hlast : ∀ (F : Option (Bool × Int)), F = some (fromC v l c, 0) → chkC v l 0 log < 0 → (F.bind fun r14_ => (app ([c] : List (List Int)) log).bind fun l15_ => (rup_Check v l l15_).bind fun r16_ => bif true then (bif (r14_.2 == (0 : Int)) then (bif (r16_.2 == (0 : Int)) then (bif (!r14_.1) then (bif (r16_.1 == (0 : Int)) then (some true) else (bif r14_.1 then (some (r16_.1 == (-1 : Int))) else (some false))) else (bif r14_.1 then (some (r16_.1 == (-1 : Int))) else (some false))) else (some false)) else (some false)) else (some false)) = some true := by
      intro F hF hneg
      rw [hF, Option.bind_some, app_ok (by simp; omega), Option.bind_some, List.singleton_append, chk_ok hv (by simp; omega) (okL_append.2 ⟨hL2.1, hcl⟩), Option.bind_some]
      simp only [ct, beq_self_eq_true]
      cases hf : fromC v l c with
      | false => simp [chkC, hf]
      | true =>
        have : chkC v l 0 (c :: log) = -1 := by
          simp only [chkC]
          rw [hf, if_pos rfl]
          exact chkC_more hv log (L := l) (i := 0) (by
            rw [List.append_assoc]
            exact okL_append.2 ⟨hL2.1, hcl⟩) (fun d hd => List.mem_append_left _ hd) (by omega) hneg
        rw [this]; rfl
    rw [spiritlevellaw21_RupMore.l0_eq, cd, if_neg (by omega), chk_ok hv (by omega) hL, Option.bind_some]
    simp only [cn, if_true, ct]
    rw [cd]
    by_cases h0 : chkC v l 0 log ≥ 0
    · rw [if_pos h0]; rfl
    · rw [if_neg h0, cd]
      by_cases h1 : (log.length : Int) > 0
      · have hsub : subl log 0 (IntKind.wrap .i64 ((log.length : Int) - 1)) = some (log.take (log.length - 1)) := by
          rw [wr (by omega) (by omega)]
          unfold subl
          rw [if_pos (by omega)]
          have : ((log.length : Int) - 1).toNat = log.length - 1 := by omega
          rw [this]; simp
        have hless : chkC v l 0 (log.take (log.length - 1)) = -1 := chkC_take (log.take (log.length - 1)) (log.drop (log.length - 1)) l 0 (by omega) (by rw [List.take_append_drop]; omega)
        rw [if_pos h1, hsub, Option.bind_some, chk_ok hv (by simp; omega) (okL_append.2 ⟨hL2.1, fun d hd => hL2.2 d (List.mem_of_mem_take hd)⟩), Option.bind_some, if_pos rfl, hless, if_pos rfl]
        have := hlast _ (fol_ok hv (by omega) hL2.1 hc) (by omega)
        simpa only [ct] using this
      · rw [if_neg h1]
        have := hlast _ (fol_ok hv (by omega) hL2.1 hc) (by omega)
        simpa only [ct] using this
  | m + 1, i, hi => by
    have hlt : i < log.length := by omega
    have hL2 := okL_append.1 hL
    have hci := hL2.2 _ (List.getElem_mem hlt)
    have hw2 : IntKind.wrap .i64 ((i : Int) + 1) = ((i + 1 : Nat) : Int) := by rw [wr] <;> omega
    have hLc : okL v (l ++ [c]) := okL_append.2 ⟨hL2.1, fun d hd => by rw [List.mem_singleton.1 hd]; exact hc⟩
    have ih := RupMore.l0 hv hL hc hl hn m (i + 1) (by omega)
    rw [spiritlevellaw21_RupMore.l0_eq, cd, if_pos (by omega), gsome hlt, Option.bind_some, fol_ok hv (by omega) hL2.1 hci, Option.bind_some, Option.bind_some, fol_ok hv (by simp; omega) hLc hci, Option.bind_some, hw2, ih]
    simp only [cn, if_true]
    cases hf : fromC v l log[i] with
    | false => rfl
    | true => rw [fromC_more hv hLc (fun d hd => List.mem_append_left _ hd) hci hf]; rfl

theorem RupMore_pure (v : Int) (l log : List (List Int)) (c : List Int) (hv : okD (.int .i64) v) (hl : okD TLL l) (hg : okD TLL log) (hc : okD TL c) : spiritlevellaw21_RupMore v l log c = some true := by
  obtain ⟨b, h1, h2⟩ := great_eq (v := v) hl hg
  obtain ⟨c1, c2⟩ := okTL hc
  rw [spiritlevellaw21_RupMore.eq, alive21_eq, Option.bind_some, h1, Option.bind_some]
  cases b with
  | true => rfl
  | false =>
    obtain ⟨s1, s2⟩ := h2 rfl
    have e1 := s1.1
    have e2 := s2.1
    rw [cf, ref21_Asked_eq (by omega) (small_ranged hl) (small_ranged hg), Option.bind_some, cn]
    by_cases hV : okV v
    · rw [if_pos hV]
      by_cases hL : okL v (l ++ log)
      · rw [if_pos hL, if_pos rfl, cd]
        by_cases g1 : (c.length : Int) > 40
        · rw [if_pos g1]
        · rw [if_neg g1, ref13_Check_eq c1, Option.bind_some, cn, if_pos hV]
          by_cases hcc : okC v c
          · rw [if_pos hcc, if_pos rfl, cnot, ct, app_ok (by simp; omega), Option.bind_some, List.nil_append, app_ok (by simp; omega), Option.bind_some]
            exact RupMore.l0 hV hL hcc e1 e2 log.length 0 (by omega)
          · rw [if_neg hcc, if_neg (by omega)]
      · rw [if_neg hL, if_neg (by omega)]
    · rw [if_neg hV, if_neg (by omega)]

end Go.Proofs.Ytdojdblncegjcaa
