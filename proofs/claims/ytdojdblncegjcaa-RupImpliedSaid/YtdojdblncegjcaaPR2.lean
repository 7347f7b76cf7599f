/- The laws of logs, of plain values. -/
import Derived.Test.YtdojdblncegjcaaPR1
namespace Go.Proofs.Ytdojdblncegjcaa
open Go Go.Proofs.Ytdojdblncegjcaa.R
set_option linter.unusedVariables false

theorem small_ranged {L : List (List Int)} (h : okD TLL L) : ranged L := (okTLL h).2

theorem great_eq {v : Int} {l log : List (List Int)} (hl : okD TLL l) (hg : okD TLL log) : ∃ b, spiritlevellaw21_great v l log = some b ∧ (b = false → small v l ∧ small v log) := by
  obtain ⟨b1, h1, h2⟩ := ref15_Great_eq (v := v) (okTLL hl).1
  obtain ⟨b2, h3, h4⟩ := ref15_Great_eq (v := v) (okTLL hg).1
  rw [spiritlevellaw21_great.eq, h1, Option.bind_some]
  cases b1 with
  | true => exact ⟨true, rfl, by simp⟩
  | false => rw [cf, h3]; exact ⟨b2, rfl, fun h => ⟨h2.1 rfl, h4.1 h⟩⟩

theorem ref21_Asked_eq {v : Int} {l log : List (List Int)} (hn : l.length + log.length ≤ 20000) (hl : ranged l) (hg : ranged log) : spiritlevelref21_Asked v l log = some (if okV v then (if okL v (l ++ log) then 0 else 8) else 2) := by
  have hw : IntKind.wrap .i64 ((l.length : Int) + (log.length : Int)) = ((l.length + log.length : Nat) : Int) := by rw [wr] <;> omega
  rw [spiritlevelref21_Asked.eq, ref13_Vars_eq, Option.bind_some, cnot, hw]
  by_cases h : okV v
  · rw [decide_eq_true h, ct, cd, if_neg (by omega), if_pos h, ref15_Wrong_eq h (by omega) (fun c hc => (hl c hc).1), Option.bind_some, if_neg (by omega), cn]
    by_cases h1 : okL v l
    · rw [if_pos h1, if_pos rfl, ref15_Wrong_eq h (by omega) (fun c hc => (hg c hc).1), Option.bind_some, if_neg (by omega), cn]
      by_cases h2 : okL v log
      · rw [if_pos h2, if_pos rfl, if_pos (okL_append.2 ⟨h1, h2⟩)]
      · rw [if_neg h2, if_neg (by omega), if_neg (fun h => h2 (okL_append.1 h).2)]
    · rw [if_neg h1, if_neg (by omega), if_neg (fun h => h1 (okL_append.1 h).1)]
  · rw [decide_eq_false h, cf, if_neg h]

theorem ref13_Valid_eq {v : Int} (hv : okV v) {c : List Int} (hn : c.length ≤ 140737488351232) : spiritlevelref13_Valid v c = some (decide (okC v c)) := by
  have h := ref13_Check_eq (v := v) hn
  rw [spiritlevelref13_Check.eq, ref13_Vars_eq, Option.bind_some, cnot, decide_eq_true hv, ct, if_pos hv] at h
  cases hc : spiritlevelref13_Valid v c with
  | none => rw [hc] at h; cases h
  | some b =>
    rw [hc, Option.bind_some, cnot] at h
    cases b with
    | true =>
      rw [ct] at h
      by_cases hk : okC v c
      · rw [decide_eq_true hk]
      · rw [if_neg hk] at h; cases h
    | false =>
      rw [cf] at h
      by_cases hk : okC v c
      · rw [if_pos hk] at h; cases h
      · rw [decide_eq_false hk]

theorem ref21_Follows_eq {v : Int} {L : List (List Int)} {c : List Int} (hn : L.length ≤ 20000) (hr : ranged L) (hc : c.length ≤ 140737488351232) : spiritlevelref21_Follows v L c = some (folC v L c) := by
  rw [spiritlevelref21_Follows.eq, ref21_Asked_eq (by simpa using hn) hr (by intro c hc; cases hc), Option.bind_some, cn, List.append_nil]
  unfold folC
  by_cases h : okV v
  · simp only [if_pos h]
    rw [if_neg (show ¬ L.length > 20000 by omega)]
    by_cases h1 : okL v L
    · simp only [if_pos h1, if_true]
      rw [ref13_Valid_eq h hc, Option.bind_some, cnot, cd]
      by_cases h2 : okC v c
      · rw [if_pos h2, if_pos h2, ref21_From_eq h h2 h1 hn]; rfl
      · rw [if_neg h2, if_neg h2]
    · simp only [if_neg h1]; rfl
  · simp only [if_neg h]; rfl

theorem ref21_Check.loop {v : Int} {l log : List (List Int)} (hv : okV v) (hL : okL v (l ++ log)) (hn : l.length + log.length ≤ 20000) : ∀ (n i : Nat), i + n = log.length →
    spiritlevelref21_Check.l0 log (i : Int) (l ++ log.take i) = some (chkC v (l ++ log.take i) (i : Int) (log.drop i), 0)
  | 0, i, hi => by
    rw [spiritlevelref21_Check.l0_eq, cd, if_neg (by omega), List.drop_of_length_le (by omega)]; rfl
  | n + 1, i, hi => by
    have hlt : i < log.length := by omega
    have hw2 : IntKind.wrap .i64 ((i : Int) + 1) = ((i + 1 : Nat) : Int) := by rw [wr] <;> omega
    have hL2 := okL_append.1 hL
    have hpre : okL v (l ++ log.take i) := okL_append.2 ⟨hL2.1, fun c hc => hL2.2 c (List.mem_of_mem_take hc)⟩
    have htk : l ++ log.take (i + 1) = l ++ log.take i ++ [log[i]] := by
      rw [List.take_add_one, List.getElem?_eq_getElem hlt, List.append_assoc]; rfl
    rw [spiritlevelref21_Check.l0_eq, cd, if_pos (by omega), gsome hlt, Option.bind_some, ref21_From_eq hv (hL2.2 _ (List.getElem_mem hlt)) hpre (by simp; omega), Option.bind_some, cnot, drop_cons hlt, hw2]
    simp only [chkC]
    cases hf : fromC v (l ++ log.take i) log[i] with
    | true =>
      rw [ct, Option.bind_some, app_ok (by simp; omega), Option.bind_some, ← htk, ref21_Check.loop hv hL hn n (i + 1) (by omega), if_pos rfl]
      rfl
    | false => rw [cf, if_neg (by simp)]

theorem ref21_Check_eq {v : Int} {l log : List (List Int)} (hn : l.length + log.length ≤ 20000) (hl : ranged l) (hg : ranged log) : spiritlevelref21_Check v l log = some (chkR v l log) := by
  rw [spiritlevelref21_Check.eq, ref21_Asked_eq hn hl hg, Option.bind_some, cn]
  unfold chkR
  by_cases h : okV v
  · simp only [if_pos h]
    rw [if_neg (show ¬ l.length + log.length > 20000 by omega)]
    by_cases h1 : okL v (l ++ log)
    · simp only [if_pos h1, if_true]
      rw [app_ok (by simp; omega), Option.bind_some, List.nil_append]
      have := ref21_Check.loop h h1 hn log.length 0 (by omega)
      rw [show ((0 : Nat) : Int) = 0 from rfl, List.take_zero, List.append_nil, List.drop_zero] at this
      exact this
    · simp only [if_neg h1]; rfl
  · simp only [if_neg h]; rfl

theorem small_v {v : Int} {L : List (List Int)} (h : small v L) (hv : in64 v) : v ≤ 4001 := by
  rcases h.2.2 with h | h <;> omega

theorem RupTells_pure (v : Int) (l log : List (List Int)) (c : List Int) (hv : okD (.int .i64) v) (hl : okD TLL l) (hg : okD TLL log) (hc : okD TL c) : spiritlevellaw21_RupTells v l log c = some true := by
  obtain ⟨b, h1, h2⟩ := great_eq (v := v) hl hg
  obtain ⟨c1, c2⟩ := okTL hc
  rw [spiritlevellaw21_RupTells.eq, h1, Option.bind_some]
  cases b with
  | true => rfl
  | false =>
    obtain ⟨s1, s2⟩ := h2 rfl
    have e1 := s1.1
    have e2 := s2.1
    rw [cf, cd]
    split
    · rfl
    · rw [rup_Follows_eq (by omega) (small_ranged hl) ⟨c1, c2⟩, Option.bind_some, ref21_Follows_eq (by omega) (small_ranged hl) c1, Option.bind_some, rup_Check_eq (by omega) (small_ranged hl) (small_ranged hg), Option.bind_some,
        ref21_Check_eq (by omega) (small_ranged hl) (small_ranged hg), Option.bind_some]
      simp

/-! ### The examples -/

theorem fol_small {v : Int} {L : List (List Int)} {c : List Int} (h : L.length ≤ 30000 ∧ (c :: L).all (fun c => decide (c.length ≤ 1000) && c.all fun x => decide (in64 x)) = true) : rup_Follows v L c = some (folC v L c) := by
  have h2 := List.all_eq_true.1 h.2
  have hr : ∀ d ∈ c :: L, d.length ≤ 140737488351232 ∧ ∀ x ∈ d, in64 x := fun d hd => by
    have := h2 d hd
    rw [Bool.and_eq_true, decide_eq_true_eq, List.all_eq_true] at this
    exact ⟨by omega, fun x hx => of_decide_eq_true (this.2 x hx)⟩
  exact rup_Follows_eq (by omega) (fun d hd => hr d (List.mem_cons_of_mem _ hd)) (hr c (List.mem_cons_self ..))

theorem chk_small {v : Int} {l m : List (List Int)} (h : l.length + m.length ≤ 30000 ∧ (l ++ m).all (fun c => decide (c.length ≤ 1000) && c.all fun x => decide (in64 x)) = true) : rup_Check v l m = some (chkR v l m) := by
  have h2 := List.all_eq_true.1 h.2
  have hr : ∀ d ∈ l ++ m, d.length ≤ 140737488351232 ∧ ∀ x ∈ d, in64 x := fun d hd => by
    have := h2 d hd
    rw [Bool.and_eq_true, decide_eq_true_eq, List.all_eq_true] at this
    exact ⟨by omega, fun x hx => of_decide_eq_true (this.2 x hx)⟩
  exact rup_Check_eq (by omega) (fun d hd => hr d (List.mem_append_left _ hd)) (fun d hd => hr d (List.mem_append_right _ hd))

theorem ex_eq : spiritlevellaw21_example = some [[2, 4], [2, 5]] := spiritlevellaw21_example.eq

theorem alive21_eq : spiritlevellaw21_alive = some true := by
  have f1 : spiritlevellaw21_follows [2] = some true := by
    rw [spiritlevellaw21_follows.eq, ex_eq, Option.bind_some, fol_small (by decide), Option.bind_some]; decide
  have f2 : spiritlevellaw21_follows [2, 6] = some true := by
    rw [spiritlevellaw21_follows.eq, ex_eq, Option.bind_some, fol_small (by decide), Option.bind_some]; decide
  rw [spiritlevellaw21_alive.eq, ex_eq, Option.bind_some, fol_small (by decide), Option.bind_some, Option.bind_some, app_ok (by decide), Option.bind_some, chk_small (by decide), Option.bind_some, Option.bind_some, app_ok (by decide), Option.bind_some,
    chk_small (by decide), Option.bind_some, f1, Option.bind_some, ct, f2, Option.bind_some, ct]
  decide

theorem RupNames_pure : spiritlevellaw21_RupNames = some true := by
  have hall : ∀ (n : Nat) (c : List Int), (c :: List.replicate n ([] : List Int)).all (fun c => decide (c.length ≤ 1000) && c.all fun x => decide (in64 x)) = (decide (c.length ≤ 1000) && c.all fun x => decide (in64 x)) := fun n c => by
    have h : (List.replicate n ([] : List Int)).all (fun c => decide (c.length ≤ 1000) && c.all fun x => decide (in64 x)) = true := List.all_eq_true.2 fun x hx => by
      have hx := (List.mem_replicate.1 hx).2
      subst hx; rfl
    rw [List.all_cons, h, Bool.and_true]
  have hlen : ((List.replicate 20001 ([] : List Int)).length : Int) = 20001 := by rw [List.length_replicate]; rfl
  have h1 : ∀ v, rup_Follows v (List.replicate 20001 []) [1] = some (folC v (List.replicate 20001 []) [1]) := fun v => fol_small ⟨by rw [List.length_replicate]; omega, by rw [hall]; decide⟩
  have hsub : ∀ k : Nat, k ≤ 20001 → subOf (List.replicate 20001 ([] : List Int)) (Int.toNat 0) (Int.toNat ((k : Int) - 0)) = List.replicate k [] := fun k hk => by
    have : Int.toNat ((k : Int) - 0) = k := by omega
    rw [this]
    simp only [subOf, Int.toNat_zero, List.drop_zero]
    rw [List.take_replicate, Nat.min_eq_left hk]
  have hrep : ∀ a b : Nat, a + b ≤ 30000 → ∀ v, rup_Check v (List.replicate a []) (List.replicate b []) = some (chkR v (List.replicate a []) (List.replicate b [])) := fun a b hab v =>
    chk_small ⟨by rw [List.length_replicate, List.length_replicate]; exact hab, List.all_eq_true.2 fun x hx => by
      have : x = [] := by
        rcases List.mem_append.1 hx with h | h
        · exact (List.mem_replicate.1 h).2
        · exact (List.mem_replicate.1 h).2
      rw [this]; rfl⟩
  have e1 : folC (-1) (List.replicate 20001 []) [1] = (false, 2) := by unfold folC; rw [if_neg (by decide)]
  have e2 : chkR 4001 (List.replicate 20001 []) (List.replicate 0 []) = (0, 2) := by unfold chkR; rw [if_neg (by decide)]
  have e3 : folC 2 (List.replicate 20001 []) [1] = (false, 4) := by unfold folC; rw [if_pos (by decide), if_pos (by rw [List.length_replicate]; omega)]
  have e4 : chkR 2 (List.replicate 10000 []) (List.replicate 10001 []) = (0, 4) := by unfold chkR; rw [if_pos (by decide), if_pos (by rw [List.length_replicate, List.length_replicate]; omega)]
  have c1 : chk (decide (0 ≤ (0 : Int)) && decide ((0 : Int) ≤ 10000) && decide ((10000 : Int) ≤ 20001)) = some () := rfl
  have c2 : chk (decide (0 ≤ (0 : Int)) && decide ((0 : Int) ≤ 10001) && decide ((10001 : Int) ≤ 20001)) = some () := rfl
  have s1 := hsub 10000 (by omega)
  have s2 := hsub 10001 (by omega)
  rw [show ((10000 : Nat) : Int) = 10000 from rfl] at s1
  rw [show ((10001 : Nat) : Int) = 10001 from rfl] at s2
  have r2 := hrep 20001 0 (by omega) 4001
  rw [show List.replicate 0 ([] : List Int) = [] from rfl] at r2 e2
  rw [spiritlevellaw21_RupNames.eq, mkl_ok (by decide) (by decide), Option.bind_some, if_pos rfl, show (20001 : Int).toNat = 20001 from rfl, h1, Option.bind_some, e1, r2, Option.bind_some, e2, h1, Option.bind_some, e3, hlen, c1, Option.bind_some, c2, Option.bind_some,
    s1, s2, hrep 10000 10001 (by omega), Option.bind_some, e4]
  rw [fol_small (by decide), Option.bind_some, fol_small (by decide), Option.bind_some, chk_small (by decide), Option.bind_some, chk_small (by decide), Option.bind_some, chk_small (by decide), Option.bind_some, chk_small (by decide), Option.bind_some,
    chk_small (by decide), Option.bind_some, fol_small (by decide), Option.bind_some, fol_small (by decide), Option.bind_some, alive21_eq, Option.bind_some, ct]
  decide

/-! ### What follows is true -/

theorem follows_true {v : Int} (hv : okV v) {L : List (List Int)} (hL : okL v L) {c : List Int} (hc : okC v c) {W : List Bool} (hm : ∀ c ∈ L, c.any (truth W) = true) (h : fromC v L c = true) : c.any (truth W) = true := by
  apply Classical.byContradiction
  intro hn
  have hf : ∀ l ∈ c, truth W l = false := fun l hl => by
    cases ht : truth W l with
    | false => rfl
    | true => exact absurd (List.any_eq_true.2 ⟨l, hl, ht⟩) hn
  have := (prop_models hL hm (v + 1).toNat (okA_neg hv hc) fun l hl => by
    obtain ⟨x, hx, rfl⟩ := List.mem_map.1 hl
    rw [truth_neg (hc.1 x hx).1, hf x hx]; rfl).1
  unfold fromC confC at h
  have := of_decide_eq_true h
  omega

theorem chkC_bnd {v : Int} : ∀ (r : List (List Int)) (L : List (List Int)) (i : Int), chkC v L i r = -1 ∨ (i ≤ chkC v L i r ∧ chkC v L i r < i + r.length)
  | [], L, i => .inl rfl
  | c :: r, L, i => by
    simp only [chkC, List.length_cons]
    split
    · rcases chkC_bnd r (L ++ [c]) (i + 1) with h | h
      · exact .inl h
      · exact .inr ⟨by omega, by omega⟩
    · exact .inr ⟨by omega, by omega⟩

theorem chkC_true {v : Int} (hv : okV v) {W : List Bool} : ∀ (r : List (List Int)) (L : List (List Int)) (i : Nat), okL v (L ++ r) → (∀ c ∈ L, c.any (truth W) = true) → ∀ (j : Nat) (hj : j < r.length), (chkC v L (i : Int) r < 0 ∨ ((i + j : Nat) : Int) < chkC v L (i : Int) r) → r[j].any (truth W) = true
  | [], L, i, _, _, j, hj, _ => by simp at hj
  | c :: r, L, i, hL, hm, j, hj, hlt => by
    have hL2 := okL_append.1 hL
    have hc := hL2.2 c (List.mem_cons_self ..)
    simp only [chkC] at hlt
    cases hf : fromC v L c with
    | true =>
      have hct := follows_true hv hL2.1 hc hm hf
      rw [hf, if_pos rfl] at hlt
      cases j with
      | zero => exact hct
      | succ j =>
        have hcast : ((i : Int) + 1) = ((i + 1 : Nat) : Int) := by omega
        rw [hcast] at hlt
        have := chkC_true hv r (L ++ [c]) (i + 1) (by rw [List.append_assoc]; exact hL) (fun d hd => by
          rcases List.mem_append.1 hd with hd | hd
          · exact hm d hd
          · rw [List.mem_singleton.1 hd]; exact hct) j (by simpa using hj) (by rw [show i + 1 + j = i + (j + 1) by omega]; exact hlt)
        simpa using this
    | false =>
      rw [hf, if_neg (by simp)] at hlt
      omega

theorem clause_True.loop {v : Int} (hv : okV v) {W : List Bool} (hW : (W.length : Int) = v) {c : List Int} (hc : okC v c) : ∀ (n i : Nat), i + n = c.length → clause_True.l0 W c (c.length : Int) (i : Int) = some ((c.drop i).any (truth W), 0)
  | 0, i, hi => by
    rw [clause_True.l0_eq, cd, if_neg (by omega), List.drop_of_length_le (by omega)]; rfl
  | n + 1, i, hi => by
    have hlt : i < c.length := by omega
    have hcl := hc.len hv
    have hl := hc.1 _ (List.getElem_mem hlt)
    have hw2 : IntKind.wrap .i64 ((i : Int) + 1) = ((i + 1 : Nat) : Int) := by rw [wr] <;> omega
    have hk : (c[i] / 2 - 1).toNat < W.length := by omega
    have hg : geti W (c[i] / 2 - 1) = some (W.getD (c[i] / 2 - 1).toNat false) := by
      rw [gsI (by omega) hk, List.getD_eq_getElem?_getD, List.getElem?_eq_getElem hk, Option.getD_some]
    have hw : IntKind.wrap .i64 (IntKind.wrap .i64 (Int.tdiv c[i] 2) - 1) = c[i] / 2 - 1 := by
      rw [td (by omega) (by omega), wr] <;> omega
    have htr : (W.getD (c[i] / 2 - 1).toNat false == (c[i] % 2 == 0)) = truth W c[i] := by
      unfold truth
      by_cases h : c[i] % 2 = 1
      · rw [if_pos h, h]; cases W.getD (c[i] / 2 - 1).toNat false <;> rfl
      · rw [if_neg h, show c[i] % 2 = 0 by omega]; cases W.getD (c[i] / 2 - 1).toNat false <;> rfl
    rw [clause_True.l0_eq, cd, if_pos (by omega), gsome hlt, Option.bind_some, hw, hg, Option.bind_some, tm (by omega), htr, hw2, clause_True.loop hv hW hc n (i + 1) (by omega), drop_cons hlt, List.any_cons]
    cases truth W c[i] <;> rfl

theorem clause_True_eq {v : Int} (hv : okV v) {W : List Bool} (hW : (W.length : Int) = v) {c : List Int} (hc : okC v c) : clause_True c W = some (c.any (truth W), 0) := by
  have hcl := hc.len hv
  have := clause_True.loop hv hW hc c.length 0 (by omega)
  rw [show ((0 : Nat) : Int) = 0 from rfl, List.drop_zero] at this
  rw [clause_True.eq, clause_Check_eq (by omega) (fun l hl => lit64 hv (hc.1 l hl)), Option.bind_some, hW, if_pos hv, if_pos hc, cn, if_pos rfl, this]

theorem ref19_Fits.loop {v : Int} (hv : okV v) {W : List Bool} (hW : (W.length : Int) = v) {L : List (List Int)} (hL : okL v L) (hn : L.length ≤ 20000) : ∀ (n i : Nat), i + n = L.length → spiritlevelref19_Fits.l0 L W (i : Int) = some ((L.drop i).all (fun c => c.any (truth W)))
  | 0, i, hi => by
    rw [spiritlevelref19_Fits.l0_eq, cd, if_neg (by omega), List.drop_of_length_le (by omega)]; rfl
  | n + 1, i, hi => by
    have hlt : i < L.length := by omega
    have hc := hL _ (List.getElem_mem hlt)
    have hcl := hc.len hv
    have hw2 : IntKind.wrap .i64 ((i : Int) + 1) = ((i + 1 : Nat) : Int) := by rw [wr] <;> omega
    rw [spiritlevelref19_Fits.l0_eq, cd, if_pos (by omega), gsome hlt, Option.bind_some, ref13_Holds_eq hv hW hc.1 (by omega), Option.bind_some, cnot, hw2, ref19_Fits.loop hv hW hL hn n (i + 1) (by omega), drop_cons hlt, List.all_cons]
    cases L[i].any (truth W) <;> rfl

theorem ref19_Fits_eq {v : Int} (hv : okV v) {W : List Bool} (hW : (W.length : Int) = v) {L : List (List Int)} (hL : okL v L) (hn : L.length ≤ 20000) : spiritlevelref19_Fits L W = some (L.all (fun c => c.any (truth W))) := by
  rw [spiritlevelref19_Fits.eq]
  have := ref19_Fits.loop hv hW hL hn L.length 0 (by omega)
  rw [show ((0 : Nat) : Int) = 0 from rfl, List.drop_zero] at this
  exact this

theorem RupTrue.l1 {v : Int} (hv : okV v) {l log : List (List Int)} {c : List Int} {is : Bool} {n : Int} {W : List Bool} (hW : (W.length : Int) = v) (hlog : okL v log) (hn : log.length ≤ 60) {R : Nat} (hR : R ≤ log.length) (ht : ∀ (j : Nat) (hj : j < log.length), j < R → log[j].any (truth W) = true) :
    ∀ (m i : Nat), i + m = R → spiritlevellaw21_RupTrue.l1 v l log c true is (R : Int) n (i : Int) W = spiritlevellaw21_RupTrue.l0 v l log c true is (R : Int) (IntKind.wrap .i64 (n + 1))
  | 0, i, hi => by rw [spiritlevellaw21_RupTrue.l1_eq, cd, if_neg (by omega)]
  | m + 1, i, hi => by
    have hlt : i < log.length := by omega
    have hw2 : IntKind.wrap .i64 ((i : Int) + 1) = ((i + 1 : Nat) : Int) := by rw [wr] <;> omega
    rw [spiritlevellaw21_RupTrue.l1_eq, cd, if_pos (by omega), gsome hlt, Option.bind_some, clause_True_eq hv hW (hlog _ (List.getElem_mem hlt)), Option.bind_some, cn, if_pos rfl, ht i hlt (by omega), Bool.not_true, cf, hw2]
    exact RupTrue.l1 hv hW hlog hn hR ht m (i + 1) (by omega)

theorem shl_small21 {v : Int} (h : 0 ≤ v ∧ v ≤ 8) : bshl .i64 1 v ≤ 256 := by
  have : v = 0 ∨ v = 1 ∨ v = 2 ∨ v = 3 ∨ v = 4 ∨ v = 5 ∨ v = 6 ∨ v = 7 ∨ v = 8 := by omega
  rcases this with h | h | h | h | h | h | h | h | h <;> subst h <;> decide

theorem RupTrue.l0 {v : Int} (hv : okV v) (hv8 : v ≤ 8) {l log : List (List Int)} {c : List Int} (hL : okL v (l ++ log)) (hc : okC v c) (hl : l.length ≤ 60) (hn : log.length ≤ 60) {R : Nat} (hR : R ≤ log.length)
    (hat : chkC v l 0 log < 0 ∨ (R : Int) ≤ chkC v l 0 log) : ∀ (m n : Nat), n + m = 256 → spiritlevellaw21_RupTrue.l0 v l log c true (fromC v l c) (R : Int) (n : Int) = some true := by
  have hu : IntKind.wrap .u64 v = v := by
    have : v = 0 ∨ v = 1 ∨ v = 2 ∨ v = 3 ∨ v = 4 ∨ v = 5 ∨ v = 6 ∨ v = 7 ∨ v = 8 := by omega
    rcases this with h | h | h | h | h | h | h | h | h <;> subst h <;> decide
  have hb := shl_small21 (v := v) ⟨hv.1, hv8⟩
  have hL2 := okL_append.1 hL
  intro m
  induction m with
  | zero =>
    intro n hn
    rw [spiritlevellaw21_RupTrue.l0_eq, hu, cd, if_neg (by omega), cd, if_neg (by omega)]
  | succ m ih =>
    intro n hnm
    rw [spiritlevellaw21_RupTrue.l0_eq, hu, cd, if_neg (by omega), cd]
    split
    · have hw2 : IntKind.wrap .i64 ((n : Int) + 1) = ((n + 1 : Nat) : Int) := by rw [wr] <;> omega
      obtain ⟨W, w1, w2⟩ := ref13_Values_ok hv (n := (n : Int)) (by unfold in64; omega)
      rw [w1, Option.bind_some, ref19_Fits_eq hv w2 hL2.1 (by omega), Option.bind_some, cnot, hw2]
      cases hm : l.all (fun c => c.any (truth W)) with
      | false => rw [cf]; exact ih (n + 1) (by omega)
      | true =>
        rw [List.all_eq_true] at hm
        have hl1 := RupTrue.l1 (l := l) (c := c) (is := fromC v l c) (n := (n : Int)) hv w2 hL2.2 hn hR (fun j hj hjR => chkC_true hv log l 0 hL hm j hj (by
          rcases hat with h | h
          · exact .inl h
          · exact .inr (by rw [show ((0 : Nat) : Int) = 0 from rfl]; omega))) R 0 (by omega)
        rw [show ((0 : Nat) : Int) = 0 from rfl, hw2, ih (n + 1) (by omega)] at hl1
        rw [ct]
        cases hf : fromC v l c with
        | false => rw [hf] at hl1; rw [cf]; exact hl1
        | true =>
          rw [hf] at hl1
          rw [ct, clause_True_eq hv w2 hc, Option.bind_some, cn, if_pos rfl, follows_true hv hL2.1 hc hm hf, Bool.not_true, cf]
          exact hl1
    · rfl

theorem RupTrue_pure (v : Int) (l log : List (List Int)) (c : List Int) (hv : okD (.int .i64) v) (hl : okD TLL l) (hg : okD TLL log) (hc : okD TL c) : spiritlevellaw21_RupTrue v l log c = some true := by
  obtain ⟨b, h1, h2⟩ := great_eq (v := v) hl hg
  obtain ⟨c1, c2⟩ := okTL hc
  rw [spiritlevellaw21_RupTrue.eq, alive21_eq, Option.bind_some, h1, Option.bind_some]
  cases b with
  | true => rfl
  | false =>
    obtain ⟨s1, s2⟩ := h2 rfl
    have e1 := s1.1
    have e2 := s2.1
    rw [cf, cd]
    by_cases g1 : v > 8
    · rw [if_pos g1]
    · rw [if_neg g1, ref21_Asked_eq (by omega) (small_ranged hl) (small_ranged hg), Option.bind_some, cn]
      by_cases hV : okV v
      · rw [if_pos hV]
        by_cases hL : okL v (l ++ log)
        · rw [if_pos hL, if_pos rfl, ref13_Check_eq c1, Option.bind_some, cn, if_pos hV]
          by_cases hcc : okC v c
          · have hL2 := okL_append.1 hL
            rw [if_pos hcc, if_pos rfl, cnot, ct, rup_Follows_eq (by omega) (small_ranged hl) ⟨c1, c2⟩, Option.bind_some, rup_Check_eq (by omega) (small_ranged hl) (small_ranged hg), Option.bind_some]
            have hfol : folC v l c = (fromC v l c, 0) := by unfold folC; rw [if_pos hV, if_neg (by omega), if_pos hL2.1, if_pos hcc]
            have hchk : chkR v l log = (chkC v l 0 log, 0) := by unfold chkR; rw [if_pos hV, if_neg (by omega), if_pos hL]
            rw [hfol, hchk]
            simp only [cn, if_true]
            have hb := chkC_bnd (v := v) log l 0
            rw [cd, if_neg (by omega), cd, if_neg (by omega), cd]
            by_cases hat : chkC v l 0 log ≥ 0
            · rw [if_pos hat]
              obtain ⟨R, hR⟩ : ∃ R : Nat, chkC v l 0 log = (R : Int) := ⟨(chkC v l 0 log).toNat, by omega⟩
              rw [hR]
              exact RupTrue.l0 hV (by omega) hL hcc e1 e2 (by omega) (.inr (by omega)) 256 0 rfl
            · rw [if_neg hat]
              exact RupTrue.l0 hV (by omega) hL hcc e1 e2 (Nat.le_refl _) (.inl (by omega)) 256 0 rfl
          · rw [if_neg hcc, if_neg (by omega)]
        · rw [if_neg hL, if_neg (by omega)]
      · rw [if_neg hV, if_neg (by omega)]

end Go.Proofs.Ytdojdblncegjcaa
