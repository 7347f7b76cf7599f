/- . -/
import Derived.Test.YthbkhndapkbgbaaGreatPS3
namespace Go.Proofs.YthbkhndapkbgbaaGreat
open Go Go.Proofs.YthbkhndapkbgbaaGreat.R
set_option linter.unusedVariables false

theorem solve_check.loop {v : Int} (hv : okV v) {L : List (List Int)} (hn : L.length ≤ 100000) (hr : ∀ c ∈ L, c.length ≤ 140737488351232 ∧ ∀ x ∈ c, in64 x) : ∀ (n i : Nat), i + n = L.length → solve_check.l0 v L (L.length : Int) (i : Int) = some (if okL v (L.drop i) then 0 else 8)
  | 0, i, hi => by
    rw [solve_check.l0_eq, cd, if_neg (by omega), if_pos]
    rw [List.drop_of_length_le (by omega)]
    intro c hc; cases hc
  | n + 1, i, hi => by
    have hlt : i < L.length := by omega
    have hw : IntKind.wrap .i64 ((i : Int) + 1) = ((i + 1 : Nat) : Int) := by rw [wr] <;> omega
    obtain ⟨h1, h2⟩ := hr _ (List.getElem_mem hlt)
    rw [solve_check.l0_eq, cd, if_pos (by omega), gsome hlt, Option.bind_some, clause_Check_eq h1 h2, Option.bind_some, if_pos hv, cn, hw, solve_check.loop hv hn hr n (i + 1) (by omega), drop_cons hlt]
    by_cases hc : okC v L[i]
    · rw [if_pos hc, if_pos rfl]
      by_cases h3 : okL v (L.drop (i + 1))
      · rw [if_pos h3, if_pos]
        intro d hd
        rcases List.mem_cons.1 hd with h | h
        · rw [h]; exact hc
        · exact h3 d h
      · rw [if_neg h3, if_neg (fun h => h3 fun d hd => h d (List.mem_cons_of_mem _ hd))]
    · rw [if_neg hc, if_neg (by omega), if_neg (fun h => hc (h _ (List.mem_cons_self ..)))]

theorem solve_check_eq {v : Int} (hv : okV v) {L : List (List Int)} (hn : L.length ≤ 100000) (hr : ∀ c ∈ L, c.length ≤ 140737488351232 ∧ ∀ x ∈ c, in64 x) : solve_check v L = some (if L.length > 20000 then 4 else if okL v L then 0 else 8) := by
  have := solve_check.loop hv hn hr L.length 0 (by omega)
  rw [show ((0 : Nat) : Int) = 0 from rfl, List.drop_zero] at this
  rw [solve_check.eq, cd]
  by_cases h : L.length > 20000
  · rw [if_pos (by omega), if_pos h]
  · rw [if_neg (by omega), if_neg h, this]

section
variable {v : Int} {L log : List (List Int)} {t s : List Int} {k : Int}

theorem solve_fail.loop (h : okA v t s) {b : Bool} {m : List Bool} {co : List Int} : ∀ (n i : Nat), i + n = s.length →
    solve_solver_fail.l0 (s.length : Int) (i : Int) v v b k log co m s t L ((List.range i).map (dc t s)) = solve_solver_fail.l0 (s.length : Int) (s.length : Int) v v b k log co m s t L (decs t s)
  | 0, i, hi => by
    have : i = s.length := by omega
    subst this; rfl
  | n + 1, i, hi => by
    have hlt : i < s.length := by omega
    have hv := h.vars
    have hsh := h.short
    have hw : IntKind.wrap .i64 ((i : Int) + 1) = ((i + 1 : Nat) : Int) := by rw [wr] <;> omega
    obtain ⟨j, hj, h1, e1⟩ := dc_at h hlt
    rw [← solve_fail.loop h n (i + 1) (by omega), solve_solver_fail.l0_eq (x17 := (i : Int)), cd, if_pos (by omega), gsome hlt, Option.bind_some, Int.toNat_natCast, List.getElem?_eq_getElem hlt, Option.bind_some, h1, gsome hj, Option.bind_some, Int.toNat_natCast,
      List.getElem?_eq_getElem hj, Option.bind_some, app_ok (by simp; omega), Option.bind_some, hw, List.range_succ, List.map_append, List.map_singleton, e1]

theorem solve_learn_eq {a b : Int} {bo : Bool} {m : List Bool} {co c : List Int} (h1 : L.length ≤ 20000) (h2 : log.length ≤ 20000) : solve_solver_learn a L b t s bo m co log k c = some (a, (L ++ [c], ((b, (t, s)), (bo, (m, (co, (log ++ [c], k))))))) := by
  rw [solve_solver_learn.eq, app_ok (by simp; omega), Option.bind_some, app_ok (by simp; omega), Option.bind_some]

theorem lrn_nil : lrnC v L [] = [] := by
  unfold lrnC
  obtain ⟨p1, _⟩ := sortI_spec (([] : List Int).map neg)
  exact List.eq_nil_of_length_eq_zero (by simpa [shr] using p1.length_eq)

theorem solve_fail_eq (h : okA v t s) (hL : okL v L) (hn : L.length < 20000) (hlog : log.length ≤ 20000) (hk : 0 ≤ k ∧ k ≤ 1000000) (hc : confC v L (decs t s) = true) {c : List Int} (hce : c = lrnC v L (decs t s)) (hcok : okC v c)
    {t' s' : List Int} (hb : c ≠ [] → jbackC v t s c = ((v, (t', s')), 0)) :
    solve_solver_fail v L v t s false [] [] log k = if c = [] then some (false, 0, (v, (L ++ [[]], ((v, (t, s)), (false, ([], ([], (log ++ [[]], k)))))))) else some (true, 0, (v, (L ++ [c], ((v, (t', s')), (false, ([], ([], (log ++ [c], k + 1)))))))) := by
  have hv := h.vars
  have hsh := h.short
  have ht64 : ∀ l ∈ t, in64 l := fun l hl => by have := h.lits l hl; omega
  have g := solve_fail.loop (L := L) (log := log) (k := k) (b := false) (m := []) (co := []) h s.length 0 (by omega)
  rw [show ((0 : Nat) : Int) = 0 from rfl] at g
  have e0 : solve_solver_fail v L v t s false [] [] log k = _ := (solve_solver_fail.eq ..).trans g
  have hD := okA_decs h
  have hdl : (decs t s).length = s.length := by simp [decs]
  rw [e0, solve_solver_fail.l0_eq, cd, if_neg (by omega), cd]
  by_cases hs : s.length = 0
  · have hd0 : decs t s = [] := List.eq_nil_of_length_eq_zero (by omega)
    have hc0 : c = [] := by rw [hce, hd0]; exact lrn_nil
    rw [if_neg (by omega), ce, if_neg (by omega), ce, if_pos (by simp), solve_learn_eq (by omega) hlog, Option.bind_some, if_pos hc0]
  · rw [if_pos (by omega), learn_Clause_eq hD hL (by omega) hc, Option.bind_some, ← hce]
    dsimp only
    rw [cn, if_pos rfl, ce, if_neg (by omega), ce]
    by_cases hc0 : c = []
    · rw [if_pos (by rw [hc0]; rfl), if_pos hc0, solve_learn_eq (by omega) hlog, Option.bind_some]
    · have hcl : ¬ (c.length : Int) = 0 := fun e => hc0 (List.eq_nil_of_length_eq_zero (by omega))
      have hc64 : ∀ l ∈ c, in64 l := fun l hl => by have := hcok.1 l hl; omega
      have hcs := hcok.short hv
      have hw : IntKind.wrap .i64 (k + 1) = k + 1 := by rw [wr] <;> omega
      rw [if_neg hcl, if_neg hc0, jump_Back_eq (by omega) (by omega) ht64 (by omega) hc64, Option.bind_some, hb hc0]
      dsimp only
      rw [cn, if_pos rfl, hw, solve_learn_eq (by omega) hlog, Option.bind_some]

theorem next_lf (h : okA v t s) : (lf v t = 0 ∧ ∃ a b, nextC (allL v.toNat) v t s = (a, b, 6)) ∨ (lf v t ≠ 0 ∧ ∃ r, nextC (allL v.toNat) v t s = (lf v t, r, 0)) := by
  have hv := h.vars
  have hH := allL_okH (n := v.toNat) (by omega)
  have hC : nextC (allL v.toNat) v t s = nextL v t ((allL v.toNat).length + 1) (allL v.toNat) := by unfold nextC; rw [if_pos hH, if_pos h]
  rw [hC]
  rcases nextL_spec (v := v) (t := t) ((allL v.toNat).length + 1) hH (by omega) with ⟨h1, h2⟩ | ⟨m, r, h1, h2, h3, h4, h5, h6, h7⟩ <;> rcases lf_spec (v := v) (by omega) t with ⟨g1, g2⟩ | ⟨g1, g2, g3, g4⟩
  · exact .inl ⟨g1, _, _, h2⟩
  · exact absurd ((free_iff g2).2 g3) (h1 _ (allL_mem.2 (by omega)))
  · have hm := allL_mem.1 h3
    exact absurd ((free_iff (by omega)).1 h4) (g2 m hm.1 (by omega))
  · have hm := allL_mem.1 h3
    have a1 := h5 (lf v t) (allL_mem.2 (by omega)) ((free_iff g2).2 g3)
    have a2 : ¬ m < lf v t := fun hlt => g4 m hm.1 hlt ((free_iff (by omega)).1 h4)
    have : m = lf v t := by omega
    subst this
    exact .inr ⟨by omega, r, h1⟩

theorem solve_choose_eq {bo : Bool} {m : List Bool} {co : List Int} (h : okA v t s) : solve_solver_choose v L v t s bo m co log k (allL v.toNat) = if lf v t = 0 then some (false, (v, (L, ((v, (t, s)), (bo, (m, (co, (log, k)))))))) else
    some (true, (v, (L, ((v, (t ++ [2 * lf v t + 1], s ++ [(t.length : Int)])), (bo, (m, (co, (log, k)))))))) := by
  have hv := h.vars
  have hsh := h.short
  have ht64 : ∀ l ∈ t, in64 l := fun l hl => by have := h.lits l hl; omega
  rw [solve_solver_choose.eq, decide_Next_eq (by omega) (by omega) ht64, Option.bind_some]
  rcases next_lf h with ⟨h1, a, b, h2⟩ | ⟨h1, r, h2⟩
  · rw [h2, if_pos h1]
    dsimp only
    rw [cn, if_neg (by omega)]
  · rw [h2, if_neg h1]
    have hb := (lf_spec (v := v) (by omega) t).resolve_left fun h => h1 h.1
    have hw : IntKind.wrap .i64 (IntKind.wrap .i64 (2 * lf v t) + 1) = 2 * lf v t + 1 := by rw [wr (x := 2 * lf v t) (by omega) (by omega), wr (by omega) (by omega)]
    dsimp only
    rw [cn, if_pos rfl, app_ok (by simp; omega), Option.bind_some, hw, app_ok (by simp; omega), Option.bind_some]

theorem mdl_take {T : List Int} (h : okA v T s) {i : Nat} (hi : i < T.length) : mdl v (T.take (i + 1)) = (mdl v (T.take i)).set (T[i] / 2 - 1).toNat (decide (T[i] % 2 = 0)) := by
  have hl := h.lits _ (List.getElem_mem hi)
  refine List.ext_getElem (by simp [mdl_len]) fun j h1 h2 => ?_
  rw [mdl_len] at h1
  have e : ∀ {T : List Int} (hj : j < (mdl v T).length), (mdl v T)[j] = decide (2 * ((j : Int) + 1) ∈ T) := fun hj => by simp [mdl]
  rw [e, List.getElem_set]
  have hmem : ∀ x, x ∈ T.take (i + 1) ↔ x ∈ T.take i ∨ x = T[i] := fun x => by rw [List.take_add_one, List.getElem?_eq_getElem hi, List.mem_append, Option.toList_some, List.mem_singleton]
  by_cases hj : (T[i] / 2 - 1).toNat = j
  · rw [if_pos hj, decide_eq_decide, hmem]
    constructor
    · rintro (hx | hx)
      · exfalso
        obtain ⟨q, hq, e1⟩ := List.mem_iff_getElem.1 hx
        rw [List.length_take] at hq
        rw [List.getElem_take] at e1
        have := (List.pairwise_iff_getElem.1 h.dis) q i (by omega) hi (by omega)
        omega
      · omega
    · intro hx
      right; omega
  · rw [if_neg hj, e, decide_eq_decide, hmem]
    constructor
    · rintro (hx | hx)
      · exact hx
      · omega
    · exact .inl

theorem solve_model.loop {T : List Int} (h : okA v T s) {a : Int} {bo : Bool} {co : List Int} : ∀ (n i : Nat), i + n = T.length →
    solve_solver_model.l0 (T.length : Int) (i : Int) a v bo k log co [] s T L (mdl v (T.take i)) = some (a, (L, ((v, (T, s)), (bo, (mdl v T, (co, (log, k)))))))
  | 0, i, hi => by
    rw [solve_solver_model.l0_eq, cd, if_neg (by omega), List.take_of_length_le (by omega)]
  | n + 1, i, hi => by
    have hlt : i < T.length := by omega
    have hv := h.vars
    have hsh := h.short
    have hl := h.lits _ (List.getElem_mem hlt)
    have hw : IntKind.wrap .i64 ((i : Int) + 1) = ((i + 1 : Nat) : Int) := by rw [wr] <;> omega
    have hw2 : IntKind.wrap .i64 (IntKind.wrap .i64 (Int.tdiv T[i] 2) - 1) = T[i] / 2 - 1 := by rw [td (by omega) (by omega), wr (by omega) (by omega)]
    have hlen : (mdl v (T.take i)).length = v.toNat := mdl_len
    have hidx : (T[i] / 2 - 1).toNat < (mdl v (T.take i)).length := by omega
    have e1 : (T[i] % 2 == 0) = decide (T[i] % 2 = 0) := by rw [Bool.eq_iff_iff]; simp
    rw [solve_solver_model.l0_eq, cd, if_pos (by omega), gsome hlt, Option.bind_some, Int.toNat_natCast, List.getElem?_eq_getElem hlt, Option.bind_some, hw2, gi' (by omega), List.getElem?_eq_getElem hidx, Option.bind_some, Option.bind_some, hw, tm (by omega), e1, ← mdl_take h hlt,
      solve_model.loop h n (i + 1) (by omega)]

theorem solve_model_eq {T : List Int} (h : okA v T s) : solve_solver_model v L v T s false [] [] log k = some (v, (L, ((v, (T, s)), (true, (mdl v T, ([], (log, k))))))) := by
  have hv := h.vars
  have g := solve_model.loop (L := L) (log := log) (k := k) (a := v) (bo := true) (co := []) h T.length 0 (by omega)
  have h0 : mdl v (T.take 0) = List.replicate v.toNat false := by
    refine List.ext_getElem (by simp [mdl_len]) fun j h1 h2 => ?_
    simp [mdl]
  rw [h0, show ((0 : Nat) : Int) = 0 from rfl] at g
  rw [solve_solver_model.eq, mkl_ok (by omega) (by omega), Option.bind_some, if_pos rfl, g]

end


abbrev Ans := (Bool × List Bool × List Int × List (List Int) × Int) × Int
def ans0 : Bool × List Bool × List Int × List (List Int) × Int := (false, [], [], [], 0)
def ansR (v : Int) (r : Bool × List Int × List (List Int) × Nat) : Bool × List Bool × List Int × List (List Int) × Int := (r.1, if r.1 then mdl v r.2.1 else [], [], r.2.2.1, (r.2.2.2 : Int))
def ansC (v b : Int) (r : Bool × List Int × List (List Int) × Nat) : Ans := if (r.2.2.2 : Int) ≤ b then (ansR v r, 0) else (ans0, 55)

theorem solve_Run.loop1 {v b : Int} {L0 : List (List Int)} {b0 : Bool} {b1 : Int} {o2 : List Bool} {o3 : List Int} {o4 : List (List Int)} (hlim : L0.length + 2 ^ v.toNat ≤ 20000) : ∀ (n : Nat) {t s : List Int} {log : List (List Int)}, Inv v L0 t s log → meas v t s < n → (log.length : Int) ≤ b →
    solve_Run.l1 b (allL v.toNat) b0 b1 v v false (log.length : Int) o2 o3 o4 (L0 ++ log) t s [] [] log = some (ansC v b (sol v n (L0 ++ log) t s log))
  | 0, t, s, log, h, hn, hb => by omega
  | n + 1, t, s, log, h, hn, hb => by
    have hv := h.a.vars
    have hsh := h.a.short
    have hP := h.prop.1
    have htop : log.length + 1 ≤ 2 ^ v.toNat := by have := h.mes; have := mes_top h.a; omega
    have hll : (L0 ++ log).length < 20000 := by rw [List.length_append]; omega
    have ht64 : ∀ l ∈ t, in64 l := fun l hl => by have := h.a.lits l hl; omega
    have hr : ∀ c ∈ L0 ++ log, c.length ≤ 140737488351232 ∧ ∀ x ∈ c, in64 x := fun c hc => ⟨by have := (h.ok c hc).len hv; omega, fun x hx => lit64 hv ((h.ok c hc).1 x hx)⟩
    have hrun : runC v t s (L0 ++ log) = ((v, (propC (L0 ++ log) (v + 1).toNat t).1, s), (propC (L0 ++ log) (v + 1).toNat t).2, 0) := by
      unfold runC
      rw [if_pos h.a, if_neg (by omega), if_pos h.ok]
    rw [solve_Run.l1_eq, unit_Run_eq (by omega) (by omega) ht64 (by omega) hr, Option.bind_some, hrun]
    dsimp only
    rw [cn, if_pos rfl, cd]
    unfold sol
    by_cases hat : 0 ≤ (propC (L0 ++ log) (v + 1).toNat t).2
    · rw [if_pos hat, if_pos hat]
      obtain ⟨f1, f2, f3⟩ := h.fail hat rfl
      have hcf := h.conf hat
      by_cases hc : lrnC v (L0 ++ log) (decs (propC (L0 ++ log) (v + 1).toNat t).1 s) = []
      · rw [solve_fail_eq (t' := []) (s' := []) hP.a h.ok hll (by rw [List.length_append] at hll; omega) ⟨by omega, by omega⟩ hcf rfl f1 (fun hne => absurd hc hne), if_pos hc, if_pos hc, Option.bind_some]
        dsimp only
        rw [ce, if_pos rfl, cd, if_neg (by omega), cn, if_pos rfl, cnot, cf]
        unfold ansC ansR
        rw [if_pos hb]
        rfl
      · obtain ⟨t', s', e1, e2, e3⟩ := f3 hc
        rw [solve_fail_eq hP.a h.ok hll (by rw [List.length_append] at hll; omega) ⟨by omega, by omega⟩ hcf rfl f1 (fun _ => e1), if_neg hc, if_neg hc, Option.bind_some, e1]
        dsimp only
        rw [ce, if_pos rfl, cd]
        by_cases hov : (log.length : Int) + 1 > b
        · rw [if_pos hov, cn, if_neg (by omega)]
          unfold ansC
          have := sol_conf (v := v) n (L0 ++ log ++ [lrnC v (L0 ++ log) (decs (propC (L0 ++ log) (v + 1).toNat t).1 s)]) t' s' (log ++ [lrnC v (L0 ++ log) (decs (propC (L0 ++ log) (v + 1).toNat t).1 s)])
          rw [List.length_append (bs := [_]), List.length_singleton] at this
          rw [if_neg (by omega)]
          rfl
        · rw [if_neg hov, cn, if_pos rfl, cnot, ct]
          have := solve_Run.loop1 (b := b) (b0 := b0) (b1 := b1) (o2 := o2) (o3 := o3) (o4 := o4) hlim n e2 (by omega) (by rw [List.length_append, List.length_singleton]; omega)
          rw [← List.append_assoc, List.length_append (bs := [_]), List.length_singleton, Int.natCast_add] at this
          exact this
    · rw [if_neg hat, if_neg hat, solve_choose_eq hP.a]
      by_cases hl : lf v (propC (L0 ++ log) (v + 1).toNat t).1 = 0
      · rw [if_pos hl, if_pos hl, Option.bind_some]
        dsimp only
        rw [cnot, cf, solve_model_eq hP.a, Option.bind_some]
        unfold ansC ansR
        rw [if_pos hb]
        rfl
      · obtain ⟨e1, e2⟩ := h.choose hl
        rw [if_neg hl, if_neg hl, Option.bind_some]
        dsimp only
        rw [cnot, ct]
        exact solve_Run.loop1 hlim n e1 (by omega) hb

def solR (v : Int) (L : List (List Int)) : Bool × List Int × List (List Int) × Nat := sol v (meas v [] [] + 1) L [] [] []

theorem inv0 {v : Int} (hv : okV v) {L : List (List Int)} (hL : okL v L) : Inv v L [] [] [] where
  ok := by rw [List.append_nil]; exact hL
  a := ⟨hv, by simp, List.Pairwise.nil, List.Pairwise.nil, by simp⟩
  led := LedK.empty hv
  dec := Dec.empty
  chain := fun i hi => by simp at hi
  full := by simp
  mes := Nat.zero_le _

theorem solR_ok {v : Int} (hv : okV v) {L : List (List Int)} (hL : okL v L) : AnsOk v L (solR v L) := by
  have := sol_ok (meas v [] [] + 1) (inv0 hv hL) (Nat.lt_succ_self _)
  rwa [List.append_nil] at this

theorem solve_Run.loop0 {v b : Int} (hv : okV v) {b0 b1_2 : Bool} {b1 b2 b3 b4 : Int} {o3 o8 : List Bool} {o4 o7 o9 : List Int} {o5 o6 o10 : List (List Int)} {o11 : List Int} : ∀ (n k : Nat), (k : Int) + n = v →
    solve_Run.l0 v b ((k + 1 : Nat) : Int) b0 b1 b2 b3 b1_2 b4 (allL k) o3 o4 o5 o6 o7 o11 o8 o9 o10 = solve_Run.l1 b (allL v.toNat) b0 b1 b2 b3 b1_2 b4 o3 o4 o5 o6 o7 o11 o8 o9 o10
  | 0, k, hk => by
    have e : v.toNat = k := by omega
    rw [solve_Run.l0_eq, cd, if_neg (by omega), e]
  | n + 1, k, hk => by
    have hl : ((allL k).length : Int) = k := by rw [allL_len]
    rw [solve_Run.l0_eq, cd, if_pos (by omega), app_ok (by simp; omega), Option.bind_some, suc_w (by omega), ← solve_Run.loop0 hv n (k + 1) (by omega), allL_succ]
    rfl

theorem solve_Run_eq {v b : Int} (hv : okV v) (hb : 0 ≤ b ∧ b ≤ 100000) {L : List (List Int)} (hL : okL v L) (hlim : L.length + 2 ^ v.toNat ≤ 20000) : solve_Run v L b = some (ansC v b (solR v L)) := by
  have hr : ∀ c ∈ L, c.length ≤ 140737488351232 ∧ ∀ x ∈ c, in64 x := fun c hc => ⟨by have := (hL c hc).len hv; omega, fun x hx => lit64 hv ((hL c hc).1 x hx)⟩
  have hN : L.length ≤ 20000 := Nat.le_trans (Nat.le_add_right _ _) hlim
  have g0 := solve_Run.loop0 (b := b) (b0 := false) (b1 := 0) (b2 := v) (b3 := v) (b1_2 := false) (b4 := 0) (o3 := []) (o4 := []) (o5 := []) (o6 := L) (o7 := []) (o11 := []) (o8 := []) (o9 := []) (o10 := []) hv v.toNat 0 (by omega)
  have g1 := solve_Run.loop1 (b := b) (b0 := false) (b1 := 0) (o2 := []) (o3 := []) (o4 := []) hlim (meas v [] [] + 1) (inv0 hv hL) (Nat.lt_succ_self _) (by simpa using hb.1)
  rw [List.append_nil] at g1
  rw [solve_Run.eq, cd, if_neg (by omega), cd, if_neg (by omega), cd, if_neg (by omega), cd, if_neg (by omega), solve_check_eq hv (by omega) hr, Option.bind_some, if_neg (by omega), if_pos hL, cn, if_pos rfl, app_nil (by omega), Option.bind_some]
  exact g0.trans g1

end Go.Proofs.YthbkhndapkbgbaaGreat
