/- The functions of the solver under assumptions: what they answer, of plain values. -/
import Derived.Test.YthbkhndapkbgbaaGreatPU2
namespace Go.Proofs.YthbkhndapkbgbaaGreat
open Go Go.Proofs.YthbkhndapkbgbaaGreat.R
set_option linter.unusedVariables false

theorem assume_check.loop {v : Int} (hv : okV v) {L : List (List Int)} {A : List Int} (hn : L.length ≤ 100000) (hr : ∀ c ∈ L, c.length ≤ 140737488351232 ∧ ∀ x ∈ c, in64 x) (hA : A.length ≤ 140737488351232) (hA64 : ∀ x ∈ A, in64 x) :
    ∀ (n i : Nat), i + n = L.length → assume_check.l0 v A L (L.length : Int) (i : Int) = some (if okL v (L.drop i) ∧ okA v A [] then 0 else 8)
  | 0, i, hi => by
    rw [assume_check.l0_eq, cd, if_neg (by omega), List.drop_of_length_le (by omega), assign_Check_eq hA (by simp) hA64, Option.bind_some, cn]
    have hnil : okL v [] := fun c hc => by cases hc
    by_cases h : okA v A []
    · rw [if_pos h, if_pos rfl, if_pos ⟨hnil, h⟩]
    · rw [if_neg h, if_neg (by omega), if_neg (fun g => h g.2)]
  | n + 1, i, hi => by
    have hlt : i < L.length := by omega
    have hw : IntKind.wrap .i64 ((i : Int) + 1) = ((i + 1 : Nat) : Int) := by rw [wr] <;> omega
    obtain ⟨h1, h2⟩ := hr _ (List.getElem_mem hlt)
    rw [assume_check.l0_eq, cd, if_pos (by omega), gsome hlt, Option.bind_some, clause_Check_eq h1 h2, Option.bind_some, if_pos hv, cn, hw, assume_check.loop hv hn hr hA hA64 n (i + 1) (by omega), drop_cons hlt]
    by_cases hc : okC v L[i]
    · rw [if_pos hc, if_pos rfl]
      by_cases h3 : okL v (L.drop (i + 1)) ∧ okA v A []
      · rw [if_pos h3, if_pos]
        refine ⟨fun d hd => ?_, h3.2⟩
        rcases List.mem_cons.1 hd with h | h
        · rw [h]; exact hc
        · exact h3.1 d h
      · rw [if_neg h3, if_neg (fun h => h3 ⟨fun d hd => h.1 d (List.mem_cons_of_mem _ hd), h.2⟩)]
    · rw [if_neg hc, if_neg (by omega), if_neg (fun h => hc (h.1 _ (List.mem_cons_self ..)))]

theorem assume_check_eq {v b : Int} {L : List (List Int)} {A : List Int} (hn : L.length ≤ 100000) (hr : ∀ c ∈ L, c.length ≤ 140737488351232 ∧ ∀ x ∈ c, in64 x) (hA : A.length ≤ 140737488351232) (hA64 : ∀ x ∈ A, in64 x) :
    assume_check v L A b = some (if v < 0 ∨ v > 4000 ∨ b < 0 ∨ b > 100000 then 2 else if L.length > 20000 then 4 else if okL v L ∧ okA v A [] then 0 else 8) := by
  rw [assume_check.eq, cd]
  by_cases h1 : v < 0
  · rw [if_pos h1, if_pos (.inl h1)]
  rw [if_neg h1, cd]
  by_cases h2 : v > 4000
  · rw [if_pos h2, if_pos (.inr (.inl h2))]
  rw [if_neg h2, cd]
  by_cases h3 : b < 0
  · rw [if_pos h3, if_pos (.inr (.inr (.inl h3)))]
  rw [if_neg h3, cd]
  by_cases h4 : b > 100000
  · rw [if_pos h4, if_pos (.inr (.inr (.inr h4)))]
  rw [if_neg h4, cd, if_neg (by omega : ¬ (v < 0 ∨ v > 4000 ∨ b < 0 ∨ b > 100000))]
  by_cases h5 : L.length > 20000
  · rw [if_pos (by omega), if_pos h5]
  · have := assume_check.loop (v := v) (by omega) hn hr hA hA64 L.length 0 (by omega)
    rw [show ((0 : Nat) : Int) = 0 from rfl, List.drop_zero] at this
    rw [if_neg (by omega), if_neg h5, this]

section
variable {v : Int} {A H : List Int} {L log : List (List Int)} {t s : List Int} {k : Int}

abbrev SolT := Int × List Int × List Int × List (List Int) × (Int × List Int × List Int) × Bool × List Bool × List Int × List (List Int) × Int
abbrev solT (v : Int) (A H : List Int) (L : List (List Int)) (t s : List Int) (bo : Bool) (m : List Bool) (co : List Int) (log : List (List Int)) (k : Int) : SolT := (v, (A, (H, (L, ((v, (t, s)), (bo, (m, (co, (log, k)))))))))

theorem assume_told_eq {bo : Bool} {m : List Bool} {co c : List Int} (h1 : L.length < 20000) (h2 : log.length ≤ 20000) : assume_solver_told v A H L v t s bo m co log k c = some (0, solT v A H (L ++ [c]) t s bo m co (log ++ [c]) k) := by
  rw [assume_solver_told.eq, ce, if_neg (by omega), app_ok (by simp; omega), Option.bind_some, app_ok (by simp; omega), Option.bind_some]

theorem assume_fail.loop (h : okA v t s) {b : Bool} {m : List Bool} {co o1 : List Int} : ∀ (n i : Nat), i + n = s.length →
    assume_solver_fail.l0 (s.length : Int) (i : Int) v A v b k log co m s t L H ((List.range i).map (dc t s)) o1 = assume_solver_fail.l0 (s.length : Int) (s.length : Int) v A v b k log co m s t L H (decs t s) o1
  | 0, i, hi => by
    have : i = s.length := by omega
    subst this; rfl
  | n + 1, i, hi => by
    have hlt : i < s.length := by omega
    have hv := h.vars
    have hsh := h.short
    have hw : IntKind.wrap .i64 ((i : Int) + 1) = ((i + 1 : Nat) : Int) := by rw [wr] <;> omega
    obtain ⟨j, hj, h1, e1⟩ := dc_at h hlt
    rw [← assume_fail.loop h n (i + 1) (by omega), assume_solver_fail.l0_eq (x17 := (i : Int)), cd, if_pos (by omega), gsome hlt, Option.bind_some, Int.toNat_natCast, List.getElem?_eq_getElem hlt, Option.bind_some, h1, gsome hj, Option.bind_some, Int.toNat_natCast,
      List.getElem?_eq_getElem hj, Option.bind_some, app_ok (by simp; omega), Option.bind_some, hw, List.range_succ, List.map_append, List.map_singleton, e1]

theorem assume_fail_eq (h : okA v t s) (hL : okL v L) (hn : L.length < 20000) (hlog : log.length ≤ 20000) (hk : 0 ≤ k ∧ k ≤ 1000000) (hc : confC v L (decs t s) = true) {c : List Int} (hce : c = lrnC v L (decs t s)) (hcok : okC v c)
    {t' s' : List Int} (hb : c ≠ [] → jbackC v t s c = ((v, (t', s')), 0)) :
    assume_solver_fail v A H L v t s false [] [] log k = if c = [] then some (false, 0, solT v A H (L ++ [[]]) t s false [] [] (log ++ [[]]) k) else some (true, 0, solT v A H (L ++ [c]) t' s' false [] [] (log ++ [c]) (k + 1)) := by
  have hv := h.vars
  have hsh := h.short
  have ht64 : ∀ l ∈ t, in64 l := fun l hl => by have := h.lits l hl; omega
  have g := assume_fail.loop (A := A) (H := H) (L := L) (log := log) (k := k) (b := false) (m := []) (co := []) (o1 := []) h s.length 0 (by omega)
  rw [show ((0 : Nat) : Int) = 0 from rfl] at g
  have e0 : assume_solver_fail v A H L v t s false [] [] log k = _ := (assume_solver_fail.eq ..).trans g
  have hD := okA_decs h
  have hdl : (decs t s).length = s.length := by simp [decs]
  rw [e0, assume_solver_fail.l0_eq, cd, if_neg (by omega), cd]
  by_cases hs : s.length = 0
  · have hd0 : decs t s = [] := List.eq_nil_of_length_eq_zero (by omega)
    have hc0 : c = [] := by rw [hce, hd0]; exact lrn_nil
    rw [if_neg (by omega), ce, if_pos (by simp), assume_told_eq hn hlog, Option.bind_some, if_pos hc0]
  · rw [if_pos (by omega), learn_Clause_eq hD hL (by omega) hc, Option.bind_some, ← hce]
    dsimp only
    rw [cn, if_pos rfl, ce]
    by_cases hc0 : c = []
    · rw [if_pos (by rw [hc0]; rfl), if_pos hc0, assume_told_eq hn hlog, Option.bind_some]
    · have hcl : ¬ (c.length : Int) = 0 := fun e => hc0 (List.eq_nil_of_length_eq_zero (by omega))
      have hc64 : ∀ l ∈ c, in64 l := fun l hl => by have := hcok.1 l hl; omega
      have hcs := hcok.short hv
      have hw : IntKind.wrap .i64 (k + 1) = k + 1 := by rw [wr] <;> omega
      rw [if_neg hcl, if_neg hc0, jump_Back_eq (by omega) (by omega) ht64 (by omega) hc64, Option.bind_some, hb hc0]
      dsimp only
      rw [cn, if_pos rfl, hw, assume_told_eq hn hlog, Option.bind_some]

def nextA (v : Int) (A H : List Int) (L : List (List Int)) (t s : List Int) (bo : Bool) (m : List Bool) (co : List Int) (log : List (List Int)) (k : Int) : Int × SolT :=
  match wantA A t with
  | some l => if isS t l = 0 then (2, solT v A H L t s bo m co log k) else (0, solT v A H L (t ++ [l]) (s ++ [(t.length : Int)]) bo m co log k)
  | none => if lf v t = 0 then (1, solT v A H L t s bo m co log k) else (0, solT v A H L (t ++ [2 * lf v t + 1]) (s ++ [(t.length : Int)]) bo m co log k)

theorem wantA_cons {l : Int} {r : List Int} : wantA (l :: r) t = if isS t l = 1 then wantA r t else some l := by
  unfold wantA
  rw [List.find?_cons]
  by_cases h : isS t l = 1
  · rw [if_pos h]; simp [h]
  · rw [if_neg h]; simp [h]

theorem assume_next.loop (h : okA v t s) (hA : ∀ a ∈ A, isLit v a) (hn : A.length ≤ 100000) {bo : Bool} {m : List Bool} {co : List Int} : ∀ (n i : Nat), i + n = A.length →
    assume_solver_next.l0 0 A (A.length : Int) (i : Int) v A v bo k log co m s t L (allL v.toNat) = some (match wantA (A.drop i) t with
      | some l => if isS t l = 0 then (2, solT v A (allL v.toNat) L t s bo m co log k) else (0, solT v A (allL v.toNat) L (t ++ [l]) (s ++ [(t.length : Int)]) bo m co log k)
      | none => if lf v t = 0 then (1, solT v A (allL v.toNat) L t s bo m co log k) else (0, solT v A (allL v.toNat) L (t ++ [2 * lf v t + 1]) (s ++ [(t.length : Int)]) bo m co log k))
  | 0, i, hi => by
    have hv := h.vars
    have hsh := h.short
    have ht64 : ∀ l ∈ t, in64 l := fun l hl => by have := h.lits l hl; omega
    have hw0 : wantA (A.drop i) t = none := by rw [List.drop_of_length_le (by omega)]; rfl
    rw [assume_solver_next.l0_eq, cd, if_neg (by omega), ce, if_pos rfl, decide_Next_eq (by omega) (by omega) ht64, Option.bind_some, hw0]
    dsimp only
    rcases next_lf h with ⟨h1, a, b, h2⟩ | ⟨h1, r, h2⟩
    · rw [h2, if_pos h1]
      dsimp only
      rw [cn, if_neg (by omega)]
    · rw [h2, if_neg h1]
      have hb := (lf_spec (v := v) (by omega) t).resolve_left fun h => h1 h.1
      have hw : IntKind.wrap .i64 (IntKind.wrap .i64 (2 * lf v t) + 1) = 2 * lf v t + 1 := by rw [wr (x := 2 * lf v t) (by omega) (by omega), wr (by omega) (by omega)]
      dsimp only
      rw [cn, if_pos rfl, app_ok (by simp; omega), Option.bind_some, hw, app_ok (by simp; omega), Option.bind_some]
  | n + 1, i, hi => by
    have hlt : i < A.length := by omega
    have hv := h.vars
    have hsh := h.short
    have hl := hA _ (List.getElem_mem hlt)
    have ht64 : ∀ l ∈ t, in64 l := fun l hl => by have := h.lits l hl; omega
    have hw : IntKind.wrap .i64 ((i : Int) + 1) = ((i + 1 : Nat) : Int) := by rw [wr] <;> omega
    have hval : valC v t s A[i] = (isS t A[i], 0) := by unfold valC; rw [if_pos h, if_pos hl]
    rw [assume_solver_next.l0_eq, cd, if_pos (by omega), gsome hlt, Option.bind_some, assign_Value_eq (by omega) (by omega) ht64 (by omega), Option.bind_some, hval]
    dsimp only
    rw [ce, ce, ce, drop_cons hlt, wantA_cons]
    rcases isS_cases t A[i] with h0 | h0 | h0
    · rw [if_pos h0, if_neg (by omega)]
      dsimp only
      rw [if_pos h0]
    · rw [if_neg (by omega), if_neg (by omega), if_pos h0, hw, assume_next.loop h hA hn n (i + 1) (by omega)]
    · rw [if_neg (by omega), if_pos h0, if_neg (by omega), if_neg (by omega), app_ok (by simp; omega), Option.bind_some, app_ok (by simp; omega), Option.bind_some]
      dsimp only
      rw [if_neg (by omega)]

theorem assume_next_eq (h : okA v t s) (hA : ∀ a ∈ A, isLit v a) (hn : A.length ≤ 100000) {bo : Bool} {m : List Bool} {co : List Int} :
    assume_solver_next v A (allL v.toNat) L v t s bo m co log k = some (nextA v A (allL v.toNat) L t s bo m co log k) := by
  have := assume_next.loop (L := L) (log := log) (k := k) (bo := bo) (m := m) (co := co) h hA hn A.length 0 (by omega)
  rw [List.drop_zero] at this
  rw [assume_solver_next.eq]
  exact this

theorem assume_next_2 (h : okA v t s) (hA : ∀ a ∈ A, isLit v a) (hn : A.length ≤ 100000) {bo : Bool} {m : List Bool} {co : List Int} {l : Int} (hw : wantA A t = some l) (h0 : isS t l = 0) :
    assume_solver_next v A (allL v.toNat) L v t s bo m co log k = some (2, solT v A (allL v.toNat) L t s bo m co log k) := by
  rw [assume_next_eq h hA hn]; unfold nextA; rw [hw]; dsimp only; rw [if_pos h0]

theorem assume_next_0 (h : okA v t s) (hA : ∀ a ∈ A, isLit v a) (hn : A.length ≤ 100000) {bo : Bool} {m : List Bool} {co : List Int} {l : Int} (hw : wantA A t = some l) (h0 : ¬ isS t l = 0) :
    assume_solver_next v A (allL v.toNat) L v t s bo m co log k = some (0, solT v A (allL v.toNat) L (t ++ [l]) (s ++ [(t.length : Int)]) bo m co log k) := by
  rw [assume_next_eq h hA hn]; unfold nextA; rw [hw]; dsimp only; rw [if_neg h0]

theorem assume_next_1 (h : okA v t s) (hA : ∀ a ∈ A, isLit v a) (hn : A.length ≤ 100000) {bo : Bool} {m : List Bool} {co : List Int} (hw : wantA A t = none) (h0 : lf v t = 0) :
    assume_solver_next v A (allL v.toNat) L v t s bo m co log k = some (1, solT v A (allL v.toNat) L t s bo m co log k) := by
  rw [assume_next_eq h hA hn]; unfold nextA; rw [hw]; dsimp only; rw [if_pos h0]

theorem assume_next_d (h : okA v t s) (hA : ∀ a ∈ A, isLit v a) (hn : A.length ≤ 100000) {bo : Bool} {m : List Bool} {co : List Int} (hw : wantA A t = none) (h0 : ¬ lf v t = 0) :
    assume_solver_next v A (allL v.toNat) L v t s bo m co log k = some (0, solT v A (allL v.toNat) L (t ++ [2 * lf v t + 1]) (s ++ [(t.length : Int)]) bo m co log k) := by
  rw [assume_next_eq h hA hn]; unfold nextA; rw [hw]; dsimp only; rw [if_neg h0]

theorem assume_end2_eq (hA : okA v A []) (hL : okL v L) (hn : L.length < 20000) (hlog : log.length ≤ 20000) (hc : confC v L A = true) {m : List Bool} {co : List Int} {bo : Bool} :
    assume_solver_end v A H L v t s bo m co log k 2 = some (0, solT v A H (L ++ [lrnC v L A]) t s bo m co (log ++ [lrnC v L A]) k) := by
  rw [assume_solver_end.eq, ce, if_pos rfl, learn_Clause_eq hA hL (by omega) hc, Option.bind_some]
  dsimp only
  rw [cn, if_pos rfl, assume_told_eq hn hlog, Option.bind_some]

theorem assume_model.loop {T : List Int} (h : okA v T s) {bo : Bool} {co : List Int} : ∀ (n i : Nat), i + n = T.length →
    assume_solver_end.l0 (T.length : Int) (i : Int) v A v bo k log co [] s T L H (mdl v (T.take i)) = some (0, solT v A H L T s bo (mdl v T) co log k)
  | 0, i, hi => by
    rw [assume_solver_end.l0_eq, cd, if_neg (by omega), List.take_of_length_le (by omega)]
  | n + 1, i, hi => by
    have hlt : i < T.length := by omega
    have hv := h.vars
    have hsh := h.short
    have hl := h.lits _ (List.getElem_mem hlt)
    have hw : IntKind.wrap .i64 ((i : Int) + 1) = ((i + 1 : Nat) : Int) := by rw [wr] <;> omega
    have hw2 : IntKind.wrap .i64 (IntKind.wrap .i64 (Int.tdiv T[i] 2) - 1) = T[i] / 2 - 1 := by rw [td (by omega) (by omega), wr (by omega) (by omega)]
    have hlen : (mdl v (T.take i)).length = v.toNat := mdl_len
    have hidx : (T[i] / 2 - 1).toNat < (mdl v (T.take i)).length := by omega
    have e1 : (T[i] % 2 == 0) = decide (T[i] % 2 = 0) := by rw [Bool.eq_iff_iff]; simp
    rw [assume_solver_end.l0_eq, cd, if_pos (by omega), gsome hlt, Option.bind_some, Int.toNat_natCast, List.getElem?_eq_getElem hlt, Option.bind_some, hw2, gi' (by omega), List.getElem?_eq_getElem hidx, Option.bind_some, Option.bind_some, hw, tm (by omega), e1, ← mdl_take h hlt,
      assume_model.loop h n (i + 1) (by omega)]

theorem assume_end1_eq {T : List Int} (h : okA v T s) : assume_solver_end v A H L v T s false [] [] log k 1 = some (0, solT v A H L T s true (mdl v T) [] log k) := by
  have hv := h.vars
  have g := assume_model.loop (A := A) (H := H) (L := L) (log := log) (k := k) (bo := true) (co := []) h T.length 0 (by omega)
  have h0 : mdl v (T.take 0) = List.replicate v.toNat false := by
    refine List.ext_getElem (by simp [mdl_len]) fun j h1 h2 => ?_
    simp [mdl]
  rw [h0, show ((0 : Nat) : Int) = 0 from rfl] at g
  rw [assume_solver_end.eq, ce, if_neg (by omega), mkl_ok (by omega) (by omega), Option.bind_some, if_pos rfl, g]

end

/-! ### The whole -/

theorem assume_solved.loop1 {v b : Int} {A : List Int} (hA : okA v A []) {L0 : List (List Int)} {b0 : Bool} {b1 : Int} {o2 : List Bool} {o3 : List Int} {o4 : List (List Int)} (hlim : L0.length + 2 ^ v.toNat ≤ 20000) : ∀ (n : Nat) {t s : List Int} {log : List (List Int)}, InvA v A L0 t s log → meas v t s < n → (log.length : Int) ≤ b →
    assume_solved.l1 b b0 b1 v A v false (log.length : Int) o2 o3 o4 (allL v.toNat) (L0 ++ log) t s [] [] log = some (ansC v b (solA v A n (L0 ++ log) t s log))
  | 0, t, s, log, h, hn, hb => by omega
  | n + 1, t, s, log, h, hn, hb => by
    have hv := h.a.vars
    have hsh := h.a.short
    have hAs := hA.short
    have hP := h.prop.1
    have htop : log.length + 1 ≤ 2 ^ v.toNat := by have := h.mes; have := mes_top h.a; omega
    have hll : (L0 ++ log).length < 20000 := by rw [List.length_append]; omega
    have hlog : log.length ≤ 20000 := by rw [List.length_append] at hll; omega
    have ht64 : ∀ l ∈ t, in64 l := fun l hl => by have := h.a.lits l hl; omega
    have hr : ∀ c ∈ L0 ++ log, c.length ≤ 140737488351232 ∧ ∀ x ∈ c, in64 x := fun c hc => ⟨by have := (h.ok c hc).len hv; omega, fun x hx => lit64 hv ((h.ok c hc).1 x hx)⟩
    have hrun : runC v t s (L0 ++ log) = ((v, (propC (L0 ++ log) (v + 1).toNat t).1, s), (propC (L0 ++ log) (v + 1).toNat t).2, 0) := by
      unfold runC
      rw [if_pos h.a, if_neg (by omega), if_pos h.ok]
    rw [assume_solved.l1_eq, unit_Run_eq (by omega) (by omega) ht64 (by omega) hr, Option.bind_some, hrun]
    dsimp only
    rw [cn, if_pos rfl, cd]
    unfold solA
    by_cases hat : 0 ≤ (propC (L0 ++ log) (v + 1).toNat t).2
    · rw [if_pos hat, if_pos hat]
      obtain ⟨f1, f2, f3⟩ := h.fail hat rfl
      have hcf := h.conf hat
      by_cases hc : lrnC v (L0 ++ log) (decs (propC (L0 ++ log) (v + 1).toNat t).1 s) = []
      · rw [assume_fail_eq (t' := []) (s' := []) hP.a h.ok hll hlog ⟨by omega, by omega⟩ hcf rfl f1 (fun hne => absurd hc hne), if_pos hc, if_pos hc, Option.bind_some]
        dsimp only
        rw [ce, if_pos rfl, cd, if_neg (by omega), cn, if_pos rfl, cnot, cf]
        unfold ansC ansR
        rw [if_pos hb]
        rfl
      · obtain ⟨t', s', e1, e2, e3⟩ := f3 hc
        rw [assume_fail_eq hP.a h.ok hll hlog ⟨by omega, by omega⟩ hcf rfl f1 (fun _ => e1), if_neg hc, if_neg hc, Option.bind_some, e1]
        dsimp only
        rw [ce, if_pos rfl, cd]
        by_cases hov : (log.length : Int) + 1 > b
        · rw [if_pos hov, cn, if_neg (by omega)]
          unfold ansC
          have := solA_conf (v := v) (A := A) n (L0 ++ log ++ [lrnC v (L0 ++ log) (decs (propC (L0 ++ log) (v + 1).toNat t).1 s)]) t' s' (log ++ [lrnC v (L0 ++ log) (decs (propC (L0 ++ log) (v + 1).toNat t).1 s)])
          rw [List.length_append (bs := [_]), List.length_singleton] at this
          rw [if_neg (by omega)]
          rfl
        · rw [if_neg hov, cn, if_pos rfl, cnot, ct]
          have := assume_solved.loop1 (b := b) (b0 := b0) (b1 := b1) (o2 := o2) (o3 := o3) (o4 := o4) hA hlim n e2 (by omega) (by rw [List.length_append, List.length_singleton]; omega)
          rw [← List.append_assoc, List.length_append (bs := [_]), List.length_singleton, Int.natCast_add] at this
          exact this
    · rw [if_neg hat, if_neg hat]
      cases hw : wantA A (propC (L0 ++ log) (v + 1).toNat t).1 with
      | some l =>
        obtain ⟨w1, w2⟩ := wantA_some hw
        dsimp only
        by_cases h0 : isS (propC (L0 ++ log) (v + 1).toNat t).1 l = 0
        · rw [if_pos h0, assume_next_2 hP.a hA.lits (by omega) hw h0, Option.bind_some]
          have hcf := h.under hA rfl w1 h0
          dsimp only
          rw [cd, if_pos (by omega), assume_end2_eq hA h.ok hll hlog hcf, Option.bind_some]
          dsimp only
          rw [cn, if_pos rfl]
          unfold ansC ansR
          rw [if_pos hb]
          rfl
        · rw [if_neg h0, assume_next_0 hP.a hA.lits (by omega) hw h0, Option.bind_some]
          have h2 : isS (propC (L0 ++ log) (v + 1).toNat t).1 l = 2 := by rcases isS_cases (propC (L0 ++ log) (v + 1).toNat t).1 l with h | h | h <;> omega
          obtain ⟨e1, e2⟩ := h.choose rfl (hA.lits l w1) h2 (.inl w1)
          dsimp only
          rw [cd, if_neg (by omega)]
          exact assume_solved.loop1 hA hlim n e1 (by omega) hb
      | none =>
        have hall := wantA_none hP.a hw
        dsimp only
        by_cases hl : lf v (propC (L0 ++ log) (v + 1).toNat t).1 = 0
        · rw [if_pos hl, assume_next_1 hP.a hA.lits (by omega) hw hl, Option.bind_some]
          dsimp only
          rw [cd, if_pos (by omega), assume_end1_eq hP.a, Option.bind_some]
          dsimp only
          rw [cn, if_pos rfl]
          unfold ansC ansR
          rw [if_pos hb]
          rfl
        · rw [if_neg hl, assume_next_d hP.a hA.lits (by omega) hw hl, Option.bind_some]
          obtain ⟨x1, x2, x3, x4⟩ := (lf_spec (v := v) (by omega) (propC (L0 ++ log) (v + 1).toNat t).1).resolve_left fun h => hl h.1
          have hnone : isS (propC (L0 ++ log) (v + 1).toNat t).1 (2 * lf v (propC (L0 ++ log) (v + 1).toNat t).1 + 1) = 2 := by
            rw [isS_none] at x3 ⊢
            intro a ha he
            exact x3 a ha (by omega)
          obtain ⟨e1, e2⟩ := h.choose rfl (x := 2 * lf v (propC (L0 ++ log) (v + 1).toNat t).1 + 1) (by omega) hnone (.inr ⟨_, rfl, x1, x2, x4, hall⟩)
          dsimp only
          rw [cd, if_neg (by omega)]
          exact assume_solved.loop1 hA hlim n e1 (by omega) hb

theorem assume_solved.loop0 {v b : Int} (hv : okV v) {b0 b1_3 : Bool} {b0_1 b1 b1_2 b1_4 : Int} {b1_1 : List Int} {o2 o9 : List Bool} {o3 o7 o8 o10 : List Int} {o4 o6 o11 : List (List Int)} : ∀ (n k : Nat), (k : Int) + n = v →
    assume_solved.l0 v b ((k + 1 : Nat) : Int) b0 b0_1 b1 b1_1 b1_2 b1_3 b1_4 o2 o3 o4 (allL k) o6 o7 o8 o9 o10 o11 = assume_solved.l1 b b0 b0_1 b1 b1_1 b1_2 b1_3 b1_4 o2 o3 o4 (allL v.toNat) o6 o7 o8 o9 o10 o11
  | 0, k, hk => by
    have e : v.toNat = k := by omega
    rw [assume_solved.l0_eq, cd, if_neg (by omega), e]
  | n + 1, k, hk => by
    have hl : ((allL k).length : Int) = k := by rw [allL_len]
    rw [assume_solved.l0_eq, cd, if_pos (by omega), app_ok (by simp; omega), Option.bind_some, suc_w (by omega), ← assume_solved.loop0 hv n (k + 1) (by omega), allL_succ]
    rfl

theorem assume_solved_eq {v b : Int} {A : List Int} (hA : okA v A []) (hb : 0 ≤ b ∧ b ≤ 100000) {L : List (List Int)} (hL : okL v L) (hlim : L.length + 2 ^ v.toNat ≤ 20000) : assume_solved v L A b = some (ansC v b (solAR v A L)) := by
  have hv := hA.vars
  have hN : L.length ≤ 20000 := Nat.le_trans (Nat.le_add_right _ _) hlim
  have g0 := assume_solved.loop0 (b := b) (b0 := false) (b0_1 := 0) (b1 := v) (b1_1 := A) (b1_2 := v) (b1_3 := false) (b1_4 := 0) (o2 := []) (o3 := []) (o4 := []) (o6 := L) (o7 := []) (o8 := []) (o9 := []) (o10 := []) (o11 := []) hv v.toNat 0 (by omega)
  have g1 := assume_solved.loop1 (b := b) hA (b0 := false) (b1 := 0) (o2 := []) (o3 := []) (o4 := []) hlim (meas v [] [] + 1) (invA0 hv hL) (Nat.lt_succ_self _) (by simpa using hb.1)
  rw [List.append_nil] at g1
  rw [assume_solved.eq, app_nil (by omega), Option.bind_some]
  exact g0.trans g1

theorem assume_none.loop {v : Int} {L : List (List Int)} {A : List Int} (hn : A.length ≤ 100000) : ∀ (n i : Nat), i + n = A.length →
    assume_none.l0 v L A (A.length : Int) (i : Int) (unitsC (A.take i)) = assume_none.l0 v L A (A.length : Int) (A.length : Int) (unitsC A)
  | 0, i, hi => by
    have : i = A.length := by omega
    subst this; rw [List.take_length]
  | n + 1, i, hi => by
    have hlt : i < A.length := by omega
    have hw : IntKind.wrap .i64 ((i : Int) + 1) = ((i + 1 : Nat) : Int) := by rw [wr] <;> omega
    have hl : (unitsC (A.take i)).length ≤ 100000 := by unfold unitsC; rw [List.length_map, List.length_take]; omega
    rw [← assume_none.loop hn n (i + 1) (by omega), assume_none.l0_eq, cd, if_pos (by omega), gsome hlt, Option.bind_some, app_ok (by simp only [List.length_singleton]; omega), Option.bind_some, hw, List.take_add_one, List.getElem?_eq_getElem hlt]
    unfold unitsC
    rw [List.map_append]
    rfl

theorem assume_none_eq {v : Int} (hv : okV v) {L : List (List Int)} {A : List Int} (hL : okL v L) (hA : ∀ a ∈ A, isLit v a) (hlim : A.length + L.length + 2 ^ v.toNat ≤ 20000) (hbig : 2 ^ v.toNat ≤ 100001) : assume_none v L A = some (noneC v L A, 0) := by
  have hAL : A.length + L.length ≤ 20000 := Nat.le_trans (Nat.le_add_right _ _) hlim
  have hL2 : L.length + 2 ^ v.toNat ≤ 20000 := Nat.le_trans (by rw [Nat.add_assoc]; exact Nat.le_add_left _ _) hlim
  have h2v : 2 ^ v.toNat ≤ 20000 := Nat.le_trans (Nat.le_add_left _ _) hlim
  have g := assume_none.loop (v := v) (L := L) (A := A) (by omega) A.length 0 (by omega)
  rw [show ((0 : Nat) : Int) = 0 from rfl, List.take_zero] at g
  have hul : (unitsC A).length = A.length := by simp [unitsC]
  have hok := okL_asm hL hA
  have hb := (solR_ok hv hok).bnd
  rw [assume_none.eq]
  refine Eq.trans g ?_
  rw [assume_none.l0_eq, cd, if_neg (by omega), app_ok (by omega), Option.bind_some, solve_Run_eq hv (by omega) hok (by rw [List.length_append, hul]; exact hlim), Option.bind_some]
  unfold ansC
  rw [if_pos (by omega)]
  dsimp only
  rw [ce, if_pos rfl]
  rfl

theorem assume_core.loop {v : Int} (hv : okV v) {L : List (List Int)} {A : List Int} (hA : okA v A []) (hL : okL v L) (hlim : A.length + L.length + 2 ^ v.toNat ≤ 20000) (hbig : 2 ^ v.toNat ≤ 100001) : ∀ (n i : Nat) {o : List Int}, i + n = A.length → o.Sublist A → (∀ x ∈ A.drop i, x ∈ o) →
    assume_core.l0 v L A (A.length : Int) (i : Int) o = some (coreC v L (A.drop i) o, 0)
  | 0, i, o, hi, ho, hm => by
    rw [assume_core.l0_eq, cd, if_neg (by omega), List.drop_of_length_le (by omega)]
    rfl
  | n + 1, i, o, hi, ho, hm => by
    have hAL : A.length + L.length ≤ 20000 := Nat.le_trans (Nat.le_add_right _ _) hlim
    have hlt : i < A.length := by omega
    have hs := hA.short
    have hol := ho.length_le
    have hw : IntKind.wrap .i64 ((i : Int) + 1) = ((i + 1 : Nat) : Int) := by rw [wr] <;> omega
    rw [drop_cons hlt] at hm ⊢
    have hd : A[i] ∈ o := hm _ (List.mem_cons_self ..)
    obtain ⟨k, e1, e2, e3⟩ := slices_Index.found (s := o) (x := A[i]) (by omega) o.length 0 (by omega) (by rw [List.drop_zero]; exact hd)
    rw [show ((0 : Nat) : Int) = 0 from rfl] at e1
    rw [List.take_zero, List.drop_zero, List.nil_append] at e3
    have hwk : IntKind.wrap .i64 ((k : Int) + 1) = ((k + 1 : Nat) : Int) := by rw [wr] <;> omega
    have hcut : cutl o (k : Int) ((k + 1 : Nat) : Int) = some (rm A[i] o) := by
      unfold cutl LIM
      rw [if_pos ⟨by omega, by omega, by omega, by omega⟩, Int.toNat_natCast, Int.toNat_natCast, e3]
    have hsub : (rm A[i] o).Sublist A := (rm_sub _ o).trans ho
    have hsl := hsub.length_le
    have hnd := hA.nodup
    rw [← List.take_append_drop i A, List.nodup_append, drop_cons hlt, List.nodup_cons] at hnd
    rw [assume_core.l0_eq, cd, if_pos (by omega), gsome hlt, Option.bind_some, slices_Index_int_int.eq, e1, Option.bind_some, app_nil (by omega), Option.bind_some, hwk, hcut, Option.bind_some, assume_none_eq hv hL (fun a ha => hA.lits a (hsub.subset ha)) (Nat.le_trans (Nat.add_le_add_right (Nat.add_le_add_right hsl _) _) hlim) hbig, Option.bind_some, hw]
    dsimp only
    rw [cn, if_pos rfl]
    unfold coreC
    cases hcf : noneC v L (rm A[i] o) with
    | true =>
      rw [ct]
      exact assume_core.loop hv hA hL hlim hbig n (i + 1) (by omega) hsub (fun x hx => rm_mem (hm x (List.mem_cons_of_mem _ hx)) (fun e => hnd.2.1.1 (e ▸ hx)))
    | false =>
      rw [cf]
      exact assume_core.loop hv hA hL hlim hbig n (i + 1) (by omega) ho (fun x hx => hm x (List.mem_cons_of_mem _ hx))

theorem assume_core_eq {v : Int} {L : List (List Int)} {A : List Int} (hA : okA v A []) (hL : okL v L) (hlim : A.length + L.length + 2 ^ v.toNat ≤ 20000) (hbig : 2 ^ v.toNat ≤ 100001) : assume_core v L A = some (coreC v L A A, 0) := by
  have hAL : A.length + L.length ≤ 20000 := Nat.le_trans (Nat.le_add_right _ _) hlim
  have hL2 : L.length + 2 ^ v.toNat ≤ 20000 := Nat.le_trans (by rw [Nat.add_assoc]; exact Nat.le_add_left _ _) hlim
  have h2v : 2 ^ v.toNat ≤ 20000 := Nat.le_trans (Nat.le_add_left _ _) hlim
  have g := assume_core.loop hA.vars hA hL hlim hbig A.length 0 (o := A) (by omega) (List.Sublist.refl _) (fun x hx => by rwa [List.drop_zero] at hx)
  rw [show ((0 : Nat) : Int) = 0 from rfl, List.drop_zero] at g
  rw [assume_core.eq, app_nil (by omega), Option.bind_some, g]

section
variable {v b : Int} {A : List Int} {L : List (List Int)}

theorem ranged_ok (hv : okV v) (hL : okL v L) : ∀ c ∈ L, c.length ≤ 140737488351232 ∧ ∀ x ∈ c, in64 x := fun c hc => ⟨by have := (hL c hc).len hv; omega, fun x hx => lit64 hv ((hL c hc).1 x hx)⟩

theorem assume_check_ok (hA : okA v A []) (hb : 0 ≤ b ∧ b ≤ 100000) (hL : okL v L) (hn : L.length ≤ 20000) : assume_check v L A b = some 0 := by
  have hv := hA.vars
  have hs := hA.short
  rw [assume_check_eq (by omega) (ranged_ok hv hL) (by omega) (fun x hx => lit64 hv (hA.lits x hx)), if_neg (by omega), if_neg (by omega), if_pos ⟨hL, hA⟩]

theorem assume_Run_eq (hA : okA v A []) (hb : 0 ≤ b ∧ b ≤ 100000) (hL : okL v L) (hlim : A.length + L.length + 2 ^ v.toNat ≤ 20000) : assume_Run v L A b = some (runA v b A L) := by
  have hAL : A.length + L.length ≤ 20000 := Nat.le_trans (Nat.le_add_right _ _) hlim
  have hL2 : L.length + 2 ^ v.toNat ≤ 20000 := Nat.le_trans (by rw [Nat.add_assoc]; exact Nat.le_add_left _ _) hlim
  have h2v : 2 ^ v.toNat ≤ 20000 := Nat.le_trans (Nat.le_add_left _ _) hlim
  have hR := solAR_ok hA hL
  rw [assume_Run.eq, assume_check_ok hA hb hL (by omega), Option.bind_some, cn, if_pos rfl, assume_solved_eq hA hb hL hL2, Option.bind_some]
  unfold ansC runA
  by_cases hc : ((solAR v A L).2.2.2 : Int) ≤ b
  · rw [if_pos hc, if_pos hc]
    dsimp only
    rw [cn, if_pos rfl]
    unfold ansR ansA
    cases hs : (solAR v A L).1 with
    | true => rfl
    | false =>
      rw [cf, assume_core_eq hA hL hlim (by omega), Option.bind_some]
      rfl
  · rw [if_neg hc, if_neg hc]
    dsimp only
    rw [cn, if_neg (by omega)]

theorem assume_run (hA : okA v A []) (h12 : v ≤ 12) (hL : okL v L) (hn : A.length + L.length ≤ 10000) (hb : ((solAR v A L).2.2.2 : Int) ≤ b ∧ b ≤ 100000) : assume_Run v L A b = some (ansA v A L, 0) := by
  have hp := small_pow hA.vars.1 h12
  rw [assume_Run_eq hA ⟨by omega, hb.2⟩ hL (by omega)]
  unfold runA
  rw [if_pos hb.1]

theorem confA_le (hA : okA v A []) (h12 : v ≤ 12) (hL : okL v L) : (solAR v A L).2.2.2 ≤ 4095 := by
  have hp := small_pow hA.vars.1 h12
  have := (solAR_ok hA hL).bnd
  omega

theorem assume5000 (hA : okA v A []) (h12 : v ≤ 12) (hL : okL v L) (hn : A.length + L.length ≤ 10000) : assume_Run v L A 5000 = some (ansA v A L, 0) := by
  have := confA_le hA h12 hL
  exact assume_run hA h12 hL hn ⟨by omega, by omega⟩

end

/-! ### What is considered -/

end Go.Proofs.YthbkhndapkbgbaaGreat
