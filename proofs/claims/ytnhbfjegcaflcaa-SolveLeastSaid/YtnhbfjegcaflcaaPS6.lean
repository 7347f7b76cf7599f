/- The solver's laws, of plain values: SolveMore, SolveLog. -/
import Derived.Test.YtnhbfjegcaflcaaPS5
namespace Go.Proofs.Ytnhbfjegcaflcaa
open Go Go.Proofs.Ytnhbfjegcaflcaa.R
set_option linter.unusedVariables false

/-! ### SolveMore -/

theorem SolveMore.loop {a b : List Bool} {s1 s2 : Bool} {k1 k2 : Int} {c1 c2 : List Int} {g1 g2 : List (List Int)} (hl : a.length = b.length) (hn : a.length ≤ 100000)
    (hd : ∀ i, i < a.length → (∀ j, j < i → b.getD j false = a.getD j false) → a.getD i false = true → b.getD i false = true) : ∀ (n i : Nat), i + n = a.length → (∀ j, j < i → b.getD j false = a.getD j false) →
    spiritlevellaw19_SolveMore.l0 true (i : Int) s1 k1 s2 k2 a c1 g1 b c2 g2 = some true
  | 0, i, hi, hp => by
    rw [spiritlevellaw19_SolveMore.l0_eq, cd, if_neg (by omega), ct]
    have : ((a.length : Int) == b.length) = true := by rw [hl]; simp
    rw [this]
  | n + 1, i, hi, hp => by
    have h1 : i < a.length := by omega
    have h2 : i < b.length := by omega
    have hw : IntKind.wrap .i64 ((i : Int) + 1) = ((i + 1 : Nat) : Int) := by rw [wr] <;> omega
    have e1 : a.getD i false = a[i] := by rw [List.getD_eq_getElem?_getD, List.getElem?_eq_getElem h1]; rfl
    have e2 : b.getD i false = b[i] := by rw [List.getD_eq_getElem?_getD, List.getElem?_eq_getElem h2]; rfl
    rw [spiritlevellaw19_SolveMore.l0_eq, cd, if_pos (by omega), cd, if_pos (by omega), gsome h1, Option.bind_some, Int.toNat_natCast, List.getElem?_eq_getElem h1, Option.bind_some, gsome h2, Option.bind_some, List.getElem?_eq_getElem h2, Option.bind_some, ct, Option.bind_some, Option.bind_some, hw]
    cases hx : a[i] == b[i] with
    | true =>
      rw [cnot, ct]
      have he := eq_of_beq hx
      refine SolveMore.loop hl hn hd n (i + 1) (by omega) fun j hj => ?_
      rcases Nat.lt_or_ge j i with h | h
      · exact hp j h
      · rw [show j = i from by omega, e1, e2, he]
    | false =>
      rw [cnot, cf]
      have hne : a[i] ≠ b[i] := fun e => by rw [e] at hx; simp at hx
      have := hd i h1 hp
      rw [e1, e2] at this
      cases ha : a[i] with
      | true => rw [this ha]
      | false =>
        cases hb : b[i] with
        | true => rfl
        | false => rw [ha, hb] at hne; exact absurd rfl hne

section
variable {v : Int} {L : List (List Int)}

theorem models_app {A B : List (List Int)} {W : List Bool} : Models (A ++ B) W ↔ Models A W ∧ Models B W := by
  constructor
  · exact fun h => ⟨fun c hc => h c (List.mem_append_left _ hc), fun c hc => h c (List.mem_append_right _ hc)⟩
  · rintro ⟨h1, h2⟩ c hc
    rcases List.mem_append.1 hc with h | h
    · exact h1 c h
    · exact h2 c h

theorem ansR_sat {v : Int} {r : Bool × List Int × List (List Int) × Nat} (h : r.1 = true) : (ansR v r).2.1 = mdl v r.2.1 := by unfold ansR; rw [h]; rfl
theorem ansR_un {v : Int} {r : Bool × List Int × List (List Int) × Nat} (h : r.1 = false) : (ansR v r).2.1 = [] := by unfold ansR; rw [h]; rfl

theorem SolveMore.tail (ov : okV v) (o12 : v ≤ 12) (oL : okL v L) (on : L.length ≤ 40) {c : List Int} (hc1 : c.length ≤ 140737488351232) (hc2 : ∀ x ∈ c, in64 x) {a : Ansr} (ha : a = ansR v (solR v L)) :
    (bif (decide ((List.length c : Int) > (10 : Int))) then (some true) else ((spiritlevelref13_Check v c).bind fun r10_ => bif (r10_ != (0 : Int)) then (some true) else ((app ([] : List (List Int)) L).bind fun l11_ => (app l11_ ([c] : List (List Int))).bind fun l12_ => (solve_Run v l12_ (5000 : Int)).bind fun r13_ =>
      bif (r13_.2 != (0 : Int)) then (some false) else (bif r13_.1.1 then (bif (!a.1) then (some false) else (bif (!r13_.1.1) then (bif true then (bif (!a.1) then (some true) else ((spiritlevelref19_SameValues a.2.1 r13_.1.2.1).bind fun r14_ => bif (!r14_) then (some true) else (bif (v == (0 : Int)) then (some ((List.length c : Int) == (0 : Int))) else (some false)))) else (some false)) else
        (spiritlevellaw19_SolveMore.l0 true (0 : Int) a.1 a.2.2.2.2 r13_.1.1 r13_.1.2.2.2.2 a.2.1 a.2.2.1 a.2.2.2.1 r13_.1.2.1 r13_.1.2.2.1 r13_.1.2.2.2.1))) else (bif (!r13_.1.1) then (bif true then (bif (!a.1) then (some true) else ((spiritlevelref19_SameValues a.2.1 r13_.1.2.1).bind fun r15_ => bif (!r15_) then (some true) else (bif (v == (0 : Int)) then (some ((List.length c : Int) == (0 : Int))) else (some false)))) else (some false)) else
        (spiritlevellaw19_SolveMore.l0 true (0 : Int) a.1 a.2.2.2.2 r13_.1.1 r13_.1.2.2.2.2 a.2.1 a.2.2.1 a.2.2.2.1 r13_.1.2.1 r13_.1.2.2.1 r13_.1.2.2.2.1)))))) = some true := by
  subst ha
  rw [cd]
  split
  · rfl
  · rename_i hc10
    rw [ref13_Check_eq hc1, Option.bind_some, if_pos ov, cn]
    by_cases hc : okC v c
    · rw [if_pos hc, if_pos rfl]
      have oL' : okL v (L ++ [c]) := by
        rw [okL_append]
        exact ⟨oL, fun d hd => by rw [List.mem_singleton] at hd; subst hd; exact hc⟩
      have A := solR_ok ov oL
      have A' := solR_ok ov oL'
      have S := A.small ov (small_pow ov.1 o12)
      rw [app_nil (by omega), Option.bind_some, app_ok (by simp; omega), Option.bind_some, run5000 ov o12 oL' (by simp; omega), Option.bind_some]
      dsimp only
      rw [cn, if_pos rfl]
      have e1 : (ansR v (solR v L)).1 = (solR v L).1 := rfl
      have e2 : (ansR v (solR v (L ++ [c]))).1 = (solR v (L ++ [c])).1 := rfl
      rw [e1, e2]
      cases h2 : (solR v (L ++ [c])).1 with
      | true =>
        have M' := (A'.sat h2).1
        cases h1 : (solR v L).1 with
        | false => exact absurd (models_app.1 M'.2.1).1 (A.none ov h1 _)
        | true =>
          have M := (A.sat h1).1
          rw [ct, cnot, ct, cnot, ct, ansR_sat h1, ansR_sat h2]
          refine SolveMore.loop (by rw [M.1, M'.1]) (by rw [M.1]; omega) (fun i hi hp ht => ?_) (mdl v (solR v L).2.1).length 0 (by omega) (by intro j hj; omega)
          exact M.2.2 _ M'.1 (models_app.1 M'.2.1).1 i (by rw [← M.1]; exact hi) hp ht
      | false =>
        rw [cf, cnot, cf, ct]
        cases h1 : (solR v L).1 with
        | false => rfl
        | true =>
          have M := (A.sat h1).1
          rw [cnot, ct, ref19_SameValues_eq S.m, Option.bind_some, ansR_sat h1, ansR_un h2, cnot, cd]
          split
          · rename_i hm
            have hl := M.1
            rw [hm] at hl
            have hv0 : v = 0 := by simp only [List.length_nil] at hl; omega
            rw [ce, if_pos hv0]
            have : c = [] := by
              cases c with
              | nil => rfl
              | cons x r =>
                have := hc.1 x (List.mem_cons_self ..)
                omega
            rw [this]; rfl
          · rfl
    · rw [if_neg hc, if_neg (by omega)]

theorem SolveMore_pure (v : Int) (L : List (List Int)) (at_ : Int) (c : List Int) (hv : okD (.int .i64) v) (hL : okD TLL L) (ha : okD (.int .i64) at_) (hc : okD TL c) : spiritlevellaw19_SolveMore v L at_ c = some true := by
  obtain ⟨l1, l2⟩ := okTLL hL
  obtain ⟨c1, c2⟩ := okTL hc
  obtain ⟨b, h1, h2⟩ := fit19_eq (v := v) l1 fun c hc => (l2 c hc).1
  rw [spiritlevellaw19_SolveMore.eq, alive19_eq, Option.bind_some, h1, Option.bind_some]
  cases b with
  | false => rfl
  | true =>
    obtain ⟨ov, o12, oL, on⟩ := h2 rfl
    have A := solR_ok ov oL
    have S := A.small ov (small_pow ov.1 o12)
    have hlog : (ansR v (solR v L)).2.2.2.1 = (solR v L).2.2.1 := rfl
    have hT := SolveMore.tail ov o12 oL on c1 c2 (a := ansR v (solR v L)) rfl
    rw [cnot, ct, cnot, ct, run5000 ov o12 oL (by omega), Option.bind_some]
    dsimp only
    rw [cn, if_pos rfl, cd]
    split
    · rename_i a0
      rw [cd]
      split
      · rename_i a1
        rw [hlog] at a1
        have hlt : at_.toNat < (solR v L).2.2.1.length := by omega
        have oL' : okL v (L ++ [(solR v L).2.2.1[at_.toNat]]) := by
          rw [okL_append]
          exact ⟨oL, fun d hd => by rw [List.mem_singleton] at hd; subst hd; exact A.ok _ (List.mem_append_right _ (List.getElem_mem hlt))⟩
        obtain ⟨q1, q2⟩ := same_models ov oL oL' fun W => by
          rw [models_app]
          constructor
          · intro h
            refine ⟨h, fun d hd => ?_⟩
            rw [List.mem_singleton] at hd
            subst hd
            exact chain_models ov h A.ok A.chain _ (List.mem_append_right _ (List.getElem_mem hlt))
          · exact fun h => h.1
        rw [app_nil (by omega), Option.bind_some, hlog, gi' a0, List.getElem?_eq_getElem hlt, Option.bind_some, Option.bind_some, app_ok (by simp; omega), Option.bind_some, run5000 ov o12 oL' (by simp; omega), Option.bind_some]
        dsimp only
        rw [cn, if_pos rfl, ← q2, ref19_SameValues_eq S.m, Option.bind_some, decide_eq_true rfl]
        have hb : ((ansR v (solR v (L ++ [(solR v L).2.2.1[at_.toNat]]))).1 == (ansR v (solR v L)).1) = true := by
          show ((solR v _).1 == (solR v L).1) = true
          rw [← q1]; simp
        rw [hb, cnot, ct, cnot, ct]
        rw [app_nil (by omega)] at hT
        exact hT
      · exact hT
    · exact hT

/-! ### SolveLog -/

def cntF (l : List (List Int)) : Nat := (l.filter fun c => decide (c ≠ [])).length

theorem SolveLog.loop1 {ok : Bool} {full i : Int} {c : List Int} (ov : okV v) (hc : okC v c) {sat : Bool} {conf : Int} {o1 : List (List Int)} {o3 : List Bool} {o4 : List Int} {o5 : List (List Int)} : ∀ (n k : Nat), k + n = c.length →
    spiritlevellaw19_SolveLog.l1 v ok full i c (k : Int) sat conf o1 ((c.take k).map neg) o3 o4 o5 = spiritlevellaw19_SolveLog.l1 v ok full i c (c.length : Int) sat conf o1 (c.map neg) o3 o4 o5
  | 0, k, hk => by
    have : k = c.length := by omega
    subst this
    rw [List.take_length]
  | n + 1, k, hk => by
    have hlt : k < c.length := by omega
    have hcs := hc.short ov
    have hx := hc.1 _ (List.getElem_mem hlt)
    have hw : IntKind.wrap .i64 ((k : Int) + 1) = ((k + 1 : Nat) : Int) := by rw [wr] <;> omega
    rw [← SolveLog.loop1 ov hc n (k + 1) (by omega), spiritlevellaw19_SolveLog.l1_eq (k13 := (k : Int)), cd, if_pos (by omega), gsome hlt, Option.bind_some, ref13_Not_eq ⟨by omega, by omega⟩, Option.bind_some, app_ok (by simp; omega), Option.bind_some, hw, List.take_add_one, List.getElem?_eq_getElem hlt, List.map_append]
    rfl

theorem SolveLog.loop0 (ov : okV v) (o12 : v ≤ 12) (oL : okL v L) (on : L.length ≤ 40) {o2 : List Bool} {o3 : List Int} {r : Bool × List Int × List (List Int) × Nat} (A : AnsOk v L r) : ∀ (n i : Nat), i + n = r.2.2.1.length →
    spiritlevellaw19_SolveLog.l0 v true (cntF (r.2.2.1.take i) : Int) (i : Int) r.1 (r.2.2.2 : Int) (L ++ r.2.2.1.take i) o2 o3 r.2.2.1 = some true
  | 0, i, hi => by
    have hi' : i = r.2.2.1.length := by omega
    have hll := log_len A
    have hp := small_pow ov.1 o12
    rw [spiritlevellaw19_SolveLog.l0_eq, cd, if_neg (by omega), cd, hi', List.take_length]
    cases hr : r.1 with
    | true =>
      obtain ⟨_, h2, h3, _⟩ := A.sat hr
      have hcnt : cntF r.2.2.1 = r.2.2.1.length := by
        unfold cntF
        rw [List.filter_eq_self.2 fun c hc => decide_eq_true (h2 c hc)]
      have hfin : ((cntF r.2.2.1 : Int) == (r.2.2.2 : Int)) = true := by rw [hcnt, h3]; simp
      by_cases h0 : (r.2.2.1.length : Int) > 0
      · have hlt : r.2.2.1.length - 1 < r.2.2.1.length := by omega
        have hw : IntKind.wrap .i64 ((r.2.2.1.length : Int) - 1) = ((r.2.2.1.length - 1 : Nat) : Int) := by rw [wr] <;> omega
        have hne := h2 _ (List.getElem_mem hlt)
        have hz : (((r.2.2.1[r.2.2.1.length - 1].length : Nat) : Int) == 0) = false := by
          rw [← Bool.not_eq_true]
          intro h
          have := eq_of_beq h
          exact hne (List.eq_nil_of_length_eq_zero (by omega))
        rw [if_pos h0, hw, gsome hlt, Option.bind_some, Int.toNat_natCast, List.getElem?_eq_getElem hlt, Option.bind_some, hz, hfin]; rfl
      · rw [if_neg h0, hfin]; rfl
    | false =>
      obtain ⟨lg, e, h2, h3, _⟩ := A.unsat hr
      have hlen : r.2.2.1.length = lg.length + 1 := by rw [e]; simp
      have hcnt : cntF r.2.2.1 = lg.length := by
        unfold cntF
        rw [e, List.filter_append, List.filter_eq_self.2 fun c hc => decide_eq_true (h2 c hc)]
        simp
      have hfin : ((cntF r.2.2.1 : Int) == (r.2.2.2 : Int)) = true := by rw [hcnt, h3]; simp
      have hw : IntKind.wrap .i64 ((r.2.2.1.length : Int) - 1) = (lg.length : Int) := by rw [wr] <;> omega
      have hlt : lg.length < r.2.2.1.length := by omega
      have hlast : r.2.2.1[lg.length] = [] := by simp [e]
      rw [if_pos (by omega), hw, gsome hlt, Option.bind_some, Int.toNat_natCast, List.getElem?_eq_getElem hlt, Option.bind_some, hlast, hfin]; rfl
  | n + 1, i, hi => by
    have hlt : i < r.2.2.1.length := by omega
    have hll := log_len A
    have hp := small_pow ov.1 o12
    have hoc : okC v r.2.2.1[i] := A.ok _ (List.mem_append_right _ (List.getElem_mem hlt))
    have hcs := hoc.short ov
    have hw : IntKind.wrap .i64 ((i : Int) + 1) = ((i + 1 : Nat) : Int) := by rw [wr] <;> omega
    have hw2 : IntKind.wrap .i64 ((r.2.2.1.length : Int) - 1) = (r.2.2.1.length : Int) - 1 := by rw [wr] <;> omega
    have hpre : okL v (L ++ r.2.2.1.take i) := fun c hc => A.ok c (by
      rcases List.mem_append.1 hc with h | h
      · exact List.mem_append_left _ h
      · exact List.mem_append_right _ (List.mem_of_mem_take h))
    have hpl : (L ++ r.2.2.1.take i).length ≤ 20000 := by rw [List.length_append, List.length_take]; omega
    have hfrom : confC v (L ++ r.2.2.1.take i) (r.2.2.1[i].map neg) = true := A.chain i hlt
    have hcf : cntF (r.2.2.1.take i) ≤ i := by
      unfold cntF
      exact Nat.le_trans (List.length_filter_le ..) (by rw [List.length_take]; omega)
    have hcnt : cntF (r.2.2.1.take (i + 1)) = cntF (r.2.2.1.take i) + if r.2.2.1[i] = [] then 0 else 1 := by
      unfold cntF
      rw [List.take_add_one, List.getElem?_eq_getElem hlt, List.filter_append, List.length_append]
      congr 1
      by_cases h : r.2.2.1[i] = []
      · simp [h]
      · simp [h]
    have step : spiritlevellaw19_SolveLog.l1 v true (cntF (r.2.2.1.take i) : Int) (i : Int) r.2.2.1[i] 0 r.1 (r.2.2.2 : Int) (L ++ r.2.2.1.take i) [] o2 o3 r.2.2.1 = some true := by
      have g := SolveLog.loop1 (ok := true) (full := (cntF (r.2.2.1.take i) : Int)) (i := (i : Int)) ov hoc (sat := r.1) (conf := (r.2.2.2 : Int)) (o1 := L ++ r.2.2.1.take i) (o3 := o2) (o4 := o3) (o5 := r.2.2.1) r.2.2.1[i].length 0 (by omega)
      rw [show ((0 : Nat) : Int) = 0 from rfl, List.take_zero, List.map_nil] at g
      have hw3 : IntKind.wrap .i64 ((cntF (r.2.2.1.take i) : Int) + 1) = ((cntF (r.2.2.1.take i) + 1 : Nat) : Int) := by rw [wr] <;> omega
      have ih := SolveLog.loop0 ov o12 oL on (o2 := o2) (o3 := o3) A n (i + 1) (by omega)
      have hap : L ++ r.2.2.1.take i ++ [r.2.2.1[i]] = L ++ r.2.2.1.take (i + 1) := by
        rw [List.take_add_one, List.getElem?_eq_getElem hlt, List.append_assoc]; rfl
      rw [g, spiritlevellaw19_SolveLog.l1_eq, cd, if_neg (by omega), learn_Conflict_eq (okA_neg ov hoc) hpre hpl, Option.bind_some, hfrom]
      dsimp only
      rw [cn, if_pos rfl, cnot, ct, app_ok (by simp only [List.length_singleton]; omega), Option.bind_some, hap, cd, hw, hw3]
      rw [hcnt] at ih
      by_cases h : r.2.2.1[i] = []
      · rw [if_pos h] at ih
        rw [if_neg (by rw [h]; simp)]
        exact ih
      · rw [if_neg h] at ih
        have : ¬ r.2.2.1[i].length = 0 := fun e => h (List.eq_nil_of_length_eq_zero e)
        rw [if_pos (by omega)]
        exact ih
    rw [spiritlevellaw19_SolveLog.l0_eq, cd, if_pos (by omega), gsome hlt, Option.bind_some, Int.toNat_natCast, List.getElem?_eq_getElem hlt, Option.bind_some, ref13_Check_eq (by omega), Option.bind_some, if_pos ov, if_pos hoc, cn, if_pos rfl, ce]
    split
    · rename_i hz
      rw [hw2, cd, if_neg, step]
      have h0 : r.2.2.1[i] = [] := List.eq_nil_of_length_eq_zero (by omega)
      cases hr : r.1 with
      | true => exact absurd h0 ((A.sat hr).2.1 _ (List.getElem_mem hlt))
      | false =>
        obtain ⟨lg, e, h2, h3, _⟩ := A.unsat hr
        have hlen : r.2.2.1.length = lg.length + 1 := by rw [e]; simp
        intro hlt2
        have hi2 : i < lg.length := by omega
        refine h2 (lg[i]) (List.getElem_mem hi2) ?_
        rw [← h0]
        simp [e, List.getElem_append_left hi2]
    · exact step
end

theorem SolveLog_pure (v : Int) (L : List (List Int)) (hv : okD (.int .i64) v) (hL : okD TLL L) : spiritlevellaw19_SolveLog v L = some true := by
  obtain ⟨l1, l2⟩ := okTLL hL
  obtain ⟨b, h1, h2⟩ := fit19_eq (v := v) l1 fun c hc => (l2 c hc).1
  rw [spiritlevellaw19_SolveLog.eq, alive19_eq, Option.bind_some, h1, Option.bind_some]
  cases b with
  | false => rfl
  | true =>
    obtain ⟨ov, o12, oL, on⟩ := h2 rfl
    have A := solR_ok ov oL
    rw [cnot, ct, cnot, ct, run5000 ov o12 oL (by omega), Option.bind_some]
    dsimp only
    rw [cn, if_pos rfl, app_nil (by omega), Option.bind_some]
    have g := SolveLog.loop0 ov o12 oL on (o2 := (ansR v (solR v L)).2.1) (o3 := (ansR v (solR v L)).2.2.1) A (solR v L).2.2.1.length 0 (by omega)
    rw [List.take_zero, List.append_nil] at g
    exact g

end Go.Proofs.Ytnhbfjegcaflcaa
