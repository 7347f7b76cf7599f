/- UnitStates, UnitNames of plain values. -/
import Derived.Test.YtmefbjdhmlhkjaaP6
namespace Go.Proofs.Ytmefbjdhmlhkjaa
open Go Go.Proofs.Ytmefbjdhmlhkjaa.R
set_option linter.unusedVariables false

def cnt (t c : List Int) (k : Int) : Nat := (c.filter (fun l => decide (isS t l = k))).length

theorem cnt_cons {t c : List Int} {x k : Int} : cnt t (x :: c) k = (if isS t x = k then 1 else 0) + cnt t c k := by
  unfold cnt
  rw [List.filter_cons]
  by_cases h : isS t x = k
  · rw [if_pos (decide_eq_true h), if_pos h, List.length_cons]; omega
  · rw [if_neg (by simpa using h), if_neg h]; omega

theorem UnitStates.count {v : Int} {t s c : List Int} {k st x e : Int} {ok : Bool} (ht : t.length ≤ 140737488351232) (hv : okV v) (hc : ∀ l ∈ c, isLit v l) (hl : c.length ≤ 100) : ∀ (m i A B C : Nat), i + m = c.length → A + B + C ≤ i →
    spiritlevellaw15_UnitStates.l0 c k ok st x e (i : Int) v t s [(A : Int), (B : Int), (C : Int)] = spiritlevellaw15_UnitStates.l0 c k ok st x e (c.length : Int) v t s [((A + cnt t (c.drop i) 0 : Nat) : Int), ((B + cnt t (c.drop i) 1 : Nat) : Int), ((C + cnt t (c.drop i) 2 : Nat) : Int)]
  | 0, i, A, B, C, hi, hs => by
    have : i = c.length := by omega
    subst this
    rw [List.drop_length]; rfl
  | m + 1, i, A, B, C, hi, hs => by
    have hlt : i < c.length := by omega
    have hw2 : IntKind.wrap .i64 ((i : Int) + 1) = ((i + 1 : Nat) : Int) := by rw [wr] <;> omega
    have hli := hc _ (List.getElem_mem hlt)
    have hA : IntKind.wrap .i64 ((A : Int) + 1) = ((A + 1 : Nat) : Int) := by rw [wr] <;> omega
    have hB : IntKind.wrap .i64 ((B : Int) + 1) = ((B + 1 : Nat) : Int) := by rw [wr] <;> omega
    have hC : IntKind.wrap .i64 ((C : Int) + 1) = ((C + 1 : Nat) : Int) := by rw [wr] <;> omega
    rw [spiritlevellaw15_UnitStates.l0_eq, cd, if_pos (by omega), gsome hlt, Option.bind_some, ref14_Is_eq (by omega) ht, Option.bind_some, hw2, drop_cons hlt, cnt_cons, cnt_cons, cnt_cons]
    rcases isS_cases t c[i] with h | h | h
    · rw [h]
      show spiritlevellaw15_UnitStates.l0 c k ok st x e ((i + 1 : Nat) : Int) v t s [IntKind.wrap .i64 ((A : Int) + 1), (B : Int), (C : Int)] = _
      rw [hA, UnitStates.count ht hv hc hl m (i + 1) (A + 1) B C (by omega) (by omega)]
      rw [if_pos rfl, if_neg (by decide), if_neg (by decide), Nat.zero_add, Nat.zero_add, Nat.add_assoc]
    · rw [h]
      show spiritlevellaw15_UnitStates.l0 c k ok st x e ((i + 1 : Nat) : Int) v t s [(A : Int), IntKind.wrap .i64 ((B : Int) + 1), (C : Int)] = _
      rw [hB, UnitStates.count ht hv hc hl m (i + 1) A (B + 1) C (by omega) (by omega)]
      rw [if_pos rfl, if_neg (by decide), if_neg (by decide), Nat.zero_add, Nat.zero_add, Nat.add_assoc]
    · rw [h]
      show spiritlevellaw15_UnitStates.l0 c k ok st x e ((i + 1 : Nat) : Int) v t s [(A : Int), (B : Int), IntKind.wrap .i64 ((C : Int) + 1)] = _
      rw [hC, UnitStates.count ht hv hc hl m (i + 1) A B (C + 1) (by omega) (by omega)]
      rw [if_pos rfl, if_neg (by decide), if_neg (by decide), Nat.zero_add, Nat.zero_add, Nat.add_assoc]

theorem stC_true {t c : List Int} (h : cnt t c 1 ≠ 0) : stC t c = (1, 0) := by
  unfold stC
  rw [if_pos]
  rw [List.any_eq_true]
  obtain ⟨x, hx⟩ := List.exists_mem_of_length_pos (Nat.pos_of_ne_zero h)
  exact ⟨x, (List.mem_filter.1 hx).1, (List.mem_filter.1 hx).2⟩

theorem stC_open {t c : List Int} (h : cnt t c 1 = 0) : (cnt t c 2 = 0 → stC t c = (0, 0)) ∧ (cnt t c 2 = 1 → ∃ x, stC t c = (3, x)) ∧ (2 ≤ cnt t c 2 → stC t c = (2, 0)) := by
  have hn : ¬ (c.any (fun l => decide (isS t l = 1)) = true) := by
    rw [List.any_eq_true]
    rintro ⟨x, h1, h2⟩
    have : x ∈ c.filter (fun l => decide (isS t l = 1)) := List.mem_filter.2 ⟨h1, h2⟩
    rw [List.eq_nil_of_length_eq_zero h] at this
    cases this
  unfold cnt stC
  rw [if_neg hn]
  cases c.filter (fun l => decide (isS t l = 2)) with
  | nil => simp
  | cons a r =>
    cases r with
    | nil => simp
    | cons b r => simp

/-- The end of UnitStates, of any clause that is left. -/
theorem UnitStates.tail {v : Int} {t s c : List Int} (h : okA v t s) (hc : okC v c) (hl : c.length ≤ 100) {k : Int} {z : Int} (hz : z = (stC t c).1) (hk : in64 k) :
    (bif (decide (k < (0 : Int))) then (some true) else (bif (decide (k ≥ (List.length c : Int))) then (some true) else ((subl c (0 : Int) k).bind fun l20_ => (app ([] : List Int) l20_).bind fun l21_ => (subl c (IntKind.wrap .i64 (k + (1 : Int))) (List.length c : Int)).bind fun l22_ => (app l21_ l22_).bind fun l23_ => (unit_State v t s l23_).bind fun r24_ => bif true then (bif (r24_.2.2 == (0 : Int)) then (bif (r24_.1 != (2 : Int)) then (some true) else (bif (z == (2 : Int)) then (some true) else (some (z == (1 : Int))))) else (some false)) else (some false)))) = some true := by
  have hv := h.vars
  have hsh := h.short
  rw [cd, cd]
  by_cases g1 : k < 0
  · rw [if_pos g1]
  · rw [if_neg g1]
    by_cases g2 : k ≥ (c.length : Int)
    · rw [if_pos g2]
    · rw [if_neg g2]
      have hw : IntKind.wrap .i64 (k + 1) = k + 1 := by rw [wr] <;> omega
      have s1 : subl c 0 k = some (c.take k.toNat) := by unfold subl; rw [if_pos (by omega)]; simp
      have s2 : subl c (k + 1) (c.length : Int) = some (c.drop (k + 1).toNat) := by unfold subl; rw [if_pos (by omega)]; simp
      rw [hw, s1, Option.bind_some, app_ok (by simp; omega), Option.bind_some, List.nil_append, s2, Option.bind_some, app_ok (by simp; omega), Option.bind_some]
      have hsub : List.Sublist (c.take k.toNat ++ c.drop (k + 1).toNat) c := by
        have e : c.take k.toNat ++ c.drop k.toNat = c := List.take_append_drop ..
        conv => rhs; rw [← e]
        refine List.Sublist.append (List.Sublist.refl _) ?_
        have : (k + 1).toNat = k.toNat + 1 := by omega
        rw [this]
        exact List.drop_sublist_drop_left c (Nat.le_succ _)
      generalize c.take k.toNat ++ c.drop (k + 1).toNat = d at *
      have hd : okC v d := ⟨fun l hl => hc.1 l (hsub.subset hl), hc.2.sublist hsub⟩
      have hdl := hsub.length_le
      rw [unit_State_eq (by omega) (by omega) (fun l hl => lit64 hv (h.lits l hl)) (by omega) (fun l hl => lit64 hv (hd.1 l hl)), Option.bind_some]
      unfold stateC
      rw [if_pos h, if_pos hd]
      simp only [cond_true, ce, cn, if_true]
      by_cases hd2 : (stC t d).1 = 2
      · rw [if_pos hd2]
        by_cases hz2 : z = 2
        · rw [if_pos hz2]
        · rw [if_neg hz2]
          have hd1 : cnt t d 1 = 0 := Classical.byContradiction fun hne => by rw [stC_true hne] at hd2; simp at hd2
          have hd3 : 2 ≤ cnt t d 2 := by
            obtain ⟨o1, o2, o3⟩ := stC_open hd1
            apply Classical.byContradiction
            intro hlt
            have : cnt t d 2 = 0 ∨ cnt t d 2 = 1 := by omega
            rcases this with h0 | h0
            · rw [o1 h0] at hd2; simp at hd2
            · obtain ⟨x, hx⟩ := o2 h0
              rw [hx] at hd2; simp at hd2
          have hc2 : cnt t d 2 ≤ cnt t c 2 := (hsub.filter _).length_le
          by_cases h1 : cnt t c 1 = 0
          · exact absurd (by rw [hz, (stC_open h1).2.2 (by omega)]) hz2
          · rw [hz, stC_true h1]; rfl
      · rw [if_neg hd2]
    
theorem UnitStates_pure (a : Int × List Int × List Int) (c : List Int) (k : Int) (ha : okD TA a) (hc : okD TL c) (hk : okD (.int .i64) k) : spiritlevellaw15_UnitStates a.1 a.2.1 a.2.2 c k = some true := by
  obtain ⟨a0, ⟨a1, a2⟩, a3, a4⟩ := okTA ha
  obtain ⟨c1, c2⟩ := okTL hc
  have hk := wf64 hk
  rw [spiritlevellaw15_UnitStates.eq, alive_eq, Option.bind_some, ref14_Great_eq, Option.bind_some, cd]
  split
  · rfl
  · rw [cd]
    split
    · rfl
    · rename_i hcl
      rw [ref14_Check_eq a1 a3, Option.bind_some, cn]
      by_cases hok : okA a.1 a.2.1 a.2.2
      · have hv := hok.vars
        rw [if_pos hok, if_pos rfl, ref13_Check_eq c1, Option.bind_some, cn, if_pos hv]
        by_cases hcc : okC a.1 c
        · rw [if_pos hcc, if_pos rfl, cnot, ct, unit_State_eq a1 a3 a2 c1 c2, Option.bind_some]
          have hcount := UnitStates.count (k := k) (st := (stC a.2.1 c).1) (x := (stC a.2.1 c).2) (e := 0) (ok := true) (s := a.2.2) a1 hv hcc.1 (by omega) c.length 0 0 0 0 (by omega) (by omega)
          rw [List.drop_zero, Nat.zero_add, Nat.zero_add, Nat.zero_add, show ((0 : Nat) : Int) = 0 from rfl] at hcount
          unfold stateC
          rw [if_pos hok, if_pos hcc]
          show spiritlevellaw15_UnitStates.l0 c k true (stC a.2.1 c).1 (stC a.2.1 c).2 0 0 a.1 a.2.1 a.2.2 [0, 0, 0] = _
          have htail := UnitStates.tail (k := k) hok hcc (by omega) rfl hk
          have hlit : (stC a.2.1 c).2 ≠ 0 → (stC a.2.1 c).2 ∈ c ∧ isS a.2.1 (stC a.2.1 c).2 = 2 := fun hne => by
            refine stC_unit ?_
            by_cases q1 : cnt a.2.1 c 1 = 0
            · obtain ⟨o1, o2, o3⟩ := stC_open q1
              have : cnt a.2.1 c 2 = 0 ∨ cnt a.2.1 c 2 = 1 ∨ 2 ≤ cnt a.2.1 c 2 := by omega
              rcases this with h | h | h
              · rw [o1 h] at hne; simp at hne
              · obtain ⟨x, hx⟩ := o2 h; rw [hx]
              · rw [o3 h] at hne; simp at hne
            · rw [stC_true q1] at hne; simp at hne
          have hu : (((stC a.2.1 c).2 != 0) == ((stC a.2.1 c).1 == 3)) = true := by
            by_cases q : (stC a.2.1 c).1 = 3
            · have := hcc.1 _ (stC_unit q).1
              have h0 : (stC a.2.1 c).2 ≠ 0 := by omega
              rw [q]; simp [h0]
            · have : (stC a.2.1 c).2 = 0 := Classical.byContradiction fun hne => by
                apply q
                by_cases q1 : cnt a.2.1 c 1 = 0
                · obtain ⟨o1, o2, o3⟩ := stC_open q1
                  have : cnt a.2.1 c 2 = 0 ∨ cnt a.2.1 c 2 = 1 ∨ 2 ≤ cnt a.2.1 c 2 := by omega
                  rcases this with h | h | h
                  · rw [o1 h] at hne; simp at hne
                  · obtain ⟨x, hx⟩ := o2 h; rw [hx]
                  · rw [o3 h] at hne; simp at hne
                · rw [stC_true q1] at hne; simp at hne
              rw [this]; simp [q]
          rw [hcount, spiritlevellaw15_UnitStates.l0_eq, cd, if_neg (by omega)]
          have hmid : ∀ {A : Option Bool}, A = some true → (bif ((stC a.2.1 c).2 != 0) then ((spiritlevelref13_Has c (stC a.2.1 c).2).bind fun r18_ => bif (!r18_) then (some false) else ((spiritlevelref14_Is a.1 a.2.1 a.2.2 (stC a.2.1 c).2).bind fun r19_ => bif (r19_ != (2 : Int)) then (some false) else A)) else A) = some true := fun {A} hA => by
            rw [cn]
            by_cases q : (stC a.2.1 c).2 = 0
            · rw [if_pos q]; exact hA
            · obtain ⟨g1, g2⟩ := hlit q
              have := hcc.1 _ g1
              rw [if_neg q, ref13_Has_eq c1, Option.bind_some, decide_eq_true g1, Bool.not_true, cf, ref14_Is_eq (by omega) a1, Option.bind_some, g2, cn, if_pos rfl]
              exact hA
          by_cases q1 : cnt a.2.1 c 1 = 0
          · obtain ⟨o1, o2, o3⟩ := stC_open q1
            have hwant : geti [(0 : Int), 3, 2] (if ((cnt a.2.1 c 2 : Nat) : Int) < 2 then ((cnt a.2.1 c 2 : Nat) : Int) else 2) = some (stC a.2.1 c).1 ∧ [(0 : Int), 3, 2][(Int.toNat (if ((cnt a.2.1 c 2 : Nat) : Int) < 2 then ((cnt a.2.1 c 2 : Nat) : Int) else 2))]? = some (stC a.2.1 c).1 := by
              have : cnt a.2.1 c 2 = 0 ∨ cnt a.2.1 c 2 = 1 ∨ 2 ≤ cnt a.2.1 c 2 := by omega
              rcases this with h | h | h
              · rw [h, o1 h]; exact ⟨rfl, rfl⟩
              · obtain ⟨x, hx⟩ := o2 h; rw [h, hx]; exact ⟨rfl, rfl⟩
              · rw [if_neg (by omega), o3 h]; exact ⟨rfl, rfl⟩
            show (bif (((cnt a.2.1 c 1 : Nat) : Int) == 0) then _ else _) = _
            rw [q1, show ((0 : Nat) : Int) = 0 from rfl, beq_self_eq_true, ct]
            show (geti ([(0 : Int), (3 : Int), (2 : Int)] : List Int) (if ((cnt a.2.1 c 2 : Nat) : Int) < (2 : Int) then ((cnt a.2.1 c 2 : Nat) : Int) else (2 : Int))).bind _ = _
            rw [hwant.1, Option.bind_some, hwant.2, Option.bind_some, cn, if_pos rfl, cn, if_pos rfl, hu, Bool.not_true, cf]
            exact hmid htail
          · show (bif (((cnt a.2.1 c 1 : Nat) : Int) == 0) then _ else _) = _
            rw [ce, if_neg (by omega), cn, if_pos rfl]
            have h1 : (stC a.2.1 c).1 = 1 := by rw [stC_true q1]
            rw [cn, if_pos h1, hu, Bool.not_true, cf]
            exact hmid htail
        · rw [if_neg hcc, if_neg (by omega)]
      · rw [if_neg hok, if_neg (by omega)]

end Go.Proofs.Ytmefbjdhmlhkjaa
