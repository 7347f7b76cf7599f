/- . -/
import Derived.Test.YthbkhndapkbgbaaGreatPC7
import Derived.Test.YthbkhndapkbgbaaGreatPS5
namespace Go.Proofs.YthbkhndapkbgbaaGreat
open Go Go.Proofs.YthbkhndapkbgbaaGreat.R
set_option linter.unusedVariables false

section
variable {I : Int} {Ls As : List (Int × Int)} {Bs Cs : List Int} {f n : Nat}

theorem values_leaves (h : Sized I Ls As Bs Cs) (hc : checkG I Ls As Bs Cs = 0) {lv : List Bool} (hlv : (lv.length : Int) = I + Ls.length) : ∃ V, values_All I Ls As Bs Cs (lv.drop I.toNat) (lv.take I.toNat) = some (V, 0) ∧ Agree (firstN I Ls) (size I Ls As).toNat As V ∧ ∀ j, j < lv.length → V.getD (j + 1) false = lv.getD j false := by
  have hb := checkG_before hc
  obtain ⟨k1, k2, _⟩ := checkG_zero hc
  obtain ⟨k2, k3, _⟩ := k2
  obtain ⟨ins, hins0⟩ : ∃ ins, lv.take I.toNat = ins := ⟨_, rfl⟩
  obtain ⟨st, hst0⟩ : ∃ st, lv.drop I.toNat = st := ⟨_, rfl⟩
  have hlist : ins ++ st = lv := by rw [← hins0, ← hst0, List.take_append_drop]
  have hi : (ins.length : Int) = I := by rw [← hins0, List.length_take]; omega
  have hs : st.length = Ls.length := by rw [← hst0, List.length_drop]; omega
  rw [hins0, hst0]
  have hf : ((firstN I Ls : Nat) : Int) = 1 + I + Ls.length := by unfold firstN; omega
  have hsz : firstN I Ls + As.length = (size I Ls As).toNat + 1 := by unfold firstN size; omega
  have hs1 : (size I Ls As).toNat ≤ 1000 := by unfold size; omega
  have hs0 : size I Ls As = (((size I Ls As).toNat : Nat) : Int) := by unfold size; omega
  have hins : ins.length ≤ (size I Ls As).toNat := by unfold size; omega
  have w1 : IntKind.wrap .i64 (size I Ls As + 1) = (((size I Ls As).toNat + 1 : Nat) : Int) := by rw [wr] <;> omega
  have w2 : IntKind.wrap .i64 (1 + (ins.length : Int)) = ((1 + ins.length : Nat) : Int) := by rw [wr] <;> omega
  have w3 : IntKind.wrap .i64 (((1 + ins.length : Nat) : Int) + (st.length : Int)) = ((firstN I Ls : Nat) : Int) := by rw [wr] <;> omega
  rw [values_All.eq, gates_Vars_eq h, Option.bind_some, if_pos hc]
  dsimp only
  rw [cn, if_pos rfl, cn, if_pos (by omega), cn, if_pos hi, w1, mkl_ok (by omega) (by omega), Option.bind_some, if_pos rfl, Int.toNat_natCast, List.length_replicate,
    show Int.toNat (1 : Int) = 1 from rfl, show Int.toNat ((((size I Ls As).toNat + 1 : Nat) : Int) - 1) = (size I Ls As).toNat by omega, List.take_of_length_le hins, w2, w3,
    show Int.toNat (((1 + ins.length : Nat) : Int)) = 1 + ins.length from rfl, show Int.toNat (((firstN I Ls : Nat) : Int) - ((1 + ins.length : Nat) : Int)) = st.length by omega,
    cpyL_all hins, show (List.replicate ((size I Ls As).toNat + 1) false).take 1 = [false] from rfl]
  generalize hV1 : [false] ++ ins ++ (List.replicate ((size I Ls As).toNat + 1) false).drop (1 + ins.length) = V1
  have hl1 : V1.length = (size I Ls As).toNat + 1 := by rw [← hV1]; simp; omega
  have ht1 : V1.take (1 + ins.length) = [false] ++ ins := by rw [← hV1]; exact List.take_left' (by simp; omega)
  rw [cpyL_all (Nat.le_refl _), ht1]
  generalize hV2 : [false] ++ ins ++ st ++ V1.drop (1 + ins.length + st.length) = V2
  have hl2 : V2.length = (size I Ls As).toNat + 1 := by rw [← hV2]; simp; omega
  have hV2' : V2 = false :: (lv ++ V1.drop (1 + ins.length + st.length)) := by rw [← hV2, ← hlist]; simp
  have c1 : (decide ((0 : Int) ≤ 1) && decide ((1 : Int) ≤ (((size I Ls As).toNat + 1 : Nat) : Int)) && decide ((((size I Ls As).toNat + 1 : Nat) : Int) ≤ (((size I Ls As).toNat + 1 : Nat) : Int))) = true := by
    rw [Bool.and_eq_true, Bool.and_eq_true, decide_eq_true_eq, decide_eq_true_eq, decide_eq_true_eq]; omega
  have c2 : (decide ((0 : Int) ≤ ((1 + ins.length : Nat) : Int)) && decide (((1 + ins.length : Nat) : Int) ≤ ((firstN I Ls : Nat) : Int)) && decide (((firstN I Ls : Nat) : Int) ≤ (V1.length : Int))) = true := by
    rw [Bool.and_eq_true, Bool.and_eq_true, decide_eq_true_eq, decide_eq_true_eq, decide_eq_true_eq]; omega
  rw [c1, show chk true = some () from rfl, Option.bind_some, c2, show chk true = some () from rfl, Option.bind_some, if_pos rfl]
  have g := values_All.loop (I := I) (Ls := Ls) (Bs := Bs) (Cs := Cs) hb (by omega) As.length 0 V2 (by omega) (by omega)
  obtain ⟨r1, r2, r3⟩ := evalG_spec hb As.length 0 V2 (by omega) (by omega)
  rw [List.drop_zero] at g r1 r2 r3
  refine ⟨_, g, ⟨by rw [r1]; exact hl2, by rw [r2 0 (by omega), hV2']; rfl, fun k hk => r3 k (by omega) hk⟩, fun j hj => ?_⟩
  rw [r2 (j + 1) (by omega), hV2', List.getD_cons_succ, List.getD_eq_getElem?_getD, List.getElem?_append_left hj, List.getD_eq_getElem?_getD]

theorem ref22_True_eq {v : Int} (hv : okV v) {W : List Bool} (hW : (W.length : Int) = v) {l : Int} (hl : isLit v l) : spiritlevelref22_True l W = some (truth W l) := by
  rw [spiritlevelref22_True.eq, cd, if_neg (by omega), ref13_Truth_eq hv hW hl, Option.bind_some]

theorem truth_two {W : List Bool} {c : Nat} (h : 1 ≤ c) : truth W (2 * (c : Int)) = W.getD (c - 1) false := by
  unfold truth
  rw [if_neg (by omega), show (2 * (c : Int) / 2 - 1).toNat = c - 1 by omega]

def lvL (M W : List Bool) (m : Nat) : List Bool := (List.range m).map fun j => if M.getD (j + 1) false = true then W.getD (cntM M (j + 1) - 1) false else false

theorem framed.loop1 {M V W : List Bool} (hn : n ≤ 1000) (hV : V.length = n + 1) (hz : V.getD 0 false = false) (hW : (W.length : Int) = (cntM M n : Int)) (hall : ∀ i, 1 ≤ i → i ≤ n → M.getD i false = true → W.getD (cntM M i - 1) false = V.getD i false) {v : Int} {cl : List (List Int)} : ∀ (m i : Nat), i + m = n + 1 →
    spiritlevellaw22_framed.l1 W (i : Int) v [rowM M (n + 1) n] cl V = some true
  | 0, i, hi => by rw [spiritlevellaw22_framed.l1_eq, cd, if_neg (by omega)]
  | m + 1, i, hi => by
    have ih := framed.loop1 hn hV hz hW hall (v := v) (cl := cl) m (i + 1) (by omega)
    have hlt : i < V.length := by omega
    have hw : IntKind.wrap .i64 ((i : Int) + 1) = ((i + 1 : Nat) : Int) := by rw [wr] <;> omega
    have hr : i < (rowM M (n + 1) n).length := by rw [rowM_len]; omega
    have hrow := rowM_get (M := M) (N := n + 1) (k := n) (v := i) (by omega)
    have hcn := cntM_le (M := M) (a := 0) (b := n) (by omega)
    rw [cntM] at hcn
    rw [spiritlevellaw22_framed.l1_eq, cd, if_pos (by omega), show geti [rowM M (n + 1) n] 0 = some (rowM M (n + 1) n) from rfl, Option.bind_some, getI hr, Option.bind_some, hw, cd]
    by_cases h0 : i = 0
    · rw [if_pos h0] at hrow
      rw [hrow, if_pos (by omega), Option.bind_some, getI hr, Option.bind_some, hrow, spiritlevelref22_True.eq, cd, if_pos (by omega), Option.bind_some, getB hlt, Option.bind_some, Int.toNat_natCast, gdB hlt, Option.bind_some, h0, hz]
      rw [h0] at ih
      exact ih
    · rw [if_neg h0, if_pos (by omega)] at hrow
      by_cases hm : M.getD i false = true
      · have hp := cntM_pos hm (by omega)
        have hle := (cntM_le (M := M) (a := i) (b := n) (by omega)).1
        rw [if_pos hm] at hrow
        rw [hrow, if_pos (by omega), Option.bind_some, getI hr, Option.bind_some, hrow, ref22_True_eq ⟨by omega, by omega⟩ hW (show isLit (cntM M n : Int) (2 * (cntM M i : Int)) from ⟨by omega, by omega⟩), Option.bind_some, getB hlt, Option.bind_some, Int.toNat_natCast, gdB hlt, Option.bind_some,
          truth_two (by omega), hall i (by omega) (by omega) hm, beq_self_eq_true]
        exact ih
      · rw [if_neg hm] at hrow
        rw [hrow, if_neg (by omega)]
        exact ih

theorem framed.loop0 {M W : List Bool} (hI : 0 ≤ I) (hn : n ≤ 1000) (hm : I + Ls.length ≤ n) (hW : (W.length : Int) = (cntM M n : Int)) {v : Int} {cl : List (List Int)} {p : Nat} (hp : (p : Int) = I + Ls.length) : ∀ (m k : Nat), k + m = p →
    spiritlevellaw22_framed.l0 W ((k + 1 : Nat) : Int) I Ls As Bs Cs v [rowM M (n + 1) n] cl (lvL M W k) = spiritlevellaw22_framed.l0 W ((p + 1 : Nat) : Int) I Ls As Bs Cs v [rowM M (n + 1) n] cl (lvL M W p)
  | 0, k, hk => by
    have : k = p := by omega
    subst this; rfl
  | m + 1, k, hk => by
    have w1 : IntKind.wrap .i64 (I + (Ls.length : Int)) = (p : Int) := by rw [wr] <;> omega
    have hw : IntKind.wrap .i64 (((k + 1 : Nat) : Int) + 1) = ((k + 1 + 1 : Nat) : Int) := by rw [wr] <;> omega
    have hr : k + 1 < (rowM M (n + 1) n).length := by rw [rowM_len]; omega
    have hrow := rowM_get (M := M) (N := n + 1) (k := n) (v := k + 1) (by omega)
    rw [if_neg (by omega), if_pos (by omega)] at hrow
    have hcn := cntM_le (M := M) (a := 0) (b := n) (by omega)
    rw [cntM] at hcn
    have hlen : (lvL M W k).length = k := by simp [lvL]
    have hnext : lvL M W (k + 1) = lvL M W k ++ [if M.getD (k + 1) false = true then W.getD (cntM M (k + 1) - 1) false else false] := by
      unfold lvL
      rw [List.range_succ, List.map_append, List.map_singleton]
    rw [← framed.loop0 hI hn hm hW hp m (k + 1) (by omega), spiritlevellaw22_framed.l0_eq (i8 := ((k + 1 : Nat) : Int)), w1, cd, if_pos (by omega), show geti [rowM M (n + 1) n] 0 = some (rowM M (n + 1) n) from rfl, Option.bind_some, getI hr, Option.bind_some, hw, cd, hnext]
    by_cases hmk : M.getD (k + 1) false = true
    · have hpp := cntM_pos hmk (by omega)
      have hle := (cntM_le (M := M) (a := k + 1) (b := n) (by omega)).1
      rw [if_pos hmk] at hrow
      rw [hrow, if_pos (by omega), Option.bind_some, getI hr, Option.bind_some, hrow, ref22_True_eq ⟨by omega, by omega⟩ hW (show isLit (cntM M n : Int) (2 * (cntM M (k + 1) : Int)) from ⟨by omega, by omega⟩), Option.bind_some, truth_two (by omega), app_ok (by simp; omega), Option.bind_some, if_pos hmk]
    · rw [if_neg hmk] at hrow
      rw [hrow, if_neg (by omega), app_ok (by simp; omega), Option.bind_some, if_neg hmk]

theorem framed_true (h : Sized I Ls As Bs Cs) (hc : checkG I Ls As Bs Cs = 0) {M W : List Bool} (hcl : Closed (firstN I Ls) As M) (hW : (W.length : Int) = (cntM M (size I Ls As).toNat : Int))
    (hs : sat W (gatesC M (rowM M ((size I Ls As).toNat + 1) (size I Ls As).toNat) (firstN I Ls) As []) = true) {cl : List (List Int)} :
    spiritlevellaw22_framed I Ls As Bs Cs (cntM M (size I Ls As).toNat : Int) [rowM M ((size I Ls As).toNat + 1) (size I Ls As).toNat] cl W = some true := by
  have hb := checkG_before hc
  obtain ⟨k1, k2, _⟩ := checkG_zero hc
  obtain ⟨k2, k3, _⟩ := k2
  have hf : ((firstN I Ls : Nat) : Int) = 1 + I + Ls.length := by unfold firstN; omega
  have hsz : firstN I Ls + As.length = (size I Ls As).toNat + 1 := by unfold firstN size; omega
  have hs1 : (size I Ls As).toNat ≤ 1000 := by unfold size; omega
  have hle : I + Ls.length ≤ (size I Ls As).toNat := by unfold size; omega
  obtain ⟨p, hp⟩ : ∃ p : Nat, (p : Int) = I + Ls.length := ⟨(I + Ls.length).toNat, by omega⟩
  have hlen : (lvL M W p).length = p := by simp [lvL]
  obtain ⟨V, e1, hA, hV⟩ := values_leaves h hc (lv := lvL M W p) (by rw [hlen]; exact hp)
  have g0 := framed.loop0 (Ls := Ls) (As := As) (Bs := Bs) (Cs := Cs) (M := M) (W := W) (v := (cntM M (size I Ls As).toNat : Int)) (cl := cl) k1 hs1 hle hW hp p 0 (by omega)
  generalize hn : (size I Ls As).toNat = n at *
  generalize firstN I Ls = f at *
  -- the values that the clauses speak of
  have hV' : ∃ V' : List Bool, V'.length = n + 1 ∧ ∀ j, j < n + 1 → V'.getD j false = if j = 0 then false else if M.getD j false = true then W.getD (cntM M j - 1) false else V.getD j false :=
    ⟨(List.range (n + 1)).map fun j => if j = 0 then false else if M.getD j false = true then W.getD (cntM M j - 1) false else V.getD j false, by simp, fun j hj => by
      rw [List.getD_eq_getElem?_getD, List.getElem?_map, List.getElem?_range hj]; rfl⟩
  obtain ⟨V', l', hV'⟩ := hV'
  have hco : Corr M n W V' := ⟨by rw [hV' 0 (by omega), if_pos rfl], fun j j1 j2 j3 => by rw [hV' j (by omega), if_neg (by omega), if_pos j3]⟩
  have hsat := sat_gates hco hb hcl hsz As.length 0 [] (by omega)
  rw [List.drop_zero] at hsat
  have hgt : gatesG M V' f As = true := by
    have e : sat W (gatesC M (rowM M (n + 1) n) (f + 0) As []) = true := hs
    rw [hsat] at e
    exact e
  have gates : ∀ k, k < As.length → M.getD (f + k) false = true → V'.getD (f + k) false = (valL V' (As.getD k (0, 0)).1 && valL V' (As.getD k (0, 0)).2) := fun k hk hm => by
    apply Classical.byContradiction
    intro hne
    have := gatesG_false hk hm hne As.length 0 (by omega) (by omega)
    rw [List.drop_zero] at this
    have this : gatesG M V' f As = false := this
    rw [hgt] at this; cases this
  have low : ∀ j, 1 ≤ j → j < f → M.getD j false = true → V'.getD j false = V.getD j false := fun j j1 j2 hm => by
    have := hV (j - 1) (by rw [hlen]; omega)
    rw [show j - 1 + 1 = j by omega] at this
    have hg : (lvL M W p).getD (j - 1) false = W.getD (cntM M j - 1) false := by
      unfold lvL
      rw [List.getD_eq_getElem?_getD, List.getElem?_map, List.getElem?_range (by omega), Option.map_some, Option.getD_some, show j - 1 + 1 = j by omega, if_pos hm]
    rw [this, hg, hV' j (by omega), if_neg (by omega), if_pos hm]
  have hz : V'.getD 0 false = V.getD 0 false := by rw [hV' 0 (by omega), if_pos rfl, hA.zero]
  have same : ∀ k, k ≤ As.length → ∀ j, j < f + k → M.getD j false = true → V'.getD j false = V.getD j false := fun k => by
    induction k with
    | zero =>
      intro _ j hj hm
      by_cases j0 : j = 0
      · rw [j0]; exact hz
      · exact low j (by omega) (by omega) hm
    | succ k ih =>
      intro hk j hj hm
      rcases Nat.lt_or_ge j (f + k) with q | q
      · exact ih (by omega) j q hm
      · have : j = f + k := by omega
        subst this
        obtain ⟨b1, b2, b3⟩ := hb k (by omega)
        obtain ⟨c1, c2⟩ := hcl k (by omega) hm
        rw [gates k (by omega) hm, hA.gate k (by omega), valL_congr (ih (by omega) _ (by omega) c1), valL_congr (ih (by omega) _ (by omega) c2)]
  have hall : ∀ i, 1 ≤ i → i ≤ n → M.getD i false = true → W.getD (cntM M i - 1) false = V.getD i false := fun i i1 i2 hm => by
    rw [← same As.length (Nat.le_refl _) i (by omega) hm, hV' i (by omega), if_neg (by omega), if_pos hm]
  have w1 : IntKind.wrap .i64 (I + (Ls.length : Int)) = (p : Int) := by rw [wr] <;> omega
  have c1 : (decide ((0 : Int) ≤ I) && decide (I ≤ ((lvL M W p).length : Int)) && decide (((lvL M W p).length : Int) ≤ ((lvL M W p).length : Int))) = true := by
    rw [Bool.and_eq_true, Bool.and_eq_true, decide_eq_true_eq, decide_eq_true_eq, decide_eq_true_eq]; omega
  have c2 : (decide ((0 : Int) ≤ 0) && decide ((0 : Int) ≤ I) && decide (I ≤ ((lvL M W p).length : Int))) = true := by
    rw [Bool.and_eq_true, Bool.and_eq_true, decide_eq_true_eq, decide_eq_true_eq, decide_eq_true_eq]; omega
  have s1 : subOf (lvL M W p) I.toNat (((lvL M W p).length : Int) - I).toNat = (lvL M W p).drop I.toNat := by
    unfold subOf
    exact List.take_of_length_le (by rw [List.length_drop]; omega)
  have s2 : subOf (lvL M W p) (0 : Int).toNat (I - 0).toNat = (lvL M W p).take I.toNat := by
    unfold subOf
    rw [Int.sub_zero]; rfl
  have l1 := framed.loop1 (M := M) (V := V) (W := W) (v := (cntM M n : Int)) (cl := cl) hs1 hA.len hA.zero hW hall (n + 1) 0 (by omega)
  rw [spiritlevellaw22_framed.eq, cn, if_pos hW]
  refine g0.trans ?_
  rw [spiritlevellaw22_framed.l0_eq, w1, cd, if_neg (by omega), c1, show chk true = some () from rfl, Option.bind_some, c2, show chk true = some () from rfl, Option.bind_some, s1, s2, e1, Option.bind_some]
  dsimp only
  rw [cn, if_pos rfl, show geti [rowM M (n + 1) n] 0 = some (rowM M (n + 1) n) from rfl, Option.bind_some, cn, if_pos (by rw [hA.len, rowM_len])]
  exact l1


theorem single_sorted {l : Int} : spiritlevelref13_Sorted [l] = some [l] := by
  obtain ⟨S, e1, e2, e3, _⟩ := ref13_Sorted_ok (l := [l]) (by simp)
  rw [e1, sorted_unique e2 (List.pairwise_singleton ..) e3]

theorem none_sorted : spiritlevelref13_Sorted [] = some [] := by
  obtain ⟨S, e1, e2, e3, _⟩ := ref13_Sorted_ok (l := []) (by simp)
  rw [e1, sorted_unique e2 List.Pairwise.nil e3]

theorem ref22_Put_one {L : List (List Int)} {l : Int} (hL : L.length ≤ 1000) (h0 : 0 ≤ l ∧ l ≤ 1000000) : spiritlevelref22_Put L [l] = some (if l = 1 then L else if l = 0 then L ++ [[]] else L ++ [[l]]) := by
  have z1 : IntKind.wrap .i64 ((0 : Int) + 1) = 1 := by decide
  rw [spiritlevelref22_Put.eq, ref13_Has_eq (by simp), Option.bind_some, cd]
  by_cases h1 : l = 1
  · rw [if_pos h1, if_pos (by simp [h1])]
  · rw [if_neg h1, if_neg (by simp; omega), spiritlevelref13_Without.eq, spiritlevelref13_Without.l0_eq, cd, if_pos (by simp), show geti [l] 0 = some l from rfl, Option.bind_some, cn, z1]
    by_cases h2 : l = 0
    · rw [if_pos h2, if_pos h2, spiritlevelref13_Without.l0_eq, cd, if_neg (by simp), Option.bind_some, spiritlevelref13_Always.eq, spiritlevelref13_Always.l0_eq, cd, if_neg (by simp), Option.bind_some, cf, none_sorted, Option.bind_some, app_ok (by simp; omega), Option.bind_some]
    · have hne : neg l ∉ [l] := by rw [List.mem_singleton]; unfold neg; split <;> omega
      rw [if_neg h2, if_neg h2, Option.bind_some, app_ok (by simp), Option.bind_some, List.nil_append, spiritlevelref13_Without.l0_eq, cd, if_neg (by simp), Option.bind_some, spiritlevelref13_Always.eq, spiritlevelref13_Always.l0_eq, cd, if_pos (by simp), show geti [l] 0 = some l from rfl, Option.bind_some, ref13_Not_eq (by omega), Option.bind_some, ref13_Has_eq (by simp), Option.bind_some, decide_eq_false hne, cf, z1,
        spiritlevelref13_Always.l0_eq, cd, if_neg (by simp), Option.bind_some, cf, single_sorted, Option.bind_some, app_ok (by simp; omega), Option.bind_some]

theorem sat_models {W : List Bool} {cl : List (List Int)} : sat W cl = true ↔ Models cl W := by unfold sat; exact List.all_eq_true

theorem run_mod {v : Int} (hv : okV v) (h12 : v ≤ 12) {L : List (List Int)} (hL : okL v L) (hn : L.length ≤ 100) : ∃ r, solve_Run v L 5000 = some (r, 0) ∧ (r.1 = true → (r.2.1.length : Int) = v ∧ Models L r.2.1) ∧ (r.1 = false → ∀ W, ¬ Models L W) := by
  refine ⟨_, run5000 hv h12 hL (by omega), fun hr => ?_, fun hr W => (solR_ok hv hL).none hv hr W⟩
  have hr : (solR v L).1 = true := hr
  have hS := ((solR_ok hv hL).sat hr).1
  have e : (ansR v (solR v L)).2.1 = mdl v (solR v L).2.1 := by unfold ansR; rw [hr]; rfl
  rw [e]
  have := hv.1
  exact ⟨by rw [mdl_len]; omega, hS.2.1⟩

end

theorem TseitinModels_pure (c : Int × List (Int × Int) × List (Int × Int) × List Int × List Int) (lits : List Int) (at_ : Int) (hc : okD TC c) (hl : okD TL lits) (hk : okD (.int .i64) at_) : spiritlevellaw22_TseitinModels c.1 c.2.1 c.2.2.1 c.2.2.2.1 c.2.2.2.2 lits at_ = some true := by
  have hs := okTC hc
  obtain ⟨l1, l2⟩ := okTL hl
  obtain ⟨I, Ls, As, Bs, Cs⟩ := c
  dsimp only at *
  obtain ⟨b, b1, b2⟩ := fit22_eq hs l1
  rw [spiritlevellaw22_TseitinModels.eq, alive22_eq, Option.bind_some, b1, Option.bind_some]
  cases b with
  | false => rfl
  | true =>
    obtain ⟨c1, c2, c3⟩ := b2 rfl
    have hb := checkG_before c1
    obtain ⟨k1, k2, _⟩ := checkG_zero c1
    obtain ⟨k2, k3, _⟩ := k2
    rw [cnot, ct, ref02_Size_eq hs ⟨k1, k2⟩, Option.bind_some, cd]
    by_cases h10 : size I Ls As > 10
    · rw [if_pos h10]
    rw [if_neg h10, cd]
    by_cases h0 : at_ < 0
    · rw [if_pos h0]
    rw [if_neg h0, cd]
    by_cases h1 : at_ ≥ (lits.length : Int)
    · rw [if_pos h1]
    obtain ⟨k, rfl⟩ := Int.eq_ofNat_of_zero_le (show 0 ≤ at_ by omega)
    have hkl : k < lits.length := by omega
    have hf : ((firstN I Ls : Nat) : Int) = 1 + I + Ls.length := by unfold firstN; omega
    have hsz : firstN I Ls + As.length = (size I Ls As).toNat + 1 := by unfold firstN size; omega
    have hs0 : size I Ls As = (((size I Ls As).toNat : Nat) : Int) := by unfold size; omega
    have hs1 : (size I Ls As).toNat ≤ 10 := by omega
    have clo : Closed (firstN I Ls) As (coneM I Ls As lits) := fun k hk ht => coneC_closed hb (Nat.le_refl _) (by rw [markC_len, List.length_replicate]; omega) k hk ht
    have hof := of_ok hs (by omega) l2 c1 c2 rfl
    have hlit := litN_iff.1 (c2 _ (List.getElem_mem hkl))
    have hmark : (coneM I Ls As lits).getD (lits[k] / 2).toNat false = true := by
      refine coneC_ge hb (Nat.le_refl _) (by rw [markC_len, List.length_replicate]; omega) _ ?_
      rw [markC_get (List.length_replicate ..) (marks_in c1 c2), decide_eq_true ⟨_, List.getElem_mem hkl, rfl⟩, Bool.true_or]
    have hdef : coneM I Ls As lits = coneM I Ls As lits := rfl
    unfold tsC tsM at hof
    generalize coneM I Ls As lits = M at *
    have hcn := cntM_le (M := M) (a := 0) (b := (size I Ls As).toNat) (by omega)
    rw [cntM] at hcn
    have hv : okV (cntM M (size I Ls As).toNat : Int) := ⟨by omega, by omega⟩
    have hL : okL (cntM M (size I Ls As).toNat : Int) (gatesC M (rowM M ((size I Ls As).toNat + 1) (size I Ls As).toNat) (firstN I Ls) As []) := by
      have := okL_gates (M := M) hb clo hsz As.length 0 [] (by omega) (fun c h => by cases h)
      rw [List.drop_zero] at this
      exact this
    have hlen : (gatesC M (rowM M ((size I Ls As).toNat + 1) (size I Ls As).toNat) (firstN I Ls) As []).length ≤ 50 := by
      have g := gatesC_len (M := M) hb clo hsz As.length 0 [] (by omega)
      rw [List.drop_zero] at g
      simp only [Nat.add_zero] at g
      have le1 : ∀ ls, clen ls ≤ 1 := fun ls => by unfold clen; split <;> (try split) <;> omega
      have le2 : ∀ (r : List (Int × Int)) (a : Nat), sumG M a r ≤ 3 * r.length := fun r => by
        induction r with
        | nil => intro a; simp [sumG]
        | cons x r ih =>
          intro a
          have h := ih (a + 1)
          have q1 := le1 [2 * (a : Int) + 1, x.1]
          have q2 := le1 [2 * (a : Int) + 1, x.2]
          have q3 := le1 [2 * (a : Int), neg x.1, neg x.2]
          rw [sumG, List.length_cons]
          unfold glen
          split <;> omega
      have := le2 As (firstN I Ls)
      rw [g, List.length_nil]
      omega
    -- it has a model
    obtain ⟨V0, _, hA0⟩ := values_All_eq hs c1 (st := List.replicate Ls.length false) (ins := List.replicate I.toNat false) (by simp) (by simp; omega)
    have hmod : ∃ W, Models (gatesC M (rowM M ((size I Ls As).toNat + 1) (size I Ls As).toNat) (firstN I Ls) As []) W := by
      have stepW : ∀ i, i ≤ (size I Ls As).toNat → ∃ W : List Bool, W.length = cntM M i ∧ ∀ j, 1 ≤ j → j ≤ i → M.getD j false = true → W.getD (cntM M j - 1) false = V0.getD j false := fun i => by
        induction i with
        | zero => exact fun _ => ⟨[], rfl, fun j j1 j2 => by omega⟩
        | succ i ih =>
          intro hi
          obtain ⟨W, w1, w2⟩ := ih (by omega)
          by_cases hm : M.getD (i + 1) false = true
          · refine ⟨W ++ [V0.getD (i + 1) false], by rw [List.length_append, w1, cntM, if_pos hm]; rfl, fun j j1 j2 j3 => ?_⟩
            have hpj := cntM_pos j3 (by omega)
            by_cases e : j = i + 1
            · subst e
              rw [cntM, if_pos hm, Nat.add_sub_cancel, List.getD_eq_getElem?_getD, List.getElem?_append_right (by omega), w1, Nat.sub_self]; rfl
            · have hle := (cntM_le (M := M) (a := j) (b := i) (by omega)).1
              rw [List.getD_eq_getElem?_getD, List.getElem?_append_left (by omega), ← List.getD_eq_getElem?_getD]
              exact w2 j j1 (by omega) j3
          · refine ⟨W, by rw [w1, cntM, if_neg hm]; rfl, fun j j1 j2 j3 => ?_⟩
            by_cases e : j = i + 1
            · subst e; exact absurd j3 hm
            · exact w2 j j1 (by omega) j3
      obtain ⟨W, w1, w2⟩ := stepW _ (Nat.le_refl _)
      refine ⟨W, sat_models.1 ?_⟩
      have h := sat_gates (W := W) (V := V0) ⟨hA0.zero, w2⟩ hb clo hsz As.length 0 [] (by omega)
      rw [List.drop_zero] at h
      have ht := gatesG_true (M := M) (f := firstN I Ls) hA0.gate As.length 0 (by omega)
      rw [List.drop_zero] at ht
      exact h.trans ht
    have hck := ref22_Check_ok hv (row := rowM M ((size I Ls As).toNat + 1) (size I Ls As).toNat) (by rw [rowM_len]; omega) (by rw [rowM_len]; omega) (by rw [rowM_get (by omega), if_pos rfl]) rowM_rng (by omega) hL
    have hrl : litR (rowM M ((size I Ls As).toNat + 1) (size I Ls As).toNat) lits[k] = 2 * (cntM M (lits[k] / 2).toNat : Int) + lits[k] % 2 ∧ cntM M (lits[k] / 2).toNat ≤ cntM M (size I Ls As).toNat := row_lit hlit.1 (by omega) (.inr hmark)
    have hlitT : spiritlevelref22_Lit (rowM M ((size I Ls As).toNat + 1) (size I Ls As).toNat) lits[k] = some (2 * (cntM M (lits[k] / 2).toNat : Int) + lits[k] % 2) := by
      have ri : (lits[k] / 2).toNat < (rowM M ((size I Ls As).toNat + 1) (size I Ls As).toNat).length := by rw [rowM_len]; omega
      rw [spiritlevelref22_Lit.eq, half_w hlit.1 (by omega), getI ri, rowM_at (by omega) (.inr hmark), ce, tm hlit.1, Option.bind_some, Option.bind_some]
      by_cases e : lits[k] % 2 = 1
      · rw [if_pos e, spiritlevelref22_Not.eq, ref13_Not_eq (by omega), Option.bind_some, Option.bind_some, e]
        unfold neg
        rw [if_pos (by omega)]
      · rw [if_neg e, show lits[k] % 2 = 0 by omega, Int.add_zero]
    obtain ⟨g, g1, g2⟩ := ref19_Great.loop (v := (cntM M (size I Ls As).toNat : Int)) (L := gatesC M (rowM M ((size I Ls As).toNat + 1) (size I Ls As).toNat) (firstN I Ls) As []) (by omega) _ 0 (Nat.zero_add _) (by simp)
    have g1' : spiritlevelref19_Great (cntM M (size I Ls As).toNat : Int) (gatesC M (rowM M ((size I Ls As).toNat + 1) (size I Ls As).toNat) (firstN I Ls) As []) = some g := by rw [spiritlevelref19_Great.eq]; exact g1
    have w1 : IntKind.wrap .i64 (size I Ls As + 1) = size I Ls As + 1 := by rw [wr] <;> omega
    have hframe := fun W hW hS => framed_true (W := W) (cl := gatesC M (rowM M ((size I Ls As).toNat + 1) (size I Ls As).toNat) (firstN I Ls) As []) hs c1 clo hW hS
    generalize gatesC M (rowM M ((size I Ls As).toNat + 1) (size I Ls As).toNat) (firstN I Ls) As [] = L at *
    generalize hrow : rowM M ((size I Ls As).toNat + 1) (size I Ls As).toNat = row at *
    have hrlen : row.length = (size I Ls As).toNat + 1 := by rw [← hrow, rowM_len]
    obtain ⟨r, r1, r2, r3⟩ := run_mod hv (by omega) hL (by omega)
    have hrt : r.1 = true := by
      cases hr : r.1 with
      | true => rfl
      | false => exact absurd hmod.choose_spec (r3 hr _)
    obtain ⟨m1, m2⟩ := r2 hrt
    rw [if_neg h1, cnot, ct, hof, Option.bind_some]
    dsimp only
    rw [cn, if_pos rfl, hck, Option.bind_some, cn, if_pos rfl, cn, if_pos (by simp), show geti [row] 0 = some row from rfl, Option.bind_some, show ([row] : List (List Int))[Int.toNat 0]? = some row from rfl, Option.bind_some, Option.bind_some, w1, cn, if_pos (by omega), g1', Option.bind_some]
    cases g with
    | true => rw [ct, ce, if_pos rfl, Option.bind_some]
    | false =>
      have hput := ref22_Put_one (L := L) (l := 2 * (cntM M (lits[k] / 2).toNat : Int) + lits[k] % 2) (by omega) ⟨by omega, by omega⟩
      generalize hlv : 2 * (cntM M (lits[k] / 2).toNat : Int) + lits[k] % 2 = lv at *
      have hlvr : 0 ≤ lv ∧ lv ≤ 2 * (cntM M (size I Ls As).toNat : Int) + 1 := by omega
      obtain ⟨L2, hL2, hok2, hlen2, hsub2, hlast⟩ : ∃ L2, spiritlevelref22_Put L [lv] = some L2 ∧ okL (cntM M (size I Ls As).toNat : Int) L2 ∧ L2.length ≤ 100 ∧ (∀ W, Models L2 W → Models L W) ∧ (∀ W, (W.length : Int) = (cntM M (size I Ls As).toNat : Int) → Models L2 W → spiritlevelref22_True lv W = some true) := by
        refine ⟨_, hput, ?_⟩
        by_cases q1 : lv = 1
        · rw [if_pos q1]
          exact ⟨hL, by omega, fun W h => h, fun W _ _ => by rw [spiritlevelref22_True.eq, cd, if_pos (by omega), q1]; rfl⟩
        · rw [if_neg q1]
          by_cases q0 : lv = 0
          · rw [if_pos q0]
            refine ⟨fun c hcm => ?_, by simp; omega, fun W h c hcm => h c (List.mem_append_left _ hcm), fun W _ h => ?_⟩
            · rcases List.mem_append.1 hcm with q | q
              · exact hL c q
              · rw [List.mem_singleton] at q; subst q; exact ⟨by simp, List.Pairwise.nil⟩
            · have := h [] (by simp)
              simp at this
          · rw [if_neg q0]
            have hlitl : isLit (cntM M (size I Ls As).toNat : Int) lv := ⟨by omega, by omega⟩
            refine ⟨fun c hcm => ?_, by simp; omega, fun W h c hcm => h c (List.mem_append_left _ hcm), fun W hW h => ?_⟩
            · rcases List.mem_append.1 hcm with q | q
              · exact hL c q
              · rw [List.mem_singleton] at q; subst q
                exact ⟨fun x hx => by rw [List.mem_singleton] at hx; subst hx; exact hlitl, List.pairwise_singleton ..⟩
            · have := h [lv] (by simp)
              rw [ref22_True_eq hv hW hlitl]
              simpa using this
      obtain ⟨z, z1, z2, z3⟩ := run_mod hv (by omega) hok2 hlen2
      rw [cf, Option.bind_some, Option.bind_some, gsome hkl, Option.bind_some, hlitT, Option.bind_some, r1, Option.bind_some, spiritlevellaw22_TseitinModels.m0_eq, app_nil (by omega), Option.bind_some, hL2, Option.bind_some, z1, Option.bind_some, spiritlevellaw22_TseitinModels.m1_eq]
      dsimp only
      rw [cn, if_pos rfl, cn, if_pos rfl, hrt, cnot, ct, hframe _ m1 (sat_models.2 m2), Option.bind_some, cnot, ct, ct, cnot]
      cases hz : z.1 with
      | false => rfl
      | true =>
        obtain ⟨n1, n2⟩ := z2 hz
        rw [ct, hframe _ n1 (sat_models.2 (hsub2 _ n2)), Option.bind_some, ct, hlast _ n1 n2, Option.bind_some]

end Go.Proofs.YthbkhndapkbgbaaGreat
