/- . -/
import Derived.Test.YthbkhndapkbgbaaGreatPC5
namespace Go.Proofs.YthbkhndapkbgbaaGreat
open Go Go.Proofs.YthbkhndapkbgbaaGreat.R
set_option linter.unusedVariables false


theorem sm_check.loop {v : Int} (hv : okV v) {L : List (List Int)} (hn : L.length ≤ 100000) (hr : ∀ c ∈ L, c.length ≤ 140737488351232 ∧ ∀ x ∈ c, in64 x) : ∀ (n i : Nat), i + n = L.length → solve_check.l0 v L (L.length : Int) (i : Int) = some (if okL v (L.drop i) then 0 else 8)
  | 0, i, hi => by
    rw [solve_check.l0_eq, cd, if_neg (by omega), if_pos]
    rw [List.drop_of_length_le (by omega)]
    intro c hc; cases hc
  | n + 1, i, hi => by
    have hlt : i < L.length := by omega
    have hw : IntKind.wrap .i64 ((i : Int) + 1) = ((i + 1 : Nat) : Int) := by rw [wr] <;> omega
    obtain ⟨h1, h2⟩ := hr _ (List.getElem_mem hlt)
    rw [solve_check.l0_eq, cd, if_pos (by omega), gsome hlt, Option.bind_some, clause_Check_eq h1 h2, Option.bind_some, if_pos hv, cn, hw, sm_check.loop hv hn hr n (i + 1) (by omega), drop_cons hlt]
    by_cases hc : okC v L[i]
    · rw [if_pos hc, if_pos rfl]
      by_cases h3 : okL v (L.drop (i + 1))
      · rw [if_pos h3, if_pos]
        intro d hd
        rcases List.mem_cons.1 hd with h | h
        · rw [h]; exact hc
        · exact h3 d h
      · rw [if_neg h3, if_neg (fun h => h3 fun d hd => h d (List.mem_cons_of_mem _ hd))]
    · rw [if_neg hc, if_neg (by omega), if_neg (fun h => hc (h _ (List.mem_cons_self ..)))]


def valL (V : List Bool) (l : Int) : Bool := !(V.getD (l / 2).toNat false == decide (l % 2 = 1))

theorem values_of_eq {V : List Bool} {l : Int} (h0 : 0 ≤ l) (h1 : l ≤ 1000000) (hi : (l / 2).toNat < V.length) : values_of V l = some (valL V l) := by
  have hb : (l % 2 == (1 : Int)) = decide (l % 2 = 1) := by rw [Bool.eq_iff_iff]; simp
  rw [values_of.eq, shr1, show l / 2 = (((l / 2).toNat : Nat) : Int) by omega, getB hi, Option.bind_some, band_one h0 (by omega), hb]
  rfl

def evalG : Nat → List (Int × Int) → List Bool → List Bool
  | _, [], V => V
  | g, x :: r, V => evalG (g + 1) r (V.set g (valL V x.1 && valL V x.2))

theorem setV_get {V : List Bool} {g j : Nat} {b : Bool} (h : g < V.length) : (V.set g b).getD j false = if g = j then b else V.getD j false := by
  rw [List.getD_eq_getElem?_getD, List.getElem?_set, List.getD_eq_getElem?_getD]
  by_cases e : g = j
  · rw [if_pos e, if_pos h, if_pos e]; rfl
  · rw [if_neg e, if_neg e]

theorem valL_congr {V V' : List Bool} {l : Int} (h : V.getD (l / 2).toNat false = V'.getD (l / 2).toNat false) : valL V l = valL V' l := by unfold valL; rw [h]

section
variable {I : Int} {Ls As : List (Int × Int)} {Bs Cs : List Int} {f n : Nat}

theorem evalG_spec (hb : Before f As) : ∀ (m i : Nat) (V : List Bool), i + m = As.length → V.length = f + As.length → (evalG (f + i) (As.drop i) V).length = V.length ∧ (∀ j, j < f + i → (evalG (f + i) (As.drop i) V).getD j false = V.getD j false) ∧
    ∀ k, i ≤ k → k < As.length → (evalG (f + i) (As.drop i) V).getD (f + k) false = (valL (evalG (f + i) (As.drop i) V) (As.getD k (0, 0)).1 && valL (evalG (f + i) (As.drop i) V) (As.getD k (0, 0)).2)
  | 0, i, V, hi, hV => by
    rw [List.drop_of_length_le (by omega)]
    exact ⟨rfl, fun _ _ => rfl, fun k h1 h2 => by omega⟩
  | m + 1, i, V, hi, hV => by
    have hlt : i < As.length := by omega
    obtain ⟨b1, b2, b3⟩ := hb i hlt
    have hd : As.drop i = As.getD i (0, 0) :: As.drop (i + 1) := by
      rw [drop_cons hlt, List.getD_eq_getElem?_getD, List.getElem?_eq_getElem hlt]; rfl
    rw [hd, evalG]
    obtain ⟨r1, r2, r3⟩ := evalG_spec hb m (i + 1) (V.set (f + i) (valL V (As.getD i (0, 0)).1 && valL V (As.getD i (0, 0)).2)) (by omega) (by rw [List.length_set]; exact hV)
    rw [show f + (i + 1) = f + i + 1 from rfl] at r1 r2 r3
    refine ⟨by rw [r1, List.length_set], fun j hj => ?_, fun k h1 h2 => ?_⟩
    · rw [r2 j (by omega), setV_get (by omega), if_neg (by omega)]
    · by_cases e : k = i
      · subst e
        have old : ∀ {l : Int}, 0 ≤ l → l / 2 < (f : Int) + k → valL (evalG (f + k + 1) (As.drop (k + 1)) (V.set (f + k) (valL V (As.getD k (0, 0)).1 && valL V (As.getD k (0, 0)).2))) l = valL V l := fun h0 hl => valL_congr (by
          rw [r2 _ (by omega), setV_get (by omega), if_neg (by omega)])
        rw [r2 _ (by omega), setV_get (by omega), if_pos rfl, old (by omega) (by omega), old (by omega) (by omega)]
      · exact r3 k (by omega) h2

theorem values_All.loop (hb : Before f As) (hN : f + As.length ≤ 1001) : ∀ (m i : Nat) (V : List Bool), i + m = As.length → V.length = f + As.length →
    values_All.l0 (f : Int) (As.length : Int) (i : Int) I Ls As Bs Cs V = some (evalG (f + i) (As.drop i) V, 0)
  | 0, i, V, hi, hV => by
    rw [values_All.l0_eq, cd, if_neg (by omega), List.drop_of_length_le (by omega)]; rfl
  | m + 1, i, V, hi, hV => by
    have hlt : i < As.length := by omega
    obtain ⟨b1, b2, b3⟩ := hb i hlt
    have hd : As.drop i = As.getD i (0, 0) :: As.drop (i + 1) := by
      rw [drop_cons hlt, List.getD_eq_getElem?_getD, List.getElem?_eq_getElem hlt]; rfl
    have w1 : IntKind.wrap .i64 ((f : Int) + (i : Int)) = ((f + i : Nat) : Int) := by rw [wr] <;> omega
    have w2 : IntKind.wrap .i64 ((i : Int) + 1) = ((i + 1 : Nat) : Int) := by rw [wr] <;> omega
    have i1 : f + i < V.length := by omega
    have ih := fun b => values_All.loop hb hN m (i + 1) (V.set (f + i) b) (by omega) (by rw [List.length_set]; exact hV)
    rw [values_All.l0_eq, cd, if_pos (by omega), getP hlt, Option.bind_some, hd, evalG, w1, w2, getB i1, Int.toNat_natCast, gdB i1]
    generalize As.getD i (0, 0) = x at *
    rw [values_of_eq (by omega) (by omega) (by omega), Option.bind_some]
    cases valL V x.1 with
    | true =>
      rw [ct, Option.bind_some, values_of_eq (by omega) (by omega) (by omega), Option.bind_some, Option.bind_some, Option.bind_some, Bool.true_and]
      exact ih _
    | false =>
      rw [cf, Option.bind_some, Option.bind_some, Bool.false_and]
      exact ih _

structure Agree (f n : Nat) (As : List (Int × Int)) (V : List Bool) : Prop where
  len : V.length = n + 1
  zero : V.getD 0 false = false
  gate : ∀ k, k < As.length → V.getD (f + k) false = (valL V (As.getD k (0, 0)).1 && valL V (As.getD k (0, 0)).2)

theorem cpyL_all {l ys : List Bool} {off len : Nat} (h : ys.length ≤ len) : cpyL l off len ys = l.take off ++ ys ++ l.drop (off + ys.length) := by
  unfold cpyL; rw [List.take_of_length_le h]

theorem values_All_eq (h : Sized I Ls As Bs Cs) (hc : checkG I Ls As Bs Cs = 0) {st ins : List Bool} (hs : st.length = Ls.length) (hi : (ins.length : Int) = I) : ∃ V, values_All I Ls As Bs Cs st ins = some (V, 0) ∧ Agree (firstN I Ls) (size I Ls As).toNat As V := by
  have hb := checkG_before hc
  obtain ⟨k1, k2, _⟩ := checkG_zero hc
  obtain ⟨k2, k3, _⟩ := k2
  have hf : ((firstN I Ls : Nat) : Int) = 1 + I + Ls.length := by unfold firstN; omega
  have hsz : firstN I Ls + As.length = (size I Ls As).toNat + 1 := by unfold firstN size; omega
  have hs1 : (size I Ls As).toNat ≤ 1000 := by unfold size; omega
  have hs0 : size I Ls As = (((size I Ls As).toNat : Nat) : Int) := by unfold size; omega
  have hins : ins.length ≤ (size I Ls As).toNat := by unfold size; omega
  have w1 : IntKind.wrap .i64 (size I Ls As + 1) = (((size I Ls As).toNat + 1 : Nat) : Int) := by rw [wr] <;> omega
  have w2 : IntKind.wrap .i64 (1 + (ins.length : Int)) = ((1 + ins.length : Nat) : Int) := by rw [wr] <;> omega
  have w3 : IntKind.wrap .i64 (((1 + ins.length : Nat) : Int) + (st.length : Int)) = ((firstN I Ls : Nat) : Int) := by rw [wr] <;> omega
  rw [values_All.eq, gates_Vars_eq h, Option.bind_some, if_pos hc]
  dsimp only
  rw [cn, if_pos rfl, cn, if_pos (by omega), cn, if_pos hi, w1, mkl_ok (by omega) (by omega), Option.bind_some, if_pos rfl, Int.toNat_natCast, List.length_replicate,
    show Int.toNat (1 : Int) = 1 from rfl, show Int.toNat ((((size I Ls As).toNat + 1 : Nat) : Int) - 1) = (size I Ls As).toNat by omega, List.take_of_length_le hins, w2, w3,
    show Int.toNat (((1 + ins.length : Nat) : Int)) = 1 + ins.length from rfl, show Int.toNat (((firstN I Ls : Nat) : Int) - ((1 + ins.length : Nat) : Int)) = st.length by omega,
    cpyL_all hins]
  generalize hV1 : (List.replicate ((size I Ls As).toNat + 1) false).take 1 ++ ins ++ (List.replicate ((size I Ls As).toNat + 1) false).drop (1 + ins.length) = V1
  have hl1 : V1.length = (size I Ls As).toNat + 1 := by rw [← hV1]; simp; omega
  have hz1 : V1.getD 0 false = false := by rw [← hV1]; simp
  rw [cpyL_all (Nat.le_refl _)]
  generalize hV2 : V1.take (1 + ins.length) ++ st ++ V1.drop (1 + ins.length + st.length) = V2
  have hl2 : V2.length = (size I Ls As).toNat + 1 := by rw [← hV2]; simp; omega
  have hz2 : V2.getD 0 false = false := by
    rw [← hV2, List.getD_eq_getElem?_getD, List.append_assoc, List.getElem?_append_left (by simp; omega), List.getElem?_take_of_lt (by omega), ← List.getD_eq_getElem?_getD]
    exact hz1
  have c1 : (decide ((0 : Int) ≤ 1) && decide ((1 : Int) ≤ (((size I Ls As).toNat + 1 : Nat) : Int)) && decide ((((size I Ls As).toNat + 1 : Nat) : Int) ≤ (((size I Ls As).toNat + 1 : Nat) : Int))) = true := by
    rw [Bool.and_eq_true, Bool.and_eq_true, decide_eq_true_eq, decide_eq_true_eq, decide_eq_true_eq]; omega
  have c2 : (decide ((0 : Int) ≤ ((1 + ins.length : Nat) : Int)) && decide (((1 + ins.length : Nat) : Int) ≤ ((firstN I Ls : Nat) : Int)) && decide (((firstN I Ls : Nat) : Int) ≤ (V1.length : Int))) = true := by
    rw [Bool.and_eq_true, Bool.and_eq_true, decide_eq_true_eq, decide_eq_true_eq, decide_eq_true_eq]; omega
  rw [c1, show chk true = some () from rfl, Option.bind_some, c2, show chk true = some () from rfl, Option.bind_some, if_pos rfl]
  have g := values_All.loop (I := I) (Ls := Ls) (Bs := Bs) (Cs := Cs) hb (by omega) As.length 0 V2 (by omega) (by omega)
  obtain ⟨r1, r2, r3⟩ := evalG_spec hb As.length 0 V2 (by omega) (by omega)
  rw [List.drop_zero] at g r1 r2 r3
  exact ⟨_, g, ⟨by rw [r1]; exact hl2, by rw [r2 0 (by omega)]; exact hz2, fun k hk => r3 k (by omega) hk⟩⟩


structure Corr (M : List Bool) (n : Nat) (W V : List Bool) : Prop where
  zero : V.getD 0 false = false
  at_ : ∀ j, 1 ≤ j → j ≤ n → M.getD j false = true → W.getD (cntM M j - 1) false = V.getD j false

def sat (W : List Bool) (cl : List (List Int)) : Bool := cl.all fun c => c.any (truth W)

theorem mod_bool {l : Int} {b : Bool} (h : 0 ≤ l) : (if l % 2 = 1 then !b else b) = !(b == decide (l % 2 = 1)) := by
  by_cases e : l % 2 = 1
  · rw [if_pos e, decide_eq_true e]; cases b <;> rfl
  · rw [if_neg e, decide_eq_false e]; cases b <;> rfl

theorem truth_row {M W V : List Bool} (hc : Corr M n W V) {l : Int} (h0 : 0 ≤ l) (hl : (l / 2).toNat ≤ n) (h1 : 1 ≤ (l / 2).toNat) (hm : M.getD (l / 2).toNat false = true) : truth W (litR (rowM M (n + 1) n) l) = valL V l := by
  have hp := cntM_pos hm h1
  rw [(row_lit h0 hl (.inr hm)).1]
  unfold truth valL
  rw [← hc.at_ _ h1 hl hm, ← mod_bool h0, show (2 * (cntM M (l / 2).toNat : Int) + l % 2) % 2 = l % 2 by omega, show ((2 * (cntM M (l / 2).toNat : Int) + l % 2) / 2 - 1).toNat = cntM M (l / 2).toNat - 1 by omega]

theorem any_nrm {W : List Bool} {ls : List Int} : (nrm ls).any (truth W) = ls.any (truth W) := by
  rw [Bool.eq_iff_iff, List.any_eq_true, List.any_eq_true]
  constructor
  · rintro ⟨x, hx, e⟩; exact ⟨x, ((nrm_spec ls).2 x).1 hx, e⟩
  · rintro ⟨x, hx, e⟩; exact ⟨x, ((nrm_spec ls).2 x).2 hx, e⟩

theorem sat_addC {M W V : List Bool} (hc : Corr M n W V) {cl : List (List Int)} {ls : List Int} (h : ∀ l ∈ ls, 0 ≤ l ∧ (l / 2).toNat ≤ n ∧ ((l / 2).toNat = 0 ∨ M.getD (l / 2).toNat false = true)) : sat W (addC cl (ls.map (litR (rowM M (n + 1) n)))) = (sat W cl && ls.any (valL V)) := by
  have val : ∀ l ∈ ls, litR (rowM M (n + 1) n) l = 2 * (cntM M (l / 2).toNat : Int) + l % 2 ∧ (cntM M (l / 2).toNat = 0 ↔ (l / 2).toNat = 0) := fun l hl => by
    obtain ⟨h1, h2, h3⟩ := h l hl
    refine ⟨(row_lit h1 h2 h3).1, ?_⟩
    by_cases e : (l / 2).toNat = 0
    · rw [e, cntM]
    · rw [cntM_pos (h3.resolve_left e) (by omega)]; omega
  have tr : ∀ l ∈ ls, 1 < litR (rowM M (n + 1) n) l → truth W (litR (rowM M (n + 1) n) l) = valL V l := fun l hl h1 => by
    obtain ⟨g1, g2, g3⟩ := h l hl
    obtain ⟨v1, v2⟩ := val l hl
    have hne : (l / 2).toNat ≠ 0 := fun e => by have := v2.2 e; omega
    exact truth_row hc g1 g2 (by omega) (g3.resolve_left hne)
  have bigm : ∀ x, x ∈ big (ls.map (litR (rowM M (n + 1) n))) ↔ ∃ l ∈ ls, x = litR (rowM M (n + 1) n) l ∧ 1 < x := fun x => by
    unfold big
    rw [List.mem_filter, List.mem_map, decide_eq_true_eq]
    constructor
    · rintro ⟨⟨l, hl, rfl⟩, e⟩; exact ⟨l, hl, rfl, e⟩
    · rintro ⟨l, hl, rfl, e⟩; exact ⟨⟨l, hl, rfl⟩, e⟩
  unfold addC
  by_cases q1 : 1 ∈ ls.map (litR (rowM M (n + 1) n))
  · rw [if_pos q1]
    obtain ⟨l, hl, e⟩ := List.mem_map.1 q1
    obtain ⟨v1, v2⟩ := val l hl
    have h0 := (h l hl).1
    have hz : (l / 2).toNat = 0 := v2.1 (by omega)
    have hv : valL V l = true := by
      unfold valL
      rw [hz, hc.zero, decide_eq_true (by omega)]; rfl
    rw [List.any_eq_true.2 ⟨l, hl, hv⟩, Bool.and_true]
  · rw [if_neg q1]
    by_cases q2 : tautB (big (ls.map (litR (rowM M (n + 1) n)))) = true
    · rw [if_pos q2]
      obtain ⟨x, hx, y, hy, hne, he⟩ := tautB_iff.1 q2
      obtain ⟨a, ha, rfl, ha1⟩ := (bigm x).1 hx
      obtain ⟨b, hb, rfl, hb1⟩ := (bigm y).1 hy
      have t1 := tr a ha ha1
      have t2 := tr b hb hb1
      have va := (val a ha).1
      have vb := (val b hb).1
      have hsum : ls.any (valL V) = true := by
        cases hva : valL V a with
        | true => exact List.any_eq_true.2 ⟨a, ha, hva⟩
        | false =>
          refine List.any_eq_true.2 ⟨b, hb, ?_⟩
          have hbn : litR (rowM M (n + 1) n) b = neg (litR (rowM M (n + 1) n) a) := by unfold neg; split <;> omega
          rw [← t2, hbn, truth_neg (by omega), t1, hva]; rfl
      rw [hsum, Bool.and_true]
    · rw [if_neg q2]
      unfold sat
      rw [List.all_append, List.all_cons, List.all_nil, Bool.and_true, any_nrm]
      congr 1
      rw [Bool.eq_iff_iff, List.any_eq_true, List.any_eq_true]
      constructor
      · rintro ⟨x, hx, e⟩
        obtain ⟨l, hl, rfl, h1⟩ := (bigm x).1 hx
        exact ⟨l, hl, by rw [← tr l hl h1]; exact e⟩
      · rintro ⟨l, hl, e⟩
        obtain ⟨v1, v2⟩ := val l hl
        have h0 := (h l hl).1
        have h1 : 1 < litR (rowM M (n + 1) n) l := by
          apply Classical.byContradiction
          intro q
          have hz : (l / 2).toNat = 0 := v2.1 (by omega)
          have hl0 : litR (rowM M (n + 1) n) l ≠ 1 := fun w => q1 (List.mem_map.2 ⟨l, hl, w⟩)
          unfold valL at e
          rw [hz, hc.zero, decide_eq_false (by rw [v1] at hl0 q; omega)] at e
          cases e
        exact ⟨_, (bigm _).2 ⟨l, hl, rfl, h1⟩, by rw [tr l hl h1]; exact e⟩

def gateG (V : List Bool) (g : Int) (x : Int × Int) : Bool := [2 * g + 1, x.1].any (valL V) && [2 * g + 1, x.2].any (valL V) && [2 * g, neg x.1, neg x.2].any (valL V)
def gatesG (M V : List Bool) : Nat → List (Int × Int) → Bool
  | _, [] => true
  | g, x :: r => (if M.getD g false = true then gateG V g x else true) && gatesG M V (g + 1) r

theorem sat_gates {M W V : List Bool} (hc : Corr M n W V) (hb : Before f As) (hcl : Closed f As M) (hN : f + As.length = n + 1) : ∀ (m i : Nat) (cl : List (List Int)), i + m = As.length → sat W (gatesC M (rowM M (n + 1) n) (f + i) (As.drop i) cl) = (sat W cl && gatesG M V (f + i) (As.drop i))
  | 0, i, cl, hi => by rw [List.drop_of_length_le (by omega), gatesC, gatesG, Bool.and_true]
  | m + 1, i, cl, hi => by
    have hlt : i < As.length := by omega
    obtain ⟨b1, b2, b3⟩ := hb i hlt
    have hc' := hcl i hlt
    have hd : As.drop i = As.getD i (0, 0) :: As.drop (i + 1) := by
      rw [drop_cons hlt, List.getD_eq_getElem?_getD, List.getElem?_eq_getElem hlt]; rfl
    rw [hd, gatesC, gatesG, show f + i + 1 = f + (i + 1) from rfl, sat_gates hc hb hcl hN m (i + 1) _ (by omega), ← Bool.and_assoc]
    congr 1
    generalize As.getD i (0, 0) = x at *
    by_cases hm : M.getD (f + i) false = true
    · obtain ⟨c1, c2⟩ := hc' hm
      rw [if_pos hm, if_pos hm]
      have k1 : 0 ≤ 2 * ((f + i : Nat) : Int) ∧ (2 * ((f + i : Nat) : Int) / 2).toNat ≤ n ∧ ((2 * ((f + i : Nat) : Int) / 2).toNat = 0 ∨ M.getD (2 * ((f + i : Nat) : Int) / 2).toNat false = true) := by
        rw [show (2 * ((f + i : Nat) : Int) / 2).toNat = f + i by omega]
        exact ⟨by omega, by omega, .inr hm⟩
      have k2 : 0 ≤ 2 * ((f + i : Nat) : Int) + 1 ∧ ((2 * ((f + i : Nat) : Int) + 1) / 2).toNat ≤ n ∧ (((2 * ((f + i : Nat) : Int) + 1) / 2).toNat = 0 ∨ M.getD ((2 * ((f + i : Nat) : Int) + 1) / 2).toNat false = true) := by
        rw [show ((2 * ((f + i : Nat) : Int) + 1) / 2).toNat = f + i by omega]
        exact ⟨by omega, by omega, .inr hm⟩
      have k3 : 0 ≤ x.1 ∧ (x.1 / 2).toNat ≤ n ∧ ((x.1 / 2).toNat = 0 ∨ M.getD (x.1 / 2).toNat false = true) := ⟨by omega, by omega, .inr c1⟩
      have k4 : 0 ≤ x.2 ∧ (x.2 / 2).toNat ≤ n ∧ ((x.2 / 2).toNat = 0 ∨ M.getD (x.2 / 2).toNat false = true) := ⟨by omega, by omega, .inr c2⟩
      have k5 : 0 ≤ neg x.1 ∧ (neg x.1 / 2).toNat ≤ n ∧ ((neg x.1 / 2).toNat = 0 ∨ M.getD (neg x.1 / 2).toNat false = true) := by
        rw [neg_div]; exact ⟨by unfold neg; split <;> omega, k3.2⟩
      have k6 : 0 ≤ neg x.2 ∧ (neg x.2 / 2).toNat ≤ n ∧ ((neg x.2 / 2).toNat = 0 ∨ M.getD (neg x.2 / 2).toNat false = true) := by
        rw [neg_div]; exact ⟨by unfold neg; split <;> omega, k4.2⟩
      have m1 := fun cl => sat_addC hc (cl := cl) (ls := [2 * ((f + i : Nat) : Int) + 1, x.1]) (fun l hl => by
        rcases List.mem_cons.1 hl with rfl | hl
        · exact k2
        · rw [List.mem_singleton] at hl; subst hl; exact k3)
      have m2 := fun cl => sat_addC hc (cl := cl) (ls := [2 * ((f + i : Nat) : Int) + 1, x.2]) (fun l hl => by
        rcases List.mem_cons.1 hl with rfl | hl
        · exact k2
        · rw [List.mem_singleton] at hl; subst hl; exact k4)
      have m3 := fun cl => sat_addC hc (cl := cl) (ls := [2 * ((f + i : Nat) : Int), neg x.1, neg x.2]) (fun l hl => by
        rcases List.mem_cons.1 hl with rfl | hl
        · exact k1
        · rcases List.mem_cons.1 hl with rfl | hl
          · exact k5
          · rw [List.mem_singleton] at hl; subst hl; exact k6)
      simp only [List.map_cons, List.map_nil] at m1 m2 m3
      unfold gateC gateG
      rw [m3, m2, m1, Bool.and_assoc, Bool.and_assoc, Bool.and_assoc]
    · rw [if_neg hm, if_neg hm, Bool.and_true]

theorem valL_neg {V : List Bool} {l : Int} : valL V (neg l) = !valL V l := by
  unfold valL
  rw [neg_div]
  unfold neg
  by_cases e : l % 2 = 0
  · rw [if_pos e, decide_eq_true (show (l + 1) % 2 = 1 by omega), decide_eq_false (show ¬ l % 2 = 1 by omega)]
    cases V.getD (l / 2).toNat false <;> rfl
  · rw [if_neg e, decide_eq_false (show ¬ (l - 1) % 2 = 1 by omega), decide_eq_true (show l % 2 = 1 by omega)]
    cases V.getD (l / 2).toNat false <;> rfl

theorem gateG_eq {V : List Bool} {g : Nat} {x : Int × Int} : gateG V (g : Int) x = (V.getD g false == (valL V x.1 && valL V x.2)) := by
  have e1 : valL V (2 * (g : Int)) = V.getD g false := by
    unfold valL
    rw [show (2 * (g : Int) / 2).toNat = g by omega, decide_eq_false (show ¬ (2 * (g : Int)) % 2 = 1 by omega)]
    cases V.getD g false <;> rfl
  have e2 : valL V (2 * (g : Int) + 1) = !V.getD g false := by
    unfold valL
    rw [show ((2 * (g : Int) + 1) / 2).toNat = g by omega, decide_eq_true (show (2 * (g : Int) + 1) % 2 = 1 by omega)]
    cases V.getD g false <;> rfl
  unfold gateG
  simp only [List.any_cons, List.any_nil, e1, e2, valL_neg]
  cases V.getD g false <;> cases valL V x.1 <;> cases valL V x.2 <;> rfl

theorem gatesG_true {M V : List Bool} (hA : ∀ k, k < As.length → V.getD (f + k) false = (valL V (As.getD k (0, 0)).1 && valL V (As.getD k (0, 0)).2)) : ∀ (m i : Nat), i + m = As.length → gatesG M V (f + i) (As.drop i) = true
  | 0, i, hi => by rw [List.drop_of_length_le (by omega)]; rfl
  | m + 1, i, hi => by
    have hlt : i < As.length := by omega
    have hd : As.drop i = As.getD i (0, 0) :: As.drop (i + 1) := by
      rw [drop_cons hlt, List.getD_eq_getElem?_getD, List.getElem?_eq_getElem hlt]; rfl
    rw [hd, gatesG, gateG_eq, hA i hlt, show f + i + 1 = f + (i + 1) from rfl, gatesG_true hA m (i + 1) (by omega)]
    split <;> simp

theorem gatesG_false {M V : List Bool} {k : Nat} (hk : k < As.length) (hm : M.getD (f + k) false = true) (hA : V.getD (f + k) false ≠ (valL V (As.getD k (0, 0)).1 && valL V (As.getD k (0, 0)).2)) : ∀ (m i : Nat), i + m = As.length → i ≤ k → gatesG M V (f + i) (As.drop i) = false
  | 0, i, hi, h => by omega
  | m + 1, i, hi, h => by
    have hlt : i < As.length := by omega
    have hd : As.drop i = As.getD i (0, 0) :: As.drop (i + 1) := by
      rw [drop_cons hlt, List.getD_eq_getElem?_getD, List.getElem?_eq_getElem hlt]; rfl
    rw [hd, gatesG, show f + i + 1 = f + (i + 1) from rfl]
    by_cases e : i = k
    · subst e
      rw [if_pos hm, gateG_eq, beq_eq_false_iff_ne.2 hA, Bool.false_and]
    · rw [gatesG_false hk hm hA m (i + 1) (by omega) (by omega), Bool.and_false]


theorem okC_nrm {v : Int} {ls : List Int} (h : ∀ x ∈ ls, x ≤ 2 * v + 1) (ht : tautB (big ls) ≠ true) : okC v (nrm (big ls)) := by
  obtain ⟨n1, n2⟩ := nrm_spec (big ls)
  constructor
  · intro l hl
    obtain ⟨g1, g2⟩ := List.mem_filter.1 ((n2 l).1 hl)
    have := h l g1
    have : 1 < l := by simpa using g2
    exact ⟨by omega, by omega⟩
  · refine n1.imp_of_mem fun {a b} ha hb hab => ?_
    have hne : a / 2 ≠ b / 2 := fun e => ht (tautB_iff.2 ⟨a, (n2 a).1 ha, b, (n2 b).1 hb, by omega, e⟩)
    omega

theorem okL_addC {v : Int} {cl : List (List Int)} {ls : List Int} (hcl : okL v cl) (h : ∀ x ∈ ls, x ≤ 2 * v + 1) : okL v (addC cl ls) := by
  unfold addC
  split
  · exact hcl
  · split
    · exact hcl
    · rename_i ht
      intro c hc
      rcases List.mem_append.1 hc with q | q
      · exact hcl c q
      · rw [List.mem_singleton] at q; subst q; exact okC_nrm h ht

theorem litR_le {M : List Bool} {l : Int} (h0 : 0 ≤ l) (hl : (l / 2).toNat ≤ n) (hm : (l / 2).toNat = 0 ∨ M.getD (l / 2).toNat false = true) : litR (rowM M (n + 1) n) l ≤ 2 * (cntM M n : Int) + 1 := by
  obtain ⟨a, b⟩ := row_lit h0 hl hm
  omega

theorem okL_gates {M : List Bool} (hb : Before f As) (hcl : Closed f As M) (hN : f + As.length = n + 1) : ∀ (m i : Nat) (cl : List (List Int)), i + m = As.length → okL (cntM M n : Int) cl → okL (cntM M n : Int) (gatesC M (rowM M (n + 1) n) (f + i) (As.drop i) cl)
  | 0, i, cl, hi, h => by rw [List.drop_of_length_le (by omega)]; exact h
  | m + 1, i, cl, hi, h => by
    have hlt : i < As.length := by omega
    obtain ⟨b1, b2, b3⟩ := hb i hlt
    have hc' := hcl i hlt
    have hd : As.drop i = As.getD i (0, 0) :: As.drop (i + 1) := by
      rw [drop_cons hlt, List.getD_eq_getElem?_getD, List.getElem?_eq_getElem hlt]; rfl
    rw [hd, gatesC, show f + i + 1 = f + (i + 1) from rfl]
    refine okL_gates hb hcl hN m (i + 1) _ (by omega) ?_
    generalize As.getD i (0, 0) = x at *
    split
    · rename_i hm
      obtain ⟨c1, c2⟩ := hc' hm
      have k1 := litR_le (n := n) (M := M) (l := 2 * ((f + i : Nat) : Int)) (by omega) (by omega) (.inr (by rw [show (2 * ((f + i : Nat) : Int) / 2).toNat = f + i by omega]; exact hm))
      have k2 := litR_le (n := n) (M := M) (l := 2 * ((f + i : Nat) : Int) + 1) (by omega) (by omega) (.inr (by rw [show ((2 * ((f + i : Nat) : Int) + 1) / 2).toNat = f + i by omega]; exact hm))
      have k3 := litR_le (n := n) (M := M) (l := x.1) (by omega) (by omega) (.inr c1)
      have k4 := litR_le (n := n) (M := M) (l := x.2) (by omega) (by omega) (.inr c2)
      have k5 := litR_le (n := n) (M := M) (l := neg x.1) (by unfold neg; split <;> omega) (by rw [neg_div]; omega) (.inr (by rw [neg_div]; exact c1))
      have k6 := litR_le (n := n) (M := M) (l := neg x.2) (by unfold neg; split <;> omega) (by rw [neg_div]; omega) (.inr (by rw [neg_div]; exact c2))
      unfold gateC
      refine okL_addC (okL_addC (okL_addC h ?_) ?_) ?_
      · intro z hz
        rcases List.mem_cons.1 hz with rfl | hz
        · exact k2
        · rw [List.mem_singleton] at hz; subst hz; exact k3
      · intro z hz
        rcases List.mem_cons.1 hz with rfl | hz
        · exact k2
        · rw [List.mem_singleton] at hz; subst hz; exact k4
      · intro z hz
        rcases List.mem_cons.1 hz with rfl | hz
        · exact k1
        · rcases List.mem_cons.1 hz with rfl | hz
          · exact k5
          · rw [List.mem_singleton] at hz; subst hz; exact k6
    · exact h

end

end Go.Proofs.YthbkhndapkbgbaaGreat
