/- Circuits as clauses, of plain values: what tseitin.Of answers, as a whole. -/
import Derived.Test.YtcgbilghglbgaaaPC3
namespace Go.Proofs.Ytcgbilghglbgaaa
open Go Go.Proofs.Ytcgbilghglbgaaa.R
set_option linter.unusedVariables false

section
variable {I : Int} {Ls As : List (Int × Int)} {Bs Cs : List Int} {f n : Nat}

theorem gdB {M : List Bool} {v : Nat} (h : v < M.length) : M[v]? = some (M.getD v false) := by
  rw [List.getD_eq_getElem?_getD, List.getElem?_eq_getElem h]; rfl
theorem getB {M : List Bool} {v : Nat} (h : v < M.length) : geti M (v : Int) = some (M.getD v false) := by rw [gi, gdB h]
theorem getP {k : Nat} (h : k < As.length) : geti As (k : Int) = some (As.getD k (0, 0)) := by
  rw [gi, List.getD_eq_getElem?_getD, List.getElem?_eq_getElem h]; rfl
theorem gdI {R : List Int} {v : Nat} (h : v < R.length) : R[v]? = some (R.getD v 0) := by
  rw [List.getD_eq_getElem?_getD, List.getElem?_eq_getElem h]; rfl
theorem getI {R : List Int} {v : Nat} (h : v < R.length) : geti R (v : Int) = some (R.getD v 0) := by rw [gi, gdI h]

theorem half_w {x : Int} (h : 0 ≤ x) (h2 : x ≤ 1000000) : IntKind.wrap .i64 (Int.tdiv x 2) = (((x / 2).toNat : Nat) : Int) := by
  rw [td h (by omega)]; omega

theorem tseitin_cone.loop0 {N : Nat} {ls : List Int} (hl : ∀ l ∈ ls, 0 ≤ l ∧ l ≤ 1000000 ∧ (l / 2).toNat < N) (hn : ls.length ≤ 1000) (hI : 0 ≤ I ∧ I ≤ 1000) (hL : Ls.length ≤ 1000) (hN : 0 < N ∧ N ≤ 1000000) : ∀ (n i : Nat) (M : List Bool), i + n = ls.length → M.length = N →
    tseitin_cone.l0 ls (ls.length : Int) (i : Int) M I Ls As Bs Cs = tseitin_cone.l1 (1 + I + Ls.length) ((N : Int) - 1) (markC M (ls.drop i)) I Ls As Bs Cs
  | 0, i, M, hi, hM => by
    have w1 : IntKind.wrap .i64 (1 + I) = 1 + I := by rw [wr] <;> omega
    have w2 : IntKind.wrap .i64 (1 + I + (Ls.length : Int)) = 1 + I + (Ls.length : Int) := by rw [wr] <;> omega
    have w3 : IntKind.wrap .i64 ((M.length : Int) - 1) = (N : Int) - 1 := by rw [hM, wr] <;> omega
    rw [tseitin_cone.l0_eq, cd, if_neg (by omega), List.drop_of_length_le (by omega), w1, w2, w3]
    rfl
  | n + 1, i, M, hi, hM => by
    have hlt : i < ls.length := by omega
    obtain ⟨h0, h1, h2⟩ := hl _ (List.getElem_mem hlt)
    have hw : IntKind.wrap .i64 ((i : Int) + 1) = ((i + 1 : Nat) : Int) := by rw [wr] <;> omega
    rw [tseitin_cone.l0_eq, cd, if_pos (by omega), gsome hlt, Option.bind_some, half_w h0 h1, getB (by rw [hM]; exact h2), Option.bind_some, Int.toNat_natCast, gdB (by rw [hM]; exact h2), Option.bind_some, hw,
      tseitin_cone.loop0 hl hn hI hL hN n (i + 1) _ (by omega) (by rw [List.length_set]; exact hM), drop_cons hlt, markC]
    rfl

theorem tseitin_cone.loop1 (hb : Before f As) (hf : (f : Int) = 1 + I + Ls.length) (hN : f + As.length ≤ 1001) : ∀ (k : Nat) (M : List Bool), k ≤ As.length → M.length = f + As.length →
    tseitin_cone.l1 (1 + I + Ls.length) (((f + k : Nat) : Int) - 1) M I Ls As Bs Cs = some (coneC f As k M)
  | 0, M, hk, hM => by
    rw [tseitin_cone.l1_eq, cd, if_neg (by omega)]; rfl
  | k + 1, M, hk, hM => by
    obtain ⟨b1, b2, b3⟩ := hb k (by omega)
    have e1 : ((f + (k + 1) : Nat) : Int) - 1 = ((f + k : Nat) : Int) := by omega
    have w1 : IntKind.wrap .i64 (((f + k : Nat) : Int) - (1 + I + Ls.length)) = (k : Int) := by rw [wr] <;> omega
    have w2 : IntKind.wrap .i64 (((f + k : Nat) : Int) - 1) = ((f + k : Nat) : Int) - 1 := by rw [wr] <;> omega
    have i0 : f + k < M.length := by omega
    rw [e1, tseitin_cone.l1_eq, cd, if_pos (by omega), w1, w2, getP (by omega), Option.bind_some, getB i0, Option.bind_some, Int.toNat_natCast, gdB i0, Option.bind_some, coneC]
    generalize As.getD k (0, 0) = x at *
    cases hm : M.getD (f + k) false with
    | true =>
      have i1 : (x.1 / 2).toNat < M.length := by omega
      have i2 : (x.2 / 2).toNat < (M.set (x.1 / 2).toNat true).length := by rw [List.length_set]; omega
      rw [ct, half_w (by omega) (by omega), half_w (by omega) (by omega), getB i1, Option.bind_some, Int.toNat_natCast, gdB i1, Option.bind_some, Int.toNat_natCast, getB i2, Option.bind_some, gdB i2, Option.bind_some, if_pos rfl]
      exact tseitin_cone.loop1 hb hf hN k _ (by omega) (by rw [List.length_set, List.length_set]; exact hM)
    | false =>
      rw [cf, if_neg (by simp)]
      exact tseitin_cone.loop1 hb hf hN k _ (by omega) hM

theorem tseitin_Of.loop0 {ls : List Int} {v : Int} (hn : ls.length ≤ 140737488351232) (hr : ∀ l ∈ ls, in64 l) {b1 : Int} {o2 o3 : List (List Int)} : ∀ (m i : Nat), i + m = ls.length →
    tseitin_Of.l0 ls v ls (ls.length : Int) (i : Int) I Ls As Bs Cs b1 o2 o3 = if ∀ l ∈ ls.drop i, litN v l then tseitin_Of.l0 ls v ls (ls.length : Int) (ls.length : Int) I Ls As Bs Cs b1 o2 o3 else some ((0, ([], [])), 2)
  | 0, i, hi => by
    have : i = ls.length := by omega
    subst this
    rw [List.drop_length, if_pos (by simp)]
  | m + 1, i, hi => by
    have hlt : i < ls.length := by omega
    have hx := hr _ (List.getElem_mem hlt)
    have hw : IntKind.wrap .i64 ((i : Int) + 1) = ((i + 1 : Nat) : Int) := by rw [wr] <;> omega
    rw [tseitin_Of.l0_eq (x31 := (i : Int)), cd, if_pos (by omega), gsome hlt, Option.bind_some, cd, drop_cons hlt]
    by_cases c1 : ls[i] < 0
    · rw [if_pos c1, if_neg (fun g => by have := (g _ (List.mem_cons_self ..)).1; omega)]
    rw [if_neg c1, td2 (by omega) hx, cd]
    by_cases c2 : ls[i] / 2 > v
    · rw [if_pos c2, if_neg (fun g => by have := (g _ (List.mem_cons_self ..)).2; omega)]
    rw [if_neg c2, hw, tseitin_Of.loop0 hn hr m (i + 1) (by omega)]
    by_cases c3 : ∀ l ∈ ls.drop (i + 1), litN v l
    · rw [if_pos c3, if_pos (List.forall_mem_cons.2 ⟨⟨by omega, by omega⟩, c3⟩)]
    · rw [if_neg c3, if_neg (fun g => c3 (List.forall_mem_cons.1 g).2)]

theorem tseitin_Of.loop1 {M : List Bool} (hI : 0 ≤ I) (hM : M.length = n + 1) (hn : n ≤ 1000) (hf : (f : Int) = 1 + I + Ls.length) (hN : f + As.length ≤ 1001) {b1 : Int} {o5 o6 o7 o8 : List (List Int)} : ∀ (m k : Nat), k + m = n →
    tseitin_Of.l1 (n : Int) ((k + 1 : Nat) : Int) I Ls As Bs Cs b1 M (rowM M (n + 1) k) (cntM M k : Int) o5 o6 o7 o8 = tseitin_Of.l2 (f : Int) As (As.length : Int) 0 b1 M (rowM M (n + 1) n) (cntM M n : Int) o5 o6 o7 o8
  | 0, k, hk => by
    have : k = n := by omega
    subst this
    have w1 : IntKind.wrap .i64 (1 + I) = 1 + I := by rw [wr] <;> omega
    have w2 : IntKind.wrap .i64 (1 + I + (Ls.length : Int)) = (f : Int) := by rw [wr] <;> omega
    rw [tseitin_Of.l1_eq, cd, if_neg (by omega), w1, w2]
  | m + 1, k, hk => by
    have i1 : k + 1 < (rowM M (n + 1) k).length := by rw [rowM_len]; omega
    have i2 : k + 1 < M.length := by omega
    have hc := cntM_le (M := M) (a := 0) (b := k) (by omega)
    have w1 : IntKind.wrap .i64 (((k + 1 : Nat) : Int) + 1) = ((k + 1 + 1 : Nat) : Int) := by rw [wr] <;> omega
    rw [cntM] at hc
    have hs := rowM_set (M := M) (N := n + 1) (k := k)
    rw [← tseitin_Of.loop1 hI hM hn hf hN m (k + 1) (by omega), tseitin_Of.l1_eq (v13 := ((k + 1 : Nat) : Int)), cd, if_pos (by omega), getI i1, Option.bind_some, Int.toNat_natCast, gdI i1, Option.bind_some, getB i2, Option.bind_some, gdB i2, Option.bind_some, w1]
    cases hm : M.getD (k + 1) false with
    | true =>
      rw [hm, if_pos rfl] at hs
      have i3 : k + 1 < ((rowM M (n + 1) k).set (k + 1) (-1)).length := by rw [List.length_set]; exact i1
      have w2 : IntKind.wrap .i64 ((cntM M k : Int) + 1) = (cntM M (k + 1) : Int) := by rw [cntM, hm, if_pos rfl, wr] <;> omega
      have hc2 := cntM_le (M := M) (a := 0) (b := k + 1) (by omega)
      rw [cntM] at hc2
      have w3 : IntKind.wrap .i64 (2 * (cntM M (k + 1) : Int)) = 2 * (cntM M (k + 1) : Int) := by rw [wr] <;> omega
      rw [ct, getI i3, Option.bind_some, gdI i3, Option.bind_some, w2, w3, List.set_set, hs]
    | false =>
      rw [hm, if_neg (by simp)] at hs
      have hcc : cntM M (k + 1) = cntM M k := by rw [cntM, hm]; rfl
      rw [cf, hs, hcc]

/-- What a row says of literals that count. -/
theorem row_lit {M : List Bool} {l : Int} (h0 : 0 ≤ l) (hl : (l / 2).toNat ≤ n) (hm : (l / 2).toNat = 0 ∨ M.getD (l / 2).toNat false = true) : litR (rowM M (n + 1) n) l = 2 * (cntM M (l / 2).toNat : Int) + l % 2 ∧ cntM M (l / 2).toNat ≤ cntM M n := by
  refine ⟨?_, (cntM_le hl).1⟩
  unfold litR
  rw [rowM_at hl hm]

theorem tseitin_Of.loop2 {M : List Bool} (hM : M.length = n + 1) (hn : n ≤ 1000) (hb : Before f As) (hc : Closed f As M) (hf : 0 < f) (hN : f + As.length = n + 1) {b1 : Int} {o4 o5 o6 : List (List Int)} : ∀ (m i : Nat) (cl : List (List Int)), i + m = As.length → cl.length ≤ 3 * i →
    tseitin_Of.l2 (f : Int) As (As.length : Int) (i : Int) b1 M (rowM M (n + 1) n) (cntM M n : Int) o4 o5 o6 cl = some (((cntM M n : Int), ([rowM M (n + 1) n], gatesC M (rowM M (n + 1) n) (f + i) (As.drop i) cl)), 0)
  | 0, i, cl, hi, hcl => by
    rw [tseitin_Of.l2_eq, cd, if_neg (by omega), List.drop_of_length_le (by omega)]; rfl
  | m + 1, i, cl, hi, hcl => by
    have hlt : i < As.length := by omega
    obtain ⟨b1', b2, b3⟩ := hb i hlt
    have hcl' := hc i hlt
    have i1 : f + i < M.length := by omega
    have w1 : IntKind.wrap .i64 ((f : Int) + (i : Int)) = ((f + i : Nat) : Int) := by rw [wr] <;> omega
    have w2 : IntKind.wrap .i64 ((i : Int) + 1) = ((i + 1 : Nat) : Int) := by rw [wr] <;> omega
    have hd : As.drop i = As.getD i (0, 0) :: As.drop (i + 1) := by
      rw [drop_cons hlt, List.getD_eq_getElem?_getD, List.getElem?_eq_getElem hlt]; rfl
    have hv : okV (cntM M n : Int) := by
      have := cntM_le (M := M) (a := 0) (b := n) (by omega)
      rw [cntM] at this
      unfold okV; omega
    rw [tseitin_Of.l2_eq, cd, if_pos (by omega), getP hlt, Option.bind_some, w1, w2, getB i1, Option.bind_some, Int.toNat_natCast, gdB i1, Option.bind_some, hd, gatesC]
    generalize As.getD i (0, 0) = x at *
    cases hm : M.getD (f + i) false with
    | false =>
      rw [cnot, cf, if_neg (by simp)]
      exact tseitin_Of.loop2 hM hn hb hc hf hN m (i + 1) cl (by omega) (by omega)
    | true =>
      obtain ⟨c1, c2⟩ := hcl' hm
      have i2 : f + i < (rowM M (n + 1) n).length := by rw [rowM_len]; omega
      obtain ⟨j1, j2⟩ : (rowM M (n + 1) n).getD (f + i) 0 = 2 * (cntM M (f + i) : Int) ∧ cntM M (f + i) ≤ cntM M n := ⟨rowM_at (by omega) (.inr hm), (cntM_le (by omega)).1⟩
      have g1 : litR (rowM M (n + 1) n) (2 * ((f + i : Nat) : Int)) = 2 * (cntM M (f + i) : Int) := by
        unfold litR
        rw [show 2 * ((f + i : Nat) : Int) / 2 = ((f + i : Nat) : Int) by omega, Int.toNat_natCast, j1]; omega
      have g2 : litR (rowM M (n + 1) n) (2 * ((f + i : Nat) : Int) + 1) = 2 * (cntM M (f + i) : Int) + 1 := by
        unfold litR
        rw [show (2 * ((f + i : Nat) : Int) + 1) / 2 = ((f + i : Nat) : Int) by omega, Int.toNat_natCast, j1]; omega
      obtain ⟨a1, a2⟩ := row_lit (n := n) (M := M) (l := x.1) (by omega) (by omega) (.inr c1)
      obtain ⟨a3, a4⟩ := row_lit (n := n) (M := M) (l := x.2) (by omega) (by omega) (.inr c2)
      have r1 := rowM_at (M := M) (n := n) (w := (x.1 / 2).toNat) (by omega) (.inr c1)
      have r2 := rowM_at (M := M) (n := n) (w := (x.2 / 2).toNat) (by omega) (.inr c2)
      have t1 := tseitin_lit_eq (row := rowM M (n + 1) n) (l := x.1) (by omega) (by rw [rowM_len]; omega) r1 (by obtain ⟨_, q⟩ := hv; omega)
      have t2 := tseitin_lit_eq (row := rowM M (n + 1) n) (l := x.2) (by omega) (by rw [rowM_len]; omega) r2 (by obtain ⟨_, q⟩ := hv; omega)
      have n1 := litR_neg (row := rowM M (n + 1) n) (l := x.1) r1
      have n2 := litR_neg (row := rowM M (n + 1) n) (l := x.2) r2
      obtain ⟨v1, v2⟩ := hv
      have x1 : bxor .i64 (2 * (cntM M (f + i) : Int)) 1 = litR (rowM M (n + 1) n) (2 * ((f + i : Nat) : Int) + 1) := by
        rw [bxor_one (by omega) (by omega), g2]; unfold neg; rw [if_pos (by omega)]
      have x2 : bxor .i64 (litR (rowM M (n + 1) n) x.1) 1 = litR (rowM M (n + 1) n) (neg x.1) := by rw [bxor_one (by omega) (by omega), n1]
      have x3 : bxor .i64 (litR (rowM M (n + 1) n) x.2) 1 = litR (rowM M (n + 1) n) (neg x.2) := by rw [bxor_one (by omega) (by omega), n2]
      have y1 : 0 ≤ litR (rowM M (n + 1) n) (neg x.1) ∧ litR (rowM M (n + 1) n) (neg x.1) ≤ 2 * (cntM M n : Int) + 1 := by rw [n1, a1]; unfold neg; split <;> omega
      have y2 : 0 ≤ litR (rowM M (n + 1) n) (neg x.2) ∧ litR (rowM M (n + 1) n) (neg x.2) ≤ 2 * (cntM M n : Int) + 1 := by rw [n2, a3]; unfold neg; split <;> omega
      have m1 : ∀ z ∈ [litR (rowM M (n + 1) n) (2 * ((f + i : Nat) : Int) + 1), litR (rowM M (n + 1) n) x.1], 0 ≤ z ∧ z ≤ 2 * (cntM M n : Int) + 1 := fun z hz => by
        rcases List.mem_cons.1 hz with rfl | hz
        · omega
        · rw [List.mem_singleton] at hz; subst hz; omega
      have m2 : ∀ z ∈ [litR (rowM M (n + 1) n) (2 * ((f + i : Nat) : Int) + 1), litR (rowM M (n + 1) n) x.2], 0 ≤ z ∧ z ≤ 2 * (cntM M n : Int) + 1 := fun z hz => by
        rcases List.mem_cons.1 hz with rfl | hz
        · omega
        · rw [List.mem_singleton] at hz; subst hz; omega
      have m3 : ∀ z ∈ [litR (rowM M (n + 1) n) (2 * ((f + i : Nat) : Int)), litR (rowM M (n + 1) n) (neg x.1), litR (rowM M (n + 1) n) (neg x.2)], 0 ≤ z ∧ z ≤ 2 * (cntM M n : Int) + 1 := fun z hz => by
        rcases List.mem_cons.1 hz with rfl | hz
        · omega
        · rcases List.mem_cons.1 hz with rfl | hz
          · exact y1
          · rw [List.mem_singleton] at hz; subst hz; exact y2
      have q1 := addC_len (cl := cl) (ls := [litR (rowM M (n + 1) n) (2 * ((f + i : Nat) : Int) + 1), litR (rowM M (n + 1) n) x.1])
      have q2 := addC_len (cl := addC cl [litR (rowM M (n + 1) n) (2 * ((f + i : Nat) : Int) + 1), litR (rowM M (n + 1) n) x.1]) (ls := [litR (rowM M (n + 1) n) (2 * ((f + i : Nat) : Int) + 1), litR (rowM M (n + 1) n) x.2])
      have q3 := addC_len (cl := addC (addC cl [litR (rowM M (n + 1) n) (2 * ((f + i : Nat) : Int) + 1), litR (rowM M (n + 1) n) x.1]) [litR (rowM M (n + 1) n) (2 * ((f + i : Nat) : Int) + 1), litR (rowM M (n + 1) n) x.2]) (ls := [litR (rowM M (n + 1) n) (2 * ((f + i : Nat) : Int)), litR (rowM M (n + 1) n) (neg x.1), litR (rowM M (n + 1) n) (neg x.2)])
      rw [cnot, ct, getI i2, Option.bind_some, gdI i2, Option.bind_some, j1, t1, Option.bind_some, t2, Option.bind_some, x1, x2, x3, ← g1,
        tseitin_add_eq ⟨v1, v2⟩ (by omega) m1 (by simp), Option.bind_some, tseitin_add_eq ⟨v1, v2⟩ (by omega) m2 (by simp), Option.bind_some, tseitin_add_eq ⟨v1, v2⟩ (by omega) m3 (by simp), Option.bind_some, if_pos rfl,
        tseitin_Of.loop2 hM hn hb hc hf hN m (i + 1) _ (by omega) (by omega)]
      rfl

/-! ### As a whole -/

def firstN (I : Int) (Ls : List (Int × Int)) : Nat := (1 + I + Ls.length).toNat
def coneM (I : Int) (Ls As : List (Int × Int)) (lits : List Int) : List Bool := coneC (firstN I Ls) As As.length (markC (List.replicate ((size I Ls As).toNat + 1) false) lits)
def tsM (I : Int) (Ls As : List (Int × Int)) (M : List Bool) : Int × List (List Int) × List (List Int) :=
  ((cntM M (size I Ls As).toNat : Int), ([rowM M ((size I Ls As).toNat + 1) (size I Ls As).toNat], gatesC M (rowM M ((size I Ls As).toNat + 1) (size I Ls As).toNat) (firstN I Ls) As []))
def tsC (I : Int) (Ls As : List (Int × Int)) (lits : List Int) : Int × List (List Int) × List (List Int) := tsM I Ls As (coneM I Ls As lits)

theorem checkG_before (h : checkG I Ls As Bs Cs = 0) : Before (firstN I Ls) As := by
  obtain ⟨h0, _, g⟩ := checkG_zero h
  intro k hk
  have := okG_get g.2.2.2 k hk
  refine ⟨this.1, this.2.1, ?_⟩
  have := this.2.2
  unfold firstN
  omega

theorem tseitin_Of_eq (h : Sized I Ls As Bs Cs) {lits : List Int} (hn : lits.length ≤ 1000) (hr : ∀ l ∈ lits, in64 l) :
    tseitin_Of I Ls As Bs Cs lits = some (if checkG I Ls As Bs Cs = 0 then (if ∀ l ∈ lits, litN (size I Ls As) l then (tsC I Ls As lits, 0) else ((0, ([], [])), 2)) else ((0, ([], [])), checkG I Ls As Bs Cs)) := by
  rw [tseitin_Of.eq, gates_Vars_eq h, Option.bind_some, cn]
  by_cases c : checkG I Ls As Bs Cs = 0
  · have hb := checkG_before c
    obtain ⟨k1, k2, _⟩ := checkG_zero c
    obtain ⟨k2, k3, _⟩ := k2
    have hs : size I Ls As = (((size I Ls As).toNat : Nat) : Int) := by unfold size; omega
    have hf : ((firstN I Ls : Nat) : Int) = 1 + I + Ls.length := by unfold firstN; omega
    have hsz : firstN I Ls + As.length = (size I Ls As).toNat + 1 := by unfold firstN size; omega
    have hs1 : (size I Ls As).toNat ≤ 1000 := by unfold size; omega
    rw [if_pos c, if_pos c]
    have g0 := tseitin_Of.loop0 (I := I) (Ls := Ls) (As := As) (Bs := Bs) (Cs := Cs) (v := size I Ls As) (b1 := 0) (o2 := []) (o3 := []) (show lits.length ≤ 140737488351232 by omega) hr lits.length 0 (by omega)
    rw [show ((0 : Nat) : Int) = 0 from rfl, List.drop_zero] at g0
    dsimp only
    rw [if_pos rfl, g0]
    by_cases cl : ∀ l ∈ lits, litN (size I Ls As) l
    · rw [if_pos cl, if_pos cl, tseitin_Of.l0_eq, cd, if_neg (by omega), hs]
      have w1 : IntKind.wrap .i64 ((((size I Ls As).toNat : Nat) : Int) + 1) = (((size I Ls As).toNat + 1 : Nat) : Int) := by rw [wr] <;> omega
      have hcl : ∀ l ∈ lits, 0 ≤ l ∧ l ≤ 1000000 ∧ (l / 2).toNat < (size I Ls As).toNat + 1 := fun l hl => by
        have := cl l hl
        unfold litN at this
        omega
      have c0 := tseitin_cone.loop0 (I := I) (Ls := Ls) (As := As) (Bs := Bs) (Cs := Cs) (N := (size I Ls As).toNat + 1) hcl hn ⟨k1, by omega⟩ (by omega) ⟨by omega, by omega⟩ lits.length 0 (List.replicate ((size I Ls As).toNat + 1) false) (by omega) (List.length_replicate ..)
      rw [show ((0 : Nat) : Int) = 0 from rfl, List.drop_zero] at c0
      have c1 := tseitin_cone.loop1 (I := I) (Ls := Ls) (As := As) (Bs := Bs) (Cs := Cs) hb hf (by omega) As.length (markC (List.replicate ((size I Ls As).toNat + 1) false) lits) (Nat.le_refl _) (by rw [markC_len, List.length_replicate]; omega)
      rw [hsz] at c1
      have hM : (coneM I Ls As lits).length = (size I Ls As).toNat + 1 := by unfold coneM; rw [coneC_len, markC_len, List.length_replicate]
      have hclo : Closed (firstN I Ls) As (coneM I Ls As lits) := fun k hk ht => coneC_closed hb (Nat.le_refl _) (by rw [markC_len, List.length_replicate]; omega) k hk ht
      rw [w1, mkl_ok (by omega) (by omega), Option.bind_some, if_pos rfl, Int.toNat_natCast, tseitin_cone.eq, List.length_replicate, c0, c1]
      have hM' : coneC (firstN I Ls) As As.length (markC (List.replicate ((size I Ls As).toNat + 1) false) lits) = coneM I Ls As lits := rfl
      have hnn : (Nat.blt 0 ((size I Ls As).toNat + 1) && Nat.beq ((size I Ls As).toNat + 1) ((size I Ls As).toNat + 1)) = true := by
        rw [Bool.and_eq_true]
        exact ⟨by rw [Nat.blt_eq]; omega, Nat.beq_refl _⟩
      rw [Option.bind_some, hM', hM, hnn, ct, mkl_ok (by omega) (by omega), Option.bind_some, if_pos rfl, Int.toNat_natCast]
      have l1 := tseitin_Of.loop1 (I := I) (Ls := Ls) (As := As) (Bs := Bs) (Cs := Cs) (b1 := 0) (o5 := []) (o6 := []) (o7 := []) (o8 := []) k1 hM hs1 hf (by omega) (size I Ls As).toNat 0 (by omega)
      rw [rowM_zero] at l1
      have l2 := tseitin_Of.loop2 (b1 := 0) (o4 := []) (o5 := []) (o6 := []) hM hs1 hb hclo (show 0 < firstN I Ls by omega) hsz As.length 0 [] (by omega) (by simp)
      rw [List.drop_zero] at l2
      exact l1.trans l2
    · rw [if_neg cl, if_neg cl]
  · rw [if_neg c, if_neg c]
    dsimp only
    rw [if_neg c]

end

end Go.Proofs.Ytcgbilghglbgaaa
