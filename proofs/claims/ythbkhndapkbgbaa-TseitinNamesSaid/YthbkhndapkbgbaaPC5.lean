/- Circuits as clauses, of plain values: TseitinOrder, TseitinNames. -/
import Derived.Test.YthbkhndapkbgbaaPC4
namespace Go.Proofs.Ythbkhndapkbgbaa
open Go Go.Proofs.Ythbkhndapkbgbaa.R
set_option linter.unusedVariables false

/-! ### Alike -/

theorem two_drops {α : Type} {a b : List α} {i : Nat} (h1 : i < a.length) (h2 : i < b.length) : a.drop i = b.drop i ↔ a[i] = b[i] ∧ a.drop (i + 1) = b.drop (i + 1) := by
  rw [List.drop_eq_getElem_cons h1, List.drop_eq_getElem_cons h2, List.cons.injEq]

theorem same_all.loop {a b : List (List Int)} (hl : a.length = b.length) (hn : a.length ≤ 140737488351232) (hc : ∀ c ∈ a, c.length ≤ 140737488351232) : ∀ (n i : Nat), i + n = a.length → spiritlevelref13_SameAll.l0 a b (i : Int) = some (decide (a.drop i = b.drop i))
  | 0, i, hi => by
    rw [spiritlevelref13_SameAll.l0_eq, cd, if_neg (by omega), List.drop_of_length_le (by omega), List.drop_of_length_le (by omega)]; rfl
  | n + 1, i, hi => by
    have h1 : i < a.length := by omega
    have h2 : i < b.length := by omega
    have hw : IntKind.wrap .i64 ((i : Int) + 1) = ((i + 1 : Nat) : Int) := by rw [wr] <;> omega
    rw [spiritlevelref13_SameAll.l0_eq, cd, if_pos (by omega), gsome h1, Option.bind_some, gsome h2, Option.bind_some, ref13_Same_eq (hc _ (List.getElem_mem h1)), Option.bind_some, hw, same_all.loop hl hn hc n (i + 1) (by omega), show decide (a.drop i = b.drop i) = decide (a[i] = b[i] ∧ a.drop (i + 1) = b.drop (i + 1)) from decide_eq_decide.2 (two_drops h1 h2), cnot, cd]
    by_cases hx : a[i] = b[i]
    · rw [if_pos hx]; simp only [hx, true_and]
    · rw [if_neg hx]; simp only [hx, false_and, decide_false]

theorem same_all {a b : List (List Int)} (hn : a.length ≤ 140737488351232) (hc : ∀ c ∈ a, c.length ≤ 140737488351232) : spiritlevelref13_SameAll a b = some (decide (a = b)) := by
  rw [spiritlevelref13_SameAll.eq, cn]
  by_cases hl : (a.length : Int) = b.length
  · have := same_all.loop (a := a) (b := b) (by omega) hn hc a.length 0 (by omega)
    rw [if_pos hl, show (0 : Int) = ((0 : Nat) : Int) from rfl, this]; simp
  · rw [if_neg hl]
    have : a ≠ b := fun e => hl (by rw [e])
    simp [this]

theorem ref22_Same_refl {a : Int × List (List Int) × List (List Int)} (h1 : a.2.1.length ≤ 140737488351232 ∧ ∀ c ∈ a.2.1, c.length ≤ 140737488351232) (h2 : a.2.2.length ≤ 140737488351232 ∧ ∀ c ∈ a.2.2, c.length ≤ 140737488351232) :
    spiritlevelref22_Same a.1 a.2.1 a.2.2 a.1 a.2.1 a.2.2 = some true := by
  rw [spiritlevelref22_Same.eq, beq_self_eq_true, ct, same_all h1.1 h1.2, Option.bind_some, decide_eq_true rfl, ct, same_all h2.1 h2.2, Option.bind_some, decide_eq_true rfl]

section
variable {I : Int} {Ls As : List (Int × Int)} {Bs Cs : List Int} {f n : Nat} {lits : List Int}

theorem of_ok (h : Sized I Ls As Bs Cs) (hn : lits.length ≤ 1000) (hr : ∀ l ∈ lits, in64 l) (hc : checkG I Ls As Bs Cs = 0) (hl : ∀ l ∈ lits, litN (size I Ls As) l) {r : Int × List (List Int) × List (List Int)} (e : ofC I Ls As lits = r) : tseitin_Of I Ls As Bs Cs lits = some (r, 0) := by
  rw [tseitin_Of_eq h hn hr, if_pos hc, if_pos hl, e]

/-! ### It lives -/

theorem sized_small (h1 : in64 I) (h2 : Ls.length ≤ 100) (h3 : ∀ x ∈ Ls, in64 x.1 ∧ in64 x.2) (h4 : As.length ≤ 100) (h5 : ∀ x ∈ As, in64 x.1 ∧ in64 x.2) : Sized I Ls As [] [] where
  i := h1
  ls := ⟨by omega, h3⟩
  as_ := ⟨by omega, h5⟩
  bs := ⟨by simp, by simp⟩
  cs := ⟨by simp, by simp⟩

theorem alive22_eq : spiritlevellaw22_alive = some true := by
  have hs : Sized 2 [] [((4 : Int), (2 : Int))] [] [] := sized_small (by decide) (by simp) (by simp) (by simp) (by decide)
  have e1 := of_ok (lits := [7]) hs (by simp) (by decide) (by decide) (by decide) (r := (3, [[0, 2, 4, 6]], [[4, 7], [2, 7], [3, 5, 6]])) (by decide)
  have e2 := of_ok (lits := [3]) hs (by simp) (by decide) (by decide) (by decide) (r := (1, [[0, 2, -1, -1]], [])) (by decide)
  have s1 := ref22_Same_refl (a := (3, [[0, 2, 4, 6]], [[4, 7], [2, 7], [3, 5, 6]])) ⟨by decide, by decide⟩ ⟨by decide, by decide⟩
  have s2 := ref22_Same_refl (a := (1, [[0, 2, -1, -1]], [])) ⟨by decide, by decide⟩ ⟨by decide, by decide⟩
  rw [spiritlevellaw22_alive.eq, spiritlevellaw22_example.eq, Option.bind_some, e1, Option.bind_some, Option.bind_some, e2, Option.bind_some]
  dsimp only at s1 s2 ⊢
  rw [ce, if_pos rfl, s1, Option.bind_some, ct, ce, if_pos rfl, s2, Option.bind_some]

/-! ### What is asked -/

theorem litN_iff {s l : Int} : litN s l ↔ 0 ≤ l ∧ l ≤ 2 * s + 1 := by unfold litN; omega

theorem ref22_Asked.loop (h : Sized I Ls As Bs Cs) (hI : 0 ≤ I ∧ I ≤ 1000) (hn : lits.length ≤ 140737488351232) : ∀ (m i : Nat), i + m = lits.length →
    spiritlevelref22_Asked.l0 lits (i : Int) I Ls As Bs Cs = some (if ∀ l ∈ lits.drop i, litN (size I Ls As) l then 0 else 2)
  | 0, i, hi => by
    rw [spiritlevelref22_Asked.l0_eq, cd, if_neg (by omega), List.drop_of_length_le (by omega), if_pos (by simp)]
  | m + 1, i, hi => by
    have hlt : i < lits.length := by omega
    have hl1 := h.ls.1
    have hl2 := h.as_.1
    have hw : IntKind.wrap .i64 ((i : Int) + 1) = ((i + 1 : Nat) : Int) := by rw [wr] <;> omega
    have w1 : IntKind.wrap .i64 (IntKind.wrap .i64 (2 * size I Ls As) + 1) = 2 * size I Ls As + 1 := by unfold size; rw [wr (x := 2 * _) (by omega) (by omega), wr (by omega) (by omega)]
    rw [spiritlevelref22_Asked.l0_eq, cd, if_pos (by omega), gsome hlt, Option.bind_some, cd, drop_cons hlt]
    by_cases c1 : lits[i] < 0
    · rw [if_pos c1, if_neg (fun g => by have := litN_iff.1 (g _ (List.mem_cons_self ..)); omega)]
    rw [if_neg c1, Option.bind_some, ref02_Size_eq h hI, Option.bind_some, w1, cd]
    by_cases c2 : lits[i] > 2 * size I Ls As + 1
    · rw [if_pos c2, if_neg (fun g => by have := litN_iff.1 (g _ (List.mem_cons_self ..)); omega)]
    rw [if_neg c2, hw, ref22_Asked.loop h hI hn m (i + 1) (by omega)]
    by_cases c3 : ∀ l ∈ lits.drop (i + 1), litN (size I Ls As) l
    · rw [if_pos c3, if_pos (List.forall_mem_cons.2 ⟨litN_iff.2 ⟨by omega, by omega⟩, c3⟩)]
    · rw [if_neg c3, if_neg (fun g => c3 (List.forall_mem_cons.1 g).2)]

theorem ref22_Asked_eq (h : Sized I Ls As Bs Cs) (hn : lits.length ≤ 140737488351232) : spiritlevelref22_Asked I Ls As Bs Cs lits = some (if checkG I Ls As Bs Cs = 0 then (if ∀ l ∈ lits, litN (size I Ls As) l then 0 else 2) else checkG I Ls As Bs Cs) := by
  rw [spiritlevelref22_Asked.eq, ref02_Check_eq h, Option.bind_some, cn]
  by_cases c : checkG I Ls As Bs Cs = 0
  · obtain ⟨k1, k2, _⟩ := checkG_zero c
    have := ref22_Asked.loop h ⟨k1, k2.1⟩ hn lits.length 0 (by omega)
    rw [show ((0 : Nat) : Int) = 0 from rfl, List.drop_zero] at this
    rw [if_pos c, if_pos c, this]
  · rw [if_neg c, if_neg c]

theorem fit22_eq (h : Sized I Ls As Bs Cs) (hn : lits.length ≤ 140737488351232) : ∃ b, spiritlevellaw22_fit I Ls As Bs Cs lits = some b ∧ (b = true → checkG I Ls As Bs Cs = 0 ∧ (∀ l ∈ lits, litN (size I Ls As) l) ∧ lits.length ≤ 30) := by
  rw [spiritlevellaw22_fit.eq, ref02_Great_eq h, Option.bind_some, cnot, cd]
  split
  · exact ⟨false, rfl, by simp⟩
  · rw [cd]
    by_cases c1 : (lits.length : Int) ≤ 30
    · rw [if_pos c1, ref22_Asked_eq h hn, Option.bind_some]
      refine ⟨_, rfl, fun e => ?_⟩
      rw [beq_iff_eq] at e
      by_cases c2 : checkG I Ls As Bs Cs = 0
      · rw [if_pos c2] at e
        by_cases c3 : ∀ l ∈ lits, litN (size I Ls As) l
        · exact ⟨c2, c3, by omega⟩
        · rw [if_neg c3] at e; omega
      · rw [if_neg c2] at e; exact absurd e c2
    · rw [if_neg c1]; exact ⟨false, rfl, by simp⟩

/-! ### More literals, more clauses -/

def clen (ls : List Int) : Nat := if 1 ∈ ls then 0 else if tautB (big ls) = true then 0 else 1

theorem addC_length {cl : List (List Int)} {ls : List Int} : (addC cl ls).length = cl.length + clen ls := by
  unfold addC clen
  split
  · rfl
  · split
    · rfl
    · simp

theorem clen_map {M : List Bool} {ls : List Int} (h : ∀ l ∈ ls, 0 ≤ l ∧ (l / 2).toNat ≤ n ∧ ((l / 2).toNat = 0 ∨ M.getD (l / 2).toNat false = true)) : clen (ls.map (litR (rowM M (n + 1) n))) = clen ls := by
  have val : ∀ l ∈ ls, litR (rowM M (n + 1) n) l = 2 * (cntM M (l / 2).toNat : Int) + l % 2 ∧ (cntM M (l / 2).toNat = 0 ↔ l / 2 = 0) := fun l hl => by
    obtain ⟨h1, h2, h3⟩ := h l hl
    refine ⟨(row_lit h1 h2 h3).1, ?_⟩
    by_cases e : (l / 2).toNat = 0
    · rw [e, cntM]; omega
    · rw [cntM_pos (h3.resolve_left e) (by omega)]; omega
  have inj : ∀ x ∈ ls, ∀ y ∈ ls, cntM M (x / 2).toNat = cntM M (y / 2).toNat → x / 2 = y / 2 := fun x hx y hy e => by
    obtain ⟨x1, x2, x3⟩ := h x hx
    obtain ⟨y1, y2, y3⟩ := h y hy
    rcases Nat.lt_trichotomy (x / 2).toNat (y / 2).toNat with q | q | q
    · have := cntM_inj (y3.resolve_left (by omega)) q; omega
    · omega
    · have := cntM_inj (x3.resolve_left (by omega)) q; omega
  have e1 : 1 ∈ ls.map (litR (rowM M (n + 1) n)) ↔ 1 ∈ ls := by
    rw [List.mem_map]
    constructor
    · rintro ⟨l, hl, e⟩
      obtain ⟨v1, v2⟩ := val l hl
      have h0 := (h l hl).1
      have : l = 1 := by
        have : cntM M (l / 2).toNat = 0 := by omega
        have := v2.1 this
        omega
      exact this ▸ hl
    · intro hl
      obtain ⟨v1, v2⟩ := val 1 hl
      refine ⟨1, hl, ?_⟩
      have := v2.2 (by decide)
      omega
  have bigm : ∀ x, x ∈ big (ls.map (litR (rowM M (n + 1) n))) ↔ ∃ l ∈ big ls, x = litR (rowM M (n + 1) n) l := fun x => by
    unfold big
    rw [List.mem_filter, List.mem_map]
    constructor
    · rintro ⟨⟨l, hl, rfl⟩, e⟩
      obtain ⟨v1, v2⟩ := val l hl
      have h0 := (h l hl).1
      have e : 1 < litR (rowM M (n + 1) n) l := by simpa using e
      refine ⟨l, List.mem_filter.2 ⟨hl, ?_⟩, rfl⟩
      rw [decide_eq_true_eq]
      apply Classical.byContradiction
      intro q
      have := v2.2 (by omega)
      omega
    · rintro ⟨l, hl, rfl⟩
      obtain ⟨hl, e⟩ := List.mem_filter.1 hl
      obtain ⟨v1, v2⟩ := val l hl
      have h0 := (h l hl).1
      have e : 1 < l := by simpa using e
      refine ⟨⟨l, hl, rfl⟩, ?_⟩
      rw [decide_eq_true_eq]
      have : cntM M (l / 2).toNat ≠ 0 := fun q => by have := v2.1 q; omega
      omega
  have e2 : tautB (big (ls.map (litR (rowM M (n + 1) n)))) = tautB (big ls) := by
    rw [Bool.eq_iff_iff, tautB_iff, tautB_iff]
    constructor
    · rintro ⟨x, hx, y, hy, hne, he⟩
      obtain ⟨a, ha, rfl⟩ := (bigm x).1 hx
      obtain ⟨b, hb, rfl⟩ := (bigm y).1 hy
      have ha' := (List.mem_filter.1 ha).1
      have hb' := (List.mem_filter.1 hb).1
      have va := (val a ha').1
      have vb := (val b hb').1
      refine ⟨a, ha, b, hb, fun q => hne (by rw [q]), inj a ha' b hb' ?_⟩
      omega
    · rintro ⟨a, ha, b, hb, hne, he⟩
      have ha' := (List.mem_filter.1 ha).1
      have hb' := (List.mem_filter.1 hb).1
      have va := (val a ha').1
      have vb := (val b hb').1
      refine ⟨_, (bigm _).2 ⟨a, ha, rfl⟩, _, (bigm _).2 ⟨b, hb, rfl⟩, ?_, ?_⟩
      · rw [va, vb, he]; omega
      · rw [va, vb, he]; omega
  unfold clen
  rw [e2]
  by_cases q : 1 ∈ ls
  · rw [if_pos q, if_pos (e1.2 q)]
  · rw [if_neg q, if_neg (fun w => q (e1.1 w))]

def glen (g : Int) (x : Int × Int) : Nat := clen [2 * g + 1, x.1] + clen [2 * g + 1, x.2] + clen [2 * g, neg x.1, neg x.2]
def sumG (M : List Bool) : Nat → List (Int × Int) → Nat
  | _, [] => 0
  | g, x :: r => (if M.getD g false = true then glen g x else 0) + sumG M (g + 1) r

theorem sumG_mono {M M' : List Bool} (h : ∀ j, M.getD j false = true → M'.getD j false = true) : ∀ (r : List (Int × Int)) (g : Nat), sumG M g r ≤ sumG M' g r
  | [], g => Nat.le_refl _
  | x :: r, g => by
    have := sumG_mono h r (g + 1)
    rw [sumG, sumG]
    by_cases q : M.getD g false = true
    · rw [if_pos q, if_pos (h _ q)]; omega
    · rw [if_neg q]; omega

theorem gatesC_len {M : List Bool} (hb : Before f As) (hc : Closed f As M) (hN : f + As.length = n + 1) : ∀ (m i : Nat) (cl : List (List Int)), i + m = As.length → (gatesC M (rowM M (n + 1) n) (f + i) (As.drop i) cl).length = cl.length + sumG M (f + i) (As.drop i)
  | 0, i, cl, hi => by rw [List.drop_of_length_le (by omega)]; rfl
  | m + 1, i, cl, hi => by
    have hlt : i < As.length := by omega
    obtain ⟨b1, b2, b3⟩ := hb i hlt
    have hc' := hc i hlt
    have hd : As.drop i = As.getD i (0, 0) :: As.drop (i + 1) := by
      rw [drop_cons hlt, List.getD_eq_getElem?_getD, List.getElem?_eq_getElem hlt]; rfl
    rw [hd, gatesC, sumG, show f + i + 1 = f + (i + 1) from rfl, gatesC_len hb hc hN m (i + 1) _ (by omega)]
    generalize As.getD i (0, 0) = x at *
    by_cases hm : M.getD (f + i) false = true
    · obtain ⟨c1, c2⟩ := hc' hm
      rw [if_pos hm, if_pos hm]
      have k1 : 0 ≤ 2 * ((f + i : Nat) : Int) ∧ (2 * ((f + i : Nat) : Int) / 2).toNat ≤ n ∧ ((2 * ((f + i : Nat) : Int) / 2).toNat = 0 ∨ M.getD (2 * ((f + i : Nat) : Int) / 2).toNat false = true) := by
        rw [show (2 * ((f + i : Nat) : Int) / 2).toNat = f + i by omega]
        exact ⟨by omega, by omega, .inr hm⟩
      have k2 : 0 ≤ 2 * ((f + i : Nat) : Int) + 1 ∧ ((2 * ((f + i : Nat) : Int) + 1) / 2).toNat ≤ n ∧ (((2 * ((f + i : Nat) : Int) + 1) / 2).toNat = 0 ∨ M.getD ((2 * ((f + i : Nat) : Int) + 1) / 2).toNat false = true) := by
        rw [show ((2 * ((f + i : Nat) : Int) + 1) / 2).toNat = f + i by omega]
        exact ⟨by omega, by omega, .inr hm⟩
      have k3 : 0 ≤ x.1 ∧ (x.1 / 2).toNat ≤ n ∧ ((x.1 / 2).toNat = 0 ∨ M.getD (x.1 / 2).toNat false = true) := ⟨by omega, by omega, .inr c1⟩
      have k4 : 0 ≤ x.2 ∧ (x.2 / 2).toNat ≤ n ∧ ((x.2 / 2).toNat = 0 ∨ M.getD (x.2 / 2).toNat false = true) := ⟨by omega, by omega, .inr c2⟩
      have k5 : 0 ≤ neg x.1 ∧ (neg x.1 / 2).toNat ≤ n ∧ ((neg x.1 / 2).toNat = 0 ∨ M.getD (neg x.1 / 2).toNat false = true) := by
        rw [neg_div]; exact ⟨by unfold neg; split <;> omega, k3.2⟩
      have k6 : 0 ≤ neg x.2 ∧ (neg x.2 / 2).toNat ≤ n ∧ ((neg x.2 / 2).toNat = 0 ∨ M.getD (neg x.2 / 2).toNat false = true) := by
        rw [neg_div]; exact ⟨by unfold neg; split <;> omega, k4.2⟩
      have m1 := clen_map (n := n) (M := M) (ls := [2 * ((f + i : Nat) : Int) + 1, x.1]) (fun l hl => by
        rcases List.mem_cons.1 hl with rfl | hl
        · exact k2
        · rw [List.mem_singleton] at hl; subst hl; exact k3)
      have m2 := clen_map (n := n) (M := M) (ls := [2 * ((f + i : Nat) : Int) + 1, x.2]) (fun l hl => by
        rcases List.mem_cons.1 hl with rfl | hl
        · exact k2
        · rw [List.mem_singleton] at hl; subst hl; exact k4)
      have m3 := clen_map (n := n) (M := M) (ls := [2 * ((f + i : Nat) : Int), neg x.1, neg x.2]) (fun l hl => by
        rcases List.mem_cons.1 hl with rfl | hl
        · exact k1
        · rcases List.mem_cons.1 hl with rfl | hl
          · exact k5
          · rw [List.mem_singleton] at hl; subst hl; exact k6)
      simp only [List.map_cons, List.map_nil] at m1 m2 m3
      unfold gateC glen
      rw [addC_length, addC_length, addC_length, m1, m2, m3]
      omega
    · rw [if_neg hm, if_neg hm]; omega

theorem extB {M M' : List Bool} (hl : M.length = M'.length) (h : ∀ j, M.getD j false = M'.getD j false) : M = M' := by
  refine List.ext_getElem hl fun j h1 h2 => ?_
  have := h j
  rwa [List.getD_eq_getElem?_getD, List.getD_eq_getElem?_getD, List.getElem?_eq_getElem h1, List.getElem?_eq_getElem h2, Option.getD_some, Option.getD_some] at this

theorem marks_in (hc : checkG I Ls As Bs Cs = 0) (hl : ∀ l ∈ lits, litN (size I Ls As) l) : ∀ l ∈ lits, (l / 2).toNat < (size I Ls As).toNat + 1 := fun l h => by
  have := hl l h
  unfold litN at this
  omega

theorem coneM_congr {lits' : List Int} (hc : checkG I Ls As Bs Cs = 0) (hl : ∀ l ∈ lits, litN (size I Ls As) l) (hl' : ∀ l ∈ lits', litN (size I Ls As) l) (h : ∀ j : Nat, (∃ l ∈ lits, j = (l / 2).toNat) ↔ ∃ l ∈ lits', j = (l / 2).toNat) : coneM I Ls As lits = coneM I Ls As lits' := by
  unfold coneM
  congr 1
  refine extB (by rw [markC_len, markC_len]) fun j => ?_
  rw [markC_get (List.length_replicate ..) (marks_in hc hl), markC_get (List.length_replicate ..) (marks_in hc hl'), decide_eq_decide.2 (h j)]

theorem of_less {lits' : List Int} (hc : checkG I Ls As Bs Cs = 0) (hl : ∀ l ∈ lits, litN (size I Ls As) l) (hl' : ∀ l ∈ lits', litN (size I Ls As) l) (h : ∀ l ∈ lits', l ∈ lits) :
    (ofC I Ls As lits').1 ≤ (ofC I Ls As lits).1 ∧ (ofC I Ls As lits').2.2.length ≤ (ofC I Ls As lits).2.2.length := by
  have hb := checkG_before hc
  obtain ⟨k1, k2, _⟩ := checkG_zero hc
  obtain ⟨k2, k3, _⟩ := k2
  have hsz : firstN I Ls + As.length = (size I Ls As).toNat + 1 := by unfold firstN size; omega
  have hlen : ∀ {ls : List Int}, firstN I Ls + As.length ≤ (markC (List.replicate ((size I Ls As).toNat + 1) false) ls).length := fun {ls} => by rw [markC_len, List.length_replicate]; omega
  have hmono : ∀ j, (coneM I Ls As lits').getD j false = true → (coneM I Ls As lits).getD j false = true := by
    refine coneC_mono hb (Nat.le_refl _) hlen (by rw [markC_len, markC_len]) fun j hj => ?_
    rw [markC_get (List.length_replicate ..) (marks_in hc hl'), Bool.or_eq_true, decide_eq_true_eq] at hj
    rw [markC_get (List.length_replicate ..) (marks_in hc hl), Bool.or_eq_true, decide_eq_true_eq]
    rcases hj with ⟨l, q, e⟩ | q
    · exact .inl ⟨l, h l q, e⟩
    · exact .inr q
  have clo : ∀ {ls : List Int}, Closed (firstN I Ls) As (coneM I Ls As ls) := fun k hk ht => coneC_closed hb (Nat.le_refl _) hlen k hk ht
  refine ⟨by have := cntM_mono hmono (size I Ls As).toNat; show ((cntM _ _ : Nat) : Int) ≤ ((cntM _ _ : Nat) : Int); omega, ?_⟩
  have g1 := gatesC_len (M := coneM I Ls As lits') hb clo hsz As.length 0 [] (by omega)
  have g2 := gatesC_len (M := coneM I Ls As lits) hb clo hsz As.length 0 [] (by omega)
  rw [List.drop_zero] at g1 g2
  show (gatesC _ _ _ _ _).length ≤ (gatesC _ _ _ _ _).length
  simp only [Nat.add_zero] at g1 g2
  rw [g1, g2]
  have := sumG_mono hmono As (firstN I Ls)
  omega

end

/-! ### TseitinOrder -/

theorem drop_sub2 {D : List Int} {k : Nat} (h : k ≤ D.length) : subl D (k : Int) (D.length : Int) = some (D.drop k) := by
  unfold subl; rw [if_pos (by omega)]; simp
theorem take_sub2 {D : List Int} {k : Nat} (h : k ≤ D.length) : subl D 0 (k : Int) = some (D.take k) := by
  unfold subl; rw [if_pos (by omega)]; simp

section
variable {I : Int} {Ls As : List (Int × Int)} {Bs Cs : List Int} {lits : List Int}

theorem TseitinOrder.loop {ok : Bool} {e : Int} {b1 : Int} {o3 o4 : List (List Int)} {k : Nat} (hk : k ≤ lits.length) (hn : lits.length ≤ 30) (hl : ∀ l ∈ lits, 0 ≤ l ∧ l ≤ 1000000) {base : List Int} (hbl : base.length ≤ 100) : ∀ (n i : Nat), i + n = k →
    spiritlevellaw22_TseitinOrder.l0 lits (k : Int) ok e (i : Int) I Ls As Bs Cs b1 (base ++ (lits.take i).map neg) o3 o4 = spiritlevellaw22_TseitinOrder.l0 lits (k : Int) ok e (k : Int) I Ls As Bs Cs b1 (base ++ (lits.take k).map neg) o3 o4
  | 0, i, hi => by
    have : i = k := by omega
    subst this; rfl
  | n + 1, i, hi => by
    have hlt : i < lits.length := by omega
    have hx := hl _ (List.getElem_mem hlt)
    have hw : IntKind.wrap .i64 ((i : Int) + 1) = ((i + 1 : Nat) : Int) := by rw [wr] <;> omega
    have ih := TseitinOrder.loop (ok := ok) (e := e) (b1 := b1) (o3 := o3) (o4 := o4) hk hn hl hbl n (i + 1) (by omega)
    rw [List.take_add_one, List.getElem?_eq_getElem hlt, Option.toList_some, List.map_append, List.map_singleton, ← List.append_assoc] at ih
    rw [spiritlevellaw22_TseitinOrder.l0_eq, cd, if_pos (by omega), gsome hlt, Option.bind_some, ref13_Not_eq (by omega), Option.bind_some, app_ok (by simp; omega), Option.bind_some, hw]
    exact ih

theorem okTC_sized {c : Int × List (Int × Int) × List (Int × Int) × List Int × List Int} (h : okD TC c) : Sized c.1 c.2.1 c.2.2.1 c.2.2.2.1 c.2.2.2.2 := okTC h

theorem ofC_small (hc : checkG I Ls As Bs Cs = 0) (hl : ∀ l ∈ lits, litN (size I Ls As) l) : ((ofC I Ls As lits).2.1.length ≤ 140737488351232 ∧ ∀ c ∈ (ofC I Ls As lits).2.1, c.length ≤ 140737488351232) ∧ (ofC I Ls As lits).2.2.length ≤ 140737488351232 ∧ ∀ c ∈ (ofC I Ls As lits).2.2, c.length ≤ 140737488351232 := by
  obtain ⟨k1, k2, _⟩ := checkG_zero hc
  obtain ⟨k2, k3, _⟩ := k2
  have big3 : ∀ {ls : List Int}, ls.length ≤ 3 → (nrm (big ls)).length ≤ 3 := fun {ls} h => by
    have h1 : (big ls).length ≤ ls.length := List.length_filter_le _ _
    have h2 : ∀ l : List Int, (nrm l).length ≤ l.length := fun l => by
      induction l with
      | nil => simp [nrm]
      | cons x r ih =>
        have : ∀ S : List Int, (ins1 x S).length ≤ S.length + 1 := fun S => by
          induction S with
          | nil => simp [ins1]
          | cons y S ih =>
            unfold ins1
            split
            · simp
            · split
              · simp
              · simp only [List.length_cons]; omega
        have := this (nrm r)
        show (ins1 x (nrm r)).length ≤ _
        rw [List.length_cons]; omega
    have := h2 (big ls)
    omega
  have addS : ∀ {cl : List (List Int)} {ls : List Int}, ls.length ≤ 3 → (∀ c ∈ cl, c.length ≤ 3) → ∀ c ∈ addC cl ls, c.length ≤ 3 := fun {cl ls} h h2 c hcm => by
    unfold addC at hcm
    split at hcm
    · exact h2 c hcm
    · split at hcm
      · exact h2 c hcm
      · rcases List.mem_append.1 hcm with q | q
        · exact h2 c q
        · rw [List.mem_singleton] at q; subst q; exact big3 h
  have gs : ∀ {M : List Bool} {row : List Int} (r : List (Int × Int)) (g : Nat) (cl : List (List Int)), (∀ c ∈ cl, c.length ≤ 3) → (∀ c ∈ gatesC M row g r cl, c.length ≤ 3) ∧ (gatesC M row g r cl).length ≤ cl.length + 3 * r.length := fun {M row} r => by
    induction r with
    | nil => exact fun g cl h => ⟨h, by simp [gatesC]⟩
    | cons x r ih =>
      intro g cl h
      rw [gatesC]
      split
      · have a := ih (g + 1) (gateC row g x cl) (addS (by simp) (addS (by simp) (addS (by simp) h)))
        have b : (gateC row g x cl).length ≤ cl.length + 3 := by
          unfold gateC
          have q1 := addC_len (cl := cl) (ls := [litR row (2 * (g : Int) + 1), litR row x.1])
          have q2 := addC_len (cl := addC cl [litR row (2 * (g : Int) + 1), litR row x.1]) (ls := [litR row (2 * (g : Int) + 1), litR row x.2])
          have q3 := addC_len (cl := addC (addC cl [litR row (2 * (g : Int) + 1), litR row x.1]) [litR row (2 * (g : Int) + 1), litR row x.2]) (ls := [litR row (2 * (g : Int)), litR row (neg x.1), litR row (neg x.2)])
          omega
        exact ⟨a.1, by rw [List.length_cons]; omega⟩
      · have a := ih (g + 1) cl h
        exact ⟨a.1, by rw [List.length_cons]; omega⟩
  have g := gs (M := coneM I Ls As lits) (row := rowM (coneM I Ls As lits) ((size I Ls As).toNat + 1) (size I Ls As).toNat) As (firstN I Ls) [] (by simp)
  refine ⟨⟨by simp [ofC, ofM], fun c hcm => ?_⟩, ?_, fun c hcm => ?_⟩
  · have : c = rowM (coneM I Ls As lits) ((size I Ls As).toNat + 1) (size I Ls As).toNat := by simpa [ofC, ofM] using hcm
    subst this
    rw [rowM_len]; unfold size; omega
  · have := g.2
    show (gatesC _ _ _ _ _).length ≤ _
    simp at this
    omega
  · have := g.1 c hcm
    omega

end

theorem TseitinOrder_pure (c : Int × List (Int × Int) × List (Int × Int) × List Int × List Int) (lits : List Int) (cut : Int) (hc : okD TC c) (hl : okD TL lits) (hk : okD (.int .i64) cut) : spiritlevellaw22_TseitinOrder c.1 c.2.1 c.2.2.1 c.2.2.2.1 c.2.2.2.2 lits cut = some true := by
  have hs := okTC hc
  obtain ⟨l1, l2⟩ := okTL hl
  obtain ⟨I, Ls, As, Bs, Cs⟩ := c
  dsimp only at *
  obtain ⟨b, b1, b2⟩ := fit22_eq hs l1
  rw [spiritlevellaw22_TseitinOrder.eq, alive22_eq, Option.bind_some, b1, Option.bind_some]
  cases b with
  | false => rfl
  | true =>
    obtain ⟨c1, c2, c3⟩ := b2 rfl
    rw [cnot, ct, cd]
    by_cases h0 : cut < 0
    · rw [if_pos h0]
    rw [if_neg h0, cd]
    by_cases h1 : cut > (lits.length : Int)
    · rw [if_pos h1]
    rw [if_neg h1, cd]
    by_cases h2 : (lits.length : Int) > 29
    · rw [if_pos h2]
    rw [if_neg h2, cnot, ct]
    obtain ⟨k, rfl⟩ := Int.eq_ofNat_of_zero_le (show 0 ≤ cut by omega)
    have hk' : k ≤ lits.length := by omega
    have hrng : ∀ l ∈ lits, 0 ≤ l ∧ l ≤ 1000000 := fun l h => by
      obtain ⟨k1, k2, _⟩ := checkG_zero c1
      obtain ⟨k2, k3, _⟩ := k2
      have := litN_iff.1 (c2 l h)
      unfold size at this
      omega
    have hof := of_ok hs (by omega) l2 c1 c2 rfl
    have hd : (lits.drop k).length ≤ 30 := by rw [List.length_drop]; omega
    have ht : (lits.take k).length ≤ 30 := by rw [List.length_take]; omega
    rw [hof, Option.bind_some, drop_sub2 hk', Option.bind_some, app_nil (by omega), Option.bind_some, take_sub2 hk', Option.bind_some, app_ok (by omega), Option.bind_some]
    have g := TseitinOrder.loop (I := I) (Ls := Ls) (As := As) (Bs := Bs) (Cs := Cs) (ok := true) (e := 0) (b1 := (ofC I Ls As lits).1) (o3 := (ofC I Ls As lits).2.1) (o4 := (ofC I Ls As lits).2.2) hk' c3 hrng (base := lits.drop k ++ lits.take k) (by rw [List.length_append]; omega) k 0 (by omega)
    rw [show ((0 : Nat) : Int) = 0 from rfl, List.take_zero, List.map_nil, List.append_nil] at g
    have hT : ∀ l ∈ lits.drop k ++ lits.take k ++ (lits.take k).map neg, ∃ x ∈ lits, l / 2 = x / 2 := fun l h => by
      rcases List.mem_append.1 h with h | h
      · rcases List.mem_append.1 h with h | h
        · exact ⟨l, List.mem_of_mem_drop h, rfl⟩
        · exact ⟨l, List.mem_of_mem_take h, rfl⟩
      · obtain ⟨x, hx, rfl⟩ := List.mem_map.1 h
        exact ⟨x, List.mem_of_mem_take hx, neg_div⟩
    have hTp : ∀ l ∈ lits.drop k ++ lits.take k ++ (lits.take k).map neg, 0 ≤ l := fun l h => by
      rcases List.mem_append.1 h with h | h
      · rcases List.mem_append.1 h with h | h
        · exact (hrng l (List.mem_of_mem_drop h)).1
        · exact (hrng l (List.mem_of_mem_take h)).1
      · obtain ⟨x, hx, rfl⟩ := List.mem_map.1 h
        have := (hrng x (List.mem_of_mem_take hx)).1
        unfold neg; split <;> omega
    have hTl : ∀ l ∈ lits.drop k ++ lits.take k ++ (lits.take k).map neg, litN (size I Ls As) l := fun l h => by
      obtain ⟨x, hx, e⟩ := hT l h
      refine ⟨hTp l h, ?_⟩
      rw [e]; exact (c2 x hx).2
    have hT64 : ∀ l ∈ lits.drop k ++ lits.take k ++ (lits.take k).map neg, in64 l := fun l h => by
      obtain ⟨x, hx, e⟩ := hT l h
      have := hTp l h
      have := hrng x hx
      unfold in64; omega
    have hcone : coneM I Ls As (lits.drop k ++ lits.take k ++ (lits.take k).map neg) = coneM I Ls As lits := by
      refine coneM_congr c1 hTl c2 fun j => ?_
      constructor
      · rintro ⟨l, h, rfl⟩
        obtain ⟨x, hx, e⟩ := hT l h
        exact ⟨x, hx, by rw [e]⟩
      · rintro ⟨l, h, rfl⟩
        refine ⟨l, List.mem_append_left _ ?_, rfl⟩
        rw [← List.take_append_drop k lits] at h
        exact List.mem_append.2 (List.mem_append.1 h).symm
    have hof2 := of_ok (r := ofC I Ls As lits) hs (show (lits.drop k ++ lits.take k ++ (lits.take k).map neg).length ≤ 1000 by simp; omega) hT64 c1 hTl (by unfold ofC; rw [hcone])
    have htk : ∀ l ∈ lits.take k, l ∈ lits := fun l h => List.mem_of_mem_take h
    have hof3 := of_ok (lits := lits.take k) hs (by omega) (fun l h => l2 l (htk l h)) c1 (fun l h => c2 l (htk l h)) rfl
    obtain ⟨q1, q2⟩ := of_less c1 c2 (fun l h => c2 l (htk l h)) htk
    obtain ⟨s1, s2⟩ := ofC_small c1 c2
    rw [g, spiritlevellaw22_TseitinOrder.l0_eq, cd, if_neg (by omega), hof2, Option.bind_some, take_sub2 hk', Option.bind_some, hof3, Option.bind_some, ct, ce, if_pos rfl, ce, if_pos rfl, ce, if_pos rfl, ref22_Same_refl s1 s2, Option.bind_some, ct, cd, if_pos q1, decide_eq_true (show ((ofC I Ls As (lits.take k)).2.2.length : Int) ≤ ((ofC I Ls As lits).2.2.length : Int) by omega)]

/-! ### TseitinNames -/

def chkT (v : Int) (fr cl : List (List Int)) : Int :=
  if cl.length > 20000 then 4 else if okV v ∧ (∀ r ∈ fr, r ≠ [] ∧ r.length = (fr.getD 0 []).length ∧ r.getD 0 0 = 0 ∧ ∀ x ∈ r, -1 ≤ x ∧ x ≤ 2 * v + 1) ∧ okL v cl then 0 else 8

section
variable {v : Int} {fr cl : List (List Int)}

theorem tseitin_Check.loop2 (hv : okV v) (hc : cl.length ≤ 20000 ∧ ∀ c ∈ cl, c.length ≤ 140737488351232 ∧ ∀ x ∈ c, in64 x) : ∀ (n i : Nat), i + n = cl.length →
    tseitin_Check.l2 cl (cl.length : Int) (i : Int) v fr cl = some (if okL v (cl.drop i) then 0 else 8)
  | 0, i, hi => by
    rw [tseitin_Check.l2_eq, cd, if_neg (by omega), List.drop_of_length_le (by omega), if_pos (by intro c h; cases h)]
  | n + 1, i, hi => by
    have hlt : i < cl.length := by omega
    obtain ⟨h1, h2⟩ := hc.2 _ (List.getElem_mem hlt)
    have hw : IntKind.wrap .i64 ((i : Int) + 1) = ((i + 1 : Nat) : Int) := by rw [wr] <;> omega
    rw [tseitin_Check.l2_eq, cd, if_pos (by omega), gsome hlt, Option.bind_some, clause_Check_eq h1 h2, Option.bind_some, if_pos hv, cn, drop_cons hlt, hw, tseitin_Check.loop2 hv hc n (i + 1) (by omega)]
    by_cases c1 : okC v cl[i]
    · rw [if_pos c1, if_pos rfl]
      by_cases c2 : okL v (cl.drop (i + 1))
      · rw [if_pos c2, if_pos (show okL v (cl[i] :: cl.drop (i + 1)) from fun c h => (List.mem_cons.1 h).elim (fun e => e ▸ c1) (c2 c))]
      · rw [if_neg c2, if_neg (show ¬ okL v (cl[i] :: cl.drop (i + 1)) from fun g => c2 fun c h => g c (List.mem_cons_of_mem _ h))]
    · rw [if_neg c1, if_neg (by omega), if_neg (show ¬ okL v (cl[i] :: cl.drop (i + 1)) from fun g => c1 (g _ (List.mem_cons_self ..)))]

theorem tseitin_Check.loop1 (hv : okV v) {x47 : List Int} {i0 : Nat} (hi0 : i0 ≤ 1000) (hn : x47.length ≤ 100000) : ∀ (n i : Nat), i + n = x47.length →
    tseitin_Check.l1 fr (fr.length : Int) (i0 : Int) x47 (x47.length : Int) (i : Int) v fr cl = if ∀ x ∈ x47.drop i, -1 ≤ x ∧ x ≤ 2 * v + 1 then tseitin_Check.l0 fr (fr.length : Int) ((i0 + 1 : Nat) : Int) v fr cl else some 8
  | 0, i, hi => by
    have hw : IntKind.wrap .i64 ((i0 : Int) + 1) = ((i0 + 1 : Nat) : Int) := by rw [wr] <;> omega
    rw [tseitin_Check.l1_eq, cd, if_neg (by omega), List.drop_of_length_le (by omega), if_pos (by simp), hw]
  | n + 1, i, hi => by
    have hlt : i < x47.length := by omega
    have hv' := hv
    obtain ⟨v1, v2⟩ := hv'
    have hw : IntKind.wrap .i64 ((i : Int) + 1) = ((i + 1 : Nat) : Int) := by rw [wr] <;> omega
    have w1 : IntKind.wrap .i64 (IntKind.wrap .i64 (2 * v) + 1) = 2 * v + 1 := by rw [wr (x := 2 * v) (by omega) (by omega), wr (by omega) (by omega)]
    rw [tseitin_Check.l1_eq, cd, if_pos (by omega), gsome hlt, Option.bind_some, cd, w1, drop_cons hlt]
    by_cases c1 : x47[i] < -1
    · rw [if_pos c1, if_neg (fun g => by have := (g _ (List.mem_cons_self ..)).1; omega)]
    rw [if_neg c1, cd]
    by_cases c2 : x47[i] > 2 * v + 1
    · rw [if_pos c2, if_neg (fun g => by have := (g _ (List.mem_cons_self ..)).2; omega)]
    rw [if_neg c2, hw, tseitin_Check.loop1 hv hi0 hn n (i + 1) (by omega)]
    by_cases c3 : ∀ x ∈ x47.drop (i + 1), -1 ≤ x ∧ x ≤ 2 * v + 1
    · rw [if_pos c3, if_pos (List.forall_mem_cons.2 ⟨⟨by omega, by omega⟩, c3⟩)]
    · rw [if_neg c3, if_neg (fun g => c3 (List.forall_mem_cons.1 g).2)]

abbrev okRow (v : Int) (fr : List (List Int)) (r : List Int) : Prop := r ≠ [] ∧ r.length = (fr.getD 0 []).length ∧ r.getD 0 0 = 0 ∧ ∀ x ∈ r, -1 ≤ x ∧ x ≤ 2 * v + 1

theorem tseitin_Check.loop0 (hv : okV v) (hf : fr.length ≤ 1000 ∧ ∀ r ∈ fr, r.length ≤ 100000) (hc : cl.length ≤ 20000 ∧ ∀ c ∈ cl, c.length ≤ 140737488351232 ∧ ∀ x ∈ c, in64 x) : ∀ (n i : Nat), i + n = fr.length →
    tseitin_Check.l0 fr (fr.length : Int) (i : Int) v fr cl = some (if (∀ r ∈ fr.drop i, okRow v fr r) ∧ okL v cl then 0 else 8)
  | 0, i, hi => by
    have := tseitin_Check.loop2 (fr := fr) hv hc cl.length 0 (by omega)
    rw [show ((0 : Nat) : Int) = 0 from rfl, List.drop_zero] at this
    rw [tseitin_Check.l0_eq, cd, if_neg (by omega), List.drop_of_length_le (by omega), this]
    by_cases c1 : okL v cl
    · rw [if_pos c1, if_pos ⟨by simp, c1⟩]
    · rw [if_neg c1, if_neg (fun g => c1 g.2)]
  | n + 1, i, hi => by
    have hlt : i < fr.length := by omega
    have h0 : 0 < fr.length := by omega
    have hr := hf.2 _ (List.getElem_mem hlt)
    have hz : geti fr 0 = some (fr.getD 0 []) := by
      rw [show (0 : Int) = ((0 : Nat) : Int) from rfl, gsome h0, List.getD_eq_getElem?_getD, List.getElem?_eq_getElem h0]; rfl
    rw [tseitin_Check.l0_eq, cd, if_pos (by omega), gsome hlt, Option.bind_some, ce, drop_cons hlt]
    by_cases c1 : ((fr[i]).length : Int) = 0
    · rw [if_pos c1, if_neg (fun g => (g.1 _ (List.mem_cons_self ..)).1 (List.eq_nil_of_length_eq_zero (by omega)))]
    rw [if_neg c1, hz, Option.bind_some, cn]
    by_cases c2 : ((fr[i]).length : Int) = ((fr.getD 0 []).length : Int)
    · have h1 : 0 < (fr[i]).length := by omega
      have hg : geti fr[i] 0 = some ((fr[i]).getD 0 0) := by
        rw [show (0 : Int) = ((0 : Nat) : Int) from rfl, gsome h1, List.getD_eq_getElem?_getD, List.getElem?_eq_getElem h1]; rfl
      rw [if_pos c2, hg, Option.bind_some, cn]
      by_cases c3 : (fr[i]).getD 0 0 = 0
      · have l1 := tseitin_Check.loop1 (fr := fr) (cl := cl) hv (x47 := fr[i]) (i0 := i) (by omega) hr (fr[i]).length 0 (by omega)
        rw [show ((0 : Nat) : Int) = 0 from rfl, List.drop_zero] at l1
        rw [if_pos c3, l1, tseitin_Check.loop0 hv hf hc n (i + 1) (by omega)]
        by_cases c4 : ∀ x ∈ fr[i], -1 ≤ x ∧ x ≤ 2 * v + 1
        · rw [if_pos c4]
          by_cases c5 : (∀ r ∈ fr.drop (i + 1), okRow v fr r) ∧ okL v cl
          · rw [if_pos c5, if_pos ⟨List.forall_mem_cons.2 ⟨⟨fun e => by rw [e] at h1; simp at h1, by omega, c3, c4⟩, c5.1⟩, c5.2⟩]
          · rw [if_neg c5, if_neg (fun g => c5 ⟨(List.forall_mem_cons.1 g.1).2, g.2⟩)]
        · rw [if_neg c4, if_neg (fun g => c4 (g.1 _ (List.mem_cons_self ..)).2.2.2)]
      · rw [if_neg c3, if_neg (fun g => c3 (g.1 _ (List.mem_cons_self ..)).2.2.1)]
    · rw [if_neg c2, if_neg (fun g => c2 (by have := (g.1 _ (List.mem_cons_self ..)).2.1; omega))]

theorem tseitin_Check_eq (hf : fr.length ≤ 1000 ∧ ∀ r ∈ fr, r.length ≤ 100000) (hc : cl.length ≤ 140737488351232 ∧ ∀ c ∈ cl, c.length ≤ 140737488351232 ∧ ∀ x ∈ c, in64 x) : tseitin_Check v fr cl = some (chkT v fr cl) := by
  unfold chkT
  rw [tseitin_Check.eq, cd]
  by_cases c0 : (cl.length : Int) > 20000
  · rw [if_pos c0, if_pos (by omega)]
  rw [if_neg c0, if_neg (by omega), cd]
  by_cases c1 : v < 0
  · rw [if_pos c1, if_neg (fun g => by have := g.1; unfold okV at this; omega)]
  rw [if_neg c1, cd]
  by_cases c2 : v > 4000
  · rw [if_pos c2, if_neg (fun g => by have := g.1; unfold okV at this; omega)]
  have hv : okV v := ⟨by omega, by omega⟩
  have := tseitin_Check.loop0 hv hf ⟨by omega, hc.2⟩ fr.length 0 (by omega)
  rw [show ((0 : Nat) : Int) = 0 from rfl, List.drop_zero] at this
  rw [if_neg c2, this]
  by_cases c3 : (∀ r ∈ fr, okRow v fr r) ∧ okL v cl
  · rw [if_pos c3, if_pos ⟨hv, c3⟩]
  · rw [if_neg c3, if_neg (fun g => c3 g.2)]

end

def wrong22 : List (Int × List (List Int) × List (List Int)) := [(-1, [], []), (4001, [], []), (0, [[]], []), (0, [[0], [0, -1]], []), (0, [[1]], []), (0, [[0, -2]], []), (1, [[0, 4]], []), (1, [], [[4]]), (1, [], [[2, 2]])]

theorem TseitinNames.loop {a b d e f g b0 b1 b2 b3 b4 : Int} {o6 o7 o8 o9 o10 o11 o12 o13 o14 o15 : List (List Int)} : ∀ (n i : Nat), i + n = 9 →
    spiritlevellaw22_TseitinNames.l0 a b d e f g (i : Int) b0 b1 b2 b3 b4 wrong22 o6 o7 o8 o9 o10 o11 o12 o13 o14 o15 = spiritlevellaw22_TseitinNames.l0 a b d e f g (9 : Int) b0 b1 b2 b3 b4 wrong22 o6 o7 o8 o9 o10 o11 o12 o13 o14 o15
  | 0, i, hi => by
    have : i = 9 := by omega
    subst this; rfl
  | n + 1, i, hi => by
    have hl : wrong22.length = 9 := rfl
    have hlt : i < wrong22.length := by omega
    have hw : IntKind.wrap .i64 ((i : Int) + 1) = ((i + 1 : Nat) : Int) := by rw [wr] <;> omega
    have hall : ∀ x ∈ wrong22, (x.2.1.length ≤ 1000 ∧ ∀ r ∈ x.2.1, r.length ≤ 100000) ∧ (x.2.2.length ≤ 1000 ∧ ∀ c ∈ x.2.2, c.length ≤ 1000 ∧ ∀ y ∈ c, 0 ≤ y ∧ y ≤ 1000) ∧ chkT x.1 x.2.1 x.2.2 = 8 := by decide
    obtain ⟨h1, h2, h3⟩ := hall _ (List.getElem_mem hlt)
    rw [← TseitinNames.loop n (i + 1) (by omega), spiritlevellaw22_TseitinNames.l0_eq (i17 := (i : Int)), cd, if_pos (by omega), gsome hlt, Option.bind_some, Int.toNat_natCast, List.getElem?_eq_getElem hlt, Option.bind_some,
      tseitin_Check_eq h1 ⟨by omega, fun c hc => ⟨by have := (h2.2 c hc).1; omega, fun y hy => by have := (h2.2 c hc).2 y hy; unfold in64; omega⟩⟩, Option.bind_some, h3, cn, if_pos rfl, hw]

theorem TseitinNames_pure : spiritlevellaw22_TseitinNames = some true := by
  have hs : Sized 1 [((0 : Int), (0 : Int))] [((2 : Int), (0 : Int)), (4, 1), (3, 3), (3, 2), (12, 9)] [] [] := sized_small (by decide) (by simp) (by decide) (by simp) (by decide)
  have hs2 : Sized (-1) [] [] [] [] := sized_small (by decide) (by simp) (by simp) (by simp) (by simp)
  have e1 := of_ok (lits := [6, 8, 10, 12]) hs (by simp) (by decide) (by decide) (by decide) (r := (6, [[0, 2, 4, 6, 8, 10, 12, -1]], [[2, 7], [7], [4, 9], [5, 8], [3, 11], [3, 11], [2, 10], [3, 13], [2, 13]])) (by decide)
  have e5 := of_ok (lits := []) hs (by simp) (by decide) (by decide) (by decide) (r := (0, [[0, -1, -1, -1, -1, -1, -1, -1]], [])) (by decide)
  have e6 := of_ok (lits := [0, 1, 1]) hs (by simp) (by decide) (by decide) (by decide) (r := (0, [[0, -1, -1, -1, -1, -1, -1, -1]], [])) (by decide)
  have e2 := tseitin_Of_eq (lits := [16]) hs (by simp) (by decide)
  have e3 := tseitin_Of_eq (lits := [-1]) hs (by simp) (by decide)
  have e4 := tseitin_Of_eq (lits := [-1]) hs2 (by simp) (by decide)
  rw [if_pos (by decide), if_neg (by decide)] at e2 e3
  rw [if_neg (by decide), show checkG (-1) [] [] [] [] = 8 by decide] at e4
  have c1 := tseitin_Check_eq (v := 0) (fr := []) (cl := []) ⟨by simp, by simp⟩ ⟨by simp, by simp⟩
  have c2 := tseitin_Check_eq (v := -1) (fr := []) (cl := List.replicate 20001 []) ⟨by simp, by simp⟩ ⟨by rw [List.length_replicate]; omega, fun c hc => by rw [List.eq_of_mem_replicate hc]; simp⟩
  have c3 := tseitin_Check_eq (v := 6) (fr := [[0, 2, 4, 6, 8, 10, 12, -1]]) (cl := [[2, 7], [7], [4, 9], [5, 8], [3, 11], [3, 11], [2, 10], [3, 13], [2, 13]]) ⟨by decide, by decide⟩ ⟨by decide, by decide⟩
  rw [show chkT 0 [] [] = 0 by decide] at c1
  rw [show chkT (-1) [] (List.replicate 20001 []) = 4 by unfold chkT; rw [if_pos (by rw [List.length_replicate]; omega)]] at c2
  rw [show chkT 6 [[0, 2, 4, 6, 8, 10, 12, -1]] [[2, 7], [7], [4, 9], [5, 8], [3, 11], [3, 11], [2, 10], [3, 13], [2, 13]] = 0 by decide] at c3
  have s1 := ref22_Same_refl (a := (6, [[0, 2, 4, 6, 8, 10, 12, -1]], [[2, 7], [7], [4, 9], [5, 8], [3, 11], [3, 11], [2, 10], [3, 13], [2, 13]])) ⟨by decide, by decide⟩ ⟨by decide, by decide⟩
  have s2 := ref22_Same_refl (a := (0, [[0, -1, -1, -1, -1, -1, -1, -1]], [])) ⟨by decide, by decide⟩ ⟨by decide, by decide⟩
  have r1 := ref02_Check_eq hs2
  rw [show checkG (-1) [] [] [] [] = 8 by decide] at r1
  have lp := fun a b d e f g b0 b1 b2 b3 b4 o6 o7 o8 o9 o10 o11 o12 o13 o14 o15 => TseitinNames.loop (a := a) (b := b) (d := d) (e := e) (f := f) (g := g) (b0 := b0) (b1 := b1) (b2 := b2) (b3 := b3) (b4 := b4) (o6 := o6) (o7 := o7) (o8 := o8) (o9 := o9) (o10 := o10) (o11 := o11) (o12 := o12) (o13 := o13) (o14 := o14) (o15 := o15) 9 0 (by omega)
  rw [spiritlevellaw22_TseitinNames.eq, e1, Option.bind_some, e2, Option.bind_some, e3, Option.bind_some, e4, Option.bind_some, e5, Option.bind_some, e6, Option.bind_some]
  dsimp only at s1 s2 ⊢
  refine (lp ..).trans ?_
  rw [spiritlevellaw22_TseitinNames.l0_eq, cd, if_neg (by decide), mkl_ok (by omega) (by omega), Option.bind_some, if_pos rfl, show Int.toNat 20001 = 20001 from rfl, c2, Option.bind_some, alive22_eq, Option.bind_some, ct, ce, if_pos rfl, s1, Option.bind_some, ct, ce, if_pos rfl, ce, if_pos rfl, cn, if_neg (by decide), r1, Option.bind_some,
    ce, if_pos rfl, ce, if_pos rfl, s2, Option.bind_some, ct, ce, if_pos rfl, Option.bind_some, ct, ce, if_pos rfl, c1, Option.bind_some, ce, if_pos rfl, c3, Option.bind_some]
  rfl

end Go.Proofs.Ythbkhndapkbgbaa
