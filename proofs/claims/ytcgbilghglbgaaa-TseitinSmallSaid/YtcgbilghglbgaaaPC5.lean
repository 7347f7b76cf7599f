/- Circuits as clauses, of plain values: TseitinOrder, TseitinNames. -/
import Derived.Test.YtcgbilghglbgaaaPC4
namespace Go.Proofs.Ytcgbilghglbgaaa
open Go Go.Proofs.Ytcgbilghglbgaaa.R
set_option linter.unusedVariables false

/-! ### Alike -/

theorem two_drops {α : Type} {a b : List α} {i : Nat} (h1 : i < a.length) (h2 : i < b.length) : a.drop i = b.drop i ↔ a[i] = b[i] ∧ a.drop (i + 1) = b.drop (i + 1) := by
  rw [List.drop_eq_getElem_cons h1, List.drop_eq_getElem_cons h2, List.cons.injEq]

theorem same_all.loop {a b : List (List Int)} (hl : a.length = b.length) (hn : a.length ≤ 140737488351232) (hc : ∀ c ∈ a, c.length ≤ 140737488351232) : ∀ (n i : Nat), i + n = a.length → spiritlevelref13_SameAll.l0 a b (i : Int) = some (decide (a.drop i = b.drop i))
  | 0, i, hi => by
    rw [spiritlevelref13_SameAll.l0_eq, cd, if_neg (by omega), List.drop_of_length_le (by omega), List.drop_of_length_le (by omega)]; rfl
  | n + 1, i, hi => by
    have h1 : i < a.length := by omega
    have h2 : i < b.length := by omega
    have hw : IntKind.wrap .i64 ((i : Int) + 1) = ((i + 1 : Nat) : Int) := by rw [wr] <;> omega
    rw [spiritlevelref13_SameAll.l0_eq, cd, if_pos (by omega), gsome h1, Option.bind_some, gsome h2, Option.bind_some, ref13_Same_eq (hc _ (List.getElem_mem h1)), Option.bind_some, hw, same_all.loop hl hn hc n (i + 1) (by omega), show decide (a.drop i = b.drop i) = decide (a[i] = b[i] ∧ a.drop (i + 1) = b.drop (i + 1)) from decide_eq_decide.2 (two_drops h1 h2), cnot, cd]
    by_cases hx : a[i] = b[i]
    · rw [if_pos hx]; simp only [hx, true_and]
    · rw [if_neg hx]; simp only [hx, false_and, decide_false]

theorem same_all {a b : List (List Int)} (hn : a.length ≤ 140737488351232) (hc : ∀ c ∈ a, c.length ≤ 140737488351232) : spiritlevelref13_SameAll a b = some (decide (a = b)) := by
  rw [spiritlevelref13_SameAll.eq, cn]
  by_cases hl : (a.length : Int) = b.length
  · have := same_all.loop (a := a) (b := b) (by omega) hn hc a.length 0 (by omega)
    rw [if_pos hl, show (0 : Int) = ((0 : Nat) : Int) from rfl, this]; simp
  · rw [if_neg hl]
    have : a ≠ b := fun e => hl (by rw [e])
    simp [this]

theorem ref22_Same_refl {a : Int × List (List Int) × List (List Int)} (h1 : a.2.1.length ≤ 140737488351232 ∧ ∀ c ∈ a.2.1, c.length ≤ 140737488351232) (h2 : a.2.2.length ≤ 140737488351232 ∧ ∀ c ∈ a.2.2, c.length ≤ 140737488351232) :
    spiritlevelref22_Same a.1 a.2.1 a.2.2 a.1 a.2.1 a.2.2 = some true := by
  rw [spiritlevelref22_Same.eq, beq_self_eq_true, ct, same_all h1.1 h1.2, Option.bind_some, decide_eq_true rfl, ct, same_all h2.1 h2.2, Option.bind_some, decide_eq_true rfl]

section
variable {I : Int} {Ls As : List (Int × Int)} {Bs Cs : List Int} {f n : Nat} {lits : List Int}

theorem of_ok (h : Sized I Ls As Bs Cs) (hn : lits.length ≤ 1000) (hr : ∀ l ∈ lits, in64 l) (hc : checkG I Ls As Bs Cs = 0) (hl : ∀ l ∈ lits, litN (size I Ls As) l) {r : Int × List (List Int) × List (List Int)} (e : tsC I Ls As lits = r) : tseitin_Of I Ls As Bs Cs lits = some (r, 0) := by
  rw [tseitin_Of_eq h hn hr, if_pos hc, if_pos hl, e]

/-! ### It lives -/

theorem sized_small (h1 : in64 I) (h2 : Ls.length ≤ 100) (h3 : ∀ x ∈ Ls, in64 x.1 ∧ in64 x.2) (h4 : As.length ≤ 100) (h5 : ∀ x ∈ As, in64 x.1 ∧ in64 x.2) : Sized I Ls As [] [] where
  i := h1
  ls := ⟨by omega, h3⟩
  as_ := ⟨by omega, h5⟩
  bs := ⟨by simp, by simp⟩
  cs := ⟨by simp, by simp⟩

theorem alive22_eq : spiritlevellaw22_alive = some true := by
  have hs : Sized 2 [] [((4 : Int), (2 : Int))] [] [] := sized_small (by decide) (by simp) (by simp) (by simp) (by decide)
  have e1 := of_ok (lits := [7]) hs (by simp) (by decide) (by decide) (by decide) (r := (3, [[0, 2, 4, 6]], [[4, 7], [2, 7], [3, 5, 6]])) (by decide)
  have e2 := of_ok (lits := [3]) hs (by simp) (by decide) (by decide) (by decide) (r := (1, [[0, 2, -1, -1]], [])) (by decide)
  have s1 := ref22_Same_refl (a := (3, [[0, 2, 4, 6]], [[4, 7], [2, 7], [3, 5, 6]])) ⟨by decide, by decide⟩ ⟨by decide, by decide⟩
  have s2 := ref22_Same_refl (a := (1, [[0, 2, -1, -1]], [])) ⟨by decide, by decide⟩ ⟨by decide, by decide⟩
  rw [spiritlevellaw22_alive.eq, spiritlevellaw22_example.eq, Option.bind_some, e1, Option.bind_some, Option.bind_some, e2, Option.bind_some]
  dsimp only at s1 s2 ⊢
  rw [ce, if_pos rfl, s1, Option.bind_some, ct, ce, if_pos rfl, s2, Option.bind_some]

/-! ### What is asked -/

theorem litN_iff {s l : Int} : litN s l ↔ 0 ≤ l ∧ l ≤ 2 * s + 1 := by unfold litN; omega

theorem ref22_Asked.loop (h : Sized I Ls As Bs Cs) (hI : 0 ≤ I ∧ I ≤ 1000) (hn : lits.length ≤ 140737488351232) : ∀ (m i : Nat), i + m = lits.length →
    spiritlevelref22_Asked.l0 lits (i : Int) I Ls As Bs Cs = some (if ∀ l ∈ lits.drop i, litN (size I Ls As) l then 0 else 2)
  | 0, i, hi => by
    rw [spiritlevelref22_Asked.l0_eq, cd, if_neg (by omega), List.drop_of_length_le (by omega), if_pos (by simp)]
  | m + 1, i, hi => by
    have hlt : i < lits.length := by omega
    have hl1 := h.ls.1
    have hl2 := h.as_.1
    have hw : IntKind.wrap .i64 ((i : Int) + 1) = ((i + 1 : Nat) : Int) := by rw [wr] <;> omega
    have w1 : IntKind.wrap .i64 (IntKind.wrap .i64 (2 * size I Ls As) + 1) = 2 * size I Ls As + 1 := by unfold size; rw [wr (x := 2 * _) (by omega) (by omega), wr (by omega) (by omega)]
    rw [spiritlevelref22_Asked.l0_eq, cd, if_pos (by omega), gsome hlt, Option.bind_some, cd, drop_cons hlt]
    by_cases c1 : lits[i] < 0
    · rw [if_pos c1, if_neg (fun g => by have := litN_iff.1 (g _ (List.mem_cons_self ..)); omega)]
    rw [if_neg c1, Option.bind_some, ref02_Size_eq h hI, Option.bind_some, w1, cd]
    by_cases c2 : lits[i] > 2 * size I Ls As + 1
    · rw [if_pos c2, if_neg (fun g => by have := litN_iff.1 (g _ (List.mem_cons_self ..)); omega)]
    rw [if_neg c2, hw, ref22_Asked.loop h hI hn m (i + 1) (by omega)]
    by_cases c3 : ∀ l ∈ lits.drop (i + 1), litN (size I Ls As) l
    · rw [if_pos c3, if_pos (List.forall_mem_cons.2 ⟨litN_iff.2 ⟨by omega, by omega⟩, c3⟩)]
    · rw [if_neg c3, if_neg (fun g => c3 (List.forall_mem_cons.1 g).2)]

theorem ref22_Asked_eq (h : Sized I Ls As Bs Cs) (hn : lits.length ≤ 140737488351232) : spiritlevelref22_Asked I Ls As Bs Cs lits = some (if checkG I Ls As Bs Cs = 0 then (if ∀ l ∈ lits, litN (size I Ls As) l then 0 else 2) else checkG I Ls As Bs Cs) := by
  rw [spiritlevelref22_Asked.eq, ref02_Check_eq h, Option.bind_some, cn]
  by_cases c : checkG I Ls As Bs Cs = 0
  · obtain ⟨k1, k2, _⟩ := checkG_zero c
    have := ref22_Asked.loop h ⟨k1, k2.1⟩ hn lits.length 0 (by omega)
    rw [show ((0 : Nat) : Int) = 0 from rfl, List.drop_zero] at this
    rw [if_pos c, if_pos c, this]
  · rw [if_neg c, if_neg c]

theorem fit22_eq (h : Sized I Ls As Bs Cs) (hn : lits.length ≤ 140737488351232) : ∃ b, spiritlevellaw22_fit I Ls As Bs Cs lits = some b ∧ (b = true → checkG I Ls As Bs Cs = 0 ∧ (∀ l ∈ lits, litN (size I Ls As) l) ∧ lits.length ≤ 30) := by
  rw [spiritlevellaw22_fit.eq, ref02_Great_eq h, Option.bind_some, cnot, cd]
  split
  · exact ⟨false, rfl, by simp⟩
  · rw [cd]
    by_cases c1 : (lits.length : Int) ≤ 30
    · rw [if_pos c1, ref22_Asked_eq h hn, Option.bind_some]
      refine ⟨_, rfl, fun e => ?_⟩
      rw [beq_iff_eq] at e
      by_cases c2 : checkG I Ls As Bs Cs = 0
      · rw [if_pos c2] at e
        by_cases c3 : ∀ l ∈ lits, litN (size I Ls As) l
        · exact ⟨c2, c3, by omega⟩
        · rw [if_neg c3] at e; omega
      · rw [if_neg c2] at e; exact absurd e c2
    · rw [if_neg c1]; exact ⟨false, rfl, by simp⟩

/-! ### More literals, more clauses -/

def clen (ls : List Int) : Nat := if 1 ∈ ls then 0 else if tautB (big ls) = true then 0 else 1

theorem addC_length {cl : List (List Int)} {ls : List Int} : (addC cl ls).length = cl.length + clen ls := by
  unfold addC clen
  split
  · rfl
  · split
    · rfl
    · simp

theorem clen_map {M : List Bool} {ls : List Int} (h : ∀ l ∈ ls, 0 ≤ l ∧ (l / 2).toNat ≤ n ∧ ((l / 2).toNat = 0 ∨ M.getD (l / 2).toNat false = true)) : clen (ls.map (litR (rowM M (n + 1) n))) = clen ls := by
  have val : ∀ l ∈ ls, litR (rowM M (n + 1) n) l = 2 * (cntM M (l / 2).toNat : Int) + l % 2 ∧ (cntM M (l / 2).toNat = 0 ↔ l / 2 = 0) := fun l hl => by
    obtain ⟨h1, h2, h3⟩ := h l hl
    refine ⟨(row_lit h1 h2 h3).1, ?_⟩
    by_cases e : (l / 2).toNat = 0
    · rw [e, cntM]; omega
    · rw [cntM_pos (h3.resolve_left e) (by omega)]; omega
  have inj : ∀ x ∈ ls, ∀ y ∈ ls, cntM M (x / 2).toNat = cntM M (y / 2).toNat → x / 2 = y / 2 := fun x hx y hy e => by
    obtain ⟨x1, x2, x3⟩ := h x hx
    obtain ⟨y1, y2, y3⟩ := h y hy
    rcases Nat.lt_trichotomy (x / 2).toNat (y / 2).toNat with q | q | q
    · have := cntM_inj (y3.resolve_left (by omega)) q; omega
    · omega
    · have := cntM_inj (x3.resolve_left (by omega)) q; omega
  have e1 : 1 ∈ ls.map (litR (rowM M (n + 1) n)) ↔ 1 ∈ ls := by
    rw [List.mem_map]
    constructor
    · rintro ⟨l, hl, e⟩
      obtain ⟨v1, v2⟩ := val l hl
      have h0 := (h l hl).1
      have : l = 1 := by
        have : cntM M (l / 2).toNat = 0 := by omega
        have := v2.1 this
        omega
      exact this ▸ hl
    · intro hl
      obtain ⟨v1, v2⟩ := val 1 hl
      refine ⟨1, hl, ?_⟩
      have := v2.2 (by decide)
      omega
  have bigm : ∀ x, x ∈ big (ls.map (litR (rowM M (n + 1) n))) ↔ ∃ l ∈ big ls, x = litR (rowM M (n + 1) n) l := fun x => by
    unfold big
    rw [List.mem_filter, List.mem_map]
    constructor
    · rintro ⟨⟨l, hl, rfl⟩, e⟩
      obtain ⟨v1, v2⟩ := val l hl
      have h0 := (h l hl).1
      have e : 1 < litR (rowM M (n + 1) n) l := by simpa using e
      refine ⟨l, List.mem_filter.2 ⟨hl, ?_⟩, rfl⟩
      rw [decide_eq_true_eq]
      apply Classical.byContradiction
      intro q
      have := v2.2 (by omega)
      omega
    · rintro ⟨l, hl, rfl⟩
      obtain ⟨hl, e⟩ := List.mem_filter.1 hl
      obtain ⟨v1, v2⟩ := val l hl
      have h0 := (h l hl).1
      have e : 1 < l := by simpa using e
      refine ⟨⟨l, hl, rfl⟩, ?_⟩
      rw [decide_eq_true_eq]
      have : cntM M (l / 2).toNat ≠ 0 := fun q => by have := v2.1 q; omega
      omega
  have e2 : tautB (big (ls.map (litR (rowM M (n + 1) n)))) = tautB (big ls) := by
    rw [Bool.eq_iff_iff, tautB_iff, tautB_iff]
    constructor
    · rintro ⟨x, hx, y, hy, hne, he⟩
      obtain ⟨a, ha, rfl⟩ := (bigm x).1 hx
      obtain ⟨b, hb, rfl⟩ := (bigm y).1 hy
      have ha' := (List.mem_filter.1 ha).1
      have hb' := (List.mem_filter.1 hb).1
      have va := (val a ha').1
      have vb := (val b hb').1
      refine ⟨a, ha, b, hb, fun q => hne (by rw [q]), inj a ha' b hb' ?_⟩
      omega
    · rintro ⟨a, ha, b, hb, hne, he⟩
      have ha' := (List.mem_filter.1 ha).1
      have hb' := (List.mem_filter.1 hb).1
      have va := (val a ha').1
      have vb := (val b hb').1
      refine ⟨_, (bigm _).2 ⟨a, ha, rfl⟩, _, (bigm _).2 ⟨b, hb, rfl⟩, ?_, ?_⟩
      · rw [va, vb, he]; omega
      · rw [va, vb, he]; omega
  unfold clen
  rw [e2]
  by_cases q : 1 ∈ ls
  · rw [if_pos q, if_pos (e1.2 q)]
  · rw [if_neg q, if_neg (fun w => q (e1.1 w))]

def glen (g : Int) (x : Int × Int) : Nat := clen [2 * g + 1, x.1] + clen [2 * g + 1, x.2] + clen [2 * g, neg x.1, neg x.2]
def sumG (M : List Bool) : Nat → List (Int × Int) → Nat
  | _, [] => 0
  | g, x :: r => (if M.getD g false = true then glen g x else 0) + sumG M (g + 1) r

theorem sumG_mono {M M' : List Bool} (h : ∀ j, M.getD j false = true → M'.getD j false = true) : ∀ (r : List (Int × Int)) (g : Nat), sumG M g r ≤ sumG M' g r
  | [], g => Nat.le_refl _
  | x :: r, g => by
    have := sumG_mono h r (g + 1)
    rw [sumG, sumG]
    by_cases q : M.getD g false = true
    · rw [if_pos q, if_pos (h _ q)]; omega
    · rw [if_neg q]; omega

theorem gatesC_len {M : List Bool} (hb : Before f As) (hc : Closed f As M) (hN : f + As.length = n + 1) : ∀ (m i : Nat) (cl : List (List Int)), i + m = As.length → (gatesC M (rowM M (n + 1) n) (f + i) (As.drop i) cl).length = cl.length + sumG M (f + i) (As.drop i)
  | 0, i, cl, hi => by rw [List.drop_of_length_le (by omega)]; rfl
  | m + 1, i, cl, hi => by
    have hlt : i < As.length := by omega
    obtain ⟨b1, b2, b3⟩ := hb i hlt
    have hc' := hc i hlt
    have hd : As.drop i = As.getD i (0, 0) :: As.drop (i + 1) := by
      rw [drop_cons hlt, List.getD_eq_getElem?_getD, List.getElem?_eq_getElem hlt]; rfl
    rw [hd, gatesC, sumG, show f + i + 1 = f + (i + 1) from rfl, gatesC_len hb hc hN m (i + 1) _ (by omega)]
    generalize As.getD i (0, 0) = x at *
    by_cases hm : M.getD (f + i) false = true
    · obtain ⟨c1, c2⟩ := hc' hm
      rw [if_pos hm, if_pos hm]
      have k1 : 0 ≤ 2 * ((f + i : Nat) : Int) ∧ (2 * ((f + i : Nat) : Int) / 2).toNat ≤ n ∧ ((2 * ((f + i : Nat) : Int) / 2).toNat = 0 ∨ M.getD (2 * ((f + i : Nat) : Int) / 2).toNat false = true) := by
        rw [show (2 * ((f + i : Nat) : Int) / 2).toNat = f + i by omega]
        exact ⟨by omega, by omega, .inr hm⟩
      have k2 : 0 ≤ 2 * ((f + i : Nat) : Int) + 1 ∧ ((2 * ((f + i : Nat) : Int) + 1) / 2).toNat ≤ n ∧ (((2 * ((f + i : Nat) : Int) + 1) / 2).toNat = 0 ∨ M.getD ((2 * ((f + i : Nat) : Int) + 1) / 2).toNat false = true) := by
        rw [show ((2 * ((f + i : Nat) : Int) + 1) / 2).toNat = f + i by omega]
        exact ⟨by omega, by omega, .inr hm⟩
      have k3 : 0 ≤ x.1 ∧ (x.1 / 2).toNat ≤ n ∧ ((x.1 / 2).toNat = 0 ∨ M.getD (x.1 / 2).toNat false = true) := ⟨by omega, by omega, .inr c1⟩
      have k4 : 0 ≤ x.2 ∧ (x.2 / 2).toNat ≤ n ∧ ((x.2 / 2).toNat = 0 ∨ M.getD (x.2 / 2).toNat false = true) := ⟨by omega, by omega, .inr c2⟩
      have k5 : 0 ≤ neg x.1 ∧ (neg x.1 / 2).toNat ≤ n ∧ ((neg x.1 / 2).toNat = 0 ∨ M.getD (neg x.1 / 2).toNat false = true) := by
        rw [neg_div]; exact ⟨by unfold neg; split <;> omega, k3.2⟩
      have k6 : 0 ≤ neg x.2 ∧ (neg x.2 / 2).toNat ≤ n ∧ ((neg x.2 / 2).toNat = 0 ∨ M.getD (neg x.2 / 2).toNat false = true) := by
        rw [neg_div]; exact ⟨by unfold neg; split <;> omega, k4.2⟩
      have m1 := clen_map (n := n) (M := M) (ls := [2 * ((f + i : Nat) : Int) + 1, x.1]) (fun l hl => by
        rcases List.mem_cons.1 hl with rfl | hl
        · exact k2
        · rw [List.mem_singleton] at hl; subst hl; exact k3)
      have m2 := clen_map (n := n) (M := M) (ls := [2 * ((f + i : Nat) : Int) + 1, x.2]) (fun l hl => by
        rcases List.mem_cons.1 hl with rfl | hl
        · exact k2
        · rw [List.mem_singleton] at hl; subst hl; exact k4)
      have m3 := clen_map (n := n) (M := M) (ls := [2 * ((f + i : Nat) : Int), neg x.1, neg x.2]) (fun l hl => by
        rcases List.mem_cons.1 hl with rfl | hl
        · exact k1
        · rcases List.mem_cons.1 hl with rfl | hl
          · exact k5
          · rw [List.mem_singleton] at hl; subst hl; exact k6)
      simp only [List.map_cons, List.map_nil] at m1 m2 m3
      unfold gateC glen
      rw [addC_length, addC_length, addC_length, m1, m2, m3]
      omega
    · rw [if_neg hm, if_neg hm]; omega

theorem extB {M M' : List Bool} (hl : M.length = M'.length) (h : ∀ j, M.getD j false = M'.getD j false) : M = M' := by
  refine List.ext_getElem hl fun j h1 h2 => ?_
  have := h j
  rwa [List.getD_eq_getElem?_getD, List.getD_eq_getElem?_getD, List.getElem?_eq_getElem h1, List.getElem?_eq_getElem h2, Option.getD_some, Option.getD_some] at this

theorem marks_in (hc : checkG I Ls As Bs Cs = 0) (hl : ∀ l ∈ lits, litN (size I Ls As) l) : ∀ l ∈ lits, (l / 2).toNat < (size I Ls As).toNat + 1 := fun l h => by
  have := hl l h
  unfold litN at this
  omega

theorem coneM_congr {lits' : List Int} (hc : checkG I Ls As Bs Cs = 0) (hl : ∀ l ∈ lits, litN (size I Ls As) l) (hl' : ∀ l ∈ lits', litN (size I Ls As) l) (h : ∀ j : Nat, (∃ l ∈ lits, j = (l / 2).toNat) ↔ ∃ l ∈ lits', j = (l / 2).toNat) : coneM I Ls As lits = coneM I Ls As lits' := by
  unfold coneM
  congr 1
  refine extB (by rw [markC_len, markC_len]) fun j => ?_
  rw [markC_get (List.length_replicate ..) (marks_in hc hl), markC_get (List.length_replicate ..) (marks_in hc hl'), decide_eq_decide.2 (h j)]

theorem of_less {lits' : List Int} (hc : checkG I Ls As Bs Cs = 0) (hl : ∀ l ∈ lits, litN (size I Ls As) l) (hl' : ∀ l ∈ lits', litN (size I Ls As) l) (h : ∀ l ∈ lits', l ∈ lits) :
    (tsC I Ls As lits').1 ≤ (tsC I Ls As lits).1 ∧ (tsC I Ls As lits').2.2.length ≤ (tsC I Ls As lits).2.2.length := by
  have hb := checkG_before hc
  obtain ⟨k1, k2, _⟩ := checkG_zero hc
  obtain ⟨k2, k3, _⟩ := k2
  have hsz : firstN I Ls + As.length = (size I Ls As).toNat + 1 := by unfold firstN size; omega
  have hlen : ∀ {ls : List Int}, firstN I Ls + As.length ≤ (markC (List.replicate ((size I Ls As).toNat + 1) false) ls).length := fun {ls} => by rw [markC_len, List.length_replicate]; omega
  have hmono : ∀ j, (coneM I Ls As lits').getD j false = true → (coneM I Ls As lits).getD j false = true := by
    refine coneC_mono hb (Nat.le_refl _) hlen (by rw [markC_len, markC_len]) fun j hj => ?_
    rw [markC_get (List.length_replicate ..) (marks_in hc hl'), Bool.or_eq_true, decide_eq_true_eq] at hj
    rw [markC_get (List.length_replicate ..) (marks_in hc hl), Bool.or_eq_true, decide_eq_true_eq]
    rcases hj with ⟨l, q, e⟩ | q
    · exact .inl ⟨l, h l q, e⟩
    · exact .inr q
  have clo : ∀ {ls : List Int}, Closed (firstN I Ls) As (coneM I Ls As ls) := fun k hk ht => coneC_closed hb (Nat.le_refl _) hlen k hk ht
  refine ⟨by have := cntM_mono hmono (size I Ls As).toNat; show ((cntM _ _ : Nat) : Int) ≤ ((cntM _ _ : Nat) : Int); omega, ?_⟩
  have g1 := gatesC_len (M := coneM I Ls As lits') hb clo hsz As.length 0 [] (by omega)
  have g2 := gatesC_len (M := coneM I Ls As lits) hb clo hsz As.length 0 [] (by omega)
  rw [List.drop_zero] at g1 g2
  show (gatesC _ _ _ _ _).length ≤ (gatesC _ _ _ _ _).length
  simp only [Nat.add_zero] at g1 g2
  rw [g1, g2]
  have := sumG_mono hmono As (firstN I Ls)
  omega

end

/-! ### TseitinOrder -/

theorem drop_sub2 {D : List Int} {k : Nat} (h : k ≤ D.length) : subl D (k : Int) (D.length : Int) = some (D.drop k) := by
  unfold subl; rw [if_pos (by omega)]; simp
theorem take_sub2 {D : List Int} {k : Nat} (h : k ≤ D.length) : subl D 0 (k : Int) = some (D.take k) := by
  unfold subl; rw [if_pos (by omega)]; simp

section
variable {I : Int} {Ls As : List (Int × Int)} {Bs Cs : List Int} {lits : List Int}

theorem okTC_sized {c : Int × List (Int × Int) × List (Int × Int) × List Int × List Int} (h : okD TC c) : Sized c.1 c.2.1 c.2.2.1 c.2.2.2.1 c.2.2.2.2 := okTC h

theorem tsC_small (hc : checkG I Ls As Bs Cs = 0) (hl : ∀ l ∈ lits, litN (size I Ls As) l) : ((tsC I Ls As lits).2.1.length ≤ 140737488351232 ∧ ∀ c ∈ (tsC I Ls As lits).2.1, c.length ≤ 140737488351232) ∧ (tsC I Ls As lits).2.2.length ≤ 140737488351232 ∧ ∀ c ∈ (tsC I Ls As lits).2.2, c.length ≤ 140737488351232 := by
  obtain ⟨k1, k2, _⟩ := checkG_zero hc
  obtain ⟨k2, k3, _⟩ := k2
  have big3 : ∀ {ls : List Int}, ls.length ≤ 3 → (nrm (big ls)).length ≤ 3 := fun {ls} h => by
    have h1 : (big ls).length ≤ ls.length := List.length_filter_le _ _
    have h2 : ∀ l : List Int, (nrm l).length ≤ l.length := fun l => by
      induction l with
      | nil => simp [nrm]
      | cons x r ih =>
        have : ∀ S : List Int, (ins1 x S).length ≤ S.length + 1 := fun S => by
          induction S with
          | nil => simp [ins1]
          | cons y S ih =>
            unfold ins1
            split
            · simp
            · split
              · simp
              · simp only [List.length_cons]; omega
        have := this (nrm r)
        show (ins1 x (nrm r)).length ≤ _
        rw [List.length_cons]; omega
    have := h2 (big ls)
    omega
  have addS : ∀ {cl : List (List Int)} {ls : List Int}, ls.length ≤ 3 → (∀ c ∈ cl, c.length ≤ 3) → ∀ c ∈ addC cl ls, c.length ≤ 3 := fun {cl ls} h h2 c hcm => by
    unfold addC at hcm
    split at hcm
    · exact h2 c hcm
    · split at hcm
      · exact h2 c hcm
      · rcases List.mem_append.1 hcm with q | q
        · exact h2 c q
        · rw [List.mem_singleton] at q; subst q; exact big3 h
  have gs : ∀ {M : List Bool} {row : List Int} (r : List (Int × Int)) (g : Nat) (cl : List (List Int)), (∀ c ∈ cl, c.length ≤ 3) → (∀ c ∈ gatesC M row g r cl, c.length ≤ 3) ∧ (gatesC M row g r cl).length ≤ cl.length + 3 * r.length := fun {M row} r => by
    induction r with
    | nil => exact fun g cl h => ⟨h, by simp [gatesC]⟩
    | cons x r ih =>
      intro g cl h
      rw [gatesC]
      split
      · have a := ih (g + 1) (gateC row g x cl) (addS (by simp) (addS (by simp) (addS (by simp) h)))
        have b : (gateC row g x cl).length ≤ cl.length + 3 := by
          unfold gateC
          have q1 := addC_len (cl := cl) (ls := [litR row (2 * (g : Int) + 1), litR row x.1])
          have q2 := addC_len (cl := addC cl [litR row (2 * (g : Int) + 1), litR row x.1]) (ls := [litR row (2 * (g : Int) + 1), litR row x.2])
          have q3 := addC_len (cl := addC (addC cl [litR row (2 * (g : Int) + 1), litR row x.1]) [litR row (2 * (g : Int) + 1), litR row x.2]) (ls := [litR row (2 * (g : Int)), litR row (neg x.1), litR row (neg x.2)])
          omega
        exact ⟨a.1, by rw [List.length_cons]; omega⟩
      · have a := ih (g + 1) cl h
        exact ⟨a.1, by rw [List.length_cons]; omega⟩
  have g := gs (M := coneM I Ls As lits) (row := rowM (coneM I Ls As lits) ((size I Ls As).toNat + 1) (size I Ls As).toNat) As (firstN I Ls) [] (by simp)
  refine ⟨⟨by simp [tsC, tsM], fun c hcm => ?_⟩, ?_, fun c hcm => ?_⟩
  · have : c = rowM (coneM I Ls As lits) ((size I Ls As).toNat + 1) (size I Ls As).toNat := by simpa [tsC, tsM] using hcm
    subst this
    rw [rowM_len]; unfold size; omega
  · have := g.2
    show (gatesC _ _ _ _ _).length ≤ _
    simp at this
    omega
  · have := g.1 c hcm
    omega

end

/-! ### TseitinNames -/

def chkT (v : Int) (fr cl : List (List Int)) : Int :=
  if cl.length > 20000 then 4 else if okV v ∧ (∀ r ∈ fr, r ≠ [] ∧ r.length = (fr.getD 0 []).length ∧ r.getD 0 0 = 0 ∧ ∀ x ∈ r, -1 ≤ x ∧ x ≤ 2 * v + 1) ∧ okL v cl then 0 else 8

section
variable {v : Int} {fr cl : List (List Int)}

abbrev okRow (v : Int) (fr : List (List Int)) (r : List Int) : Prop := r ≠ [] ∧ r.length = (fr.getD 0 []).length ∧ r.getD 0 0 = 0 ∧ ∀ x ∈ r, -1 ≤ x ∧ x ≤ 2 * v + 1

end

def wrong22 : List (Int × List (List Int) × List (List Int)) := [(-1, [], []), (4001, [], []), (0, [[]], []), (0, [[0], [0, -1]], []), (0, [[1]], []), (0, [[0, -2]], []), (1, [[0, 4]], []), (1, [], [[4]]), (1, [], [[2, 2]])]

end Go.Proofs.Ytcgbilghglbgaaa
