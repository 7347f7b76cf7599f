/- . -/
import Derived.Test.YthbkhndapkbgbaaGreatPC4
namespace Go.Proofs.YthbkhndapkbgbaaGreat
open Go Go.Proofs.YthbkhndapkbgbaaGreat.R
set_option linter.unusedVariables false


theorem two_drops {α : Type} {a b : List α} {i : Nat} (h1 : i < a.length) (h2 : i < b.length) : a.drop i = b.drop i ↔ a[i] = b[i] ∧ a.drop (i + 1) = b.drop (i + 1) := by
  rw [List.drop_eq_getElem_cons h1, List.drop_eq_getElem_cons h2, List.cons.injEq]

theorem same_all.loop {a b : List (List Int)} (hl : a.length = b.length) (hn : a.length ≤ 140737488351232) (hc : ∀ c ∈ a, c.length ≤ 140737488351232) : ∀ (n i : Nat), i + n = a.length → spiritlevelref13_SameAll.l0 a b (i : Int) = some (decide (a.drop i = b.drop i))
  | 0, i, hi => by
    rw [spiritlevelref13_SameAll.l0_eq, cd, if_neg (by omega), List.drop_of_length_le (by omega), List.drop_of_length_le (by omega)]; rfl
  | n + 1, i, hi => by
    have h1 : i < a.length := by omega
    have h2 : i < b.length := by omega
    have hw : IntKind.wrap .i64 ((i : Int) + 1) = ((i + 1 : Nat) : Int) := by rw [wr] <;> omega
    rw [spiritlevelref13_SameAll.l0_eq, cd, if_pos (by omega), gsome h1, Option.bind_some, gsome h2, Option.bind_some, ref13_Same_eq (hc _ (List.getElem_mem h1)), Option.bind_some, hw, same_all.loop hl hn hc n (i + 1) (by omega), show decide (a.drop i = b.drop i) = decide (a[i] = b[i] ∧ a.drop (i + 1) = b.drop (i + 1)) from decide_eq_decide.2 (two_drops h1 h2), cnot, cd]
    by_cases hx : a[i] = b[i]
    · rw [if_pos hx]; simp only [hx, true_and]
    · rw [if_neg hx]; simp only [hx, false_and, decide_false]

theorem same_all {a b : List (List Int)} (hn : a.length ≤ 140737488351232) (hc : ∀ c ∈ a, c.length ≤ 140737488351232) : spiritlevelref13_SameAll a b = some (decide (a = b)) := by
  rw [spiritlevelref13_SameAll.eq, cn]
  by_cases hl : (a.length : Int) = b.length
  · have := same_all.loop (a := a) (b := b) (by omega) hn hc a.length 0 (by omega)
    rw [if_pos hl, show (0 : Int) = ((0 : Nat) : Int) from rfl, this]; simp
  · rw [if_neg hl]
    have : a ≠ b := fun e => hl (by rw [e])
    simp [this]

theorem ref22_Same_refl {a : Int × List (List Int) × List (List Int)} (h1 : a.2.1.length ≤ 140737488351232 ∧ ∀ c ∈ a.2.1, c.length ≤ 140737488351232) (h2 : a.2.2.length ≤ 140737488351232 ∧ ∀ c ∈ a.2.2, c.length ≤ 140737488351232) :
    spiritlevelref22_Same a.1 a.2.1 a.2.2 a.1 a.2.1 a.2.2 = some true := by
  rw [spiritlevelref22_Same.eq, beq_self_eq_true, ct, same_all h1.1 h1.2, Option.bind_some, decide_eq_true rfl, ct, same_all h2.1 h2.2, Option.bind_some, decide_eq_true rfl]

section
variable {I : Int} {Ls As : List (Int × Int)} {Bs Cs : List Int} {f n : Nat} {lits : List Int}

theorem of_ok (h : Sized I Ls As Bs Cs) (hn : lits.length ≤ 1000) (hr : ∀ l ∈ lits, in64 l) (hc : checkG I Ls As Bs Cs = 0) (hl : ∀ l ∈ lits, litN (size I Ls As) l) {r : Int × List (List Int) × List (List Int)} (e : tsC I Ls As lits = r) : tseitin_Of I Ls As Bs Cs lits = some (r, 0) := by
  rw [tseitin_Of_eq h hn hr, if_pos hc, if_pos hl, e]


theorem sized_small (h1 : in64 I) (h2 : Ls.length ≤ 100) (h3 : ∀ x ∈ Ls, in64 x.1 ∧ in64 x.2) (h4 : As.length ≤ 100) (h5 : ∀ x ∈ As, in64 x.1 ∧ in64 x.2) : Sized I Ls As [] [] where
  i := h1
  ls := ⟨by omega, h3⟩
  as_ := ⟨by omega, h5⟩
  bs := ⟨by simp, by simp⟩
  cs := ⟨by simp, by simp⟩

theorem alive22_eq : spiritlevellaw22_alive = some true := by
  have hs : Sized 2 [] [((4 : Int), (2 : Int))] [] [] := sized_small (by decide) (by simp) (by simp) (by simp) (by decide)
  have e1 := of_ok (lits := [7]) hs (by simp) (by decide) (by decide) (by decide) (r := (3, [[0, 2, 4, 6]], [[4, 7], [2, 7], [3, 5, 6]])) (by decide)
  have e2 := of_ok (lits := [3]) hs (by simp) (by decide) (by decide) (by decide) (r := (1, [[0, 2, -1, -1]], [])) (by decide)
  have s1 := ref22_Same_refl (a := (3, [[0, 2, 4, 6]], [[4, 7], [2, 7], [3, 5, 6]])) ⟨by decide, by decide⟩ ⟨by decide, by decide⟩
  have s2 := ref22_Same_refl (a := (1, [[0, 2, -1, -1]], [])) ⟨by decide, by decide⟩ ⟨by decide, by decide⟩
  rw [spiritlevellaw22_alive.eq, spiritlevellaw22_example.eq, Option.bind_some, e1, Option.bind_some, Option.bind_some, e2, Option.bind_some]
  dsimp only at s1 s2 ⊢
  rw [ce, if_pos rfl, s1, Option.bind_some, ct, ce, if_pos rfl, s2, Option.bind_some]


theorem litN_iff {s l : Int} : litN s l ↔ 0 ≤ l ∧ l ≤ 2 * s + 1 := by unfold litN; omega

theorem ref22_Asked.loop (h : Sized I Ls As Bs Cs) (hI : 0 ≤ I ∧ I ≤ 1000) (hn : lits.length ≤ 140737488351232) : ∀ (m i : Nat), i + m = lits.length →
    spiritlevelref22_Asked.l0 lits (i : Int) I Ls As Bs Cs = some (if ∀ l ∈ lits.drop i, litN (size I Ls As) l then 0 else 2)
  | 0, i, hi => by
    rw [spiritlevelref22_Asked.l0_eq, cd, if_neg (by omega), List.drop_of_length_le (by omega), if_pos (by simp)]
  | m + 1, i, hi => by
    have hlt : i < lits.length := by omega
    have hl1 := h.ls.1
    have hl2 := h.as_.1
    have hw : IntKind.wrap .i64 ((i : Int) + 1) = ((i + 1 : Nat) : Int) := by rw [wr] <;> omega
    have w1 : IntKind.wrap .i64 (IntKind.wrap .i64 (2 * size I Ls As) + 1) = 2 * size I Ls As + 1 := by unfold size; rw [wr (x := 2 * _) (by omega) (by omega), wr (by omega) (by omega)]
    rw [spiritlevelref22_Asked.l0_eq, cd, if_pos (by omega), gsome hlt, Option.bind_some, cd, drop_cons hlt]
    by_cases c1 : lits[i] < 0
    · rw [if_pos c1, if_neg (fun g => by have := litN_iff.1 (g _ (List.mem_cons_self ..)); omega)]
    rw [if_neg c1, Option.bind_some, ref02_Size_eq h hI, Option.bind_some, w1, cd]
    by_cases c2 : lits[i] > 2 * size I Ls As + 1
    · rw [if_pos c2, if_neg (fun g => by have := litN_iff.1 (g _ (List.mem_cons_self ..)); omega)]
    rw [if_neg c2, hw, ref22_Asked.loop h hI hn m (i + 1) (by omega)]
    by_cases c3 : ∀ l ∈ lits.drop (i + 1), litN (size I Ls As) l
    · rw [if_pos c3, if_pos (List.forall_mem_cons.2 ⟨litN_iff.2 ⟨by omega, by omega⟩, c3⟩)]
    · rw [if_neg c3, if_neg (fun g => c3 (List.forall_mem_cons.1 g).2)]

theorem ref22_Asked_eq (h : Sized I Ls As Bs Cs) (hn : lits.length ≤ 140737488351232) : spiritlevelref22_Asked I Ls As Bs Cs lits = some (if checkG I Ls As Bs Cs = 0 then (if ∀ l ∈ lits, litN (size I Ls As) l then 0 else 2) else checkG I Ls As Bs Cs) := by
  rw [spiritlevelref22_Asked.eq, ref02_Check_eq h, Option.bind_some, cn]
  by_cases c : checkG I Ls As Bs Cs = 0
  · obtain ⟨k1, k2, _⟩ := checkG_zero c
    have := ref22_Asked.loop h ⟨k1, k2.1⟩ hn lits.length 0 (by omega)
    rw [show ((0 : Nat) : Int) = 0 from rfl, List.drop_zero] at this
    rw [if_pos c, if_pos c, this]
  · rw [if_neg c, if_neg c]

theorem fit22_eq (h : Sized I Ls As Bs Cs) (hn : lits.length ≤ 140737488351232) : ∃ b, spiritlevellaw22_fit I Ls As Bs Cs lits = some b ∧ (b = true → checkG I Ls As Bs Cs = 0 ∧ (∀ l ∈ lits, litN (size I Ls As) l) ∧ lits.length ≤ 30) := by
  rw [spiritlevellaw22_fit.eq, ref02_Great_eq h, Option.bind_some, cnot, cd]
  split
  · exact ⟨false, rfl, by simp⟩
  · rw [cd]
    by_cases c1 : (lits.length : Int) ≤ 30
    · rw [if_pos c1, ref22_Asked_eq h hn, Option.bind_some]
      refine ⟨_, rfl, fun e => ?_⟩
      rw [beq_iff_eq] at e
      by_cases c2 : checkG I Ls As Bs Cs = 0
      · rw [if_pos c2] at e
        by_cases c3 : ∀ l ∈ lits, litN (size I Ls As) l
        · exact ⟨c2, c3, by omega⟩
        · rw [if_neg c3] at e; omega
      · rw [if_neg c2] at e; exact absurd e c2
    · rw [if_neg c1]; exact ⟨false, rfl, by simp⟩


def clen (ls : List Int) : Nat := if 1 ∈ ls then 0 else if tautB (big ls) = true then 0 else 1

theorem addC_length {cl : List (List Int)} {ls : List Int} : (addC cl ls).length = cl.length + clen ls := by
  unfold addC clen
  split
  · rfl
  · split
    · rfl
    · simp

theorem clen_map {M : List Bool} {ls : List Int} (h : ∀ l ∈ ls, 0 ≤ l ∧ (l / 2).toNat ≤ n ∧ ((l / 2).toNat = 0 ∨ M.getD (l / 2).toNat false = true)) : clen (ls.map (litR (rowM M (n + 1) n))) = clen ls := by
  have val : ∀ l ∈ ls, litR (rowM M (n + 1) n) l = 2 * (cntM M (l / 2).toNat : Int) + l % 2 ∧ (cntM M (l / 2).toNat = 0 ↔ l / 2 = 0) := fun l hl => by
    obtain ⟨h1, h2, h3⟩ := h l hl
    refine ⟨(row_lit h1 h2 h3).1, ?_⟩
    by_cases e : (l / 2).toNat = 0
    · rw [e, cntM]; omega
    · rw [cntM_pos (h3.resolve_left e) (by omega)]; omega
  have inj : ∀ x ∈ ls, ∀ y ∈ ls, cntM M (x / 2).toNat = cntM M (y / 2).toNat → x / 2 = y / 2 := fun x hx y hy e => by
    obtain ⟨x1, x2, x3⟩ := h x hx
    obtain ⟨y1, y2, y3⟩ := h y hy
    rcases Nat.lt_trichotomy (x / 2).toNat (y / 2).toNat with q | q | q
    · have := cntM_inj (y3.resolve_left (by omega)) q; omega
    · omega
    · have := cntM_inj (x3.resolve_left (by omega)) q; omega
  have e1 : 1 ∈ ls.map (litR (rowM M (n + 1) n)) ↔ 1 ∈ ls := by
    rw [List.mem_map]
    constructor
    · rintro ⟨l, hl, e⟩
      obtain ⟨v1, v2⟩ := val l hl
      have h0 := (h l hl).1
      have : l = 1 := by
        have : cntM M (l / 2).toNat = 0 := by omega
        have := v2.1 this
        omega
      exact this ▸ hl
    · intro hl
      obtain ⟨v1, v2⟩ := val 1 hl
      refine ⟨1, hl, ?_⟩
      have := v2.2 (by decide)
      omega
  have bigm : ∀ x, x ∈ big (ls.map (litR (rowM M (n + 1) n))) ↔ ∃ l ∈ big ls, x = litR (rowM M (n + 1) n) l := fun x => by
    unfold big
    rw [List.mem_filter, List.mem_map]
    constructor
    · rintro ⟨⟨l, hl, rfl⟩, e⟩
      obtain ⟨v1, v2⟩ := val l hl
      have h0 := (h l hl).1
      have e : 1 < litR (rowM M (n + 1) n) l := by simpa using e
      refine ⟨l, List.mem_filter.2 ⟨hl, ?_⟩, rfl⟩
      rw [decide_eq_true_eq]
      apply Classical.byContradiction
      intro q
      have := v2.2 (by omega)
      omega
    · rintro ⟨l, hl, rfl⟩
      obtain ⟨hl, e⟩ := List.mem_filter.1 hl
      obtain ⟨v1, v2⟩ := val l hl
      have h0 := (h l hl).1
      have e : 1 < l := by simpa using e
      refine ⟨⟨l, hl, rfl⟩, ?_⟩
      rw [decide_eq_true_eq]
      have : cntM M (l / 2).toNat ≠ 0 := fun q => by have := v2.1 q; omega
      omega
  have e2 : tautB (big (ls.map (litR (rowM M (n + 1) n)))) = tautB (big ls) := by
    rw [Bool.eq_iff_iff, tautB_iff, tautB_iff]
    constructor
    · rintro ⟨x, hx, y, hy, hne, he⟩
      obtain ⟨a, ha, rfl⟩ := (bigm x).1 hx
      obtain ⟨b, hb, rfl⟩ := (bigm y).1 hy
      have ha' := (List.mem_filter.1 ha).1
      have hb' := (List.mem_filter.1 hb).1
      have va := (val a ha').1
      have vb := (val b hb').1
      refine ⟨a, ha, b, hb, fun q => hne (by rw [q]), inj a ha' b hb' ?_⟩
      omega
    · rintro ⟨a, ha, b, hb, hne, he⟩
      have ha' := (List.mem_filter.1 ha).1
      have hb' := (List.mem_filter.1 hb).1
      have va := (val a ha').1
      have vb := (val b hb').1
      refine ⟨_, (bigm _).2 ⟨a, ha, rfl⟩, _, (bigm _).2 ⟨b, hb, rfl⟩, ?_, ?_⟩
      · rw [va, vb, he]; omega
      · rw [va, vb, he]; omega
  unfold clen
  rw [e2]
  by_cases q : 1 ∈ ls
  · rw [if_pos q, if_pos (e1.2 q)]
  · rw [if_neg q, if_neg (fun w => q (e1.1 w))]

def glen (g : Int) (x : Int × Int) : Nat := clen [2 * g + 1, x.1] + clen [2 * g + 1, x.2] + clen [2 * g, neg x.1, neg x.2]
def sumG (M : List Bool) : Nat → List (Int × Int) → Nat
  | _, [] => 0
  | g, x :: r => (if M.getD g false = true then glen g x else 0) + sumG M (g + 1) r

theorem gatesC_len {M : List Bool} (hb : Before f As) (hc : Closed f As M) (hN : f + As.length = n + 1) : ∀ (m i : Nat) (cl : List (List Int)), i + m = As.length → (gatesC M (rowM M (n + 1) n) (f + i) (As.drop i) cl).length = cl.length + sumG M (f + i) (As.drop i)
  | 0, i, cl, hi => by rw [List.drop_of_length_le (by omega)]; rfl
  | m + 1, i, cl, hi => by
    have hlt : i < As.length := by omega
    obtain ⟨b1, b2, b3⟩ := hb i hlt
    have hc' := hc i hlt
    have hd : As.drop i = As.getD i (0, 0) :: As.drop (i + 1) := by
      rw [drop_cons hlt, List.getD_eq_getElem?_getD, List.getElem?_eq_getElem hlt]; rfl
    rw [hd, gatesC, sumG, show f + i + 1 = f + (i + 1) from rfl, gatesC_len hb hc hN m (i + 1) _ (by omega)]
    generalize As.getD i (0, 0) = x at *
    by_cases hm : M.getD (f + i) false = true
    · obtain ⟨c1, c2⟩ := hc' hm
      rw [if_pos hm, if_pos hm]
      have k1 : 0 ≤ 2 * ((f + i : Nat) : Int) ∧ (2 * ((f + i : Nat) : Int) / 2).toNat ≤ n ∧ ((2 * ((f + i : Nat) : Int) / 2).toNat = 0 ∨ M.getD (2 * ((f + i : Nat) : Int) / 2).toNat false = true) := by
        rw [show (2 * ((f + i : Nat) : Int) / 2).toNat = f + i by omega]
        exact ⟨by omega, by omega, .inr hm⟩
      have k2 : 0 ≤ 2 * ((f + i : Nat) : Int) + 1 ∧ ((2 * ((f + i : Nat) : Int) + 1) / 2).toNat ≤ n ∧ (((2 * ((f + i : Nat) : Int) + 1) / 2).toNat = 0 ∨ M.getD ((2 * ((f + i : Nat) : Int) + 1) / 2).toNat false = true) := by
        rw [show ((2 * ((f + i : Nat) : Int) + 1) / 2).toNat = f + i by omega]
        exact ⟨by omega, by omega, .inr hm⟩
      have k3 : 0 ≤ x.1 ∧ (x.1 / 2).toNat ≤ n ∧ ((x.1 / 2).toNat = 0 ∨ M.getD (x.1 / 2).toNat false = true) := ⟨by omega, by omega, .inr c1⟩
      have k4 : 0 ≤ x.2 ∧ (x.2 / 2).toNat ≤ n ∧ ((x.2 / 2).toNat = 0 ∨ M.getD (x.2 / 2).toNat false = true) := ⟨by omega, by omega, .inr c2⟩
      have k5 : 0 ≤ neg x.1 ∧ (neg x.1 / 2).toNat ≤ n ∧ ((neg x.1 / 2).toNat = 0 ∨ M.getD (neg x.1 / 2).toNat false = true) := by
        rw [neg_div]; exact ⟨by unfold neg; split <;> omega, k3.2⟩
      have k6 : 0 ≤ neg x.2 ∧ (neg x.2 / 2).toNat ≤ n ∧ ((neg x.2 / 2).toNat = 0 ∨ M.getD (neg x.2 / 2).toNat false = true) := by
        rw [neg_div]; exact ⟨by unfold neg; split <;> omega, k4.2⟩
      have m1 := clen_map (n := n) (M := M) (ls := [2 * ((f + i : Nat) : Int) + 1, x.1]) (fun l hl => by
        rcases List.mem_cons.1 hl with rfl | hl
        · exact k2
        · rw [List.mem_singleton] at hl; subst hl; exact k3)
      have m2 := clen_map (n := n) (M := M) (ls := [2 * ((f + i : Nat) : Int) + 1, x.2]) (fun l hl => by
        rcases List.mem_cons.1 hl with rfl | hl
        · exact k2
        · rw [List.mem_singleton] at hl; subst hl; exact k4)
      have m3 := clen_map (n := n) (M := M) (ls := [2 * ((f + i : Nat) : Int), neg x.1, neg x.2]) (fun l hl => by
        rcases List.mem_cons.1 hl with rfl | hl
        · exact k1
        · rcases List.mem_cons.1 hl with rfl | hl
          · exact k5
          · rw [List.mem_singleton] at hl; subst hl; exact k6)
      simp only [List.map_cons, List.map_nil] at m1 m2 m3
      unfold gateC glen
      rw [addC_length, addC_length, addC_length, m1, m2, m3]
      omega
    · rw [if_neg hm, if_neg hm]; omega

theorem marks_in (hc : checkG I Ls As Bs Cs = 0) (hl : ∀ l ∈ lits, litN (size I Ls As) l) : ∀ l ∈ lits, (l / 2).toNat < (size I Ls As).toNat + 1 := fun l h => by
  have := hl l h
  unfold litN at this
  omega

end


section
variable {I : Int} {Ls As : List (Int × Int)} {Bs Cs : List Int} {lits : List Int}

end


section
variable {v : Int} {fr cl : List (List Int)}

end

end Go.Proofs.YthbkhndapkbgbaaGreat
