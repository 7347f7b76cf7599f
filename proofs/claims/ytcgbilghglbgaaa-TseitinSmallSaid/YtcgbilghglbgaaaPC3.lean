/- Circuits as clauses, of plain values: what tseitin.Of answers. -/
import Derived.Test.YtcgbilghglbgaaaPC1
import Derived.Test.YtcgbilghglbgaaaPR4
namespace Go.Proofs.Ytcgbilghglbgaaa
open Go Go.Proofs.Ytcgbilghglbgaaa.R
set_option linter.unusedVariables false

/-! ### Literals -/

theorem small_nat {n : Nat} (h : (n : Int) ≤ 9223372036854775806) : (BitVec.ofInt 64 (n : Int)).toNat = n := by
  rw [BitVec.toNat_ofInt]; omega

theorem band_one {l : Int} (h : 0 ≤ l) (h2 : l ≤ 9223372036854775806) : band .i64 l 1 = l % 2 := by
  unfold band
  obtain ⟨n, rfl⟩ := Int.eq_ofNat_of_zero_le h
  have hx : ((BitVec.ofInt 64 (n : Int)) &&& (BitVec.ofInt 64 1)).toNat = n % 2 := by
    rw [BitVec.toNat_and, small_nat h2, show (BitVec.ofInt 64 1).toNat = 1 by decide, Nat.and_one_is_mod]
  show IntKind.wrap .i64 (((BitVec.ofInt 64 (n : Int)) &&& (BitVec.ofInt 64 1)).toNat : Int) = _
  rw [hx, wr] <;> omega

theorem bxor_zero {l : Int} (h : 0 ≤ l) (h2 : l ≤ 9223372036854775806) : bxor .i64 l 0 = l := by
  unfold bxor
  obtain ⟨n, rfl⟩ := Int.eq_ofNat_of_zero_le h
  have hx : ((BitVec.ofInt 64 (n : Int)) ^^^ (BitVec.ofInt 64 0)).toNat = n := by
    rw [BitVec.toNat_xor, small_nat h2, show (BitVec.ofInt 64 0).toNat = 0 by decide, Nat.xor_zero]
  show IntKind.wrap .i64 (((BitVec.ofInt 64 (n : Int)) ^^^ (BitVec.ofInt 64 0)).toNat : Int) = _
  rw [hx, wr] <;> omega

/-- A literal under a row of new variables. -/
def litR (row : List Int) (l : Int) : Int := row.getD (l / 2).toNat 0 + l % 2

theorem tseitin_lit_eq {row : List Int} {l : Int} (hl : 0 ≤ l ∧ l ≤ 1000000) (hi : (l / 2).toNat < row.length) {j : Int} (hj : row.getD (l / 2).toNat 0 = 2 * j) (hj2 : 0 ≤ j ∧ j ≤ 1000000) : tseitin_lit row l = some (litR row l) := by
  have hg : geti row (l / 2) = some (2 * j) := by
    rw [show l / 2 = (((l / 2).toNat : Nat) : Int) from by omega, gsome hi]
    rw [List.getD_eq_getElem?_getD, List.getElem?_eq_getElem hi, Option.getD_some] at hj
    rw [hj]
  rw [tseitin_lit.eq, td hl.1 (by omega), hg, Option.bind_some, band_one hl.1 (by omega)]
  unfold litR
  rw [hj]
  rcases (by omega : l % 2 = 0 ∨ l % 2 = 1) with e | e
  · rw [e, bxor_zero (by omega) (by omega), Int.add_zero]
  · rw [e, bxor_one (by omega) (by omega)]
    unfold neg
    rw [if_pos (by omega)]

theorem litR_neg {row : List Int} {l j : Int} (hj : row.getD (l / 2).toNat 0 = 2 * j) : litR row (neg l) = neg (litR row l) := by
  unfold litR
  rw [neg_div, hj]
  unfold neg
  split <;> split <;> omega

/-! ### A clause that is made, as a function -/

def ins1 (x : Int) : List Int → List Int
  | [] => [x]
  | y :: r => if x < y then x :: y :: r else if x = y then y :: r else y :: ins1 x r

def nrm (l : List Int) : List Int := l.foldr ins1 []

theorem ins1_mem {x z : Int} : ∀ {S : List Int}, z ∈ ins1 x S ↔ z = x ∨ z ∈ S
  | [] => by simp [ins1]
  | y :: r => by
    unfold ins1
    split
    · rw [List.mem_cons]
    · split
      · rename_i e
        subst e
        rw [List.mem_cons]
        exact ⟨.inr, fun h => h.elim .inl id⟩
      · rw [List.mem_cons, ins1_mem (S := r), List.mem_cons]
        constructor
        · rintro (h | h | h)
          · exact .inr (.inl h)
          · exact .inl h
          · exact .inr (.inr h)
        · rintro (h | h | h)
          · exact .inr (.inl h)
          · exact .inl h
          · exact .inr (.inr h)

theorem ins1_sorted {x : Int} : ∀ {S : List Int}, S.Pairwise (· < ·) → (ins1 x S).Pairwise (· < ·)
  | [], _ => by simp [ins1]
  | y :: r, h => by
    have h' := h
    rw [List.pairwise_cons] at h
    unfold ins1
    split
    · rename_i hlt
      rw [List.pairwise_cons]
      refine ⟨fun z hz => ?_, h'⟩
      rcases List.mem_cons.1 hz with rfl | hz
      · exact hlt
      · have := h.1 z hz; omega
    · split
      · exact h'
      · rw [List.pairwise_cons]
        refine ⟨fun z hz => ?_, ins1_sorted h.2⟩
        rcases ins1_mem.1 hz with rfl | hz
        · omega
        · exact h.1 z hz

theorem nrm_spec : ∀ (l : List Int), (nrm l).Pairwise (· < ·) ∧ ∀ z, z ∈ nrm l ↔ z ∈ l
  | [] => ⟨List.Pairwise.nil, fun z => Iff.rfl⟩
  | x :: r => by
    obtain ⟨h1, h2⟩ := nrm_spec r
    refine ⟨ins1_sorted h1, fun z => ?_⟩
    show z ∈ ins1 x (nrm r) ↔ _
    rw [ins1_mem, h2, List.mem_cons]

theorem compact_nrm (l : List Int) : Lib.compact (sortI l) = nrm l := by
  obtain ⟨p1, p2⟩ := sortI_spec l
  obtain ⟨c1, c2⟩ := compact_spec p2
  obtain ⟨n1, n2⟩ := nrm_spec l
  exact sorted_unique c1 n1 fun y => by rw [c2, p1.mem_iff, n2]

/-- Both of some variable's literals are there. -/
def tautB (l : List Int) : Bool := l.any fun x => l.any fun y => decide (x ≠ y ∧ x / 2 = y / 2)

theorem tautB_iff {l : List Int} : tautB l = true ↔ ∃ x ∈ l, ∃ y ∈ l, x ≠ y ∧ x / 2 = y / 2 := by
  unfold tautB
  rw [List.any_eq_true]
  constructor
  · rintro ⟨x, hx, h⟩
    rw [List.any_eq_true] at h
    obtain ⟨y, hy, h⟩ := h
    exact ⟨x, hx, y, hy, by simpa using h⟩
  · rintro ⟨x, hx, y, hy, h⟩
    exact ⟨x, hx, List.any_eq_true.2 ⟨y, hy, by simpa using h⟩⟩

theorem adj_iff {C : List Int} (hC : C.Pairwise (· < ·)) : (∀ j, j < C.length → 0 ≤ j → 0 < j → C.getD j 0 / 2 ≠ C.getD (j - 1) 0 / 2) ↔ tautB C = false := by
  have at_ : ∀ {j}, (hj : j < C.length) → C.getD j 0 = C[j] := fun hj => by rw [List.getD_eq_getElem?_getD, List.getElem?_eq_getElem hj, Option.getD_some]
  have lt : ∀ {i j : Nat} (hi : i < C.length) (hj : j < C.length), i < j → C[i] < C[j] := fun hi hj h => List.pairwise_iff_getElem.1 hC _ _ hi hj h
  constructor
  · intro h
    rw [← Bool.not_eq_true]
    intro ht
    have main : ∀ x ∈ C, ∀ y ∈ C, x < y → x / 2 = y / 2 → False := by
      intro x hx y hy hlt he
      obtain ⟨i, hi, rfl⟩ := List.getElem_of_mem hx
      obtain ⟨j, hj, rfl⟩ := List.getElem_of_mem hy
      have hij : i < j := by
        apply Classical.byContradiction
        intro hn
        rcases Nat.lt_or_ge j i with q | q
        · have := lt hj hi q; omega
        · have : i = j := by omega
          subst this; omega
      have hij2 : i = j - 1 := by
        apply Classical.byContradiction
        intro hn
        have h1 := lt hi (j := j - 1) (by omega) (by omega)
        have h2 := lt (i := j - 1) (by omega) hj (by omega)
        omega
      have := h j hj (by omega) (by omega)
      rw [at_ hj, at_ (by omega)] at this
      subst hij2
      exact this he.symm
    obtain ⟨x, hx, y, hy, hne, he⟩ := tautB_iff.1 ht
    rcases Int.lt_or_gt_of_ne hne with q | q
    · exact main x hx y hy q he
    · exact main y hy x hx q he.symm
  · intro h j hj _ h0 he
    rw [at_ hj, at_ (by omega)] at he
    have := tautB_iff.2 ⟨_, List.getElem_mem hj, _, List.getElem_mem (show j - 1 < C.length by omega), by have := lt (i := j - 1) (by omega) hj (by omega); omega, he⟩
    rw [h] at this; cases this

theorem tautB_congr {a b : List Int} (h : ∀ z, z ∈ a ↔ z ∈ b) : tautB a = tautB b := by
  rw [Bool.eq_iff_iff, tautB_iff, tautB_iff]
  constructor
  · rintro ⟨x, hx, y, hy, e⟩; exact ⟨x, (h x).1 hx, y, (h y).1 hy, e⟩
  · rintro ⟨x, hx, y, hy, e⟩; exact ⟨x, (h x).2 hx, y, (h y).2 hy, e⟩

theorem clause_Make_is {v : Int} (hv : okV v) {l : List Int} (hl : ∀ x ∈ l, isLit v x) (hn : l.length ≤ 1000000) : clause_Make v l = some (if tautB l = true then ([], true, 0) else (nrm l, false, 0)) := by
  obtain ⟨p1, p2⟩ := sortI_spec l
  obtain ⟨n1, n2⟩ := nrm_spec l
  have hcl : (Lib.compact (sortI l)).length ≤ 1000000 := by
    have := compact_len (sortI l)
    rw [p1.length_eq] at this; omega
  have hv' := hv
  obtain ⟨v1, v2⟩ := hv'
  have g0 := clause_Make.loop0 hv hl hn l.length 0 (by omega)
  rw [compact_nrm] at g0 hcl
  have g1 := clause_Make.loop1 hcl (fun x hx => by have := hl x ((n2 x).1 hx); omega) (nrm l).length 0 (by omega)
  rw [show ((0 : Nat) : Int) = 0 from rfl] at g0 g1
  have e : clause_Make v l = clause_Make.l1 ((nrm l).length : Int) 0 (nrm l) := by
    rw [clause_Make.eq, cd, if_neg (by omega), cd, if_neg (by omega), g0]
  rw [e, g1, tautB_congr (fun z => (n2 z).symm)]
  by_cases hall : ∀ j, j < (nrm l).length → 0 ≤ j → 0 < j → (nrm l).getD j 0 / 2 ≠ (nrm l).getD (j - 1) 0 / 2
  · rw [if_pos hall, (adj_iff n1).1 hall, if_neg (by simp)]
  · rw [if_neg hall, if_pos (by rw [← Bool.not_eq_false]; exact fun h => hall ((adj_iff n1).2 h))]

/-! ### A clause that is added -/

def big (ls : List Int) : List Int := ls.filter fun x => decide (1 < x)
def addC (cl : List (List Int)) (ls : List Int) : List (List Int) := if 1 ∈ ls then cl else if tautB (big ls) = true then cl else cl ++ [nrm (big ls)]

theorem tseitin_add.loop {v : Int} (hv : okV v) {cl : List (List Int)} (hcl : cl.length ≤ 100000) {ls : List Int} (hl : ∀ x ∈ ls, 0 ≤ x ∧ x ≤ 2 * v + 1) (hn : ls.length ≤ 1000) : ∀ (n i : Nat), i + n = ls.length → 1 ∉ ls.take i →
    tseitin_add.l0 v ls (ls.length : Int) (i : Int) cl (big (ls.take i)) = some (addC cl ls)
  | 0, i, hi, h1 => by
    rw [List.take_of_length_le (by omega)] at h1 ⊢
    have hb : ∀ x ∈ big ls, isLit v x := fun x hx => by
      obtain ⟨h1, h2⟩ := List.mem_filter.1 hx
      have := hl x h1
      have : 1 < x := by simpa using h2
      exact ⟨by omega, by omega⟩
    have hbn : (big ls).length ≤ ls.length := List.length_filter_le _ _
    rw [tseitin_add.l0_eq, cd, if_neg (by omega), clause_Make_is hv hb (by omega), Option.bind_some]
    unfold addC
    rw [if_neg h1]
    by_cases ht : tautB (big ls) = true
    · rw [if_pos ht, if_pos ht]; rfl
    · rw [if_neg ht, if_neg ht]
      dsimp only
      rw [cn, if_pos rfl, cf, app_ok (by simp; omega), Option.bind_some]
  | n + 1, i, hi, h1 => by
    have hlt : i < ls.length := by omega
    have hx := hl _ (List.getElem_mem hlt)
    have hw : IntKind.wrap .i64 ((i : Int) + 1) = ((i + 1 : Nat) : Int) := by rw [wr] <;> omega
    have hbn : (big (ls.take i)).length ≤ (ls.take i).length := List.length_filter_le _ _
    rw [List.length_take] at hbn
    rw [tseitin_add.l0_eq, cd, if_pos (by omega), gsome hlt, Option.bind_some, ce]
    by_cases e1 : ls[i] = 1
    · rw [if_pos e1]
      unfold addC
      rw [if_pos (e1 ▸ List.getElem_mem hlt)]
    · have h1' : 1 ∉ ls.take (i + 1) := by
        rw [List.take_add_one, List.getElem?_eq_getElem hlt, List.mem_append, Option.toList_some, List.mem_singleton]
        rintro (h | h)
        · exact h1 h
        · exact e1 h.symm
      have ih := tseitin_add.loop hv hcl hl hn n (i + 1) (by omega) h1'
      have hb : big (ls.take (i + 1)) = big (ls.take i) ++ if 1 < ls[i] then [ls[i]] else [] := by
        unfold big
        rw [List.take_add_one, List.getElem?_eq_getElem hlt, Option.toList_some, List.filter_append]
        congr 1
        by_cases h : 1 < ls[i] <;> simp [h]
      rw [if_neg e1, cd, hw, ← ih, hb]
      by_cases e2 : ls[i] > 1
      · rw [if_pos e2, if_pos e2, app_ok (by simp; omega), Option.bind_some]
      · rw [if_neg e2, if_neg e2, List.append_nil]

theorem tseitin_add_eq {v : Int} (hv : okV v) {cl : List (List Int)} (hcl : cl.length ≤ 100000) {ls : List Int} (hl : ∀ x ∈ ls, 0 ≤ x ∧ x ≤ 2 * v + 1) (hn : ls.length ≤ 1000) : tseitin_add cl v ls = some (addC cl ls) := by
  have := tseitin_add.loop hv hcl hl hn ls.length 0 (by omega) (by simp)
  rw [tseitin_add.eq]
  exact this

theorem addC_len {cl : List (List Int)} {ls : List Int} : (addC cl ls).length ≤ cl.length + 1 := by
  unfold addC
  split
  · omega
  · split
    · omega
    · simp

/-! ### The cone -/

def setB (M : List Bool) (v : Int) : List Bool := M.set v.toNat true
theorem setB_len {M : List Bool} {v : Int} : (setB M v).length = M.length := List.length_set ..
theorem setB_get {M : List Bool} {v : Int} (h : v.toNat < M.length) {j : Nat} : (setB M v).getD j false = (decide (j = v.toNat) || M.getD j false) := by
  unfold setB
  rw [List.getD_eq_getElem?_getD, List.getElem?_set, List.getD_eq_getElem?_getD]
  by_cases e : v.toNat = j
  · subst e
    rw [if_pos rfl, if_pos h, decide_eq_true rfl]; rfl
  · rw [if_neg e, decide_eq_false (fun q => e q.symm), Bool.false_or]

def markC (M : List Bool) : List Int → List Bool
  | [] => M
  | l :: r => markC (setB M (l / 2)) r

theorem markC_len : ∀ {ls : List Int} {M : List Bool}, (markC M ls).length = M.length
  | [], M => rfl
  | l :: r, M => by rw [markC, markC_len, setB_len]

theorem markC_get {N : Nat} {j : Nat} : ∀ {ls : List Int} {M : List Bool}, M.length = N → (∀ l ∈ ls, (l / 2).toNat < N) → (markC M ls).getD j false = (decide (∃ l ∈ ls, j = (l / 2).toNat) || M.getD j false)
  | [], M, _, _ => by simp [markC]
  | l :: r, M, hM, h => by
    rw [markC, markC_get (by rw [setB_len]; exact hM) (fun x hx => h x (List.mem_cons_of_mem _ hx)), setB_get (by rw [hM]; exact h l (List.mem_cons_self ..)), ← Bool.or_assoc]
    congr 1
    rw [Bool.eq_iff_iff]
    simp only [Bool.or_eq_true, decide_eq_true_eq]
    constructor
    · rintro (⟨x, hx, e⟩ | e)
      · exact ⟨x, List.mem_cons_of_mem _ hx, e⟩
      · exact ⟨l, List.mem_cons_self .., e⟩
    · rintro ⟨x, hx, e⟩
      rcases List.mem_cons.1 hx with rfl | hx
      · exact .inr e
      · exact .inl ⟨x, hx, e⟩

def coneC (f : Nat) (As : List (Int × Int)) : Nat → List Bool → List Bool
  | 0, M => M
  | k + 1, M => coneC f As k (if M.getD (f + k) false = true then setB (setB M ((As.getD k (0, 0)).1 / 2)) ((As.getD k (0, 0)).2 / 2) else M)

theorem coneC_len {f : Nat} {As : List (Int × Int)} : ∀ {k : Nat} {M : List Bool}, (coneC f As k M).length = M.length
  | 0, M => rfl
  | k + 1, M => by
    rw [coneC, coneC_len]
    split
    · rw [setB_len, setB_len]
    · rfl

/-- Gates' inputs come before them. -/
def Before (f : Nat) (As : List (Int × Int)) : Prop := ∀ k, k < As.length → 0 ≤ (As.getD k (0, 0)).2 ∧ (As.getD k (0, 0)).2 ≤ (As.getD k (0, 0)).1 ∧ (As.getD k (0, 0)).1 / 2 < (f : Int) + k

theorem okG_get : ∀ {As : List (Int × Int)} {n : Int}, okG n As = true → ∀ k, k < As.length → 0 ≤ (As.getD k (0, 0)).2 ∧ (As.getD k (0, 0)).2 ≤ (As.getD k (0, 0)).1 ∧ (As.getD k (0, 0)).1 / 2 < n + k
  | [], n, h, k, hk => by simp at hk
  | x :: r, n, h, k, hk => by
    unfold okG at h
    rw [Bool.and_eq_true, Bool.and_eq_true, Bool.and_eq_true, decide_eq_true_eq, decide_eq_true_eq, decide_eq_true_eq] at h
    obtain ⟨⟨⟨h1, h2⟩, h3⟩, h4⟩ := h
    cases k with
    | zero => exact ⟨h1, h2, by simpa using h3⟩
    | succ k =>
      have := okG_get h4 k (by simpa using hk)
      rw [List.getD_cons_succ]
      refine ⟨this.1, this.2.1, ?_⟩
      have := this.2.2
      omega

section
variable {f : Nat} {As : List (Int × Int)}

theorem coneC_ge (hb : Before f As) : ∀ {k : Nat} {M : List Bool}, k ≤ As.length → f + As.length ≤ M.length → ∀ j, M.getD j false = true → (coneC f As k M).getD j false = true
  | 0, M, _, _, j, h => h
  | k + 1, M, hk, hM, j, h => by
    obtain ⟨b1, b2, b3⟩ := hb k (by omega)
    rw [coneC]
    refine coneC_ge hb (by omega) (by split <;> first | exact hM | (rw [setB_len, setB_len]; exact hM)) j ?_
    split
    · rw [setB_get (by rw [setB_len]; omega), setB_get (by omega), h]; simp
    · exact h

theorem coneC_above (hb : Before f As) : ∀ {k : Nat} {M : List Bool}, k ≤ As.length → f + As.length ≤ M.length → ∀ j, f + k ≤ j + 1 → (coneC f As k M).getD j false = M.getD j false
  | 0, M, _, _, j, h => rfl
  | k + 1, M, hk, hM, j, h => by
    obtain ⟨b1, b2, b3⟩ := hb k (by omega)
    rw [coneC, coneC_above hb (by omega) (by split <;> first | exact hM | (rw [setB_len, setB_len]; exact hM)) j (by omega)]
    split
    · rw [setB_get (by rw [setB_len]; omega), setB_get (by omega), decide_eq_false (by omega), decide_eq_false (by omega), Bool.false_or, Bool.false_or]
    · rfl

/-- Whatever is marked has its inputs marked. -/
def Closed (f : Nat) (As : List (Int × Int)) (M : List Bool) : Prop := ∀ k, k < As.length → M.getD (f + k) false = true → M.getD ((As.getD k (0, 0)).1 / 2).toNat false = true ∧ M.getD ((As.getD k (0, 0)).2 / 2).toNat false = true

theorem coneC_closed (hb : Before f As) : ∀ {k : Nat} {M : List Bool}, k ≤ As.length → f + As.length ≤ M.length → ∀ j, j < k → (coneC f As k M).getD (f + j) false = true →
    (coneC f As k M).getD ((As.getD j (0, 0)).1 / 2).toNat false = true ∧ (coneC f As k M).getD ((As.getD j (0, 0)).2 / 2).toNat false = true
  | 0, M, _, _, j, h, _ => by omega
  | k + 1, M, hk, hM, j, h, ht => by
    obtain ⟨b1, b2, b3⟩ := hb k (by omega)
    have hlen : f + As.length ≤ (if M.getD (f + k) false = true then setB (setB M ((As.getD k (0, 0)).1 / 2)) ((As.getD k (0, 0)).2 / 2) else M).length := by split <;> first | exact hM | (rw [setB_len, setB_len]; exact hM)
    rw [coneC] at ht ⊢
    rcases Nat.lt_or_ge j k with q | q
    · exact coneC_closed hb (by omega) hlen j q ht
    · have e : j = k := by omega
      subst e
      rw [coneC_above hb (by omega) hlen _ (by omega)] at ht
      have hm : M.getD (f + j) false = true := by
        split at ht
        · rw [setB_get (by rw [setB_len]; omega), setB_get (by omega), decide_eq_false (by omega), decide_eq_false (by omega), Bool.false_or, Bool.false_or] at ht
          exact ht
        · exact ht
      rw [if_pos hm] at hlen ⊢
      exact ⟨coneC_ge hb (by omega) hlen _ (by rw [setB_get (by rw [setB_len]; omega), setB_get (by omega), decide_eq_true (rfl), Bool.true_or, Bool.or_true]),
        coneC_ge hb (by omega) hlen _ (by rw [setB_get (by rw [setB_len]; omega), decide_eq_true (rfl), Bool.true_or])⟩

theorem coneC_mono (hb : Before f As) : ∀ {k : Nat} {M M' : List Bool}, k ≤ As.length → f + As.length ≤ M.length → M.length = M'.length → (∀ j, M.getD j false = true → M'.getD j false = true) → ∀ j, (coneC f As k M).getD j false = true → (coneC f As k M').getD j false = true
  | 0, M, M', _, _, _, h, j, hj => h j hj
  | k + 1, M, M', hk, hM, hl, h, j, hj => by
    obtain ⟨b1, b2, b3⟩ := hb k (by omega)
    rw [coneC] at hj ⊢
    refine coneC_mono hb (by omega) (by split <;> first | exact hM | (rw [setB_len, setB_len]; exact hM)) (by split <;> split <;> (repeat rw [setB_len]) <;> exact hl) (fun i hi => ?_) j hj
    by_cases h1 : M.getD (f + k) false = true
    · rw [if_pos h1, setB_get (by rw [setB_len]; omega), setB_get (by omega)] at hi
      rw [if_pos (h _ h1), setB_get (by rw [setB_len]; omega), setB_get (by omega)]
      rw [Bool.or_eq_true, Bool.or_eq_true] at hi ⊢
      rcases hi with q | q | q
      · exact .inl q
      · exact .inr (.inl q)
      · exact .inr (.inr (h _ q))
    · rw [if_neg h1] at hi
      have := h i hi
      split
      · rw [setB_get (by rw [setB_len]; omega), setB_get (by omega), this]; simp
      · exact this

end

/-! ### New variables -/

def cntM (M : List Bool) : Nat → Nat
  | 0 => 0
  | v + 1 => cntM M v + if M.getD (v + 1) false = true then 1 else 0

theorem cntM_le {M : List Bool} : ∀ {a b : Nat}, a ≤ b → cntM M a ≤ cntM M b ∧ cntM M b ≤ cntM M a + (b - a)
  | a, 0, h => by
    have : a = 0 := by omega
    subst this; omega
  | a, b + 1, h => by
    by_cases e : a = b + 1
    · subst e; omega
    · have := cntM_le (M := M) (a := a) (b := b) (by omega)
      rw [cntM]
      split <;> omega

theorem cntM_pos {M : List Bool} {v : Nat} (h : M.getD v false = true) (hv : 0 < v) : cntM M v = cntM M (v - 1) + 1 := by
  obtain ⟨u, rfl⟩ : ∃ u, v = u + 1 := ⟨v - 1, by omega⟩
  rw [cntM, if_pos h]; rfl

theorem cntM_inj {M : List Bool} {a b : Nat} (hb : M.getD b false = true) (h : a < b) : cntM M a < cntM M b := by
  rw [cntM_pos hb (by omega)]
  have := (cntM_le (M := M) (a := a) (b := b - 1) (by omega)).1
  omega

theorem cntM_mono {M M' : List Bool} (h : ∀ j, M.getD j false = true → M'.getD j false = true) : ∀ v, cntM M v ≤ cntM M' v
  | 0 => Nat.le_refl _
  | v + 1 => by
    have := cntM_mono h v
    rw [cntM, cntM]
    by_cases q : M.getD (v + 1) false = true
    · rw [if_pos q, if_pos (h _ q)]; omega
    · rw [if_neg q]; split <;> omega

def rowM (M : List Bool) (N k : Nat) : List Int := (List.range N).map fun v => if v = 0 then 0 else if v ≤ k then (if M.getD v false = true then 2 * (cntM M v : Int) else -1) else 0

theorem rowM_len {M : List Bool} {N k : Nat} : (rowM M N k).length = N := by simp [rowM]
theorem rowM_get {M : List Bool} {N k v : Nat} (h : v < N) : (rowM M N k).getD v 0 = if v = 0 then 0 else if v ≤ k then (if M.getD v false = true then 2 * (cntM M v : Int) else -1) else 0 := by
  rw [List.getD_eq_getElem?_getD, List.getElem?_eq_getElem (by rw [rowM_len]; exact h), Option.getD_some]
  simp [rowM]

theorem rowM_zero {M : List Bool} {N : Nat} : rowM M N 0 = List.replicate N 0 := by
  refine List.ext_getElem (by rw [rowM_len, List.length_replicate]) fun j h1 h2 => ?_
  rw [List.getElem_replicate]
  simp only [rowM, List.getElem_map, List.getElem_range]
  split
  · rfl
  · rw [if_neg (by omega)]

theorem rowM_set {M : List Bool} {N k : Nat} : (rowM M N k).set (k + 1) (if M.getD (k + 1) false = true then 2 * (cntM M (k + 1) : Int) else -1) = rowM M N (k + 1) := by
  refine List.ext_getElem (by rw [List.length_set, rowM_len, rowM_len]) fun j h1 h2 => ?_
  rw [List.getElem_set]
  simp only [rowM, List.getElem_map, List.getElem_range]
  by_cases e : k + 1 = j
  · subst e
    rw [if_pos rfl, if_neg (show ¬ k + 1 = 0 by omega), if_pos (show k + 1 ≤ k + 1 by omega)]
  · rw [if_neg e]
    by_cases e0 : j = 0
    · rw [if_pos e0, if_pos e0]
    · rw [if_neg e0, if_neg e0]
      by_cases e1 : j ≤ k
      · rw [if_pos e1, if_pos (show j ≤ k + 1 by omega)]
      · rw [if_neg e1, if_neg (show ¬ j ≤ k + 1 by omega)]

/-- What a row says of a variable that counts. -/
theorem rowM_at {M : List Bool} {n w : Nat} (hw : w ≤ n) (hm : w = 0 ∨ M.getD w false = true) : (rowM M (n + 1) n).getD w 0 = 2 * (cntM M w : Int) := by
  rw [rowM_get (by omega)]
  by_cases e : w = 0
  · subst e; rw [if_pos rfl]; rfl
  · rw [if_neg e, if_pos hw, if_pos (hm.resolve_left e)]

def gateC (row : List Int) (g : Int) (x : Int × Int) (cl : List (List Int)) : List (List Int) :=
  addC (addC (addC cl [litR row (2 * g + 1), litR row x.1]) [litR row (2 * g + 1), litR row x.2]) [litR row (2 * g), litR row (neg x.1), litR row (neg x.2)]

def gatesC (M : List Bool) (row : List Int) : Nat → List (Int × Int) → List (List Int) → List (List Int)
  | _, [], cl => cl
  | g, x :: r, cl => gatesC M row (g + 1) r (if M.getD g false = true then gateC row g x cl else cl)

end Go.Proofs.Ytcgbilghglbgaaa
