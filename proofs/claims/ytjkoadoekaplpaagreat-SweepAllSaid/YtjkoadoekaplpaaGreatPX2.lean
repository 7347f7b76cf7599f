/- Signatures and what is given, of plain values. -/
import Derived.Test.YtjkoadoekaplpaaGreatPX1
namespace Go.Proofs.YtjkoadoekaplpaaGreat
open Go Go.Proofs.YtjkoadoekaplpaaGreat.R
set_option linter.unusedVariables false
set_option linter.unusedSimpArgs false

/-! ### Words of 64 bits -/

abbrev U (x : Int) : BitVec 64 := BitVec.ofInt 64 x
abbrev w64 (x : Int) : Prop := 0 ≤ x ∧ x < 18446744073709551616

theorem wrU {x : Int} (h : w64 x) : IntKind.wrap .u64 x = x := by rw [IntKind.wrap_u64]; omega
theorem wrU_in (x : Int) : w64 (IntKind.wrap .u64 x) := by rw [IntKind.wrap_u64]; omega
theorem nat_in (b : BitVec 64) : w64 (b.toNat : Int) := ⟨Int.natCast_nonneg _, by have := b.isLt; omega⟩
theorem band_u (a b : Int) : band .u64 a b = ((U a &&& U b).toNat : Int) := wrU (nat_in (U a &&& U b))
theorem bxor_u (a b : Int) : bxor .u64 a b = ((U a ^^^ U b).toNat : Int) := wrU (nat_in (U a ^^^ U b))
theorem U_back {x : Int} (h : w64 x) : ((U x).toNat : Int) = x := by
  show ((BitVec.ofInt 64 x).toNat : Int) = x
  rw [BitVec.toNat_ofInt]
  omega
theorem U_nat (b : BitVec 64) : U (b.toNat : Int) = b := by
  apply BitVec.eq_of_toNat_eq
  have := U_back (nat_in b)
  omega

/-- All bits of a word are among those of another. -/
def inM (a x : Int) : Prop := w64 x ∧ U x &&& U a = U x

theorem inM.band {a x y : Int} (h : inM a x) (h' : inM a y) : inM a (band .u64 x y) := by
  refine ⟨by rw [band_u]; exact nat_in _, ?_⟩
  rw [band_u, U_nat, BitVec.and_assoc, h'.2]

theorem inM.not {a x : Int} (h : inM a x) : Go.Proofs.YtjkoadoekaplpaaGreat.R.band .u64 (Go.Proofs.YtjkoadoekaplpaaGreat.R.bxor .u64 (IntKind.max .u64) x) a = Go.Proofs.YtjkoadoekaplpaaGreat.R.bxor .u64 x a ∧ inM a (Go.Proofs.YtjkoadoekaplpaaGreat.R.bxor .u64 x a) := by
  have hb : ∀ i, ((U x).getLsbD i && (U a).getLsbD i) = (U x).getLsbD i := fun i => by
    have := congrArg (fun b : BitVec 64 => b.getLsbD i) h.2
    simpa using this
  have hm : U (IntKind.max .u64) = BitVec.allOnes 64 := by decide
  refine ⟨?_, by rw [bxor_u]; exact nat_in _, ?_⟩
  · rw [band_u, bxor_u, bxor_u, U_nat, hm]
    congr 2
    apply BitVec.eq_of_getLsbD_eq
    intro i hi
    have := hb i
    simp only [BitVec.getLsbD_and, BitVec.getLsbD_xor, BitVec.getLsbD_allOnes, hi, decide_true]
    revert this
    cases (U x).getLsbD i <;> cases (U a).getLsbD i <;> simp
  · rw [bxor_u, U_nat]
    apply BitVec.eq_of_getLsbD_eq
    intro i hi
    have := hb i
    simp only [BitVec.getLsbD_and, BitVec.getLsbD_xor]
    revert this
    cases (U x).getLsbD i <;> cases (U a).getLsbD i <;> simp

theorem inM.zero {a : Int} : inM a 0 := ⟨by decide, by
  show (BitVec.ofInt 64 0) &&& U a = BitVec.ofInt 64 0
  simp⟩

theorem inM.full {x : Int} (h : w64 x) : inM 18446744073709551615 x := ⟨h, by
  have hm : U 18446744073709551615 = BitVec.allOnes 64 := by decide
  rw [hm]; exact BitVec.and_allOnes⟩

/-! ### Inputs and latches -/

def maskM (m : Nat) : Int := if 6 ≤ m then 18446744073709551615 else IntKind.wrap .u64 (bshl .u64 1 (bshl .u64 1 (m : Int)) - 1)

def pats : List Int := [12297829382473034410, 14757395258967641292, 17361641481138401520, 18374966859414961920, 18446462603027742720, 18446744069414584320]

def stepS (v s i : Int) : Int := bor .u64 s (bshl .u64 (IntKind.wrap .u64 (band .i64 (bshr .i64 i (IntKind.wrap .i64 (v - 1))) 1)) i)
def foldS (v : Int) : Nat → Nat → Int → Int
  | 0, _, s => s
  | n + 1, i, s => foldS v n (i + 1) (stepS v s (i : Int))

def okSmall : Bool := (List.range 7).all fun m => (List.range m).all fun k => decide (foldS ((k + 1 : Nat) : Int) (2 ^ m) 0 0 = band .u64 (pats.getD k 0) (maskM m)) && decide (U (band .u64 (pats.getD k 0) (maskM m)) &&& U (maskM m) = U (band .u64 (pats.getD k 0) (maskM m)))

theorem okSmall_true : okSmall = true := by decide +kernel

theorem small_eq {m k : Nat} (hm : m ≤ 6) (hk : k < m) : foldS ((k + 1 : Nat) : Int) (2 ^ m) 0 0 = band .u64 (pats.getD k 0) (maskM m) ∧ inM (maskM m) (band .u64 (pats.getD k 0) (maskM m)) := by
  have := List.all_eq_true.1 okSmall_true m (List.mem_range.2 (by omega))
  have := List.all_eq_true.1 this k (List.mem_range.2 hk)
  rw [Bool.and_eq_true, decide_eq_true_iff, decide_eq_true_iff] at this
  exact ⟨this.1, by rw [band_u]; exact nat_in _, this.2⟩

def lin (x : Int) : Int := IntKind.wrap .u64 (IntKind.wrap .u64 (x * 6364136223846793005) + 1442695040888963407)
def linS : Nat → Int
  | 0 => 1
  | n + 1 => lin (linS n)

def inp (m k : Nat) : Int := if m ≤ 6 then band .u64 (pats.getD k 0) (maskM m) else linS (k + 1)

/-- The signatures of the first variables. -/
def inL (m : Nat) : Nat → List Int
  | 0 => [0]
  | k + 1 => inL m k ++ [inp m k]

theorem inL_len (m : Nat) : ∀ k, (inL m k).length = k + 1
  | 0 => rfl
  | k + 1 => by simp [inL, inL_len m k]

theorem inp_in {m k : Nat} (hk : k < m) : inM (maskM m) (inp m k) := by
  unfold inp
  by_cases h : m ≤ 6
  · rw [if_pos h]; exact (small_eq h hk).2
  · rw [if_neg h]
    unfold maskM
    rw [if_pos (by omega)]
    exact inM.full (wrU_in _)

theorem inL_in {m : Nat} : ∀ k, k ≤ m → ∀ x ∈ inL m k, inM (maskM m) x
  | 0, _, x, hx => by simp only [inL, List.mem_singleton] at hx; subst hx; exact inM.zero
  | k + 1, hk, x, hx => by
    rcases List.mem_append.1 hx with h | h
    · exact inL_in k (by omega) x h
    · rw [List.mem_singleton] at h; subst h; exact inp_in (by omega)

theorem set_zero {P : List Int} {k : Nat} {x : Int} : (P ++ List.replicate (k + 1) 0).set P.length x = (P ++ [x]) ++ List.replicate k 0 := by
  rw [List.set_append_right _ _ (Nat.le_refl _), Nat.sub_self, List.replicate_succ, List.set_cons_zero, List.append_assoc]
  rfl


theorem U_ext {x y : Int} (hx : w64 x) (hy : w64 y) (h : U x = U y) : x = y := by rw [← U_back hx, ← U_back hy, h]

theorem inM.bit {a x : Int} (h : inM a x) {i : Nat} (hi : (U a).getLsbD i = false) : (U x).getLsbD i = false := by
  have := congrArg (fun b : BitVec 64 => b.getLsbD i) h.2
  simp only [BitVec.getLsbD_and, hi, Bool.and_false] at this
  exact this.symm

theorem word_ext {a x y : Int} (hx : inM a x) (hy : inM a y) (h : ∀ i, i < 64 → (U a).getLsbD i = true → (U x).getLsbD i = (U y).getLsbD i) : x = y := by
  refine U_ext hx.1 hy.1 (BitVec.eq_of_getLsbD_eq fun i hi => ?_)
  cases ha : (U a).getLsbD i with
  | true => exact h i hi ha
  | false => rw [hx.bit ha, hy.bit ha]

theorem bit_band (x y : Int) (i : Nat) : (U (band .u64 x y)).getLsbD i = ((U x).getLsbD i && (U y).getLsbD i) := by rw [band_u, U_nat, BitVec.getLsbD_and]
theorem bit_bxor (x y : Int) (i : Nat) : (U (bxor .u64 x y)).getLsbD i = ((U x).getLsbD i ^^ (U y).getLsbD i) := by rw [bxor_u, U_nat, BitVec.getLsbD_xor]

/-- The signature of a literal. -/
def wordF (a : Int) (s : List Int) (l : Int) : Int := if l % 2 = 1 then bxor .u64 (s.getD (l / 2).toNat 0) a else s.getD (l / 2).toNat 0
def sigs (a : Int) : List Int → LP → List Int
  | P, [] => P
  | P, p :: r => sigs a (P ++ [band .u64 (wordF a P p.1) (wordF a P p.2)]) r

theorem wordF_congr {a : Int} {s s' : List Int} {l : Int} (h : s.getD (l / 2).toNat 0 = s'.getD (l / 2).toNat 0) : wordF a s l = wordF a s' l := by unfold wordF; rw [h]

theorem inM.lit {a : Int} {s : List Int} (h : ∀ x ∈ s, inM a x) {l : Int} (hl : (l / 2).toNat < s.length) : inM a (wordF a s l) := by
  have hx : inM a (s.getD (l / 2).toNat 0) := by
    rw [List.getD_eq_getElem?_getD, List.getElem?_eq_getElem hl]
    exact h _ (List.getElem_mem hl)
  unfold wordF
  split
  · exact hx.not.2
  · exact hx

theorem sigs_spec {a : Int} : ∀ (As : LP) (g : Nat) (P : List Int), P.length = g → (∀ x ∈ P, inM a x) → okG (g : Int) As = true →
    P <+: sigs a P As ∧ (sigs a P As).length = g + As.length ∧ (∀ x ∈ sigs a P As, inM a x) ∧ ∀ (k : Nat) (p : Int × Int), As[k]? = some p → (sigs a P As).getD (g + k) 0 = band .u64 (wordF a (sigs a P As) p.1) (wordF a (sigs a P As) p.2)
  | [], g, P, hP, hi, ho => ⟨List.prefix_refl _, by simpa [sigs] using hP, hi, fun k p h => by simp at h⟩
  | p :: r, g, P, hP, hi, ho => by
    unfold okG at ho
    simp only [Bool.and_eq_true, decide_eq_true_eq] at ho
    obtain ⟨⟨⟨o1, o2⟩, o3⟩, o4⟩ := ho
    have b1 := inM.lit hi (l := p.1) (by omega)
    have b2 := inM.lit hi (l := p.2) (by omega)
    obtain ⟨q1, q2, q3, q4⟩ := sigs_spec r (g + 1) (P ++ [band .u64 (wordF a P p.1) (wordF a P p.2)]) (by simp [hP]) (fun x hx => by
      rcases List.mem_append.1 hx with hx | hx
      · exact hi x hx
      · rw [List.mem_singleton] at hx; subst hx; exact b1.band b2) (by push_cast; exact o4)
    have e : sigs a P (p :: r) = sigs a (P ++ [band .u64 (wordF a P p.1) (wordF a P p.2)]) r := rfl
    rw [e]
    generalize hS : sigs a (P ++ [band .u64 (wordF a P p.1) (wordF a P p.2)]) r = S at q1 q2 q3 q4 ⊢
    have hpre : P <+: S := (List.prefix_append _ _).trans q1
    have hlow : ∀ j, j < g → S.getD j 0 = P.getD j 0 := fun j hj => pre_getD hpre (by omega)
    refine ⟨hpre, by rw [q2, List.length_cons]; omega, q3, fun k z hk => ?_⟩
    cases k with
    | zero =>
      simp only [List.getElem?_cons_zero, Option.some.injEq] at hk
      subst hk
      have h0 : S.getD (g + 0) 0 = band .u64 (wordF a P p.1) (wordF a P p.2) := by
        rw [pre_getD q1 (by simp [hP])]
        simp [List.getD_eq_getElem?_getD, ← hP]
      rw [h0, wordF_congr (s := S) (s' := P) (hlow _ (by omega)), wordF_congr (s := S) (s' := P) (hlow _ (by omega))]
    | succ k =>
      have := q4 k z (by simpa using hk)
      rw [show g + (k + 1) = g + 1 + k by omega]
      exact this

def bitF (s : List Int) (i : Nat) (v : Nat) : Bool := (U (s.getD v 0)).getLsbD i

theorem bit_word {a : Int} {s : List Int} {i : Nat} (ha : (U a).getLsbD i = true) (l : Int) : (U (wordF a s l)).getLsbD i = lvF (bitF s i) l := by
  unfold wordF lvF bitF
  by_cases h : l % 2 = 1
  · rw [if_pos h, bit_bxor, ha, decide_eq_true h]; cases (U (s.getD (l / 2).toNat 0)).getLsbD i <;> rfl
  · rw [if_neg h, decide_eq_false h]; cases (U (s.getD (l / 2).toNat 0)).getLsbD i <;> rfl

theorem U0 (i : Nat) : (U 0).getLsbD i = false := by
  have : U 0 = 0#64 := by decide
  rw [this]; simp

theorem sigs_Ag {a : Int} {As : LP} {g : Nat} {P : List Int} (hP : P.length = g) (hg : 1 ≤ g) (hz : P.getD 0 0 = 0) (hi : ∀ x ∈ P, inM a x) (ho : okG (g : Int) As = true) {i : Nat} (ha : (U a).getLsbD i = true) : AgF g As (bitF (sigs a P As) i) := by
  obtain ⟨q1, q2, q3, q4⟩ := sigs_spec As g P hP hi ho
  refine ⟨?_, fun k p hk => ?_⟩
  · unfold bitF
    rw [pre_getD q1 (by omega), hz, U0]
  · have h1 := q4 k p hk
    have h2 : bitF (sigs a P As) i (g + k) = (U (band .u64 (wordF a (sigs a P As) p.1) (wordF a (sigs a P As) p.2))).getLsbD i := by unfold bitF; rw [h1]
    rw [h2, bit_band, bit_word ha, bit_word ha]

/-! ### Forms -/

def odd0 (x : Int) : Bool := (U x).getLsbD 0

theorem bit1_odd (x : Int) : bits BinOp.and IntKind.u64 x 1 = if odd0 x = true then 1 else 0 := by
  have h1 : bits BinOp.and IntKind.u64 x 1 = band .u64 x 1 := rfl
  have h2 : U 1 = 1#64 := by decide
  rw [h1, band_u, h2]
  unfold odd0
  have h3 : (U x &&& 1#64) = if (U x).getLsbD 0 = true then 1#64 else 0#64 := by
    apply BitVec.eq_of_getLsbD_eq
    intro i hi
    rw [BitVec.getLsbD_and]
    by_cases h0 : i = 0
    · subst h0
      cases (U x).getLsbD 0 <;> simp
    · have : (1#64).getLsbD i = false := by simp [BitVec.getLsbD_one]; omega
      rw [this]
      split <;> simp [BitVec.getLsbD_one, h0]
  rw [h3]
  split <;> rfl

theorem formI_eq {a x : Int} (h : inM a x) : formI a x = if odd0 x = true then bxor .u64 x a else x := by
  unfold formI
  rw [bit1_odd]
  cases odd0 x with
  | true => rw [if_pos rfl, if_pos rfl, if_pos rfl]; exact h.not.1
  | false => simp

theorem bxor_back {a x : Int} (h : inM a x) (ha : w64 a) : bxor .u64 (bxor .u64 x a) a = x := by
  refine U_ext (by rw [bxor_u]; exact nat_in _) h.1 (BitVec.eq_of_getLsbD_eq fun i hi => ?_)
  rw [bit_bxor, bit_bxor]
  cases (U x).getLsbD i <;> cases (U a).getLsbD i <;> rfl

theorem odd0_bxor {a x : Int} (ha : odd0 a = true) : odd0 (bxor .u64 x a) = !odd0 x := by
  unfold odd0 at *
  rw [bit_bxor, ha]; cases (U x).getLsbD 0 <;> rfl

theorem formI_form {a x : Int} (h : inM a x) (ha : odd0 a = true) : odd0 (formI a x) = false ∧ inM a (formI a x) ∧ (formI a x = x ∨ formI a x = bxor .u64 x a) := by
  rw [formI_eq h]
  cases hx : odd0 x with
  | true => rw [if_pos rfl]; exact ⟨by rw [odd0_bxor ha, hx]; rfl, h.not.2, .inr rfl⟩
  | false => rw [if_neg (by decide)]; exact ⟨hx, h, .inl rfl⟩

theorem form_same {a x y : Int} (hx : inM a x) (hy : inM a y) (ha : odd0 a = true) (wa : w64 a) : formI a x = formI a y ↔ x = y ∨ x = bxor .u64 y a := by
  rw [formI_eq hx, formI_eq hy]
  constructor
  · intro h
    cases ox : odd0 x <;> cases oy : odd0 y <;> simp only [ox, oy, if_true, Bool.false_eq_true, if_false] at h
    · exact .inl h
    · exact .inr h
    · rw [← h, bxor_back hx wa]; exact .inr rfl
    · have := congrArg (fun z => bxor .u64 z a) h
      simp only [bxor_back hx wa, bxor_back hy wa] at this
      exact .inl this
  · rintro (rfl | rfl)
    · rfl
    · rw [odd0_bxor ha]
      cases oy : odd0 y
      · simp only [Bool.not_false, if_true, Bool.false_eq_true, if_false]; exact bxor_back hy wa
      · simp

theorem litG_eq {s : List Int} {k : Nat} {x : Int} : litG s (k : Int) x = 2 * (k : Int) + if (odd0 (s.getD k 0) ^^ odd0 x) = true then 1 else 0 := by
  unfold litG
  rw [bit1_odd, Int.toNat_natCast]
  have : odd0 (bits BinOp.xor IntKind.u64 (s.getD k 0) x) = (odd0 (s.getD k 0) ^^ odd0 x) := bit_bxor (s.getD k 0) x 0
  rw [this]

theorem litG_bound {s : List Int} {k : Nat} {x : Int} : 2 * (k : Int) ≤ litG s (k : Int) x ∧ litG s (k : Int) x ≤ 2 * (k : Int) + 1 := by
  rw [litG_eq]; split <;> omega

theorem litG_word {a : Int} {s : List Int} {k : Nat} {x : Int} (hs : inM a (s.getD k 0)) (hx : inM a x) (ha : odd0 a = true) (wa : w64 a) (h : formI a (s.getD k 0) = formI a x) : wordF a s (litG s (k : Int) x) = x := by
  rw [litG_eq]
  rcases (form_same hs hx ha wa).1 h with h1 | h1
  · rw [h1, Bool.xor_self, if_neg (by decide)]
    unfold wordF
    rw [if_neg (by omega), show ((2 * (k : Int) + 0) / 2).toNat = k by omega, h1]
  · have : (odd0 (s.getD k 0) ^^ odd0 x) = true := by rw [h1, odd0_bxor ha]; cases odd0 x <;> rfl
    rw [this, if_pos rfl]
    unfold wordF
    rw [if_pos (by omega), show ((2 * (k : Int) + 1) / 2).toNat = k by omega, h1, bxor_back hx wa]

/-! ### What is given -/

section
variable {all : Int} {gate : Nat} {nv : Int → Int → Option (Bool × Int)} {s : List Int}

/-- What is given for a variable. -/
def Gv (all : Int) (gate : Nat) (nv : Int → Int → Option (Bool × Int)) (s : List Int) (v : Nat) (x : Int) : Prop :=
  (v < gate ∧ x = -1) ∨ (gate ≤ v ∧ (∀ u, u < v → formI all (s.getD u 0) ≠ formI all (s.getD v 0)) ∧ x = -1) ∨
  (gate ≤ v ∧ ∃ u : Nat, u < v ∧ formI all (s.getD u 0) = formI all (s.getD v 0) ∧ (∀ u', u' < u → formI all (s.getD u' 0) ≠ formI all (s.getD v 0)) ∧
    ((gate ≤ 7 ∧ x = litG s (u : Int) (s.getD v 0)) ∨ (¬ gate ≤ 7 ∧ ∃ b, sameG nv (v : Int) (litG s (u : Int) (s.getD v 0)) = some (b, 0) ∧ x = if b = true then litG s (u : Int) (s.getD v 0) else -1)))

structure GInv (all : Int) (gate : Nat) (nv : Int → Int → Option (Bool × Int)) (s : List Int) (n : Nat) (st : List Int × List (Int × Int)) : Prop where
  len : st.1.length = n
  no : ∀ z, lookU st.2 z = none → ∀ u, u < n → formI all (s.getD u 0) ≠ z
  yes : ∀ z c, lookU st.2 z = some c → ∃ u : Nat, c = (u : Int) ∧ u < n ∧ formI all (s.getD u 0) = z ∧ ∀ u', u' < u → formI all (s.getD u' 0) ≠ z
  giv : ∀ v, v < n → Gv all gate nv s v (st.1.getD v 0)

theorem GInv.snoc {n : Nat} {st : List Int × List (Int × Int)} (h : GInv all gate nv s n st) {x : Int} (hx : Gv all gate nv s n x) : ∀ v, v < n + 1 → Gv all gate nv s v ((st.1 ++ [x]).getD v 0) := fun v hv => by
  rw [getD_snoc, h.len]
  by_cases e : v < n
  · rw [if_pos e]; exact h.giv v e
  · rw [if_neg e, if_pos (by omega)]
    obtain rfl : v = n := by omega
    exact hx

theorem runG_inv : ∀ n st, runG all gate nv s n = some (.inr st) → GInv all gate nv s n st
  | 0, st, h => by
    cases h
    exact ⟨rfl, fun z _ u hu => by omega, fun z c h => (by cases h), fun v hv => by omega⟩
  | n + 1, st, h => by
    simp only [runG] at h
    split at h
    · rename_i st0 h0
      have ih := runG_inv n st0 h0
      unfold stepG at h
      rw [ih.len] at h
      have known : ∀ (x : Int) (c : Int), lookU st0.2 (formI all (s.getD n 0)) = some c → Gv all gate nv s n x → GInv all gate nv s (n + 1) (st0.1 ++ [x], st0.2) := fun x c hc hx => by
        obtain ⟨u0, rfl, u1, u2, u3⟩ := ih.yes _ _ hc
        refine ⟨by simp [ih.len], fun z hz u hu => ?_, fun z c hz => ?_, ih.snoc hx⟩
        · by_cases e : u < n
          · exact ih.no z hz u e
          · obtain rfl : u = n := by omega
            intro hE
            rw [← hE, hc] at hz
            cases hz
        · obtain ⟨u, k1, k2, k3, k4⟩ := ih.yes z c hz
          exact ⟨u, k1, by omega, k3, k4⟩
      split at h
      · rename_i hl
        cases h
        have hx : Gv all gate nv s n (-1) := by
          by_cases hg : n < gate
          · exact .inl ⟨hg, rfl⟩
          · exact .inr (.inl ⟨by omega, fun u hu => ih.no _ hl u hu, rfl⟩)
        refine ⟨by simp [ih.len], fun z hz u hu => ?_, fun z c hz => ?_, ih.snoc hx⟩
        · simp only [lookU] at hz
          split at hz
          · cases hz
          · rename_i hne
            by_cases e : u < n
            · exact ih.no z hz u e
            · obtain rfl : u = n := by omega
              exact fun hE => hne hE.symm
        · simp only [lookU] at hz
          split at hz
          · rename_i hE
            cases hz
            exact ⟨n, rfl, by omega, hE.symm, fun u' hu' => by rw [hE]; exact ih.no _ hl u' hu'⟩
          · obtain ⟨u, k1, k2, k3, k4⟩ := ih.yes z c hz
            exact ⟨u, k1, by omega, k3, k4⟩
      · rename_i c hl
        obtain ⟨u0, rfl, u1, u2, u3⟩ := ih.yes _ _ hl
        split at h
        · rename_i hg
          cases h
          exact known _ _ hl (.inl ⟨hg, rfl⟩)
        · rename_i hg
          by_cases h7 : gate ≤ 7
          · rw [if_pos h7] at h
            simp only [if_true, Option.some.injEq, Sum.inr.injEq] at h
            subst h
            exact known _ _ hl (.inr (.inr ⟨by omega, u0, u1, u2, u3, .inl ⟨h7, rfl⟩⟩))
          · rw [if_neg h7] at h
            split at h
            · cases h
            · rename_i b e hs
              split at h
              · rename_i he
                subst he
                cases h
                exact known _ _ hl (.inr (.inr ⟨by omega, u0, u1, u2, u3, .inr ⟨h7, b, hs, rfl⟩⟩))
              · cases h
    · cases h
    · cases h

theorem runG_few (h7 : gate ≤ 7) : ∀ n, ∃ st, runG all gate nv s n = some (.inr st)
  | 0 => ⟨_, rfl⟩
  | n + 1 => by
    obtain ⟨st, hst⟩ := runG_few h7 n
    simp only [runG, hst]
    unfold stepG
    split
    · exact ⟨_, rfl⟩
    · split
      · exact ⟨_, rfl⟩
      · simp only [if_true]; exact ⟨_, rfl⟩

theorem Gv.bound {v : Nat} {x : Int} (h : Gv all gate nv s v x) : -1 ≤ x ∧ x < 2 * (v : Int) ∧ (0 ≤ x → gate ≤ v) := by
  rcases h with ⟨h, rfl⟩ | ⟨h, _, rfl⟩ | ⟨h, u, h1, _, _, h2⟩
  · omega
  · omega
  · have := litG_bound (s := s) (k := u) (x := s.getD v 0)
    rcases h2 with ⟨_, rfl⟩ | ⟨_, b, _, rfl⟩
    · omega
    · split <;> omega
end
end Go.Proofs.YtjkoadoekaplpaaGreat
