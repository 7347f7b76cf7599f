/- Signatures, of plain values: SweepSignatures. -/
import Derived.Test.YthbkhndapkbgbaaPC1
namespace Go.Proofs.Ythbkhndapkbgbaa
open Go Go.Proofs.Ythbkhndapkbgbaa.R
set_option linter.unusedVariables false

/-! ### Words of 64 bits -/

abbrev U (x : Int) : BitVec 64 := BitVec.ofInt 64 x
abbrev w64 (x : Int) : Prop := 0 ≤ x ∧ x < 18446744073709551616

theorem wrU {x : Int} (h : w64 x) : IntKind.wrap .u64 x = x := by rw [IntKind.wrap_u64]; omega
theorem wrU_in (x : Int) : w64 (IntKind.wrap .u64 x) := by rw [IntKind.wrap_u64]; omega
theorem nat_in (b : BitVec 64) : w64 (b.toNat : Int) := ⟨Int.natCast_nonneg _, by have := b.isLt; omega⟩
theorem band_u (a b : Int) : band .u64 a b = ((U a &&& U b).toNat : Int) := wrU (nat_in (U a &&& U b))
theorem bxor_u (a b : Int) : bxor .u64 a b = ((U a ^^^ U b).toNat : Int) := wrU (nat_in (U a ^^^ U b))
theorem U_back {x : Int} (h : w64 x) : ((U x).toNat : Int) = x := by
  show ((BitVec.ofInt 64 x).toNat : Int) = x
  rw [BitVec.toNat_ofInt]
  omega
theorem U_nat (b : BitVec 64) : U (b.toNat : Int) = b := by
  apply BitVec.eq_of_toNat_eq
  have := U_back (nat_in b)
  omega

/-- All bits of a word are among those of another. -/
def inM (a x : Int) : Prop := w64 x ∧ U x &&& U a = U x

theorem inM.band {a x y : Int} (h : inM a x) (h' : inM a y) : inM a (band .u64 x y) := by
  refine ⟨by rw [band_u]; exact nat_in _, ?_⟩
  rw [band_u, U_nat, BitVec.and_assoc, h'.2]

theorem inM.not {a x : Int} (h : inM a x) : R.band .u64 (R.bxor .u64 (IntKind.max .u64) x) a = R.bxor .u64 x a ∧ inM a (R.bxor .u64 x a) := by
  have hb : ∀ i, ((U x).getLsbD i && (U a).getLsbD i) = (U x).getLsbD i := fun i => by
    have := congrArg (fun b : BitVec 64 => b.getLsbD i) h.2
    simpa using this
  have hm : U (IntKind.max .u64) = BitVec.allOnes 64 := by decide
  refine ⟨?_, by rw [bxor_u]; exact nat_in _, ?_⟩
  · rw [band_u, bxor_u, bxor_u, U_nat, hm]
    congr 2
    apply BitVec.eq_of_getLsbD_eq
    intro i hi
    have := hb i
    simp only [BitVec.getLsbD_and, BitVec.getLsbD_xor, BitVec.getLsbD_allOnes, hi, decide_true]
    revert this
    cases (U x).getLsbD i <;> cases (U a).getLsbD i <;> simp
  · rw [bxor_u, U_nat]
    apply BitVec.eq_of_getLsbD_eq
    intro i hi
    have := hb i
    simp only [BitVec.getLsbD_and, BitVec.getLsbD_xor]
    revert this
    cases (U x).getLsbD i <;> cases (U a).getLsbD i <;> simp

theorem inM.zero {a : Int} : inM a 0 := ⟨by decide, by
  show (BitVec.ofInt 64 0) &&& U a = BitVec.ofInt 64 0
  simp⟩

theorem inM.full {x : Int} (h : w64 x) : inM 18446744073709551615 x := ⟨h, by
  have hm : U 18446744073709551615 = BitVec.allOnes 64 := by decide
  rw [hm]; exact BitVec.and_allOnes⟩

/-! ### Inputs and latches -/

def maskM (m : Nat) : Int := if 6 ≤ m then 18446744073709551615 else IntKind.wrap .u64 (bshl .u64 1 (bshl .u64 1 (m : Int)) - 1)

def pats : List Int := [12297829382473034410, 14757395258967641292, 17361641481138401520, 18374966859414961920, 18446462603027742720, 18446744069414584320]

def stepS (v s i : Int) : Int := bor .u64 s (bshl .u64 (IntKind.wrap .u64 (band .i64 (bshr .i64 i (IntKind.wrap .i64 (v - 1))) 1)) i)
def foldS (v : Int) : Nat → Nat → Int → Int
  | 0, _, s => s
  | n + 1, i, s => foldS v n (i + 1) (stepS v s (i : Int))

def okSmall : Bool := (List.range 7).all fun m => (List.range m).all fun k => decide (foldS ((k + 1 : Nat) : Int) (2 ^ m) 0 0 = band .u64 (pats.getD k 0) (maskM m)) && decide (U (band .u64 (pats.getD k 0) (maskM m)) &&& U (maskM m) = U (band .u64 (pats.getD k 0) (maskM m)))

theorem okSmall_true : okSmall = true := by decide +kernel

theorem small_eq {m k : Nat} (hm : m ≤ 6) (hk : k < m) : foldS ((k + 1 : Nat) : Int) (2 ^ m) 0 0 = band .u64 (pats.getD k 0) (maskM m) ∧ inM (maskM m) (band .u64 (pats.getD k 0) (maskM m)) := by
  have := List.all_eq_true.1 okSmall_true m (List.mem_range.2 (by omega))
  have := List.all_eq_true.1 this k (List.mem_range.2 hk)
  rw [Bool.and_eq_true, decide_eq_true_iff, decide_eq_true_iff] at this
  exact ⟨this.1, by rw [band_u]; exact nat_in _, this.2⟩

def lin (x : Int) : Int := IntKind.wrap .u64 (IntKind.wrap .u64 (x * 6364136223846793005) + 1442695040888963407)
def linS : Nat → Int
  | 0 => 1
  | n + 1 => lin (linS n)

def inp (m k : Nat) : Int := if m ≤ 6 then band .u64 (pats.getD k 0) (maskM m) else linS (k + 1)

/-- The signatures of the first variables. -/
def inL (m : Nat) : Nat → List Int
  | 0 => [0]
  | k + 1 => inL m k ++ [inp m k]

theorem inL_len (m : Nat) : ∀ k, (inL m k).length = k + 1
  | 0 => rfl
  | k + 1 => by simp [inL, inL_len m k]

theorem inp_in {m k : Nat} (hk : k < m) : inM (maskM m) (inp m k) := by
  unfold inp
  by_cases h : m ≤ 6
  · rw [if_pos h]; exact (small_eq h hk).2
  · rw [if_neg h]
    unfold maskM
    rw [if_pos (by omega)]
    exact inM.full (wrU_in _)

theorem inL_in {m : Nat} : ∀ k, k ≤ m → ∀ x ∈ inL m k, inM (maskM m) x
  | 0, _, x, hx => by simp only [inL, List.mem_singleton] at hx; subst hx; exact inM.zero
  | k + 1, hk, x, hx => by
    rcases List.mem_append.1 hx with h | h
    · exact inL_in k (by omega) x h
    · rw [List.mem_singleton] at h; subst h; exact inp_in (by omega)

theorem set_zero {P : List Int} {k : Nat} {x : Int} : (P ++ List.replicate (k + 1) 0).set P.length x = (P ++ [x]) ++ List.replicate k 0 := by
  rw [List.set_append_right _ _ (Nat.le_refl _), Nat.sub_self, List.replicate_succ, List.set_cons_zero, List.append_assoc]
  rfl

section
variable {I : Int} {Ls As : List (Int × Int)} {Bs Cs : List Int}

theorem bits_eq {m : Nat} (hm : I + (Ls.length : Int) = m) (hl : m ≤ 1000) : sweep_bits I Ls As Bs Cs = some (maskM m) ∧ spiritlevelref29_mask I Ls As Bs Cs = some (maskM m) := by
  have w : IntKind.wrap .i64 (I + (Ls.length : Int)) = m := by rw [hm, wr] <;> omega
  have main : (bif (decide ((m : Int) ≥ 6)) then (some (18446744073709551615 : Int)) else (bif decide ((m : Int) < 0) then (none) else (bif decide ((bshl .u64 (1 : Int) (m : Int)) < 0) then (none) else (some (IntKind.wrap .u64 ((bshl .u64 (1 : Int) (bshl .u64 (1 : Int) (m : Int))) - (1 : Int))))))) = some (maskM m) := by
    unfold maskM
    rw [cd]
    by_cases h : (m : Int) ≥ 6
    · rw [if_pos h, if_pos (by omega)]
    · rw [if_neg h, if_neg (by omega), cd, if_neg (by omega), cd, if_neg]
      have := (wrU_in (1 * 2 ^ (min (m : Int).toNat IntKind.u64.bits))).1
      unfold bshl
      omega
  rw [sweep_bits.eq, spiritlevelref29_mask.eq, w]
  exact ⟨main, main⟩

theorem sweep.loop0 {m n : Nat} (hm : m ≤ n) (hn : n ≤ 1000) : ∀ (j k : Nat), k + j = m →
    sweep_Signatures.l0 ((m + 1 : Nat) : Int) (linS k) ((k + 1 : Nat) : Int) I Ls As Bs Cs (maskM m) pats (inL m k ++ List.replicate (n - k) 0) = sweep_Signatures.l1 ((m + 1 : Nat) : Int) As (As.length : Int) 0 (maskM m) (inL m m ++ List.replicate (n - m) 0)
  | 0, k, hk => by
    have : k = m := by omega
    subst this
    rw [sweep_Signatures.l0_eq, cd, if_neg (by omega)]
  | j + 1, k, hk => by
    have hlt : k < m := by omega
    have w1 : IntKind.wrap .i64 (((m + 1 : Nat) : Int) - 1) = m := by rw [wr] <;> omega
    have w2 : IntKind.wrap .i64 (((k + 1 : Nat) : Int) - 1) = k := by rw [wr] <;> omega
    have w3 : IntKind.wrap .i64 (((k + 1 : Nat) : Int) + 1) = ((k + 1 + 1 : Nat) : Int) := by rw [wr] <;> omega
    have hidx : k + 1 < (inL m k ++ List.replicate (n - k) 0).length := by rw [List.length_append, inL_len, List.length_replicate]; omega
    have hset : ∀ x, (inL m k ++ List.replicate (n - k) 0).set (k + 1) x = (inL m k ++ [x]) ++ List.replicate (n - (k + 1)) 0 := fun x => by
      have := set_zero (P := inL m k) (k := n - (k + 1)) (x := x)
      rwa [inL_len, show n - (k + 1) + 1 = n - k from by omega] at this
    have hl : linS (k + 1) = lin (linS k) := rfl
    have ih := sweep.loop0 hm hn j (k + 1) (by omega)
    rw [sweep_Signatures.l0_eq, cd, if_pos (by omega), w1, w2, w3, cd]
    by_cases h6 : (m : Int) ≤ 6
    · have hp : k < pats.length := by show k < 6; omega
      have hi : inL m (k + 1) = inL m k ++ [band .u64 pats[k] (maskM m)] := by
        show inL m k ++ [inp m k] = _
        unfold inp
        rw [if_pos (by omega), List.getD_eq_getElem?_getD, List.getElem?_eq_getElem hp]; rfl
      rw [if_pos h6, gsome hp, Option.bind_some, Int.toNat_natCast, List.getElem?_eq_getElem hp, Option.bind_some, gsome hidx, Option.bind_some, Int.toNat_natCast, List.getElem?_eq_getElem hidx, Option.bind_some, hset, ← hi]
      exact ih
    · have hi : inL m (k + 1) = inL m k ++ [lin (linS k)] := by
        show inL m k ++ [inp m k] = _
        unfold inp
        rw [if_neg (by omega)]; rfl
      rw [if_neg h6, gsome hidx, Option.bind_some, Int.toNat_natCast, List.getElem?_eq_getElem hidx, Option.bind_some, hset]
      rw [hi] at ih
      exact ih

theorem shlm {m : Nat} (h : m ≤ 6) : bshl .i64 1 (m : Int) = ((2 ^ m : Nat) : Int) := by
  have : m = 0 ∨ m = 1 ∨ m = 2 ∨ m = 3 ∨ m = 4 ∨ m = 5 ∨ m = 6 := by omega
  rcases this with h | h | h | h | h | h | h <;> subst h <;> decide

theorem signed.loop1 {m k : Nat} (hm : m ≤ 6) (hk : k ≤ 1000) {last all : Int} {o : List Int} (ho : o.length ≤ 1000) : ∀ (j i : Nat) (s : Int), i + j = 2 ^ m →
    spiritlevelref29_Signed.l1 all last (m : Int) ((k + 1 : Nat) : Int) s (i : Int) I Ls As Bs Cs o = spiritlevelref29_Signed.l0 all last (m : Int) ((k + 1 + 1 : Nat) : Int) I Ls As Bs Cs (o ++ [foldS ((k + 1 : Nat) : Int) j i s])
  | 0, i, s, hi => by
    have w3 : IntKind.wrap .i64 (((k + 1 : Nat) : Int) + 1) = ((k + 1 + 1 : Nat) : Int) := by rw [wr] <;> omega
    rw [spiritlevelref29_Signed.l1_eq, cd, if_neg (by omega), shlm hm, cd, if_neg (by omega), app_ok (by simp only [List.length_singleton]; omega), Option.bind_some, w3]
    rfl
  | j + 1, i, s, hi => by
    have h64 : 2 ^ m ≤ 64 := Nat.pow_le_pow_right (n := 2) (by omega) hm
    have hw : IntKind.wrap .i64 ((i : Int) + 1) = ((i + 1 : Nat) : Int) := by rw [wr] <;> omega
    have w2 : IntKind.wrap .i64 (((k + 1 : Nat) : Int) - 1) = k := by rw [wr] <;> omega
    rw [spiritlevelref29_Signed.l1_eq, cd, if_neg (by omega), shlm hm, cd, if_pos (by omega), cd, if_neg (by omega), cd, if_neg (by omega), hw, signed.loop1 hm hk ho j (i + 1) _ (by omega)]
    rfl

theorem signed.loop0 {m : Nat} (hm : m ≤ 1000) {last : Nat → Int} (hlast : ∀ k, ¬ m ≤ 6 → last k = linS k) (hstay : ∀ k, m ≤ 6 → last k = 1) : ∀ (j k : Nat), k + j = m →
    spiritlevelref29_Signed.l0 (maskM m) (last k) (m : Int) ((k + 1 : Nat) : Int) I Ls As Bs Cs (inL m k) = spiritlevelref29_Signed.l2 (maskM m) 0 I Ls As Bs Cs (inL m m)
  | 0, k, hk => by
    have : k = m := by omega
    subst this
    rw [spiritlevelref29_Signed.l0_eq, cd, if_neg (by omega)]
  | j + 1, k, hk => by
    have hlt : k < m := by omega
    have hlen := inL_len m k
    have w3 : IntKind.wrap .i64 (((k + 1 : Nat) : Int) + 1) = ((k + 1 + 1 : Nat) : Int) := by rw [wr] <;> omega
    have ih := signed.loop0 hm hlast hstay j (k + 1) (by omega)
    rw [spiritlevelref29_Signed.l0_eq, cd, if_pos (by omega), cd]
    by_cases h6 : (m : Int) ≤ 6
    · have hi : inL m (k + 1) = inL m k ++ [foldS ((k + 1 : Nat) : Int) (2 ^ m) 0 0] := by
        show inL m k ++ [inp m k] = _
        unfold inp
        rw [if_pos (by omega), (small_eq (by omega) hlt).1]
      rw [if_pos h6, show (0 : Int) = ((0 : Nat) : Int) from rfl, signed.loop1 (by omega) (by omega) (by omega) (2 ^ m) 0 _ (by omega), show (((0 : Nat) : Nat) : Int) = 0 from rfl, ← hi, hstay k (by omega), ← hstay (k + 1) (by omega)]
      exact ih
    · have hi : inL m (k + 1) = inL m k ++ [lin (linS k)] := by
        show inL m k ++ [inp m k] = _
        unfold inp
        rw [if_neg (by omega)]; rfl
      have hl : last (k + 1) = lin (linS k) := hlast _ (by omega)
      rw [if_neg h6, app_ok (by simp only [List.length_singleton]; omega), Option.bind_some, hlast k (by omega), w3]
      rw [hi, hl] at ih
      exact ih

/-- What a literal's signature is. -/
theorem word_eq {a : Int} {P Z : List Int} {l : Int} (hl : 0 ≤ l ∧ in64 l) (hi : (l / 2).toNat < P.length) (hP : ∀ x ∈ P, inM a x) : ∃ x, inM a x ∧ sweep_Signatures_1_s1 l (P ++ Z) a = some x ∧ spiritlevelref29_word P a l = some x := by
  have hx := hP _ (List.getElem_mem hi)
  have h1 : geti (P ++ Z) (l / 2) = some P[(l / 2).toNat] := by
    rw [gi' (by omega), List.getElem?_append_left hi, List.getElem?_eq_getElem hi]
  have h2 : geti P (l / 2) = some P[(l / 2).toNat] := by rw [gi' (by omega), List.getElem?_eq_getElem hi]
  rw [sweep_Signatures_1_s1.eq, spiritlevelref29_word.eq, td2 hl.1 hl.2, tm hl.1, ce, ce, h1, h2]
  by_cases c : l % 2 = 1
  · rw [if_pos c, if_pos c, Option.bind_some, Option.bind_some, (hx.not).1]
    exact ⟨_, (hx.not).2, rfl, rfl⟩
  · rw [if_neg c, if_neg c]
    exact ⟨_, hx, rfl, rfl⟩

theorem gates.loop {a : Int} {g : Nat} (h : As.length ≤ 140737488351232 ∧ ∀ x ∈ As, in64 x.1 ∧ in64 x.2) (hg : g + As.length ≤ 2000) : ∀ (k i : Nat) (P : List Int), i + k = As.length → P.length = g + i → (∀ x ∈ P, inM a x) → okG ((g + i : Nat) : Int) (As.drop i) = true →
    ∃ R, R.length = g + As.length ∧ sweep_Signatures.l1 (g : Int) As (As.length : Int) (i : Int) a (P ++ List.replicate k 0) = some (R, 0) ∧ spiritlevelref29_Signed.l2 a (i : Int) I Ls As Bs Cs P = some R
  | 0, i, P, hi, hp, hP, ho => by
    refine ⟨P, by omega, ?_, ?_⟩
    · rw [sweep_Signatures.l1_eq, cd, if_neg (by omega), List.replicate_zero, List.append_nil]
    · rw [spiritlevelref29_Signed.l2_eq, cd, if_neg (by omega)]
  | k + 1, i, P, hi, hp, hP, ho => by
    have hlt : i < As.length := by omega
    obtain ⟨h1, h2⟩ := h.2 _ (List.getElem_mem hlt)
    rw [drop_cons hlt] at ho
    unfold okG at ho
    simp only [Bool.and_eq_true, decide_eq_true_eq] at ho
    obtain ⟨⟨⟨o1, o2⟩, o3⟩, o4⟩ := ho
    have hw : IntKind.wrap .i64 ((i : Int) + 1) = ((i + 1 : Nat) : Int) := by rw [wr] <;> omega
    have hw2 : IntKind.wrap .i64 ((g : Int) + (i : Int)) = ((g + i : Nat) : Int) := by rw [wr] <;> omega
    obtain ⟨x, x1, x2, x3⟩ := word_eq (Z := List.replicate (k + 1) 0) (P := P) (a := a) ⟨by omega, h1⟩ (by omega) hP
    obtain ⟨y, y1, y2, y3⟩ := word_eq (Z := List.replicate (k + 1) 0) (P := P) (a := a) ⟨o1, h2⟩ (by omega) hP
    have hidx : g + i < (P ++ List.replicate (k + 1) 0).length := by rw [List.length_append, List.length_replicate]; omega
    have hset := set_zero (P := P) (k := k) (x := band .u64 x y)
    rw [hp] at hset
    obtain ⟨R, r0, r1, r2⟩ := gates.loop (a := a) h hg k (i + 1) (P ++ [band .u64 x y]) (by omega) (by rw [List.length_append, List.length_singleton]; omega) (fun z hz => by
      rcases List.mem_append.1 hz with hz | hz
      · exact hP z hz
      · rw [List.mem_singleton] at hz; subst hz; exact x1.band y1) (by rw [show ((g + (i + 1) : Nat) : Int) = ((g + i : Nat) : Int) + 1 from by omega]; exact o4)
    refine ⟨R, r0, ?_, ?_⟩
    · rw [sweep_Signatures.l1_eq, cd, if_pos (by omega), gsome hlt, Option.bind_some, x2, Option.bind_some, y2, Option.bind_some, hw2, gsome hidx, Option.bind_some, Int.toNat_natCast, List.getElem?_eq_getElem hidx, Option.bind_some, hw, hset]
      exact r1
    · rw [spiritlevelref29_Signed.l2_eq, cd, if_pos (by omega), gsome hlt, Option.bind_some, x3, Option.bind_some, Option.bind_some, y3, Option.bind_some, app_ok (by simp only [List.length_singleton]; omega), Option.bind_some, hw]
      exact r2

theorem same.loop {l : List Int} (hn : l.length ≤ 100000) : ∀ (n i : Nat), i + n = l.length → spiritlevellaw29_SweepSignatures.l0 (i : Int) l l = some true
  | 0, i, hi => by rw [spiritlevellaw29_SweepSignatures.l0_eq, cd, if_neg (by omega)]
  | n + 1, i, hi => by
    have hlt : i < l.length := by omega
    have hw : IntKind.wrap .i64 ((i : Int) + 1) = ((i + 1 : Nat) : Int) := by rw [wr] <;> omega
    rw [spiritlevellaw29_SweepSignatures.l0_eq, cd, if_pos (by omega), gsome hlt, Option.bind_some, Int.toNat_natCast, List.getElem?_eq_getElem hlt, Option.bind_some, Option.bind_some, Option.bind_some, cn, if_pos rfl, hw, same.loop hn n (i + 1) (by omega)]

theorem signatures_eq (h : Sized I Ls As Bs Cs) (hc : checkG I Ls As Bs Cs = 0) : ∃ R, R.length ≤ 2000 ∧ sweep_Signatures I Ls As Bs Cs = some (R, 0) ∧ spiritlevelref29_Signatures I Ls As Bs Cs = some (R, 0) := by
  obtain ⟨k1, ⟨k2, k3, _, _⟩, _, _, _, ho⟩ := checkG_zero hc
  obtain ⟨m, hm⟩ : ∃ m : Nat, I + (Ls.length : Int) = m := ⟨(I + (Ls.length : Int)).toNat, by omega⟩
  have hm1 : m ≤ 1000 := by omega
  obtain ⟨b1, b2⟩ := bits_eq (As := As) (Bs := Bs) (Cs := Cs) hm hm1
  have hsz : size I Ls As = ((m + As.length : Nat) : Int) := by unfold size; omega
  have w1 : IntKind.wrap .i64 (size I Ls As + 1) = ((m + As.length + 1 : Nat) : Int) := by rw [hsz, wr] <;> omega
  have w2 : IntKind.wrap .i64 (I + (Ls.length : Int)) = m := by rw [hm, wr] <;> omega
  have w3 : IntKind.wrap .i64 ((m : Int) + 1) = ((m + 1 : Nat) : Int) := by rw [wr] <;> omega
  obtain ⟨R, r0, r1, r2⟩ := gates.loop (I := I) (Ls := Ls) (Bs := Bs) (Cs := Cs) (a := maskM m) (g := m + 1) h.as_ (by omega) As.length 0 (inL m m) (by omega) (inL_len m m) (inL_in m (Nat.le_refl _)) (by rw [List.drop_zero, show ((m + 1 + 0 : Nat) : Int) = 1 + I + (Ls.length : Int) from by omega]; exact ho)
  have s1 := sweep.loop0 (I := I) (Ls := Ls) (As := As) (Bs := Bs) (Cs := Cs) (m := m) (n := m + As.length) (by omega) (by omega) m 0 (by omega)
  rw [show m + As.length - m = As.length from by omega, show m + As.length - 0 = m + As.length from rfl] at s1
  refine ⟨R, by omega, ?_, ?_⟩
  · rw [sweep_Signatures.eq, gates_Vars_eq h, if_pos hc, Option.bind_some]
    dsimp only
    rw [cn, if_pos rfl, b1, Option.bind_some, w1, mkl_ok (by omega) (by omega), Option.bind_some, if_pos rfl, w2, w3, Int.toNat_natCast]
    exact s1.trans r1
  · have s2 := signed.loop0 (I := I) (Ls := Ls) (As := As) (Bs := Bs) (Cs := Cs) (m := m) hm1 (last := fun k => if m ≤ 6 then 1 else linS k) (fun k hk => if_neg hk) (fun k hk => if_pos hk) m 0 (by omega)
    have h0 : (if m ≤ 6 then (1 : Int) else linS 0) = 1 := by split <;> rfl
    rw [h0] at s2
    rw [spiritlevelref29_Signatures.eq, ref02_Check_eq h, Option.bind_some, hc, cn, if_pos rfl, spiritlevelref29_Signed.eq, b2, Option.bind_some, w2]
    have := s2.trans r2
    rw [show ((0 + 1 : Nat) : Int) = 1 from rfl] at this
    show Option.bind (spiritlevelref29_Signed.l0 (maskM m) 1 (m : Int) 1 I Ls As Bs Cs (inL m 0)) _ = _
    rw [this, Option.bind_some]

end

theorem SweepSignatures_pure (c : Int × List (Int × Int) × List (Int × Int) × List Int × List Int) (hc : okD TC c) : spiritlevellaw29_SweepSignatures c.1 c.2.1 c.2.2.1 c.2.2.2.1 c.2.2.2.2 = some true := by
  have h := okTC hc
  rw [spiritlevellaw29_SweepSignatures.eq, ref02_Great_eq h, Option.bind_some, cd]
  split
  · rfl
  by_cases c0 : checkG c.1 c.2.1 c.2.2.1 c.2.2.2.1 c.2.2.2.2 = 0
  · obtain ⟨R, r0, r1, r2⟩ := signatures_eq h c0
    have := same.loop (l := R) (by omega) R.length 0 (by omega)
    rw [show ((0 : Nat) : Int) = 0 from rfl] at this
    rw [r1, Option.bind_some, r2, Option.bind_some]
    dsimp only
    rw [cn, if_pos rfl, cn, if_pos rfl, this]
  · have := same.loop (l := []) (by simp) 0 0 (by simp)
    rw [show ((0 : Nat) : Int) = 0 from rfl] at this
    rw [sweep_Signatures.eq, gates_Vars_eq h, if_neg c0, Option.bind_some]
    dsimp only
    rw [cn, if_neg c0, Option.bind_some, spiritlevelref29_Signatures.eq, ref02_Check_eq h, Option.bind_some, cn, if_neg c0, Option.bind_some]
    dsimp only
    rw [cn, if_pos rfl, cn, if_pos rfl, this]

end Go.Proofs.Ythbkhndapkbgbaa
