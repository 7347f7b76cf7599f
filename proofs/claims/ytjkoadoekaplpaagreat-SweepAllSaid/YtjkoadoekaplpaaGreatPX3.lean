/- Sweeping, of plain values: what the functions that are known as a whole answer. -/
import Derived.Test.YtjkoadoekaplpaaGreatPX2
namespace Go.Proofs.YtjkoadoekaplpaaGreat
open Go Go.Proofs.YtjkoadoekaplpaaGreat.R
set_option linter.unusedVariables false
set_option linter.unusedSimpArgs false

section
variable {I : Int} {Ls As : List (Int × Int)} {Bs Cs : List Int}

theorem sbits_eq {m : Nat} (hm : I + (Ls.length : Int) = m) (hl : m ≤ 1000) : sweep_bits I Ls As Bs Cs = some (maskM m) := by
  have w : IntKind.wrap .i64 (I + (Ls.length : Int)) = m := by rw [hm, wr] <;> omega
  have main : (bif (decide ((m : Int) ≥ 6)) then (some (18446744073709551615 : Int)) else (bif decide ((m : Int) < 0) then (none) else (bif decide ((bshl .u64 (1 : Int) (m : Int)) < 0) then (none) else (some (IntKind.wrap .u64 ((bshl .u64 (1 : Int) (bshl .u64 (1 : Int) (m : Int))) - (1 : Int))))))) = some (maskM m) := by
    unfold maskM
    rw [cd]
    by_cases h : (m : Int) ≥ 6
    · rw [if_pos h, if_pos (by omega)]
    · rw [if_neg h, if_neg (by omega), cd, if_neg (by omega), cd, if_neg]
      have := (wrU_in (1 * 2 ^ (min (m : Int).toNat IntKind.u64.bits))).1
      unfold bshl
      omega
  rw [sweep_bits.eq, w]
  exact main

theorem sweep.loop0 {m n : Nat} (hm : m ≤ n) (hn : n ≤ 1000) : ∀ (j k : Nat), k + j = m →
    sweep_Signatures.l0 ((m + 1 : Nat) : Int) (linS k) ((k + 1 : Nat) : Int) I Ls As Bs Cs (maskM m) pats (inL m k ++ List.replicate (n - k) 0) = sweep_Signatures.l1 ((m + 1 : Nat) : Int) As (As.length : Int) 0 (maskM m) (inL m m ++ List.replicate (n - m) 0)
  | 0, k, hk => by
    have : k = m := by omega
    subst this
    rw [sweep_Signatures.l0_eq, cd, if_neg (by omega)]
  | j + 1, k, hk => by
    have hlt : k < m := by omega
    have w1 : IntKind.wrap .i64 (((m + 1 : Nat) : Int) - 1) = m := by rw [wr] <;> omega
    have w2 : IntKind.wrap .i64 (((k + 1 : Nat) : Int) - 1) = k := by rw [wr] <;> omega
    have w3 : IntKind.wrap .i64 (((k + 1 : Nat) : Int) + 1) = ((k + 1 + 1 : Nat) : Int) := by rw [wr] <;> omega
    have hidx : k + 1 < (inL m k ++ List.replicate (n - k) 0).length := by rw [List.length_append, inL_len, List.length_replicate]; omega
    have hset : ∀ x, (inL m k ++ List.replicate (n - k) 0).set (k + 1) x = (inL m k ++ [x]) ++ List.replicate (n - (k + 1)) 0 := fun x => by
      have := set_zero (P := inL m k) (k := n - (k + 1)) (x := x)
      rwa [inL_len, show n - (k + 1) + 1 = n - k from by omega] at this
    have hl : linS (k + 1) = lin (linS k) := rfl
    have ih := sweep.loop0 hm hn j (k + 1) (by omega)
    rw [sweep_Signatures.l0_eq, cd, if_pos (by omega), w1, w2, w3, cd]
    by_cases h6 : (m : Int) ≤ 6
    · have hp : k < pats.length := by show k < 6; omega
      have hi : inL m (k + 1) = inL m k ++ [band .u64 pats[k] (maskM m)] := by
        show inL m k ++ [inp m k] = _
        unfold inp
        rw [if_pos (by omega), List.getD_eq_getElem?_getD, List.getElem?_eq_getElem hp]; rfl
      rw [if_pos h6, gsome hp, Option.bind_some, Int.toNat_natCast, List.getElem?_eq_getElem hp, Option.bind_some, gsome hidx, Option.bind_some, Int.toNat_natCast, List.getElem?_eq_getElem hidx, Option.bind_some, hset, ← hi]
      exact ih
    · have hi : inL m (k + 1) = inL m k ++ [lin (linS k)] := by
        show inL m k ++ [inp m k] = _
        unfold inp
        rw [if_neg (by omega)]; rfl
      rw [if_neg h6, gsome hidx, Option.bind_some, Int.toNat_natCast, List.getElem?_eq_getElem hidx, Option.bind_some, hset]
      rw [hi] at ih
      exact ih


theorem sword_eq {a : Int} {P Z : List Int} {l : Int} (hl : 0 ≤ l ∧ in64 l) (hi : (l / 2).toNat < P.length) (hP : ∀ x ∈ P, inM a x) : sweep_Signatures_1_s1 l (P ++ Z) a = some (wordF a P l) := by
  have hx := hP _ (List.getElem_mem hi)
  have h1 : geti (P ++ Z) (l / 2) = some P[(l / 2).toNat] := by
    rw [gi' (by omega), List.getElem?_append_left hi, List.getElem?_eq_getElem hi]
  unfold wordF
  rw [sweep_Signatures_1_s1.eq, td2 hl.1 hl.2, tm hl.1, ce, h1, List.getD_eq_getElem?_getD, List.getElem?_eq_getElem hi, Option.getD_some]
  by_cases c : l % 2 = 1
  · rw [if_pos c, if_pos c, Option.bind_some, (hx.not).1]
  · rw [if_neg c, if_neg c]; rfl

theorem sgates.loop {a : Int} {g : Nat} (h : As.length ≤ 140737488351232 ∧ ∀ x ∈ As, in64 x.1 ∧ in64 x.2) (hg : g + As.length ≤ 2000) : ∀ (k i : Nat) (P : List Int), i + k = As.length → P.length = g + i → (∀ x ∈ P, inM a x) → okG ((g + i : Nat) : Int) (As.drop i) = true →
    sweep_Signatures.l1 (g : Int) As (As.length : Int) (i : Int) a (P ++ List.replicate k 0) = some (sigs a P (As.drop i), 0)
  | 0, i, P, hi, hp, hP, ho => by
    rw [sweep_Signatures.l1_eq, cd, if_neg (by omega), List.replicate_zero, List.append_nil, List.drop_of_length_le (by omega)]
    rfl
  | k + 1, i, P, hi, hp, hP, ho => by
    have hlt : i < As.length := by omega
    obtain ⟨h1, h2⟩ := h.2 _ (List.getElem_mem hlt)
    rw [drop_cons hlt] at ho
    unfold okG at ho
    simp only [Bool.and_eq_true, decide_eq_true_eq] at ho
    obtain ⟨⟨⟨o1, o2⟩, o3⟩, o4⟩ := ho
    have hw : IntKind.wrap .i64 ((i : Int) + 1) = ((i + 1 : Nat) : Int) := by rw [wr] <;> omega
    have hw2 : IntKind.wrap .i64 ((g : Int) + (i : Int)) = ((g + i : Nat) : Int) := by rw [wr] <;> omega
    have x2 := sword_eq (Z := List.replicate (k + 1) 0) (P := P) (a := a) (l := (As[i]).1) ⟨by omega, h1⟩ (by omega) hP
    have y2 := sword_eq (Z := List.replicate (k + 1) 0) (P := P) (a := a) (l := (As[i]).2) ⟨o1, h2⟩ (by omega) hP
    have x1 := inM.lit hP (l := (As[i]).1) (by omega)
    have y1 := inM.lit hP (l := (As[i]).2) (by omega)
    have hidx : g + i < (P ++ List.replicate (k + 1) 0).length := by rw [List.length_append, List.length_replicate]; omega
    have hset := set_zero (P := P) (k := k) (x := band .u64 (wordF a P (As[i]).1) (wordF a P (As[i]).2))
    rw [hp] at hset
    have ih := sgates.loop (a := a) h hg k (i + 1) (P ++ [band .u64 (wordF a P (As[i]).1) (wordF a P (As[i]).2)]) (by omega) (by rw [List.length_append, List.length_singleton]; omega) (fun z hz => by
      rcases List.mem_append.1 hz with hz | hz
      · exact hP z hz
      · rw [List.mem_singleton] at hz; subst hz; exact x1.band y1) (by rw [show ((g + (i + 1) : Nat) : Int) = ((g + i : Nat) : Int) + 1 from by omega]; exact o4)
    rw [sweep_Signatures.l1_eq, cd, if_pos (by omega), gsome hlt, Option.bind_some, x2, Option.bind_some, y2, Option.bind_some, hw2, gsome hidx, Option.bind_some, Int.toNat_natCast, List.getElem?_eq_getElem hidx, Option.bind_some, hw, hset, drop_cons hlt]
    exact ih

/-- The signatures of a circuit. -/
def sigC (I : Int) (Ls As : LP) : List Int := sigs (maskM (I + (Ls.length : Int)).toNat) (inL (I + (Ls.length : Int)).toNat (I + (Ls.length : Int)).toNat) As

theorem signatures_is (h : Sized I Ls As Bs Cs) (hc : checkG I Ls As Bs Cs = 0) : sweep_Signatures I Ls As Bs Cs = some (sigC I Ls As, 0) := by
  obtain ⟨k1, ⟨k2, k3, _, _⟩, _, _, _, ho⟩ := checkG_zero hc
  obtain ⟨m, hm⟩ : ∃ m : Nat, I + (Ls.length : Int) = m := ⟨(I + (Ls.length : Int)).toNat, by omega⟩
  have hm1 : m ≤ 1000 := by omega
  have b1 := sbits_eq (As := As) (Bs := Bs) (Cs := Cs) hm hm1
  have hsz : size I Ls As = ((m + As.length : Nat) : Int) := by unfold size; omega
  have w1 : IntKind.wrap .i64 (size I Ls As + 1) = ((m + As.length + 1 : Nat) : Int) := by rw [hsz, wr] <;> omega
  have w2 : IntKind.wrap .i64 (I + (Ls.length : Int)) = m := by rw [hm, wr] <;> omega
  have w3 : IntKind.wrap .i64 ((m : Int) + 1) = ((m + 1 : Nat) : Int) := by rw [wr] <;> omega
  have r1 := sgates.loop (a := maskM m) (g := m + 1) h.as_ (by omega) As.length 0 (inL m m) (by omega) (inL_len m m) (inL_in m (Nat.le_refl _)) (by rw [List.drop_zero, show ((m + 1 + 0 : Nat) : Int) = 1 + I + (Ls.length : Int) from by omega]; exact ho)
  have s1 := sweep.loop0 (I := I) (Ls := Ls) (As := As) (Bs := Bs) (Cs := Cs) (m := m) (n := m + As.length) (by omega) (by omega) m 0 (by omega)
  rw [show m + As.length - m = As.length from by omega, show m + As.length - 0 = m + As.length from rfl] at s1
  rw [sweep_Signatures.eq, gates_Vars_eq h, if_pos hc, Option.bind_some]
  dsimp only
  rw [cn, if_pos rfl, b1, Option.bind_some, w1, mkl_ok (by omega) (by omega), Option.bind_some, if_pos rfl, w2, w3, Int.toNat_natCast]
  rw [List.drop_zero] at r1
  unfold sigC
  rw [show (I + (Ls.length : Int)).toNat = m by omega]
  exact s1.trans r1

/-- What is known of a circuit's signatures. -/
theorem sigC_spec (hc : checkG I Ls As Bs Cs = 0) : ∃ m : Nat, I + (Ls.length : Int) = m ∧ m ≤ 1000 ∧ gateN I Ls = m + 1 ∧ sigC I Ls As = sigs (maskM m) (inL m m) As ∧ okG ((m + 1 : Nat) : Int) As = true ∧
    inL m m <+: sigC I Ls As ∧ (sigC I Ls As).length = m + 1 + As.length ∧ m + As.length ≤ 1000 ∧ ∀ x ∈ sigC I Ls As, inM (maskM m) x := by
  obtain ⟨k1, ⟨k2, k3, _, _⟩, _, _, _, ho⟩ := checkG_zero hc
  obtain ⟨m, hm⟩ : ∃ m : Nat, I + (Ls.length : Int) = m := ⟨(I + (Ls.length : Int)).toNat, by omega⟩
  have ho' : okG ((m + 1 : Nat) : Int) As = true := by rw [show ((m + 1 : Nat) : Int) = 1 + I + (Ls.length : Int) from by omega]; exact ho
  have e : sigC I Ls As = sigs (maskM m) (inL m m) As := by unfold sigC; rw [show (I + (Ls.length : Int)).toNat = m by omega]
  obtain ⟨q1, q2, q3, _⟩ := sigs_spec As (m + 1) (inL m m) (inL_len m m) (inL_in m (Nat.le_refl _)) ho'
  refine ⟨m, hm, by omega, by unfold gateN; omega, e, ho', by rw [e]; exact q1, by rw [e]; exact q2, by omega, by rw [e]; exact q3⟩

theorem mul1 {n : Nat} (hn : n ≤ 3001) : bits_Mul 1 (n : Int) = some (0, (n : Int)) := by
  have b1 : band .u64 1 4294967295 = 1 := by decide
  have b2 : band .u64 (n : Int) 4294967295 = n := by
    rw [band_u]
    have h2 : (U 4294967295) = BitVec.ofNat 64 (2 ^ 32 - 1) := by decide
    have h1 : ((U (n : Int)) &&& U 4294967295).toNat = n := by
      rw [BitVec.toNat_and]
      have e1 : (U (n : Int)).toNat = n := by have := U_back (x := (n : Int)) (by constructor <;> omega); omega
      have e2 : (U 4294967295).toNat = 2 ^ 32 - 1 := by decide
      rw [e1, e2, Nat.and_two_pow_sub_one_eq_mod]
      omega
    rw [h1]
  have s0 : bshr .u64 1 32 = 0 := by decide
  have s1 : bshr .u64 (n : Int) 32 = 0 := by
    unfold bshr
    rw [show min (Int.toNat 32) IntKind.u64.bits = 32 from rfl, Int.fdiv_eq_ediv_of_nonneg _ (by decide)]
    omega
  have w : IntKind.wrap .u64 (n : Int) = n := wrU (by constructor <;> omega)
  have z : bshr .u64 0 32 = 0 := by decide
  have z2 : band .u64 0 4294967295 = 0 := by decide
  have z3 : IntKind.wrap .u64 0 = 0 := by decide
  rw [bits_Mul.eq, bits_Mul64.eq, Option.bind_some]
  simp only [b1, b2, s0, s1, Int.one_mul, w, Int.zero_mul, Int.mul_zero, z3, Int.zero_add, Int.add_zero, z, z2]

theorem okG_gatB {g : Int} : ∀ (l : LP) (k : Nat), okG (g + (k : Int)) l = true → gatB g k l = true
  | [], k, _ => rfl
  | x :: r, k, h => by
    unfold okG at h
    simp only [Bool.and_eq_true, decide_eq_true_eq] at h
    obtain ⟨⟨⟨h1, h2⟩, h3⟩, h4⟩ := h
    unfold gatB
    simp only [Bool.and_eq_true, decide_eq_true_eq]
    exact ⟨⟨⟨h1, h2⟩, h3⟩, okG_gatB r (k + 1) (by push_cast; rw [show g + ((k : Int) + 1) = g + (k : Int) + 1 by omega]; exact h4)⟩

theorem okG_of {g : Int} : ∀ (l : LP) (k : Nat), (∀ (j : Nat) (p : Int × Int), l[j]? = some p → 0 ≤ p.2 ∧ p.2 ≤ p.1 ∧ p.1 / 2 < g + ((k + j : Nat) : Int)) → okG (g + (k : Int)) l = true
  | [], k, _ => rfl
  | x :: r, k, h => by
    unfold okG
    simp only [Bool.and_eq_true, decide_eq_true_eq]
    obtain ⟨h1, h2, h3⟩ := h 0 x rfl
    refine ⟨⟨⟨h1, h2⟩, by simpa using h3⟩, ?_⟩
    have := okG_of (g := g) r (k + 1) (fun j p hp => by have := h (j + 1) p (by simpa using hp); rw [show k + 1 + j = k + (j + 1) by omega]; exact this)
    push_cast at this
    rw [show g + (k : Int) + 1 = g + ((k : Int) + 1) by omega]
    exact this

theorem okG_get {g : Int} : ∀ (l : LP), okG g l = true → ∀ (k : Nat) (p : Int × Int), l[k]? = some p → 0 ≤ p.2 ∧ p.2 ≤ p.1 ∧ p.1 / 2 < g + (k : Int) := fun l h k p hp => by
  have := gatB_get (okG_gatB (g := g) l 0 (by simpa using h)) k p hp
  simpa using this

theorem litsB_of {n : Int} {l : List Int} (h : ∀ x ∈ l, litN n x) : litsB (n + 1) l = true := by
  unfold litsB
  rw [List.all_eq_true]
  intro x hx
  obtain ⟨h1, h2⟩ := h x hx
  simp only [Bool.and_eq_true, decide_eq_true_eq]
  omega

theorem givB_of {i : Int} : ∀ (l : List Int) (v : Nat), (∀ (j : Nat) (x : Int), l[j]? = some x → -1 ≤ x ∧ x < 2 * ((v + j : Nat) : Int) ∧ (0 ≤ x → i < ((v + j : Nat) : Int))) → givB i v l = true
  | [], v, _ => rfl
  | x :: r, v, h => by
    unfold givB
    simp only [Bool.and_eq_true, Bool.or_eq_true, decide_eq_true_eq]
    obtain ⟨h1, h2, h3⟩ := h 0 x rfl
    refine ⟨⟨⟨h1, by simpa using h2⟩, ?_⟩, givB_of r (v + 1) (fun j y hy => by have := h (j + 1) y (by simpa using hy); rw [show v + 1 + j = v + (j + 1) by omega]; exact this)⟩
    by_cases h0 : x < 0
    · exact .inl h0
    · exact .inr (by simpa using h3 (by omega))

/-- What may be given for a circuit. -/
def givOk (I : Int) (Ls As : LP) (g : List Int) : Prop := (g.length : Int) = size I Ls As + 1 ∧ ∀ (v : Nat) (x : Int), g[v]? = some x → -1 ≤ x ∧ x < 2 * (v : Int) ∧ (0 ≤ x → I < (v : Int))

theorem buildB_of (h : Sized I Ls As Bs Cs) (hc : checkG I Ls As Bs Cs = 0) {g : List Int} (hg : givOk I Ls As g) : buildB I Ls As Bs Cs g = true ∧ BOk g.length (gateN I Ls) As g := by
  obtain ⟨k1, ⟨k2, k3, k4, k5⟩, c1, c2, c3, ho⟩ := checkG_zero hc
  obtain ⟨hl, hg⟩ := hg
  have hgate : ((gateN I Ls : Nat) : Int) = 1 + I + Ls.length := by unfold gateN; omega
  unfold size at hl
  have hlen : g.length = gateN I Ls + As.length := by omega
  have ho' : okG ((gateN I Ls : Nat) : Int) As = true := by rw [hgate]; exact ho
  have hN : (g.length : Int) = size I Ls As + 1 := by unfold size; omega
  refine ⟨?_, hlen, fun v hv => ?_, fun k p hp => okG_get As ho' k p hp, by omega, by omega, rfl, by omega⟩
  · unfold buildB
    simp only [Bool.and_eq_true, decide_eq_true_eq]
    refine ⟨⟨⟨⟨⟨⟨⟨by omega, by omega⟩, by omega⟩, by omega⟩, by omega⟩, by omega⟩, hlen⟩, ⟨⟨⟨⟨okG_gatB As 0 (by simpa using ho'), givB_of g 0 (fun j x hx => by have := hg j x hx; rw [Nat.zero_add]; exact this)⟩, ?_⟩, ?_⟩, ?_⟩⟩
    · rw [hN]
      refine litsB_of fun x hx => ?_
      obtain ⟨y, hy, rfl⟩ := List.mem_map.1 hx
      exact (c3 y hy).1
    · rw [hN]; exact litsB_of c1
    · rw [hN]; exact litsB_of c2
  · have := hg v (g.getD v 0) (by rw [List.getElem?_eq_getElem hv]; simp [List.getD, List.getElem?_eq_getElem hv])
    exact ⟨this.2.1, this.1⟩

theorem hash_Build_eq (h : Sized I Ls As Bs Cs) (hc : checkG I Ls As Bs Cs = 0) {g : List Int} (hg : givOk I Ls As g) : hash_Build I Ls As Bs Cs g = some (buildF I Ls As Bs Cs g) := by
  have hv := gates_Vars_eq h
  rw [if_pos hc] at hv
  unfold size at hv
  have hask : callOf1 E (DM E) 44 [circA I Ls As Bs Cs] [.d (.int .i64), .d (.int .i64)] = some (I + (Ls.length : Int) + (As.length : Int), (0 : Int)) := (D_one (by kernel_rfl)).trans hv
  unfold hash_Build
  rw [D_hk (k := buildHK) (by kernel_rfl)]
  show buildAns (callOf1 E (DM E)) [circA I Ls As Bs Cs, .d (.list (.int .i64)) g] = _
  show (match callOf1 E (DM E) 44 [circA I Ls As Bs Cs] [.d (.int .i64), .d (.int .i64)] with
    | some r => if (show Int × Int from r) = ((I + (Ls.length : Int) + (As.length : Int)), (0 : Int)) ∧ buildB I Ls As Bs Cs g = true then some (buildF I Ls As Bs Cs g) else none
    | none => none) = _
  rw [hask]
  exact if_pos ⟨rfl, (buildB_of h hc hg).1⟩

theorem lift_Identity_eq (h : Sized I Ls As Bs Cs) (hc : checkG I Ls As Bs Cs = 0) : lift_Identity I Ls As Bs Cs = some (identF I Ls) := by
  obtain ⟨k1, ⟨k2, k3, k4, k5⟩, _⟩ := checkG_zero hc
  have hv := gates_Check_eq h
  rw [hc] at hv
  have hask : callOf1 E (DM E) 37 [circA I Ls As Bs Cs] [.d (.int .i64)] = some (0 : Int) := (D_one (by kernel_rfl)).trans hv
  unfold lift_Identity
  rw [D_hk (k := identHK) (by kernel_rfl)]
  show (match callOf1 E (DM E) 37 [circA I Ls As Bs Cs] [.d (.int .i64)] with
    | some r => if (show Int from r) = 0 ∧ (0 ≤ I ∧ I ≤ 1000 ∧ Ls.length ≤ 1000) then some (identF I Ls) else none
    | none => none) = _
  rw [hask]
  exact if_pos ⟨rfl, k1, k2, by omega⟩

/-- What is asked of never. -/
noncomputable def nvC (I : Int) (Ls As : LP) (Bs Cs : List Int) (b : Int) : Int → Int → Option (Bool × Int) := nvNone (callOf1 E (DM E)) I Ls As Bs Cs b

theorem sweep_Given_eq (h : Sized I Ls As Bs Cs) (hc : checkG I Ls As Bs Cs = 0) {b : Int} (hb : 0 ≤ b ∧ b ≤ 100000) {m : Nat} (hm : I + (Ls.length : Int) = m) :
    sweep_Given I Ls As Bs Cs b = endG (runG (maskM m) (gateN I Ls) (nvC I Ls As Bs Cs b) (sigC I Ls As) (sigC I Ls As).length) := by
  obtain ⟨k1, ⟨k2, k3, k4, k5⟩, _⟩ := checkG_zero hc
  obtain ⟨m', hm', s1, s2, s3, s4, s5, s6, s7, s8⟩ := sigC_spec hc
  obtain rfl : m' = m := by omega
  have a18 : callOf1 E (DM E) 18 [circA I Ls As Bs Cs] [.own (.int .u64), .d (.int .i64)] = some (sigC I Ls As, (0 : Int)) := (D_one (by kernel_rfl)).trans (signatures_is h hc)
  have a32 : callOf1 E (DM E) 32 [circA I Ls As Bs Cs] [.d (.int .u64)] = some (maskM m') := (D_one (by kernel_rfl)).trans (sbits_eq hm s1)
  have a55 : callOf1 E (DM E) 55 [.d (.int .u64) (1 : Int), .d (.int .u64) (((sigC I Ls As).length : Nat) : Int)] [.d (.int .u64), .d (.int .u64)] = some ((0 : Int), ((sigC I Ls As).length : Int)) := (D_one (by kernel_rfl)).trans (mul1 (by omega))
  have hB : givenB I Ls As b (sigC I Ls As) = true := by
    unfold givenB
    simp only [Bool.and_eq_true, decide_eq_true_eq, List.all_eq_true]
    exact ⟨⟨⟨⟨⟨⟨⟨k1, k2⟩, by omega⟩, hb.1⟩, hb.2⟩, by omega⟩, by omega⟩, fun x hx => by have := (s8 x hx).1; unfold w64 at this; omega⟩
  unfold sweep_Given
  rw [D_hk (k := givenHK6) (by kernel_rfl)]
  show (match callOf1 E (DM E) 18 [circA I Ls As Bs Cs] [.own (.int .u64), .d (.int .i64)] with
    | some r1 => match callOf1 E (DM E) 32 [circA I Ls As Bs Cs] [.d (.int .u64)] with
      | some r2 => match callOf1 E (DM E) 55 [.d (.int .u64) (1 : Int), .d (.int .u64) (((show List Int × Int from r1).1.length : Nat) : Int)] [.d (.int .u64), .d (.int .u64)] with
        | some r3 => if (show List Int × Int from r1).2 = 0 ∧ (show Int × Int from r3) = ((0 : Int), ((show List Int × Int from r1).1.length : Int)) ∧ givenB I Ls As b (show List Int × Int from r1).1 = true then
            endG (runG r2 (gateN I Ls) (nvC I Ls As Bs Cs b) (show List Int × Int from r1).1 (show List Int × Int from r1).1.length) else none
        | none => none
      | none => none
    | none => none) = _
  rw [a18]
  show (match callOf1 E (DM E) 32 [circA I Ls As Bs Cs] [.d (.int .u64)] with
      | some r2 => match callOf1 E (DM E) 55 [.d (.int .u64) (1 : Int), .d (.int .u64) (((sigC I Ls As).length : Nat) : Int)] [.d (.int .u64), .d (.int .u64)] with
        | some r3 => if (0 : Int) = 0 ∧ (show Int × Int from r3) = ((0 : Int), ((sigC I Ls As).length : Int)) ∧ givenB I Ls As b (sigC I Ls As) = true then
            endG (runG r2 (gateN I Ls) (nvC I Ls As Bs Cs b) (sigC I Ls As) (sigC I Ls As).length) else none
        | none => none
      | none => none) = _
  rw [a32, a55]
  exact if_pos ⟨rfl, rfl, hB⟩
end
end Go.Proofs.YtjkoadoekaplpaaGreat
