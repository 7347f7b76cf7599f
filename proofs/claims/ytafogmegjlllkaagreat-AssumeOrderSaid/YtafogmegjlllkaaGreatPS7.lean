/- The solver's laws, of plain values: SolveLeast. -/
import Derived.Test.YtafogmegjlllkaaGreatPS6
namespace Go.Proofs.YtafogmegjlllkaaGreat
open Go Go.Proofs.YtafogmegjlllkaaGreat.R
set_option linter.unusedVariables false

/-! ### Values as numbers -/

def valR : Nat → Nat → List Bool
  | 0, _ => []
  | V + 1, n => decide (n / 2 ^ V % 2 = 1) :: valR V n

def num : List Bool → Nat
  | [] => 0
  | b :: r => (if b then 2 ^ r.length else 0) + num r

theorem num_lt : ∀ (W : List Bool), num W < 2 ^ W.length
  | [] => by simp [num]
  | b :: r => by
    have := num_lt r
    simp only [num, List.length_cons, Nat.pow_succ]
    split <;> omega

theorem valR_len : ∀ (V n : Nat), (valR V n).length = V
  | 0, _ => rfl
  | V + 1, n => by simp [valR, valR_len V n]

theorem num_valR : ∀ (V n : Nat), num (valR V n) = n % 2 ^ V
  | 0, n => by simp [valR, num, Nat.mod_one]
  | V + 1, n => by
    simp only [valR, num, valR_len, num_valR V n]
    rw [Nat.mod_pow_succ]
    have : n / 2 ^ V % 2 = 0 ∨ n / 2 ^ V % 2 = 1 := by omega
    rcases this with h | h <;> simp [h] <;> omega

theorem num_inj : ∀ {a b : List Bool}, a.length = b.length → num a = num b → a = b
  | [], [], _, _ => rfl
  | x :: a, y :: b, hl, h => by
    have hl' : a.length = b.length := by simpa using hl
    have h1 := num_lt a
    have h2 := num_lt b
    simp only [num, hl'] at h h1
    have hxy : x = y := by
      cases x <;> cases y <;> simp at h ⊢ <;> omega
    subst hxy
    have : num a = num b := by omega
    rw [num_inj hl' this]

theorem lex_num : ∀ {W M : List Bool}, W.length = M.length → (∀ i, i < M.length → (∀ j, j < i → W.getD j false = M.getD j false) → M.getD i false = true → W.getD i false = true) → num M ≤ num W
  | [], [], _, _ => Nat.le_refl _
  | w :: W, m :: M, hl, h => by
    have hl' : W.length = M.length := by simpa using hl
    have h0 := h 0 (by simp) (by intro j hj; omega)
    simp only [List.getD_cons_zero] at h0
    have h1 := num_lt M
    simp only [num, hl']
    by_cases e : w = m
    · subst e
      have := lex_num hl' fun i hi hp ht => by
        have := h (i + 1) (by simp; omega) (fun j hj => by
          cases j with
          | zero => rfl
          | succ j => simpa using hp j (by omega)) (by simpa using ht)
        simpa using this
      omega
    · cases m with
      | true => exact absurd (h0 rfl) e
      | false =>
        cases w with
        | false => exact absurd rfl e
        | true => simp; omega

theorem valR_map : ∀ (V n : Nat), valR V n = (List.range V).map fun j : Nat => decide (n / 2 ^ (V - 1 - j) % 2 = 1)
  | 0, n => rfl
  | V + 1, n => by
    simp only [valR]
    rw [List.range_succ_eq_map, List.map_cons, List.map_map, valR_map V n]
    congr 1
    refine List.map_congr_left fun j hj => ?_
    simp only [Function.comp]
    rw [show V + 1 - 1 - (j + 1) = V - 1 - j from by omega]

theorem ref13_Values.loop2 : ∀ (i n : Nat) (o : List Bool), i ≤ o.length → o.length ≤ 4000 → n ≤ 1000000 → spiritlevelref13_Values.l0 (n : Int) ((i : Int) - 1) o = some (valR i n ++ o.drop i)
  | 0, n, o, hi, ho, hn => by rw [spiritlevelref13_Values.l0_eq, cd, if_neg (by omega)]; rfl
  | i + 1, n, o, hi, ho, hn => by
    have hlt : i < o.length := by omega
    have h1 : ((i + 1 : Nat) : Int) - 1 = (i : Int) := by omega
    have hw : IntKind.wrap .i64 ((i : Int) - 1) = (i : Int) - 1 := by rw [wr] <;> omega
    have hw2 : IntKind.wrap .i64 (Int.tdiv (n : Int) 2) = ((n / 2 : Nat) : Int) := by rw [td (by omega) (by omega)]; omega
    have hb : (Int.tmod (n : Int) 2 == 1) = decide (n % 2 = 1) := by
      rw [tm (by omega), Bool.eq_iff_iff]
      simp only [beq_iff_eq, decide_eq_true_eq]
      omega
    rw [spiritlevelref13_Values.l0_eq, h1, cd, if_pos (by omega), gsome hlt, Option.bind_some, Int.toNat_natCast, List.getElem?_eq_getElem hlt, Option.bind_some, hw, hw2, hb, ref13_Values.loop2 i (n / 2) _ (by rw [List.length_set]; omega) (by rw [List.length_set]; exact ho) (by omega)]
    have hd : (o.set i (decide (n % 2 = 1))).drop i = decide (n % 2 = 1) :: o.drop (i + 1) := by
      rw [drop_cons (by rw [List.length_set]; exact hlt), List.drop_set_of_lt (by omega), List.getElem_set_self]
    have hv : valR i (n / 2) ++ [decide (n % 2 = 1)] = valR (i + 1) n := by
      rw [valR_map, valR_map, List.range_succ, List.map_append]
      congr 1
      · refine List.map_congr_left fun j hj => ?_
        have hj := List.mem_range.1 hj
        rw [Nat.div_div_eq_div_mul, ← Nat.pow_succ', show (i - 1 - j).succ = i + 1 - 1 - j from by omega]
      · simp
    rw [hd, ← hv, List.append_assoc]; rfl

theorem ref13_Values_eq {v : Int} (hv : okV v) {n : Nat} (hn : n ≤ 1000000) : spiritlevelref13_Values v (n : Int) = some (valR v.toNat n) := by
  have hw : IntKind.wrap .i64 (v - 1) = (v.toNat : Int) - 1 := by rw [wr] <;> omega
  rw [spiritlevelref13_Values.eq, mkl_ok hv.1 (by omega), Option.bind_some, if_pos rfl, hw, ref13_Values.loop2 v.toNat n _ (by simp) (by simp; omega) hn, List.drop_of_length_le (by simp), List.append_nil]

/-! ### The least by trying -/

section
variable {v : Int} {L : List (List Int)}

theorem models_all {W : List Bool} : L.all (fun c => c.any (truth W)) = true ↔ Models L W := List.all_eq_true

theorem shl12 (h0 : 0 ≤ v) (h : v ≤ 12) : bshl .i64 1 (IntKind.wrap .u64 v) = ((2 ^ v.toNat : Nat) : Int) ∧ ¬ IntKind.wrap .u64 v < 0 := by
  have hu : IntKind.wrap .u64 v = v := by rw [IntKind.wrap_u64]; omega
  have hp := small_pow h0 h
  rw [hu]
  refine ⟨?_, by omega⟩
  unfold bshl
  have : min v.toNat IntKind.i64.bits = v.toNat := by
    have : IntKind.i64.bits = 64 := rfl
    omega
  rw [this, Int.one_mul, wr]
  · rw [Int.natCast_pow]; rfl
  · have : (0 : Int) ≤ 2 ^ v.toNat := Int.pow_nonneg (by omega)
    omega
  · have : ((2 : Int) ^ v.toNat) = ((2 ^ v.toNat : Nat) : Int) := by rw [Int.natCast_pow]; rfl
    rw [this]; omega

theorem ref19_Least.loop (ov : okV v) (o12 : v ≤ 12) (oL : okL v L) (on : L.length ≤ 1000) : ∀ (m n : Nat), n + m = 2 ^ v.toNat → (∀ k, k < n → ¬ Models L (valR v.toNat k)) →
    (∃ k, k < 2 ^ v.toNat ∧ Models L (valR v.toNat k) ∧ (∀ j, j < k → ¬ Models L (valR v.toNat j)) ∧ spiritlevelref19_Least.l0 v L (n : Int) = some (valR v.toNat k, true)) ∨
      ((∀ k, k < 2 ^ v.toNat → ¬ Models L (valR v.toNat k)) ∧ spiritlevelref19_Least.l0 v L (n : Int) = some ([], false))
  | 0, n, hn, hp => by
    obtain ⟨s1, s2⟩ := shl12 ov.1 o12
    right
    refine ⟨fun k hk => hp k (by omega), ?_⟩
    rw [spiritlevelref19_Least.l0_eq, cd, if_neg s2, s1, cd, if_neg (by omega)]
  | m + 1, n, hn, hp => by
    obtain ⟨s1, s2⟩ := shl12 ov.1 o12
    have hpw := small_pow ov.1 o12
    have hw : IntKind.wrap .i64 ((n : Int) + 1) = ((n + 1 : Nat) : Int) := by rw [wr] <;> omega
    rw [spiritlevelref19_Least.l0_eq, cd, if_neg s2, s1, cd, if_pos (by omega), ref13_Values_eq ov (by omega), Option.bind_some, ref19_Fits_eq ov (by rw [valR_len]; omega) oL (by omega), Option.bind_some, hw]
    cases hf : L.all (fun c => c.any (truth (valR v.toNat n))) with
    | true =>
      left
      exact ⟨n, by omega, models_all.1 hf, hp, rfl⟩
    | false =>
      rw [cf]
      refine ref19_Least.loop ov o12 oL on m (n + 1) (by omega) fun k hk => ?_
      rcases Nat.lt_or_ge k n with h | h
      · exact hp k h
      · rw [show k = n from by omega]
        intro hm
        rw [models_all.2 hm] at hf; cases hf

theorem least_num {M : List Bool} (hM : LeastM v L M) {k : Nat} (hk : k < 2 ^ v.toNat) (hm : Models L (valR v.toNat k)) (hmin : ∀ j, j < k → ¬ Models L (valR v.toNat j)) : valR v.toNat k = M := by
  have hl := num_lt M
  rw [hM.1] at hl
  have hMn : valR v.toNat (num M) = M := num_inj (by rw [valR_len, hM.1]) (by rw [num_valR, Nat.mod_eq_of_lt hl])
  have h1 : k ≤ num M := by
    apply Classical.byContradiction
    intro h
    exact hmin (num M) (by omega) (by rw [hMn]; exact hM.2.1)
  have h2 : num M ≤ num (valR v.toNat k) := lex_num (by rw [valR_len, hM.1]) fun i hi hp ht => hM.2.2 _ (valR_len ..) hm i (by rw [← hM.1]; exact hi) hp ht
  rw [num_valR, Nat.mod_eq_of_lt hk] at h2
  rw [show k = num M from by omega, hMn]

end

end Go.Proofs.YtafogmegjlllkaaGreat
