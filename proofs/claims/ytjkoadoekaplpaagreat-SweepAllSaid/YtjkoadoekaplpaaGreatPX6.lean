/- Sweeping by all values, of plain values: the law SweepAll. -/
import Derived.Test.YtjkoadoekaplpaaGreatPX5
namespace Go.Proofs.YtjkoadoekaplpaaGreat
open Go Go.Proofs.YtjkoadoekaplpaaGreat.R
set_option linter.unusedVariables false
set_option linter.unusedSimpArgs false

def chA : LP := [(4, 2), (5, 2), (9, 7)]

theorem ch_sized : Sized 2 [] chA [10] [] := by
  refine ⟨by unfold in64; omega, ⟨by simp, by simp⟩, ⟨by simp [chA], ?_⟩, ⟨by simp, ?_⟩, ⟨by simp, by simp⟩⟩
  · intro x hx
    simp only [chA, List.mem_cons, List.not_mem_nil, or_false] at hx
    rcases hx with rfl | rfl | rfl <;> exact ⟨by unfold in64; omega, by unfold in64; omega⟩
  · intro x hx
    simp only [List.mem_cons, List.not_mem_nil, or_false] at hx
    subst hx
    unfold in64; omega

theorem ch_check : checkG 2 [] chA [10] [] = 0 := by decide

theorem ch_run (nv : Int → Int → Option (Bool × Int)) : endG (runG (maskM 2) (gateN 2 []) nv (sigC 2 [] chA) (sigC 2 [] chA).length) = some ([-1, -1, -1, -1, -1, 3], 0) := by kernel_rfl

theorem ch_given {b : Int} (hb : 0 ≤ b ∧ b ≤ 100000) : sweep_Given 2 [] chA [10] [] b = some ([-1, -1, -1, -1, -1, 3], 0) := by
  rw [sweep_Given_eq ch_sized ch_check hb (m := 2) (by simp)]
  exact ch_run _

theorem ch_ok : givOk 2 [] chA [-1, -1, -1, -1, -1, 3] := by
  refine ⟨by decide, fun v x hx => ?_⟩
  have hv : v < 6 := (List.getElem?_eq_some_iff.1 hx).1
  have : v = 0 ∨ v = 1 ∨ v = 2 ∨ v = 3 ∨ v = 4 ∨ v = 5 := by omega
  rcases this with rfl | rfl | rfl | rfl | rfl | rfl <;> simp at hx <;> subst hx <;> omega

theorem alive_eq : spiritlevellaw29_alive = some true := by
  have e : spiritlevellaw29_chapter = some ((2 : Int), ([] : LP), chA, [10], []) := spiritlevellaw29_chapter.eq
  have g0 := ch_given (b := 0) (by omega)
  have p0 := sweep_Pass_eq ch_sized ch_check (b := 0) (by omega) ch_ok g0
  have l1 : (bAs 2 [] chA [-1, -1, -1, -1, -1, 3]).length = 2 := by kernel_rfl
  have l2 : bL 2 [] chA [-1, -1, -1, -1, -1, 3] [10] = [3] := by kernel_rfl
  rw [l2] at p0
  rw [spiritlevellaw29_alive.eq, e, Option.bind_some]
  dsimp only
  rw [g0, Option.bind_some, Option.bind_some]
  dsimp only
  rw [p0, Option.bind_some]
  dsimp only
  rw [ce, if_pos rfl, sameInts_refl (by decide), Option.bind_some, ct, ce, if_pos rfl, ce, if_pos (by rw [l1]; rfl), sameInts_refl (by decide), Option.bind_some]

section
variable {I : Int} {Ls As : List (Int × Int)} {Bs Cs : List Int}

theorem great_some (h : Sized I Ls As Bs Cs) : ∃ b, spiritlevellaw29_great I Ls As Bs Cs = some b ∧ (b = false → checkG I Ls As Bs Cs = 0 → Ls.length ≤ 12 ∧ As.length ≤ 40 ∧ I ≤ 20) := by
  rw [spiritlevellaw29_great.eq, ref02_Great_eq h, Option.bind_some, cd]
  split
  · exact ⟨true, rfl, fun h => by cases h⟩
  · rw [ref02_Check_eq h, Option.bind_some, ce]
    split
    · rename_i hc
      rw [cd]
      split
      · exact ⟨true, rfl, fun h => by cases h⟩
      · rw [cd]
        split
        · exact ⟨true, rfl, fun h => by cases h⟩
        · exact ⟨_, rfl, fun h _ => by have := of_decide_eq_false h; omega⟩
    · rename_i hc
      exact ⟨false, rfl, fun _ h => absurd h hc⟩

theorem all_mask {m : Nat} (h : m ≤ 6) : ¬ (IntKind.wrap .u64 ((bshl .u64 (1 : Int) (m : Int)) - (1 : Int)) < 0) ∧ IntKind.wrap .u64 ((bshl .u64 (bshl .u64 (1 : Int) (IntKind.wrap .u64 ((bshl .u64 (1 : Int) (m : Int)) - (1 : Int)))) (1 : Int)) - (1 : Int)) = maskM m := by
  have : m = 0 ∨ m = 1 ∨ m = 2 ∨ m = 3 ∨ m = 4 ∨ m = 5 ∨ m = 6 := by omega
  rcases this with h | h | h | h | h | h | h <;> subst h <;> exact ⟨by decide, by decide⟩

theorem apart.loop1 {ok : Bool} {a : Int} {o : List Int} (hn : o.length ≤ 100000) (i : Nat) (hi : i < o.length) (hap : ∀ j, j < i → o.getD i 0 ≠ o.getD j 0 ∧ o.getD i 0 ≠ bxor .u64 (o.getD j 0) a) : ∀ (n k : Nat), k + n = i →
    spiritlevellaw29_SweepAll.l1 ok a (i : Int) (k : Int) o = spiritlevellaw29_SweepAll.l0 ok a ((i + 1 : Nat) : Int) o
  | 0, k, hk => by
    have hw : IntKind.wrap .i64 ((i : Int) + 1) = ((i + 1 : Nat) : Int) := by rw [wr] <;> omega
    rw [spiritlevellaw29_SweepAll.l1_eq, cd, if_neg (by omega), hw]
  | n + 1, k, hk => by
    have hk2 : k < o.length := by omega
    have hw : IntKind.wrap .i64 ((k : Int) + 1) = ((k + 1 : Nat) : Int) := by rw [wr] <;> omega
    obtain ⟨h1, h2⟩ := hap k (by omega)
    simp only [List.getD_eq_getElem?_getD, List.getElem?_eq_getElem hi, List.getElem?_eq_getElem hk2, Option.getD_some] at h1 h2
    obtain ⟨a1, a2⟩ := rg hi
    obtain ⟨b1, b2⟩ := rg hk2
    rw [spiritlevellaw29_SweepAll.l1_eq, cd, if_pos (by omega), a1, Option.bind_some, a2, Option.bind_some, b1, Option.bind_some, b2, Option.bind_some, ce, if_neg h1, Option.bind_some, Option.bind_some, Option.bind_some, Option.bind_some, ce, if_neg h2, hw]
    exact apart.loop1 hn i hi hap n (k + 1) (by omega)

theorem apart.loop0 {ok : Bool} {a : Int} {o : List Int} (hn : o.length ≤ 100000) {g : Nat} (hap : ∀ i, g ≤ i → i < o.length → ∀ j, j < i → o.getD i 0 ≠ o.getD j 0 ∧ o.getD i 0 ≠ bxor .u64 (o.getD j 0) a) : ∀ (n i : Nat), g ≤ i → i + n = o.length →
    spiritlevellaw29_SweepAll.l0 ok a (i : Int) o = some ok
  | 0, i, hg, hi => by rw [spiritlevellaw29_SweepAll.l0_eq, cd, if_neg (by omega)]
  | n + 1, i, hg, hi => by
    have := apart.loop1 (ok := ok) hn i (by omega) (hap i hg (by omega)) i 0 (by omega)
    rw [spiritlevellaw29_SweepAll.l0_eq, cd, if_pos (by omega), show (0 : Int) = ((0 : Nat) : Int) from rfl, this]
    exact apart.loop0 hn hap n (i + 1) (by omega) (by omega)
end

theorem SweepAll_pure (c : Int × List (Int × Int) × List (Int × Int) × List Int × List Int) (hc : okD TC c) : spiritlevellaw29_SweepAll c.1 c.2.1 c.2.2.1 c.2.2.2.1 c.2.2.2.2 = some true := by
  have h := okTC hc
  obtain ⟨I, Ls, As, Bs, Cs⟩ := c
  dsimp only at h ⊢
  obtain ⟨b, hb, _⟩ := great_some h
  rw [spiritlevellaw29_SweepAll.eq, alive_eq, Option.bind_some, hb, Option.bind_some]
  cases b with
  | true => rfl
  | false =>
    rw [cf, ref02_Check_eq h, Option.bind_some, cn]
    by_cases c0 : checkG I Ls As Bs Cs = 0
    · obtain ⟨k1, ⟨k2, k3, k4, k5⟩, _⟩ := checkG_zero c0
      have w1 : IntKind.wrap .i64 (I + (Ls.length : Int)) = I + (Ls.length : Int) := by rw [wr] <;> omega
      rw [if_pos c0, w1, cd]
      by_cases h6 : I + (Ls.length : Int) > 6
      · rw [if_pos h6]
      · rw [if_neg h6, Bool.not_true, cf]
        obtain ⟨m, hm⟩ : ∃ m : Nat, I + (Ls.length : Int) = m := ⟨(I + (Ls.length : Int)).toNat, by omega⟩
        have hm6 : m ≤ 6 := by omega
        obtain ⟨g, hG, hg, hgv⟩ := given_few h c0 (b := 0) (by omega) (by omega)
        rw [show (I + (Ls.length : Int)).toNat = m by omega] at hgv
        obtain ⟨h', hc', hf⟩ := built_ok h c0 hg
        have hll : (bLs I Ls As g).length = Ls.length := by rw [List.length_map]
        have hap := swept_apart h c0 hg hm hm6 hgv
        have hgg : gateN I (bLs I Ls As g) = gateN I Ls := by unfold gateN; rw [hll]
        have hagain := pass_again h' hc' (by rw [hll]; omega) (fun i i1 i2 j hj => by
          rw [hll, show (I + (Ls.length : Int)).toNat = m by omega]
          rw [hgg] at i1 i2
          exact hap i i1 i2 j hj)
        obtain ⟨m', hm', t1, t2, t3, t4, t5, t6, t7, t8⟩ := sigC_spec hc'
        rw [hll] at hm'
        obtain rfl : m' = m := by omega
        obtain ⟨o1, o2⟩ := mask_ok m'
        obtain ⟨am1, am2⟩ := all_mask hm6
        have n1 := h'.ls.1
        have hsame := same_refl (I := I) (Ls := bLs I Ls As g) (As := bAs I Ls As g) (Bs := bL I Ls As g Bs) (Cs := bL I Ls As g Cs) (by rw [hll]; omega) (by omega) (by rw [List.length_map]; omega) (by rw [List.length_map]; omega)
        have w2 : IntKind.wrap .i64 ((m' : Int) + ((bAs I Ls As g).length : Int)) = ((m' + (bAs I Ls As g).length : Nat) : Int) := by rw [wr] <;> omega
        have w3 : IntKind.wrap .i64 (((m' + (bAs I Ls As g).length : Nat) : Int) + 1) = ((m' + (bAs I Ls As g).length + 1 : Nat) : Int) := by rw [wr] <;> omega
        have w4 : IntKind.wrap .i64 ((m' : Int) + 1) = ((m' + 1 : Nat) : Int) := by rw [wr] <;> omega
        rw [sweep_Pass_eq h c0 (b := 0) (by omega) hg hG, Option.bind_some]
        dsimp only
        rw [cn, if_pos rfl, cn, if_pos rfl, cn, if_pos (by rw [hll]), signatures_is h' hc', Option.bind_some, hagain, Option.bind_some]
        dsimp only
        rw [cn, if_pos rfl, cn, if_pos rfl, hsame, Option.bind_some, Bool.not_true, cf, hm, w2, w3, cn, if_pos (by rw [t6]; omega), cd, if_neg (by omega), cd, if_neg am1, am2, w4]
        refine apart.loop0 (o := sigC I (bLs I Ls As g) (bAs I Ls As g)) (by rw [t6]; omega) (g := m' + 1) (fun i i1 i2 j hj => ?_) (bAs I Ls As g).length (m' + 1) (Nat.le_refl _) (by rw [t6])
        have inS : ∀ v, v < (sigC I (bLs I Ls As g) (bAs I Ls As g)).length → inM (maskM m') ((sigC I (bLs I Ls As g) (bAs I Ls As g)).getD v 0) := fun v hv => by
          rw [List.getD_eq_getElem?_getD, List.getElem?_eq_getElem hv]
          exact t8 _ (List.getElem_mem _)
        have := hap i (by omega) (by omega) j hj
        refine ⟨fun e => this (by rw [e]), fun e => this ?_⟩
        exact ((form_same (inS i i2) (inS j (by omega)) o1 o2).2 (.inr e)).symm
    · rw [if_neg c0]

end Go.Proofs.YtjkoadoekaplpaaGreat
