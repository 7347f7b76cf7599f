/- Sweeping by all values, of plain values: SweepAll. -/
import Derived.Test.YtjkoadoekaplpaaGreatPX4
namespace Go.Proofs.YtjkoadoekaplpaaGreat
open Go Go.Proofs.YtjkoadoekaplpaaGreat.R
set_option linter.unusedVariables false
set_option linter.unusedSimpArgs false

theorem rg {α : Type} {l : List α} {i : Nat} (h : i < l.length) : geti l (i : Int) = some l[i] ∧ l[Int.toNat (i : Int)]? = some l[i] := ⟨by rw [gsome h], by rw [Int.toNat_natCast, List.getElem?_eq_getElem h]⟩

theorem sameInts.loop {a : List Int} (hn : a.length ≤ 100000) : ∀ (n i : Nat), i + n = a.length → spiritlevelref02_SameInts.l0 a a (i : Int) = some true
  | 0, i, hi => by rw [spiritlevelref02_SameInts.l0_eq, cd, if_neg (by omega)]
  | n + 1, i, hi => by
    have hlt : i < a.length := by omega
    have hw : IntKind.wrap .i64 ((i : Int) + 1) = ((i + 1 : Nat) : Int) := by rw [wr] <;> omega
    rw [spiritlevelref02_SameInts.l0_eq, cd, if_pos (by omega), gsome hlt, Option.bind_some, Option.bind_some, cn, if_pos rfl, hw, sameInts.loop hn n (i + 1) (by omega)]

theorem sameInts_refl {a : List Int} (hn : a.length ≤ 100000) : spiritlevelref02_SameInts a a = some true := by
  rw [spiritlevelref02_SameInts.eq, cn, if_pos rfl]
  exact sameInts.loop hn a.length 0 (by omega)

section
variable {I : Int} {Ls As : List (Int × Int)} {Bs Cs : List Int}

theorem pairs_same (x : Int × Int) : (!(x.1 == x.1 && x.2 == x.2)) = false := by simp

theorem same.loop1 (hn : As.length ≤ 100000) : ∀ (n i : Nat), i + n = As.length → spiritlevelref02_Same.l1 (i : Int) I Ls As Bs Cs I Ls As Bs Cs = some true
  | 0, i, hi => by rw [spiritlevelref02_Same.l1_eq, cd, if_neg (by omega)]
  | n + 1, i, hi => by
    have hlt : i < As.length := by omega
    have hw : IntKind.wrap .i64 ((i : Int) + 1) = ((i + 1 : Nat) : Int) := by rw [wr] <;> omega
    rw [spiritlevelref02_Same.l1_eq, cd, if_pos (by omega), gsome hlt, Option.bind_some, Option.bind_some, pairs_same, cf, hw, same.loop1 hn n (i + 1) (by omega)]

theorem same.loop0 (hn : Ls.length ≤ 100000) (hm : As.length ≤ 100000) : ∀ (n i : Nat), i + n = Ls.length → spiritlevelref02_Same.l0 (i : Int) I Ls As Bs Cs I Ls As Bs Cs = some true
  | 0, i, hi => by rw [spiritlevelref02_Same.l0_eq, cd, if_neg (by omega)]; exact same.loop1 hm As.length 0 (by omega)
  | n + 1, i, hi => by
    have hlt : i < Ls.length := by omega
    have hw : IntKind.wrap .i64 ((i : Int) + 1) = ((i + 1 : Nat) : Int) := by rw [wr] <;> omega
    rw [spiritlevelref02_Same.l0_eq, cd, if_pos (by omega), gsome hlt, Option.bind_some, Option.bind_some, pairs_same, cf, hw, same.loop0 hn hm n (i + 1) (by omega)]

theorem same_refl (h1 : Ls.length ≤ 100000) (h2 : As.length ≤ 100000) (h3 : Bs.length ≤ 100000) (h4 : Cs.length ≤ 100000) : spiritlevelref02_Same I Ls As Bs Cs I Ls As Bs Cs = some true := by
  rw [spiritlevelref02_Same.eq, cn, if_pos rfl, cn, if_pos rfl, cn, if_pos rfl, sameInts_refl h3, Option.bind_some, Bool.not_true, cf, sameInts_refl h4, Option.bind_some, Bool.not_true, cf]
  exact same.loop0 h1 h2 Ls.length 0 (by omega)

theorem andS_word {a : Int} {s : List Int} {X : LP} {gate : Nat} (hs : ∀ x ∈ s, inM a x) (hz : s.getD 0 0 = 0) {x y v : Int} (hx : 0 ≤ x ∧ (x / 2).toNat < s.length) (hy : 0 ≤ y ∧ (y / 2).toNat < s.length) (hv : (v / 2).toNat < s.length) (h : andS x y = some v) : band .u64 (wordF a s x) (wordF a s y) = wordF a s v := by
  refine word_ext ((inM.lit hs hx.2).band (inM.lit hs hy.2)) (inM.lit hs hv) fun i hi ha => ?_
  rw [bit_band, bit_word ha, bit_word ha, bit_word ha]
  exact (andS_val (by unfold bitF; rw [hz, U0]) hx.1 hy.1 h).symm

theorem andS_of {x y v : Int} (hx : 0 ≤ x) (hy : 0 ≤ y) (h : andS x y = some v) : v = 0 ∨ v = y ∨ v = x := by
  unfold andS at h
  split at h
  · cases h; exact .inl rfl
  · split at h
    · cases h; exact .inr (.inl rfl)
    · split at h
      · cases h; exact .inr (.inr rfl)
      · cases h

/-- Sweeping again changes nothing. -/
theorem pass_again (h : Sized I Ls As Bs Cs) (hc : checkG I Ls As Bs Cs = 0) (h6 : I + (Ls.length : Int) ≤ 6)
    (hap : ∀ i, gateN I Ls ≤ i → i < gateN I Ls + As.length → ∀ j, j < i → formI (maskM (I + (Ls.length : Int)).toNat) ((sigC I Ls As).getD j 0) ≠ formI (maskM (I + (Ls.length : Int)).toNat) ((sigC I Ls As).getD i 0)) :
    sweep_Pass I Ls As Bs Cs 0 = some (((I, Ls, As, Bs, Cs), (identF I Ls).1), 0) := by
  obtain ⟨m, hm, s1, s2, s3, s4, s5, s6, s7, s8⟩ := sigC_spec hc
  obtain ⟨k1, ⟨k2, k3, k4, k5⟩, c1, c2, c3, ho⟩ := checkG_zero hc
  obtain ⟨o1, o2⟩ := mask_ok m
  obtain ⟨g, hG, hg, hgv⟩ := given_few h hc (b := 0) (by omega) h6
  have em : (I + (Ls.length : Int)).toNat = m := by omega
  rw [em] at hap hgv
  have hl := hg.1
  have gl : g.length = m + 1 + As.length := by unfold size at hl; omega
  have hneg : ∀ v, v < g.length → g.getD v 0 < 0 := fun v hv => by
    rcases hgv v hv with ⟨_, h1⟩ | ⟨_, _, h1⟩ | ⟨hge, u, u1, u2, _⟩
    · omega
    · omega
    · exact absurd u2 (hap v hge (by omega) u u1)
  obtain ⟨_, hK⟩ := buildB_of h hc hg
  have z : (sigC I Ls As).getD 0 0 = 0 := by
    have z : ∀ k, (inL m k).getD 0 0 = 0 := fun k => by
      induction k with
      | zero => rfl
      | succ k ih => show (inL m k ++ [inp m k]).getD 0 0 = 0; rw [getD_snoc, inL_len, if_pos (by omega)]; exact ih
    rw [pre_getD s5 (by rw [inL_len]; omega)]
    exact z m
  obtain ⟨_, _, _, sg⟩ := sigs_spec As (m + 1) (inL m m) (inL_len m m) (inL_in m (Nat.le_refl _)) s4
  rw [← s3] at sg
  have inS : ∀ v, v < m + 1 + As.length → inM (maskM m) ((sigC I Ls As).getD v 0) := fun v hv => by
    rw [List.getD_eq_getElem?_getD, List.getElem?_eq_getElem (by rw [s6]; exact hv)]
    exact s8 _ (List.getElem_mem _)
  have hA : ∀ (k : Nat) (p : Int × Int), As[k]? = some p → andS p.1 p.2 = none ∧ ∀ (j : Nat) (q : Int × Int), j < k → As[j]? = some q → q ≠ p := fun k p hp => by
    have hk : k < As.length := (List.getElem?_eq_some_iff.1 hp).1
    obtain ⟨q0, q1, q2⟩ := hK.gates k p hp
    constructor
    · cases hs : andS p.1 p.2 with
      | none => rfl
      | some v =>
        exfalso
        have hv : (v / 2).toNat < m + 1 + k := by
          rcases andS_of (by omega) q0 hs with rfl | rfl | rfl
          · show 0 < m + 1 + k; omega
          · omega
          · omega
        have hb := andS_word (a := maskM m) (X := As) (gate := m + 1) s8 z ⟨by omega, by rw [s6]; omega⟩ ⟨q0, by rw [s6]; omega⟩ (by rw [s6]; omega) hs
        rw [← sg k p hp] at hb
        refine hap (m + 1 + k) (by omega) (by omega) (v / 2).toNat hv ?_
        refine (form_same (inS _ (by omega)) (inS _ (by omega)) o1 o2).2 ?_
        unfold wordF at hb
        by_cases hodd : v % 2 = 1
        · rw [if_pos hodd] at hb
          rw [hb, bxor_back (inS _ (by omega)) o2]
          exact .inr rfl
        · rw [if_neg hodd] at hb
          exact .inl hb.symm
    · intro j q hj hq e
      subst e
      refine hap (m + 1 + k) (by omega) (by omega) (m + 1 + j) (by omega) ?_
      rw [sg k q hp, sg j q hq]
  obtain ⟨b1, b2⟩ := build_same hK hneg hA g.length (Nat.le_refl _)
  have eA : bAs I Ls As g = As := by
    have : bld (gateN I Ls) As g g.length = As := by rw [b2, List.take_of_length_le (by omega)]
    exact this
  have eT : ∀ x, litN (size I Ls As) x → atT (bT I Ls As g) x = x := fun x hx => by
    have h1 : (bT I Ls As g).getD (x / 2).toNat 0 = 2 * ((x / 2).toNat : Int) := b1 _ (by unfold litN at hx; omega)
    unfold litN at hx
    unfold atT
    rw [h1]
    unfold negBy
    split
    · omega
    · unfold negI; rw [if_pos (by omega)]; omega
  have eB : ∀ L : List Int, (∀ x ∈ L, litN (size I Ls As) x) → bL I Ls As g L = L := fun L hL => (List.map_congr_left fun x hx => eT x (hL x hx)).trans (List.map_id' L)
  have eL : bLs I Ls As g = Ls := (List.map_congr_left (f := fun x : Int × Int => (atT (bT I Ls As g) x.1, x.2)) (g := fun x => x) fun x hx => by
    show (atT (bT I Ls As g) x.1, x.2) = x
    rw [eT x.1 (c3 x hx).1]).trans (List.map_id' Ls)
  have := sweep_Pass_eq h hc (b := 0) (by omega) hg hG
  rw [eL, eA, eB Bs c1, eB Cs c2] at this
  exact this
end
end Go.Proofs.YtjkoadoekaplpaaGreat
