/- Sweeping, of plain values: circuits that are built; SweepAll. -/
import Derived.Test.YtjkoadoekaplpaaGreatPX3
namespace Go.Proofs.YtjkoadoekaplpaaGreat
open Go Go.Proofs.YtjkoadoekaplpaaGreat.R
set_option linter.unusedVariables false
set_option linter.unusedSimpArgs false

theorem mask_ok (m : Nat) : odd0 (maskM m) = true ∧ w64 (maskM m) := by
  by_cases h : 6 ≤ m
  · unfold maskM
    rw [if_pos h]
    exact ⟨by decide, by decide⟩
  · have : m = 0 ∨ m = 1 ∨ m = 2 ∨ m = 3 ∨ m = 4 ∨ m = 5 := by omega
    rcases this with h | h | h | h | h | h <;> subst h <;> exact ⟨by decide, by decide⟩

section
variable {I : Int} {Ls As : List (Int × Int)} {Bs Cs : List Int}

abbrev bT (I : Int) (Ls As : LP) (g : List Int) : List Int := (buildR I Ls As g).1
abbrev bLs (I : Int) (Ls As : LP) (g : List Int) : LP := Ls.map fun x => (atT (bT I Ls As g) x.1, x.2)
abbrev bAs (I : Int) (Ls As : LP) (g : List Int) : LP := (buildR I Ls As g).2
abbrev bL (I : Int) (Ls As : LP) (g : List Int) (l : List Int) : List Int := l.map (atT (bT I Ls As g))

theorem atT_lit {t : List Int} {x : Int} {n : Nat} (h : 0 ≤ t.getD (x / 2).toNat 0 ∧ t.getD (x / 2).toNat 0 / 2 < (n : Int)) : 0 ≤ atT t x ∧ atT t x / 2 < (n : Int) := by
  unfold atT negBy
  split
  · exact h
  · unfold negI
    split <;> omega

theorem built_lit (h : Sized I Ls As Bs Cs) (hc : checkG I Ls As Bs Cs = 0) {g : List Int} (hg : givOk I Ls As g) {x : Int} (hx : litN (size I Ls As) x) : litN (size I (bLs I Ls As g) (bAs I Ls As g)) (atT (bT I Ls As g) x) := by
  obtain ⟨k1, _⟩ := checkG_zero hc
  obtain ⟨_, hK⟩ := buildB_of h hc hg
  have hl := hg.1
  have := atT_lit (x := x) ((build_lit hK g.length (Nat.le_refl _)).1 (x / 2).toNat (by unfold litN at hx; omega))
  have hgate : ((gateN I Ls : Nat) : Int) = 1 + I + Ls.length := by unfold gateN; omega
  refine ⟨this.1, ?_⟩
  have h2 : atT (bT I Ls As g) x / 2 < ((gateN I Ls + (bAs I Ls As g).length : Nat) : Int) := this.2
  unfold size
  rw [List.length_map]
  omega

theorem built_ok (h : Sized I Ls As Bs Cs) (hc : checkG I Ls As Bs Cs = 0) {g : List Int} (hg : givOk I Ls As g) :
    Sized I (bLs I Ls As g) (bAs I Ls As g) (bL I Ls As g Bs) (bL I Ls As g Cs) ∧ checkG I (bLs I Ls As g) (bAs I Ls As g) (bL I Ls As g Bs) (bL I Ls As g Cs) = 0 ∧ (bAs I Ls As g).length ≤ As.length := by
  obtain ⟨k1, ⟨k2, k3, k4, k5⟩, c1, c2, c3, ho⟩ := checkG_zero hc
  obtain ⟨_, hK⟩ := buildB_of h hc hg
  have hfew : (bAs I Ls As g).length ≤ As.length := build_few hK
  have hgate : ((gateN I Ls : Nat) : Int) = 1 + I + Ls.length := by unfold gateN; omega
  have hsz : size I (bLs I Ls As g) (bAs I Ls As g) ≤ 1000 := by unfold size; rw [List.length_map]; omega
  have hlit : ∀ x, litN (size I Ls As) x → litN (size I (bLs I Ls As g) (bAs I Ls As g)) (atT (bT I Ls As g) x) := fun x hx => built_lit h hc hg hx
  have hgates := (build_lit hK g.length (Nat.le_refl _)).2
  have in_of : ∀ x, litN (size I (bLs I Ls As g) (bAs I Ls As g)) x → in64 x := fun x hx => by unfold litN at hx; unfold in64; omega
  have d1 : ∀ x ∈ bL I Ls As g Bs, litN (size I (bLs I Ls As g) (bAs I Ls As g)) x := fun x hx => by obtain ⟨y, hy, rfl⟩ := List.mem_map.1 hx; exact hlit y (c1 y hy)
  have d2 : ∀ x ∈ bL I Ls As g Cs, litN (size I (bLs I Ls As g) (bAs I Ls As g)) x := fun x hx => by obtain ⟨y, hy, rfl⟩ := List.mem_map.1 hx; exact hlit y (c2 y hy)
  have d3 : ∀ x ∈ bLs I Ls As g, latN (size I (bLs I Ls As g) (bAs I Ls As g)) x := fun x hx => by obtain ⟨y, hy, rfl⟩ := List.mem_map.1 hx; exact ⟨hlit y.1 (c3 y hy).1, (c3 y hy).2⟩
  have d4 : okG (1 + I + ((bLs I Ls As g).length : Int)) (bAs I Ls As g) = true := by
    rw [List.length_map, ← hgate]
    have := okG_of (g := ((gateN I Ls : Nat) : Int)) (bAs I Ls As g) 0 (fun j p hp => by have := hgates j p hp; rw [Nat.zero_add]; push_cast at this; exact ⟨this.1, by omega, this.2.2⟩)
    simpa using this
  refine ⟨⟨h.i, ⟨by rw [List.length_map]; omega, fun x hx => ⟨in_of _ (d3 x hx).1, by have := (d3 x hx).2; unfold in64; omega⟩⟩, ⟨by omega, fun x hx => ?_⟩, ⟨by rw [List.length_map]; omega, fun x hx => in_of _ (d1 x hx)⟩, ⟨by rw [List.length_map]; omega, fun x hx => in_of _ (d2 x hx)⟩⟩, ?_, hfew⟩
  · obtain ⟨k, hk⟩ := List.getElem?_of_mem hx
    have := hgates k x hk
    have hk2 : k < (bAs I Ls As g).length := (List.getElem?_eq_some_iff.1 hk).1
    unfold in64
    omega
  · unfold checkG
    rw [if_neg (by omega), if_pos ⟨k2, by rw [List.length_map]; omega, by rw [List.length_map]; exact k4, by rw [List.length_map]; exact k5⟩, if_pos ⟨d1, d2, d3, d4⟩]

theorem sweep_Pass_eq (h : Sized I Ls As Bs Cs) (hc : checkG I Ls As Bs Cs = 0) {b : Int} (hb : 0 ≤ b ∧ b ≤ 100000) {g : List Int} (hg : givOk I Ls As g) (hG : sweep_Given I Ls As Bs Cs b = some (g, 0)) :
    sweep_Pass I Ls As Bs Cs b = some (((I, bLs I Ls As g, bAs I Ls As g, bL I Ls As g Bs, bL I Ls As g Cs), (identF I (bLs I Ls As g)).1), 0) := by
  obtain ⟨h', hc', hf⟩ := built_ok h hc hg
  have n1 := h'.ls.1; have n2 := h'.as_.1; have n3 := h'.bs.1; have n4 := h'.cs.1
  have e : hash_Build I Ls As Bs Cs g = some ((I, bLs I Ls As g, bAs I Ls As g, bL I Ls As g Bs, bL I Ls As g Cs), bT I Ls As g, 0) := hash_Build_eq h hc hg
  obtain ⟨_, ⟨_, f1, f2, f3⟩, _⟩ := checkG_zero hc'
  obtain ⟨q1, _⟩ := checkG_zero hc
  rw [sweep_Pass.eq, gates_Check_eq h, Option.bind_some, hc, cn, if_pos rfl, cd, if_neg (by omega), cd, if_neg (by omega), hG, Option.bind_some]
  dsimp only
  rw [ce, if_pos rfl, e, Option.bind_some]
  dsimp only
  rw [lift_Identity_eq h' hc', Option.bind_some, app_ok (by simp only [List.length_nil]; omega), Option.bind_some, app_ok (by simp only [List.length_nil]; omega), Option.bind_some, app_ok (by simp only [List.length_nil]; omega), Option.bind_some, app_ok (by simp only [List.length_nil]; omega), Option.bind_some]
  rfl

/-- What is given, when all values are looked at. -/
theorem given_few (h : Sized I Ls As Bs Cs) (hc : checkG I Ls As Bs Cs = 0) {b : Int} (hb : 0 ≤ b ∧ b ≤ 100000) (h6 : I + (Ls.length : Int) ≤ 6) : ∃ st, sweep_Given I Ls As Bs Cs b = some (st, 0) ∧ givOk I Ls As st ∧
    ∀ v, v < st.length → Gv (maskM (I + (Ls.length : Int)).toNat) (gateN I Ls) (nvC I Ls As Bs Cs b) (sigC I Ls As) v (st.getD v 0) := by
  obtain ⟨m, hm, s1, s2, s3, s4, s5, s6, s7, s8⟩ := sigC_spec hc
  obtain ⟨k1, _⟩ := checkG_zero hc
  obtain ⟨st, hst⟩ := runG_few (all := maskM m) (nv := nvC I Ls As Bs Cs b) (s := sigC I Ls As) (gate := gateN I Ls) (by omega) (sigC I Ls As).length
  have hi := runG_inv _ _ hst
  refine ⟨st.1, by rw [sweep_Given_eq h hc hb hm, hst]; rfl, ⟨by rw [hi.len, s6]; unfold size; omega, fun v x hx => ?_⟩, fun v hv => ?_⟩
  · have hv : v < st.1.length := (List.getElem?_eq_some_iff.1 hx).1
    have := (hi.giv v (by rw [← hi.len]; exact hv)).bound
    rw [List.getD_eq_getElem?_getD, hx, Option.getD_some] at this
    exact ⟨this.1, this.2.1, fun h0 => by have := this.2.2 h0; omega⟩
  · have e : (I + (Ls.length : Int)).toNat = m := by omega
    rw [e]
    exact hi.giv v (by rw [← hi.len]; exact hv)

theorem sig_low {m : Nat} {X : LP} {v : Nat} (hv : v < m + 1) (hp : inL m m <+: sigs (maskM m) (inL m m) X) : (sigs (maskM m) (inL m m) X).getD v 0 = (inL m m).getD v 0 := pre_getD hp (by rw [inL_len]; exact hv)

/-- The signatures of what is built. -/
theorem built_sig (h : Sized I Ls As Bs Cs) (hc : checkG I Ls As Bs Cs = 0) {g : List Int} (hg : givOk I Ls As g) (hs : ∀ v, v < g.length → 0 ≤ g.getD v 0 → (sigC I Ls As).getD v 0 = wordF (maskM (I + (Ls.length : Int)).toNat) (sigC I Ls As) (g.getD v 0)) :
    (∀ v, v < gateN I Ls → (sigC I (bLs I Ls As g) (bAs I Ls As g)).getD v 0 = (sigC I Ls As).getD v 0) ∧
    ∀ k, k < (bAs I Ls As g).length → ∃ v, gateN I Ls ≤ v ∧ v < g.length ∧ g.getD v 0 < 0 ∧ (bT I Ls As g).getD v 0 = 2 * ((gateN I Ls + k : Nat) : Int) ∧ (sigC I (bLs I Ls As g) (bAs I Ls As g)).getD (gateN I Ls + k) 0 = (sigC I Ls As).getD v 0 := by
  obtain ⟨m, hm, s1, s2, s3, s4, s5, s6, s7, s8⟩ := sigC_spec hc
  obtain ⟨h', hc', hf⟩ := built_ok h hc hg
  obtain ⟨m', hm', t1, t2, t3, t4, t5, t6, t7, t8⟩ := sigC_spec hc'
  rw [List.length_map] at hm'
  obtain rfl : m' = m := by omega
  obtain ⟨_, hK⟩ := buildB_of h hc hg
  have hlen := hK.len
  have hl := hg.1
  rw [show (I + (Ls.length : Int)).toNat = m' by omega] at hs
  have low : ∀ v, v < gateN I Ls → (sigC I (bLs I Ls As g) (bAs I Ls As g)).getD v 0 = (sigC I Ls As).getD v 0 := fun v hv => by
    rw [t3, s3, sig_low (by omega) (by rw [← t3]; exact t5), sig_low (by omega) (by rw [← s3]; exact s5)]
  refine ⟨low, fun k hk => ?_⟩
  obtain ⟨v, v1, v2, v3, v4⟩ := build_from hK g.length (Nat.le_refl _) k hk
  refine ⟨v, v1, v2, v3, v4, ?_⟩
  have e1 : inM (maskM m') ((sigC I (bLs I Ls As g) (bAs I Ls As g)).getD (gateN I Ls + k) 0) := by
    have : gateN I Ls + k < (sigC I (bLs I Ls As g) (bAs I Ls As g)).length := by rw [t6, s2]; omega
    rw [List.getD_eq_getElem?_getD, List.getElem?_eq_getElem this]
    exact t8 _ (List.getElem_mem this)
  have e2 : inM (maskM m') ((sigC I Ls As).getD v 0) := by
    have : v < (sigC I Ls As).length := by rw [s6]; omega
    rw [List.getD_eq_getElem?_getD, List.getElem?_eq_getElem this]
    exact s8 _ (List.getElem_mem this)
  refine word_ext e1 e2 fun i hi ha => ?_
  have z : (inL m' m').getD 0 0 = 0 := by
    have : ∀ k, (inL m' k).getD 0 0 = 0 := fun k => by
      induction k with
      | zero => rfl
      | succ k ih => show (inL m' k ++ [inp m' k]).getD 0 0 = 0; rw [getD_snoc, inL_len, if_pos (by omega)]; exact ih
    exact this m'
  have A := sigs_Ag (i := i) (inL_len m' m') (by omega) z (inL_in m' (Nat.le_refl _)) s4 ha
  have A' := sigs_Ag (i := i) (inL_len m' m') (by omega) z (inL_in m' (Nat.le_refl _)) t4 ha
  rw [← s3, ← s2] at A
  rw [← t3, ← s2] at A'
  have hb := build_val hK A (val' := bitF (sigC I (bLs I Ls As g) (bAs I Ls As g)) i) (fun v hv h0 => by
      show (U ((sigC I Ls As).getD v 0)).getLsbD i = _
      rw [hs v hv h0, bit_word ha]) (fun u hu => by unfold bitF; rw [low u hu]) A' g.length (Nat.le_refl _) v v2
  have v4' : (tol (gateN I Ls) As g g.length).getD v 0 = 2 * ((gateN I Ls + k : Nat) : Int) := v4
  rw [v4', lvF_even] at hb
  exact hb

/-- Gates behind sweeping by all values have signatures of their own. -/
theorem swept_apart (h : Sized I Ls As Bs Cs) (hc : checkG I Ls As Bs Cs = 0) {g : List Int} (hg : givOk I Ls As g) {m : Nat} (hm : I + (Ls.length : Int) = m) (h6 : m ≤ 6) {nv : Int → Int → Option (Bool × Int)}
    (hG : ∀ v, v < g.length → Gv (maskM m) (gateN I Ls) nv (sigC I Ls As) v (g.getD v 0)) :
    ∀ i, gateN I Ls ≤ i → i < gateN I Ls + (bAs I Ls As g).length → ∀ j, j < i → formI (maskM m) ((sigC I (bLs I Ls As g) (bAs I Ls As g)).getD j 0) ≠ formI (maskM m) ((sigC I (bLs I Ls As g) (bAs I Ls As g)).getD i 0) := by
  obtain ⟨m', hm', s1, s2, s3, s4, s5, s6, s7, s8⟩ := sigC_spec hc
  obtain rfl : m' = m := by omega
  obtain ⟨o1, o2⟩ := mask_ok m'
  have hl := hg.1
  have gl : g.length = (sigC I Ls As).length := by rw [s6]; unfold size at hl; omega
  have inS : ∀ v, v < g.length → inM (maskM m') ((sigC I Ls As).getD v 0) := fun v hv => by
    rw [List.getD_eq_getElem?_getD, List.getElem?_eq_getElem (by omega)]
    exact s8 _ (List.getElem_mem _)
  have free : ∀ v, gateN I Ls ≤ v → v < g.length → g.getD v 0 < 0 → ∀ u, u < v → formI (maskM m') ((sigC I Ls As).getD u 0) ≠ formI (maskM m') ((sigC I Ls As).getD v 0) := fun v v1 v2 v3 => by
    rcases hG v v2 with ⟨h1, _⟩ | ⟨_, h1, _⟩ | ⟨_, u, _, _, _, h2⟩
    · omega
    · exact h1
    · rcases h2 with ⟨_, h2⟩ | ⟨h2, _⟩
      · have := litG_bound (s := sigC I Ls As) (k := u) (x := (sigC I Ls As).getD v 0)
        omega
      · omega
  obtain ⟨low, hi⟩ := built_sig h hc hg (fun v hv h0 => by
    rw [show (I + (Ls.length : Int)).toNat = m' by omega]
    rcases hG v hv with ⟨_, h1⟩ | ⟨_, _, h1⟩ | ⟨_, u, u1, u2, _, h2⟩
    · omega
    · omega
    · rcases h2 with ⟨_, h2⟩ | ⟨h2, _⟩
      · rw [h2, litG_word (inS u (by omega)) (inS v hv) o1 o2 u2]
      · omega)
  intro i i1 i2 j hj
  obtain ⟨k, rfl⟩ : ∃ k, i = gateN I Ls + k := ⟨i - gateN I Ls, by omega⟩
  obtain ⟨v, v1, v2, v3, v4, v5⟩ := hi k (by omega)
  rw [v5]
  by_cases hjg : j < gateN I Ls
  · rw [low j hjg]
    exact free v v1 v2 v3 j (by omega)
  · obtain ⟨k', rfl⟩ : ∃ k', j = gateN I Ls + k' := ⟨j - gateN I Ls, by omega⟩
    obtain ⟨v', w1, w2, w3, w4, w5⟩ := hi k' (by omega)
    rw [w5]
    have hne : v' ≠ v := fun e => by rw [e, v4] at w4; omega
    rcases Nat.lt_or_ge v' v with hlt | hge
    · exact free v v1 v2 v3 v' hlt
    · exact fun e => free v' w1 w2 w3 v (by omega) e.symm
end

/-- A circuit whose gates are all needed is built as it is. -/
theorem build_same {gate N : Nat} {As : LP} {g : List Int} (hK : BOk N gate As g) (hg : ∀ v, v < N → g.getD v 0 < 0) (hA : ∀ (k : Nat) (p : Int × Int), As[k]? = some p → andS p.1 p.2 = none ∧ ∀ (j : Nat) (q : Int × Int), j < k → As[j]? = some q → q ≠ p) :
    ∀ n, n ≤ N → (∀ v, v < n → (tol gate As g n).getD v 0 = 2 * (v : Int)) ∧ bld gate As g n = As.take (n - gate) := by
  intro n
  induction n with
  | zero => intro _; exact ⟨fun v h => by omega, by simp [bld, runB]⟩
  | succ n ih =>
    intro hn
    obtain ⟨ih1, ih2⟩ := ih (by omega)
    have hlen : (tol gate As g n).length = n := runB_len _ _ _ _ n
    have hat : ∀ x : Int, 0 ≤ x → x / 2 < (n : Int) → atT (tol gate As g n) x = x := fun x h0 h1 => by
      unfold atT
      rw [ih1 _ (by omega)]
      unfold negBy
      split
      · omega
      · unfold negI; rw [if_pos (by omega)]; omega
    have snoc : ∀ x : Int, x = 2 * (n : Int) → ∀ v, v < n + 1 → (tol gate As g n ++ [x]).getD v 0 = 2 * (v : Int) := fun x hx v hv => by
      rw [getD_snoc, hlen]
      by_cases e : v < n
      · rw [if_pos e]; exact ih1 v e
      · rw [if_neg e, if_pos (by omega), hx]; omega
    unfold tol bld at *
    simp only [runB, stepB]
    rw [runB_len, if_neg (by have := hg n (by omega); omega)]
    by_cases h2 : n < gate
    · rw [if_pos h2]
      refine ⟨snoc _ rfl, ?_⟩
      rw [ih2, show n - gate = 0 by omega, show n + 1 - gate = 0 by omega]
    · rw [if_neg h2]
      simp only
      have hk : n - gate < As.length := by have := hK.len; omega
      have hp : As[n - gate]? = some (As.getD (n - gate) (0, 0)) := by rw [List.getElem?_eq_getElem hk]; simp [List.getD, List.getElem?_eq_getElem hk]
      obtain ⟨q0, q1, q2⟩ := hK.gates _ _ hp
      obtain ⟨a1, a2⟩ := hA _ _ hp
      have e9 : (gate : Int) + ((n - gate : Nat) : Int) = n := by omega
      rw [e9] at q2
      generalize As.getD (n - gate) (0, 0) = p at hp q0 q1 q2 a1 a2 ⊢
      rw [hat p.1 (by omega) q2, hat p.2 q0 (by omega), ih2]
      have hmm : (max p.1 p.2, min p.1 p.2) = p := by rw [Int.max_eq_left q1, Int.min_eq_right q1]
      have hkn : knownF (2 * (gate : Int)) (As.take (n - gate)) p = none := by
        cases hkn : knownF (2 * (gate : Int)) (As.take (n - gate)) p with
        | none => rfl
        | some c =>
          obtain ⟨j, j1, _, j3⟩ := knownF_lt _ _ _ _ hkn
          rw [List.length_take] at j1
          rw [List.getElem?_take] at j3
          split at j3
          · exact absurd rfl (a2 j p (by omega) j3)
          · cases j3
      unfold andB
      rw [a1]
      simp only [hmm, hkn]
      have hlt : (As.take (n - gate)).length = n - gate := by rw [List.length_take]; omega
      refine ⟨snoc _ (by rw [hlt]; omega), ?_⟩
      rw [show n + 1 - gate = n - gate + 1 by omega, List.take_add_one, hp]
      rfl
end Go.Proofs.YtjkoadoekaplpaaGreat
