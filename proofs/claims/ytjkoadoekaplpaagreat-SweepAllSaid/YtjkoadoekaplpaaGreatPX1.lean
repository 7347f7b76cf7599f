/- What hash.Build builds, of plain values: its literals have the values of those before. -/
import Derived.Test.YtjkoadoekaplpaaGreatPC1
namespace Go.Proofs.YtjkoadoekaplpaaGreat
open Go Go.Proofs.YtjkoadoekaplpaaGreat.R
set_option linter.unusedVariables false
set_option linter.unusedSimpArgs false

/-- The value of a literal. -/
def lvF (val : Nat → Bool) (x : Int) : Bool := !(val (x / 2).toNat == decide (x % 2 = 1))

theorem lvF_even (val : Nat → Bool) (k : Nat) : lvF val (2 * (k : Int)) = val k := by
  unfold lvF
  have h1 : (2 * (k : Int) / 2).toNat = k := by omega
  have h2 : decide (2 * (k : Int) % 2 = 1) = false := decide_eq_false (by omega)
  rw [h1, h2]; cases val k <;> rfl

theorem lvF_odd (val : Nat → Bool) (k : Nat) : lvF val (2 * (k : Int) + 1) = !val k := by
  unfold lvF
  have h1 : ((2 * (k : Int) + 1) / 2).toNat = k := by omega
  have h2 : decide ((2 * (k : Int) + 1) % 2 = 1) = true := decide_eq_true (by omega)
  rw [h1, h2]; cases val k <;> rfl

theorem lit_cases {x : Int} (h : 0 ≤ x) : ∃ k : Nat, x = 2 * (k : Int) ∨ x = 2 * (k : Int) + 1 := ⟨(x / 2).toNat, by omega⟩

theorem negI_even (k : Nat) : negI (2 * (k : Int)) = 2 * (k : Int) + 1 := by unfold negI; rw [if_pos (by omega)]
theorem negI_odd (k : Nat) : negI (2 * (k : Int) + 1) = 2 * (k : Int) := by unfold negI; rw [if_neg (by omega)]; omega

theorem lvF_neg {val : Nat → Bool} {x : Int} (h : 0 ≤ x) : lvF val (negI x) = !lvF val x := by
  obtain ⟨k, rfl | rfl⟩ := lit_cases h
  · rw [negI_even, lvF_odd, lvF_even]
  · rw [negI_odd, lvF_even, lvF_odd, Bool.not_not]

theorem lvF_negBy {val : Nat → Bool} {t x : Int} (h : 0 ≤ t) : lvF val (negBy t x) = if x % 2 = 0 then lvF val t else !lvF val t := by
  unfold negBy
  split
  · rfl
  · exact lvF_neg h

theorem lvF_at {val val' : Nat → Bool} {t : List Int} {x : Int} (h0 : 0 ≤ x) (ht : 0 ≤ t.getD (x / 2).toNat 0) (h : lvF val' (t.getD (x / 2).toNat 0) = val (x / 2).toNat) : lvF val' (atT t x) = lvF val x := by
  unfold atT
  rw [lvF_negBy ht, h]
  obtain ⟨k, rfl | rfl⟩ := lit_cases h0
  · rw [if_pos (by omega), lvF_even]; congr 1; omega
  · rw [if_neg (by omega), lvF_odd]; congr 2; omega

theorem lvF_congr {val val' : Nat → Bool} {x : Int} (h : val (x / 2).toNat = val' (x / 2).toNat) : lvF val x = lvF val' x := by unfold lvF; rw [h]

/-- Gates agree with values. -/
def AgF (gate : Nat) (ands : LP) (val : Nat → Bool) : Prop := val 0 = false ∧ ∀ (k : Nat) (p : Int × Int), ands[k]? = some p → val (gate + k) = (lvF val p.1 && lvF val p.2)

theorem AgF.pre {gate : Nat} {a b : LP} {val : Nat → Bool} (h : AgF gate b val) (hp : a <+: b) : AgF gate a val := by
  obtain ⟨r, rfl⟩ := hp
  refine ⟨h.1, fun k p hk => h.2 k p ?_⟩
  rw [List.getElem?_append_left (List.getElem?_eq_some_iff.1 hk).1]
  exact hk

theorem andS_val {val : Nat → Bool} (hz : val 0 = false) {x y v : Int} (hx : 0 ≤ x) (hy : 0 ≤ y) (h : andS x y = some v) : lvF val v = (lvF val x && lvF val y) := by
  have z0 : lvF val 0 = false := by have := lvF_even val 0; rw [hz] at this; exact this
  have z1 : lvF val 1 = true := by have := lvF_odd val 0; rw [hz] at this; exact this
  unfold andS at h
  split at h
  · rename_i hc
    cases h
    rw [z0]
    rcases hc with rfl | rfl | rfl
    · rw [z0]; rfl
    · rw [z0, Bool.and_false]
    · rw [lvF_neg hy]; cases lvF val y <;> rfl
  · split at h
    · rename_i hc
      cases h
      rcases hc with rfl | rfl
      · rw [z1]; rfl
      · rw [Bool.and_self]
    · split at h
      · rename_i hc
        cases h; subst hc
        rw [z1, Bool.and_true]
      · cases h

theorem known_val {gate : Nat} {ands : LP} {val : Nat → Bool} (h : AgF gate ands val) {z : Int × Int} {c : Int} (hk : knownF (2 * (gate : Int)) ands z = some c) : lvF val c = (lvF val z.1 && lvF val z.2) := by
  obtain ⟨k, k1, rfl, k3⟩ := knownF_lt _ _ _ _ hk
  rw [show 2 * (gate : Int) + 2 * (k : Int) = 2 * ((gate + k : Nat) : Int) by omega, lvF_even]
  exact h.2 k z k3

theorem maxmin_val {val : Nat → Bool} (x y : Int) : (lvF val (max x y) && lvF val (min x y)) = (lvF val x && lvF val y) := by
  rcases Int.le_total x y with h | h
  · rw [Int.max_eq_right h, Int.min_eq_left h, Bool.and_comm]
  · rw [Int.max_eq_left h, Int.min_eq_right h]

theorem andB_pre (g : Int) (ands : LP) (x y : Int) : ands <+: (andB g ands x y).2 := by
  unfold andB
  cases andS x y with
  | some v => exact List.prefix_refl _
  | none =>
    cases knownF g ands (max x y, min x y) with
    | some c => exact List.prefix_refl _
    | none => exact List.prefix_append _ _

theorem andB_val {gate : Nat} {ands : LP} {val : Nat → Bool} {x y : Int} (hx : 0 ≤ x) (hy : 0 ≤ y) (h : AgF gate (andB (2 * (gate : Int)) ands x y).2 val) : lvF val (andB (2 * (gate : Int)) ands x y).1 = (lvF val x && lvF val y) := by
  unfold andB at h ⊢
  cases hs : andS x y with
  | some v => exact andS_val h.1 hx hy hs
  | none =>
    rw [hs] at h
    simp only at h ⊢
    cases hk : knownF (2 * (gate : Int)) ands (max x y, min x y) with
    | some c =>
      rw [hk] at h
      rw [known_val h hk]
      exact maxmin_val x y
    | none =>
      rw [hk] at h
      simp only at h ⊢
      rw [show 2 * (gate : Int) + 2 * (ands.length : Int) = 2 * ((gate + ands.length : Nat) : Int) by omega, lvF_even, h.2 ands.length (max x y, min x y) (by simp)]
      exact maxmin_val x y

section
variable {gate N : Nat} {As : LP} {g : List Int}

abbrev tol (gate : Nat) (As : LP) (g : List Int) (n : Nat) : List Int := (runB (2 * (gate : Int)) gate As g n).1
abbrev bld (gate : Nat) (As : LP) (g : List Int) (n : Nat) : LP := (runB (2 * (gate : Int)) gate As g n).2

theorem runB_pre1 (n : Nat) : ∃ x, tol gate As g (n + 1) = tol gate As g n ++ [x] := by
  unfold tol
  simp only [runB, stepB]
  split
  · exact ⟨_, rfl⟩
  · split
    · exact ⟨_, rfl⟩
    · exact ⟨_, rfl⟩

theorem runB_pre2 (n : Nat) : bld gate As g n <+: bld gate As g (n + 1) := by
  unfold bld
  simp only [runB, stepB]
  split
  · exact List.prefix_refl _
  · split
    · exact List.prefix_refl _
    · exact andB_pre _ _ _ _

theorem runB_preN {n m : Nat} (h : n ≤ m) : bld gate As g n <+: bld gate As g m ∧ tol gate As g n <+: tol gate As g m := by
  induction m with
  | zero => obtain rfl : n = 0 := by omega
            exact ⟨List.prefix_refl _, List.prefix_refl _⟩
  | succ m ih =>
    by_cases e : n = m + 1
    · subst e; exact ⟨List.prefix_refl _, List.prefix_refl _⟩
    · obtain ⟨h1, h2⟩ := ih (by omega)
      obtain ⟨x, hx⟩ := runB_pre1 (gate := gate) (As := As) (g := g) m
      exact ⟨h1.trans (runB_pre2 m), h2.trans (by rw [hx]; exact List.prefix_append _ _)⟩

theorem pre_getD {a b : List Int} (h : a <+: b) {k : Nat} (hk : k < a.length) : b.getD k 0 = a.getD k 0 := by
  obtain ⟨r, rfl⟩ := h
  simp only [List.getD_eq_getElem?_getD]
  rw [List.getElem?_append_left hk]

/-- Each literal that is told has its variable's value. -/
theorem build_val (hK : BOk N gate As g) {val val' : Nat → Bool} (hv : AgF gate As val) (hg : ∀ v, v < N → 0 ≤ g.getD v 0 → val v = lvF val (g.getD v 0)) (hlow : ∀ u, u < gate → val' u = val u) (hv' : AgF gate (bld gate As g N) val') :
    ∀ n, n ≤ N → ∀ v, v < n → lvF val' ((tol gate As g n).getD v 0) = val v := by
  intro n
  induction n with
  | zero => intro _ v hv; omega
  | succ n ih =>
    intro hn v hvn
    have htb := runB_tb hK n (by omega)
    have hlen : (tol gate As g n).length = n := runB_len _ _ _ _ n
    have ihn := ih (by omega)
    by_cases e : v < n
    · rw [pre_getD (runB_preN (by omega : n ≤ n + 1)).2 (by omega)]
      exact ihn v e
    · have ev : v = n := by omega
      subst ev
      have hat : ∀ x : Int, 0 ≤ x → x / 2 < (v : Int) → lvF val' (atT (tol gate As g v) x) = lvF val x ∧ 0 ≤ atT (tol gate As g v) x := fun x h0 h1 => by
        obtain ⟨q1, q2⟩ := htb.lit (x / 2).toNat (by omega)
        exact ⟨lvF_at h0 q1 (ihn _ (by omega)), (htb.at h0 h1).1⟩
      have hpre := hv'.pre ((runB_preN (gate := gate) (As := As) (g := g) hn).1)
      unfold tol bld at *
      simp only [runB, stepB] at hpre ⊢
      rw [runB_len] at hpre ⊢
      by_cases h1 : 0 ≤ g.getD v 0
      · rw [if_pos h1]
        simp only [getD_snoc, runB_len, Nat.lt_irrefl, if_false, if_true]
        have h2 := (hK.giv v (by omega)).1
        rw [(hat _ h1 (by omega)).1]
        exact (hg v (by omega) h1).symm
      · rw [if_neg h1] at hpre ⊢
        by_cases h2 : v < gate
        · rw [if_pos h2]
          simp only [getD_snoc, runB_len, Nat.lt_irrefl, if_false, if_true]
          rw [lvF_even]; exact hlow v h2
        · rw [if_neg h2] at hpre ⊢
          simp only at hpre ⊢
          simp only [getD_snoc, runB_len, Nat.lt_irrefl, if_false, if_true]
          have hk : v - gate < As.length := by have := hK.len; omega
          have hp : As[v - gate]? = some (As.getD (v - gate) (0, 0)) := by rw [List.getElem?_eq_getElem hk]; simp [List.getD, List.getElem?_eq_getElem hk]
          obtain ⟨q0, q1, q2⟩ := hK.gates _ _ hp
          have e9 : (gate : Int) + ((v - gate : Nat) : Int) = v := by omega
          rw [e9] at q2
          have a1 := hat (As.getD (v - gate) (0, 0)).1 (by omega) q2
          have a2 := hat (As.getD (v - gate) (0, 0)).2 q0 (by omega)
          rw [andB_val a1.2 a2.2 hpre, a1.1, a2.1]
          have := hv.2 _ _ hp
          rw [show gate + (v - gate) = v by omega] at this
          exact this.symm

/-- A literal of the circuit before, and the one that is told. -/
theorem build_at (hK : BOk N gate As g) {val val' : Nat → Bool} (hv : AgF gate As val) (hg : ∀ v, v < N → 0 ≤ g.getD v 0 → val v = lvF val (g.getD v 0)) (hlow : ∀ u, u < gate → val' u = val u) (hv' : AgF gate (bld gate As g N) val') {x : Int} (h0 : 0 ≤ x) (h1 : x / 2 < (N : Int)) :
    lvF val' (atT (tol gate As g N) x) = lvF val x :=
  lvF_at h0 ((runB_tb hK N (Nat.le_refl _)).lit _ (by omega)).1 (build_val hK hv hg hlow hv' N (Nat.le_refl _) _ (by omega))

/-- Literals of what is built so far. -/
theorem build_lit (hK : BOk N gate As g) : ∀ n, n ≤ N → (∀ v, v < n → 0 ≤ (tol gate As g n).getD v 0 ∧ (tol gate As g n).getD v 0 / 2 < ((gate + (bld gate As g n).length : Nat) : Int)) ∧
    ∀ (k : Nat) (p : Int × Int), (bld gate As g n)[k]? = some p → 0 ≤ p.2 ∧ p.2 < p.1 ∧ p.1 / 2 < ((gate + k : Nat) : Int) := by
  intro n
  induction n with
  | zero => intro _; exact ⟨fun v h => by omega, fun k p h => by simp [bld, runB] at h⟩
  | succ n ih =>
    intro hn
    obtain ⟨ih1, ih2⟩ := ih (by omega)
    have hlen : (tol gate As g n).length = n := runB_len _ _ _ _ n
    have hat : ∀ x : Int, 0 ≤ x → x / 2 < (n : Int) → 0 ≤ atT (tol gate As g n) x ∧ atT (tol gate As g n) x / 2 < ((gate + (bld gate As g n).length : Nat) : Int) := fun x h0 h1 => by
      obtain ⟨q1, q2⟩ := ih1 (x / 2).toNat (by omega)
      unfold atT negBy
      split
      · exact ⟨q1, q2⟩
      · unfold negI
        split <;> omega
    have old : ∀ (m : Nat), (bld gate As g n).length ≤ m → ∀ v, v < n → 0 ≤ (tol gate As g n).getD v 0 ∧ (tol gate As g n).getD v 0 / 2 < ((gate + m : Nat) : Int) := fun m hm v hv => by
      obtain ⟨q1, q2⟩ := ih1 v hv
      exact ⟨q1, by omega⟩
    unfold tol bld at *
    simp only [runB, stepB]
    rw [runB_len]
    have snoc : ∀ (m : Nat) (x : Int), (runB (2 * (gate : Int)) gate As g n).2.length ≤ m → 0 ≤ x ∧ x / 2 < ((gate + m : Nat) : Int) → ∀ v, v < n + 1 → 0 ≤ ((runB (2 * (gate : Int)) gate As g n).1 ++ [x]).getD v 0 ∧ ((runB (2 * (gate : Int)) gate As g n).1 ++ [x]).getD v 0 / 2 < ((gate + m : Nat) : Int) := fun m x hm hx v hv => by
      rw [getD_snoc, hlen]
      by_cases e : v < n
      · rw [if_pos e]; exact old m hm v e
      · rw [if_neg e, if_pos (by omega)]; exact hx
    by_cases h1 : 0 ≤ g.getD n 0
    · rw [if_pos h1]
      have h2 := (hK.giv n (by omega)).1
      exact ⟨snoc _ _ (Nat.le_refl _) (hat _ h1 (by omega)), ih2⟩
    · rw [if_neg h1]
      by_cases h2 : n < gate
      · rw [if_pos h2]
        exact ⟨snoc _ _ (Nat.le_refl _) (by omega), ih2⟩
      · rw [if_neg h2]
        simp only
        have hk : n - gate < As.length := by have := hK.len; omega
        have hp : As[n - gate]? = some (As.getD (n - gate) (0, 0)) := by rw [List.getElem?_eq_getElem hk]; simp [List.getD, List.getElem?_eq_getElem hk]
        obtain ⟨q0, q1, q2⟩ := hK.gates _ _ hp
        have e9 : (gate : Int) + ((n - gate : Nat) : Int) = n := by omega
        rw [e9] at q2
        have a1 := hat (As.getD (n - gate) (0, 0)).1 (by omega) q2
        have a2 := hat (As.getD (n - gate) (0, 0)).2 q0 (by omega)
        generalize atT (runB (2 * (gate : Int)) gate As g n).1 (As.getD (n - gate) (0, 0)).1 = x at a1 ⊢
        generalize atT (runB (2 * (gate : Int)) gate As g n).1 (As.getD (n - gate) (0, 0)).2 = y at a2 ⊢
        unfold andB
        cases hs : andS x y with
        | some v =>
          refine ⟨snoc _ _ (Nat.le_refl _) ?_, ih2⟩
          unfold andS at hs
          split at hs
          · cases hs; have := hK.pos; constructor <;> simp only [] <;> omega
          · split at hs
            · cases hs; exact a2
            · split at hs
              · cases hs; exact a1
              · cases hs
        | none =>
          obtain ⟨_, _, _, _, hne, _⟩ := andS_none hs
          simp only []
          cases hkn : knownF (2 * (gate : Int)) (runB (2 * (gate : Int)) gate As g n).2 (max x y, min x y) with
          | some c =>
            obtain ⟨k, k1, k2, _⟩ := knownF_lt _ _ _ _ hkn
            refine ⟨snoc _ _ (Nat.le_refl _) (by simp only []; omega), ih2⟩
          | none =>
            refine ⟨snoc _ _ (by simp) (by simp only [List.length_append, List.length_singleton]; omega), fun k p hp => ?_⟩
            rcases Nat.lt_or_ge k (runB (2 * (gate : Int)) gate As g n).2.length with hlt | hge
            · rw [List.getElem?_append_left hlt] at hp
              exact ih2 k p hp
            · rw [List.getElem?_append_right hge] at hp
              have : k - (runB (2 * (gate : Int)) gate As g n).2.length = 0 := by
                rcases Nat.eq_zero_or_pos (k - (runB (2 * (gate : Int)) gate As g n).2.length) with h | h
                · exact h
                · rw [List.getElem?_eq_none (by simp; omega)] at hp; cases hp
              rw [this] at hp
              simp at hp
              subst hp
              simp only []
              omega

/-- The gates that are built come from variables that nothing is given for. -/
theorem build_from (hK : BOk N gate As g) : ∀ n, n ≤ N → ∀ k, k < (bld gate As g n).length → ∃ v, gate ≤ v ∧ v < n ∧ g.getD v 0 < 0 ∧ (tol gate As g n).getD v 0 = 2 * ((gate + k : Nat) : Int) := by
  intro n
  induction n with
  | zero => intro _ k hk; simp [bld, runB] at hk
  | succ n ih =>
    intro hn k hk
    have ihn := ih (by omega)
    have hlen : (tol gate As g n).length = n := runB_len _ _ _ _ n
    by_cases hold : k < (bld gate As g n).length
    · obtain ⟨v, v1, v2, v3, v4⟩ := ihn k hold
      exact ⟨v, v1, by omega, v3, by rw [pre_getD (runB_preN (by omega : n ≤ n + 1)).2 (by omega)]; exact v4⟩
    · unfold tol bld at *
      simp only [runB, stepB] at hk ⊢
      rw [runB_len] at hk ⊢
      by_cases h1 : 0 ≤ g.getD n 0
      · rw [if_pos h1] at hk; exact absurd hk hold
      · rw [if_neg h1] at hk ⊢
        by_cases h2 : n < gate
        · rw [if_pos h2] at hk; exact absurd hk hold
        · rw [if_neg h2] at hk ⊢
          simp only at hk ⊢
          refine ⟨n, by omega, by omega, by omega, ?_⟩
          simp only [getD_snoc, runB_len, Nat.lt_irrefl, if_false, if_true]
          generalize atT (runB (2 * (gate : Int)) gate As g n).1 (As.getD (n - gate) (0, 0)).1 = x at hk ⊢
          generalize atT (runB (2 * (gate : Int)) gate As g n).1 (As.getD (n - gate) (0, 0)).2 = y at hk ⊢
          unfold andB at hk ⊢
          cases hs : andS x y with
          | some v => rw [hs] at hk; exact absurd hk hold
          | none =>
            rw [hs] at hk
            simp only at hk ⊢
            cases hkn : knownF (2 * (gate : Int)) (runB (2 * (gate : Int)) gate As g n).2 (max x y, min x y) with
            | some c => rw [hkn] at hk; exact absurd hk hold
            | none =>
              rw [hkn] at hk
              simp only [List.length_append, List.length_singleton] at hk ⊢
              omega

theorem build_few (hK : BOk N gate As g) : (bld gate As g N).length ≤ As.length := by
  have := (runB_tb hK N (Nat.le_refl _)).ands
  have := hK.len
  unfold bld
  omega
end
end Go.Proofs.YtjkoadoekaplpaaGreat
