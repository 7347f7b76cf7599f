/- Cones that are searched, of plain values: what gates.Cone finds; TseitinSmall. -/
import Derived.Test.YtcgbilghglbgaaaPC5
namespace Go.Proofs.Ytcgbilghglbgaaa
open Go Go.Proofs.Ytcgbilghglbgaaa.R
set_option linter.unusedVariables false

section
variable {I : Int} {Ls As : List (Int × Int)} {Bs Cs : List Int} {f n : Nat} {lits : List Int}

theorem gdA {α : Type} {l : List α} {k : Nat} {x d : α} (h : l[k]? = some x) : l.getD k d = x := by rw [List.getD_eq_getElem?_getD, h]; rfl
theorem rep_no {N j : Nat} : (List.replicate N false).getD j false = false := by
  rw [List.getD_eq_getElem?_getD, List.getElem?_replicate]; split <;> rfl

theorem lits_check_one {z : Int} (h0 : 0 ≤ z) (h1 : z ≤ 2001) : lits_check [z] = some 0 := by
  rw [lits_check.eq, lits_check.l0_eq, cd, if_pos (by simp), show geti [z] 0 = some z from rfl, Option.bind_some, cd, if_neg (by omega), cd, if_neg (by omega), lits_check.l0_eq, cd, if_neg (by simp [wr])]

theorem lits_Var_eq {z : Int} (h0 : 0 ≤ z) (h1 : z ≤ 2001) : lits_Var z = some (z / 2, decide (z % 2 = 1), 0) := by
  rw [lits_Var.eq, lits_check_one h0 h1, Option.bind_some, cn, if_pos rfl, shr1, band_one h0 (by omega)]
  congr 3

theorem wellB_of {f0 : Int} : ∀ {l : List (Int × Int)} {k : Nat}, (∀ (j : Nat) (g : Int × Int), l[j]? = some g → 0 ≤ g.2 ∧ g.2 ≤ g.1 ∧ g.1 / 2 < f0 + (k : Int) + (j : Int)) → wellB f0 k l = true
  | [], k, h => rfl
  | x :: r, k, h => by
    have h0 := h 0 x rfl
    unfold wellB
    rw [decide_eq_true h0.1, decide_eq_true h0.2.1, decide_eq_true (by simpa using h0.2.2), wellB_of (l := r) (k := k + 1) fun j g hg => ?_]
    · rfl
    · have := h (j + 1) g hg
      refine ⟨this.1, this.2.1, ?_⟩
      have := this.2.2
      push_cast at this ⊢
      omega

theorem coneB_of (hc : checkG I Ls As Bs Cs = 0) {x : Int} (hx : litN (size I Ls As) x) : coneB I Ls.length As x = true := by
  obtain ⟨k1, k2, k3⟩ := checkG_zero hc
  obtain ⟨q1, q2, _, _⟩ := k2
  have hx' := hx
  unfold litN at hx'
  unfold size at hx'
  unfold coneB
  rw [decide_eq_true k1, decide_eq_true q1, decide_eq_true (show Ls.length ≤ 1000 by omega), decide_eq_true (show As.length ≤ 1000 by omega), decide_eq_true hx'.1, decide_eq_true (show x / 2 ≤ I + Ls.length + As.length by omega), wellB_of fun j g hg => ?_]
  · rfl
  · have hj : j < As.length := (List.getElem?_eq_some_iff.1 hg).1
    have := okG_get k3.2.2.2 j hj
    rw [List.getD_eq_getElem?_getD, hg, Option.getD_some] at this
    simpa using this

/-! ### The search -/

/-- The gates up to a variable have their inputs marked. -/
def cloB (f : Nat) (As : List (Int × Int)) (v : Nat) (M : List Bool) : Prop := ∀ k g, As[k]? = some g → f + k ≤ v → M.getD (f + k) false = true →
  ((g.1 / 2).toNat = 0 ∨ M.getD (g.1 / 2).toNat false = true) ∧ ((g.2 / 2).toNat = 0 ∨ M.getD (g.2 / 2).toNat false = true)

/-- What is met is what is marked. -/
def metB (s : List Bool × List Int) : Prop := s.1.getD 0 false = false ∧ (∀ x, x ∈ s.2 ↔ 1 ≤ x ∧ s.1.getD x.toNat false = true) ∧ s.2.length = s.1.count true

structure Vis (f : Nat) (As : List (Int × Int)) (N v : Nat) (s t : List Bool × List Int) : Prop where
  len : t.1.length = N
  ge : ∀ j, s.1.getD j false = true → t.1.getD j false = true
  above : ∀ j, v < j → t.1.getD j false = s.1.getD j false
  has : v = 0 ∨ t.1.getD v false = true
  clo : cloB f As v t.1
  met : metB t
  least : ∀ C, Closed f As C → C.getD v false = true → ∀ j, t.1.getD j false = true → s.1.getD j false = true ∨ C.getD j false = true

theorem visF_spec {N : Nat} (hb : Before f As) (hN : f + As.length = N) : ∀ (m v : Nat) (s : List Bool × List Int), v < m → v < N → s.1.length = N → cloB f As v s.1 → metB s → Vis f As N v s (visF As f m v s)
  | 0, v, s, h, _, _, _, _ => by omega
  | m + 1, v, s, h, hv, hl, hc, hm => by
    unfold visF
    by_cases h0 : v = 0 ∨ s.1.getD v false = true
    · rw [if_pos h0]
      exact ⟨hl, fun j h => h, fun j _ => rfl, h0, hc, hm, fun C _ _ j h => .inl h⟩
    rw [if_neg h0]
    obtain ⟨hv0, hvm⟩ : v ≠ 0 ∧ s.1.getD v false = false := ⟨fun e => h0 (.inl e), by rw [← Bool.not_eq_true]; exact fun e => h0 (.inr e)⟩
    have hset : ∀ j, (s.1.set v true).getD j false = (decide (j = v) || s.1.getD j false) := fun j => by
      have := setB_get (M := s.1) (v := (v : Int)) (j := j) (by rw [Int.toNat_natCast, hl]; exact hv)
      rwa [Int.toNat_natCast] at this
    have hset' : ∀ j, j ≠ v → (s.1.set v true).getD j false = s.1.getD j false := fun j hj => by rw [hset, decide_eq_false hj, Bool.false_or]
    have hsv : (s.1.set v true).getD v false = true := by rw [hset, decide_eq_true rfl, Bool.true_or]
    have hge0 : ∀ j, s.1.getD j false = true → (s.1.set v true).getD j false = true := fun j hj => by rw [hset, hj, Bool.or_true]
    have hmet : metB (s.1.set v true, s.2 ++ [(v : Int)]) := by
      refine ⟨by rw [hset' 0 (fun e => hv0 e.symm)]; exact hm.1, fun x => ?_, ?_⟩
      show x ∈ s.2 ++ [(v : Int)] ↔ _
      rw [List.mem_append, List.mem_singleton, hm.2.1 x]
      show _ ↔ 1 ≤ x ∧ (s.1.set v true).getD x.toNat false = true
      rw [hset, Bool.or_eq_true, decide_eq_true_eq]
      constructor
      · rintro (⟨a, b⟩ | rfl)
        · exact ⟨a, .inr b⟩
        · exact ⟨by omega, .inl (by omega)⟩
      · rintro ⟨a, b | b⟩
        · exact .inr (by omega)
        · exact .inl ⟨a, b⟩
      · have hvl : v < s.1.length := by omega
        have hvm' : s.1[v] = false := by rwa [List.getD_eq_getElem?_getD, List.getElem?_eq_getElem hvl, Option.getD_some] at hvm
        have h1 := List.count_set (a := true) (b := true) (l := s.1) (i := v) hvl
        rw [hvm'] at h1
        show (s.2 ++ [(v : Int)]).length = (s.1.set v true).count true
        rw [h1, List.length_append, hm.2.2]
        simp
    have hlt : (s.1.set v true).length = N := by rw [List.length_set]; exact hl
    -- below the variable all is as it was
    have hcl : ∀ k g, As[k]? = some g → f + k ≤ v → f + k ≠ v → s.1.getD (f + k) false = true → ((g.1 / 2).toNat = 0 ∨ (s.1.set v true).getD (g.1 / 2).toNat false = true) ∧ ((g.2 / 2).toNat = 0 ∨ (s.1.set v true).getD (g.2 / 2).toNat false = true) := fun k g hg hk _ ht => by
      obtain ⟨a, b⟩ := hc k g hg hk ht
      exact ⟨a.imp id (hge0 _), b.imp id (hge0 _)⟩
    by_cases hf : v < f
    · simp only
      rw [if_pos hf]
      exact ⟨hlt, hge0, fun j hj => hset' j (by omega), .inr hsv, fun k g hg hk => by omega, hmet, fun C _ hC j hj => by
        by_cases e : j = v
        · subst e; exact .inr hC
        · exact .inl (by rwa [hset' j e] at hj)⟩
    simp only
    rw [if_neg hf]
    have hk : v - f < As.length := by omega
    have hbk := hb (v - f) hk
    rw [List.getD_eq_getElem?_getD, List.getElem?_eq_getElem hk, Option.getD_some] at hbk
    have hg : As[v - f]? = some As[v - f] := List.getElem?_eq_getElem hk
    rw [hg]
    generalize As[v - f] = g at hbk hg ⊢
    simp only
    obtain ⟨b1, b2, b3⟩ := hbk
    have p1 : (g.1 / 2).toNat < v := by omega
    have p2 : (g.2 / 2).toNat ≤ (g.1 / 2).toNat := by omega
    have V1 := visF_spec hb hN m (g.1 / 2).toNat (s.1.set v true, s.2 ++ [(v : Int)]) (by omega) (by omega) hlt (fun k g' hg' hk' ht => hcl k g' hg' (by omega) (by omega) (by
      have : (s.1.set v true).getD (f + k) false = true := ht
      rwa [hset' _ (by omega)] at this)) hmet
    generalize visF As f m (g.1 / 2).toNat (s.1.set v true, s.2 ++ [(v : Int)]) = s1 at V1 ⊢
    have V2 := visF_spec hb hN m (g.2 / 2).toNat s1 (by omega) (by omega) V1.len (fun k g' hg' hk' ht => V1.clo k g' hg' (by omega) ht) V1.met
    generalize visF As f m (g.2 / 2).toNat s1 = s2 at V2 ⊢
    refine ⟨V2.len, fun j hj => V2.ge j (V1.ge j (hge0 j hj)), fun j hj => ?_, .inr (V2.ge v (V1.ge v hsv)), fun k g' hg' hk' ht => ?_, V2.met, fun C hC hCv j hj => ?_⟩
    · rw [V2.above j (by omega), V1.above j (by omega)]; exact hset' j (by omega)
    · by_cases e : f + k = v
      · have : g' = g := by
          rw [show k = v - f by omega, hg] at hg'
          exact (Option.some.inj hg').symm
        subst this
        exact ⟨V1.has.imp id (V2.ge _), V2.has⟩
      · by_cases e2 : f + k ≤ (g.2 / 2).toNat
        · exact V2.clo k g' hg' e2 ht
        · rw [V2.above _ (by omega)] at ht
          by_cases e1 : f + k ≤ (g.1 / 2).toNat
          · obtain ⟨a, b⟩ := V1.clo k g' hg' e1 ht
            exact ⟨a.imp id (V2.ge _), b.imp id (V2.ge _)⟩
          · rw [V1.above _ (by omega)] at ht
            obtain ⟨a, b⟩ := hcl k g' hg' hk' e (by
              have : (s.1.set v true).getD (f + k) false = true := ht
              rwa [hset' _ e] at this)
            exact ⟨a.imp id fun q => V2.ge _ (V1.ge _ q), b.imp id fun q => V2.ge _ (V1.ge _ q)⟩
    · have hCg := hC (v - f) hk (by rw [show f + (v - f) = v by omega]; exact hCv)
      rw [gdA hg] at hCg
      rcases V2.least C hC hCg.2 j hj with q | q
      · rcases V1.least C hC hCg.1 j q with q | q
        · by_cases e : j = v
          · subst e; exact .inr hCv
          · exact .inl (by
              have : (s.1.set v true).getD j false = true := q
              rwa [hset' j e] at this)
        · exact .inr q
      · exact .inr q

/-- What Cone finds. -/
theorem coneL_spec (hc : checkG I Ls As Bs Cs = 0) {x : Int} (hx : litN (size I Ls As) x) : ∃ V : List Bool, (∀ y, y ∈ coneL I Ls.length As x ↔ 1 ≤ y ∧ V.getD y.toNat false = true) ∧ V.length = (size I Ls As).toNat + 1 ∧ ((x / 2).toNat = 0 ∨ V.getD (x / 2).toNat false = true) ∧
    cloB (firstN I Ls) As (size I Ls As).toNat V ∧ (∀ C, Closed (firstN I Ls) As C → C.getD (x / 2).toNat false = true → ∀ j, V.getD j false = true → C.getD j false = true) ∧ (coneL I Ls.length As x).length = V.count true := by
  have hb := checkG_before hc
  obtain ⟨k1, k2, k3⟩ := checkG_zero hc
  unfold litN at hx
  have hsz : firstN I Ls + As.length = (size I Ls As).toNat + 1 := by unfold firstN size; omega
  have hf : 1 + I.toNat + Ls.length = firstN I Ls := by unfold firstN; omega
  have hxN : (x / 2).toNat < (size I Ls As).toNat + 1 := by omega
  have V := visF_spec hb hsz ((x / 2).toNat + 1) (x / 2).toNat (List.replicate ((size I Ls As).toNat + 1) false, []) (Nat.lt_succ_self _) hxN (List.length_replicate ..) (fun k g hg hk ht => by
    have : (List.replicate ((size I Ls As).toNat + 1) false).getD (firstN I Ls + k) false = true := ht
    rw [rep_no] at this
    cases this) ⟨rep_no, fun y => by
      show y ∈ ([] : List Int) ↔ 1 ≤ y ∧ (List.replicate ((size I Ls As).toNat + 1) false).getD y.toNat false = true
      rw [rep_no]
      simp, by simp [List.count_replicate]⟩
  have e : coneL I Ls.length As x = (visF As (firstN I Ls) ((x / 2).toNat + 1) (x / 2).toNat (List.replicate ((size I Ls As).toNat + 1) false, [])).2 := by
    unfold coneL
    rw [hf, hsz]
  rw [e]
  generalize visF As (firstN I Ls) ((x / 2).toNat + 1) (x / 2).toNat (List.replicate ((size I Ls As).toNat + 1) false, []) = t at V ⊢
  refine ⟨t.1, V.met.2.1, V.len, V.has, fun k g hg hk ht => ?_, fun C hC hCx j hj => (V.least C hC hCx j hj).resolve_left fun q => ?_, V.met.2.2⟩
  · by_cases h : firstN I Ls + k ≤ (x / 2).toNat
    · exact V.clo k g hg h ht
    · rw [V.above _ (by omega)] at ht
      have : (List.replicate ((size I Ls As).toNat + 1) false).getD (firstN I Ls + k) false = true := ht
      rw [rep_no] at this
      cases this
  · have : (List.replicate ((size I Ls As).toNat + 1) false).getD j false = true := q
    rw [rep_no] at this
    cases this

/-- What lies in a closed set. -/
theorem coneC_min (hb : Before f As) {S : List Bool} (hS : Closed f As S) : ∀ {k : Nat} {M : List Bool}, k ≤ As.length → f + As.length ≤ M.length → (∀ j, M.getD j false = true → S.getD j false = true) → ∀ j, (coneC f As k M).getD j false = true → S.getD j false = true
  | 0, M, _, _, h, j, hj => h j hj
  | k + 1, M, hk, hM, h, j, hj => by
    obtain ⟨b1, b2, b3⟩ := hb k (by omega)
    rw [coneC] at hj
    refine coneC_min hb hS (by omega) (by split <;> first | exact hM | (rw [setB_len, setB_len]; exact hM)) (fun i hi => ?_) j hj
    by_cases h1 : M.getD (f + k) false = true
    · rw [if_pos h1, setB_get (by rw [setB_len]; omega), setB_get (by omega), Bool.or_eq_true, Bool.or_eq_true, decide_eq_true_eq, decide_eq_true_eq] at hi
      obtain ⟨c1, c2⟩ := hS k (by omega) (h _ h1)
      rcases hi with rfl | rfl | q
      · exact c2
      · exact c1
      · exact h i q
    · rw [if_neg h1] at hi
      exact h i hi

/-- The union of the cones is the cone. -/
theorem cones_eq (hc : checkG I Ls As Bs Cs = 0) (hl : ∀ l ∈ lits, litN (size I Ls As) l) {U : List Bool} (hUl : U.length = (size I Ls As).toNat + 1) (hU : ∀ j : Nat, U.getD j false = true ↔ ∃ l ∈ lits, 1 ≤ j ∧ (j : Int) ∈ coneL I Ls.length As l) (j : Nat) (hj : 1 ≤ j) :
    U.getD j false = (coneM I Ls As lits).getD j false := by
  have hb := checkG_before hc
  obtain ⟨k1, k2, k3⟩ := checkG_zero hc
  have hsz : firstN I Ls + As.length = (size I Ls As).toNat + 1 := by unfold firstN size; omega
  have hf1 : 1 ≤ firstN I Ls := by unfold firstN; omega
  have hlen : ∀ {ls : List Int}, firstN I Ls + As.length ≤ (markC (List.replicate ((size I Ls As).toNat + 1) false) ls).length := fun {ls} => by rw [markC_len, List.length_replicate]; omega
  have clo : Closed (firstN I Ls) As (coneM I Ls As lits) := fun k hk ht => coneC_closed hb (Nat.le_refl _) hlen k hk ht
  rw [Bool.eq_iff_iff]
  constructor
  · intro h
    obtain ⟨l, hl1, _, hm⟩ := (hU j).1 h
    obtain ⟨V, v1, v2, v3, v4, v5, v6⟩ := coneL_spec hc (hl l hl1)
    refine v5 _ clo (coneC_ge hb (Nat.le_refl _) hlen _ ?_) j (by have := ((v1 _).1 hm).2; rwa [Int.toNat_natCast] at this)
    rw [markC_get (List.length_replicate ..) (marks_in hc hl), decide_eq_true ⟨l, hl1, rfl⟩, Bool.true_or]
  · intro h
    have hset : ∀ i, (setB U 0).getD i false = (decide (i = 0) || U.getD i false) := fun i => setB_get (M := U) (v := 0) (j := i) (by rw [hUl]; simp)
    have main : ∀ i, (coneM I Ls As lits).getD i false = true → (setB U 0).getD i false = true := by
      refine coneC_min hb (fun k hk ht => ?_) (Nat.le_refl _) hlen fun i hi => ?_
      · rw [hset, Bool.or_eq_true, decide_eq_true_eq] at ht
        obtain ⟨l, hl1, _, hm⟩ := (hU _).1 (ht.resolve_left (by omega))
        obtain ⟨V, v1, v2, v3, v4, v5, v6⟩ := coneL_spec hc (hl l hl1)
        have hg : As[k]? = some As[k] := List.getElem?_eq_getElem hk
        have := v4 k As[k] hg (by omega) (by have := ((v1 _).1 hm).2; rwa [Int.toNat_natCast] at this)
        have put : ∀ p : Nat, (p = 0 ∨ V.getD p false = true) → (setB U 0).getD p false = true := fun p hp => by
          rw [hset, Bool.or_eq_true, decide_eq_true_eq]
          by_cases e : p = 0
          · exact .inl e
          · exact .inr ((hU p).2 ⟨l, hl1, by omega, (v1 _).2 ⟨by omega, by rw [Int.toNat_natCast]; exact hp.resolve_left e⟩⟩)
        rw [gdA hg]
        exact ⟨put _ this.1, put _ this.2⟩
      · rw [markC_get (List.length_replicate ..) (marks_in hc hl), Bool.or_eq_true, decide_eq_true_eq] at hi
        rcases hi with ⟨l, hl1, rfl⟩ | hi
        · obtain ⟨V, v1, v2, v3, v4, v5, v6⟩ := coneL_spec hc (hl l hl1)
          rw [hset, Bool.or_eq_true, decide_eq_true_eq]
          by_cases e : (l / 2).toNat = 0
          · exact .inl e
          · exact .inr ((hU _).2 ⟨l, hl1, by omega, (v1 _).2 ⟨by omega, by rw [Int.toNat_natCast]; exact v3.resolve_left e⟩⟩)
        · rw [rep_no] at hi
          cases hi
    have := main j h
    rw [hset, Bool.or_eq_true, decide_eq_true_eq] at this
    exact this.resolve_left (by omega)

end

end Go.Proofs.Ytcgbilghglbgaaa
