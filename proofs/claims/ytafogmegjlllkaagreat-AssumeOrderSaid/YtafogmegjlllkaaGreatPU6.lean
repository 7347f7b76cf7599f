/- The laws of the solver under assumptions, of plain values: how many conflicts there are; AssumeOrder. -/
import Derived.Test.YtafogmegjlllkaaGreatPU4
namespace Go.Proofs.YtafogmegjlllkaaGreat
open Go Go.Proofs.YtafogmegjlllkaaGreat.R
set_option linter.unusedVariables false

/-! ### How many conflicts there are at most: half as many as values -/

/-- What holds besides: the last variable is never decided with a conflict. -/
structure InvH (V : Nat) (L : List (List Int)) (t s : List Int) (k : Nat) : Prop where
  cnt : k ≤ mes (V - 1) s (min t.length (V - 1))
  last : ((V - 1 : Nat) : Int) ∈ s → t.length = V ∧ Clo L (t.take (V - 1))

section
variable {v : Int} {A : List Int} {L0 : List (List Int)} {t s : List Int} {log : List (List Int)}

theorem prop_false {L : List (List Int)} : ∀ (n : Nat) {t : List Int}, 0 ≤ (propC L n t).2 → ∃ c ∈ L, (stC (propC L n t).1 c).1 = 0
  | 0, t, h => by simp [propC] at h
  | n + 1, t, h => by
    unfold propC at h ⊢
    by_cases hc : 0 ≤ ffC t 0 L ∨ fuC t L = 0
    · rw [if_pos hc] at h ⊢
      dsimp only at h ⊢
      rcases ffC_lt t L 0 with h1 | h1
      · omega
      · have hi : (ffC t 0 L).toNat < L.length := by omega
        exact ⟨_, List.getElem_mem hi, (ffC_spec (t := t) (L := L) (k := 0) _ hi).2.1 (by omega) (Int.le_refl _)⟩
    · rw [if_neg hc] at h ⊢
      exact prop_false n h

theorem InvA.nolast (h : InvA v A L0 t s log) (hV : 1 ≤ v) (hH : InvH v.toNat (L0 ++ log) t s log.length) (hat : 0 ≤ (propC (L0 ++ log) (v + 1).toNat t).2) : ((v.toNat - 1 : Nat) : Int) ∉ s := fun hs => by
  obtain ⟨h1, h2⟩ := hH.last hs
  obtain ⟨hA, u, hu⟩ := propC_okA h.ok (v + 1).toNat h.a
  have hP := hA.short
  have hue : u = [] := by
    rw [hu, List.length_append] at hP
    exact List.eq_nil_of_length_eq_zero (by omega)
  obtain ⟨c, hc, h0⟩ := prop_false (v + 1).toNat hat
  rw [hu, hue, List.append_nil, stC_zero] at h0
  obtain ⟨n1, n2⟩ := h2 c hc
  have hlt : v.toNat - 1 < t.length := by omega
  have ht : t = t.take (v.toNat - 1) ++ [t[v.toNat - 1]] := by
    conv => lhs; rw [← List.take_append_drop (v.toNat - 1) t, drop_cons hlt, List.drop_of_length_le (by omega)]
  have hdis := h.a.dis
  rw [ht, List.pairwise_append] at hdis
  have hd1 : (t.take (v.toNat - 1)).Pairwise fun a b => a / 2 ≠ b / 2 := hdis.1
  have hfree : isS (t.take (v.toNat - 1)) (neg t[v.toNat - 1]) = 2 := by
    rw [isS_none]
    intro a ha
    rw [neg_div]
    exact hdis.2.2 a ha _ (by simp)
  have hother : ∀ l ∈ c, l ≠ neg t[v.toNat - 1] → isS (t.take (v.toNat - 1)) l = 0 := fun l hl hne => by
    have := (isS_false h.a.dis).1 (h0 l hl)
    rw [ht, List.mem_append, List.mem_singleton] at this
    rcases this with h3 | h3
    · exact (isS_false hd1).2 h3
    · exact absurd (by rw [← h3, neg_neg]) hne
  by_cases hm : neg t[v.toNat - 1] ∈ c
  · have := stC_three_of (h.ok c hc) hm hfree hother
    rw [this] at n2
    exact n2 rfl
  · exact n1 (stC_zero.2 fun l hl => hother l hl fun e => hm (e ▸ hl))

theorem mes_back2 {V : Nat} (h : okA v t s) {T : Nat} (hT : T < s.length) (g : Int) (hk : keep t s T + 1 ≤ V) : mes V s (min t.length V) + 1 ≤ mes V (s.take T) (min (t.take (keep t s T) ++ [g]).length V) := by
  have hsh := h.short
  have hkb := keep_bnd h hT
  have hv := h.vars
  have hl : (t.take (keep t s T) ++ [g]).length = keep t s T + 1 := by rw [List.length_append, List.length_take, List.length_singleton]; omega
  have hlow : ∀ x ∈ s.take T, x < (keep t s T : Int) := fun x hx => by
    obtain ⟨j, hj, rfl⟩ := List.mem_iff_getElem.1 hx
    rw [List.length_take] at hj
    rw [List.getElem_take]
    have := keep_inc h (j := j) (k := T) (by omega) hT
    rw [keep_lt (show j < s.length by omega)] at this
    have hb := h.bnd _ (List.getElem_mem (show j < s.length by omega))
    omega
  have hmem : ((keep t s T : Nat) : Int) ∈ s := by
    rw [keep_lt hT]
    have hb := h.bnd _ (List.getElem_mem hT)
    rw [Int.toNat_of_nonneg hb.1]
    exact List.getElem_mem hT
  have hnot : ((keep t s T : Nat) : Int) ∉ s.take T := fun hx => by have := hlow _ hx; omega
  have hcong : mes V s (keep t s T) = mes V (s.take T) (keep t s T) := mes_congr fun i hi => by
    constructor
    · intro hx
      obtain ⟨j, hj, e⟩ := List.mem_iff_getElem.1 hx
      have hjT : j < T := by
        apply Classical.byContradiction
        intro hn
        have hb := h.bnd _ (List.getElem_mem hj)
        rcases Nat.lt_or_ge T j with h1 | h1
        · have := keep_inc h h1 hj
          rw [keep_lt hj, e] at this
          omega
        · have : j = T := by omega
          subst this
          rw [keep_lt hj, e] at hi
          omega
      exact List.mem_iff_getElem.2 ⟨j, by rw [List.length_take]; omega, by rw [List.getElem_take]; exact e⟩
    · exact fun hx => List.mem_of_mem_take hx
  rw [hl, Nat.min_eq_left hk]
  have hb := mes_bnd (V := V) (s := s) (n := keep t s T + 1) (m := min t.length V) (by omega) (Nat.min_le_right ..)
  have hp : 0 < 2 ^ (V - min t.length V) := Nat.pow_pos (by omega)
  have e2 : V - 1 - keep t s T = V - (keep t s T + 1) := by omega
  simp only [mes] at hb ⊢
  rw [if_pos hmem] at hb
  rw [if_neg hnot, e2]
  omega

theorem InvH.dec {L : List (List Int)} {p : List Int} {k : Nat} (hA : okA v p s) (hV : 1 ≤ v) (ht : ∃ u, p = t ++ u) (hcl : Clo L p) (h : InvH v.toNat L t s k) {x : Int} (hx : okA v (p ++ [x]) (s ++ [(p.length : Int)])) : InvH v.toNat L (p ++ [x]) (s ++ [(p.length : Int)]) k := by
  obtain ⟨u, hu⟩ := ht
  have hsh := hx.short
  rw [List.length_append, List.length_singleton] at hsh
  have hvt : ((v.toNat : Nat) : Int) = v := Int.toNat_of_nonneg (by omega)
  have htp : t.length ≤ p.length := by rw [hu, List.length_append]; omega
  constructor
  · refine Nat.le_trans h.cnt (Nat.le_trans (mes_mono (m := min p.length (v.toNat - 1)) (by omega)) ?_)
    rw [mes_congr (s := s) (s' := s ++ [(p.length : Int)]) fun i hi => ⟨fun hx => List.mem_append_left _ hx, fun hx => by
      rcases List.mem_append.1 hx with h1 | h1
      · exact h1
      · rw [List.mem_singleton] at h1; omega⟩]
    exact mes_mono (by rw [List.length_append]; omega)
  · intro hm
    rcases List.mem_append.1 hm with h1 | h1
    · have := (h.last h1).1
      omega
    · rw [List.mem_singleton] at h1
      have hpl : p.length = v.toNat - 1 := by omega
      refine ⟨by rw [List.length_append, List.length_singleton]; omega, ?_⟩
      rw [← hpl]
      simpa using hcl

theorem InvH.back {L L' : List (List Int)} {p : List Int} {k : Nat} (hA : okA v p s) (hV : 1 ≤ v) (ht : ∃ u, p = t ++ u) (hno : ((v.toNat - 1 : Nat) : Int) ∉ s) (h : InvH v.toNat L t s k) {T : Nat} (hT : T < s.length) (g : Int) : InvH v.toNat L' (p.take (keep p s T) ++ [g]) (s.take T) (k + 1) := by
  obtain ⟨u, hu⟩ := ht
  have htp : t.length ≤ p.length := by rw [hu, List.length_append]; omega
  have hkb := keep_bnd hA hT
  have hsh := hA.short
  have hk : keep p s T + 1 ≤ v.toNat - 1 := by
    apply Classical.byContradiction
    intro hn
    apply hno
    have : v.toNat - 1 = keep p s T := by omega
    rw [this, keep_lt hT]
    have hb := hA.bnd _ (List.getElem_mem hT)
    rw [Int.toNat_of_nonneg hb.1]
    exact List.getElem_mem hT
  constructor
  · have := mes_back2 hA hT g hk
    have h1 := Nat.le_trans h.cnt (mes_mono (V := v.toNat - 1) (s := s) (m := min p.length (v.toNat - 1)) (by omega))
    omega
  · exact fun hm => absurd (List.mem_of_mem_take hm) hno

theorem InvH.top {L : List (List Int)} {k : Nat} (h : InvH v.toNat L t s k) : k + 1 ≤ 2 ^ (v.toNat - 1) := by
  have hb := mes_bnd (V := v.toNat - 1) (s := s) (n := 0) (m := min t.length (v.toNat - 1)) (by omega) (Nat.min_le_right ..)
  have hp : 0 < 2 ^ (v.toNat - 1 - min t.length (v.toNat - 1)) := Nat.pow_pos (by omega)
  have := h.cnt
  simp only [mes, Nat.sub_zero] at hb
  omega

theorem InvA.fail2 (h : InvA v A L0 t s log) (hat : 0 ≤ (propC (L0 ++ log) (v + 1).toNat t).2) {c : List Int} (hc : c = lrnC v (L0 ++ log) (decs (propC (L0 ++ log) (v + 1).toNat t).1 s)) (hne : c ≠ []) :
    ∃ T g, T < s.length ∧ jbackC v (propC (L0 ++ log) (v + 1).toNat t).1 s c = ((v, ((propC (L0 ++ log) (v + 1).toNat t).1.take (keep (propC (L0 ++ log) (v + 1).toNat t).1 s T) ++ [g], s.take T)), 0) := by
  obtain ⟨hP, hmp⟩ := h.prop
  generalize (propC (L0 ++ log) (v + 1).toNat t).1 = p at *
  obtain ⟨J, j1, j2, hS, hlen, hm⟩ := lrn_some (L := L0 ++ log) hP.a
  obtain ⟨F, d1, d2⟩ := dec_back hP.a j1 j2 hS hm
  rw [← hc] at F d1 d2
  have hJ : J ≠ [] := fun e => hne (d1 e)
  obtain ⟨q1, q2, q3⟩ := d2 hJ
  have h0 : givC p s c ≠ 0 := fun e => by
    obtain ⟨J', j, rfl⟩ : ∃ J' j, J = J' ++ [j] := by
      rcases List.eq_nil_or_concat J with h' | ⟨J', j, h'⟩
      · exact absurd h' hJ
      · exact ⟨J', j, by rw [h', List.concat_eq_append]⟩
    rw [lastD_app, e] at q3
    have := (dl_lit hP.a (j2 j (by simp))).1
    omega
  have hlt : (toC p s c : Int) < lvl p s (givC p s c) := by
    rcases F.spec with ⟨q, _⟩ | ⟨_, q, _⟩
    · exact absurd q h0
    · exact q
  have hT : toC p s c < s.length := by have := (lvl_range (t := p) (s := s) (l := givC p s c)).2; omega
  exact ⟨_, _, hT, F.jb h0⟩

theorem solA_half (hA : okA v A []) (hV : 1 ≤ v) : ∀ (n : Nat) {t s : List Int} {log : List (List Int)}, InvA v A L0 t s log → InvH v.toNat (L0 ++ log) t s log.length → meas v t s < n → (solA v A n (L0 ++ log) t s log).2.2.2 + 1 ≤ 2 ^ (v.toNat - 1)
  | 0, t, s, log, h, _, hn => by omega
  | n + 1, t, s, log, h, hH, hn => by
    have hP := h.prop.1
    have hv := h.a.vars
    obtain ⟨_, u, hu⟩ := propC_okA h.ok (v + 1).toNat h.a
    have htop := hH.top
    unfold solA
    by_cases hat : 0 ≤ (propC (L0 ++ log) (v + 1).toNat t).2
    · rw [if_pos hat]
      obtain ⟨f1, f2, f3⟩ := h.fail hat rfl
      by_cases hc : lrnC v (L0 ++ log) (decs (propC (L0 ++ log) (v + 1).toNat t).1 s) = []
      · rw [if_pos hc]; exact htop
      · rw [if_neg hc]
        obtain ⟨t', s', e1, e2, e3⟩ := f3 hc
        obtain ⟨T, g, hT, e4⟩ := h.fail2 hat rfl hc
        have hB := InvH.back (L' := L0 ++ (log ++ [lrnC v (L0 ++ log) (decs (propC (L0 ++ log) (v + 1).toNat t).1 s)])) hP.a hV ⟨u, hu⟩ (h.nolast hV hH hat) hH hT g
        rw [e4] at e1
        injection e1 with e1 _
        injection e1 with _ e1
        injection e1 with ea eb
        subst ea; subst eb
        rw [e4]
        have := solA_half hA hV n e2 (by rw [List.length_append, List.length_singleton]; exact hB) (by omega)
        rw [← List.append_assoc] at this
        exact this
    · rw [if_neg hat]
      have hcl : Clo (L0 ++ log) (propC (L0 ++ log) (v + 1).toNat t).1 := prop_closed h.ok h.a (by omega)
      cases hw : wantA A (propC (L0 ++ log) (v + 1).toNat t).1 with
      | some l =>
        obtain ⟨w1, w2⟩ := wantA_some hw
        dsimp only
        by_cases h0 : isS (propC (L0 ++ log) (v + 1).toNat t).1 l = 0
        · rw [if_pos h0]; exact htop
        · rw [if_neg h0]
          have h2 : isS (propC (L0 ++ log) (v + 1).toNat t).1 l = 2 := by rcases isS_cases (propC (L0 ++ log) (v + 1).toNat t).1 l with h | h | h <;> omega
          obtain ⟨e1, e2⟩ := h.choose rfl (hA.lits l w1) h2 (.inl w1)
          exact solA_half hA hV n e1 (hH.dec hP.a hV ⟨u, hu⟩ hcl e1.a) (by omega)
      | none =>
        have hall := wantA_none hP.a hw
        dsimp only
        by_cases hl : lf v (propC (L0 ++ log) (v + 1).toNat t).1 = 0
        · rw [if_pos hl]; exact htop
        · rw [if_neg hl]
          obtain ⟨x1, x2, x3, x4⟩ := (lf_spec (v := v) (by omega) (propC (L0 ++ log) (v + 1).toNat t).1).resolve_left fun h => hl h.1
          have hnone : isS (propC (L0 ++ log) (v + 1).toNat t).1 (2 * lf v (propC (L0 ++ log) (v + 1).toNat t).1 + 1) = 2 := by
            rw [isS_none] at x3 ⊢
            intro a ha he
            exact x3 a ha (by omega)
          obtain ⟨e1, e2⟩ := h.choose rfl (x := 2 * lf v (propC (L0 ++ log) (v + 1).toNat t).1 + 1) (by omega) hnone (.inr ⟨_, rfl, x1, x2, x4, hall⟩)
          exact solA_half hA hV n e1 (hH.dec hP.a hV ⟨u, hu⟩ hcl e1.a) (by omega)

theorem confA_half (hA : okA v A []) (h12 : v ≤ 12) {L : List (List Int)} (hL : okL v L) : (solAR v A L).2.2.2 ≤ 2047 := by
  have hv := hA.vars
  by_cases hV : 1 ≤ v
  · have := solA_half (L0 := L) hA hV (meas v [] [] + 1) (invA0 hv hL) ⟨Nat.zero_le _, fun h => by cases h⟩ (Nat.lt_succ_self _)
    rw [List.append_nil] at this
    have hp : 2 ^ (v.toNat - 1) ≤ 2 ^ 11 := Nat.pow_le_pow_right (by omega) (by omega)
    have e : solAR v A L = solA v A (meas v [] [] + 1) L [] [] [] := rfl
    rw [e]
    omega
  · have hb := (solAR_ok hA hL).bnd
    have : v.toNat = 0 := by omega
    rw [this] at hb
    omega

end

/-! ### AssumeOrder -/

theorem assume_bad {v b : Int} {L : List (List Int)} {A : List Int} (hv : okV v) (hb : 0 ≤ b ∧ b ≤ 100000) (hL : okL v L) (hn : L.length ≤ 20000) (hA : A.length ≤ 140737488351232) (hA64 : ∀ x ∈ A, in64 x) (h : ¬ okA v A []) : assume_Run v L A b = some (ans0, 8) := by
  rw [assume_Run.eq, assume_check_eq (by omega) (ranged_ok hv hL) hA hA64, if_neg (by omega), if_neg (by omega), if_neg (fun g => h g.2), Option.bind_some, cn, if_neg (by omega)]
  rfl

theorem okA_front {v x : Int} {A : List Int} (h : okA v (A ++ [x]) []) : isLit v x ∧ x ∉ A := by
  refine ⟨h.lits x (by simp), fun hx => ?_⟩
  have := (List.pairwise_append.1 h.dis).2.2 x hx x (by simp)
  exact this rfl

theorem same_ans {v : Int} {L L' : List (List Int)} {A : List Int} (hA : okA v A []) (hL : okL v L) (hL' : okL v L') (h : ∀ W, Models L W ↔ Models L' W) :
    (ansA v A L).1 = (ansA v A L').1 ∧ (ansA v A L).2.1 = (ansA v A L').2.1 ∧ (ansA v A L).2.2.1 = (ansA v A L').2.2.1 := by
  have h1 := solAR_none hA hL
  have h2 := solAR_none hA hL'
  have hn := noneC_congr hA.vars hL hL' hA.lits h
  have hc := coreC_congr hA.vars hL hL' h A hA.lits
  cases hs : (solAR v A L).1 with
  | true =>
    have hs2 : (solAR v A L').1 = true := by rw [h2, ← hn, ← h1, hs]
    have m1 := ((solAR_ok hA hL).sat hs).1
    have m2 := ((solAR_ok hA hL').sat hs2).1
    have hm : mdl v (solAR v A L).2.1 = mdl v (solAR v A L').2.1 := m1.unique m2 (models_both.2 ⟨(models_both.1 m2.2.1).1, (h _).2 (models_both.1 m2.2.1).2⟩) (models_both.2 ⟨(models_both.1 m1.2.1).1, (h _).1 (models_both.1 m1.2.1).2⟩)
    rw [ansA_sat hs, ansA_sat hs2]
    exact ⟨rfl, hm, rfl⟩
  | false =>
    have hs2 : (solAR v A L').1 = false := by rw [h2, ← hn, ← h1, hs]
    rw [ansA_un hs, ansA_un hs2]
    exact ⟨rfl, rfl, hc⟩

theorem AssumeOrder_pure (v : Int) (L : List (List Int)) (A : List Int) (first lit : Int) (hv : okD (.int .i64) v) (hL : okD TLL L) (hA : okD TL A) (hf : okD (.int .i64) first) (hl : okD (.int .i64) lit) : spiritlevellaw20_AssumeOrder v L A first lit = some true := by
  obtain ⟨l1, l2⟩ := okTLL hL
  obtain ⟨c1, c2⟩ := okTL hA
  obtain ⟨f, h1, h2⟩ := fit20_eq (v := v) (A := A) l1 (fun c hc => (l2 c hc).1) c1
  rw [spiritlevellaw20_AssumeOrder.eq, alive20_eq, Option.bind_some, h1, Option.bind_some]
  cases f with
  | false => rfl
  | true =>
    obtain ⟨oA, o12, oL, on, oa⟩ := h2 rfl
    have ov := oA.vars
    rw [cnot, ct, cd]
    split
    · rfl
    rename_i m0
    rw [cd]
    split
    · rfl
    rename_i m1
    rw [cd]
    split
    · rfl
    rename_i m2
    have s1 : subl L first (L.length : Int) = some (L.drop first.toNat) := by
      unfold subl
      rw [if_pos ⟨by omega, by omega, by omega⟩, Int.toNat_natCast, List.take_length]
    have s2 : subl L 0 first = some (L.take first.toNat) := by
      unfold subl
      rw [if_pos ⟨by omega, by omega, by omega⟩]; rfl
    have oL' : okL v (L.drop first.toNat ++ L.take first.toNat) := by
      rw [okL_append]
      exact ⟨fun c hc => oL c (List.mem_of_mem_drop hc), fun c hc => oL c (List.mem_of_mem_take hc)⟩
    have hM : ∀ W, Models L W ↔ Models (L.drop first.toNat ++ L.take first.toNat) W := fun W => by
      constructor
      · intro h c hc
        refine h c ?_
        rcases List.mem_append.1 hc with hc | hc
        · exact List.mem_of_mem_drop hc
        · exact List.mem_of_mem_take hc
      · intro h c hc
        refine h c ?_
        rw [← List.take_append_drop first.toNat L] at hc
        rcases List.mem_append.1 hc with hc | hc
        · exact List.mem_append_right _ hc
        · exact List.mem_append_left _ hc
    have hll : (L.drop first.toNat ++ L.take first.toNat).length ≤ 80 := by simp; omega
    obtain ⟨q1, q2, q3⟩ := same_ans oA oL oL' hM
    have hS := smallA oA oL (small_pow ov.1 o12)
    have hk := confA_half oA o12 oL'
    have hk0 := confA_le oA o12 oL
    have e5 : (ansA v A L).2.2.2.2 = ((solAR v A L).2.2.2 : Int) := rfl
    have hw1 : IntKind.wrap .i64 (((solAR v A L).2.2.2 : Int) + 5000) = ((solAR v A L).2.2.2 : Int) + 5000 := by rw [wr] <;> omega
    have hb1 : ((ansA v A L).1 == (ansA v A (L.drop first.toNat ++ L.take first.toNat)).1) = true := by rw [q1]; simp
    rw [cnot, ct, assume5000 oA o12 oL (by omega), Option.bind_some, s1, Option.bind_some, app_nil (by simp; omega), Option.bind_some, s2, Option.bind_some, app_ok (by simp; omega), Option.bind_some,
      assume_run (b := 4000) oA o12 oL' (by omega) ⟨?_, by omega⟩, Option.bind_some]
    · dsimp only
      rw [cn, if_pos rfl, cn, if_pos rfl, hb1, cnot, ct, ← q3, ref13_Same_eq hS.co, Option.bind_some, decide_eq_true rfl, cnot, ct, ← q2, ref19_SameValues_eq hS.m, Option.bind_some, decide_eq_true rfl, cnot, ct, app_nil (by omega), Option.bind_some, app_ok (by simp only [List.length_singleton]; omega), Option.bind_some, e5, hw1]
      have hA2 : ∀ x ∈ A ++ [lit], in64 x := fun x hx => by
        rcases List.mem_append.1 hx with h | h
        · exact c2 x h
        · rw [List.mem_singleton] at h; subst h; exact wf64 hl
      by_cases oA2 : okA v (A ++ [lit]) []
      · have hk2 := confA_le oA2 o12 oL
        obtain ⟨x1, x2⟩ := okA_front oA2
        have hS2 := smallA oA2 oL (small_pow ov.1 o12)
        rw [assume_run oA2 o12 oL (by rw [List.length_append, List.length_singleton]; omega) ⟨by omega, by omega⟩, Option.bind_some]
        dsimp only
        rw [cn, if_pos rfl, ct]
        have n1 := solAR_none oA oL
        have n2 := solAR_none oA2 oL
        cases hs : (solAR v A L).1 with
        | true => rw [ansA_sat hs]; rfl
        | false =>
          have hn : noneC v L A = true := by
            rw [hs] at n1
            cases h : noneC v L A with
            | true => rfl
            | false => rw [h] at n1; cases n1
          have hn2 : noneC v L (A ++ [lit]) = true := noneC_mono ov oL oA2.lits (fun a ha => List.mem_append_left _ ha) hn
          have hs2 : (solAR v (A ++ [lit]) L).1 = false := by rw [n2, hn2]; rfl
          obtain ⟨G, g1, g2, g3⟩ := coreC_more ov oL (x := lit) A (o := A) oA.nodup (fun d hd => hd) oA2.lits
          have hgl := g2.length_le
          rw [ansA_un hs, ansA_un hs2]
          dsimp only
          rw [cf, cnot, cf, coreC_append, g1]
          have hrm : rm lit (G ++ [lit]) = G := by
            have hG : lit ∉ G := fun h => x2 (g2.subset h)
            clear g1 g3 g2 hgl
            induction G with
            | nil => simp [rm]
            | cons a r ih =>
              rw [List.cons_append]
              unfold rm
              rw [if_neg (fun e => hG (by rw [e]; exact List.mem_cons_self ..)), ih (fun h => hG (List.mem_cons_of_mem _ h))]
          show ((spiritlevelref13_Same (if noneC v L (rm lit (G ++ [lit])) then rm lit (G ++ [lit]) else G ++ [lit]) (coreC v L A A)).bind _) = _
          rw [hrm]
          cases hG : noneC v L G with
          | true =>
            rw [if_pos rfl, g3 hG, ref13_Same_eq (by omega), Option.bind_some, decide_eq_true rfl]; rfl
          | false =>
            rw [if_neg (by simp)]
            rw [ref13_Same_eq (by rw [List.length_append, List.length_singleton]; omega), Option.bind_some]
            have hne : ¬ G ++ [lit] = coreC v L A A := fun e => x2 ((coreC_sub (v := v) (L := L) A A).subset (by rw [← e]; simp))
            have hnp : ¬ ∀ x ∈ G ++ [lit], x ∈ A := fun h => x2 (h lit (by simp))
            rw [decide_eq_false hne, cf]
            show (spiritlevelref13_Part (if noneC v L (rm lit (G ++ [lit])) then rm lit (G ++ [lit]) else G ++ [lit]) A).bind _ = _
            rw [hrm, hG, if_neg (by simp), ref13_Part_eq (by rw [List.length_append, List.length_singleton]; omega) (by omega), Option.bind_some, decide_eq_false hnp]
            rfl
      · rw [assume_bad ov ⟨by omega, by omega⟩ oL (by omega) (by rw [List.length_append, List.length_singleton]; omega) hA2 oA2, Option.bind_some]
        rfl
    · omega

end Go.Proofs.YtafogmegjlllkaaGreat
