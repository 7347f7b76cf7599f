/- The solver under assumptions, of plain values. -/
import Derived.Test.YthbkhndapkbgbaaGreatPS4
namespace Go.Proofs.YthbkhndapkbgbaaGreat
open Go Go.Proofs.YthbkhndapkbgbaaGreat.R
set_option linter.unusedVariables false

/-! ### Decisions, whatever they are -/

def DecQ (Q : List Int → Int → Prop) (t s : List Int) : Prop := ∀ j, j < s.length → Q (t.take (keep t s j)) (dc t s j)

section
variable {v : Int} {L : List (List Int)} {t s : List Int} {Q : List Int → Int → Prop}

theorem DecQ.empty : DecQ Q [] [] := fun j hj => by simp at hj

theorem DecQ.prop (hL : okL v L) (h : okA v t s) (hd : DecQ Q t s) {n : Nat} : DecQ Q (propC L n t).1 s := by
  obtain ⟨hA, u, hu⟩ := propC_okA hL n h
  intro j hj
  have ht : (propC L n t).1.take t.length = t.take t.length := by rw [hu]; simp
  have hkb := keep_bnd h hj
  rw [same_dc h hj hj rfl ht hkb, same_keep (t := t) hj hj rfl, take_le ht (by omega)]
  exact hd j hj

theorem DecQ.dec (h : okA v t s) (hd : DecQ Q t s) {x : Int} (hx : Q t x) : DecQ Q (t ++ [x]) (s ++ [(t.length : Int)]) := by
  intro j hj
  have ht : (t ++ [x]).take t.length = t.take t.length := by simp
  rw [List.length_append, List.length_singleton] at hj
  have hlast : keep (t ++ [x]) (s ++ [(t.length : Int)]) s.length = t.length := by rw [keep_lt (by simp)]; simp
  rcases Nat.lt_or_ge j s.length with hlt | hge
  · have hs : (s ++ [(t.length : Int)])[j]'(by simp; omega) = s[j] := List.getElem_append_left hlt
    have hkb := keep_bnd h hlt
    rw [same_dc h hlt (by simp; omega) hs ht hkb, same_keep (t := t) hlt (by simp; omega) hs, take_le ht (by omega)]
    exact hd j hlt
  · have : j = s.length := by omega
    subst this
    rw [hlast, ht, List.take_length, dc_keep (by simp), hlast]
    simpa using hx

theorem DecQ.back (h : okA v t s) (hd : DecQ Q t s) {T : Nat} (hT : T < s.length) (g : Int) : DecQ Q (t.take (keep t s T) ++ [g]) (s.take T) := by
  intro j hj
  have hkb := keep_bnd h hT
  have ht : (t.take (keep t s T) ++ [g]).take (keep t s T) = t.take (keep t s T) := by
    rw [List.take_append_of_le_length (by rw [List.length_take]; omega), List.take_take, Nat.min_self]
  have hsl : (s.take T).length = T := by rw [List.length_take]; omega
  rw [hsl] at hj
  have hs : (s.take T)[j]'(by omega) = s[j]'(by omega) := by rw [List.getElem_take]
  rw [same_dc h (by omega) (by omega) hs ht (keep_inc h hj hT), same_keep (t := t) (show j < s.length by omega) (by omega) hs, take_le ht (by have := keep_inc h hj hT; omega)]
  exact hd j (by omega)

end

/-- A decision: an assumption, or the least variable without a value, made false, when all assumptions are true. -/
def QA (v : Int) (A : List Int) (p : List Int) (d : Int) : Prop :=
  d ∈ A ∨ ∃ x, d = 2 * x + 1 ∧ 1 ≤ x ∧ x ≤ v ∧ (∀ y, 1 ≤ y → y < x → isS p (2 * y) ≠ 2) ∧ ∀ a ∈ A, a ∈ p

def unitsC (A : List Int) : List (List Int) := A.map fun x => [x]

theorem models_units {A : List Int} {W : List Bool} : Models (unitsC A) W ↔ ∀ a ∈ A, truth W a = true := by
  constructor
  · intro h a ha
    have := h [a] (List.mem_map_of_mem ha)
    simpa using this
  · intro h c hc
    obtain ⟨a, ha, rfl⟩ := List.mem_map.1 hc
    simpa using h a ha

theorem models_both {A B : List (List Int)} {W : List Bool} : Models (A ++ B) W ↔ Models A W ∧ Models B W := by
  constructor
  · exact fun h => ⟨fun c hc => h c (List.mem_append_left _ hc), fun c hc => h c (List.mem_append_right _ hc)⟩
  · rintro ⟨h1, h2⟩ c hc
    rcases List.mem_append.1 hc with h | h
    · exact h1 c h
    · exact h2 c h

/-! ### What is learned of any literals -/

theorem lrn_ok {v : Int} {L : List (List Int)} {D : List Int} (hD : okA v D []) : okC v (lrnC v L D) ∧ ∀ y ∈ lrnC v L D, neg y ∈ D := by
  have hs := shr_sub (v := v) (L := L) D D
  have hS := okA_sub hD hs
  obtain ⟨p1, p2⟩ := sortI_spec ((shr v L D D).map neg)
  have hmem : ∀ y ∈ lrnC v L D, ∃ z ∈ shr v L D D, y = neg z := fun y hy => by
    unfold lrnC at hy
    rw [p1.mem_iff, List.mem_map] at hy
    obtain ⟨z, hz, rfl⟩ := hy
    exact ⟨z, hz, rfl⟩
  refine ⟨⟨fun l hl => ?_, ?_⟩, fun y hy => ?_⟩
  · obtain ⟨z, hz, rfl⟩ := hmem l hl
    exact neg_lit (hS.lits z hz)
  · have hd : ((shr v L D D).map neg).Pairwise fun a b => a / 2 ≠ b / 2 := by
      rw [List.pairwise_map]
      exact hS.dis.imp fun h => by rw [neg_div, neg_div]; exact h
    have hd2 : (lrnC v L D).Pairwise fun a b => a / 2 ≠ b / 2 := by
      unfold lrnC
      exact (p1.pairwise_iff (fun h e => h e.symm)).2 hd
    unfold lrnC at hd2 ⊢
    exact (p2.and hd2).imp fun h => by have := h.1; have := h.2; omega
  · obtain ⟨z, hz, rfl⟩ := hmem y hy
    rw [neg_neg]; exact hs.subset hz

/-! ### What it answers -/

def wantA (A t : List Int) : Option Int := A.find? fun l => decide (isS t l ≠ 1)

def solA (v : Int) (A : List Int) : Nat → List (List Int) → List Int → List Int → List (List Int) → Bool × List Int × List (List Int) × Nat
  | 0, _, _, _, log => (false, [], log, log.length)
  | n + 1, L, t, s, log =>
    if 0 ≤ (propC L (v + 1).toNat t).2 then
      if lrnC v L (decs (propC L (v + 1).toNat t).1 s) = [] then (false, [], log ++ [[]], log.length)
      else solA v A n (L ++ [lrnC v L (decs (propC L (v + 1).toNat t).1 s)]) (jbackC v (propC L (v + 1).toNat t).1 s (lrnC v L (decs (propC L (v + 1).toNat t).1 s))).1.2.1
        (jbackC v (propC L (v + 1).toNat t).1 s (lrnC v L (decs (propC L (v + 1).toNat t).1 s))).1.2.2 (log ++ [lrnC v L (decs (propC L (v + 1).toNat t).1 s)])
    else match wantA A (propC L (v + 1).toNat t).1 with
      | some l => if isS (propC L (v + 1).toNat t).1 l = 0 then (false, [], log ++ [lrnC v L A], log.length)
        else solA v A n L ((propC L (v + 1).toNat t).1 ++ [l]) (s ++ [((propC L (v + 1).toNat t).1.length : Int)]) log
      | none => if lf v (propC L (v + 1).toNat t).1 = 0 then (true, (propC L (v + 1).toNat t).1, log, log.length)
        else solA v A n L ((propC L (v + 1).toNat t).1 ++ [2 * lf v (propC L (v + 1).toNat t).1 + 1]) (s ++ [((propC L (v + 1).toNat t).1.length : Int)]) log

theorem solA_conf {v : Int} {A : List Int} : ∀ (n : Nat) (L : List (List Int)) (t s : List Int) (log : List (List Int)), log.length ≤ (solA v A n L t s log).2.2.2
  | 0, L, t, s, log => Nat.le_refl _
  | n + 1, L, t, s, log => by
    unfold solA
    split
    · split
      · exact Nat.le_refl _
      · refine Nat.le_trans ?_ (solA_conf n _ _ _ _)
        simp
    · split
      · split
        · exact Nat.le_refl _
        · exact solA_conf n _ _ _ _
      · split
        · exact Nat.le_refl _
        · exact solA_conf n _ _ _ _

theorem solA_nil {v : Int} : ∀ (n : Nat) (L : List (List Int)) (t s : List Int) (log : List (List Int)), solA v [] n L t s log = sol v n L t s log
  | 0, L, t, s, log => rfl
  | n + 1, L, t, s, log => by
    unfold solA sol
    simp only [wantA, List.find?_nil]
    split
    · split
      · rfl
      · exact solA_nil n _ _ _ _
    · split
      · rfl
      · exact solA_nil n _ _ _ _

/-! ### What holds while it runs -/

structure InvA (v : Int) (A : List Int) (L0 : List (List Int)) (t s : List Int) (log : List (List Int)) : Prop where
  ok : okL v (L0 ++ log)
  a : okA v t s
  led : LedK v (L0 ++ log) t s
  dec : DecQ (QA v A) t s
  chain : Chain v L0 log
  mes : log.length ≤ mes v.toNat s t.length

section
variable {v : Int} {A : List Int} {L0 : List (List Int)} {t s : List Int} {log : List (List Int)}

theorem InvA.prop (h : InvA v A L0 t s log) : InvA v A L0 (propC (L0 ++ log) (v + 1).toNat t).1 s log ∧ meas v (propC (L0 ++ log) (v + 1).toNat t).1 s ≤ meas v t s := by
  obtain ⟨hA, u, hu⟩ := propC_okA h.ok (v + 1).toNat h.a
  have hle : YthbkhndapkbgbaaGreat.mes v.toNat s t.length ≤ YthbkhndapkbgbaaGreat.mes v.toNat s (propC (L0 ++ log) (v + 1).toNat t).1.length := mes_mono (by rw [hu]; simp)
  refine ⟨⟨h.ok, hA, h.led.prop h.ok h.a, h.dec.prop h.ok h.a, h.chain, Nat.le_trans h.mes hle⟩, ?_⟩
  unfold meas
  refine Nat.add_le_add_right (Nat.mul_le_mul_right _ ?_) _
  omega

theorem InvA.led_all (h : InvA v A L0 t s log) {Y : List Int} (hY : okA v Y []) (hc : Clo (L0 ++ log) Y) (hd : ∀ d ∈ decs t s, d ∈ Y) : ∀ l ∈ t, l ∈ Y := fun l hl =>
  h.led s.length (Nat.le_refl _) Y hY hc (fun j hj => hd _ (List.mem_map.2 ⟨j, List.mem_range.2 hj, rfl⟩)) l (by rw [keep_len, List.take_length]; exact hl)

theorem InvA.conf (h : InvA v A L0 t s log) (hat : 0 ≤ (propC (L0 ++ log) (v + 1).toNat t).2) : confC v (L0 ++ log) (decs (propC (L0 ++ log) (v + 1).toNat t).1 s) = true := by
  obtain ⟨hP, _⟩ := h.prop
  have hD := okA_decs hP.a
  cases hcf : confC v (L0 ++ log) (decs (propC (L0 ++ log) (v + 1).toNat t).1 s) with
  | true => rfl
  | false =>
    exfalso
    unfold confC at hcf
    rw [decide_eq_false_iff_not] at hcf
    obtain ⟨hY, u, hu⟩ := propC_okA h.ok (v + 1).toNat hD
    have hcl := prop_closed h.ok hD (by omega)
    have hall := hP.led_all hY hcl fun d hd => by rw [hu]; exact List.mem_append_left _ hd
    obtain ⟨_, u2, hu2⟩ := propC_okA h.ok (v + 1).toNat h.a
    have := (prop_sub h.ok hY hcl (v + 1).toNat h.a fun l hl => hall l (by rw [hu2]; exact List.mem_append_left _ hl)).1
    omega

theorem InvA.fail (h : InvA v A L0 t s log) (hat : 0 ≤ (propC (L0 ++ log) (v + 1).toNat t).2) {c : List Int} (hc : c = lrnC v (L0 ++ log) (decs (propC (L0 ++ log) (v + 1).toNat t).1 s)) :
    okC v c ∧ fromC v (L0 ++ log) c = true ∧ (c ≠ [] → ∃ t' s', jbackC v (propC (L0 ++ log) (v + 1).toNat t).1 s c = ((v, (t', s')), 0) ∧ InvA v A L0 t' s' (log ++ [c]) ∧ meas v t' s' < meas v t s) := by
  obtain ⟨hP, hmp⟩ := h.prop
  have hcf := h.conf hat
  generalize (propC (L0 ++ log) (v + 1).toNat t).1 = p at *
  have hD := okA_decs hP.a
  obtain ⟨J, j1, j2, hS, hlen, hm⟩ := lrn_some (L := L0 ++ log) hP.a
  obtain ⟨F, d1, d2⟩ := dec_back hP.a j1 j2 hS hm
  rw [← hc] at F d1 d2
  have hfrom : fromC v (L0 ++ log) c = true := by rw [hc]; exact lrn_from h.ok hD hcf (hc ▸ F.c)
  refine ⟨F.c, hfrom, fun hne => ?_⟩
  have hJ : J ≠ [] := fun e => hne (d1 e)
  obtain ⟨q1, q2, q3⟩ := d2 hJ
  have h0 : givC p s c ≠ 0 := fun e => by
    obtain ⟨J', j, rfl⟩ : ∃ J' j, J = J' ++ [j] := by
      rcases List.eq_nil_or_concat J with h' | ⟨J', j, h'⟩
      · exact absurd h' hJ
      · exact ⟨J', j, by rw [h', List.concat_eq_append]⟩
    rw [lastD_app, e] at q3
    have := (dl_lit hP.a (j2 j (by simp))).1
    omega
  have hB := F.back h0
  have hlt : (toC p s c : Int) < lvl p s (givC p s c) := by
    rcases F.spec with ⟨q, _⟩ | ⟨_, q, _⟩
    · exact absurd q h0
    · exact q
  have hT : toC p s c < s.length := by have := (lvl_range (t := p) (s := s) (l := givC p s c)).2; omega
  have hu := F.unit h0 F.to (Nat.le_refl _) hlt
  refine ⟨_, _, F.jb h0, ⟨?_, hB, ?_, hP.dec.back hP.a hT _, h.chain.snoc hfrom, ?_⟩, ?_⟩
  · rw [← List.append_assoc, okL_append]
    exact ⟨h.ok, fun d hd => by rw [List.mem_singleton] at hd; subst hd; exact F.c⟩
  · rw [← List.append_assoc]
    exact hP.led.back hP.a hT F.c hu
  · have := mes_back hP.a hT (givC p s c)
    have := hP.mes
    rw [List.length_append, List.length_singleton]
    omega
  · refine Nat.lt_of_lt_of_le ?_ hmp
    have e1 := mes_back hP.a hT (givC p s c)
    have e2 := mes_top hP.a
    have e3 := mes_top hB
    have e4 := hP.a.short
    have hv := hP.a.vars
    unfold meas
    have e5 : (s.take (toC p s c)).length = toC p s c := by rw [List.length_take]; omega
    rw [e5]
    generalize YthbkhndapkbgbaaGreat.mes v.toNat s p.length = m0 at *
    generalize YthbkhndapkbgbaaGreat.mes v.toNat (s.take (toC p s c)) (p.take (keep p s (toC p s c)) ++ [givC p s c]).length = m1 at *
    generalize 2 ^ v.toNat = P at *
    have : (P - m0) * (v.toNat + 1) ≥ (P - m1 + 1) * (v.toNat + 1) := Nat.mul_le_mul_right _ (by omega)
    rw [Nat.add_mul] at this
    omega

/-- What a decision leads to. -/
theorem InvA.choose (h : InvA v A L0 t s log) {p : List Int} (hp : p = (propC (L0 ++ log) (v + 1).toNat t).1) {x : Int} (hx : isLit v x) (hf : isS p x = 2) (hq : QA v A p x) :
    InvA v A L0 (p ++ [x]) (s ++ [(p.length : Int)]) log ∧ meas v (p ++ [x]) (s ++ [(p.length : Int)]) < meas v t s := by
  obtain ⟨hP, hmp⟩ := h.prop
  rw [← hp] at hP hmp
  have hv := hP.a.vars
  have hA := hP.a.dec hx hf
  have e1 := mes_dec hP.a x
  refine ⟨⟨h.ok, hA, hP.led.dec hP.a _, hP.dec.dec hP.a hq, h.chain, Nat.le_trans hP.mes e1⟩, Nat.lt_of_lt_of_le ?_ hmp⟩
  have e2 := hA.short
  have hl2 : (s ++ [(p.length : Int)]).length = s.length + 1 := by simp
  have hl3 : (p ++ [x]).length = p.length + 1 := by simp
  have hle : (2 ^ v.toNat - YthbkhndapkbgbaaGreat.mes v.toNat (s ++ [(p.length : Int)]) (p ++ [x]).length) * (v.toNat + 1) ≤ (2 ^ v.toNat - YthbkhndapkbgbaaGreat.mes v.toNat s p.length) * (v.toNat + 1) := Nat.mul_le_mul_right _ (by omega)
  unfold meas
  rw [hl2] at e2 ⊢
  rw [hl3] at e2
  generalize (2 ^ v.toNat - YthbkhndapkbgbaaGreat.mes v.toNat (s ++ [(p.length : Int)]) (p ++ [x]).length) * (v.toNat + 1) = B1 at *
  generalize (2 ^ v.toNat - YthbkhndapkbgbaaGreat.mes v.toNat s p.length) * (v.toNat + 1) = B2 at *
  omega

theorem first_not (P : Nat → Prop) : ∀ n, (∃ k, k < n ∧ (∀ j, j < k → P j) ∧ ¬ P k) ∨ ∀ j, j < n → P j
  | 0 => .inr fun j hj => by omega
  | n + 1 => by
    rcases first_not P n with ⟨k, h1, h2, h3⟩ | h
    · exact .inl ⟨k, by omega, h2, h3⟩
    · by_cases hd : P n
      · refine .inr fun j hj => ?_
        rcases Nat.lt_or_ge j n with h' | h'
        · exact h j h'
        · rw [show j = n from by omega]; exact hd
      · exact .inl ⟨n, by omega, h, hd⟩

theorem both_not {v : Int} {t s : List Int} (h : okA v t s) {x : Int} (h1 : 2 * x ∈ t) (h2 : 2 * x + 1 ∈ t) : False := by
  have ht := (isS_true h.dis).2 h1
  have hf := (isS_false h.dis (l := 2 * x)).2 (by unfold neg; rw [if_pos (by omega)]; exact h2)
  omega

/-- What is true in the end is true in each model that agrees below. -/
theorem InvA.least (h : InvA v A L0 t s log) {W : List Bool} (hm : Models (unitsC A ++ L0) W) (hA : ∀ a ∈ A, isLit v a) {x : Int} (h1 : 1 ≤ x) (h2 : x ≤ v) (hx : 2 * x ∈ t) (hb : ∀ y, 1 ≤ y → y < x → 2 * y ∉ t → truth W (2 * y) = false) : truth W (2 * x) = true := by
  have hv := h.a.vars
  obtain ⟨hmA, hm0⟩ := models_both.1 hm
  rw [models_units] at hmA
  have hM := chain_models hv hm0 h.ok h.chain
  have hY := okA_lits (W := W) hv
  have hcl := clo_lits hv h.ok hM
  rw [← mem_lits (v := v) (by omega)]
  rcases first_not (fun j => dc t s j ∈ litsW v W) s.length with ⟨k, k1, k2, k3⟩ | hall
  · have hmem := dc_mem h.a k1
    rcases h.dec k k1 with hq | ⟨y, e1, e2, e3, e4, e5⟩
    · exact absurd ((mem_lits (hA _ hq)).2 (hmA _ hq)) k3
    · rw [e1] at k3 hmem
      have hty : truth W (2 * y) = true := by
        rw [mem_lits (by omega), truth_odd] at k3
        simpa using k3
      have hny : 2 * y ∉ t := fun h' => both_not h.a h' hmem
      have hxy : x < y := by
        apply Classical.byContradiction
        intro hn
        by_cases hxe : x = y
        · exact hny (hxe ▸ hx)
        · rw [hb y e2 (by omega) hny] at hty; cases hty
      have hS := e4 x h1 hxy
      have hd2 : (t.take (keep t s k)).Pairwise fun a b => a / 2 ≠ b / 2 := h.a.dis.sublist (List.take_sublist ..)
      refine h.led k (by omega) _ hY hcl k2 _ ?_
      rcases isS_cases (t.take (keep t s k)) (2 * x) with h0 | h0 | h0
      · exfalso
        have := List.mem_of_mem_take ((isS_false hd2).1 h0)
        unfold neg at this
        rw [if_pos (by omega)] at this
        exact both_not h.a hx this
      · exact (isS_true hd2).1 h0
      · exact absurd h0 hS
  · exact h.led s.length (Nat.le_refl _) _ hY hcl hall _ (by rw [keep_len, List.take_length]; exact hx)

/-- An assumption that is false: the assumptions have a conflict. -/
theorem InvA.under (h : InvA v A L0 t s log) (hA : okA v A []) {p : List Int} (hp : p = (propC (L0 ++ log) (v + 1).toNat t).1) {l : Int} (hl : l ∈ A) (h0 : isS p l = 0) : confC v (L0 ++ log) A = true := by
  obtain ⟨hP, _⟩ := h.prop
  rw [← hp] at hP
  cases hcf : confC v (L0 ++ log) A with
  | true => rfl
  | false =>
    exfalso
    unfold confC at hcf
    rw [decide_eq_false_iff_not] at hcf
    obtain ⟨hY, u, hu⟩ := propC_okA h.ok (v + 1).toNat hA
    have hcl := prop_closed h.ok hA (by omega)
    have hsub : ∀ a ∈ A, a ∈ (propC (L0 ++ log) (v + 1).toNat A).1 := fun a ha => by rw [hu]; exact List.mem_append_left _ ha
    have hn := (isS_false hP.a.dis).1 h0
    have hall := hP.led_all hY hcl fun d hd => by
      obtain ⟨j, hj, rfl⟩ := List.mem_map.1 hd
      have hj := List.mem_range.1 hj
      rcases hP.dec j hj with hq | ⟨y, _, _, _, _, e5⟩
      · exact hsub _ hq
      · exfalso
        have ht := (isS_true hP.a.dis).2 (List.mem_of_mem_take (e5 l hl))
        omega
    have h1 := (isS_true hY.dis).2 (hsub l hl)
    have h2 := (isS_false hY.dis).2 (hall _ hn)
    omega

end

/-! ### What is answered -/

structure AnsA (v : Int) (A : List Int) (L0 : List (List Int)) (r : Bool × List Int × List (List Int) × Nat) : Prop where
  ok : okL v (L0 ++ r.2.2.1)
  chain : Chain v L0 r.2.2.1
  bnd : r.2.2.2 + 1 ≤ 2 ^ v.toNat
  sat : r.1 = true → LeastM v (unitsC A ++ L0) (mdl v r.2.1) ∧ r.2.2.2 = r.2.2.1.length
  unsat : r.1 = false → ∃ lg c, r.2.2.1 = lg ++ [c] ∧ r.2.2.2 = lg.length ∧ r.2.1 = [] ∧ ∀ x ∈ c, neg x ∈ A

theorem wantA_some {A t : List Int} {l : Int} (h : wantA A t = some l) : l ∈ A ∧ isS t l ≠ 1 := by
  refine ⟨List.mem_of_find?_eq_some h, ?_⟩
  have := List.find?_some h
  simpa using this

theorem wantA_none {v : Int} {A t s : List Int} (ht : okA v t s) (h : wantA A t = none) : ∀ a ∈ A, a ∈ t := fun a ha => by
  have := List.find?_eq_none.1 h a ha
  simp only [decide_eq_true_eq, Decidable.not_not] at this
  exact (isS_true ht.dis).1 this

theorem solA_ok {v : Int} {A : List Int} (hA : okA v A []) {L0 : List (List Int)} : ∀ (n : Nat) {t s : List Int} {log : List (List Int)}, InvA v A L0 t s log → meas v t s < n → AnsA v A L0 (solA v A n (L0 ++ log) t s log)
  | 0, t, s, log, h, hn => by omega
  | n + 1, t, s, log, h, hn => by
    have hP := h.prop.1
    have hbnd : log.length + 1 ≤ 2 ^ v.toNat := by have := h.mes; have := mes_top h.a; omega
    have hv := h.a.vars
    unfold solA
    by_cases hat : 0 ≤ (propC (L0 ++ log) (v + 1).toNat t).2
    · rw [if_pos hat]
      obtain ⟨f1, f2, f3⟩ := h.fail hat rfl
      by_cases hc : lrnC v (L0 ++ log) (decs (propC (L0 ++ log) (v + 1).toNat t).1 s) = []
      · rw [if_pos hc]
        rw [hc] at f1 f2
        refine ⟨?_, h.chain.snoc f2, hbnd, (by simp), fun _ => ⟨log, [], rfl, rfl, rfl, by simp⟩⟩
        show okL v (L0 ++ (log ++ [[]]))
        rw [← List.append_assoc, okL_append]
        exact ⟨h.ok, fun d hd => by rw [List.mem_singleton] at hd; subst hd; exact f1⟩
      · rw [if_neg hc]
        obtain ⟨t', s', e1, e2, e3⟩ := f3 hc
        rw [e1]
        have := solA_ok hA n e2 (by omega)
        rw [← List.append_assoc] at this
        exact this
    · rw [if_neg hat]
      cases hw : wantA A (propC (L0 ++ log) (v + 1).toNat t).1 with
      | some l =>
        obtain ⟨w1, w2⟩ := wantA_some hw
        dsimp only
        by_cases h0 : isS (propC (L0 ++ log) (v + 1).toNat t).1 l = 0
        · rw [if_pos h0]
          have hcf := h.under hA rfl w1 h0
          obtain ⟨c1, c2⟩ := lrn_ok (L := L0 ++ log) hA
          have hfr := lrn_from h.ok hA hcf c1
          refine ⟨?_, h.chain.snoc hfr, hbnd, (by simp), fun _ => ⟨log, _, rfl, rfl, rfl, c2⟩⟩
          show okL v (L0 ++ (log ++ [lrnC v (L0 ++ log) A]))
          rw [← List.append_assoc, okL_append]
          exact ⟨h.ok, fun d hd => by rw [List.mem_singleton] at hd; subst hd; exact c1⟩
        · rw [if_neg h0]
          have h2 : isS (propC (L0 ++ log) (v + 1).toNat t).1 l = 2 := by rcases isS_cases (propC (L0 ++ log) (v + 1).toNat t).1 l with h | h | h <;> omega
          obtain ⟨e1, e2⟩ := h.choose rfl (hA.lits l w1) h2 (.inl w1)
          exact solA_ok hA n e1 (by omega)
      | none =>
        have hall := wantA_none hP.a hw
        dsimp only
        by_cases hl : lf v (propC (L0 ++ log) (v + 1).toNat t).1 = 0
        · rw [if_pos hl]
          have htot : ∀ x, 1 ≤ x → x ≤ v → isS (propC (L0 ++ log) (v + 1).toNat t).1 (2 * x) ≠ 2 := by
            rcases lf_spec (v := v) (by omega) (propC (L0 ++ log) (v + 1).toNat t).1 with ⟨_, h2⟩ | ⟨h1, _⟩
            · exact h2
            · omega
          have hcl := prop_closed h.ok h.a (by omega)
          have hmod := mdl_models hP.a htot h.ok hcl
          refine ⟨h.ok, h.chain, hbnd, fun _ => ⟨⟨mdl_len, ?_, fun W hW hm i hi hpre hMi => ?_⟩, rfl⟩, by simp⟩
          · rw [models_both, models_units]
            exact ⟨fun a ha => by rw [truth_mdl hP.a htot (hA.lits a ha)]; exact decide_eq_true (hall a ha), fun c hc => hmod c (List.mem_append_left _ hc)⟩
          · rw [mdl_get hi] at hMi
            have hx := of_decide_eq_true hMi
            have := hP.least hm hA.lits (x := (i : Int) + 1) (by omega) (by omega) hx (fun y y1 y2 hy => ?_)
            · rw [truth_even, show ((i : Int) + 1 - 1).toNat = i from by omega] at this; exact this
            · have := hpre (y - 1).toNat (by omega)
              rw [mdl_get (by omega), show 2 * (((y - 1).toNat : Int) + 1) = 2 * y from by omega] at this
              rw [truth_even, this]; exact decide_eq_false hy
        · rw [if_neg hl]
          obtain ⟨x1, x2, x3, x4⟩ := (lf_spec (v := v) (by omega) (propC (L0 ++ log) (v + 1).toNat t).1).resolve_left fun h => hl h.1
          have hnone : isS (propC (L0 ++ log) (v + 1).toNat t).1 (2 * lf v (propC (L0 ++ log) (v + 1).toNat t).1 + 1) = 2 := by
            rw [isS_none] at x3 ⊢
            intro a ha he
            exact x3 a ha (by omega)
          obtain ⟨e1, e2⟩ := h.choose rfl (x := 2 * lf v (propC (L0 ++ log) (v + 1).toNat t).1 + 1) (by omega) hnone (.inr ⟨_, rfl, x1, x2, x4, hall⟩)
          exact solA_ok hA n e1 (by omega)

theorem AnsA.none {v : Int} (hv : okV v) {A : List Int} (hA : ∀ a ∈ A, isLit v a) {L0 : List (List Int)} {r : Bool × List Int × List (List Int) × Nat} (h : AnsA v A L0 r) (hr : r.1 = false) (W : List Bool) : ¬ Models (unitsC A ++ L0) W := by
  intro hm
  obtain ⟨hmA, hm0⟩ := models_both.1 hm
  rw [models_units] at hmA
  obtain ⟨lg, c, e, _, _, hc⟩ := h.unsat hr
  have := chain_models hv hm0 h.ok h.chain c (by rw [e]; simp)
  obtain ⟨x, hx, ht⟩ := List.any_eq_true.1 this
  have hlit := hA _ (hc x hx)
  have h1 := hmA _ (hc x hx)
  have hxl : 2 ≤ x := by
    unfold neg at hlit
    split at hlit <;> omega
  rw [truth_neg hxl, ht] at h1
  cases h1

end Go.Proofs.YthbkhndapkbgbaaGreat
