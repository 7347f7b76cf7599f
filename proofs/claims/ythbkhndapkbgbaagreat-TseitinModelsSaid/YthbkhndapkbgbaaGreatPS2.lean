/- . -/
import Derived.Test.YthbkhndapkbgbaaGreatPS1
namespace Go.Proofs.YthbkhndapkbgbaaGreat
open Go Go.Proofs.YthbkhndapkbgbaaGreat.R
set_option linter.unusedVariables false


def lf (v : Int) (t : List Int) : Int := ((allL v.toNat).find? fun x => decide (isS t (2 * x) = 2)).getD 0

theorem lf_spec {v : Int} (hv : 0 ≤ v) (t : List Int) : (lf v t = 0 ∧ ∀ x, 1 ≤ x → x ≤ v → isS t (2 * x) ≠ 2) ∨
    (1 ≤ lf v t ∧ lf v t ≤ v ∧ isS t (2 * lf v t) = 2 ∧ ∀ y, 1 ≤ y → y < lf v t → isS t (2 * y) ≠ 2) := by
  unfold lf
  cases hf : (allL v.toNat).find? fun x => decide (isS t (2 * x) = 2) with
  | none =>
    refine .inl ⟨rfl, fun x h1 h2 h3 => ?_⟩
    have := List.find?_eq_none.1 hf x (allL_mem.2 (by omega))
    simp [h3] at this
  | some b =>
    obtain ⟨h1, i, hi, h2, h3⟩ := List.find?_eq_some_iff_getElem.1 hf
    have hb : b ∈ allL v.toNat := h2 ▸ List.getElem_mem hi
    have hb' := allL_mem.1 hb
    refine .inr ⟨hb'.1, by show b ≤ v; omega, by simpa using h1, fun y y1 y2 y3 => ?_⟩
    have e : ∀ j (hj : j < (allL v.toNat).length), (allL v.toNat)[j] = (j : Int) + 1 := fun j hj => by simp [allL]
    rw [e] at h2
    have y2' : y < b := y2
    rw [allL_len] at hi
    have := h3 (y.toNat - 1) (by omega)
    rw [e, show ((y.toNat - 1 : Nat) : Int) + 1 = y from by omega] at this
    simp [y3] at this


def sol (v : Int) : Nat → List (List Int) → List Int → List Int → List (List Int) → Bool × List Int × List (List Int) × Nat
  | 0, _, _, _, log => (false, [], log, log.length)
  | n + 1, L, t, s, log =>
    if 0 ≤ (propC L (v + 1).toNat t).2 then
      if lrnC v L (decs (propC L (v + 1).toNat t).1 s) = [] then (false, [], log ++ [[]], log.length)
      else sol v n (L ++ [lrnC v L (decs (propC L (v + 1).toNat t).1 s)]) (jbackC v (propC L (v + 1).toNat t).1 s (lrnC v L (decs (propC L (v + 1).toNat t).1 s))).1.2.1
        (jbackC v (propC L (v + 1).toNat t).1 s (lrnC v L (decs (propC L (v + 1).toNat t).1 s))).1.2.2 (log ++ [lrnC v L (decs (propC L (v + 1).toNat t).1 s)])
    else if lf v (propC L (v + 1).toNat t).1 = 0 then (true, (propC L (v + 1).toNat t).1, log, log.length)
    else sol v n L ((propC L (v + 1).toNat t).1 ++ [2 * lf v (propC L (v + 1).toNat t).1 + 1]) (s ++ [((propC L (v + 1).toNat t).1.length : Int)]) log

theorem sol_conf {v : Int} : ∀ (n : Nat) (L : List (List Int)) (t s : List Int) (log : List (List Int)), log.length ≤ (sol v n L t s log).2.2.2
  | 0, L, t, s, log => Nat.le_refl _
  | n + 1, L, t, s, log => by
    unfold sol
    split
    · split
      · exact Nat.le_refl _
      · refine Nat.le_trans ?_ (sol_conf n _ _ _ _)
        simp
    · split
      · exact Nat.le_refl _
      · exact sol_conf n _ _ _ _


theorem conf_congr {v : Int} {L : List (List Int)} (hL : okL v L) {a b : List Int} (ha : okA v a []) (hb : okA v b []) (h : ∀ x, x ∈ a ↔ x ∈ b) : confC v L a = confC v L b := by
  have one : ∀ {a b : List Int}, okA v a [] → okA v b [] → (∀ x ∈ b, x ∈ a) → confC v L a = false → confC v L b = false := by
    intro a b ha hb h hc
    unfold confC at hc ⊢
    rw [decide_eq_false_iff_not] at hc ⊢
    obtain ⟨hY, u, hu⟩ := propC_okA hL (v + 1).toNat ha
    have := (prop_sub hL hY (prop_closed hL ha (by omega)) (v + 1).toNat hb fun l hl => by rw [hu]; exact List.mem_append_left _ (h l hl)).1
    omega
  cases h1 : confC v L a with
  | false => exact (one ha hb (fun x hx => (h x).2 hx) h1).symm
  | true =>
    cases h2 : confC v L b with
    | true => rfl
    | false => rw [one hb ha (fun x hx => (h x).1 hx) h2] at h1; cases h1

theorem shr_conf {v : Int} {L : List (List Int)} : ∀ (r o : List Int), confC v L o = true → confC v L (shr v L r o) = true
  | [], o, h => h
  | d :: r, o, h => by
    unfold shr
    split
    · rename_i h1; exact shr_conf r _ h1
    · exact shr_conf r _ h

theorem lrn_from {v : Int} {L : List (List Int)} (hL : okL v L) {D : List Int} (hD : okA v D []) (hc : confC v L D = true) (hC : okC v (lrnC v L D)) : fromC v L (lrnC v L D) = true := by
  have h1 := shr_conf D D hc
  have hs := shr_sub (v := v) (L := L) D D
  unfold fromC
  rw [← h1]
  refine conf_congr hL (okA_neg hD.vars hC) (okA_sub hD hs) fun x => ?_
  obtain ⟨p1, _⟩ := sortI_spec ((shr v L D D).map neg)
  rw [List.mem_map]
  constructor
  · rintro ⟨y, hy, rfl⟩
    unfold lrnC at hy
    rw [p1.mem_iff, List.mem_map] at hy
    obtain ⟨z, hz, rfl⟩ := hy
    rw [neg_neg]; exact hz
  · intro hx
    exact ⟨neg x, by unfold lrnC; rw [p1.mem_iff]; exact List.mem_map_of_mem hx, neg_neg⟩


def Chain (v : Int) (L0 log : List (List Int)) : Prop := ∀ i (hi : i < log.length), fromC v (L0 ++ log.take i) log[i] = true

structure Inv (v : Int) (L0 : List (List Int)) (t s : List Int) (log : List (List Int)) : Prop where
  ok : okL v (L0 ++ log)
  a : okA v t s
  led : LedK v (L0 ++ log) t s
  dec : Dec v t s
  chain : Chain v L0 log
  full : ∀ c ∈ log, c ≠ []
  mes : log.length ≤ mes v.toNat s t.length

def meas (v : Int) (t s : List Int) : Nat := (2 ^ v.toNat - mes v.toNat s t.length) * (v.toNat + 1) + (v.toNat - s.length)

theorem Chain.snoc {v : Int} {L0 log : List (List Int)} (h : Chain v L0 log) {c : List Int} (hc : fromC v (L0 ++ log) c = true) : Chain v L0 (log ++ [c]) := by
  intro i hi
  rw [List.length_append, List.length_singleton] at hi
  rcases Nat.lt_or_ge i log.length with hlt | hge
  · rw [List.take_append_of_le_length (by omega), List.getElem_append_left hlt]
    exact h i hlt
  · have : i = log.length := by omega
    subst this
    simpa using hc

section
variable {v : Int} {L0 : List (List Int)} {t s : List Int} {log : List (List Int)}

theorem Inv.prop (h : Inv v L0 t s log) : Inv v L0 (propC (L0 ++ log) (v + 1).toNat t).1 s log ∧ meas v (propC (L0 ++ log) (v + 1).toNat t).1 s ≤ meas v t s := by
  obtain ⟨hA, u, hu⟩ := propC_okA h.ok (v + 1).toNat h.a
  have hle : YthbkhndapkbgbaaGreat.mes v.toNat s t.length ≤ YthbkhndapkbgbaaGreat.mes v.toNat s (propC (L0 ++ log) (v + 1).toNat t).1.length := mes_mono (by rw [hu]; simp)
  refine ⟨⟨h.ok, hA, h.led.prop h.ok h.a, h.dec.prop h.ok h.a, h.chain, h.full, Nat.le_trans h.mes hle⟩, ?_⟩
  unfold meas
  refine Nat.add_le_add_right (Nat.mul_le_mul_right _ ?_) _
  omega

theorem Inv.led_all (h : Inv v L0 t s log) {Y : List Int} (hY : okA v Y []) (hc : Clo (L0 ++ log) Y) (hd : ∀ d ∈ decs t s, d ∈ Y) : ∀ l ∈ t, l ∈ Y := fun l hl =>
  h.led s.length (Nat.le_refl _) Y hY hc (fun j hj => hd _ (List.mem_map.2 ⟨j, List.mem_range.2 hj, rfl⟩)) l (by rw [keep_len, List.take_length]; exact hl)

theorem Inv.conf (h : Inv v L0 t s log) (hat : 0 ≤ (propC (L0 ++ log) (v + 1).toNat t).2) : confC v (L0 ++ log) (decs (propC (L0 ++ log) (v + 1).toNat t).1 s) = true := by
  obtain ⟨hP, _⟩ := h.prop
  have hD := okA_decs hP.a
  cases hcf : confC v (L0 ++ log) (decs (propC (L0 ++ log) (v + 1).toNat t).1 s) with
  | true => rfl
  | false =>
    exfalso
    unfold confC at hcf
    rw [decide_eq_false_iff_not] at hcf
    obtain ⟨hY, u, hu⟩ := propC_okA h.ok (v + 1).toNat hD
    have hcl := prop_closed h.ok hD (by omega)
    have hall := hP.led_all hY hcl fun d hd => by rw [hu]; exact List.mem_append_left _ hd
    obtain ⟨_, u2, hu2⟩ := propC_okA h.ok (v + 1).toNat h.a
    have := (prop_sub h.ok hY hcl (v + 1).toNat h.a fun l hl => hall l (by rw [hu2]; exact List.mem_append_left _ hl)).1
    omega

theorem Inv.fail (h : Inv v L0 t s log) (hat : 0 ≤ (propC (L0 ++ log) (v + 1).toNat t).2) {c : List Int} (hc : c = lrnC v (L0 ++ log) (decs (propC (L0 ++ log) (v + 1).toNat t).1 s)) :
    okC v c ∧ fromC v (L0 ++ log) c = true ∧ (c ≠ [] → ∃ t' s', jbackC v (propC (L0 ++ log) (v + 1).toNat t).1 s c = ((v, (t', s')), 0) ∧ Inv v L0 t' s' (log ++ [c]) ∧ meas v t' s' < meas v t s) := by
  obtain ⟨hP, hmp⟩ := h.prop
  have hcf := h.conf hat
  generalize (propC (L0 ++ log) (v + 1).toNat t).1 = p at *
  have hD := okA_decs hP.a
  obtain ⟨J, j1, j2, hS, hlen, hm⟩ := lrn_some (L := L0 ++ log) hP.a
  obtain ⟨F, d1, d2⟩ := dec_back hP.a j1 j2 hS hm
  rw [← hc] at F d1 d2
  have hfrom : fromC v (L0 ++ log) c = true := by rw [hc]; exact lrn_from h.ok hD hcf (hc ▸ F.c)
  refine ⟨F.c, hfrom, fun hne => ?_⟩
  have hJ : J ≠ [] := fun e => hne (d1 e)
  obtain ⟨q1, q2, q3⟩ := d2 hJ
  have h0 : givC p s c ≠ 0 := fun e => by
    obtain ⟨J', j, rfl⟩ : ∃ J' j, J = J' ++ [j] := by
      rcases List.eq_nil_or_concat J with h' | ⟨J', j, h'⟩
      · exact absurd h' hJ
      · exact ⟨J', j, by rw [h', List.concat_eq_append]⟩
    rw [lastD_app, e] at q3
    have := (dl_lit hP.a (j2 j (by simp))).1
    omega
  have hB := F.back h0
  have hlt : (toC p s c : Int) < lvl p s (givC p s c) := by
    rcases F.spec with ⟨q, _⟩ | ⟨_, q, _⟩
    · exact absurd q h0
    · exact q
  have hT : toC p s c < s.length := by have := (lvl_range (t := p) (s := s) (l := givC p s c)).2; omega
  have hu := F.unit h0 F.to (Nat.le_refl _) hlt
  refine ⟨_, _, F.jb h0, ⟨?_, hB, ?_, hP.dec.back hP.a hT _, h.chain.snoc hfrom, fun d hd => ?_, ?_⟩, ?_⟩
  · rw [← List.append_assoc, okL_append]
    exact ⟨h.ok, fun d hd => by rw [List.mem_singleton] at hd; subst hd; exact F.c⟩
  · rw [← List.append_assoc]
    exact hP.led.back hP.a hT F.c hu
  · rcases List.mem_append.1 hd with hd | hd
    · exact h.full d hd
    · rw [List.mem_singleton] at hd; subst hd; exact hne
  · have := mes_back hP.a hT (givC p s c)
    have := hP.mes
    rw [List.length_append, List.length_singleton]
    omega
  · refine Nat.lt_of_lt_of_le ?_ hmp
    have e1 := mes_back hP.a hT (givC p s c)
    have e2 := mes_top hP.a
    have e3 := mes_top hB
    have e4 := hP.a.short
    have hv := hP.a.vars
    unfold meas
    have e5 : (s.take (toC p s c)).length = toC p s c := by rw [List.length_take]; omega
    rw [e5]
    generalize YthbkhndapkbgbaaGreat.mes v.toNat s p.length = m0 at *
    generalize YthbkhndapkbgbaaGreat.mes v.toNat (s.take (toC p s c)) (p.take (keep p s (toC p s c)) ++ [givC p s c]).length = m1 at *
    generalize 2 ^ v.toNat = P at *
    have : (P - m0) * (v.toNat + 1) ≥ (P - m1 + 1) * (v.toNat + 1) := Nat.mul_le_mul_right _ (by omega)
    rw [Nat.add_mul] at this
    omega

theorem Inv.choose (h : Inv v L0 t s log) (hl : lf v (propC (L0 ++ log) (v + 1).toNat t).1 ≠ 0) :
    Inv v L0 ((propC (L0 ++ log) (v + 1).toNat t).1 ++ [2 * lf v (propC (L0 ++ log) (v + 1).toNat t).1 + 1]) (s ++ [((propC (L0 ++ log) (v + 1).toNat t).1.length : Int)]) log ∧
      meas v ((propC (L0 ++ log) (v + 1).toNat t).1 ++ [2 * lf v (propC (L0 ++ log) (v + 1).toNat t).1 + 1]) (s ++ [((propC (L0 ++ log) (v + 1).toNat t).1.length : Int)]) < meas v t s := by
  obtain ⟨hP, hmp⟩ := h.prop
  generalize (propC (L0 ++ log) (v + 1).toNat t).1 = p at *
  have hv := hP.a.vars
  obtain ⟨x1, x2, x3, x4⟩ := (lf_spec (v := v) (by omega) p).resolve_left fun h => hl h.1
  generalize lf v p = x at *
  have hnone : isS p (2 * x + 1) = 2 := by
    rw [isS_none] at x3 ⊢
    intro a ha he
    exact x3 a ha (by omega)
  have hA := hP.a.dec (x := 2 * x + 1) (by omega) hnone
  have e1 := mes_dec hP.a (2 * x + 1)
  refine ⟨⟨h.ok, hA, hP.led.dec hP.a _, hP.dec.dec hP.a x1 x2 x4, h.chain, h.full, Nat.le_trans hP.mes e1⟩, Nat.lt_of_lt_of_le ?_ hmp⟩
  have e2 := hA.short
  have hl2 : (s ++ [(p.length : Int)]).length = s.length + 1 := by simp
  have hl3 : (p ++ [2 * x + 1]).length = p.length + 1 := by simp
  have hle : (2 ^ v.toNat - YthbkhndapkbgbaaGreat.mes v.toNat (s ++ [(p.length : Int)]) (p ++ [2 * x + 1]).length) * (v.toNat + 1) ≤ (2 ^ v.toNat - YthbkhndapkbgbaaGreat.mes v.toNat s p.length) * (v.toNat + 1) := Nat.mul_le_mul_right _ (by omega)
  unfold meas
  rw [hl2] at e2 ⊢
  rw [hl3] at e2
  generalize (2 ^ v.toNat - YthbkhndapkbgbaaGreat.mes v.toNat (s ++ [(p.length : Int)]) (p ++ [2 * x + 1]).length) * (v.toNat + 1) = A at *
  generalize (2 ^ v.toNat - YthbkhndapkbgbaaGreat.mes v.toNat s p.length) * (v.toNat + 1) = B at *
  omega

end

end Go.Proofs.YthbkhndapkbgbaaGreat
