/- Under assumptions, of plain values: when there is no model, and the core. -/
import Derived.Test.YthbkhndapkbgbaaGreatPS5
import Derived.Test.YthbkhndapkbgbaaGreatPU1
namespace Go.Proofs.YthbkhndapkbgbaaGreat
open Go Go.Proofs.YthbkhndapkbgbaaGreat.R
set_option linter.unusedVariables false

/-! ### No model -/

def noneC (v : Int) (L : List (List Int)) (A : List Int) : Bool := !(solR v (unitsC A ++ L)).1

section
variable {v : Int} {L L' : List (List Int)} {A B : List Int}

theorem okL_units (h : ∀ a ∈ A, isLit v a) : okL v (unitsC A) := fun c hc => by
  obtain ⟨a, ha, rfl⟩ := List.mem_map.1 hc
  exact ⟨fun l hl => by rw [List.mem_singleton] at hl; subst hl; exact h _ ha, List.pairwise_singleton ..⟩

theorem okL_asm (hL : okL v L) (h : ∀ a ∈ A, isLit v a) : okL v (unitsC A ++ L) := okL_append.2 ⟨okL_units h, hL⟩

theorem noneC_iff (hv : okV v) (hL : okL v L) (hA : ∀ a ∈ A, isLit v a) : noneC v L A = true ↔ ∀ W, ¬ Models (unitsC A ++ L) W := by
  have h := solR_ok hv (okL_asm hL hA)
  unfold noneC
  cases hs : (solR v (unitsC A ++ L)).1 with
  | true => exact ⟨fun e => (by cases e), fun e => absurd (h.sat hs).1.2.1 (e _)⟩
  | false => exact ⟨fun _ => h.none hv hs, fun _ => rfl⟩

theorem models_sub (h : ∀ a ∈ A, a ∈ B) {W : List Bool} (hm : Models (unitsC B ++ L) W) : Models (unitsC A ++ L) W := by
  rw [models_both, models_units] at hm ⊢
  exact ⟨fun a ha => hm.1 a (h a ha), hm.2⟩

theorem noneC_mono (hv : okV v) (hL : okL v L) (hB : ∀ a ∈ B, isLit v a) (h : ∀ a ∈ A, a ∈ B) (hn : noneC v L A = true) : noneC v L B = true := by
  rw [noneC_iff hv hL fun a ha => hB a (h a ha)] at hn
  rw [noneC_iff hv hL hB]
  exact fun W hW => hn W (models_sub h hW)

theorem noneC_congr (hv : okV v) (hL : okL v L) (hL' : okL v L') (hA : ∀ a ∈ A, isLit v a) (h : ∀ W, Models L W ↔ Models L' W) : noneC v L A = noneC v L' A := by
  rw [Bool.eq_iff_iff, noneC_iff hv hL hA, noneC_iff hv hL' hA]
  constructor
  · exact fun hn W hW => hn W (models_both.2 ⟨(models_both.1 hW).1, (h W).2 (models_both.1 hW).2⟩)
  · exact fun hn W hW => hn W (models_both.2 ⟨(models_both.1 hW).1, (h W).1 (models_both.1 hW).2⟩)

/-! ### The core -/

def coreC (v : Int) (L : List (List Int)) : List Int → List Int → List Int
  | [], o => o
  | d :: r, o => coreC v L r (if noneC v L (rm d o) then rm d o else o)

theorem coreC_sub : ∀ (r o : List Int), (coreC v L r o).Sublist o
  | [], o => List.Sublist.refl _
  | d :: r, o => by
    unfold coreC
    split
    · exact (coreC_sub r _).trans (rm_sub d o)
    · exact coreC_sub r o

theorem coreC_none : ∀ (r : List Int) {o : List Int}, noneC v L o = true → noneC v L (coreC v L r o) = true
  | [], o, h => h
  | d :: r, o, h => by
    unfold coreC
    split
    · rename_i h2; exact coreC_none r h2
    · exact coreC_none r h

theorem rm_nodup {d : Int} : ∀ {l : List Int}, l.Nodup → ∀ y, y ∈ rm d l ↔ y ∈ l ∧ y ≠ d
  | [], _, y => by simp [rm]
  | a :: r, h, y => by
    rw [List.nodup_cons] at h
    unfold rm
    split
    · rename_i e
      subst e
      rw [List.mem_cons]
      exact ⟨fun hy => ⟨.inr hy, fun e => h.1 (e ▸ hy)⟩, fun hy => hy.1.resolve_left hy.2⟩
    · rename_i e
      rw [List.mem_cons, List.mem_cons, rm_nodup h.2 y]
      constructor
      · rintro (rfl | hy)
        · exact ⟨.inl rfl, e⟩
        · exact ⟨.inr hy.1, hy.2⟩
      · rintro ⟨rfl | hy, h2⟩
        · exact .inl rfl
        · exact .inr ⟨hy, h2⟩

theorem coreC_need (hv : okV v) (hL : okL v L) : ∀ (r : List Int) {o : List Int}, o.Nodup → (∀ a ∈ o, isLit v a) → ∀ x ∈ r, x ∈ coreC v L r o → noneC v L (rm x (coreC v L r o)) = false
  | [], o, hn, ho, x, hx, _ => by cases hx
  | d :: r, o, hn, ho, x, hx, hc => by
    unfold coreC at hc ⊢
    have hsub : ∀ {o' : List Int}, o'.Sublist o → o'.Nodup ∧ ∀ a ∈ o', isLit v a := fun h => ⟨hn.sublist h, fun a ha => ho a (h.subset ha)⟩
    rcases List.mem_cons.1 hx with rfl | hx
    · by_cases h2 : noneC v L (rm x o) = true
      · rw [if_pos h2] at hc
        have := (coreC_sub r _).subset hc
        rw [rm_nodup hn] at this
        exact absurd rfl this.2
      · rw [if_neg h2]
        cases h3 : noneC v L (rm x (coreC v L r o)) with
        | false => rfl
        | true =>
          refine absurd (noneC_mono hv hL (fun a ha => ho a ((rm_sub x o).subset ha)) (fun a ha => ?_) h3) h2
          have hcs := coreC_sub (v := v) (L := L) r o
          rw [rm_nodup (hn.sublist hcs)] at ha
          rw [rm_nodup hn]
          exact ⟨hcs.subset ha.1, ha.2⟩
    · split
      · rename_i h2
        rw [if_pos h2] at hc
        obtain ⟨n1, n2⟩ := hsub (rm_sub d o)
        exact coreC_need hv hL r n1 n2 x hx hc
      · rename_i h2
        rw [if_neg h2] at hc
        exact coreC_need hv hL r hn ho x hx hc

theorem coreC_congr (hv : okV v) (hL : okL v L) (hL' : okL v L') (h : ∀ W, Models L W ↔ Models L' W) : ∀ (r : List Int) {o : List Int}, (∀ a ∈ o, isLit v a) → coreC v L r o = coreC v L' r o
  | [], o, _ => rfl
  | d :: r, o, ho => by
    unfold coreC
    have h1 : ∀ a ∈ rm d o, isLit v a := fun a ha => ho a ((rm_sub d o).subset ha)
    rw [noneC_congr hv hL hL' h1 h]
    split
    · exact coreC_congr hv hL hL' h r h1
    · exact coreC_congr hv hL hL' h r ho

theorem coreC_append : ∀ (r s : List Int) (o : List Int), coreC v L (r ++ s) o = coreC v L s (coreC v L r o)
  | [], s, o => rfl
  | d :: r, s, o => by
    show coreC v L (r ++ s) _ = coreC v L s (coreC v L r _)
    rw [coreC_append r s]

theorem rm_app {d : Int} : ∀ {o s : List Int}, d ∈ o → rm d (o ++ s) = rm d o ++ s
  | a :: r, s, h => by
    rw [List.cons_append]
    unfold rm
    split
    · rfl
    · rename_i e
      rw [rm_app ((List.mem_cons.1 h).resolve_left fun h => e h.symm), List.cons_append]

/-- One assumption more. -/
theorem coreC_more (hv : okV v) (hL : okL v L) {x : Int} : ∀ (r : List Int) {o : List Int}, r.Nodup → (∀ d ∈ r, d ∈ o) → (∀ a ∈ o ++ [x], isLit v a) →
    ∃ G : List Int, coreC v L r (o ++ [x]) = G ++ [x] ∧ G.Sublist o ∧ (noneC v L G = true → coreC v L r o = G)
  | [], o, _, _, _ => ⟨o, rfl, List.Sublist.refl _, fun _ => rfl⟩
  | d :: r, o, hr, hd, ho => by
    rw [List.nodup_cons] at hr
    have hdo := hd d (List.mem_cons_self ..)
    have h1 : ∀ a ∈ rm d o ++ [x], isLit v a := fun a ha => ho a (by
      rcases List.mem_append.1 ha with h | h
      · exact List.mem_append_left _ ((rm_sub d o).subset h)
      · exact List.mem_append_right _ h)
    have h2 : ∀ a ∈ rm d o, isLit v a := fun a ha => h1 a (List.mem_append_left _ ha)
    unfold coreC
    rw [rm_app hdo]
    by_cases hn : noneC v L (rm d o ++ [x]) = true
    · rw [if_pos hn]
      obtain ⟨G, g1, g2, g3⟩ := coreC_more hv hL r (o := rm d o) hr.2 (fun y hy => rm_mem (hd y (List.mem_cons_of_mem _ hy)) fun e => hr.1 (e ▸ hy)) h1
      refine ⟨G, g1, g2.trans (rm_sub d o), fun hG => ?_⟩
      rw [if_pos (noneC_mono hv hL h2 g2.subset hG), g3 hG]
    · rw [if_neg hn]
      obtain ⟨G, g1, g2, g3⟩ := coreC_more hv hL r (o := o) hr.2 (fun y hy => hd y (List.mem_cons_of_mem _ hy)) ho
      refine ⟨G, g1, g2, fun hG => ?_⟩
      rw [if_neg (fun h => hn (noneC_mono hv hL h1 (fun a ha => List.mem_append_left _ ha) h)), g3 hG]

end

/-! ### The answer -/

def solAR (v : Int) (A : List Int) (L : List (List Int)) : Bool × List Int × List (List Int) × Nat := solA v A (meas v [] [] + 1) L [] [] []

theorem invA0 {v : Int} (hv : okV v) {A : List Int} {L : List (List Int)} (hL : okL v L) : InvA v A L [] [] [] where
  ok := by rw [List.append_nil]; exact hL
  a := ⟨hv, by simp, List.Pairwise.nil, List.Pairwise.nil, by simp⟩
  led := LedK.empty hv
  dec := DecQ.empty
  chain := fun i hi => by simp at hi
  mes := Nat.zero_le _

theorem solAR_ok {v : Int} {A : List Int} (hA : okA v A []) {L : List (List Int)} (hL : okL v L) : AnsA v A L (solAR v A L) := by
  have := solA_ok hA (meas v [] [] + 1) (invA0 hA.vars hL) (Nat.lt_succ_self _)
  rwa [List.append_nil] at this

theorem solAR_none {v : Int} {A : List Int} (hA : okA v A []) {L : List (List Int)} (hL : okL v L) : (solAR v A L).1 = !noneC v L A := by
  have h := solAR_ok hA hL
  have hi := noneC_iff hA.vars hL hA.lits
  cases hs : (solAR v A L).1 with
  | true =>
    cases hn : noneC v L A with
    | false => rfl
    | true => exact absurd (h.sat hs).1.2.1 (hi.1 hn _)
  | false => rw [hi.2 (h.none hA.vars hA.lits hs)]; rfl

def ansA (v : Int) (A : List Int) (L : List (List Int)) : Ansr :=
  ((solAR v A L).1, if (solAR v A L).1 then mdl v (solAR v A L).2.1 else [], if (solAR v A L).1 then [] else coreC v L A A, (solAR v A L).2.2.1, ((solAR v A L).2.2.2 : Int))
def runA (v b : Int) (A : List Int) (L : List (List Int)) : Ans := if ((solAR v A L).2.2.2 : Int) ≤ b then (ansA v A L, 0) else (ans0, 55)

theorem logA_len {v : Int} {A : List Int} {L : List (List Int)} {r : Bool × List Int × List (List Int) × Nat} (h : AnsA v A L r) : r.2.2.1.length ≤ 2 ^ v.toNat := by
  have hb := h.bnd
  cases hr : r.1 with
  | true => have := (h.sat hr).2; omega
  | false =>
    obtain ⟨lg, c, e, e2, _⟩ := h.unsat hr
    rw [e, List.length_append, List.length_singleton]; omega

theorem smallA {v : Int} {A : List Int} (hA : okA v A []) {L : List (List Int)} (hL : okL v L) (hp : 2 ^ v.toNat ≤ 4096) : AnsS (ansA v A L) where
  m := by
    unfold ansA
    have := hA.vars
    cases (solAR v A L).1 with
    | true => show (mdl v _).length ≤ _; rw [mdl_len]; omega
    | false => simp
  co := by
    unfold ansA
    have h1 := hA.short
    have h2 := hA.vars
    have h3 := (coreC_sub (v := v) (L := L) A A).length_le
    cases (solAR v A L).1 with
    | true => simp
    | false => show (coreC v L A A).length ≤ _; omega
  log := by have := logA_len (solAR_ok hA hL); show (solAR v A L).2.2.1.length ≤ _; omega
  cl := fun c hc => by
    have := ((solAR_ok hA hL).ok c (List.mem_append_right _ hc)).len hA.vars
    omega

end Go.Proofs.YthbkhndapkbgbaaGreat
