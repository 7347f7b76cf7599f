/- Logs, of plain values: what follows. -/
import Derived.Test.YtcgbilghglbgaaaP5
namespace Go.Proofs.Ytcgbilghglbgaaa
open Go Go.Proofs.Ytcgbilghglbgaaa.R
set_option linter.unusedVariables false

/-- Does propagation have a conflict? -/
def confC (v : Int) (L : List (List Int)) (t : List Int) : Bool := decide ((propC L (v + 1).toNat t).2 ≥ 0)

def fromC (v : Int) (L : List (List Int)) (c : List Int) : Bool := confC v L (c.map neg)

theorem okA_neg {v : Int} (hv : okV v) {c : List Int} (hc : okC v c) : okA v (c.map neg) [] where
  vars := hv
  lits := fun l hl => by
    obtain ⟨x, hx, rfl⟩ := List.mem_map.1 hl
    exact neg_lit (hc.1 x hx)
  dis := by
    rw [List.pairwise_map]
    exact hc.2.imp fun h => by rw [neg_div, neg_div]; omega
  inc := List.Pairwise.nil
  bnd := by simp

abbrev ranged (L : List (List Int)) : Prop := ∀ c ∈ L, c.length ≤ 140737488351232 ∧ ∀ x ∈ c, in64 x

theorem okL_append {v : Int} {a b : List (List Int)} : okL v (a ++ b) ↔ okL v a ∧ okL v b := by
  unfold okL
  constructor
  · exact fun h => ⟨fun c hc => h c (List.mem_append_left _ hc), fun c hc => h c (List.mem_append_right _ hc)⟩
  · rintro ⟨h1, h2⟩ c hc
    rcases List.mem_append.1 hc with hc | hc
    · exact h1 c hc
    · exact h2 c hc

def folC (v : Int) (L : List (List Int)) (c : List Int) : Bool × Int :=
  if okV v then (if L.length > 20000 then (false, 4) else if okL v L then (if okC v c then (fromC v L c, 0) else (false, 8)) else (false, 8)) else (false, 2)

def chkC (v : Int) : List (List Int) → Int → List (List Int) → Int
  | _, _, [] => -1
  | L, i, c :: r => if fromC v L c then chkC v (L ++ [c]) (i + 1) r else i

def chkR (v : Int) (l log : List (List Int)) : Int × Int :=
  if okV v then (if l.length + log.length > 20000 then (0, 4) else if okL v (l ++ log) then (chkC v l 0 log, 0) else (0, 8)) else (0, 2)

/-! ### The reference: literals that are true, round by round -/

def lefC (o c : List Int) : List Int := c.filter (fun l => decide (neg l ∉ o))

def implP (o : List Int) : List (List Int) → List Int × Bool
  | [] => (o, false)
  | c :: r => if (lefC o c).length = 0 then (o, true) else if (lefC o c).length = 1 ∧ c.any (fun l => decide (l ∈ o)) = false then implP (o ++ lefC o c) r else implP o r

abbrev closed (L : List (List Int)) (Y : List Int) : Prop := ∀ c ∈ L, (stC Y c).1 ≠ 0 ∧ (stC Y c).1 ≠ 3

theorem lefC_mem {v : Int} {o s : List Int} (h : okA v o s) {c : List Int} {l : Int} : l ∈ lefC o c ↔ l ∈ c ∧ isS o l ≠ 0 := by
  unfold lefC
  rw [List.mem_filter, decide_eq_true_iff, ← isS_false h.dis]

theorem lefC_nodup {v : Int} {o c : List Int} (h : okC v c) : (lefC o c).Nodup := h.nodup.filter _

theorem lefC_unit {v : Int} {o s c : List Int} (h : okA v o s) (hc : okC v c) (h1 : (lefC o c).length = 1) (hd : c.any (fun l => decide (l ∈ o)) = false) : ∃ x, lefC o c = [x] ∧ x ∈ c ∧ isS o x = 2 ∧ ∀ l ∈ c, l ≠ x → isS o l = 0 := by
  obtain ⟨x, hx⟩ := List.length_eq_one_iff.1 h1
  have hm := (lefC_mem h (c := c) (l := x)).1 (by rw [hx]; simp)
  refine ⟨x, hx, hm.1, ?_, fun l hl hne => ?_⟩
  · rcases isS_cases o x with h0 | h0 | h0
    · exact absurd h0 hm.2
    · have : x ∈ o := (isS_true h.dis).1 h0
      have hany : c.any (fun l => decide (l ∈ o)) = true := List.any_eq_true.2 ⟨x, hm.1, decide_eq_true this⟩
      rw [hany] at hd; cases hd
    · exact h0
  · apply Classical.byContradiction
    intro h0
    have : l ∈ lefC o c := (lefC_mem h).2 ⟨hl, h0⟩
    rw [hx, List.mem_singleton] at this
    exact hne this

/-- All closed sets that hold 't' hold 'o'. -/
abbrev forced (v : Int) (L : List (List Int)) (t o : List Int) : Prop := ∀ Y s, okA v Y s → closed L Y → (∀ l ∈ t, l ∈ Y) → ∀ l ∈ o, l ∈ Y

theorem implP_ok {v : Int} {L : List (List Int)} (hL : okL v L) {t : List Int} : ∀ (r : List (List Int)) {o : List Int}, (∀ c ∈ r, c ∈ L) → okA v o [] → forced v L t o →
    okA v (implP o r).1 [] ∧ forced v L t (implP o r).1 ∧ (∃ u, (implP o r).1 = o ++ u) ∧ ((implP o r).2 = true → ∃ c ∈ L, ∀ l ∈ c, isS (implP o r).1 l = 0) ∧
      ((implP o r).2 = false → (implP o r).1.length = o.length → ∀ c ∈ r, (stC o c).1 ≠ 0 ∧ (stC o c).1 ≠ 3)
  | [], o, _, ho, hf => ⟨ho, hf, ⟨[], by simp [implP]⟩, by simp [implP], by simp⟩
  | c :: r, o, hr, ho, hf => by
    have hcL := hr c (List.mem_cons_self ..)
    have hc := hL c hcL
    have hr' : ∀ c ∈ r, c ∈ L := fun d hd => hr d (List.mem_cons_of_mem _ hd)
    simp only [implP]
    by_cases h0 : (lefC o c).length = 0
    · rw [if_pos h0]
      refine ⟨ho, hf, ⟨[], by simp⟩, fun _ => ⟨c, hcL, fun l hl => ?_⟩, by simp⟩
      apply Classical.byContradiction
      intro hne
      have := (lefC_mem ho).2 ⟨hl, hne⟩
      rw [List.eq_nil_of_length_eq_zero h0] at this
      cases this
    · rw [if_neg h0]
      by_cases h1 : (lefC o c).length = 1 ∧ c.any (fun l => decide (l ∈ o)) = false
      · rw [if_pos h1]
        obtain ⟨x, hx, g1, g2, g3⟩ := lefC_unit ho hc h1.1 h1.2
        have hpush := ho.push (hc.1 x g1) g2
        rw [hx]
        have hf' : forced v L t (o ++ [x]) := fun Y s hY hcl ht l hl => by
          have hoY := hf Y s hY hcl ht
          rcases List.mem_append.1 hl with hl | hl
          · exact hoY l hl
          · rw [List.mem_singleton.1 hl]
            have g3' : ∀ l ∈ c, l ≠ x → isS Y l = 0 := fun l hl hne => (isS_sub ho hY hoY).1 (g3 l hl hne)
            rcases isS_cases Y x with k0 | k1 | k2
            · exact absurd (stC_zero.2 fun l hl => by
                by_cases hlx : l = x
                · rw [hlx]; exact k0
                · exact g3' l hl hlx) (hcl c hcL).1
            · exact (isS_true hY.dis).1 k1
            · exact absurd (by rw [stC_three_of hc g1 k2 g3']) (hcl c hcL).2
        obtain ⟨i1, i2, ⟨u, i3⟩, i4, i5⟩ := implP_ok hL r hr' hpush hf'
        refine ⟨i1, i2, ⟨x :: u, by rw [i3, List.append_assoc]; rfl⟩, i4, fun _ hlen => ?_⟩
        rw [i3] at hlen
        simp at hlen
      · rw [if_neg h1]
        obtain ⟨i1, i2, i3, i4, i5⟩ := implP_ok hL r hr' ho hf
        refine ⟨i1, i2, i3, i4, fun hb hlen d hd => ?_⟩
        rcases List.mem_cons.1 hd with rfl | hd
        · constructor
          · intro hz
            have hz := stC_zero.1 hz
            obtain ⟨y, hy⟩ := List.exists_mem_of_length_pos (Nat.pos_of_ne_zero h0)
            exact ((lefC_mem ho).1 hy).2 (hz y ((lefC_mem ho).1 hy).1)
          · intro h3
            obtain ⟨k1, k2, k3⟩ := stC_three h3
            apply h1
            have hmem : ∀ l, l ∈ lefC o d ↔ l = (stC o d).2 := fun l => by
              rw [lefC_mem ho]
              constructor
              · rintro ⟨q1, q2⟩
                apply Classical.byContradiction
                intro hne
                exact q2 (k3 l q1 hne)
              · rintro rfl
                exact ⟨k1, by omega⟩
            have hnd := lefC_nodup (o := o) hc
            have hone : lefC o d = [(stC o d).2] := by
              cases hl : lefC o d with
              | nil => rw [hl] at h0; simp at h0
              | cons a q =>
                rw [hl] at hmem hnd
                have ha : a = (stC o d).2 := (hmem a).1 (by simp)
                cases q with
                | nil => rw [ha]
                | cons b q =>
                  have hb : b = (stC o d).2 := (hmem b).1 (by simp)
                  rw [ha, hb] at hnd
                  simp at hnd
            refine ⟨by rw [hone]; rfl, ?_⟩
            rw [← Bool.not_eq_true, List.any_eq_true]
            rintro ⟨l, hl, hlo⟩
            have hlo := (isS_true ho.dis).2 (of_decide_eq_true hlo)
            by_cases hlx : l = (stC o d).2
            · rw [hlx] at hlo; omega
            · have := k3 l hl hlx; omega
        · exact i5 hb hlen d hd

theorem implP_cons {o c : List Int} {r : List (List Int)} : implP o (c :: r) = if (lefC o c).length = 0 then (o, true) else if (lefC o c).length = 1 ∧ c.any (fun l => decide (l ∈ o)) = false then implP (o ++ lefC o c) r else implP o r := rfl

end Go.Proofs.Ytcgbilghglbgaaa
