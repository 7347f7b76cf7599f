/- Logs, of plain values: what follows. -/
import Derived.Test.YthbkhndapkbgbaaGreatP5
namespace Go.Proofs.YthbkhndapkbgbaaGreat
open Go Go.Proofs.YthbkhndapkbgbaaGreat.R
set_option linter.unusedVariables false

/-- Does propagation have a conflict? -/
def confC (v : Int) (L : List (List Int)) (t : List Int) : Bool := decide ((propC L (v + 1).toNat t).2 ≥ 0)

def fromC (v : Int) (L : List (List Int)) (c : List Int) : Bool := confC v L (c.map neg)

theorem okA_neg {v : Int} (hv : okV v) {c : List Int} (hc : okC v c) : okA v (c.map neg) [] where
  vars := hv
  lits := fun l hl => by
    obtain ⟨x, hx, rfl⟩ := List.mem_map.1 hl
    exact neg_lit (hc.1 x hx)
  dis := by
    rw [List.pairwise_map]
    exact hc.2.imp fun h => by rw [neg_div, neg_div]; omega
  inc := List.Pairwise.nil
  bnd := by simp

abbrev ranged (L : List (List Int)) : Prop := ∀ c ∈ L, c.length ≤ 140737488351232 ∧ ∀ x ∈ c, in64 x

theorem okL_append {v : Int} {a b : List (List Int)} : okL v (a ++ b) ↔ okL v a ∧ okL v b := by
  unfold okL
  constructor
  · exact fun h => ⟨fun c hc => h c (List.mem_append_left _ hc), fun c hc => h c (List.mem_append_right _ hc)⟩
  · rintro ⟨h1, h2⟩ c hc
    rcases List.mem_append.1 hc with hc | hc
    · exact h1 c hc
    · exact h2 c hc

theorem learn_check.loop {v : Int} (hv : okV v) {L : List (List Int)} (hL : okL v L) (hn : L.length ≤ 100000) : ∀ (n i : Nat), i + n = L.length → learn_check.l0 v L (L.length : Int) (i : Int) = some 0
  | 0, i, hi => by rw [learn_check.l0_eq, cd, if_neg (by omega)]
  | n + 1, i, hi => by
    have hlt : i < L.length := by omega
    have hw2 : IntKind.wrap .i64 ((i : Int) + 1) = ((i + 1 : Nat) : Int) := by rw [wr] <;> omega
    have hc := hL _ (List.getElem_mem hlt)
    have hcl := hc.len hv
    rw [learn_check.l0_eq, cd, if_pos (by omega), gsome hlt, Option.bind_some, clause_Check_eq (by omega) (fun l hl => lit64 hv (hc.1 l hl)), Option.bind_some, if_pos hv, if_pos hc, cn, if_pos rfl, hw2]
    exact learn_check.loop hv hL hn n (i + 1) (by omega)

def folC (v : Int) (L : List (List Int)) (c : List Int) : Bool × Int :=
  if okV v then (if L.length > 20000 then (false, 4) else if okL v L then (if okC v c then (fromC v L c, 0) else (false, 8)) else (false, 8)) else (false, 2)

def chkC (v : Int) : List (List Int) → Int → List (List Int) → Int
  | _, _, [] => -1
  | L, i, c :: r => if fromC v L c then chkC v (L ++ [c]) (i + 1) r else i

def chkR (v : Int) (l log : List (List Int)) : Int × Int :=
  if okV v then (if l.length + log.length > 20000 then (0, 4) else if okL v (l ++ log) then (chkC v l 0 log, 0) else (0, 8)) else (0, 2)

/-! ### The reference: literals that are true, round by round -/

def lefC (o c : List Int) : List Int := c.filter (fun l => decide (neg l ∉ o))

def implP (o : List Int) : List (List Int) → List Int × Bool
  | [] => (o, false)
  | c :: r => if (lefC o c).length = 0 then (o, true) else if (lefC o c).length = 1 ∧ c.any (fun l => decide (l ∈ o)) = false then implP (o ++ lefC o c) r else implP o r

abbrev closed (L : List (List Int)) (Y : List Int) : Prop := ∀ c ∈ L, (stC Y c).1 ≠ 0 ∧ (stC Y c).1 ≠ 3

theorem lefC_mem {v : Int} {o s : List Int} (h : okA v o s) {c : List Int} {l : Int} : l ∈ lefC o c ↔ l ∈ c ∧ isS o l ≠ 0 := by
  unfold lefC
  rw [List.mem_filter, decide_eq_true_iff, ← isS_false h.dis]

theorem lefC_nodup {v : Int} {o c : List Int} (h : okC v c) : (lefC o c).Nodup := h.nodup.filter _

theorem lefC_unit {v : Int} {o s c : List Int} (h : okA v o s) (hc : okC v c) (h1 : (lefC o c).length = 1) (hd : c.any (fun l => decide (l ∈ o)) = false) : ∃ x, lefC o c = [x] ∧ x ∈ c ∧ isS o x = 2 ∧ ∀ l ∈ c, l ≠ x → isS o l = 0 := by
  obtain ⟨x, hx⟩ := List.length_eq_one_iff.1 h1
  have hm := (lefC_mem h (c := c) (l := x)).1 (by rw [hx]; simp)
  refine ⟨x, hx, hm.1, ?_, fun l hl hne => ?_⟩
  · rcases isS_cases o x with h0 | h0 | h0
    · exact absurd h0 hm.2
    · have : x ∈ o := (isS_true h.dis).1 h0
      have hany : c.any (fun l => decide (l ∈ o)) = true := List.any_eq_true.2 ⟨x, hm.1, decide_eq_true this⟩
      rw [hany] at hd; cases hd
    · exact h0
  · apply Classical.byContradiction
    intro h0
    have : l ∈ lefC o c := (lefC_mem h).2 ⟨hl, h0⟩
    rw [hx, List.mem_singleton] at this
    exact hne this

/-- All closed sets that hold 't' hold 'o'. -/
abbrev forced (v : Int) (L : List (List Int)) (t o : List Int) : Prop := ∀ Y s, okA v Y s → closed L Y → (∀ l ∈ t, l ∈ Y) → ∀ l ∈ o, l ∈ Y

theorem implP_ok {v : Int} {L : List (List Int)} (hL : okL v L) {t : List Int} : ∀ (r : List (List Int)) {o : List Int}, (∀ c ∈ r, c ∈ L) → okA v o [] → forced v L t o →
    okA v (implP o r).1 [] ∧ forced v L t (implP o r).1 ∧ (∃ u, (implP o r).1 = o ++ u) ∧ ((implP o r).2 = true → ∃ c ∈ L, ∀ l ∈ c, isS (implP o r).1 l = 0) ∧
      ((implP o r).2 = false → (implP o r).1.length = o.length → ∀ c ∈ r, (stC o c).1 ≠ 0 ∧ (stC o c).1 ≠ 3)
  | [], o, _, ho, hf => ⟨ho, hf, ⟨[], by simp [implP]⟩, by simp [implP], by simp⟩
  | c :: r, o, hr, ho, hf => by
    have hcL := hr c (List.mem_cons_self ..)
    have hc := hL c hcL
    have hr' : ∀ c ∈ r, c ∈ L := fun d hd => hr d (List.mem_cons_of_mem _ hd)
    simp only [implP]
    by_cases h0 : (lefC o c).length = 0
    · rw [if_pos h0]
      refine ⟨ho, hf, ⟨[], by simp⟩, fun _ => ⟨c, hcL, fun l hl => ?_⟩, by simp⟩
      apply Classical.byContradiction
      intro hne
      have := (lefC_mem ho).2 ⟨hl, hne⟩
      rw [List.eq_nil_of_length_eq_zero h0] at this
      cases this
    · rw [if_neg h0]
      by_cases h1 : (lefC o c).length = 1 ∧ c.any (fun l => decide (l ∈ o)) = false
      · rw [if_pos h1]
        obtain ⟨x, hx, g1, g2, g3⟩ := lefC_unit ho hc h1.1 h1.2
        have hpush := ho.push (hc.1 x g1) g2
        rw [hx]
        have hf' : forced v L t (o ++ [x]) := fun Y s hY hcl ht l hl => by
          have hoY := hf Y s hY hcl ht
          rcases List.mem_append.1 hl with hl | hl
          · exact hoY l hl
          · rw [List.mem_singleton.1 hl]
            have g3' : ∀ l ∈ c, l ≠ x → isS Y l = 0 := fun l hl hne => (isS_sub ho hY hoY).1 (g3 l hl hne)
            rcases isS_cases Y x with k0 | k1 | k2
            · exact absurd (stC_zero.2 fun l hl => by
                by_cases hlx : l = x
                · rw [hlx]; exact k0
                · exact g3' l hl hlx) (hcl c hcL).1
            · exact (isS_true hY.dis).1 k1
            · exact absurd (by rw [stC_three_of hc g1 k2 g3']) (hcl c hcL).2
        obtain ⟨i1, i2, ⟨u, i3⟩, i4, i5⟩ := implP_ok hL r hr' hpush hf'
        refine ⟨i1, i2, ⟨x :: u, by rw [i3, List.append_assoc]; rfl⟩, i4, fun _ hlen => ?_⟩
        rw [i3] at hlen
        simp at hlen
      · rw [if_neg h1]
        obtain ⟨i1, i2, i3, i4, i5⟩ := implP_ok hL r hr' ho hf
        refine ⟨i1, i2, i3, i4, fun hb hlen d hd => ?_⟩
        rcases List.mem_cons.1 hd with rfl | hd
        · constructor
          · intro hz
            have hz := stC_zero.1 hz
            obtain ⟨y, hy⟩ := List.exists_mem_of_length_pos (Nat.pos_of_ne_zero h0)
            exact ((lefC_mem ho).1 hy).2 (hz y ((lefC_mem ho).1 hy).1)
          · intro h3
            obtain ⟨k1, k2, k3⟩ := stC_three h3
            apply h1
            have hmem : ∀ l, l ∈ lefC o d ↔ l = (stC o d).2 := fun l => by
              rw [lefC_mem ho]
              constructor
              · rintro ⟨q1, q2⟩
                apply Classical.byContradiction
                intro hne
                exact q2 (k3 l q1 hne)
              · rintro rfl
                exact ⟨k1, by omega⟩
            have hnd := lefC_nodup (o := o) hc
            have hone : lefC o d = [(stC o d).2] := by
              cases hl : lefC o d with
              | nil => rw [hl] at h0; simp at h0
              | cons a q =>
                rw [hl] at hmem hnd
                have ha : a = (stC o d).2 := (hmem a).1 (by simp)
                cases q with
                | nil => rw [ha]
                | cons b q =>
                  have hb : b = (stC o d).2 := (hmem b).1 (by simp)
                  rw [ha, hb] at hnd
                  simp at hnd
            refine ⟨by rw [hone]; rfl, ?_⟩
            rw [← Bool.not_eq_true, List.any_eq_true]
            rintro ⟨l, hl, hlo⟩
            have hlo := (isS_true ho.dis).2 (of_decide_eq_true hlo)
            by_cases hlx : l = (stC o d).2
            · rw [hlx] at hlo; omega
            · have := k3 l hl hlx; omega
        · exact i5 hb hlen d hd

theorem ref17.l2 {L : List (List Int)} {o : List Int} {before : Int} {i : Nat} (hi : i < L.length) {v : Int} (hv : okV v) (hc : okC v L[i]) (ho : o.length ≤ 4000) : ∀ (n k : Nat) (d : Bool) (q : List Int), k + n = L[i].length → q.length ≤ k →
    spiritlevelref17_Implied.l2 L before (i : Int) d (k : Int) o q = spiritlevelref17_Implied.l2 L before (i : Int) (d || (L[i].drop k).any (fun l => decide (l ∈ o))) (L[i].length : Int) o (q ++ lefC o (L[i].drop k))
  | 0, k, d, q, hk, hq => by
    have : k = L[i].length := by omega
    subst this
    rw [List.drop_length]; simp [lefC]
  | n + 1, k, d, q, hk, hq => by
    have hlt : k < L[i].length := by omega
    have hcl := hc.len hv
    have hli := hc.1 _ (List.getElem_mem hlt)
    have hw2 : IntKind.wrap .i64 ((k : Int) + 1) = ((k + 1 : Nat) : Int) := by rw [wr] <;> omega
    have hn1 : (L[i][k] :: L[i].drop (k + 1)).any (fun l => decide (l ∈ o)) = (decide (L[i][k] ∈ o) || (L[i].drop (k + 1)).any (fun l => decide (l ∈ o))) := List.any_cons
    rw [spiritlevelref17_Implied.l2_eq, gsome hi, Option.bind_some, cd, if_pos (by omega)]
    simp only [gsome hlt, Option.bind_some, ref13_Not_eq (show 0 ≤ L[i][k] ∧ L[i][k] ≤ 9223372036854775806 by omega), ref13_Has_eq (show o.length ≤ 140737488351232 by omega), app_ok (show q.length + [L[i][k]].length ≤ 68719476736 by simp; omega), hw2]
    rw [drop_cons hlt, hn1]
    have hlc : lefC o (L[i][k] :: L[i].drop (k + 1)) = (if neg L[i][k] ∈ o then [] else [L[i][k]]) ++ lefC o (L[i].drop (k + 1)) := by
      unfold lefC
      rw [List.filter_cons]
      by_cases h : neg L[i][k] ∈ o
      · rw [if_neg (by simpa using h), if_pos h]; rfl
      · rw [if_pos (by simpa using h), if_neg h]; rfl
    rw [hlc]
    by_cases h : neg L[i][k] ∈ o
    · simp only [decide_eq_true h, Bool.not_true, cf, if_pos h, List.nil_append]
      cases d with
      | true => rw [ct, ref17.l2 hi hv hc ho n (k + 1) true q (by omega) (by omega)]; rfl
      | false => rw [cf, ref17.l2 hi hv hc ho n (k + 1) _ q (by omega) (by omega)]; rfl
    · simp only [decide_eq_false h, Bool.not_false, ct, if_neg h, ← List.append_assoc]
      cases d with
      | true => rw [ct, ref17.l2 hi hv hc ho n (k + 1) true _ (by omega) (by simp; omega)]; rfl
      | false => rw [cf, ref17.l2 hi hv hc ho n (k + 1) _ _ (by omega) (by simp; omega)]; rfl

theorem implP_cons {o c : List Int} {r : List (List Int)} : implP o (c :: r) = if (lefC o c).length = 0 then (o, true) else if (lefC o c).length = 1 ∧ c.any (fun l => decide (l ∈ o)) = false then implP (o ++ lefC o c) r else implP o r := rfl

noncomputable def finP (L : List (List Int)) (before : Int) (p : List Int × Bool) : Option (List Int × Bool) :=
  bif p.2 then some (p.1, true) else if (p.1.length : Int) = before then some (p.1, false) else spiritlevelref17_Implied.l0 L p.1

theorem ref17.l1 {L : List (List Int)} {before : Int} {v : Int} (hL : okL v L) (hn : L.length ≤ 20000) : ∀ (n i : Nat) (o : List Int), i + n = L.length → okA v o [] →
    spiritlevelref17_Implied.l1 L before (i : Int) o = finP L before (implP o (L.drop i))
  | 0, i, o, hi, ho => by
    rw [spiritlevelref17_Implied.l1_eq, cd, if_neg (by omega), List.drop_of_length_le (by omega), ce]
    rfl
  | n + 1, i, o, hi, ho => by
    have hlt : i < L.length := by omega
    have hv := ho.vars
    have hs := ho.short
    have hc := hL _ (List.getElem_mem hlt)
    have hw2 : IntKind.wrap .i64 ((i : Int) + 1) = ((i + 1 : Nat) : Int) := by rw [wr] <;> omega
    have h2 := ref17.l2 (before := before) hlt hv hc (o := o) (by omega) L[i].length 0 false [] (by omega) (by simp)
    rw [show ((0 : Nat) : Int) = 0 from rfl, List.drop_zero, List.nil_append, Bool.false_or] at h2
    rw [spiritlevelref17_Implied.l1_eq, cd, if_pos (by omega), h2, spiritlevelref17_Implied.l2_eq, gsome hlt, Option.bind_some, cd, if_neg (by omega), hw2, ce, drop_cons hlt, ce, cnot, implP_cons]
    by_cases h0 : (lefC o L[i]).length = 0
    · rw [if_pos (by omega), if_pos h0]; rfl
    · rw [if_neg (by omega), if_neg h0]
      by_cases h1 : (lefC o L[i]).length = 1
      · rw [if_pos (by omega)]
        cases hd : L[i].any (fun l => decide (l ∈ o)) with
        | true => rw [ct, if_neg (by simp), ref17.l1 hL hn n (i + 1) o (by omega) ho]
        | false =>
          obtain ⟨x, hx, g1, g2, g3⟩ := lefC_unit ho hc h1 hd
          rw [cf, if_pos ⟨h1, rfl⟩, hx]
          show (some x).bind _ = _
          rw [Option.bind_some]
          show (some x).bind _ = _
          rw [Option.bind_some, app_ok (by simp; omega), Option.bind_some, ref17.l1 hL hn n (i + 1) _ (by omega) (ho.push (hc.1 x g1) g2)]
      · rw [if_neg (by omega), if_neg (fun h => h1 h.1), ref17.l1 hL hn n (i + 1) o (by omega) ho]

theorem ref17.l0 {L : List (List Int)} {v : Int} (hL : okL v L) (hn : L.length ≤ 20000) {t : List Int} (ht : okA v t []) : ∀ (n : Nat) (o : List Int), v - o.length < n → okA v o [] → forced v L t o → (∀ l ∈ t, l ∈ o) →
    ∃ o', spiritlevelref17_Implied.l0 L o = some (o', confC v L t)
  | 0, o, hlt, ho, _, _ => by have := ho.short; omega
  | n + 1, o, hlt, ho, hf, hto => by
    have h1 := ref17.l1 (before := (o.length : Int)) hL hn L.length 0 o (by omega) ho
    rw [show ((0 : Nat) : Int) = 0 from rfl, List.drop_zero] at h1
    rw [spiritlevelref17_Implied.l0_eq, h1]
    unfold finP
    obtain ⟨i1, i2, ⟨u, i3⟩, i4, i5⟩ := implP_ok hL L (fun c hc => hc) ho hf
    obtain ⟨p1, w, p2⟩ := propC_okA hL (v + 1).toNat ht
    by_cases hb : (implP o L).2 = true
    · rw [hb, ct]
      suffices hs : confC v L t = true by rw [hs]; exact ⟨_, rfl⟩
      obtain ⟨c, hc, hz⟩ := i4 hb
      unfold confC
      rw [decide_eq_true_iff]
      apply Classical.byContradiction
      intro hneg
      have hcl : closed L (propC L (v + 1).toNat t).1 := prop_closed hL ht (by omega)
      have hsub := i2 _ _ p1 hcl (fun l hl => by rw [p2]; exact List.mem_append_left _ hl)
      exact (hcl c hc).1 (stC_zero.2 fun l hl => (isS_sub i1 p1 hsub).1 (hz l hl))
    · rw [Bool.not_eq_true _ |>.mp hb, cf]
      by_cases hlen : ((implP o L).1.length : Int) = (o.length : Int)
      · rw [if_pos hlen]
        suffices hs : confC v L t = false by rw [hs]; exact ⟨_, rfl⟩
        have hcl : closed L o := i5 (by simpa using hb) (by omega)
        have := (prop_sub hL ho hcl (v + 1).toNat ht hto).1
        unfold confC
        rw [decide_eq_false_iff_not]
        omega
      · rw [if_neg hlen]
        have hlu : o.length < (implP o L).1.length := by
          have : (implP o L).1.length = o.length + u.length := by rw [i3, List.length_append]
          omega
        exact ref17.l0 hL hn ht n _ (by omega) i1 i2 (fun l hl => by rw [i3]; exact List.mem_append_left _ (hto l hl))

theorem ref17_Fails_eq {L : List (List Int)} {v : Int} (hL : okL v L) (hn : L.length ≤ 20000) {t : List Int} (ht : okA v t []) : spiritlevelref17_Fails L t = some (confC v L t) := by
  have hs := ht.short
  have hv := ht.vars
  obtain ⟨o', h⟩ := ref17.l0 hL hn ht (v + 1).toNat t (by omega) ht (fun Y s _ _ h => h) (fun l hl => hl)
  rw [spiritlevelref17_Fails.eq, spiritlevelref17_Implied.eq, app_ok (by simp; omega), Option.bind_some, List.nil_append, h]; rfl

end Go.Proofs.YthbkhndapkbgbaaGreat
