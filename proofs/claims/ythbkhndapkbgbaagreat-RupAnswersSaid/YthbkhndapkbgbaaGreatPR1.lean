/- Logs, of plain values: what follows. -/
import Derived.Test.YthbkhndapkbgbaaGreatP5
namespace Go.Proofs.YthbkhndapkbgbaaGreat
open Go Go.Proofs.YthbkhndapkbgbaaGreat.R
set_option linter.unusedVariables false

/-- Does propagation have a conflict? -/
def confC (v : Int) (L : List (List Int)) (t : List Int) : Bool := decide ((propC L (v + 1).toNat t).2 ≥ 0)

def fromC (v : Int) (L : List (List Int)) (c : List Int) : Bool := confC v L (c.map neg)

theorem okA_neg {v : Int} (hv : okV v) {c : List Int} (hc : okC v c) : okA v (c.map neg) [] where
  vars := hv
  lits := fun l hl => by
    obtain ⟨x, hx, rfl⟩ := List.mem_map.1 hl
    exact neg_lit (hc.1 x hx)
  dis := by
    rw [List.pairwise_map]
    exact hc.2.imp fun h => by rw [neg_div, neg_div]; omega
  inc := List.Pairwise.nil
  bnd := by simp

abbrev ranged (L : List (List Int)) : Prop := ∀ c ∈ L, c.length ≤ 140737488351232 ∧ ∀ x ∈ c, in64 x

theorem okL_append {v : Int} {a b : List (List Int)} : okL v (a ++ b) ↔ okL v a ∧ okL v b := by
  unfold okL
  constructor
  · exact fun h => ⟨fun c hc => h c (List.mem_append_left _ hc), fun c hc => h c (List.mem_append_right _ hc)⟩
  · rintro ⟨h1, h2⟩ c hc
    rcases List.mem_append.1 hc with hc | hc
    · exact h1 c hc
    · exact h2 c hc

theorem concat_eq {a b : List (List Int)} (h : a.length + b.length ≤ 100000) : slices_Concat_int_int [a, b] = some (a ++ b) := by
  have w1 : IntKind.wrap .i64 ((0 : Int) + (a.length : Int)) = (a.length : Int) := by rw [wr] <;> omega
  have w2 : IntKind.wrap .i64 ((a.length : Int) + (b.length : Int)) = ((a.length + b.length : Nat) : Int) := by rw [wr] <;> omega
  have w3 : IntKind.wrap .i64 ((0 : Int) + 1) = 1 := rfl
  have w4 : IntKind.wrap .i64 ((1 : Int) + 1) = 2 := rfl
  have g0 : geti [a, b] 0 = some a := rfl
  have g1 : geti [a, b] 1 = some b := rfl
  rw [slices_Concat_int_int.eq, slices_Concat_int_int.l0_eq, show (([a, b] : List (List (List Int))).length : Int) = 2 from rfl, cd, if_pos (by omega), g0, Option.bind_some, w1, cd, if_neg (by omega), w3,
    slices_Concat_int_int.l0_eq, cd, if_pos (by omega), g1, Option.bind_some, w2, cd, if_neg (by omega), w4, slices_Concat_int_int.l0_eq, cd, if_neg (by omega)]
  have hl : (decide (0 ≤ ((a.length + b.length : Nat) : Int)) && decide (((a.length + b.length : Nat) : Int) ≤ (LIM : Int))) = true := by
    rw [Bool.and_eq_true, decide_eq_true_eq, decide_eq_true_eq]
    unfold LIM
    omega
  rw [hl, ct, show (([a, b] : List (List (List Int))).length : Int) = 2 from rfl, slices_Concat_int_int.l1_eq, cd, if_pos (by omega), g0, Option.bind_some, app_ok (by simp; omega), Option.bind_some, List.nil_append, w3,
    slices_Concat_int_int.l1_eq, cd, if_pos (by omega), g1, Option.bind_some, app_ok (by omega), Option.bind_some, w4, slices_Concat_int_int.l1_eq, cd, if_neg (by omega)]

theorem rup_check.loop {v : Int} (hv : okV v) {L : List (List Int)} (hn : L.length ≤ 100000) (hr : ranged L) : ∀ (n i : Nat), i + n = L.length → rup_check.l0 v (L.length : Int) (i : Int) L = some (if okL v (L.drop i) then 0 else 8)
  | 0, i, hi => by
    rw [rup_check.l0_eq, cd, if_neg (by omega), List.drop_of_length_le (by omega), if_pos (by simp [okL])]
  | n + 1, i, hi => by
    have hlt : i < L.length := by omega
    have hw2 : IntKind.wrap .i64 ((i : Int) + 1) = ((i + 1 : Nat) : Int) := by rw [wr] <;> omega
    have hz : ((i : Int)).toNat = i := by omega
    have hm := hr _ (List.getElem_mem hlt)
    rw [rup_check.l0_eq, cd, if_pos (by omega), gsome hlt, Option.bind_some, hz, List.getElem?_eq_getElem hlt, Option.bind_some, clause_Check_eq hm.1 hm.2, Option.bind_some, if_pos hv, cn, hw2, drop_cons hlt]
    by_cases hc : okC v L[i]
    · rw [if_pos hc, if_pos rfl, rup_check.loop hv hn hr n (i + 1) (by omega)]
      congr 1
      have : okL v (L[i] :: L.drop (i + 1)) ↔ okL v (L.drop (i + 1)) := by
        unfold okL
        constructor
        · exact fun h c hc => h c (List.mem_cons_of_mem _ hc)
        · intro h c hc'
          rcases List.mem_cons.1 hc' with rfl | hc'
          · exact hc
          · exact h c hc'
      simp only [this]
    · rw [if_neg hc, if_neg (by omega), if_neg (fun h => hc (h _ (List.mem_cons_self ..)))]

theorem rup_check_eq {v : Int} {l m : List (List Int)} (hn : l.length + m.length ≤ 100000) (hl : ranged l) (hm : ranged m) :
    rup_check v l m = some (if okV v then (if l.length + m.length > 20000 then 4 else if okL v (l ++ m) then 0 else 8) else 2) := by
  rw [rup_check.eq, cd, cd, cd]
  have hw : IntKind.wrap .i64 ((l.length : Int) + (m.length : Int)) = ((l.length + m.length : Nat) : Int) := by rw [wr] <;> omega
  rw [hw]
  by_cases h1 : v < 0
  · rw [if_pos h1, if_neg (by omega)]
  · rw [if_neg h1]
    by_cases h2 : v > 4000
    · rw [if_pos h2, if_neg (by omega)]
    · rw [if_neg h2, if_pos (show okV v by omega)]
      by_cases h3 : l.length + m.length > 20000
      · rw [if_pos (by omega), if_pos h3]
      · rw [if_neg (by omega), if_neg h3, concat_eq hn, Option.bind_some]
        have := rup_check.loop (v := v) (by omega) (L := l ++ m) (by rw [List.length_append]; omega) (fun c hc => by
          rcases List.mem_append.1 hc with hc | hc
          · exact hl c hc
          · exact hm c hc) (l ++ m).length 0 (by omega)
        rw [show ((0 : Nat) : Int) = 0 from rfl] at this
        rw [this, List.drop_zero]

theorem learn_check.loop {v : Int} (hv : okV v) {L : List (List Int)} (hL : okL v L) (hn : L.length ≤ 100000) : ∀ (n i : Nat), i + n = L.length → learn_check.l0 v L (L.length : Int) (i : Int) = some 0
  | 0, i, hi => by rw [learn_check.l0_eq, cd, if_neg (by omega)]
  | n + 1, i, hi => by
    have hlt : i < L.length := by omega
    have hw2 : IntKind.wrap .i64 ((i : Int) + 1) = ((i + 1 : Nat) : Int) := by rw [wr] <;> omega
    have hc := hL _ (List.getElem_mem hlt)
    have hcl := hc.len hv
    rw [learn_check.l0_eq, cd, if_pos (by omega), gsome hlt, Option.bind_some, clause_Check_eq (by omega) (fun l hl => lit64 hv (hc.1 l hl)), Option.bind_some, if_pos hv, if_pos hc, cn, if_pos rfl, hw2]
    exact learn_check.loop hv hL hn n (i + 1) (by omega)

theorem learn_Conflict_eq {v : Int} {L : List (List Int)} {t : List Int} (ht : okA v t []) (hL : okL v L) (hn : L.length ≤ 20000) : learn_Conflict v L t = some (confC v L t, 0) := by
  have hv := ht.vars
  have hs := ht.short
  have hr : ∀ c ∈ L, c.length ≤ 140737488351232 ∧ ∀ x ∈ c, in64 x := fun c hc => ⟨by have := (hL c hc).len hv; omega, fun x hx => lit64 hv ((hL c hc).1 x hx)⟩
  have hlc := learn_check.loop hv hL (by omega) L.length 0 (by omega)
  rw [show ((0 : Nat) : Int) = 0 from rfl] at hlc
  rw [learn_Conflict.eq, learn_check.eq, cd, if_neg (by omega), cd, if_neg (by omega), assign_Check_eq (by omega) (by simp) (fun l hl => lit64 hv (ht.lits l hl)), Option.bind_some, if_pos ht, cn, if_pos rfl, cd, if_neg (by omega), hlc,
    Option.bind_some, cn, if_pos rfl, learn_conflict.eq, unit_Run_eq (by omega) (by simp) (fun l hl => lit64 hv (ht.lits l hl)) (by omega) hr, Option.bind_some, runC_ok ht hL hn]
  rfl

theorem rup_follows.loop {v : Int} {L : List (List Int)} {c : List Int} (hv : okV v) (hc : okC v c) (hL : okL v L) (hn : L.length ≤ 20000) : ∀ (n i : Nat), i + n = c.length → rup_follows.l0 v L c (c.length : Int) (i : Int) ((c.take i).map neg) = some (fromC v L c, 0)
  | 0, i, hi => by
    rw [rup_follows.l0_eq, cd, if_neg (by omega), List.take_of_length_le (by omega), learn_Conflict_eq (okA_neg hv hc) hL hn]
    rfl
  | n + 1, i, hi => by
    have hlt : i < c.length := by omega
    have hcl := hc.len hv
    have hli := hc.1 _ (List.getElem_mem hlt)
    have hw2 : IntKind.wrap .i64 ((i : Int) + 1) = ((i + 1 : Nat) : Int) := by rw [wr] <;> omega
    rw [rup_follows.l0_eq, cd, if_pos (by omega), gsome hlt, Option.bind_some, bxor_one (by omega) (by omega), app_ok (by simp; omega), Option.bind_some, hw2]
    have ht : (c.take i).map neg ++ [neg c[i]] = (c.take (i + 1)).map neg := by
      rw [List.take_add_one, List.getElem?_eq_getElem hlt, List.map_append]; rfl
    rw [ht]
    exact rup_follows.loop hv hc hL hn n (i + 1) (by omega)

theorem rup_follows_eq {v : Int} {L : List (List Int)} {c : List Int} (hv : okV v) (hc : okC v c) (hL : okL v L) (hn : L.length ≤ 20000) : rup_follows v L c = some (fromC v L c, 0) := by
  rw [rup_follows.eq]
  have := rup_follows.loop hv hc hL hn c.length 0 (by omega)
  rw [show ((0 : Nat) : Int) = 0 from rfl] at this
  simpa using this

def folC (v : Int) (L : List (List Int)) (c : List Int) : Bool × Int :=
  if okV v then (if L.length > 20000 then (false, 4) else if okL v L then (if okC v c then (fromC v L c, 0) else (false, 8)) else (false, 8)) else (false, 2)

theorem rup_Follows_eq {v : Int} {L : List (List Int)} {c : List Int} (hn : L.length ≤ 100000) (hr : ranged L) (hc : c.length ≤ 140737488351232 ∧ ∀ x ∈ c, in64 x) : rup_Follows v L c = some (folC v L c) := by
  rw [rup_Follows.eq, rup_check_eq (by simpa using hn) hr (by intro c hc; cases hc), Option.bind_some, cn]
  unfold folC
  rw [List.append_nil, List.length_nil, Nat.add_zero]
  by_cases hv : okV v
  · simp only [if_pos hv]
    by_cases h1 : L.length > 20000
    · simp only [if_pos h1]; rfl
    · simp only [if_neg h1]
      by_cases h2 : okL v L
      · simp only [if_pos h2, if_true]
        rw [clause_Check_eq hc.1 hc.2, Option.bind_some, if_pos hv, cn]
        by_cases h3 : okC v c
        · rw [if_pos h3, if_pos rfl, rup_follows_eq hv h3 h2 (by omega), Option.bind_some, if_pos h3]
        · rw [if_neg h3, if_neg (by omega), if_neg h3]
      · simp only [if_neg h2]; rfl
  · simp only [if_neg hv]; rfl

def chkC (v : Int) : List (List Int) → Int → List (List Int) → Int
  | _, _, [] => -1
  | L, i, c :: r => if fromC v L c then chkC v (L ++ [c]) (i + 1) r else i

theorem rup_Check.loop {v : Int} {l log : List (List Int)} (hv : okV v) (hL : okL v (l ++ log)) (hn : l.length + log.length ≤ 20000) : ∀ (n i : Nat), i + n = log.length →
    rup_Check.l0 v l log (log.length : Int) (i : Int) (l ++ log) = some (chkC v (l ++ log.take i) (i : Int) (log.drop i), 0)
  | 0, i, hi => by
    rw [rup_Check.l0_eq, cd, if_neg (by omega), List.drop_of_length_le (by omega)]; rfl
  | n + 1, i, hi => by
    have hlt : i < log.length := by omega
    have hw2 : IntKind.wrap .i64 ((i : Int) + 1) = ((i + 1 : Nat) : Int) := by rw [wr] <;> omega
    have hw3 : IntKind.wrap .i64 ((l.length : Int) + (i : Int)) = ((l.length + i : Nat) : Int) := by rw [wr] <;> omega
    have hchk : chk (decide (0 ≤ (0 : Int)) && decide ((0 : Int) ≤ ((l.length + i : Nat) : Int)) && decide (((l.length + i : Nat) : Int) ≤ ((l ++ log).length : Int))) = some () := by
      unfold chk
      rw [if_pos]
      simp only [Bool.and_eq_true, decide_eq_true_eq, List.length_append]
      omega
    have hsub : subOf (l ++ log) (Int.toNat 0) (Int.toNat (((l.length + i : Nat) : Int) - 0)) = l ++ log.take i := by
      have : Int.toNat (((l.length + i : Nat) : Int) - 0) = l.length + i := by omega
      rw [this]
      simp only [subOf, Int.toNat_zero, List.drop_zero, List.take_append, Nat.add_sub_cancel_left]
      rw [List.take_of_length_le (by omega)]
    have hL2 := okL_append.1 hL
    have hpre : okL v (l ++ log.take i) := okL_append.2 ⟨hL2.1, fun c hc => hL2.2 c (List.mem_of_mem_take hc)⟩
    rw [rup_Check.l0_eq, cd, if_pos (by omega), gsome hlt, Option.bind_some]
    simp only [hw3, hw2]
    rw [hchk, Option.bind_some, hsub, rup_follows_eq hv (hL2.2 _ (List.getElem_mem hlt)) hpre (by simp; omega), Option.bind_some, cn, if_pos rfl, cnot, drop_cons hlt]
    have htk : l ++ log.take (i + 1) = l ++ log.take i ++ [log[i]] := by
      rw [List.take_add_one, List.getElem?_eq_getElem hlt, List.append_assoc]; rfl
    simp only [chkC]
    cases hf : fromC v (l ++ log.take i) log[i] with
    | true =>
      rw [ct, rup_Check.loop hv hL hn n (i + 1) (by omega), htk, if_pos rfl]
      rfl
    | false => rw [cf, if_neg (by simp)]

def chkR (v : Int) (l log : List (List Int)) : Int × Int :=
  if okV v then (if l.length + log.length > 20000 then (0, 4) else if okL v (l ++ log) then (chkC v l 0 log, 0) else (0, 8)) else (0, 2)

theorem rup_Check_eq {v : Int} {l log : List (List Int)} (hn : l.length + log.length ≤ 100000) (hl : ranged l) (hm : ranged log) : rup_Check v l log = some (chkR v l log) := by
  rw [rup_Check.eq, rup_check_eq hn hl hm, Option.bind_some, cn]
  unfold chkR
  by_cases hv : okV v
  · simp only [if_pos hv]
    by_cases h1 : l.length + log.length > 20000
    · simp only [if_pos h1]; rfl
    · simp only [if_neg h1]
      by_cases h2 : okL v (l ++ log)
      · simp only [if_pos h2, if_true]
        rw [concat_eq hn, Option.bind_some]
        have := rup_Check.loop hv h2 (by omega) log.length 0 (by omega)
        rw [show ((0 : Nat) : Int) = 0 from rfl] at this
        rw [this]; simp
      · simp only [if_neg h2]; rfl
  · simp only [if_neg hv]; rfl

/-! ### The reference: literals that are true, round by round -/

def lefC (o c : List Int) : List Int := c.filter (fun l => decide (neg l ∉ o))

def implP (o : List Int) : List (List Int) → List Int × Bool
  | [] => (o, false)
  | c :: r => if (lefC o c).length = 0 then (o, true) else if (lefC o c).length = 1 ∧ c.any (fun l => decide (l ∈ o)) = false then implP (o ++ lefC o c) r else implP o r

abbrev closed (L : List (List Int)) (Y : List Int) : Prop := ∀ c ∈ L, (stC Y c).1 ≠ 0 ∧ (stC Y c).1 ≠ 3

theorem lefC_mem {v : Int} {o s : List Int} (h : okA v o s) {c : List Int} {l : Int} : l ∈ lefC o c ↔ l ∈ c ∧ isS o l ≠ 0 := by
  unfold lefC
  rw [List.mem_filter, decide_eq_true_iff, ← isS_false h.dis]

theorem lefC_nodup {v : Int} {o c : List Int} (h : okC v c) : (lefC o c).Nodup := h.nodup.filter _

theorem lefC_unit {v : Int} {o s c : List Int} (h : okA v o s) (hc : okC v c) (h1 : (lefC o c).length = 1) (hd : c.any (fun l => decide (l ∈ o)) = false) : ∃ x, lefC o c = [x] ∧ x ∈ c ∧ isS o x = 2 ∧ ∀ l ∈ c, l ≠ x → isS o l = 0 := by
  obtain ⟨x, hx⟩ := List.length_eq_one_iff.1 h1
  have hm := (lefC_mem h (c := c) (l := x)).1 (by rw [hx]; simp)
  refine ⟨x, hx, hm.1, ?_, fun l hl hne => ?_⟩
  · rcases isS_cases o x with h0 | h0 | h0
    · exact absurd h0 hm.2
    · have : x ∈ o := (isS_true h.dis).1 h0
      have hany : c.any (fun l => decide (l ∈ o)) = true := List.any_eq_true.2 ⟨x, hm.1, decide_eq_true this⟩
      rw [hany] at hd; cases hd
    · exact h0
  · apply Classical.byContradiction
    intro h0
    have : l ∈ lefC o c := (lefC_mem h).2 ⟨hl, h0⟩
    rw [hx, List.mem_singleton] at this
    exact hne this

/-- All closed sets that hold 't' hold 'o'. -/
abbrev forced (v : Int) (L : List (List Int)) (t o : List Int) : Prop := ∀ Y s, okA v Y s → closed L Y → (∀ l ∈ t, l ∈ Y) → ∀ l ∈ o, l ∈ Y

theorem implP_ok {v : Int} {L : List (List Int)} (hL : okL v L) {t : List Int} : ∀ (r : List (List Int)) {o : List Int}, (∀ c ∈ r, c ∈ L) → okA v o [] → forced v L t o →
    okA v (implP o r).1 [] ∧ forced v L t (implP o r).1 ∧ (∃ u, (implP o r).1 = o ++ u) ∧ ((implP o r).2 = true → ∃ c ∈ L, ∀ l ∈ c, isS (implP o r).1 l = 0) ∧
      ((implP o r).2 = false → (implP o r).1.length = o.length → ∀ c ∈ r, (stC o c).1 ≠ 0 ∧ (stC o c).1 ≠ 3)
  | [], o, _, ho, hf => ⟨ho, hf, ⟨[], by simp [implP]⟩, by simp [implP], by simp⟩
  | c :: r, o, hr, ho, hf => by
    have hcL := hr c (List.mem_cons_self ..)
    have hc := hL c hcL
    have hr' : ∀ c ∈ r, c ∈ L := fun d hd => hr d (List.mem_cons_of_mem _ hd)
    simp only [implP]
    by_cases h0 : (lefC o c).length = 0
    · rw [if_pos h0]
      refine ⟨ho, hf, ⟨[], by simp⟩, fun _ => ⟨c, hcL, fun l hl => ?_⟩, by simp⟩
      apply Classical.byContradiction
      intro hne
      have := (lefC_mem ho).2 ⟨hl, hne⟩
      rw [List.eq_nil_of_length_eq_zero h0] at this
      cases this
    · rw [if_neg h0]
      by_cases h1 : (lefC o c).length = 1 ∧ c.any (fun l => decide (l ∈ o)) = false
      · rw [if_pos h1]
        obtain ⟨x, hx, g1, g2, g3⟩ := lefC_unit ho hc h1.1 h1.2
        have hpush := ho.push (hc.1 x g1) g2
        rw [hx]
        have hf' : forced v L t (o ++ [x]) := fun Y s hY hcl ht l hl => by
          have hoY := hf Y s hY hcl ht
          rcases List.mem_append.1 hl with hl | hl
          · exact hoY l hl
          · rw [List.mem_singleton.1 hl]
            have g3' : ∀ l ∈ c, l ≠ x → isS Y l = 0 := fun l hl hne => (isS_sub ho hY hoY).1 (g3 l hl hne)
            rcases isS_cases Y x with k0 | k1 | k2
            · exact absurd (stC_zero.2 fun l hl => by
                by_cases hlx : l = x
                · rw [hlx]; exact k0
                · exact g3' l hl hlx) (hcl c hcL).1
            · exact (isS_true hY.dis).1 k1
            · exact absurd (by rw [stC_three_of hc g1 k2 g3']) (hcl c hcL).2
        obtain ⟨i1, i2, ⟨u, i3⟩, i4, i5⟩ := implP_ok hL r hr' hpush hf'
        refine ⟨i1, i2, ⟨x :: u, by rw [i3, List.append_assoc]; rfl⟩, i4, fun _ hlen => ?_⟩
        rw [i3] at hlen
        simp at hlen
      · rw [if_neg h1]
        obtain ⟨i1, i2, i3, i4, i5⟩ := implP_ok hL r hr' ho hf
        refine ⟨i1, i2, i3, i4, fun hb hlen d hd => ?_⟩
        rcases List.mem_cons.1 hd with rfl | hd
        · constructor
          · intro hz
            have hz := stC_zero.1 hz
            obtain ⟨y, hy⟩ := List.exists_mem_of_length_pos (Nat.pos_of_ne_zero h0)
            exact ((lefC_mem ho).1 hy).2 (hz y ((lefC_mem ho).1 hy).1)
          · intro h3
            obtain ⟨k1, k2, k3⟩ := stC_three h3
            apply h1
            have hmem : ∀ l, l ∈ lefC o d ↔ l = (stC o d).2 := fun l => by
              rw [lefC_mem ho]
              constructor
              · rintro ⟨q1, q2⟩
                apply Classical.byContradiction
                intro hne
                exact q2 (k3 l q1 hne)
              · rintro rfl
                exact ⟨k1, by omega⟩
            have hnd := lefC_nodup (o := o) hc
            have hone : lefC o d = [(stC o d).2] := by
              cases hl : lefC o d with
              | nil => rw [hl] at h0; simp at h0
              | cons a q =>
                rw [hl] at hmem hnd
                have ha : a = (stC o d).2 := (hmem a).1 (by simp)
                cases q with
                | nil => rw [ha]
                | cons b q =>
                  have hb : b = (stC o d).2 := (hmem b).1 (by simp)
                  rw [ha, hb] at hnd
                  simp at hnd
            refine ⟨by rw [hone]; rfl, ?_⟩
            rw [← Bool.not_eq_true, List.any_eq_true]
            rintro ⟨l, hl, hlo⟩
            have hlo := (isS_true ho.dis).2 (of_decide_eq_true hlo)
            by_cases hlx : l = (stC o d).2
            · rw [hlx] at hlo; omega
            · have := k3 l hl hlx; omega
        · exact i5 hb hlen d hd

theorem implP_cons {o c : List Int} {r : List (List Int)} : implP o (c :: r) = if (lefC o c).length = 0 then (o, true) else if (lefC o c).length = 1 ∧ c.any (fun l => decide (l ∈ o)) = false then implP (o ++ lefC o c) r else implP o r := rfl

end Go.Proofs.YthbkhndapkbgbaaGreat
