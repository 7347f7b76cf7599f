/- . -/
import Derived.Test.YthbkhndapkbgbaaGreatPS2
namespace Go.Proofs.YthbkhndapkbgbaaGreat
open Go Go.Proofs.YthbkhndapkbgbaaGreat.R
set_option linter.unusedVariables false

def Models (L : List (List Int)) (W : List Bool) : Prop := ∀ c ∈ L, c.any (truth W) = true


theorem truth_even {W : List Bool} {x : Int} : truth W (2 * x) = W.getD (x - 1).toNat false := by
  unfold truth
  rw [if_neg (by omega), show 2 * x / 2 - 1 = x - 1 from by omega]

theorem truth_odd {W : List Bool} {x : Int} : truth W (2 * x + 1) = !truth W (2 * x) := by
  rw [truth_even]
  unfold truth
  rw [if_pos (by omega), show (2 * x + 1) / 2 - 1 = x - 1 from by omega]

def litsW (v : Int) (W : List Bool) : List Int := (allL v.toNat).map fun x => if truth W (2 * x) = true then 2 * x else 2 * x + 1

section
variable {v : Int} {W : List Bool}

theorem mem_lits {l : Int} (hl : isLit v l) : l ∈ litsW v W ↔ truth W l = true := by
  unfold litsW
  rw [List.mem_map]
  have hx : l / 2 ∈ allL v.toNat := allL_mem.2 (by omega)
  have e : l = 2 * (l / 2) ∨ l = 2 * (l / 2) + 1 := by omega
  generalize l / 2 = x at *
  constructor
  · rintro ⟨y, hy, h⟩
    by_cases ht : truth W (2 * y) = true
    · rw [if_pos ht] at h
      rw [← h]; exact ht
    · rw [if_neg ht] at h
      rw [← h, truth_odd]; simpa using ht
  · intro h
    refine ⟨x, hx, ?_⟩
    rcases e with e | e
    · rw [e] at h
      rw [if_pos h, e]
    · rw [e, truth_odd] at h
      rw [if_neg (by simpa using h), e]

theorem okA_lits (hv : okV v) : okA v (litsW v W) [] where
  vars := hv
  lits := fun l hl => by
    unfold litsW at hl
    obtain ⟨x, hx, rfl⟩ := List.mem_map.1 hl
    have := allL_mem.1 hx
    split <;> omega
  dis := by
    unfold litsW
    rw [List.pairwise_map]
    unfold allL
    rw [List.pairwise_map]
    refine List.pairwise_lt_range.imp fun {a b} hab he => ?_
    split at he <;> split at he <;> omega
  inc := List.Pairwise.nil
  bnd := by simp

theorem clo_lits (hv : okV v) {L : List (List Int)} (hL : okL v L) (hm : Models L W) : Clo L (litsW v W) := by
  intro c hc
  obtain ⟨l, hl, ht⟩ := List.any_eq_true.1 (hm c hc)
  have : (stC (litsW v W) c).1 = 1 := stC_one.2 ⟨l, hl, (isS_true (okA_lits (W := W) hv).dis).2 ((mem_lits ((hL c hc).1 l hl)).2 ht)⟩
  omega

end


def mdl (v : Int) (T : List Int) : List Bool := (List.range v.toNat).map fun i : Nat => decide (2 * ((i : Int) + 1) ∈ T)

theorem mdl_len {v : Int} {T : List Int} : (mdl v T).length = v.toNat := by simp [mdl]

theorem mdl_get {v : Int} {T : List Int} {i : Nat} (hi : i < v.toNat) : (mdl v T).getD i false = decide (2 * ((i : Int) + 1) ∈ T) := by
  unfold mdl
  rw [List.getD_eq_getElem?_getD, List.getElem?_map, List.getElem?_range hi]; rfl

section
variable {v : Int} {T s : List Int}

theorem total_lit (h : okA v T s) (ht : ∀ x, 1 ≤ x → x ≤ v → isS T (2 * x) ≠ 2) {x : Int} (h1 : 1 ≤ x) (h2 : x ≤ v) : 2 * x + 1 ∈ T ↔ 2 * x ∉ T := by
  have e : neg (2 * x) = 2 * x + 1 := by unfold neg; rw [if_pos (by omega)]
  rw [← e, ← isS_false h.dis, ← isS_true h.dis]
  have := ht x h1 h2
  rcases isS_cases T (2 * x) with h | h | h <;> omega

theorem truth_mdl (h : okA v T s) (ht : ∀ x, 1 ≤ x → x ≤ v → isS T (2 * x) ≠ 2) {l : Int} (hl : isLit v l) : truth (mdl v T) l = decide (l ∈ T) := by
  have even : ∀ {x : Int}, 1 ≤ x → x ≤ v → truth (mdl v T) (2 * x) = decide (2 * x ∈ T) := fun {x} h1 h2 => by
    rw [truth_even, mdl_get (by omega), show 2 * (((x - 1).toNat : Int) + 1) = 2 * x from by omega]
  have e : l = 2 * (l / 2) ∨ l = 2 * (l / 2) + 1 := by omega
  have b1 : 1 ≤ l / 2 := by omega
  have b2 : l / 2 ≤ v := by omega
  generalize l / 2 = x at *
  rcases e with e | e
  · rw [e, even b1 b2]
  · rw [e, truth_odd, even b1 b2]
    have := total_lit h ht b1 b2
    by_cases hx : 2 * x ∈ T
    · simp [hx, this]
    · simp [hx, this]

theorem mdl_models (h : okA v T s) (ht : ∀ x, 1 ≤ x → x ≤ v → isS T (2 * x) ≠ 2) {L : List (List Int)} (hL : okL v L) (hc : Clo L T) : Models L (mdl v T) := by
  intro c hcl
  rw [List.any_eq_true]
  apply Classical.byContradiction
  intro hn
  refine (hc c hcl).1 (stC_zero.2 fun l hl => ?_)
  have hlit := (hL c hcl).1 l hl
  rcases isS_cases T l with h0 | h0 | h0
  · exact h0
  · exfalso
    exact hn ⟨l, hl, by rw [truth_mdl h ht hlit]; exact decide_eq_true ((isS_true h.dis).1 h0)⟩
  · exfalso
    have := ht (l / 2) (by omega) (by omega)
    rw [isS_none] at h0
    refine this (isS_none.2 fun a ha he => h0 a ha ?_)
    omega

end


def LeastM (v : Int) (L : List (List Int)) (M : List Bool) : Prop :=
  M.length = v.toNat ∧ Models L M ∧ ∀ W, W.length = v.toNat → Models L W → ∀ i, i < v.toNat → (∀ j, j < i → W.getD j false = M.getD j false) → M.getD i false = true → W.getD i false = true

theorem chain_models {v : Int} (hv : okV v) {L0 : List (List Int)} {W : List Bool} (hm : Models L0 W) : ∀ {log : List (List Int)}, okL v (L0 ++ log) → Chain v L0 log → Models (L0 ++ log) W := by
  intro log hL hc
  have all : ∀ n, n ≤ log.length → Models (L0 ++ log.take n) W := by
    intro n
    induction n with
    | zero => intro _; simpa using hm
    | succ n ih =>
      intro hn
      have hlt : n < log.length := by omega
      have h1 := ih (by omega)
      rw [List.take_add_one, List.getElem?_eq_getElem hlt, ← List.append_assoc]
      intro c hcm
      rcases List.mem_append.1 hcm with h2 | h2
      · exact h1 c h2
      · simp only [Option.toList_some, List.mem_singleton] at h2
        subst h2
        refine follows_true hv (L := L0 ++ log.take n) (fun d hd => hL d ?_) (hL _ (List.mem_append_right _ (List.getElem_mem hlt))) h1 (hc n hlt)
        rcases List.mem_append.1 hd with h | h
        · exact List.mem_append_left _ h
        · exact List.mem_append_right _ (List.mem_of_mem_take h)
  have := all log.length (Nat.le_refl _)
  rwa [List.take_length] at this

theorem first_dec {t s : List Int} (x : Int) : ∀ n, n ≤ s.length → (∃ k, k < n ∧ (∀ j, j < k → dc t s j < 2 * x) ∧ 2 * x ≤ dc t s k) ∨ ∀ j, j < n → dc t s j < 2 * x
  | 0, _ => .inr fun j hj => by omega
  | n + 1, hn => by
    rcases first_dec (t := t) (s := s) x n (by omega) with ⟨k, h1, h2, h3⟩ | h
    · exact .inl ⟨k, by omega, h2, h3⟩
    · by_cases hd : dc t s n < 2 * x
      · refine .inr fun j hj => ?_
        rcases Nat.lt_or_ge j n with h' | h'
        · exact h j h'
        · rw [show j = n from by omega]; exact hd
      · exact .inl ⟨n, by omega, h, by omega⟩

theorem dc_mem {v : Int} {t s : List Int} (h : okA v t s) {j : Nat} (hj : j < s.length) : dc t s j ∈ t := by
  obtain ⟨i, hi, _, e⟩ := dc_at h hj
  rw [e]; exact List.getElem_mem hi

section
variable {v : Int} {L0 : List (List Int)} {t s : List Int} {log : List (List Int)}

theorem Inv.least (h : Inv v L0 t s log) {W : List Bool} (hm : Models L0 W) {x : Int} (h1 : 1 ≤ x) (h2 : x ≤ v) (hx : 2 * x ∈ t) (hb : ∀ y, 1 ≤ y → y < x → 2 * y ∉ t → truth W (2 * y) = false) : truth W (2 * x) = true := by
  have hv := h.a.vars
  have hM := chain_models hv hm h.ok h.chain
  have hY := okA_lits (W := W) hv
  have hcl := clo_lits hv h.ok hM
  have hlow : ∀ j, j < s.length → dc t s j < 2 * x → dc t s j ∈ litsW v W := fun j hj hd => by
    obtain ⟨y, e1, e2, e3, _⟩ := h.dec j hj
    have hmem := dc_mem h.a hj
    rw [e1] at hd hmem ⊢
    rw [mem_lits (by omega), truth_odd, hb y e2 (by omega) ?_]
    · rfl
    · intro hy
      have ht := (isS_true h.a.dis).2 hy
      have hf := (isS_false h.a.dis (l := 2 * y)).2 (by unfold neg; rw [if_pos (by omega)]; exact hmem)
      omega
  rw [← mem_lits (v := v) (by omega)]
  rcases first_dec (t := t) (s := s) x s.length (Nat.le_refl _) with ⟨k, k1, k2, k3⟩ | hall
  · obtain ⟨y, e1, e2, e3, e4⟩ := h.dec k k1
    have hmem := dc_mem h.a k1
    have hxy : x < y := by
      have : x ≠ y := fun e => by
        subst e
        rw [e1] at hmem
        have ht := (isS_true h.a.dis).2 hx
        have hf := (isS_false h.a.dis (l := 2 * x)).2 (by unfold neg; rw [if_pos (by omega)]; exact hmem)
        omega
      omega
    have hS := e4 x h1 hxy
    have hd2 : (t.take (keep t s k)).Pairwise fun a b => a / 2 ≠ b / 2 := h.a.dis.sublist (List.take_sublist ..)
    refine h.led k (by omega) _ hY hcl (fun j hj => hlow j (by omega) (k2 j hj)) _ ?_
    rcases isS_cases (t.take (keep t s k)) (2 * x) with h0 | h0 | h0
    · exfalso
      have := List.mem_of_mem_take ((isS_false hd2).1 h0)
      have ht := (isS_true h.a.dis).2 hx
      have hf := (isS_false h.a.dis (l := 2 * x)).2 this
      omega
    · exact (isS_true hd2).1 h0
    · exact absurd h0 hS
  · exact h.led s.length (Nat.le_refl _) _ hY hcl (fun j hj => hlow j hj (hall j hj)) _ (by rw [keep_len, List.take_length]; exact hx)

end


structure AnsOk (v : Int) (L0 : List (List Int)) (r : Bool × List Int × List (List Int) × Nat) : Prop where
  ok : okL v (L0 ++ r.2.2.1)
  chain : Chain v L0 r.2.2.1
  bnd : r.2.2.2 + 1 ≤ 2 ^ v.toNat
  sat : r.1 = true → LeastM v L0 (mdl v r.2.1) ∧ (∀ c ∈ r.2.2.1, c ≠ []) ∧ r.2.2.2 = r.2.2.1.length ∧ (∃ s, okA v r.2.1 s) ∧ ∀ x, 1 ≤ x → x ≤ v → isS r.2.1 (2 * x) ≠ 2
  unsat : r.1 = false → ∃ lg, r.2.2.1 = lg ++ [[]] ∧ (∀ c ∈ lg, c ≠ []) ∧ r.2.2.2 = lg.length ∧ r.2.1 = []

theorem sol_ok {v : Int} {L0 : List (List Int)} : ∀ (n : Nat) {t s : List Int} {log : List (List Int)}, Inv v L0 t s log → meas v t s < n → AnsOk v L0 (sol v n (L0 ++ log) t s log)
  | 0, t, s, log, h, hn => by omega
  | n + 1, t, s, log, h, hn => by
    have hP := h.prop.1
    have hbnd : log.length + 1 ≤ 2 ^ v.toNat := by have := h.mes; have := mes_top h.a; omega
    have hv := h.a.vars
    unfold sol
    by_cases hat : 0 ≤ (propC (L0 ++ log) (v + 1).toNat t).2
    · rw [if_pos hat]
      obtain ⟨f1, f2, f3⟩ := h.fail hat rfl
      by_cases hc : lrnC v (L0 ++ log) (decs (propC (L0 ++ log) (v + 1).toNat t).1 s) = []
      · rw [if_pos hc]
        rw [hc] at f1 f2
        refine ⟨?_, h.chain.snoc f2, hbnd, (by simp), fun _ => ⟨log, rfl, h.full, rfl, rfl⟩⟩
        show okL v (L0 ++ (log ++ [[]]))
        rw [← List.append_assoc, okL_append]
        exact ⟨h.ok, fun d hd => by rw [List.mem_singleton] at hd; subst hd; exact f1⟩
      · rw [if_neg hc]
        obtain ⟨t', s', e1, e2, e3⟩ := f3 hc
        rw [e1]
        have := sol_ok n e2 (by omega)
        rw [← List.append_assoc] at this
        exact this
    · rw [if_neg hat]
      by_cases hl : lf v (propC (L0 ++ log) (v + 1).toNat t).1 = 0
      · rw [if_pos hl]
        have htot : ∀ x, 1 ≤ x → x ≤ v → isS (propC (L0 ++ log) (v + 1).toNat t).1 (2 * x) ≠ 2 := by
          rcases lf_spec (v := v) (by omega) (propC (L0 ++ log) (v + 1).toNat t).1 with ⟨_, h2⟩ | ⟨h1, _⟩
          · exact h2
          · omega
        have hcl := prop_closed h.ok h.a (by omega)
        have hmod := mdl_models hP.a htot h.ok hcl
        refine ⟨h.ok, h.chain, hbnd, fun _ => ⟨⟨mdl_len, fun c hc => hmod c (List.mem_append_left _ hc), fun W hW hm i hi hpre hMi => ?_⟩, h.full, rfl, ⟨s, hP.a⟩, htot⟩, by simp⟩
        rw [mdl_get hi] at hMi
        have hx := of_decide_eq_true hMi
        have := hP.least hm (x := (i : Int) + 1) (by omega) (by omega) hx (fun y y1 y2 hy => ?_)
        · rw [truth_even, show ((i : Int) + 1 - 1).toNat = i from by omega] at this; exact this
        · have := hpre (y - 1).toNat (by omega)
          rw [mdl_get (by omega), show 2 * (((y - 1).toNat : Int) + 1) = 2 * y from by omega] at this
          rw [truth_even, this]; exact decide_eq_false hy
      · rw [if_neg hl]
        obtain ⟨e1, e2⟩ := h.choose hl
        exact sol_ok n e1 (by omega)

theorem AnsOk.none {v : Int} (hv : okV v) {L0 : List (List Int)} {r : Bool × List Int × List (List Int) × Nat} (h : AnsOk v L0 r) (hr : r.1 = false) (W : List Bool) : ¬ Models L0 W := by
  intro hm
  obtain ⟨lg, e, _⟩ := h.unsat hr
  have := chain_models hv hm h.ok h.chain [] (by rw [e]; simp)
  simp at this

end Go.Proofs.YthbkhndapkbgbaaGreat
