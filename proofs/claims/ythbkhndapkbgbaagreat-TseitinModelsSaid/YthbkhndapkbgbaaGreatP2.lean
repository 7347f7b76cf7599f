/- . -/
import Derived.Test.YthbkhndapkbgbaaGreatP1
namespace Go.Proofs.YthbkhndapkbgbaaGreat
open Go Go.Proofs.YthbkhndapkbgbaaGreat.R
set_option linter.unusedVariables false

structure okA (v : Int) (t s : List Int) : Prop where
  vars : okV v
  lits : ∀ l ∈ t, isLit v l
  dis : t.Pairwise fun a b => a / 2 ≠ b / 2
  inc : s.Pairwise (· < ·)
  bnd : ∀ x ∈ s, 0 ≤ x ∧ x < (t.length : Int)

instance (v : Int) (t s : List Int) : Decidable (okA v t s) :=
  decidable_of_iff (okV v ∧ (∀ l ∈ t, isLit v l) ∧ t.Pairwise (fun a b => a / 2 ≠ b / 2) ∧ s.Pairwise (· < ·) ∧ ∀ x ∈ s, 0 ≤ x ∧ x < (t.length : Int))
    ⟨fun ⟨h1, h2, h3, h4, h5⟩ => ⟨h1, h2, h3, h4, h5⟩, fun h => ⟨h.1, h.2, h.3, h.4, h.5⟩⟩

def freshA (v : Int) : List Int → List Int → Bool
  | _, [] => true
  | s, l :: r => (decide (isLit v l) && decide (∀ a ∈ s, a / 2 ≠ l / 2)) && freshA v (s ++ [l]) r

theorem freshA_iff {v : Int} : ∀ {r s : List Int}, freshA v s r = true ↔ (∀ l ∈ r, isLit v l) ∧ r.Pairwise (fun a b => a / 2 ≠ b / 2) ∧ ∀ a ∈ s, ∀ b ∈ r, a / 2 ≠ b / 2
  | [], s => by simp [freshA]
  | l :: r, s => by
    simp only [freshA, Bool.and_eq_true, decide_eq_true_eq, freshA_iff (r := r), List.pairwise_cons, List.mem_cons, forall_eq_or_imp, List.mem_append, List.not_mem_nil, or_false]
    constructor
    · rintro ⟨⟨h1, h2⟩, h3, h4, h5⟩
      exact ⟨⟨h1, h3⟩, ⟨fun b hb => h5 l (.inr rfl) b hb, h4⟩, fun a ha => ⟨h2 a ha, fun b hb => h5 a (.inl ha) b hb⟩⟩
    · rintro ⟨⟨h1, h3⟩, ⟨h6, h4⟩, h5⟩
      refine ⟨⟨h1, fun a ha => (h5 a ha).1⟩, h3, h4, fun a ha b hb => ?_⟩
      rcases ha with ha | rfl
      · exact (h5 a ha).2 b hb
      · exact h6 b hb

def okS (n : Int) : Int → List Int → Bool
  | _, [] => true
  | p, x :: r => decide (p < x ∧ x < n) && okS n x r

theorem okS_iff {n : Int} : ∀ {r : List Int} {p : Int}, okS n p r = true ↔ r.Pairwise (· < ·) ∧ ∀ x ∈ r, p < x ∧ x < n
  | [], p => by simp [okS]
  | x :: r, p => by
    simp only [okS, Bool.and_eq_true, decide_eq_true_eq, okS_iff (r := r), List.pairwise_cons, List.mem_cons, forall_eq_or_imp]
    constructor
    · rintro ⟨h1, h2, h3⟩
      exact ⟨⟨fun a ha => (h3 a ha).1, h2⟩, h1, fun a ha => ⟨Int.lt_trans h1.1 (h3 a ha).1, (h3 a ha).2⟩⟩
    · rintro ⟨⟨h4, h2⟩, h1, h3⟩
      exact ⟨h1, h2, fun a ha => ⟨h4 a ha, (h3 a ha).2⟩⟩

theorem pigeon : ∀ (n : Nat) {l : List Int}, l.Nodup → (∀ x ∈ l, 0 ≤ x ∧ x < (n : Int)) → l.length ≤ n
  | 0, l, hd, h => by
    cases l with
    | nil => simp
    | cons x l => have := h x (by simp); omega
  | n + 1, l, hd, h => by
    by_cases hm : (n : Int) ∈ l
    · have := pigeon n (l := l.erase (n : Int)) (hd.erase _) (fun x hx => by
        have h1 := h x (List.mem_of_mem_erase hx)
        have h2 : x ≠ (n : Int) := fun e => by
          subst e
          exact (List.Nodup.not_mem_erase hd) hx
        omega)
      rw [List.length_erase_of_mem hm] at this
      omega
    · have := pigeon n (l := l) hd (fun x hx => by
        have h1 := h x hx
        have h2 : x ≠ (n : Int) := fun e => by subst e; exact hm hx
        omega)
      omega

theorem okA.short {v : Int} {t s : List Int} (h : okA v t s) : (t.length : Int) ≤ v ∧ s.length ≤ t.length := by
  constructor
  · have h1 : (t.map fun l => l / 2 - 1).Nodup := by
      rw [List.Nodup, List.pairwise_map]
      exact h.dis.imp fun hab he => hab (by omega)
    have hv := h.vars
    have := pigeon v.toNat h1 (fun x hx => by
      obtain ⟨l, hl, rfl⟩ := List.mem_map.1 hx
      have := h.lits l hl
      omega)
    rw [List.length_map] at this
    omega
  · have h1 : s.Nodup := h.inc.imp fun hab he => by omega
    exact pigeon t.length h1 h.bnd

theorem okA_iff {v : Int} {t s : List Int} : okA v t s ↔ okV v ∧ freshA v [] t = true ∧ okS (t.length : Int) (-1) s = true := by
  rw [freshA_iff, okS_iff]
  constructor
  · intro h
    exact ⟨h.vars, ⟨h.lits, h.dis, by simp⟩, h.inc, fun x hx => ⟨by have := (h.bnd x hx).1; omega, (h.bnd x hx).2⟩⟩
  · rintro ⟨h1, ⟨h2, h3, _⟩, h4, h5⟩
    exact ⟨h1, h2, h3, h4, fun x hx => ⟨by have := (h5 x hx).1; omega, (h5 x hx).2⟩⟩

theorem assign_known_eq {v l : Int} (hl : in64 l) : assign_known v l = some (decide (isLit v l)) := by
  rw [assign_known.eq, cd]
  split
  · rename_i h
    rw [td (by omega) (by omega)]
    congr 1
    rw [decide_eq_decide]; omega
  · rename_i h
    congr 1
    symm
    rw [decide_eq_false_iff_not]; omega

theorem assign_Check.loop1 {v : Int} {t s : List Int} (hn : s.length ≤ 140737488351232) : ∀ (n i : Nat), i + n = s.length → (∀ q, prevOf s i = some q → 0 ≤ q) →
    assign_Check.l1 s (s.length : Int) (i : Int) v t s = some (bif okS (t.length : Int) ((prevOf s i).getD (-1)) (s.drop i) then 0 else 8)
  | 0, i, hi, hq => by
    rw [assign_Check.l1_eq, cd, if_neg (by omega), List.drop_of_length_le (by omega)]
    simp [okS]
  | n + 1, i, hi, hq => by
    have hlt : i < s.length := by omega
    have hw : IntKind.wrap .i64 ((i : Int) + 1) = ((i + 1 : Nat) : Int) := by rw [wr] <;> omega
    rw [assign_Check.l1_eq, cd, if_pos (by omega), gsome hlt, Option.bind_some, drop_cons hlt, hw]
    simp only [okS, cd]
    by_cases h1 : s[i] < 0
    · rw [if_pos h1]
      have : ¬ ((prevOf s i).getD (-1) < s[i] ∧ s[i] < (t.length : Int)) := by
        cases hp : prevOf s i with
        | none => simp; omega
        | some q => have := hq q hp; simp; omega
      simp [this]
    · rw [if_neg h1]
      by_cases h2 : s[i] ≥ (t.length : Int)
      · rw [if_pos h2]
        have : ¬ ((prevOf s i).getD (-1) < s[i] ∧ s[i] < (t.length : Int)) := by omega
        simp [this]
      · rw [if_neg h2]
        have ih := assign_Check.loop1 (v := v) (t := t) hn n (i + 1) (by omega) (fun q hq' => by rw [prevOf_succ hlt] at hq'; cases hq'; omega)
        rw [prevOf_succ hlt] at ih
        rw [ih]
        by_cases h0 : i = 0
        · subst h0
          rw [if_neg (by omega)]
          have : (prevOf s 0).getD (-1) < s[0] ∧ s[0] < (t.length : Int) := by simp [prevOf]; omega
          simp [this]
        · have hp : i - 1 < s.length := by omega
          have hprev : prevOf s i = some s[i - 1] := by simp [prevOf, h0, hp]
          have hw2 : IntKind.wrap .i64 ((i : Int) - 1) = ((i - 1 : Nat) : Int) := by rw [wr] <;> omega
          rw [if_pos (by omega), hw2, gsome hp, Option.bind_some, hprev]
          by_cases h3 : s[i] ≤ s[i - 1]
          · rw [if_pos h3]
            have : ¬ (s[i - 1] < s[i] ∧ s[i] < (t.length : Int)) := by omega
            simp [this]
          · rw [if_neg h3]
            have : s[i - 1] < s[i] ∧ s[i] < (t.length : Int) := by omega
            simp [this]

theorem assign_Check.loop0 {v : Int} (hv : okV v) {t s : List Int} (hn : t.length ≤ 140737488351232) (hs : s.length ≤ 140737488351232) (hr : ∀ l ∈ t, in64 l) : ∀ (n i : Nat) (o : List Bool), i + n = t.length → (o.length : Int) = v + 1 →
    (∀ k : Nat, k < o.length → o[k]? = some (decide (∃ a ∈ t.take i, a / 2 = (k : Int)))) →
    assign_Check.l0 t (t.length : Int) (i : Int) v t s o = some (bif freshA v (t.take i) (t.drop i) && okS (t.length : Int) (-1) s then 0 else 8)
  | 0, i, o, hi, ho, hk => by
    rw [assign_Check.l0_eq, cd, if_neg (by omega), List.drop_of_length_le (by omega)]
    have := assign_Check.loop1 (v := v) (t := t) hs s.length 0 (by omega) (by simp [prevOf])
    rw [show ((0 : Nat) : Int) = 0 from rfl] at this
    rw [this]
    simp [freshA, prevOf]
  | n + 1, i, o, hi, ho, hk => by
    have hlt : i < t.length := by omega
    have hmem := hr t[i] (List.getElem_mem hlt)
    have hw : IntKind.wrap .i64 ((i : Int) + 1) = ((i + 1 : Nat) : Int) := by rw [wr] <;> omega
    rw [assign_Check.l0_eq, cd, if_pos (by omega), gsome hlt, Option.bind_some, assign_known_eq hmem, Option.bind_some, cnot, cd, drop_cons hlt, hw]
    simp only [freshA]
    by_cases hl : isLit v t[i]
    · rw [if_pos hl]
      have hd : IntKind.wrap .i64 (Int.tdiv t[i] 2) = t[i] / 2 := td (by omega) (by omega)
      obtain ⟨k, hkk⟩ : ∃ k : Nat, t[i] / 2 = (k : Int) := ⟨(t[i] / 2).toNat, by omega⟩
      have hko : k < o.length := by omega
      have hget := hk k hko
      have hk0 : ((k : Int)).toNat = k := by omega
      rw [hd, hkk, hk0, gi, List.getElem?_eq_getElem hko, Option.bind_some]
      rw [List.getElem?_eq_getElem hko] at hget
      have hget := Option.some.inj hget
      simp only [Option.bind_some]
      rw [hget, cd]
      by_cases he : ∃ a ∈ t.take i, a / 2 = (k : Int)
      · rw [if_pos he]
        have : ¬ ∀ a ∈ t.take i, a / 2 ≠ t[i] / 2 := fun hh => by obtain ⟨a, ha, hb⟩ := he; exact hh a ha (by omega)
        rw [hkk] at this
        simp only [this, decide_false, Bool.and_false, Bool.false_and]
        rfl
      · rw [if_neg he]
        have hdis : ∀ a ∈ t.take i, a / 2 ≠ (k : Int) := fun a ha hb => he ⟨a, ha, hb⟩
        have htk : t.take (i + 1) = t.take i ++ [t[i]] := by rw [List.take_add_one, List.getElem?_eq_getElem hlt]; rfl
        have ih := assign_Check.loop0 hv hn hs hr n (i + 1) (o.set k true) (by omega) (by rw [List.length_set]; exact ho) (fun j hj => by
          rw [List.length_set] at hj
          rw [List.getElem?_set, htk]
          by_cases hjk : k = j
          · subst hjk
            rw [if_pos rfl, if_pos hj]
            congr 1
            symm
            rw [decide_eq_true_iff]
            exact ⟨t[i], List.mem_append.2 (.inr (List.mem_singleton.2 rfl)), hkk⟩
          · rw [if_neg hjk, hk j hj]
            congr 1
            rw [decide_eq_decide]
            constructor
            · rintro ⟨a, ha, hb⟩
              exact ⟨a, List.mem_append.2 (.inl ha), hb⟩
            · rintro ⟨a, ha, hb⟩
              rcases List.mem_append.1 ha with ha | ha
              · exact ⟨a, ha, hb⟩
              · have : a = t[i] := List.mem_singleton.1 ha
                subst this
                omega)
        rw [ih, htk]
        have h1 : decide (isLit v t[i]) = true := by simpa using hl
        have h2 : decide (∀ a ∈ t.take i, a / 2 ≠ (k : Int)) = true := by simpa using hdis
        rw [h1, h2, Bool.true_and, Bool.true_and]
    · rw [if_neg hl]
      simp [hl]

theorem assign_Check_eq {v : Int} {t s : List Int} (hn : t.length ≤ 140737488351232) (hs : s.length ≤ 140737488351232) (hr : ∀ l ∈ t, in64 l) : assign_Check v t s = some (if okA v t s then 0 else 8) := by
  rw [assign_Check.eq, cd, cd]
  by_cases h1 : v < 0
  · rw [if_pos h1, if_neg (fun h => by have := h.vars; omega)]
  · rw [if_neg h1]
    by_cases h2 : v > 4000
    · rw [if_pos h2, if_neg (fun h => by have := h.vars; omega)]
    · have hw : IntKind.wrap .i64 (v + 1) = v + 1 := by rw [wr] <;> omega
      rw [if_neg h2, hw, mkl_ok (by omega) (by omega), Option.bind_some, if_pos rfl]
      have := assign_Check.loop0 (v := v) ⟨by omega, by omega⟩ hn hs hr t.length 0 (List.replicate (v + 1).toNat false) (by omega) (by rw [List.length_replicate]; omega) (fun k hk => by
        rw [List.length_replicate] at hk
        rw [List.getElem?_replicate, if_pos hk]; simp)
      rw [show ((0 : Nat) : Int) = 0 from rfl] at this
      rw [this]
      have hiff := okA_iff (v := v) (t := t) (s := s)
      simp only [List.take_zero, List.drop_zero]
      by_cases h : okA v t s
      · obtain ⟨_, e1, e2⟩ := hiff.1 h
        rw [if_pos h, e1, e2]; rfl
      · rw [if_neg h]
        cases e1 : freshA v [] t with
        | false => rfl
        | true =>
          cases e2 : okS (t.length : Int) (-1) s with
          | false => rfl
          | true => exact absurd (hiff.2 ⟨⟨by omega, by omega⟩, e1, e2⟩) h


def isS : List Int → Int → Int
  | [], _ => 2
  | x :: r, l => if x = l then 1 else if x = neg l then 0 else isS r l

theorem isS_none {t : List Int} {l : Int} : isS t l = 2 ↔ ∀ a ∈ t, a / 2 ≠ l / 2 := by
  induction t with
  | nil => simp [isS]
  | cons x t ih =>
    simp only [isS, List.mem_cons, forall_eq_or_imp]
    split
    · rename_i h; subst h; simp
    · split
      · rename_i h1 h2; subst h2; simp [neg_div]
      · rename_i h1 h2
        rw [ih]
        constructor
        · intro h; exact ⟨fun he => (div_eq he).elim h1 h2, h⟩
        · intro h; exact h.2

theorem isS_true {t : List Int} (hd : t.Pairwise fun a b => a / 2 ≠ b / 2) {l : Int} : isS t l = 1 ↔ l ∈ t := by
  induction t with
  | nil => simp [isS]
  | cons x t ih =>
    rw [List.pairwise_cons] at hd
    simp only [isS, List.mem_cons]
    split
    · rename_i h; simp [h]
    · rename_i h
      split
      · rename_i h2
        constructor
        · intro h; omega
        · rintro (h3 | h3)
          · exact absurd h3.symm h
          · exact absurd (by rw [h2, neg_div]) (hd.1 l h3)
      · rw [ih hd.2]
        constructor
        · exact .inr
        · rintro (h3 | h3)
          · exact absurd h3.symm h
          · exact h3

theorem isS_false {t : List Int} (hd : t.Pairwise fun a b => a / 2 ≠ b / 2) {l : Int} : isS t l = 0 ↔ neg l ∈ t := by
  induction t with
  | nil => simp [isS]
  | cons x t ih =>
    rw [List.pairwise_cons] at hd
    simp only [isS, List.mem_cons]
    split
    · rename_i h
      subst h
      constructor
      · intro h; omega
      · rintro (h3 | h3)
        · exact absurd h3 neg_ne
        · exact absurd neg_div.symm (hd.1 _ h3)
    · rename_i h
      split
      · rename_i h2; simp [h2]
      · rename_i h2
        rw [ih hd.2]
        constructor
        · exact .inr
        · rintro (h3 | h3)
          · exact absurd h3.symm h2
          · exact h3

theorem isS_cases (t : List Int) (l : Int) : isS t l = 0 ∨ isS t l = 1 ∨ isS t l = 2 := by
  induction t with
  | nil => simp [isS]
  | cons x t ih => simp only [isS]; split; simp; split; simp; exact ih

theorem isS_append {t u : List Int} {l : Int} : isS (t ++ u) l = if isS t l = 2 then isS u l else isS t l := by
  induction t with
  | nil => simp [isS]
  | cons x t ih =>
    simp only [List.cons_append, isS]
    split
    · simp
    · split
      · simp
      · exact ih

end Go.Proofs.YthbkhndapkbgbaaGreat
