/- Plain values: assignments. -/
import Derived.Test.YtjkoadoekaplpaaGreatP1
namespace Go.Proofs.YtjkoadoekaplpaaGreat
open Go Go.Proofs.YtjkoadoekaplpaaGreat.R
set_option linter.unusedVariables false

/-- An assignment that is valid. -/
structure okA (v : Int) (t s : List Int) : Prop where
  vars : okV v
  lits : ∀ l ∈ t, isLit v l
  dis : t.Pairwise fun a b => a / 2 ≠ b / 2
  inc : s.Pairwise (· < ·)
  bnd : ∀ x ∈ s, 0 ≤ x ∧ x < (t.length : Int)

instance (v : Int) (t s : List Int) : Decidable (okA v t s) :=
  decidable_of_iff (okV v ∧ (∀ l ∈ t, isLit v l) ∧ t.Pairwise (fun a b => a / 2 ≠ b / 2) ∧ s.Pairwise (· < ·) ∧ ∀ x ∈ s, 0 ≤ x ∧ x < (t.length : Int))
    ⟨fun ⟨h1, h2, h3, h4, h5⟩ => ⟨h1, h2, h3, h4, h5⟩, fun h => ⟨h.1, h.2, h.3, h.4, h.5⟩⟩

def freshA (v : Int) : List Int → List Int → Bool
  | _, [] => true
  | s, l :: r => (decide (isLit v l) && decide (∀ a ∈ s, a / 2 ≠ l / 2)) && freshA v (s ++ [l]) r

theorem freshA_iff {v : Int} : ∀ {r s : List Int}, freshA v s r = true ↔ (∀ l ∈ r, isLit v l) ∧ r.Pairwise (fun a b => a / 2 ≠ b / 2) ∧ ∀ a ∈ s, ∀ b ∈ r, a / 2 ≠ b / 2
  | [], s => by simp [freshA]
  | l :: r, s => by
    simp only [freshA, Bool.and_eq_true, decide_eq_true_eq, freshA_iff (r := r), List.pairwise_cons, List.mem_cons, forall_eq_or_imp, List.mem_append, List.not_mem_nil, or_false]
    constructor
    · rintro ⟨⟨h1, h2⟩, h3, h4, h5⟩
      exact ⟨⟨h1, h3⟩, ⟨fun b hb => h5 l (.inr rfl) b hb, h4⟩, fun a ha => ⟨h2 a ha, fun b hb => h5 a (.inl ha) b hb⟩⟩
    · rintro ⟨⟨h1, h3⟩, ⟨h6, h4⟩, h5⟩
      refine ⟨⟨h1, fun a ha => (h5 a ha).1⟩, h3, h4, fun a ha b hb => ?_⟩
      rcases ha with ha | rfl
      · exact (h5 a ha).2 b hb
      · exact h6 b hb

def okS (n : Int) : Int → List Int → Bool
  | _, [] => true
  | p, x :: r => decide (p < x ∧ x < n) && okS n x r

theorem okS_iff {n : Int} : ∀ {r : List Int} {p : Int}, okS n p r = true ↔ r.Pairwise (· < ·) ∧ ∀ x ∈ r, p < x ∧ x < n
  | [], p => by simp [okS]
  | x :: r, p => by
    simp only [okS, Bool.and_eq_true, decide_eq_true_eq, okS_iff (r := r), List.pairwise_cons, List.mem_cons, forall_eq_or_imp]
    constructor
    · rintro ⟨h1, h2, h3⟩
      exact ⟨⟨fun a ha => (h3 a ha).1, h2⟩, h1, fun a ha => ⟨Int.lt_trans h1.1 (h3 a ha).1, (h3 a ha).2⟩⟩
    · rintro ⟨⟨h4, h2⟩, h1, h3⟩
      exact ⟨h1, h2, fun a ha => ⟨h4 a ha, (h3 a ha).2⟩⟩

/-- Distinct numbers below a bound are few. -/
theorem pigeon : ∀ (n : Nat) {l : List Int}, l.Nodup → (∀ x ∈ l, 0 ≤ x ∧ x < (n : Int)) → l.length ≤ n
  | 0, l, hd, h => by
    cases l with
    | nil => simp
    | cons x l => have := h x (by simp); omega
  | n + 1, l, hd, h => by
    by_cases hm : (n : Int) ∈ l
    · have := pigeon n (l := l.erase (n : Int)) (hd.erase _) (fun x hx => by
        have h1 := h x (List.mem_of_mem_erase hx)
        have h2 : x ≠ (n : Int) := fun e => by
          subst e
          exact (List.Nodup.not_mem_erase hd) hx
        omega)
      rw [List.length_erase_of_mem hm] at this
      omega
    · have := pigeon n (l := l) hd (fun x hx => by
        have h1 := h x hx
        have h2 : x ≠ (n : Int) := fun e => by subst e; exact hm hx
        omega)
      omega

theorem okA.short {v : Int} {t s : List Int} (h : okA v t s) : (t.length : Int) ≤ v ∧ s.length ≤ t.length := by
  constructor
  · have h1 : (t.map fun l => l / 2 - 1).Nodup := by
      rw [List.Nodup, List.pairwise_map]
      exact h.dis.imp fun hab he => hab (by omega)
    have hv := h.vars
    have := pigeon v.toNat h1 (fun x hx => by
      obtain ⟨l, hl, rfl⟩ := List.mem_map.1 hx
      have := h.lits l hl
      omega)
    rw [List.length_map] at this
    omega
  · have h1 : s.Nodup := h.inc.imp fun hab he => by omega
    exact pigeon t.length h1 h.bnd

theorem okA_iff {v : Int} {t s : List Int} : okA v t s ↔ okV v ∧ freshA v [] t = true ∧ okS (t.length : Int) (-1) s = true := by
  rw [freshA_iff, okS_iff]
  constructor
  · intro h
    exact ⟨h.vars, ⟨h.lits, h.dis, by simp⟩, h.inc, fun x hx => ⟨by have := (h.bnd x hx).1; omega, (h.bnd x hx).2⟩⟩
  · rintro ⟨h1, ⟨h2, h3, _⟩, h4, h5⟩
    exact ⟨h1, h2, h3, h4, fun x hx => ⟨by have := (h5 x hx).1; omega, (h5 x hx).2⟩⟩

/-! ### What a literal is -/

def isS : List Int → Int → Int
  | [], _ => 2
  | x :: r, l => if x = l then 1 else if x = neg l then 0 else isS r l

theorem isS_none {t : List Int} {l : Int} : isS t l = 2 ↔ ∀ a ∈ t, a / 2 ≠ l / 2 := by
  induction t with
  | nil => simp [isS]
  | cons x t ih =>
    simp only [isS, List.mem_cons, forall_eq_or_imp]
    split
    · rename_i h; subst h; simp
    · split
      · rename_i h1 h2; subst h2; simp [neg_div]
      · rename_i h1 h2
        rw [ih]
        constructor
        · intro h; exact ⟨fun he => (div_eq he).elim h1 h2, h⟩
        · intro h; exact h.2

theorem isS_true {t : List Int} (hd : t.Pairwise fun a b => a / 2 ≠ b / 2) {l : Int} : isS t l = 1 ↔ l ∈ t := by
  induction t with
  | nil => simp [isS]
  | cons x t ih =>
    rw [List.pairwise_cons] at hd
    simp only [isS, List.mem_cons]
    split
    · rename_i h; simp [h]
    · rename_i h
      split
      · rename_i h2
        constructor
        · intro h; omega
        · rintro (h3 | h3)
          · exact absurd h3.symm h
          · exact absurd (by rw [h2, neg_div]) (hd.1 l h3)
      · rw [ih hd.2]
        constructor
        · exact .inr
        · rintro (h3 | h3)
          · exact absurd h3.symm h
          · exact h3

theorem isS_false {t : List Int} (hd : t.Pairwise fun a b => a / 2 ≠ b / 2) {l : Int} : isS t l = 0 ↔ neg l ∈ t := by
  induction t with
  | nil => simp [isS]
  | cons x t ih =>
    rw [List.pairwise_cons] at hd
    simp only [isS, List.mem_cons]
    split
    · rename_i h
      subst h
      constructor
      · intro h; omega
      · rintro (h3 | h3)
        · exact absurd h3 neg_ne
        · exact absurd neg_div.symm (hd.1 _ h3)
    · rename_i h
      split
      · rename_i h2; simp [h2]
      · rename_i h2
        rw [ih hd.2]
        constructor
        · exact .inr
        · rintro (h3 | h3)
          · exact absurd h3.symm h2
          · exact h3

theorem isS_cases (t : List Int) (l : Int) : isS t l = 0 ∨ isS t l = 1 ∨ isS t l = 2 := by
  induction t with
  | nil => simp [isS]
  | cons x t ih => simp only [isS]; split; simp; split; simp; exact ih

theorem isS_append {t u : List Int} {l : Int} : isS (t ++ u) l = if isS t l = 2 then isS u l else isS t l := by
  induction t with
  | nil => simp [isS]
  | cons x t ih =>
    simp only [List.cons_append, isS]
    split
    · simp
    · split
      · simp
      · exact ih

end Go.Proofs.YtjkoadoekaplpaaGreat
