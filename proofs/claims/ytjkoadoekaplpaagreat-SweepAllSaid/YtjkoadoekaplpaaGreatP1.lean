/- Plain values: numbers that do not overflow, loops over lists; clauses and assignments. -/
import Derived.Test.YtjkoadoekaplpaaGreatQ1
import Derived.Laws.BitsLemmas
namespace Go.Proofs.YtjkoadoekaplpaaGreat
open Go Go.Proofs.YtjkoadoekaplpaaGreat.R
set_option linter.unusedVariables false

section base
variable {α β : Type}

theorem wr {x : Int} (h1 : -9223372036854775808 ≤ x) (h2 : x ≤ 9223372036854775807) : IntKind.wrap .i64 x = x := by
  rw [IntKind.wrap_i64]; omega

theorem cd {p : Prop} [Decidable p] {a b : α} : (bif decide p then a else b) = if p then a else b := by by_cases h : p <;> simp [h]
theorem ce {x y : Int} {a b : α} : (bif (x == y) then a else b) = if x = y then a else b := by
  by_cases h : x = y
  · subst h; simp
  · rw [if_neg h, beq_false_of_ne h]; rfl
theorem cn {x y : Int} {a b : α} : (bif (x != y) then a else b) = if x = y then b else a := by
  by_cases h : x = y
  · subst h; simp
  · rw [if_neg h, bne, beq_false_of_ne h]; rfl
theorem cnot {c : Bool} {a b : α} : (bif !c then a else b) = bif c then b else a := by cases c <;> rfl
theorem ct {a b : α} : (bif true then a else b) = a := rfl
theorem cf {a b : α} : (bif false then a else b) = b := rfl
theorem gi {l : List α} {i : Nat} : geti l (i : Int) = l[i]? := by simp [geti]
theorem gi' {l : List α} {i : Int} (h : 0 ≤ i) : geti l i = l[i.toNat]? := by simp [geti, h]
theorem gsome {l : List α} {i : Nat} (h : i < l.length) : geti l (i : Int) = some l[i] := by rw [gi, List.getElem?_eq_getElem h]
theorem td {l : Int} (h : 0 ≤ l) (h2 : l ≤ 9223372036854775807) : IntKind.wrap .i64 (Int.tdiv l 2) = l / 2 := by
  rw [Int.tdiv_eq_ediv_of_nonneg h, wr] <;> omega
theorem tm {l : Int} (h : 0 ≤ l) : Int.tmod l 2 = l % 2 := Int.tmod_eq_emod_of_nonneg h
theorem app_nil {l : List α} (h : l.length ≤ 68719476736) : app [] l = some l := by
  unfold app LIM
  rw [if_pos (by simpa using h)]; simp
theorem app_ok {l m : List α} (h : l.length + m.length ≤ 68719476736) : app l m = some (l ++ m) := by
  unfold app LIM
  rw [if_pos h]
theorem mkl_ok {n : Int} {v : α} (h : 0 ≤ n) (h2 : n ≤ 68719476736) : mkl n v = some (List.replicate n.toNat v) := by
  unfold mkl LIM
  rw [if_pos ⟨h, h2⟩]

theorem drop_cons {l : List α} {i : Nat} (h : i < l.length) : l.drop i = l[i] :: l.drop (i + 1) := List.drop_eq_getElem_cons h

/-- A negated literal. -/
def neg (l : Int) : Int := if l % 2 = 0 then l + 1 else l - 1

theorem bxor_one {l : Int} (h : 0 ≤ l) (h2 : l ≤ 9223372036854775806) : bxor .i64 l 1 = neg l := by
  unfold bxor
  obtain ⟨n, rfl⟩ := Int.eq_ofNat_of_zero_le h
  have hx : ((BitVec.ofInt 64 (n : Int)) ^^^ (BitVec.ofInt 64 1)).toNat = n ^^^ 1 := by
    rw [BitVec.toNat_xor]
    have h1 : (BitVec.ofInt 64 (n : Int)).toNat = n := by
      rw [BitVec.toNat_ofInt]
      omega
    have h3 : (BitVec.ofInt 64 1).toNat = 1 := by decide
    rw [h1, h3]
  show IntKind.wrap .i64 (((BitVec.ofInt 64 (n : Int)) ^^^ (BitVec.ofInt 64 1)).toNat : Int) = _
  rw [hx]
  have hn : ((n ^^^ 1 : Nat) : Int) = neg n := by
    unfold neg
    have h1 : (n ^^^ 1) / 2 = n / 2 := by
      have := Nat.xor_div_two_pow (a := n) (b := 1) (n := 1)
      simpa using this
    have h2 : (n ^^^ 1) % 2 = (n + 1) % 2 := by
      have := Nat.xor_mod_two_pow (a := n) (b := 1) (n := 1)
      simp only [Nat.pow_one] at this
      have h2 : n % 2 = 0 ∨ n % 2 = 1 := by omega
      rcases h2 with h | h
      · rw [this, h]
        have : (0 ^^^ 1 % 2 : Nat) = 1 := by decide
        rw [this]; omega
      · rw [this, h]
        have : (1 ^^^ 1 % 2 : Nat) = 0 := by decide
        rw [this]; omega
    split <;> omega
  rw [hn]
  exact wr (by unfold neg; split <;> omega) (by unfold neg; split <;> omega)

theorem neg_div {l : Int} : neg l / 2 = l / 2 := by unfold neg; split <;> omega
theorem neg_neg {l : Int} : neg (neg l) = l := by unfold neg; split <;> split <;> omega
theorem neg_ne {l : Int} : neg l ≠ l := by unfold neg; split <;> omega
theorem div_eq {a b : Int} (h : a / 2 = b / 2) : a = b ∨ a = neg b := by unfold neg; split <;> omega
theorem neg_lit {v l : Int} (h : 2 ≤ l ∧ l ≤ 2 * v + 1) : 2 ≤ neg l ∧ neg l ≤ 2 * v + 1 := by unfold neg; split <;> omega

end base

/-! ### Clauses -/

abbrev isLit (v l : Int) : Prop := 2 ≤ l ∧ l ≤ 2 * v + 1

abbrev okV (v : Int) : Prop := 0 ≤ v ∧ v ≤ 4000

/-- A clause: literals in order, of different variables. -/
def okC (v : Int) (c : List Int) : Prop := (∀ l ∈ c, isLit v l) ∧ c.Pairwise (fun a b => a / 2 < b / 2)

instance (v : Int) (c : List Int) : Decidable (okC v c) := by unfold okC; infer_instance

def chain (v : Int) : Option Int → List Int → Bool
  | _, [] => true
  | p, l :: r => (decide (isLit v l) && (match p with | none => true | some q => decide (q / 2 < l / 2))) && chain v (some l) r

theorem chain_some {v : Int} : ∀ {c : List Int} {q : Int}, chain v (some q) c = true ↔ okC v c ∧ ∀ l ∈ c, q / 2 < l / 2
  | [], q => by simp [chain, okC]
  | l :: r, q => by
    simp only [chain, Bool.and_eq_true, decide_eq_true_eq, chain_some (c := r), okC, List.pairwise_cons, List.mem_cons, forall_eq_or_imp]
    constructor
    · rintro ⟨⟨h1, h2⟩, ⟨h3, h4⟩, h5⟩
      exact ⟨⟨⟨h1, h3⟩, h5, h4⟩, h2, fun x hx => Int.lt_trans h2 (h5 x hx)⟩
    · rintro ⟨⟨⟨h1, h3⟩, h5, h4⟩, h2, h6⟩
      exact ⟨⟨h1, h2⟩, ⟨h3, h4⟩, h5⟩

theorem chain_none {v : Int} : ∀ {c : List Int}, chain v none c = true ↔ okC v c
  | [] => by simp [chain, okC]
  | l :: r => by
    simp only [chain, Bool.and_true, Bool.and_eq_true, decide_eq_true_eq, chain_some (c := r), okC, List.pairwise_cons, List.mem_cons, forall_eq_or_imp]
    constructor
    · rintro ⟨h1, ⟨h3, h4⟩, h5⟩
      exact ⟨⟨h1, h3⟩, h5, h4⟩
    · rintro ⟨⟨h1, h3⟩, h5, h4⟩
      exact ⟨h1, ⟨h3, h4⟩, h5⟩

def prevOf (c : List Int) (i : Nat) : Option Int := if i = 0 then none else c[i - 1]?

theorem prevOf_succ {c : List Int} {i : Nat} (h : i < c.length) : prevOf c (i + 1) = some c[i] := by simp [prevOf, h]

abbrev in64 (l : Int) : Prop := -9223372036854775808 ≤ l ∧ l ≤ 9223372036854775807

/-! ### The references for clauses -/

end Go.Proofs.YtjkoadoekaplpaaGreat
