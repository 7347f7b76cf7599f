/- Assignments, of plain values: what the functions answer. -/
import Derived.Test.YtcgbilghglbgaaaP4
namespace Go.Proofs.Ytcgbilghglbgaaa
open Go Go.Proofs.Ytcgbilghglbgaaa.R
set_option linter.unusedVariables false

abbrev noneA : Int × List Int × List Int := (0, ([], []))

def openC (v : Int) (t s : List Int) (lit : Int) : Int := if okA v t s then (if isLit v lit then 0 else 2) else 8

/-! ### The library's functions -/

def idxC (l : Int) : Int → List Int → Int
  | _, [] => -1
  | k, a :: r => if a / 2 = l / 2 then k else idxC l (k + 1) r

def cntLE (s : List Int) (i : Int) : Nat := (s.filter (fun x => decide (x ≤ i))).length

theorem cntLE_lt : ∀ {s : List Int} {i : Int}, s.Pairwise (· < ·) → ∀ (j : Nat) (hj : j < s.length), s[j] ≤ i ↔ j < cntLE s i
  | [], i, _, j, hj => by simp at hj
  | a :: r, i, hs, j, hj => by
    rw [List.pairwise_cons] at hs
    unfold cntLE
    rw [List.filter_cons]
    by_cases h : a ≤ i
    · rw [if_pos (decide_eq_true h), List.length_cons]
      cases j with
      | zero => simp [h]
      | succ j =>
        have := cntLE_lt (i := i) hs.2 j (by simpa using hj)
        unfold cntLE at this
        simp only [List.getElem_cons_succ]
        rw [this]; omega
    · rw [if_neg (by simpa using h)]
      have h0 : r.filter (fun x => decide (x ≤ i)) = [] := by
        rw [List.filter_eq_nil_iff]
        intro x hx hxi
        have := hs.1 x hx
        have := of_decide_eq_true hxi
        omega
      rw [h0]
      simp only [List.length_nil, Nat.not_lt_zero, iff_false]
      cases j with
      | zero => exact h
      | succ j =>
        have := hs.1 _ (List.getElem_mem (by simpa using hj : j < r.length))
        simp only [List.getElem_cons_succ]
        omega

theorem cntLE_le {s : List Int} {i : Int} : cntLE s i ≤ s.length := List.length_filter_le ..

theorem half {i j : Nat} (h : i + j ≤ 1000000000000000) : IntKind.wrap .i64 (bshr .u64 (IntKind.wrap .u64 (IntKind.wrap .i64 ((i : Int) + (j : Int)))) 1) = (((i + j) / 2 : Nat) : Int) := by
  have h1 : IntKind.wrap .i64 ((i : Int) + (j : Int)) = ((i + j : Nat) : Int) := by rw [wr] <;> omega
  have h2 : IntKind.wrap .u64 ((i + j : Nat) : Int) = ((i + j : Nat) : Int) := by
    show ((i + j : Nat) : Int) % 18446744073709551616 = _
    omega
  have h3 : bshr .u64 ((i + j : Nat) : Int) 1 = (((i + j) / 2 : Nat) : Int) := by
    show Int.fdiv ((i + j : Nat) : Int) (2 ^ 1) = _
    rw [Int.fdiv_eq_ediv_of_nonneg _ (by decide)]
    omega
  rw [h1, h2, h3, wr] <;> omega

/-! ### The program's functions -/

def putC (v : Int) (t s : List Int) (lit : Int) (d : Bool) : (Int × List Int × List Int) × Int :=
  if okA v t s then (if isLit v lit then (if isS t lit = 2 then ((v, (t ++ [lit], if d then s ++ [(t.length : Int)] else s)), 0) else (noneA, 18)) else (noneA, 2)) else (noneA, 8)

def valC (v : Int) (t s : List Int) (lit : Int) : Int × Int := if okA v t s then (if isLit v lit then (isS t lit, 0) else (0, 2)) else (0, 8)

def levC (v : Int) (t s : List Int) (lit : Int) : Int × Int := if okA v t s then (if isLit v lit then (if idxC lit 0 t < 0 then (0, 6) else ((cntLE s (idxC lit 0 t) : Int), 0)) else (0, 2)) else (0, 8)

def undC (v : Int) (t s : List Int) (k : Int) : (Int × List Int × List Int) × Int :=
  if okA v t s then (if 0 ≤ k ∧ k ≤ s.length then ((v, ((match s[k.toNat]? with | some n => t.take n.toNat | none => t), s.take k.toNat)), 0) else (noneA, 2)) else (noneA, 8)

section
variable {v : Int} {t s : List Int} (ht : t.length ≤ 68719476000) (hs : s.length ≤ 68719476000) (hr : ∀ l ∈ t, in64 l) {lit : Int} (hl : in64 lit)

include ht hs hr hl

end

theorem take_sub {t : List Int} {k : Int} (h : 0 ≤ k ∧ k ≤ t.length) : subl t 0 k = some (t.take k.toNat) := by
  unfold subl; rw [if_pos (by omega)]; simp

end Go.Proofs.Ytcgbilghglbgaaa
