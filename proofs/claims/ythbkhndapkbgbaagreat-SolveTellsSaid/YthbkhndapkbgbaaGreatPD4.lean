/- Heaps, of plain values: what pushing one after the other gives; DecideTells, DecideNames, DecideFirst. -/
import Derived.Test.YthbkhndapkbgbaaGreatPD3
import Derived.Test.YthbkhndapkbgbaaGreatP5
namespace Go.Proofs.YthbkhndapkbgbaaGreat
open Go Go.Proofs.YthbkhndapkbgbaaGreat.R
set_option linter.unusedVariables false

def addH (h : List Int) (x : Int) : List Int := if x ∈ h then h else pushed h x

theorem okH_nil : okH [] := ⟨by simp, by simp, by simp, fun i hi => by simp at hi⟩

theorem mem_pushed {h : List Int} {v y : Int} : y ∈ pushed h v ↔ y ∈ h ∨ y = v := by
  rw [pushed_perm.mem_iff, List.mem_append, List.mem_singleton]

theorem okH.add {h : List Int} (k : okH h) {x : Int} (hx : 1 ≤ x ∧ x ≤ 4000) : okH (addH h x) ∧ ∀ y, y ∈ addH h x ↔ y ∈ h ∨ y = x := by
  unfold addH
  by_cases c : x ∈ h
  · rw [if_pos c]
    exact ⟨k, fun y => ⟨.inl, fun h => h.elim id fun e => e ▸ c⟩⟩
  · rw [if_neg c]
    exact ⟨k.pushed hx c, fun y => mem_pushed⟩

theorem okH.adds : ∀ {l h : List Int}, okH h → (∀ x ∈ l, 1 ≤ x ∧ x ≤ 4000) → okH (l.foldl addH h) ∧ ∀ y, y ∈ l.foldl addH h ↔ y ∈ h ∨ y ∈ l
  | [], h, k, hl => ⟨k, fun y => by simp⟩
  | x :: l, h, k, hl => by
    obtain ⟨k1, m1⟩ := k.add (hl x (List.mem_cons_self ..))
    obtain ⟨k2, m2⟩ := k1.adds (l := l) fun y hy => hl y (List.mem_cons_of_mem _ hy)
    refine ⟨k2, fun y => ?_⟩
    rw [List.foldl_cons, m2, m1, List.mem_cons, or_assoc]

abbrev isFew (l : List Int) : Prop := l.length ≤ 80 ∧ ∀ x ∈ l, 1 ≤ x ∧ x ≤ 4000

/-! ### DecideTells -/

theorem pushed_len {h : List Int} {v : Int} : (pushed h v).length = h.length + 1 := by rw [pushed_perm.length_eq, List.length_append, List.length_singleton]

theorem pushC_len {h : List Int} {v : Int} : (pushC h v).1.length ≤ 5000 := by
  unfold pushC
  split
  · rename_i k
    have := k.len
    split
    · split
      · simp
      · rw [pushed_len]; omega
    · simp
  · simp

theorem popC_len {h : List Int} : (popC h).2.1.length ≤ 5000 := by
  unfold popC
  split
  · rename_i k
    have := k.len
    split
    · simp
    · rw [popped_len]; omega
  · simp

theorem nextL_len {v : Int} {t : List Int} : ∀ (n : Nat) {h : List Int}, (nextL v t n h).2.1.length ≤ h.length
  | 0, h => by simp [nextL]
  | n + 1, h => by
    simp only [nextL]
    split
    · simp
    · split
      · simp only [popped_len]; omega
      · have := nextL_len (v := v) (t := t) n (h := popped h)
        rw [popped_len] at this; omega

theorem nextC_len {h : List Int} {v : Int} {t s : List Int} : (nextC h v t s).2.1.length ≤ 5000 := by
  unfold nextC
  split
  · rename_i k
    have := k.len
    split
    · have := nextL_len (v := v) (t := t) (h.length + 1) (h := h); omega
    · simp
  · simp

/-! ### DecideNames -/

def allL (n : Nat) : List Int := (List.range n).map fun i : Nat => (i : Int) + 1

theorem allL_succ {n : Nat} : allL (n + 1) = allL n ++ [(n : Int) + 1] := by
  unfold allL
  rw [List.range_succ, List.map_append]; rfl

theorem allL_len {n : Nat} : (allL n).length = n := by unfold allL; rw [List.length_map, List.length_range]

theorem allL_gd {n i : Nat} (hi : i < n) : gd (allL n) i = (i : Int) + 1 := by
  rw [gd_lt (by rw [allL_len]; exact hi)]
  simp [allL]

theorem allL_mem {n : Nat} {x : Int} : x ∈ allL n ↔ 1 ≤ x ∧ x ≤ n := by
  unfold allL
  rw [List.mem_map]
  constructor
  · rintro ⟨i, hi, rfl⟩
    rw [List.mem_range] at hi
    omega
  · intro h
    exact ⟨(x - 1).toNat, List.mem_range.2 (by omega), by omega⟩

theorem allL_ok : okH (allL 4000) := by
  refine ⟨by rw [allL_len]; omega, fun x hx => by have := allL_mem.1 hx; omega, ?_, fun i hi h0 => ?_⟩
  · unfold allL
    rw [List.Nodup, List.pairwise_map]
    exact List.pairwise_lt_range.imp fun hab e => by omega
  · rw [allL_len] at hi
    rw [allL_gd hi, allL_gd (by omega)]; omega

/-! ### DecideFirst -/

theorem mem_popped {h : List Int} (k : okH h) (hne : h ≠ []) {y : Int} : y ∈ popped h ↔ y ∈ h ∧ y ≠ gd h 0 := by
  have hp := popped_perm hne
  have hd := List.nodup_cons.1 (hp.nodup_iff.2 k.nodup)
  rw [← hp.mem_iff, List.mem_cons]
  constructor
  · intro hy
    exact ⟨.inr hy, fun e => hd.1 (e ▸ hy)⟩
  · rintro ⟨hy | hy, hn⟩
    · exact absurd hy hn
    · exact hy

theorem popC_ok {h : List Int} (k : okH h) (hne : h ≠ []) : popC h = (gd h 0, popped h, 0) := by
  unfold popC
  rw [if_pos k, if_neg fun e => hne (List.length_eq_zero_iff.1 e)]

theorem popC_nil : popC [] = (0, [], 6) := by
  unfold popC
  rw [if_pos okH_nil]
  exact if_pos rfl

theorem first_gd {h W : List Int} (k : okH h) (hne : h ≠ []) (hW : W.Pairwise (· < ·)) {i : Nat} (hi : i < W.length) (hm : ∀ y, y ∈ h ↔ y ∈ W.drop i) : gd h 0 = W[i] ∧ ∀ y, y ∈ popped h ↔ y ∈ W.drop (i + 1) := by
  have h0 : 0 < h.length := by cases h with | nil => exact absurd rfl hne | cons a r => simp
  have hd : W.drop i = W[i] :: W.drop (i + 1) := drop_cons hi
  have hs : (W[i] :: W.drop (i + 1)).Pairwise (· < ·) := by rw [← hd]; exact hW.sublist (List.drop_sublist ..)
  rw [List.pairwise_cons] at hs
  have e : gd h 0 = W[i] := by
    have h1 := k.least ((hm W[i]).2 (by rw [hd]; exact List.mem_cons_self ..))
    have h2 := (hm _).1 (gd_mem h0)
    rw [hd, List.mem_cons] at h2
    rcases h2 with h2 | h2
    · exact h2
    · have := hs.1 _ h2; omega
  refine ⟨e, fun y => ?_⟩
  rw [mem_popped k hne, hm, hd, List.mem_cons, e]
  constructor
  · rintro ⟨h1 | h1, h2⟩
    · exact absurd h1 h2
    · exact h1
  · intro h1
    exact ⟨.inr h1, fun e' => by have := hs.1 _ h1; omega⟩

theorem nil_of {h W : List Int} {i : Nat} (hi : W.length ≤ i) (hm : ∀ y, y ∈ h ↔ y ∈ W.drop i) : h = [] := by
  rw [List.drop_of_length_le hi] at hm
  cases h with
  | nil => rfl
  | cons a r => have := (hm a).1 (List.mem_cons_self ..); cases this

end Go.Proofs.YthbkhndapkbgbaaGreat
