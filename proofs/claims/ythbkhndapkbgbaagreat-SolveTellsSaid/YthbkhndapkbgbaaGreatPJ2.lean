/- Going back, of plain values: JumpTells, JumpNames, JumpValue, JumpLevels, JumpSecond. -/
import Derived.Test.YthbkhndapkbgbaaGreatPJ1
namespace Go.Proofs.YthbkhndapkbgbaaGreat
open Go Go.Proofs.YthbkhndapkbgbaaGreat.R
set_option linter.unusedVariables false

theorem jback_s {v : Int} {t s c : List Int} (h : small64 t = true ∧ s.length ≤ 1000 ∧ small64 c = true) : jump_Back v t s c = some (jbackC v t s c) := by
  have h1 := small64_of h.1
  have h2 := small64_of h.2.2
  exact jump_Back_eq (by omega) (by omega) h1.2 (by omega) h2.2

theorem jbackC_len {v : Int} {t s c : List Int} (ht : t.length ≤ 200 ∧ s.length ≤ 200) : (jbackC v t s c).1.2.1.length ≤ 201 ∧ (jbackC v t s c).1.2.2.length ≤ 201 := by
  unfold jbackC
  split
  · split
    · simp
    · simp only [List.length_append, List.length_take, List.length_singleton]; omega
  · simp

section
variable {v : Int} {t s c : List Int}

theorem Fals.ask (h : Fals v t s c) : askC v t s c = 0 := by
  unfold askC
  rw [if_pos h.a, if_pos h.c, if_pos (stC_zero.2 h.z)]

theorem Fals.jl (h : Fals v t s c) : jlevC v t s c = ((toC t s c : Int), 0) := by
  unfold jlevC
  rw [if_pos h.ask]

theorem Fals.jb0 (h : Fals v t s c) (hg : givC t s c = 0) : jbackC v t s c = (noneA, 6) := by
  unfold jbackC
  rw [if_pos h.ask, if_pos hg]

theorem Fals.jb (h : Fals v t s c) (hg : givC t s c ≠ 0) : jbackC v t s c = ((v, (t.take (keep t s (toC t s c)) ++ [givC t s c], s.take (toC t s c))), 0) := by
  unfold jbackC
  rw [if_pos h.ask, if_neg hg]

/-- The assignment behind going back. -/
theorem Fals.back (h : Fals v t s c) (hg : givC t s c ≠ 0) : okA v (t.take (keep t s (toC t s c)) ++ [givC t s c]) (s.take (toC t s c)) :=
  (h.a.undone h.to).push (h.c.1 _ (h.open_ hg).1) (h.open_ hg).2

theorem Fals.unit (h : Fals v t s c) (hg : givC t s c ≠ 0) {k : Nat} (hk : k ≤ s.length) (h1 : toC t s c ≤ k) (h2 : (k : Int) < lvl t s (givC t s c)) : stC (t.take (keep t s k)) c = (3, givC t s c) := by
  rcases h.spec with ⟨g1, _⟩ | ⟨g1, g2, g3⟩
  · exact absurd g1 hg
  · refine stC_three_of h.c g1 (by rw [isS_undone h g1 hk, if_neg (by omega)]) (fun l hl hne => ?_)
    have := g3 l hl hne
    rw [isS_undone h hl hk, if_pos (by omega)]

theorem Fals.two (h : Fals v t s c) : toC t s c = 0 ∨ 2 ≤ cntGE (lvl t s) c (toC t s c : Int) := toF_two _ _ _
theorem Fals.one (h : Fals v t s c) : cntGE (lvl t s) c ((toC t s c : Int) + 1) < 2 := toF_one _ _ _ fun l hl => (h.rng l hl).2

theorem stC_none {t' : List Int} (hz : ∀ l ∈ c, isS t' l = 0) : (stC t' c).1 = 0 := stC_zero.2 hz

end

theorem last_app {l : List Int} {x : Int} (hl : l.length ≤ 100000) : IntKind.wrap .i64 (((l ++ [x]).length : Int) - 1) = (l.length : Int) := by
  rw [List.length_append, List.length_singleton, wr] <;> omega
theorem get_last {l : List Int} {x : Int} : geti (l ++ [x]) (l.length : Int) = some x ∧ (l ++ [x])[l.length]? = some x := by
  rw [gi]
  simp

/-! ### JumpLevels -/

theorem cnt_ex {f : Int → Int} {c : List Int} (hd : c.Nodup) {k : Int} (h : 2 ≤ cntGE f c k) (x : Int) : ∃ y ∈ c, y ≠ x ∧ k ≤ f y := by
  unfold cntGE at h
  have hn : (c.filter fun l => decide (k ≤ f l)).Nodup := hd.filter _
  have hm : ∀ y ∈ c.filter fun l => decide (k ≤ f l), y ∈ c ∧ k ≤ f y := fun y hy => ⟨(List.mem_filter.1 hy).1, of_decide_eq_true (List.mem_filter.1 hy).2⟩
  generalize c.filter (fun l => decide (k ≤ f l)) = L at h hn hm
  match L, h, hn, hm with
  | [], h, _, _ => simp at h
  | [a], h, _, _ => simp at h
  | a :: b :: r, _, hn, hm =>
    have hab : a ≠ b := fun e => by
      rw [List.nodup_cons] at hn
      exact hn.1 (e ▸ List.mem_cons_self ..)
    by_cases ha : a = x
    · exact ⟨b, (hm b (by simp)).1, fun e => hab (ha.trans e.symm), (hm b (by simp)).2⟩
    · exact ⟨a, (hm a (by simp)).1, ha, (hm a (by simp)).2⟩

/-! ### JumpSecond -/

end Go.Proofs.YthbkhndapkbgbaaGreat
