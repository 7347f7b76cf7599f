/- . -/
import Derived.Test.YthbkhndapkbgbaaGreatPJ1
namespace Go.Proofs.YthbkhndapkbgbaaGreat
open Go Go.Proofs.YthbkhndapkbgbaaGreat.R
set_option linter.unusedVariables false

section
variable {v : Int} {t s c : List Int}

theorem Fals.ask (h : Fals v t s c) : askC v t s c = 0 := by
  unfold askC
  rw [if_pos h.a, if_pos h.c, if_pos (stC_zero.2 h.z)]

theorem Fals.jb (h : Fals v t s c) (hg : givC t s c ≠ 0) : jbackC v t s c = ((v, (t.take (keep t s (toC t s c)) ++ [givC t s c], s.take (toC t s c))), 0) := by
  unfold jbackC
  rw [if_pos h.ask, if_neg hg]

theorem Fals.back (h : Fals v t s c) (hg : givC t s c ≠ 0) : okA v (t.take (keep t s (toC t s c)) ++ [givC t s c]) (s.take (toC t s c)) :=
  (h.a.undone h.to).push (h.c.1 _ (h.open_ hg).1) (h.open_ hg).2

theorem Fals.unit (h : Fals v t s c) (hg : givC t s c ≠ 0) {k : Nat} (hk : k ≤ s.length) (h1 : toC t s c ≤ k) (h2 : (k : Int) < lvl t s (givC t s c)) : stC (t.take (keep t s k)) c = (3, givC t s c) := by
  rcases h.spec with ⟨g1, _⟩ | ⟨g1, g2, g3⟩
  · exact absurd g1 hg
  · refine stC_three_of h.c g1 (by rw [isS_undone h g1 hk, if_neg (by omega)]) (fun l hl hne => ?_)
    have := g3 l hl hne
    rw [isS_undone h hl hk, if_pos (by omega)]

theorem Fals.two (h : Fals v t s c) : toC t s c = 0 ∨ 2 ≤ cntGE (lvl t s) c (toC t s c : Int) := toF_two _ _ _
theorem Fals.one (h : Fals v t s c) : cntGE (lvl t s) c ((toC t s c : Int) + 1) < 2 := toF_one _ _ _ fun l hl => (h.rng l hl).2

end


theorem cnt_ex {f : Int → Int} {c : List Int} (hd : c.Nodup) {k : Int} (h : 2 ≤ cntGE f c k) (x : Int) : ∃ y ∈ c, y ≠ x ∧ k ≤ f y := by
  unfold cntGE at h
  have hn : (c.filter fun l => decide (k ≤ f l)).Nodup := hd.filter _
  have hm : ∀ y ∈ c.filter fun l => decide (k ≤ f l), y ∈ c ∧ k ≤ f y := fun y hy => ⟨(List.mem_filter.1 hy).1, of_decide_eq_true (List.mem_filter.1 hy).2⟩
  generalize c.filter (fun l => decide (k ≤ f l)) = L at h hn hm
  match L, h, hn, hm with
  | [], h, _, _ => simp at h
  | [a], h, _, _ => simp at h
  | a :: b :: r, _, hn, hm =>
    have hab : a ≠ b := fun e => by
      rw [List.nodup_cons] at hn
      exact hn.1 (e ▸ List.mem_cons_self ..)
    by_cases ha : a = x
    · exact ⟨b, (hm b (by simp)).1, fun e => hab (ha.trans e.symm), (hm b (by simp)).2⟩
    · exact ⟨a, (hm a (by simp)).1, ha, (hm a (by simp)).2⟩


end Go.Proofs.YthbkhndapkbgbaaGreat
