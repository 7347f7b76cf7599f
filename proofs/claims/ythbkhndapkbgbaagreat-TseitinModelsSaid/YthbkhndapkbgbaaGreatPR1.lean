/- . -/
import Derived.Test.YthbkhndapkbgbaaGreatP5
namespace Go.Proofs.YthbkhndapkbgbaaGreat
open Go Go.Proofs.YthbkhndapkbgbaaGreat.R
set_option linter.unusedVariables false

def confC (v : Int) (L : List (List Int)) (t : List Int) : Bool := decide ((propC L (v + 1).toNat t).2 ≥ 0)

def fromC (v : Int) (L : List (List Int)) (c : List Int) : Bool := confC v L (c.map neg)

theorem okA_neg {v : Int} (hv : okV v) {c : List Int} (hc : okC v c) : okA v (c.map neg) [] where
  vars := hv
  lits := fun l hl => by
    obtain ⟨x, hx, rfl⟩ := List.mem_map.1 hl
    exact neg_lit (hc.1 x hx)
  dis := by
    rw [List.pairwise_map]
    exact hc.2.imp fun h => by rw [neg_div, neg_div]; omega
  inc := List.Pairwise.nil
  bnd := by simp

theorem okL_append {v : Int} {a b : List (List Int)} : okL v (a ++ b) ↔ okL v a ∧ okL v b := by
  unfold okL
  constructor
  · exact fun h => ⟨fun c hc => h c (List.mem_append_left _ hc), fun c hc => h c (List.mem_append_right _ hc)⟩
  · rintro ⟨h1, h2⟩ c hc
    rcases List.mem_append.1 hc with hc | hc
    · exact h1 c hc
    · exact h2 c hc

theorem learn_check.loop {v : Int} (hv : okV v) {L : List (List Int)} (hL : okL v L) (hn : L.length ≤ 100000) : ∀ (n i : Nat), i + n = L.length → learn_check.l0 v L (L.length : Int) (i : Int) = some 0
  | 0, i, hi => by rw [learn_check.l0_eq, cd, if_neg (by omega)]
  | n + 1, i, hi => by
    have hlt : i < L.length := by omega
    have hw2 : IntKind.wrap .i64 ((i : Int) + 1) = ((i + 1 : Nat) : Int) := by rw [wr] <;> omega
    have hc := hL _ (List.getElem_mem hlt)
    have hcl := hc.len hv
    rw [learn_check.l0_eq, cd, if_pos (by omega), gsome hlt, Option.bind_some, clause_Check_eq (by omega) (fun l hl => lit64 hv (hc.1 l hl)), Option.bind_some, if_pos hv, if_pos hc, cn, if_pos rfl, hw2]
    exact learn_check.loop hv hL hn n (i + 1) (by omega)


abbrev closed (L : List (List Int)) (Y : List Int) : Prop := ∀ c ∈ L, (stC Y c).1 ≠ 0 ∧ (stC Y c).1 ≠ 3

end Go.Proofs.YthbkhndapkbgbaaGreat
