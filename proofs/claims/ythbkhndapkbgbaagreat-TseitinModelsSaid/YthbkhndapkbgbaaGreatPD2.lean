/- . -/
import Derived.Test.YthbkhndapkbgbaaGreatPD1
namespace Go.Proofs.YthbkhndapkbgbaaGreat
open Go Go.Proofs.YthbkhndapkbgbaaGreat.R
set_option linter.unusedVariables false

theorem ifc {p q : Prop} [Decidable p] [Decidable q] {α : Type} {a b : α} (h : p ↔ q) : (if p then a else b) = if q then a else b := by
  by_cases hp : p
  · rw [if_pos hp, if_pos (h.1 hp)]
  · rw [if_neg hp, if_neg (fun hq => hp (h.2 hq))]

theorem lgd {h : List Int} {i : Nat} (hi : i < h.length) : h[i]? = some (gd h i) := by rw [List.getElem?_eq_getElem hi, gd_lt hi]
theorem ggd {h : List Int} {i : Nat} (hi : i < h.length) : geti h (i : Int) = some (gd h i) := by rw [gi, lgd hi]
theorem par_w {i : Nat} (h : 0 < i) (h2 : i ≤ 1000000000000) : IntKind.wrap .i64 (Int.tdiv (IntKind.wrap .i64 ((i : Int) - 1)) 2) = (((i - 1) / 2 : Nat) : Int) := by
  rw [wr (x := (i : Int) - 1) (by omega) (by omega), td (by omega) (by omega)]; omega
theorem lft_w {i : Nat} (h : i ≤ 1000000000000) : IntKind.wrap .i64 (IntKind.wrap .i64 (2 * (i : Int)) + 1) = ((2 * i + 1 : Nat) : Int) := by
  rw [wr (x := 2 * (i : Int)) (by omega) (by omega), wr (by omega) (by omega)]; omega
theorem rgt_w {i : Nat} (h : i ≤ 1000000000000) : IntKind.wrap .i64 (IntKind.wrap .i64 (2 * (i : Int)) + 2) = ((2 * i + 2 : Nat) : Int) := by
  rw [wr (x := 2 * (i : Int)) (by omega) (by omega), wr (by omega) (by omega)]; omega
theorem suc_w {i : Nat} (h : i ≤ 1000000000000) : IntKind.wrap .i64 ((i : Int) + 1) = ((i + 1 : Nat) : Int) := by
  rw [wr (by omega) (by omega)]; omega
theorem prd_w {i : Nat} (h : i ≤ 1000000000000) (h0 : 0 < i) : IntKind.wrap .i64 ((i : Int) - 1) = ((i - 1 : Nat) : Int) := by
  rw [wr (by omega) (by omega)]; omega


theorem decide_Check.loop {h : List Int} (hn : h.length ≤ 4000) : ∀ (n i : Nat) (o : List Bool), i + n = h.length → o.length = 4001 → (∀ k : Nat, k < 4001 → o[k]? = some (decide ((k : Int) ∈ h.take i))) →
    decide_Check.l0 h h (h.length : Int) (i : Int) o = some (if ∀ j, j < h.length → i ≤ j → atH h j then 0 else 8)
  | 0, i, o, hi, ho, hk => by
    rw [decide_Check.l0_eq, cd, if_neg (by omega), if_pos (fun j h1 h2 => by omega)]
  | n + 1, i, o, hi, ho, hk => by
    have hlt : i < h.length := by omega
    have bad : ¬ atH h i → (if ∀ j, j < h.length → i ≤ j → atH h j then (0 : Int) else 8) = 8 := fun hb => if_neg fun all => hb (all i hlt (Nat.le_refl _))
    rw [decide_Check.l0_eq, cd, if_pos (by omega), ggd hlt, Option.bind_some, cd, cd]
    by_cases c1 : gd h i < 1
    · rw [if_pos c1, bad (fun q => by have := q.1.1; omega)]
    · rw [if_neg c1]
      by_cases c2 : gd h i > 4000
      · rw [if_pos c2, bad (fun q => by have := q.1.2; omega)]
      · rw [if_neg c2]
        obtain ⟨k, hkk⟩ : ∃ k : Nat, gd h i = (k : Int) := ⟨(gd h i).toNat, by omega⟩
        rw [hkk, gi, Int.toNat_natCast, hk k (by omega), Option.bind_some, Option.bind_some, cd]
        by_cases c3 : (k : Int) ∈ h.take i
        · rw [if_pos c3, bad (fun q => q.2.1 (by rw [hkk]; exact c3))]
        · rw [if_neg c3]
          have htk : h.take (i + 1) = h.take i ++ [(k : Int)] := by rw [List.take_add_one, lgd hlt, hkk]; rfl
          have ih := decide_Check.loop hn n (i + 1) (o.set k true) (by omega) (by rw [List.length_set]; exact ho) (fun j hj => by
            rw [List.getElem?_set, htk]
            by_cases hjk : k = j
            · subst hjk
              rw [if_pos rfl, if_pos (by omega)]
              congr 1
              symm
              rw [decide_eq_true_iff]
              exact List.mem_append.2 (.inr (List.mem_singleton.2 rfl))
            · rw [if_neg hjk, hk j hj]
              congr 1
              rw [decide_eq_decide, List.mem_append, List.mem_singleton]
              exact ⟨.inl, fun h => h.resolve_right (by omega)⟩)
          have good : atH h i → (if ∀ j, j < h.length → i + 1 ≤ j → atH h j then (0 : Int) else 8) = if ∀ j, j < h.length → i ≤ j → atH h j then 0 else 8 := fun hg =>
            ifc ⟨fun a j h1 h2 => by
              by_cases he : j = i
              · subst he; exact hg
              · exact a j h1 (by omega), fun a j h1 h2 => a j h1 (by omega)⟩
          rw [suc_w (by omega), ih, cd]
          have rng : 1 ≤ gd h i ∧ gd h i ≤ 4000 := by omega
          have nin : gd h i ∉ h.take i := by rw [hkk]; exact c3
          by_cases c4 : 0 < i
          · rw [if_pos (by omega), par_w c4 (by omega), ggd (by omega), Option.bind_some, cd]
            by_cases c5 : (k : Int) < gd h ((i - 1) / 2)
            · rw [if_pos c5, bad (fun q => by have := q.2.2 c4; omega)]
            · rw [if_neg c5, good ⟨rng, nin, fun _ => by omega⟩]; rfl
          · rw [if_neg (by omega), good ⟨rng, nin, fun h => absurd h c4⟩]; rfl

theorem decide_Check_eq {h : List Int} : decide_Check h = some (if okH h then 0 else 8) := by
  rw [decide_Check.eq, cd]
  by_cases c : (h.length : Int) > 4000
  · rw [if_pos c, if_neg (fun k => by have := k.len; omega)]
  · rw [if_neg c]
    have := decide_Check.loop (h := h) (by omega) h.length 0 (List.replicate 4001 false) (by omega) (by rw [List.length_replicate]) (fun k hk => by rw [List.getElem?_replicate, if_pos hk]; simp)
    rw [show ((0 : Nat) : Int) = 0 from rfl] at this
    rw [this]
    congr 1
    refine ifc ⟨fun a => okH_iff.2 ⟨by omega, fun i hi => a i hi (Nat.zero_le _)⟩, fun a j h1 _ => (okH_iff.1 a).2 j h1⟩


end Go.Proofs.YthbkhndapkbgbaaGreat
