/- Heaps, of plain values: what the functions answer. -/
import Derived.Test.YthgnjgnmkobboaaPD1
namespace Go.Proofs.Ythgnjgnmkobboaa
open Go Go.Proofs.Ythgnjgnmkobboaa.R
set_option linter.unusedVariables false

theorem ifc {p q : Prop} [Decidable p] [Decidable q] {α : Type} {a b : α} (h : p ↔ q) : (if p then a else b) = if q then a else b := by
  by_cases hp : p
  · rw [if_pos hp, if_pos (h.1 hp)]
  · rw [if_neg hp, if_neg (fun hq => hp (h.2 hq))]

theorem lgd {h : List Int} {i : Nat} (hi : i < h.length) : h[i]? = some (gd h i) := by rw [List.getElem?_eq_getElem hi, gd_lt hi]
theorem ggd {h : List Int} {i : Nat} (hi : i < h.length) : geti h (i : Int) = some (gd h i) := by rw [gi, lgd hi]
theorem par_w {i : Nat} (h : 0 < i) (h2 : i ≤ 1000000000000) : IntKind.wrap .i64 (Int.tdiv (IntKind.wrap .i64 ((i : Int) - 1)) 2) = (((i - 1) / 2 : Nat) : Int) := by
  rw [wr (x := (i : Int) - 1) (by omega) (by omega), td (by omega) (by omega)]; omega
theorem lft_w {i : Nat} (h : i ≤ 1000000000000) : IntKind.wrap .i64 (IntKind.wrap .i64 (2 * (i : Int)) + 1) = ((2 * i + 1 : Nat) : Int) := by
  rw [wr (x := 2 * (i : Int)) (by omega) (by omega), wr (by omega) (by omega)]; omega
theorem rgt_w {i : Nat} (h : i ≤ 1000000000000) : IntKind.wrap .i64 (IntKind.wrap .i64 (2 * (i : Int)) + 2) = ((2 * i + 2 : Nat) : Int) := by
  rw [wr (x := 2 * (i : Int)) (by omega) (by omega), wr (by omega) (by omega)]; omega
theorem suc_w {i : Nat} (h : i ≤ 1000000000000) : IntKind.wrap .i64 ((i : Int) + 1) = ((i + 1 : Nat) : Int) := by
  rw [wr (by omega) (by omega)]; omega
theorem prd_w {i : Nat} (h : i ≤ 1000000000000) (h0 : 0 < i) : IntKind.wrap .i64 ((i : Int) - 1) = ((i - 1 : Nat) : Int) := by
  rw [wr (by omega) (by omega)]; omega

/-! ### What is valid -/

theorem decide_Check.loop {h : List Int} (hn : h.length ≤ 4000) : ∀ (n i : Nat) (o : List Bool), i + n = h.length → o.length = 4001 → (∀ k : Nat, k < 4001 → o[k]? = some (decide ((k : Int) ∈ h.take i))) →
    decide_Check.l0 h h (h.length : Int) (i : Int) o = some (if ∀ j, j < h.length → i ≤ j → atH h j then 0 else 8)
  | 0, i, o, hi, ho, hk => by
    rw [decide_Check.l0_eq, cd, if_neg (by omega), if_pos (fun j h1 h2 => by omega)]
  | n + 1, i, o, hi, ho, hk => by
    have hlt : i < h.length := by omega
    have bad : ¬ atH h i → (if ∀ j, j < h.length → i ≤ j → atH h j then (0 : Int) else 8) = 8 := fun hb => if_neg fun all => hb (all i hlt (Nat.le_refl _))
    rw [decide_Check.l0_eq, cd, if_pos (by omega), ggd hlt, Option.bind_some, cd, cd]
    by_cases c1 : gd h i < 1
    · rw [if_pos c1, bad (fun q => by have := q.1.1; omega)]
    · rw [if_neg c1]
      by_cases c2 : gd h i > 4000
      · rw [if_pos c2, bad (fun q => by have := q.1.2; omega)]
      · rw [if_neg c2]
        obtain ⟨k, hkk⟩ : ∃ k : Nat, gd h i = (k : Int) := ⟨(gd h i).toNat, by omega⟩
        rw [hkk, gi, Int.toNat_natCast, hk k (by omega), Option.bind_some, Option.bind_some, cd]
        by_cases c3 : (k : Int) ∈ h.take i
        · rw [if_pos c3, bad (fun q => q.2.1 (by rw [hkk]; exact c3))]
        · rw [if_neg c3]
          have htk : h.take (i + 1) = h.take i ++ [(k : Int)] := by rw [List.take_add_one, lgd hlt, hkk]; rfl
          have ih := decide_Check.loop hn n (i + 1) (o.set k true) (by omega) (by rw [List.length_set]; exact ho) (fun j hj => by
            rw [List.getElem?_set, htk]
            by_cases hjk : k = j
            · subst hjk
              rw [if_pos rfl, if_pos (by omega)]
              congr 1
              symm
              rw [decide_eq_true_iff]
              exact List.mem_append.2 (.inr (List.mem_singleton.2 rfl))
            · rw [if_neg hjk, hk j hj]
              congr 1
              rw [decide_eq_decide, List.mem_append, List.mem_singleton]
              exact ⟨.inl, fun h => h.resolve_right (by omega)⟩)
          have good : atH h i → (if ∀ j, j < h.length → i + 1 ≤ j → atH h j then (0 : Int) else 8) = if ∀ j, j < h.length → i ≤ j → atH h j then 0 else 8 := fun hg =>
            ifc ⟨fun a j h1 h2 => by
              by_cases he : j = i
              · subst he; exact hg
              · exact a j h1 (by omega), fun a j h1 h2 => a j h1 (by omega)⟩
          rw [suc_w (by omega), ih, cd]
          have rng : 1 ≤ gd h i ∧ gd h i ≤ 4000 := by omega
          have nin : gd h i ∉ h.take i := by rw [hkk]; exact c3
          by_cases c4 : 0 < i
          · rw [if_pos (by omega), par_w c4 (by omega), ggd (by omega), Option.bind_some, cd]
            by_cases c5 : (k : Int) < gd h ((i - 1) / 2)
            · rw [if_pos c5, bad (fun q => by have := q.2.2 c4; omega)]
            · rw [if_neg c5, good ⟨rng, nin, fun _ => by omega⟩]; rfl
          · rw [if_neg (by omega), good ⟨rng, nin, fun h => absurd h c4⟩]; rfl

theorem decide_Check_eq {h : List Int} : decide_Check h = some (if okH h then 0 else 8) := by
  rw [decide_Check.eq, cd]
  by_cases c : (h.length : Int) > 4000
  · rw [if_pos c, if_neg (fun k => by have := k.len; omega)]
  · rw [if_neg c]
    have := decide_Check.loop (h := h) (by omega) h.length 0 (List.replicate 4001 false) (by omega) (by rw [List.length_replicate]) (fun k hk => by rw [List.getElem?_replicate, if_pos hk]; simp)
    rw [show ((0 : Nat) : Int) = 0 from rfl] at this
    rw [this]
    congr 1
    refine ifc ⟨fun a => okH_iff.2 ⟨by omega, fun i hi => a i hi (Nat.zero_le _)⟩, fun a j h1 _ => (okH_iff.1 a).2 j h1⟩

abbrev kids (h : List Int) (i : Nat) : Prop := (2 * i + 1 < h.length → gd h i ≤ gd h (2 * i + 1)) ∧ (2 * i + 2 < h.length → gd h i ≤ gd h (2 * i + 2))
abbrev refAt (h : List Int) (i : Nat) : Prop := (1 ≤ gd h i ∧ gd h i ≤ 4000) ∧ gd h i ∉ h.take i ∧ kids h i

theorem ref_iff {h : List Int} : (∀ i, i < h.length → refAt h i) ↔ ∀ i, i < h.length → atH h i := by
  constructor
  · intro a i hi
    refine ⟨(a i hi).1, (a i hi).2.1, fun h0 => ?_⟩
    have q := (a ((i - 1) / 2) (by omega)).2.2
    rcases Nat.mod_two_eq_zero_or_one i with e | e
    · have := q.2 (by omega)
      rwa [show 2 * ((i - 1) / 2) + 2 = i from by omega] at this
    · have := q.1 (by omega)
      rwa [show 2 * ((i - 1) / 2) + 1 = i from by omega] at this
  · intro a i hi
    refine ⟨(a i hi).1, (a i hi).2.1, fun h1 => ?_, fun h1 => ?_⟩
    · have := (a _ h1).2.2 (by omega)
      rwa [show (2 * i + 1 - 1) / 2 = i from by omega] at this
    · have := (a _ h1).2.2 (by omega)
      rwa [show (2 * i + 2 - 1) / 2 = i from by omega] at this

theorem ref16_Check.kid {h : List Int} (hn : h.length ≤ 4000) {i : Nat} (hi : i < h.length) : spiritlevelref16_Check.l1 h (i : Int) ((2 * i + 1 : Nat) : Int) = if kids h i then spiritlevelref16_Check.l0 h ((i + 1 : Nat) : Int) else some 8 := by
  have w1 : IntKind.wrap .i64 (IntKind.wrap .i64 (2 * (i : Int)) + 2) = ((2 * i + 2 : Nat) : Int) := rgt_w (by omega)
  have w2 : IntKind.wrap .i64 (((2 * i + 1 : Nat) : Int) + 1) = ((2 * i + 2 : Nat) : Int) := suc_w (by omega)
  have w3 : IntKind.wrap .i64 (((2 * i + 2 : Nat) : Int) + 1) = ((2 * i + 3 : Nat) : Int) := suc_w (by omega)
  have w4 : IntKind.wrap .i64 ((i : Int) + 1) = ((i + 1 : Nat) : Int) := suc_w (by omega)
  rw [spiritlevelref16_Check.l1_eq, w1, w2, w4, cd, if_pos (by omega), cd]
  by_cases c1 : 2 * i + 1 < h.length
  · rw [if_pos (by omega), ggd c1, Option.bind_some, ggd hi, Option.bind_some, cd]
    by_cases c2 : gd h (2 * i + 1) < gd h i
    · rw [if_pos c2, if_neg (fun q => by have := q.1 c1; omega)]
    · rw [if_neg c2, spiritlevelref16_Check.l1_eq, w1, w3, w4, cd, if_pos (by omega), cd]
      by_cases c3 : 2 * i + 2 < h.length
      · rw [if_pos (by omega), ggd c3, Option.bind_some, ggd hi, Option.bind_some, cd]
        by_cases c4 : gd h (2 * i + 2) < gd h i
        · rw [if_pos c4, if_neg (fun q => by have := q.2 c3; omega)]
        · rw [if_neg c4, spiritlevelref16_Check.l1_eq, w1, w4, cd, if_neg (by omega), if_pos ⟨fun _ => by omega, fun _ => by omega⟩]
      · rw [if_neg (by omega), if_pos ⟨fun _ => by omega, fun h => absurd h c3⟩]
  · rw [if_neg (by omega), if_pos ⟨fun h => absurd h c1, fun h => by omega⟩]

theorem ref16_Check.loop {h : List Int} (hn : h.length ≤ 4000) : ∀ (n i : Nat), i + n = h.length →
    spiritlevelref16_Check.l0 h (i : Int) = some (if ∀ j, j < h.length → i ≤ j → refAt h j then 0 else 8)
  | 0, i, hi => by
    rw [spiritlevelref16_Check.l0_eq, cd, if_neg (by omega), if_pos (fun j h1 h2 => by omega)]
  | n + 1, i, hi => by
    have hlt : i < h.length := by omega
    have bad : ¬ refAt h i → (if ∀ j, j < h.length → i ≤ j → refAt h j then (0 : Int) else 8) = 8 := fun hb => if_neg fun all => hb (all i hlt (Nat.le_refl _))
    rw [spiritlevelref16_Check.l0_eq, cd, if_pos (by omega), ggd hlt, Option.bind_some, cd]
    by_cases c1 : gd h i < 1
    · rw [if_pos c1, bad (fun q => by have := q.1.1; omega)]
    · rw [if_neg c1, Option.bind_some, cd]
      by_cases c2 : gd h i > 4000
      · rw [if_pos c2, bad (fun q => by have := q.1.2; omega)]
      · rw [if_neg c2, take_sub (by omega), Option.bind_some, Int.toNat_natCast, Option.bind_some, ref13_Has_eq (by rw [List.length_take]; omega), Option.bind_some, cd]
        by_cases c3 : gd h i ∈ h.take i
        · rw [if_pos c3, bad (fun q => q.2.1 c3)]
        · rw [if_neg c3, lft_w (by omega), ref16_Check.kid hn hlt, ref16_Check.loop hn n (i + 1) (by omega)]
          by_cases c4 : kids h i
          · rw [if_pos c4]
            congr 1
            refine ifc ⟨fun a j h1 h2 => ?_, fun a j h1 h2 => a j h1 (by omega)⟩
            by_cases he : j = i
            · subst he; exact ⟨by omega, c3, c4⟩
            · exact a j h1 (by omega)
          · rw [if_neg c4, bad (fun q => c4 q.2.2)]

theorem ref16_Check_eq {h : List Int} : spiritlevelref16_Check h = some (if okH h then 0 else 8) := by
  rw [spiritlevelref16_Check.eq, cd]
  by_cases c : (h.length : Int) > 4000
  · rw [if_pos c, if_neg (fun k => by have := k.len; omega)]
  · rw [if_neg c]
    have := ref16_Check.loop (h := h) (by omega) h.length 0 (by omega)
    rw [show ((0 : Nat) : Int) = 0 from rfl] at this
    rw [this]
    congr 1
    refine ifc ⟨fun a => okH_iff.2 ⟨by omega, ref_iff.1 fun i hi => a i hi (Nat.zero_le _)⟩, fun a j h1 _ => ref_iff.2 (okH_iff.1 a).2 j h1⟩

/-! ### Pushing -/

def pushC (h : List Int) (v : Int) : List Int × Int := if okH h then (if 1 ≤ v ∧ v ≤ 4000 then (if v ∈ h then ([], 18) else (pushed h v, 0)) else ([], 2)) else ([], 8)

theorem decide_Push.loop : ∀ (n : Nat) {i : Nat} {o : List Int}, i < n → i < o.length → o.length ≤ 1000000000 → decide_Push.l0 (i : Int) o = some (siftUp n o i, 0)
  | 0, i, o, hn, hi, hl => by omega
  | n + 1, i, o, hn, hi, hl => by
    rw [decide_Push.l0_eq, cd]
    unfold siftUp
    by_cases c1 : 0 < i
    · have hp : (i - 1) / 2 < o.length := by omega
      rw [if_pos (by omega), par_w c1 (by omega), ggd hi, ggd hp]
      simp only [Option.bind_some, Int.toNat_natCast, lgd hi, lgd hp, cd]
      by_cases c2 : gd o i < gd o ((i - 1) / 2)
      · have g1 : geti (o.set i (gd o ((i - 1) / 2))) (((i - 1) / 2 : Nat) : Int) = some (gd (o.set i (gd o ((i - 1) / 2))) ((i - 1) / 2)) := ggd (by rw [List.length_set]; exact hp)
        have g2 : (o.set i (gd o ((i - 1) / 2)))[(i - 1) / 2]? = some (gd (o.set i (gd o ((i - 1) / 2))) ((i - 1) / 2)) := lgd (by rw [List.length_set]; exact hp)
        rw [if_pos c2, if_pos ⟨c1, c2⟩, g1, Option.bind_some, g2, Option.bind_some]
        exact decide_Push.loop n (o := swapH o i ((i - 1) / 2)) (by omega) (by rw [swapH_len]; exact hp) (by rw [swapH_len]; exact hl)
      · rw [if_neg c2, if_neg (fun h => c2 h.2)]
    · rw [if_neg (by omega), if_neg (fun h => c1 h.1)]

theorem ref16_swapped_eq {h : List Int} {i k : Nat} (hi : i < h.length) (hk : k < h.length) (hl : h.length ≤ 1000000000) : spiritlevelref16_swapped h (i : Int) (k : Int) = some (swapH h i k) := by
  rw [spiritlevelref16_swapped.eq, app_nil (by omega), Option.bind_some, ggd hk, Option.bind_some, ggd hi, Option.bind_some, Option.bind_some]
  simp only [Int.toNat_natCast, lgd hi, Option.bind_some]
  have g1 : geti (h.set i (gd h k)) (k : Int) = some (gd (h.set i (gd h k)) k) := ggd (by rw [List.length_set]; exact hk)
  have g2 : (h.set i (gd h k))[k]? = some (gd (h.set i (gd h k)) k) := lgd (by rw [List.length_set]; exact hk)
  rw [g1, Option.bind_some, g2, Option.bind_some]
  rfl

theorem ref16_Pushed.loop : ∀ (n : Nat) {i : Nat} {o : List Int}, i < n → i < o.length → o.length ≤ 1000000000 → spiritlevelref16_Pushed.l0 (i : Int) o = some (siftUp n o i)
  | 0, i, o, hn, hi, hl => by omega
  | n + 1, i, o, hn, hi, hl => by
    rw [spiritlevelref16_Pushed.l0_eq, cd]
    unfold siftUp
    by_cases c1 : 0 < i
    · have hp : (i - 1) / 2 < o.length := by omega
      rw [if_pos (by omega), par_w c1 (by omega), ggd hi, ggd hp]
      simp only [Option.bind_some, Int.toNat_natCast, lgd hi, lgd hp, cd]
      by_cases c2 : gd o i < gd o ((i - 1) / 2)
      · rw [if_neg (by omega), if_pos ⟨c1, c2⟩, ref16_swapped_eq hi hp hl, Option.bind_some]
        exact ref16_Pushed.loop n (o := swapH o i ((i - 1) / 2)) (by omega) (by rw [swapH_len]; exact hp) (by rw [swapH_len]; exact hl)
      · rw [if_pos (by omega), if_neg (fun h => c2 h.2)]
    · rw [if_neg (by omega), if_neg (fun h => c1 h.1)]

theorem ref16_Pushed_eq {h : List Int} (hl : h.length ≤ 100000000) {v : Int} : spiritlevelref16_Pushed h v = some (pushed h v) := by
  rw [spiritlevelref16_Pushed.eq, app_nil (by omega), Option.bind_some, app_ok (by simp; omega), Option.bind_some]
  exact ref16_Pushed.loop _ (by omega) (by simp) (by simp; omega)

theorem decide_Push_eq {h : List Int} {v : Int} : decide_Push h v = some (pushC h v) := by
  rw [decide_Push.eq, decide_Check_eq, Option.bind_some, cn]
  unfold pushC
  by_cases h1 : okH h
  · have hl := h1.len
    rw [if_pos h1, if_pos rfl, if_pos h1, cd, cd]
    by_cases h2 : v < 1
    · rw [if_pos h2, if_neg (by omega)]
    · rw [if_neg h2]
      by_cases h3 : v > 4000
      · rw [if_pos h3, if_neg (by omega)]
      · rw [if_neg h3, if_pos (by omega), slices_Contains_eq (by omega), Option.bind_some, cd]
        by_cases h4 : v ∈ h
        · rw [if_pos h4, if_pos h4]
        · rw [if_neg h4, if_neg h4, app_nil (by omega), Option.bind_some, app_ok (by simp; omega), Option.bind_some]
          have hw : IntKind.wrap .i64 (((h ++ [v]).length : Int) - 1) = (h.length : Int) := by rw [List.length_append, List.length_singleton, wr] <;> omega
          rw [hw]
          exact decide_Push.loop _ (by omega) (by simp) (by simp; omega)
  · rw [if_neg h1, if_neg (by omega), if_neg h1]

theorem ref16_Push_eq {h : List Int} {v : Int} : spiritlevelref16_Push h v = some (pushC h v) := by
  rw [spiritlevelref16_Push.eq, ref16_Check_eq, Option.bind_some, cn]
  unfold pushC
  by_cases h1 : okH h
  · have hl := h1.len
    rw [if_pos h1, if_pos rfl, if_pos h1, cd, cd]
    by_cases h2 : v < 1
    · rw [if_pos h2, if_neg (by omega)]
    · rw [if_neg h2]
      by_cases h3 : v > 4000
      · rw [if_pos h3, if_neg (by omega)]
      · rw [if_neg h3, if_pos (by omega), ref13_Has_eq (by omega), Option.bind_some, cd]
        by_cases h4 : v ∈ h
        · rw [if_pos h4, if_pos h4]
        · rw [if_neg h4, if_neg h4, ref16_Pushed_eq (by omega), Option.bind_some]
  · rw [if_neg h1, if_neg (by omega), if_neg h1]

end Go.Proofs.Ythgnjgnmkobboaa
