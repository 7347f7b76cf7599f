/- . -/
import Derived.Test.YthbkhndapkbgbaaGreatPD2
namespace Go.Proofs.YthbkhndapkbgbaaGreat
open Go Go.Proofs.YthbkhndapkbgbaaGreat.R
set_option linter.unusedVariables false

theorem sub_app {p : List Int} {z : Int} {n : Nat} (hn : p.length = n) : subOf (p ++ [z]) 0 n = p := by
  subst hn
  simp [subOf]

theorem decide_pop.one {p : List Int} {first : Int} {i b k n : Nat} (hn : p.length = n) (hl : n ≤ 1000000000) (hi : i ≤ 1000000000) (hk : k < 2) (hb : 2 * i + 1 + k < n → b < n) :
    decide_pop.l1 first (n : Int) (i : Int) (b : Int) (k : Int) p = decide_pop.l1 first (n : Int) (i : Int) ((if 2 * i + 1 + k < n ∧ gd p (2 * i + 1 + k) < gd p b then 2 * i + 1 + k else b : Nat) : Int) ((k + 1 : Nat) : Int) p := by
  have hw : IntKind.wrap .i64 (IntKind.wrap .i64 (IntKind.wrap .i64 (2 * (i : Int)) + 1) + (k : Int)) = ((2 * i + 1 + k : Nat) : Int) := by
    rw [lft_w (by omega), wr (by omega) (by omega)]; omega
  rw [decide_pop.l1_eq, cd, if_pos (by omega), hw, suc_w (by omega), cd]
  by_cases c1 : 2 * i + 1 + k < n
  · have h1 : 2 * i + 1 + k < p.length := by omega
    have h2 : b < p.length := by have := hb c1; omega
    rw [if_pos (by omega), ggd h1, Option.bind_some, Int.toNat_natCast, lgd h1, Option.bind_some, ggd h2, Option.bind_some, Int.toNat_natCast, lgd h2, Option.bind_some, cd]
    by_cases c2 : gd p (2 * i + 1 + k) < gd p b
    · rw [if_pos c2, if_pos ⟨c1, c2⟩]
    · rw [if_neg c2, if_neg (fun h => c2 h.2)]
  · rw [if_neg (by omega), if_neg (fun h => c1 h.1)]

theorem decide_pop.round {p : List Int} {first : Int} {i n : Nat} (hn : p.length = n) (hl : n ≤ 1000000000) (hi : i ≤ 1000000000) :
    decide_pop.l0 first (n : Int) (i : Int) p = if bestOf p i = i then some (first, p) else decide_pop.l0 first (n : Int) ((bestOf p i : Nat) : Int) (swapH p i (bestOf p i)) := by
  have e1 := decide_pop.one (first := first) (b := i) (k := 0) hn hl hi (by omega) (fun h => by omega)
  have e2 := decide_pop.one (first := first) (b := if 2 * i + 1 + 0 < n ∧ gd p (2 * i + 1 + 0) < gd p i then 2 * i + 1 + 0 else i) (k := 1) hn hl hi (by omega) (fun h => by split <;> omega)
  have hbest : (if 2 * i + 1 + 1 < n ∧ gd p (2 * i + 1 + 1) < gd p (if 2 * i + 1 + 0 < n ∧ gd p (2 * i + 1 + 0) < gd p i then 2 * i + 1 + 0 else i) then 2 * i + 1 + 1 else if 2 * i + 1 + 0 < n ∧ gd p (2 * i + 1 + 0) < gd p i then 2 * i + 1 + 0 else i) = bestOf p i := by
    subst hn; rfl
  rw [hbest] at e2
  rw [show ((0 : Nat) : Int) = 0 from rfl, show ((0 + 1 : Nat) : Int) = ((1 : Nat) : Int) from rfl] at e1
  rw [decide_pop.l0_eq, e1, e2, decide_pop.l1_eq, cd, if_neg (by omega), ce]
  by_cases c : bestOf p i = i
  · rw [if_pos c, if_pos (by rw [c])]
  · obtain ⟨b1, b2⟩ := bestOf_lt c
    have hi2 : i < p.length := by omega
    rw [if_neg c, if_neg (by omega)]
    generalize bestOf p i = b at b1 b2
    have g2 : b < (p.set i (gd p b)).length := by rw [List.length_set]; exact b1
    rw [ggd b1, Option.bind_some, Int.toNat_natCast, lgd b1, Option.bind_some, ggd hi2, Option.bind_some, Int.toNat_natCast, lgd hi2, Option.bind_some, Option.bind_some, Option.bind_some,
      ggd g2, Option.bind_some, lgd g2, Option.bind_some]
    rfl

theorem decide_pop.loop {first : Int} {n : Nat} (hl : n ≤ 1000000000) : ∀ (m : Nat) {p : List Int} {i : Nat}, p.length = n → n < m + i → i ≤ n → decide_pop.l0 first (n : Int) (i : Int) p = some (first, siftDn m p i)
  | 0, p, i, hn, hm, hi => by omega
  | m + 1, p, i, hn, hm, hi => by
    rw [decide_pop.round hn hl (by omega)]
    unfold siftDn
    by_cases c : bestOf p i = i
    · rw [if_pos c, if_pos c]
    · obtain ⟨b1, b2⟩ := bestOf_lt c
      rw [if_neg c, if_neg c]
      exact decide_pop.loop hl m (by rw [swapH_len]; exact hn) (by omega) (by omega)

theorem decide_pop_eq {h : List Int} (hne : h ≠ []) (hl : h.length ≤ 100000000) : decide_pop h = some (gd h 0, popped h) := by
  have h0 : 0 < h.length := by cases h with | nil => exact absurd rfl hne | cons a r => simp
  have hz : geti h 0 = some (gd h 0) := ggd (i := 0) h0
  have hlast : h.length - 1 < h.length := by omega
  obtain ⟨q, hq⟩ : ∃ q, h.set 0 (gd h (h.length - 1)) = q := ⟨_, rfl⟩
  have hql : q.length = h.length := by rw [← hq, List.length_set]
  have hsplit : q = h.dropLast.set 0 (gd h (h.length - 1)) ++ [gd h (h.length - 1)] := by
    rw [← hq]
    rcases List.eq_nil_or_concat h with rfl | ⟨m, l, rfl⟩
    · exact absurd rfl hne
    · rw [List.concat_eq_append, List.dropLast_concat]
      have e : gd (m ++ [l]) ((m ++ [l]).length - 1) = l := by simp [gd]
      rw [e]
      cases m with
      | nil => rfl
      | cons a m => rfl
  have hw : IntKind.wrap .i64 ((h.length : Int) - 1) = ((h.length - 1 : Nat) : Int) := prd_w (by omega) h0
  rw [decide_pop.eq, hz, Option.bind_some, show Int.toNat (0 : Int) = 0 from rfl, lgd h0, Option.bind_some, hw, ggd hlast, Option.bind_some, Int.toNat_natCast, lgd hlast, Option.bind_some, Option.bind_some, Option.bind_some, hq, hql]
  have hc : (decide ((0 : Int) ≤ 0) && decide ((0 : Int) ≤ ((h.length - 1 : Nat) : Int)) && decide (((h.length - 1 : Nat) : Int) ≤ (h.length : Int))) = true := by
    rw [Bool.and_eq_true, Bool.and_eq_true, decide_eq_true_eq, decide_eq_true_eq, decide_eq_true_eq]; omega
  have hcut : (h.dropLast.set 0 (gd h (h.length - 1))).length = h.length - 1 := by rw [List.length_set, List.length_dropLast]
  rw [hc, show chk true = some () from rfl, Option.bind_some, Int.sub_zero, Int.toNat_natCast, hsplit, sub_app hcut]
  have := decide_pop.loop (first := gd h 0) (n := h.length - 1) (by omega) h.length (p := h.dropLast.set 0 (gd h (h.length - 1))) (i := 0) hcut (by omega) (by omega)
  rw [show ((0 : Nat) : Int) = 0 from rfl] at this
  exact this

theorem ne_nil {h : List Int} (hh : ¬ h.length = 0) : h ≠ [] := fun e => hh (by rw [e]; rfl)


abbrev free (v : Int) (t : List Int) (x : Int) : Prop := x ≤ v ∧ ∀ a ∈ t, a / 2 ≠ x

def nextL (v : Int) (t : List Int) : Nat → List Int → Int × List Int × Int
  | 0, _ => (0, [], 6)
  | n + 1, h => if h.length = 0 then (0, [], 6) else if free v t (gd h 0) then (gd h 0, popped h, 0) else nextL v t n (popped h)

def nextC (h : List Int) (v : Int) (t s : List Int) : Int × List Int × Int := if okH h then (if okA v t s then nextL v t (h.length + 1) h else (0, [], 8)) else (0, [], 8)

theorem gd_mem {h : List Int} {i : Nat} (hi : i < h.length) : gd h i ∈ h := by rw [gd_lt hi]; exact List.getElem_mem hi

theorem decide_Next.loop1 {v : Int} (hv : okV v) {t s : List Int} {o : List Bool} (ho : (o.length : Int) = v + 1) (hm : ∀ k : Nat, k < o.length → o[k]? = some (decide (∃ a ∈ t, a / 2 = (k : Int)))) : ∀ (n : Nat) {h : List Int}, okH h → h.length < n →
    decide_Next.l1 v t s o h = some (nextL v t n h)
  | 0, h, hk, hn => by omega
  | n + 1, h, hk, hn => by
    have hlen := hk.len
    rw [decide_Next.l1_eq, cd]
    simp only [nextL]
    by_cases c1 : h.length = 0
    · rw [if_neg (by omega), if_pos c1]
    · have h0 : 0 < h.length := by omega
      have hr := hk.rng _ (gd_mem h0)
      have hpl := popped_len (h := h)
      rw [if_pos (by omega), if_neg c1, decide_pop_eq (ne_nil c1) (by omega), Option.bind_some]
      simp only [cd]
      rw [decide_Next.loop1 hv ho hm n (hk.popped (ne_nil c1)) (by omega)]
      by_cases c2 : gd h 0 ≤ v
      · obtain ⟨k, hkk⟩ : ∃ k : Nat, gd h 0 = (k : Int) := ⟨(gd h 0).toNat, by omega⟩
        rw [if_pos c2, hkk, gi, Int.toNat_natCast, hm k (by omega), Option.bind_some, Option.bind_some, cnot, cd]
        by_cases c3 : ∃ a ∈ t, a / 2 = (k : Int)
        · rw [if_pos c3, if_neg (fun h => by obtain ⟨a, ha, hb⟩ := c3; exact h.2 a ha hb)]
        · rw [if_neg c3, if_pos ⟨by omega, fun a ha hb => c3 ⟨a, ha, hb⟩⟩]
      · rw [if_neg c2, if_neg (fun h => c2 h.1)]

theorem decide_Next.loop0 {v : Int} (hv : okV v) {t s h : List Int} (ht : ∀ l ∈ t, isLit v l) (hn : t.length ≤ 100000000) (hh : h.length ≤ 100000000) : ∀ (n i : Nat) (o : List Bool), i + n = t.length → (o.length : Int) = v + 1 →
    (∀ k : Nat, k < o.length → o[k]? = some (decide (∃ a ∈ t.take i, a / 2 = (k : Int)))) →
    ∃ o', decide_Next.l0 h t (t.length : Int) (i : Int) v t s o = decide_Next.l1 v t s o' h ∧ (o'.length : Int) = v + 1 ∧ ∀ k : Nat, k < o'.length → o'[k]? = some (decide (∃ a ∈ t, a / 2 = (k : Int)))
  | 0, i, o, hi, ho, hk => by
    refine ⟨o, ?_, ho, ?_⟩
    · rw [decide_Next.l0_eq, cd, if_neg (by omega), app_nil (by omega), Option.bind_some]
    · rw [List.take_of_length_le (by omega)] at hk; exact hk
  | n + 1, i, o, hi, ho, hk => by
    have hlt : i < t.length := by omega
    have hl := ht _ (List.getElem_mem hlt)
    obtain ⟨k, hkk⟩ : ∃ k : Nat, t[i] / 2 = (k : Int) := ⟨(t[i] / 2).toNat, by omega⟩
    have hko : k < o.length := by omega
    have hd : IntKind.wrap .i64 (Int.tdiv t[i] 2) = (k : Int) := by rw [td (by omega) (by omega), hkk]
    have htk : t.take (i + 1) = t.take i ++ [t[i]] := by rw [List.take_add_one, List.getElem?_eq_getElem hlt]; rfl
    rw [decide_Next.l0_eq, cd, if_pos (by omega), gsome hlt, Option.bind_some, hd, gi, Int.toNat_natCast, List.getElem?_eq_getElem hko, Option.bind_some, Option.bind_some, suc_w (by omega)]
    refine decide_Next.loop0 hv ht hn hh n (i + 1) (o.set k true) (by omega) (by rw [List.length_set]; exact ho) (fun j hj => ?_)
    rw [List.length_set] at hj
    rw [List.getElem?_set, htk]
    by_cases hjk : k = j
    · subst hjk
      rw [if_pos rfl, if_pos hj]
      congr 1
      symm
      rw [decide_eq_true_iff]
      exact ⟨t[i], List.mem_append.2 (.inr (List.mem_singleton.2 rfl)), hkk⟩
    · rw [if_neg hjk, hk j hj]
      congr 1
      rw [decide_eq_decide]
      constructor
      · rintro ⟨a, ha, hb⟩
        exact ⟨a, List.mem_append.2 (.inl ha), hb⟩
      · rintro ⟨a, ha, hb⟩
        rcases List.mem_append.1 ha with ha | ha
        · exact ⟨a, ha, hb⟩
        · rw [List.mem_singleton] at ha
          subst ha
          omega

theorem decide_Next_eq {h : List Int} {v : Int} {t s : List Int} (ht : t.length ≤ 100000000) (hs : s.length ≤ 100000000) (hr : ∀ l ∈ t, in64 l) : decide_Next h v t s = some (nextC h v t s) := by
  rw [decide_Next.eq, decide_Check_eq, Option.bind_some, cn]
  unfold nextC
  by_cases h1 : okH h
  · have hl := h1.len
    rw [if_pos h1, if_pos rfl, if_pos h1, assign_Check_eq (by omega) (by omega) hr, Option.bind_some, cn]
    by_cases h2 : okA v t s
    · have hv := h2.vars
      rw [if_pos h2, if_pos rfl, if_pos h2]
      have hw : IntKind.wrap .i64 (v + 1) = v + 1 := by rw [wr] <;> omega
      rw [hw, mkl_ok (by omega) (by omega), Option.bind_some, if_pos rfl]
      obtain ⟨o', e1, e2, e3⟩ := decide_Next.loop0 (s := s) (h := h) hv h2.lits ht (by omega) t.length 0 (List.replicate (v + 1).toNat false) (by omega) (by rw [List.length_replicate]; omega) (fun k hk => by
        rw [List.length_replicate] at hk
        rw [List.getElem?_replicate, if_pos hk]; simp)
      rw [show ((0 : Nat) : Int) = 0 from rfl] at e1
      rw [e1, decide_Next.loop1 hv e2 e3 (h.length + 1) h1 (by omega)]
    · rw [if_neg h2, if_neg (by omega), if_neg h2]
  · rw [if_neg h1, if_neg (by omega), if_neg h1]

end Go.Proofs.YthbkhndapkbgbaaGreat
