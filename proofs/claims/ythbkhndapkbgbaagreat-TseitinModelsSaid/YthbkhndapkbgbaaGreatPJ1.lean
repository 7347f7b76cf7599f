/- . -/
import Derived.Test.YthbkhndapkbgbaaGreatPA3
import Derived.Test.YthbkhndapkbgbaaGreatP5
namespace Go.Proofs.YthbkhndapkbgbaaGreat
open Go Go.Proofs.YthbkhndapkbgbaaGreat.R
set_option linter.unusedVariables false


abbrev cntGE (f : Int → Int) (c : List Int) (k : Int) : Nat := (c.filter fun l => decide (k ≤ f l)).length

def toF (f : Int → Int) (c : List Int) : Nat → Nat
  | 0 => 0
  | k + 1 => if cntGE f c ((k + 1 : Nat) : Int) < 2 then toF f c k else k + 1

def givF (f : Int → Int) (to : Int) : List Int → Int → Int
  | [], lit => lit
  | l :: r, lit => givF f to r (if f l > to then l else lit)

theorem toF_le (f : Int → Int) (c : List Int) : ∀ n, toF f c n ≤ n
  | 0 => Nat.le_refl _
  | n + 1 => by
    unfold toF
    split
    · have := toF_le f c n; omega
    · exact Nat.le_refl _

theorem toF_two (f : Int → Int) (c : List Int) : ∀ n, toF f c n = 0 ∨ 2 ≤ cntGE f c (toF f c n)
  | 0 => .inl rfl
  | n + 1 => by
    unfold toF
    split
    · exact toF_two f c n
    · rename_i h; exact .inr (by omega)

theorem toF_one (f : Int → Int) (c : List Int) : ∀ n : Nat, (∀ l ∈ c, f l ≤ (n : Int)) → cntGE f c ((toF f c n : Int) + 1) < 2
  | 0, h => by
    have : cntGE f c (((0 : Nat) : Int) + 1) = 0 := by
      unfold cntGE
      rw [List.length_eq_zero_iff, List.filter_eq_nil_iff]
      intro l hl hd
      have h1 := h l hl
      have h2 := of_decide_eq_true hd
      omega
    unfold toF
    omega
  | n + 1, h => by
    unfold toF
    by_cases hc : cntGE f c ((n + 1 : Nat) : Int) < 2
    · rw [if_pos hc]
      have : ∀ k : Nat, k ≤ n → (∀ j : Nat, k < j → j ≤ n + 1 → cntGE f c (j : Int) < 2) → cntGE f c ((toF f c k : Int) + 1) < 2 := by
        intro k
        induction k with
        | zero => intro hk hj; unfold toF; exact hj 1 (by omega) (by omega)
        | succ k ih =>
          intro hk hj
          unfold toF
          by_cases hc2 : cntGE f c ((k + 1 : Nat) : Int) < 2
          · rw [if_pos hc2]
            refine ih (by omega) (fun j h1 h2 => ?_)
            by_cases he : j = k + 1
            · subst he; exact hc2
            · exact hj j (by omega) h2
          · rw [if_neg hc2]; exact hj (k + 2) (by omega) (by omega)
      exact this n (Nat.le_refl _) (fun j h1 h2 => by
        have : j = n + 1 := by omega
        subst this; exact hc)
    · rw [if_neg hc]
      have : cntGE f c (((n + 1 : Nat) : Int) + 1) = 0 := by
        unfold cntGE
        rw [List.length_eq_zero_iff, List.filter_eq_nil_iff]
        intro l hl hd
        have h1 := h l hl
        have h2 := of_decide_eq_true hd
        omega
      omega

theorem cnt_one {f : Int → Int} {c : List Int} {k x y : Int} (h : cntGE f c k < 2) (hx : x ∈ c) (hy : y ∈ c) (h1 : k ≤ f x) (h2 : k ≤ f y) : x = y := by
  unfold cntGE at h
  have mx : x ∈ c.filter fun l => decide (k ≤ f l) := List.mem_filter.2 ⟨hx, decide_eq_true h1⟩
  have my : y ∈ c.filter fun l => decide (k ≤ f l) := List.mem_filter.2 ⟨hy, decide_eq_true h2⟩
  generalize c.filter (fun l => decide (k ≤ f l)) = L at h mx my
  match L, h with
  | [], _ => cases mx
  | [a], _ =>
    rw [List.mem_singleton] at mx my
    rw [mx, my]
  | a :: b :: r, h => simp only [List.length_cons] at h; omega

theorem givF_cases (f : Int → Int) (to : Int) : ∀ (c : List Int) (lit : Int), (givF f to c lit = lit ∧ ∀ l ∈ c, f l ≤ to) ∨ (givF f to c lit ∈ c ∧ to < f (givF f to c lit))
  | [], lit => .inl ⟨rfl, by simp⟩
  | a :: r, lit => by
    simp only [givF]
    by_cases h : f a > to
    · rw [if_pos h]
      rcases givF_cases f to r a with ⟨h1, h2⟩ | ⟨h1, h2⟩
      · rw [h1]; exact .inr ⟨List.mem_cons_self .., h⟩
      · exact .inr ⟨List.mem_cons_of_mem _ h1, h2⟩
    · rw [if_neg h]
      rcases givF_cases f to r lit with ⟨h1, h2⟩ | ⟨h1, h2⟩
      · refine .inl ⟨h1, fun l hl => ?_⟩
        rcases List.mem_cons.1 hl with rfl | hl
        · omega
        · exact h2 l hl
      · exact .inr ⟨List.mem_cons_of_mem _ h1, h2⟩

theorem giv_spec {f : Int → Int} {c : List Int} {n : Nat} (hf : ∀ l ∈ c, f l ≤ (n : Int)) (h0 : ∀ l ∈ c, l ≠ 0) :
    (givF f (toF f c n) c 0 = 0 ∧ ∀ l ∈ c, f l ≤ (toF f c n : Int)) ∨
      (givF f (toF f c n) c 0 ∈ c ∧ (toF f c n : Int) < f (givF f (toF f c n) c 0) ∧ ∀ l ∈ c, l ≠ givF f (toF f c n) c 0 → f l ≤ (toF f c n : Int)) := by
  rcases givF_cases f (toF f c n) c 0 with h | ⟨h1, h2⟩
  · exact .inl h
  · refine .inr ⟨h1, h2, fun l hl hne => ?_⟩
    apply Classical.byContradiction
    intro hlt
    exact hne (cnt_one (toF_one f c n hf) hl h1 (by omega) (by omega))

def secC : List (Int × Int) → Int
  | _ :: b :: _ => b.2
  | _ => 0

section sorted
variable {f : Int → Int} {c : List Int}

theorem sorted_cnt {M : List (Int × Int)} (hp : M.Perm (c.map fun l => (l, f l))) (k : Int) : cntGE f c k = (M.filter fun p => decide (k ≤ p.2)).length := by
  rw [(hp.filter _).length_eq, List.filter_map, List.length_map]
  rfl

theorem sorted_two {M : List (Int × Int)} (hp : M.Perm (c.map fun l => (l, f l))) (hs : M.Pairwise fun x y => y.2 ≤ x.2) {k : Int} (hk : 0 < k) : 2 ≤ cntGE f c k ↔ k ≤ secC M := by
  rw [sorted_cnt hp]
  match M, hs with
  | [], _ => simp [secC]; omega
  | [a], _ =>
    simp only [secC, List.filter_cons, List.filter_nil]
    constructor
    · intro h; split at h <;> simp at h
    · intro h; omega
  | a :: b :: r, hs =>
    rw [List.pairwise_cons, List.pairwise_cons] at hs
    have hab := hs.1 b (List.mem_cons_self ..)
    simp only [secC, List.filter_cons]
    constructor
    · intro h
      apply Classical.byContradiction
      intro hk2
      have hr : r.filter (fun p => decide (k ≤ p.2)) = [] := by
        rw [List.filter_eq_nil_iff]
        intro p hp1 hd
        have h1 := hs.2.1 p hp1
        have h2 := of_decide_eq_true hd
        omega
      rw [hr, if_neg (fun e => hk2 (of_decide_eq_true e))] at h
      split at h <;> simp at h
    · intro h
      rw [if_pos (decide_eq_true (Int.le_trans h hab)), if_pos (decide_eq_true h)]
      simp only [List.length_cons]; omega

theorem sec_range {M : List (Int × Int)} (hp : M.Perm (c.map fun l => (l, f l))) {n : Int} (hn : 0 ≤ n) (hf : ∀ l ∈ c, 0 ≤ f l ∧ f l ≤ n) : 0 ≤ secC M ∧ secC M ≤ n := by
  match M, hp with
  | [], _ => exact ⟨Int.le_refl _, hn⟩
  | [a], _ => exact ⟨Int.le_refl _, hn⟩
  | a :: b :: r, hp =>
    have : b ∈ c.map fun l => (l, f l) := hp.mem_iff.1 (by simp)
    obtain ⟨l, hl, rfl⟩ := List.mem_map.1 this
    exact hf l hl

theorem sorted_to {M : List (Int × Int)} (hp : M.Perm (c.map fun l => (l, f l))) (hs : M.Pairwise fun x y => y.2 ≤ x.2) {n : Nat} (hf : ∀ l ∈ c, 0 ≤ f l ∧ f l ≤ (n : Int)) : (toF f c n : Int) = secC M := by
  obtain ⟨h0, hn⟩ := sec_range hp (by omega) hf
  have : ∀ m : Nat, m ≤ n → (toF f c m : Int) = if secC M ≤ m then secC M else m := by
    intro m
    induction m with
    | zero => intro _; unfold toF; split <;> omega
    | succ m ih =>
      intro hm
      have h2 := sorted_two hp hs (k := ((m + 1 : Nat) : Int)) (by omega)
      unfold toF
      by_cases hc : cntGE f c ((m + 1 : Nat) : Int) < 2
      · rw [if_pos hc, ih (by omega)]
        have hlt : ¬ ((m + 1 : Nat) : Int) ≤ secC M := fun h => by have := h2.2 h; omega
        rw [if_pos (by omega), if_pos (by omega)]
      · rw [if_neg hc]
        have hle := h2.1 (by omega)
        split <;> omega
  rw [this n (Nat.le_refl _), if_pos hn]

theorem sorted_giv {M : List (Int × Int)} (hp : M.Perm (c.map fun l => (l, f l))) (hs : M.Pairwise fun x y => y.2 ≤ x.2) {n : Nat} (hf : ∀ l ∈ c, 0 ≤ f l ∧ f l ≤ (n : Int)) (h0 : ∀ l ∈ c, l ≠ 0) :
    givF f (toF f c n) c 0 = match M with | [] => 0 | a :: r => if a.2 = secC (a :: r) then 0 else a.1 := by
  have hto := sorted_to hp hs hf
  match M, hp, hs, hto with
  | [], hp, hs, hto =>
    have : c = [] := by
      have := hp.length_eq
      simp at this
      exact List.eq_nil_of_length_eq_zero this.symm
    subst this; rfl
  | a :: r, hp, hs, hto =>
    have ha : a ∈ c.map fun l => (l, f l) := hp.mem_iff.1 (List.mem_cons_self ..)
    obtain ⟨x, hx, rfl⟩ := List.mem_map.1 ha
    rw [List.pairwise_cons] at hs
    have hmax : ∀ l ∈ c, f l ≤ f x := fun l hl => by
      have : (l, f l) ∈ (x, f x) :: r := hp.mem_iff.2 (List.mem_map.2 ⟨l, hl, rfl⟩)
      rcases List.mem_cons.1 this with h | h
      · rw [Prod.mk.injEq] at h; omega
      · exact hs.1 _ h
    have hge : secC ((x, f x) :: r) ≤ f x := by
      cases r with
      | nil => exact (hf x hx).1
      | cons b r => exact hs.1 b (List.mem_cons_self ..)
    simp only
    rcases giv_spec (fun l hl => (hf l hl).2) h0 with ⟨g1, g2⟩ | ⟨g1, g2, g3⟩
    · rw [g1]
      have := g2 x hx
      rw [if_pos (by omega)]
    · have := hmax _ g1
      rw [if_neg (by omega)]
      apply Classical.byContradiction
      intro hne
      have := g3 x hx (fun e => hne e.symm)
      omega
end sorted


def lvl (t s : List Int) (l : Int) : Int := (cntLE s (idxC l 0 t) : Int)

theorem lvl_range {t s : List Int} {l : Int} : 0 ≤ lvl t s l ∧ lvl t s l ≤ (s.length : Int) := by
  unfold lvl
  have := cntLE_le (s := s) (i := idxC l 0 t)
  omega

def askC (v : Int) (t s c : List Int) : Int := if okA v t s then (if okC v c then (if (stC t c).1 = 0 then 0 else 2) else 8) else 8

abbrev toC (t s c : List Int) : Nat := toF (lvl t s) c s.length
abbrev givC (t s c : List Int) : Int := givF (lvl t s) (toC t s c) c 0

def jlevC (v : Int) (t s c : List Int) : Int × Int := if askC v t s c = 0 then ((toC t s c : Int), 0) else (0, askC v t s c)
def jbackC (v : Int) (t s c : List Int) : (Int × List Int × List Int) × Int :=
  if askC v t s c = 0 then (if givC t s c = 0 then (noneA, 6) else ((v, (t.take (keep t s (toC t s c)) ++ [givC t s c], s.take (toC t s c))), 0)) else (noneA, askC v t s c)

theorem okC.short {v : Int} (hv : okV v) {c : List Int} (h : okC v c) : c.length ≤ 8002 :=
  pigeon 8002 h.nodup fun x hx => by have := h.1 x hx; omega

structure Fals (v : Int) (t s cl : List Int) : Prop where
  a : okA v t s
  c : okC v cl
  z : ∀ l ∈ cl, isS t l = 0

theorem askC_zero {v : Int} {t s c : List Int} (h : askC v t s c = 0) : Fals v t s c := by
  unfold askC at h
  split at h
  · rename_i h1
    split at h
    · rename_i h2
      split at h
      · rename_i h3
        exact ⟨h1, h2, stC_zero.1 h3⟩
      · omega
    · omega
  · omega

section
variable {v : Int} {t s c : List Int}

theorem Fals.idx (h : Fals v t s c) {l : Int} (hl : l ∈ c) : ¬ idxC l 0 t < 0 := fun hn => by
  have := (idxC_none (l := l) (t := t) (k := 0) (by omega)).1 hn
  rw [h.z l hl] at this; omega

theorem Fals.lev (h : Fals v t s c) {l : Int} (hl : l ∈ c) : levC v t s l = (lvl t s l, 0) := by
  unfold levC lvl
  rw [if_pos h.a, if_pos (h.c.1 l hl), if_neg (h.idx hl)]

theorem Fals.ne (h : Fals v t s c) : ∀ l ∈ c, l ≠ 0 := fun l hl => by have := h.c.1 l hl; omega
theorem Fals.rng (h : Fals v t s c) : ∀ l ∈ c, 0 ≤ lvl t s l ∧ lvl t s l ≤ (s.length : Int) := fun l _ => lvl_range

theorem isS_undone (h : Fals v t s c) {l : Int} (hl : l ∈ c) {k : Nat} (hk : k ≤ s.length) : isS (t.take (keep t s k)) l = if lvl t s l ≤ (k : Int) then 0 else 2 := by
  have hn : neg l ∈ t := (isS_false h.a.dis).1 (h.z l hl)
  obtain ⟨i, hi, he⟩ := List.getElem_of_mem hn
  have hx : idxC l 0 t = (i : Int) := by
    rw [← idxC_neg, ← he, idxC_at i hi h.a.dis]; omega
  have hkeep := keep_iff h.a hk hi
  have hlv : lvl t s l = (cntLE s (i : Int) : Int) := by unfold lvl; rw [hx]
  rw [hlv]
  by_cases hc : cntLE s (i : Int) ≤ k
  · rw [if_pos (by omega)]
    have hik := hkeep.1 hc
    refine (isS_false (h.a.dis.sublist (List.take_sublist ..))).2 ?_
    rw [← he, List.mem_iff_getElem]
    exact ⟨i, by rw [List.length_take]; omega, List.getElem_take⟩
  · rw [if_neg (by omega)]
    have hik : ¬ i < keep t s k := fun q => hc (hkeep.2 q)
    refine isS_none.2 fun a ha hae => ?_
    obtain ⟨j, hj, rfl⟩ := List.getElem_of_mem ha
    rw [List.length_take] at hj
    rw [List.getElem_take] at hae
    have := List.pairwise_iff_getElem.1 h.a.dis j i (by omega) hi (by omega)
    rw [he, neg_div] at this
    exact this hae

theorem Fals.in64 (h : Fals v t s c) : (∀ l ∈ t, in64 l) ∧ (∀ l ∈ c, in64 l) := by
  have hv := h.a.vars
  exact ⟨fun l hl => by have := h.a.lits l hl; omega, fun l hl => by have := h.c.1 l hl; omega⟩

theorem jump_levels.loop (h : Fals v t s c) : ∀ (n i : Nat) {o : List (Int × Int)}, i + n = c.length → o.length ≤ i →
    jump_levels.l0 c (c.length : Int) (i : Int) v t s o = (lim sortAt (o ++ (c.drop i).map fun l => (l, lvl t s l))).bind fun M => some (M, 0)
  | 0, i, o, hi, ho => by
    rw [jump_levels.l0_eq, cd, if_neg (by omega), List.drop_of_length_le (by omega), List.map_nil, List.append_nil]
  | n + 1, i, o, hi, ho => by
    have hlt : i < c.length := by omega
    have hm := List.getElem_mem hlt
    have hsh := h.a.short
    have hv := h.a.vars
    have hcs := h.c.short hv
    have hw : IntKind.wrap .i64 ((i : Int) + 1) = ((i + 1 : Nat) : Int) := by rw [wr] <;> omega
    rw [jump_levels.l0_eq, cd, if_pos (by omega), gsome hlt, Option.bind_some, assign_Level_eq (by omega) (by omega) h.in64.1 (h.in64.2 _ hm), Option.bind_some, h.lev hm]
    dsimp only
    rw [cn, if_pos rfl, app_ok (by simp; omega), Option.bind_some, hw, jump_levels.loop h n (i + 1) (by omega) (by simp; omega), drop_cons hlt, List.map_cons, List.append_assoc]
    rfl

abbrev atL (t s c : List Int) : List (Int × Int) := sortAt (c.map fun l => (l, lvl t s l))

theorem jump_levels_eq (ht : t.length ≤ 140737488351232) (hs : s.length ≤ 140737488351232) (htr : ∀ l ∈ t, Go.Proofs.YthbkhndapkbgbaaGreat.in64 l) (hc : c.length ≤ 140737488351232) (hcr : ∀ l ∈ c, Go.Proofs.YthbkhndapkbgbaaGreat.in64 l) :
    jump_levels v t s c = some (if askC v t s c = 0 then (atL t s c, 0) else ([], askC v t s c)) := by
  rw [jump_levels.eq, unit_State_eq ht hs htr hc hcr, Option.bind_some, cn, cn]
  by_cases h1 : okA v t s
  · by_cases h2 : okC v c
    · have e : stateC v t s c = ((stC t c).1, (stC t c).2, 0) := by unfold stateC; rw [if_pos h1, if_pos h2]
      rw [e]
      dsimp only
      rw [if_pos rfl]
      by_cases h3 : (stC t c).1 = 0
      · have h0 : askC v t s c = 0 := by unfold askC; rw [if_pos h1, if_pos h2, if_pos h3]
        have F := askC_zero h0
        have g := jump_levels.loop F c.length 0 (o := []) (by omega) (Nat.le_refl _)
        rw [show ((0 : Nat) : Int) = 0 from rfl, List.drop_zero, List.nil_append] at g
        have hcs := h2.short h1.vars
        rw [if_pos h3, if_pos h0, g]
        unfold lim LIM
        rw [if_pos (by rw [List.length_map]; omega), Option.bind_some]
      · have h0 : askC v t s c = 2 := by unfold askC; rw [if_pos h1, if_pos h2, if_neg h3]
        rw [if_neg h3, h0, if_neg (by omega)]
    · have e : stateC v t s c = (0, 0, 8) := by unfold stateC; rw [if_pos h1, if_neg h2]
      have h0 : askC v t s c = 8 := by unfold askC; rw [if_pos h1, if_neg h2]
      rw [e, h0]
      dsimp only
      rw [if_neg (by omega), if_neg (by omega)]
  · have e : stateC v t s c = (0, 0, 8) := by unfold stateC; rw [if_neg h1]
    have h0 : askC v t s c = 8 := by unfold askC; rw [if_neg h1]
    rw [e, h0]
    dsimp only
    rw [if_neg (by omega), if_neg (by omega)]

theorem jump_second_eq {M : List (Int × Int)} : jump_second M = some (secC M) := by
  rw [jump_second.eq, cd]
  match M with
  | [] => rfl
  | [a] => rfl
  | a :: b :: r =>
    rw [if_neg (by simp only [List.length_cons]; omega)]
    rfl

theorem Fals.spec (h : Fals v t s c) : (givC t s c = 0 ∧ ∀ l ∈ c, lvl t s l ≤ (toC t s c : Int)) ∨
    (givC t s c ∈ c ∧ (toC t s c : Int) < lvl t s (givC t s c) ∧ ∀ l ∈ c, l ≠ givC t s c → lvl t s l ≤ (toC t s c : Int)) := giv_spec (fun l hl => (h.rng l hl).2) h.ne

theorem Fals.to (h : Fals v t s c) : toC t s c ≤ s.length := toF_le _ _ _

theorem Fals.open_ (h : Fals v t s c) (hg : givC t s c ≠ 0) : givC t s c ∈ c ∧ isS (t.take (keep t s (toC t s c))) (givC t s c) = 2 := by
  rcases h.spec with ⟨h1, _⟩ | ⟨h1, h2, _⟩
  · exact absurd h1 hg
  · refine ⟨h1, ?_⟩
    rw [isS_undone h h1 h.to, if_neg (by omega)]

theorem Fals.imply (h : Fals v t s c) (hg : givC t s c ≠ 0) : putC v (t.take (keep t s (toC t s c))) (s.take (toC t s c)) (givC t s c) false = ((v, (t.take (keep t s (toC t s c)) ++ [givC t s c], s.take (toC t s c))), 0) := by
  obtain ⟨h1, h2⟩ := h.open_ hg
  unfold putC
  rw [if_pos (h.a.undone h.to), if_pos (h.c.1 _ h1), if_pos h2]
  rfl

theorem jump_Back_eq (ht : t.length ≤ 140737488351232) (hs : s.length ≤ 140737488351232) (htr : ∀ l ∈ t, Go.Proofs.YthbkhndapkbgbaaGreat.in64 l) (hc : c.length ≤ 140737488351232) (hcr : ∀ l ∈ c, Go.Proofs.YthbkhndapkbgbaaGreat.in64 l) :
    jump_Back v t s c = some (jbackC v t s c) := by
  rw [jump_Back.eq, jump_levels_eq ht hs htr hc hcr, Option.bind_some, cn]
  unfold jbackC
  by_cases h0 : askC v t s c = 0
  · have F := askC_zero h0
    have hv := F.a.vars
    have hsh := F.a.short
    obtain ⟨p1, p2⟩ : (atL t s c).Perm (c.map fun l => (l, lvl t s l)) ∧ (atL t s c).Pairwise (fun x y => y.2 ≤ x.2) := sortAt_spec _
    have hto : (toC t s c : Int) = secC (atL t s c) := sorted_to p1 p2 F.rng
    have hgv : givC t s c = match atL t s c with | [] => 0 | a :: r => if a.2 = secC (a :: r) then 0 else a.1 := sorted_giv p1 p2 F.rng F.ne
    rw [if_pos h0, if_pos h0]
    dsimp only
    rw [if_pos rfl, ce]
    generalize atL t s c = M at hto hgv p1 p2 ⊢
    match M, hto, hgv, p1 with
    | [], hto, hgv, p1 =>
      rw [if_pos (by simp), if_pos hgv]
    | a :: r, hto, hgv, p1 =>
      simp only at hgv
      have hz : geti (a :: r) 0 = some a := rfl
      have hz2 : (a :: r)[Int.toNat 0]? = some a := rfl
      rw [if_neg (by simp only [List.length_cons]; omega), hz, Option.bind_some, hz2, Option.bind_some, jump_second_eq, Option.bind_some, ce]
      by_cases h1 : a.2 = secC (a :: r)
      · rw [if_pos h1] at hgv
        rw [if_pos h1, if_pos hgv]
      · rw [if_neg h1] at hgv
        have hne : givC t s c ≠ 0 := fun e => by
          rcases F.spec with ⟨g1, g2⟩ | ⟨g1, g2, _⟩
          · have ha : a ∈ c.map fun l => (l, lvl t s l) := p1.mem_iff.1 (List.mem_cons_self ..)
            obtain ⟨x, hx, rfl⟩ := List.mem_map.1 ha
            have hx0 := F.ne x hx
            rw [hgv] at e
            exact hx0 e
          · exact F.ne _ g1 e
        have hu := undC_ok F.a (k := (toC t s c : Int)) ⟨by omega, by have := F.to; omega⟩
        rw [Int.toNat_natCast] at hu
        have hkl := keep_le F.a (toC t s c)
        rw [if_neg h1, if_neg hne, Option.bind_some, ← hto, assign_Undo_eq (by omega) (by omega) htr, Option.bind_some, hu]
        dsimp only
        rw [cn, if_pos rfl, Option.bind_some, Option.bind_some, ← hgv, assign_Imply_eq (by rw [List.length_take]; omega) (by rw [List.length_take]; omega) (fun l hl => htr l (List.mem_of_mem_take hl)) (F.in64.2 _ (F.open_ hne).1), Option.bind_some, F.imply hne]
  · rw [if_neg h0, if_neg h0, if_neg h0]


end
end Go.Proofs.YthbkhndapkbgbaaGreat
