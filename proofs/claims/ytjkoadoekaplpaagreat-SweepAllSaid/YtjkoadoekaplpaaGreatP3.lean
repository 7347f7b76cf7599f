/- Plain values: unit propagation. -/
import Derived.Test.YtjkoadoekaplpaaGreatP2
namespace Go.Proofs.YtjkoadoekaplpaaGreat
open Go Go.Proofs.YtjkoadoekaplpaaGreat.R
set_option linter.unusedVariables false

theorem gsI {α : Type} {l : List α} {i : Int} (h0 : 0 ≤ i) (h : i.toNat < l.length) : geti l i = some l[i.toNat] := by
  rw [gi' h0, List.getElem?_eq_getElem h]

theorem wf64 {n : Int} (h : (Lit.int .i64 n).wf = true) : in64 n := by
  simp only [Lit.wf, IntKind.min, IntKind.max, IntKind.signed, IntKind.bits, Bool.and_eq_true, decide_eq_true_eq] at h
  unfold in64
  simp at h
  omega

/-- What the literals are, as a list. -/
def Vals (v : Int) (t V : List Int) : Prop := V.length = (2 * v + 2).toNat ∧ ∀ l, isLit v l → V[l.toNat]? = some (isS t l)

theorem Vals.get {v : Int} {t V : List Int} (h : Vals v t V) {l : Int} (hl : isLit v l) : geti V l = some (isS t l) := by
  rw [gi' (by omega)]; exact h.2 l hl

theorem Vals.push {v : Int} {t V : List Int} (h : Vals v t V) {x : Int} (hx : isLit v x) (hf : isS t x = 2) : Vals v (t ++ [x]) ((V.set x.toNat 1).set (neg x).toNat 0) := by
  have hnx := neg_lit hx
  refine ⟨by rw [List.length_set, List.length_set]; exact h.1, fun l hl => ?_⟩
  have hlen := h.1
  rw [isS_append, List.getElem?_set, List.length_set]
  by_cases h1 : (neg x).toNat = l.toNat
  · have h1' : neg x = l := by omega
    have hl0 : isS t l = 2 := by
      rw [isS_none] at hf ⊢
      intro a ha
      have := hf a ha
      rw [← h1', neg_div]; exact this
    rw [if_pos h1, if_pos (by omega), hl0, if_pos rfl]
    simp only [isS]
    have hxl : ¬ x = l := fun e => by rw [← h1'] at e; exact neg_ne e.symm
    rw [if_neg hxl, if_pos (by rw [← h1', neg_neg])]
  · have h1' : neg x ≠ l := fun e => h1 (by rw [e])
    rw [if_neg h1, List.getElem?_set]
    by_cases h2 : x.toNat = l.toNat
    · have h2' : x = l := by omega
      subst h2'
      rw [if_pos rfl, if_pos (by omega), hf, if_pos rfl]
      simp [isS]
    · have h2' : x ≠ l := fun e => h2 (by rw [e])
      rw [if_neg h2, h.2 l hl]
      split
      · rename_i h3
        rw [h3]
        simp only [isS]
        rw [if_neg h2', if_neg (fun e => h1' (by rw [e, neg_neg]))]
      · rfl

theorem set_reads {γ : Type} {v : Int} {V : List Int} (hv : okV v) (hV : V.length = (2 * v + 2).toNat) {x : Int} (hx : isLit v x) {K : Option γ} :
    ((geti V x).bind fun _ => (V[x.toNat]?).bind fun _ => (geti (V.set x.toNat 1) (bxor .i64 x 1)).bind fun _ => ((V.set x.toNat 1)[(bxor .i64 x 1).toNat]?).bind fun _ => K) = K := by
  have hnx := neg_lit hx
  rw [bxor_one (by omega) (by omega)]
  have h1 : x.toNat < V.length := by omega
  have h2 : (neg x).toNat < (V.set x.toNat 1).length := by rw [List.length_set]; omega
  rw [gsI (by omega) h1, Option.bind_some, List.getElem?_eq_getElem h1, Option.bind_some, gsI (by omega) h2, Option.bind_some, List.getElem?_eq_getElem h2, Option.bind_some]

/-! ### States of clauses -/

def stC (t c : List Int) : Int × Int :=
  if c.any (fun l => decide (isS t l = 1)) then (1, 0) else
    match c.filter (fun l => decide (isS t l = 2)) with
    | [] => (0, 0)
    | [x] => (3, x)
    | _ => (2, 0)

def ofL (t : List Int) : List Int → List Int → Int × Int
  | o, [] => match o with
    | [] => (0, 0)
    | [x] => (3, x)
    | _ => (2, 0)
  | o, l :: r => if isS t l = 1 then (1, 0) else if isS t l = 2 then ofL t (o ++ [l]) r else ofL t o r

theorem ofL_eq {t : List Int} : ∀ {c o : List Int}, ofL t o c = if c.any (fun l => decide (isS t l = 1)) then ((1, 0) : Int × Int) else
    match o ++ c.filter (fun l => decide (isS t l = 2)) with
    | [] => (0, 0)
    | [x] => (3, x)
    | _ => (2, 0)
  | [], o => by simp [ofL]
  | l :: r, o => by
    simp only [ofL, List.any_cons, List.filter_cons]
    by_cases h1 : isS t l = 1
    · simp [h1]
    · rw [if_neg h1]
      have hd1 : decide (isS t l = 1) = false := decide_eq_false h1
      rw [hd1, Bool.false_or]
      by_cases h2 : isS t l = 2
      · rw [if_pos h2, ofL_eq (c := r)]
        simp [h2]
      · rw [if_neg h2, ofL_eq (c := r)]
        simp [h2]

theorem ofL_stC {t c : List Int} : ofL t [] c = stC t c := by rw [ofL_eq]; rfl

/-! ### What is next -/

def ffC (t : List Int) : Int → List (List Int) → Int
  | _, [] => -1
  | i, c :: r => if (stC t c).1 = 0 then i else ffC t (i + 1) r

def fuC (t : List Int) : List (List Int) → Int
  | [] => 0
  | c :: r => if (stC t c).1 = 3 then (stC t c).2 else fuC t r

theorem stC_unit {t c : List Int} (h : (stC t c).1 = 3) : (stC t c).2 ∈ c ∧ isS t (stC t c).2 = 2 := by
  unfold stC at h ⊢
  split
  · rename_i h1; rw [if_pos h1] at h; simp at h
  · rename_i h1
    rw [if_neg h1] at h
    split at h
    · simp at h
    · rename_i x hx
      have : x ∈ c.filter (fun l => decide (isS t l = 2)) := by rw [hx]; simp
      rw [List.mem_filter] at this
      exact ⟨this.1, of_decide_eq_true this.2⟩
    · simp at h

theorem ffC_lt (t : List Int) : ∀ (L : List (List Int)) (i : Int), ffC t i L = -1 ∨ (i ≤ ffC t i L ∧ ffC t i L < i + L.length)
  | [], i => by simp [ffC]
  | c :: r, i => by
    simp only [ffC]
    split
    · right; simp; omega
    · rcases ffC_lt t r (i + 1) with h | h
      · exact .inl h
      · right; simp only [List.length_cons]; omega

/-! ### Propagation -/

def propC (L : List (List Int)) : Nat → List Int → List Int × Int
  | 0, t => (t, -1)
  | n + 1, t => if 0 ≤ ffC t 0 L ∨ fuC t L = 0 then (t, ffC t 0 L) else propC L n (t ++ [fuC t L])

def okL (v : Int) (L : List (List Int)) : Prop := ∀ c ∈ L, okC v c
instance (v : Int) (L : List (List Int)) : Decidable (okL v L) := by unfold okL; infer_instance

theorem okC.len {v : Int} (hv : okV v) {c : List Int} (h : okC v c) : c.length ≤ 4000 := by
  have h1 : (c.map fun l => l / 2 - 1).Nodup := by
    rw [List.Nodup, List.pairwise_map]
    exact h.2.imp fun hab he => by omega
  have := pigeon v.toNat h1 (fun x hx => by
    obtain ⟨l, hl, rfl⟩ := List.mem_map.1 hx
    have := h.1 l hl
    omega)
  rw [List.length_map] at this
  omega

theorem fuC_spec {t : List Int} : ∀ {L : List (List Int)}, fuC t L ≠ 0 → ∃ c ∈ L, stC t c = (3, fuC t L)
  | [], h => by simp [fuC] at h
  | c :: r, h => by
    simp only [fuC] at h ⊢
    split
    · rename_i h3
      exact ⟨c, by simp, by rw [← h3]⟩
    · rename_i h3
      rw [if_neg h3] at h
      obtain ⟨d, hd, he⟩ := fuC_spec h
      exact ⟨d, by simp [hd], he⟩

theorem okA.push {v : Int} {t s : List Int} (h : okA v t s) {x : Int} (hx : isLit v x) (hf : isS t x = 2) : okA v (t ++ [x]) s where
  vars := h.vars
  lits := fun l hl => by
    rcases List.mem_append.1 hl with hl | hl
    · exact h.lits l hl
    · have := List.mem_singleton.1 hl; subst this; exact hx
  dis := by
    rw [List.pairwise_append]
    refine ⟨h.dis, by simp, fun a ha b hb => ?_⟩
    have := List.mem_singleton.1 hb; subst this
    exact isS_none.1 hf a ha
  inc := h.inc
  bnd := fun y hy => by have := h.bnd y hy; simp only [List.length_append]; omega

theorem fuC_lit {v : Int} {t : List Int} {L : List (List Int)} (hL : okL v L) (h : fuC t L ≠ 0) : isLit v (fuC t L) ∧ isS t (fuC t L) = 2 := by
  obtain ⟨c, hc, he⟩ := fuC_spec h
  have := stC_unit (t := t) (c := c) (by rw [he])
  rw [he] at this
  exact ⟨(hL c hc).1 _ this.1, this.2⟩

/-- What 'unit.Run' answers. -/
def runC (v : Int) (t s : List Int) (L : List (List Int)) : (Int × List Int × List Int) × Int × Int :=
  if okA v t s then
    if L.length > 20000 then ((0, [], []), 0, 4) else
    if okL v L then ((v, (propC L (v + 1).toNat t).1, s), (propC L (v + 1).toNat t).2, 0) else ((0, [], []), 0, 8)
  else ((0, [], []), 0, 8)

/-- What 'unit.State' answers. -/
def stateC (v : Int) (t s c : List Int) : Int × Int × Int :=
  if okA v t s then (if okC v c then ((stC t c).1, (stC t c).2, 0) else (0, 0, 8)) else (0, 0, 8)

/-! ### The references -/

/-- What the statements consider. -/
def small (v : Int) (L : List (List Int)) : Prop := L.length ≤ 60 ∧ (∀ c ∈ L, c.length ≤ 40) ∧ (v ≤ 40 ∨ v = 4001)

end Go.Proofs.YtjkoadoekaplpaaGreat
