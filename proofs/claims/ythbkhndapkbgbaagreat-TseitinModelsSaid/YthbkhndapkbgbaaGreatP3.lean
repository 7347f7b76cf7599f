/- . -/
import Derived.Test.YthbkhndapkbgbaaGreatP2
namespace Go.Proofs.YthbkhndapkbgbaaGreat
open Go Go.Proofs.YthbkhndapkbgbaaGreat.R
set_option linter.unusedVariables false

theorem gsI {α : Type} {l : List α} {i : Int} (h0 : 0 ≤ i) (h : i.toNat < l.length) : geti l i = some l[i.toNat] := by
  rw [gi' h0, List.getElem?_eq_getElem h]

theorem wf64 {n : Int} (h : (Lit.int .i64 n).wf = true) : in64 n := by
  simp only [Lit.wf, IntKind.min, IntKind.max, IntKind.signed, IntKind.bits, Bool.and_eq_true, decide_eq_true_eq] at h
  unfold in64
  simp at h
  omega

def Vals (v : Int) (t V : List Int) : Prop := V.length = (2 * v + 2).toNat ∧ ∀ l, isLit v l → V[l.toNat]? = some (isS t l)

theorem Vals.get {v : Int} {t V : List Int} (h : Vals v t V) {l : Int} (hl : isLit v l) : geti V l = some (isS t l) := by
  rw [gi' (by omega)]; exact h.2 l hl

theorem Vals.push {v : Int} {t V : List Int} (h : Vals v t V) {x : Int} (hx : isLit v x) (hf : isS t x = 2) : Vals v (t ++ [x]) ((V.set x.toNat 1).set (neg x).toNat 0) := by
  have hnx := neg_lit hx
  refine ⟨by rw [List.length_set, List.length_set]; exact h.1, fun l hl => ?_⟩
  have hlen := h.1
  rw [isS_append, List.getElem?_set, List.length_set]
  by_cases h1 : (neg x).toNat = l.toNat
  · have h1' : neg x = l := by omega
    have hl0 : isS t l = 2 := by
      rw [isS_none] at hf ⊢
      intro a ha
      have := hf a ha
      rw [← h1', neg_div]; exact this
    rw [if_pos h1, if_pos (by omega), hl0, if_pos rfl]
    simp only [isS]
    have hxl : ¬ x = l := fun e => by rw [← h1'] at e; exact neg_ne e.symm
    rw [if_neg hxl, if_pos (by rw [← h1', neg_neg])]
  · have h1' : neg x ≠ l := fun e => h1 (by rw [e])
    rw [if_neg h1, List.getElem?_set]
    by_cases h2 : x.toNat = l.toNat
    · have h2' : x = l := by omega
      subst h2'
      rw [if_pos rfl, if_pos (by omega), hf, if_pos rfl]
      simp [isS]
    · have h2' : x ≠ l := fun e => h2 (by rw [e])
      rw [if_neg h2, h.2 l hl]
      split
      · rename_i h3
        rw [h3]
        simp only [isS]
        rw [if_neg h2', if_neg (fun e => h1' (by rw [e, neg_neg]))]
      · rfl

theorem set_reads {γ : Type} {v : Int} {V : List Int} (hv : okV v) (hV : V.length = (2 * v + 2).toNat) {x : Int} (hx : isLit v x) {K : Option γ} :
    ((geti V x).bind fun _ => (V[x.toNat]?).bind fun _ => (geti (V.set x.toNat 1) (bxor .i64 x 1)).bind fun _ => ((V.set x.toNat 1)[(bxor .i64 x 1).toNat]?).bind fun _ => K) = K := by
  have hnx := neg_lit hx
  rw [bxor_one (by omega) (by omega)]
  have h1 : x.toNat < V.length := by omega
  have h2 : (neg x).toNat < (V.set x.toNat 1).length := by rw [List.length_set]; omega
  rw [gsI (by omega) h1, Option.bind_some, List.getElem?_eq_getElem h1, Option.bind_some, gsI (by omega) h2, Option.bind_some, List.getElem?_eq_getElem h2, Option.bind_some]

theorem unit_values.loop0 {v : Int} {t s : List Int} {N : Nat} (hN : N ≤ 140737488351232) : ∀ (n i : Nat) (o : List Int), i + n = N → o.length = N → (∀ k, k < i → o[k]? = some 2) →
    unit_values.l0 (N : Int) (i : Int) v t s o = unit_values.l1 t (t.length : Int) 0 (List.replicate N 2)
  | 0, i, o, hi, ho, hk => by
    rw [unit_values.l0_eq, cd, if_neg (by omega)]
    have : o = List.replicate N 2 := List.ext_getElem? fun k => by
      rw [List.getElem?_replicate]
      by_cases h : k < N
      · rw [if_pos h]; exact hk k (by omega)
      · rw [if_neg h, List.getElem?_eq_none (by omega)]
    rw [this]
  | n + 1, i, o, hi, ho, hk => by
    have hlt : i < o.length := by omega
    have hw : IntKind.wrap .i64 ((i : Int) + 1) = ((i + 1 : Nat) : Int) := by rw [wr] <;> omega
    have h0 : ((i : Int)).toNat = i := by omega
    rw [unit_values.l0_eq, cd, if_pos (by omega), gsome hlt, Option.bind_some, h0, List.getElem?_eq_getElem hlt, Option.bind_some, hw]
    refine unit_values.loop0 hN n (i + 1) _ (by omega) (by rw [List.length_set]; exact ho) fun k hk' => ?_
    rw [List.getElem?_set]
    by_cases h : i = k
    · rw [if_pos h, if_pos (by omega)]
    · rw [if_neg h]; exact hk k (by omega)

theorem unit_values.loop1 {v : Int} (hv : okV v) {t : List Int} (hl : ∀ l ∈ t, isLit v l) (hd : t.Pairwise fun a b => a / 2 ≠ b / 2) (hn : t.length ≤ 140737488351232) : ∀ (n i : Nat) (o : List Int), i + n = t.length → Vals v (t.take i) o →
    ∃ V, unit_values.l1 t (t.length : Int) (i : Int) o = some V ∧ Vals v t V
  | 0, i, o, hi, ho => by
    refine ⟨o, ?_, ?_⟩
    · rw [unit_values.l1_eq, cd, if_neg (by omega)]
    · rw [List.take_of_length_le (by omega)] at ho; exact ho
  | n + 1, i, o, hi, ho => by
    have hlt : i < t.length := by omega
    have hw : IntKind.wrap .i64 ((i : Int) + 1) = ((i + 1 : Nat) : Int) := by rw [wr] <;> omega
    have hx := hl t[i] (List.getElem_mem hlt)
    rw [unit_values.l1_eq, cd, if_pos (by omega), gsome hlt, Option.bind_some, set_reads hv ho.1 hx, hw, bxor_one (by omega) (by omega)]
    have htk : t.take (i + 1) = t.take i ++ [t[i]] := by rw [List.take_add_one, List.getElem?_eq_getElem hlt]; rfl
    refine unit_values.loop1 hv hl hd hn n (i + 1) _ (by omega) ?_
    rw [htk]
    refine ho.push hx (isS_none.2 fun a ha => ?_)
    have h2 := hd
    rw [← List.take_append_drop i t, drop_cons hlt, List.pairwise_append] at h2
    exact h2.2.2 a ha t[i] (List.mem_cons_self ..)

theorem unit_values_eq {v : Int} {t s : List Int} (h : okA v t s) : ∃ V, unit_values v t s = some V ∧ Vals v t V := by
  have hv := h.vars
  have hs := h.short
  have hw : IntKind.wrap .i64 (IntKind.wrap .i64 (2 * v) + 2) = 2 * v + 2 := by
    rw [wr (x := 2 * v) (by omega) (by omega), wr] <;> omega
  rw [unit_values.eq, hw, mkl_ok (by omega) (by omega), Option.bind_some, if_pos rfl, List.length_replicate]
  rw [show (0 : Int) = ((0 : Nat) : Int) from rfl, unit_values.loop0 (by omega) (2 * v + 2).toNat 0 _ (by omega) (by rw [List.length_replicate]) (fun k hk => by omega)]
  refine unit_values.loop1 hv h.lits h.dis (by omega) t.length 0 _ (by omega) ⟨by rw [List.length_replicate], fun l hl => ?_⟩
  rw [List.getElem?_replicate, if_pos (by omega)]
  simp [isS]


def stC (t c : List Int) : Int × Int :=
  if c.any (fun l => decide (isS t l = 1)) then (1, 0) else
    match c.filter (fun l => decide (isS t l = 2)) with
    | [] => (0, 0)
    | [x] => (3, x)
    | _ => (2, 0)

def ofL (t : List Int) : List Int → List Int → Int × Int
  | o, [] => match o with
    | [] => (0, 0)
    | [x] => (3, x)
    | _ => (2, 0)
  | o, l :: r => if isS t l = 1 then (1, 0) else if isS t l = 2 then ofL t (o ++ [l]) r else ofL t o r

theorem ofL_eq {t : List Int} : ∀ {c o : List Int}, ofL t o c = if c.any (fun l => decide (isS t l = 1)) then ((1, 0) : Int × Int) else
    match o ++ c.filter (fun l => decide (isS t l = 2)) with
    | [] => (0, 0)
    | [x] => (3, x)
    | _ => (2, 0)
  | [], o => by simp [ofL]
  | l :: r, o => by
    simp only [ofL, List.any_cons, List.filter_cons]
    by_cases h1 : isS t l = 1
    · simp [h1]
    · rw [if_neg h1]
      have hd1 : decide (isS t l = 1) = false := decide_eq_false h1
      rw [hd1, Bool.false_or]
      by_cases h2 : isS t l = 2
      · rw [if_pos h2, ofL_eq (c := r)]
        simp [h2]
      · rw [if_neg h2, ofL_eq (c := r)]
        simp [h2]

theorem ofL_stC {t c : List Int} : ofL t [] c = stC t c := by rw [ofL_eq]; rfl

theorem unit_state.loop {v : Int} (hv : okV v) {t V : List Int} (hV : Vals v t V) {c : List Int} (hc : ∀ l ∈ c, isLit v l) (hn : c.length ≤ 140737488351232) : ∀ (n i : Nat) (lit : Int) (o : List Int), i + n = c.length → o.length ≤ i → (o.length = 1 → o = [lit]) →
    unit_state.l0 V lit (o.length : Int) c (c.length : Int) (i : Int) = some (ofL t o (c.drop i))
  | 0, i, lit, o, hi, ho, hl => by
    rw [unit_state.l0_eq, cd, if_neg (by omega), List.drop_of_length_le (by omega), ce, ce]
    simp only [ofL]
    match o, hl with
    | [], _ => simp
    | [x], hl => have := hl rfl; simp at this; subst this; simp
    | a :: b :: r, _ => rw [if_neg (by simp only [List.length_cons]; omega), if_neg (by simp only [List.length_cons]; omega)]
  | n + 1, i, lit, o, hi, ho, hl => by
    have hlt : i < c.length := by omega
    have hw : IntKind.wrap .i64 ((i : Int) + 1) = ((i + 1 : Nat) : Int) := by rw [wr] <;> omega
    have hw2 : IntKind.wrap .i64 ((o.length : Int) + 1) = ((o ++ [c[i]]).length : Int) := by rw [List.length_append, List.length_singleton, wr] <;> omega
    have hx := hc c[i] (List.getElem_mem hlt)
    rw [unit_state.l0_eq, cd, if_pos (by omega), gsome hlt, Option.bind_some, hV.get hx, Option.bind_some, ce, ce, drop_cons hlt, hw, hw2]
    simp only [ofL]
    split
    · rfl
    · split
      · refine unit_state.loop hv hV hc hn n (i + 1) c[i] (o ++ [c[i]]) (by omega) (by rw [List.length_append, List.length_singleton]; omega) fun h => ?_
        have : o = [] := List.eq_nil_of_length_eq_zero (by rw [List.length_append, List.length_singleton] at h; omega)
        rw [this]; rfl
      · exact unit_state.loop hv hV hc hn n (i + 1) lit o (by omega) (by omega) hl

theorem unit_state_eq {v : Int} (hv : okV v) {t V : List Int} (hV : Vals v t V) {c : List Int} (hc : ∀ l ∈ c, isLit v l) (hn : c.length ≤ 140737488351232) : unit_state V c = some (stC t c) := by
  rw [unit_state.eq, ← ofL_stC]
  exact unit_state.loop hv hV hc hn c.length 0 0 [] (by omega) (by simp) (by simp)


def ffC (t : List Int) : Int → List (List Int) → Int
  | _, [] => -1
  | i, c :: r => if (stC t c).1 = 0 then i else ffC t (i + 1) r

def fuC (t : List Int) : List (List Int) → Int
  | [] => 0
  | c :: r => if (stC t c).1 = 3 then (stC t c).2 else fuC t r

theorem stC_unit {t c : List Int} (h : (stC t c).1 = 3) : (stC t c).2 ∈ c ∧ isS t (stC t c).2 = 2 := by
  unfold stC at h ⊢
  split
  · rename_i h1; rw [if_pos h1] at h; simp at h
  · rename_i h1
    rw [if_neg h1] at h
    split at h
    · simp at h
    · rename_i x hx
      have : x ∈ c.filter (fun l => decide (isS t l = 2)) := by rw [hx]; simp
      rw [List.mem_filter] at this
      exact ⟨this.1, of_decide_eq_true this.2⟩
    · simp at h

theorem unit_next.loop {v : Int} (hv : okV v) {t V : List Int} (hV : Vals v t V) {L : List (List Int)} (hL : ∀ c ∈ L, (∀ l ∈ c, isLit v l) ∧ c.length ≤ 140737488351232) (hn : L.length ≤ 140737488351232) : ∀ (n i : Nat) (lit : Int), i + n = L.length →
    unit_next.l0 V lit L (L.length : Int) (i : Int) = some (if 0 ≤ ffC t (i : Int) (L.drop i) then (ffC t (i : Int) (L.drop i), 0) else (-1, if lit = 0 then fuC t (L.drop i) else lit))
  | 0, i, lit, hi => by
    rw [unit_next.l0_eq, cd, if_neg (by omega), List.drop_of_length_le (by omega)]
    have h1 : ¬ 0 ≤ ffC t (i : Int) [] := by show ¬ (0 : Int) ≤ -1; decide
    rw [if_neg h1]
    by_cases hl : lit = 0
    · rw [if_pos hl, hl]; rfl
    · rw [if_neg hl]
  | n + 1, i, lit, hi => by
    have hlt : i < L.length := by omega
    have hw : IntKind.wrap .i64 ((i : Int) + 1) = ((i + 1 : Nat) : Int) := by rw [wr] <;> omega
    obtain ⟨hc1, hc2⟩ := hL L[i] (List.getElem_mem hlt)
    have hcast : ((i + 1 : Nat) : Int) = (i : Int) + 1 := by omega
    rw [unit_next.l0_eq, cd, if_pos (by omega), gsome hlt, Option.bind_some, unit_state_eq hv hV hc1 hc2, Option.bind_some, ce, ce, ce, drop_cons hlt, hw]
    have ih := fun lit => unit_next.loop hv hV hL hn n (i + 1) lit (by omega)
    rw [hcast] at ih ⊢
    simp only [ffC, fuC]
    by_cases h0 : (stC t L[i]).1 = 0
    · have hi0 : (0 : Int) ≤ (i : Int) := by omega
      simp only [if_pos h0, if_pos hi0]
    · simp only [if_neg h0]
      by_cases h3 : (stC t L[i]).1 = 3
      · simp only [if_pos h3]
        have hx2 := hc1 _ (stC_unit h3).1
        by_cases hl : lit = 0
        · rw [if_pos hl, if_pos hl, ih]
          simp only [if_neg (show ¬ (stC t L[i]).2 = 0 by omega)]
        · rw [if_neg hl, if_neg hl, ih]
          simp only [if_neg hl]
      · simp only [if_neg h3]
        rw [ih]

theorem unit_next_eq {v : Int} (hv : okV v) {t V : List Int} (hV : Vals v t V) {L : List (List Int)} (hL : ∀ c ∈ L, (∀ l ∈ c, isLit v l) ∧ c.length ≤ 140737488351232) (hn : L.length ≤ 140737488351232) :
    unit_next V L = some (if 0 ≤ ffC t 0 L then (ffC t 0 L, 0) else (-1, fuC t L)) := by
  rw [unit_next.eq]
  have := unit_next.loop hv hV hL hn L.length 0 0 (by omega)
  rw [show ((0 : Nat) : Int) = 0 from rfl] at this
  rw [this]
  simp

theorem ffC_lt (t : List Int) : ∀ (L : List (List Int)) (i : Int), ffC t i L = -1 ∨ (i ≤ ffC t i L ∧ ffC t i L < i + L.length)
  | [], i => by simp [ffC]
  | c :: r, i => by
    simp only [ffC]
    split
    · right; simp; omega
    · rcases ffC_lt t r (i + 1) with h | h
      · exact .inl h
      · right; simp only [List.length_cons]; omega


def propC (L : List (List Int)) : Nat → List Int → List Int × Int
  | 0, t => (t, -1)
  | n + 1, t => if 0 ≤ ffC t 0 L ∨ fuC t L = 0 then (t, ffC t 0 L) else propC L n (t ++ [fuC t L])

def okL (v : Int) (L : List (List Int)) : Prop := ∀ c ∈ L, okC v c
instance (v : Int) (L : List (List Int)) : Decidable (okL v L) := by unfold okL; infer_instance

theorem okC.len {v : Int} (hv : okV v) {c : List Int} (h : okC v c) : c.length ≤ 4000 := by
  have h1 : (c.map fun l => l / 2 - 1).Nodup := by
    rw [List.Nodup, List.pairwise_map]
    exact h.2.imp fun hab he => by omega
  have := pigeon v.toNat h1 (fun x hx => by
    obtain ⟨l, hl, rfl⟩ := List.mem_map.1 hx
    have := h.1 l hl
    omega)
  rw [List.length_map] at this
  omega

theorem fuC_spec {t : List Int} : ∀ {L : List (List Int)}, fuC t L ≠ 0 → ∃ c ∈ L, stC t c = (3, fuC t L)
  | [], h => by simp [fuC] at h
  | c :: r, h => by
    simp only [fuC] at h ⊢
    split
    · rename_i h3
      exact ⟨c, by simp, by rw [← h3]⟩
    · rename_i h3
      rw [if_neg h3] at h
      obtain ⟨d, hd, he⟩ := fuC_spec h
      exact ⟨d, by simp [hd], he⟩

theorem okA.push {v : Int} {t s : List Int} (h : okA v t s) {x : Int} (hx : isLit v x) (hf : isS t x = 2) : okA v (t ++ [x]) s where
  vars := h.vars
  lits := fun l hl => by
    rcases List.mem_append.1 hl with hl | hl
    · exact h.lits l hl
    · have := List.mem_singleton.1 hl; subst this; exact hx
  dis := by
    rw [List.pairwise_append]
    refine ⟨h.dis, by simp, fun a ha b hb => ?_⟩
    have := List.mem_singleton.1 hb; subst this
    exact isS_none.1 hf a ha
  inc := h.inc
  bnd := fun y hy => by have := h.bnd y hy; simp only [List.length_append]; omega

theorem fuC_lit {v : Int} {t : List Int} {L : List (List Int)} (hL : okL v L) (h : fuC t L ≠ 0) : isLit v (fuC t L) ∧ isS t (fuC t L) = 2 := by
  obtain ⟨c, hc, he⟩ := fuC_spec h
  have := stC_unit (t := t) (c := c) (by rw [he])
  rw [he] at this
  exact ⟨(hL c hc).1 _ this.1, this.2⟩

theorem unit_Run.loop1 {v : Int} {L : List (List Int)} (hL : okL v L) (hn : L.length ≤ 140737488351232) {x3 x4 : List Int} : ∀ (n : Nat) {t s V : List Int} {b : Int}, okA v t s → Vals v t V → v - t.length < n →
    unit_Run.l1 L b v V x3 x4 t s = some ((v, (propC L n t).1, s), (propC L n t).2, 0)
  | 0, t, s, V, _, h, hV, hlt => by have := h.short; omega
  | n + 1, t, s, V, _, h, hV, hlt => by
    have hv := h.vars
    have hL' : ∀ c ∈ L, (∀ l ∈ c, isLit v l) ∧ c.length ≤ 140737488351232 := fun c hc => ⟨(hL c hc).1, by have := (hL c hc).len hv; omega⟩
    rw [unit_Run.l1_eq, unit_next_eq hv hV hL' hn, Option.bind_some, cd, ce]
    simp only [propC]
    by_cases h0 : 0 ≤ ffC t 0 L
    · simp only [if_pos h0]
      rw [if_pos (by omega)]
      try simp only [h0, true_or, if_true]
    · simp only [if_neg h0]
      have hff : ffC t 0 L = -1 := by have := ffC_lt t L 0; omega
      rw [if_neg (by omega)]
      by_cases hz : fuC t L = 0
      · rw [if_pos hz, if_pos (.inr hz), hff]
      · obtain ⟨hx, hf⟩ := fuC_lit hL hz
        have hsh := h.short
        rw [if_neg hz, if_neg (fun h => h.elim h0 hz), set_reads hv hV.1 hx, app_ok (by simp; omega), Option.bind_some, bxor_one (by omega) (by omega)]
        exact unit_Run.loop1 hL hn n (h.push hx hf) (hV.push hx hf) (by simp only [List.length_append]; simp; omega)

theorem unit_Run.loop0 {v : Int} {t s : List Int} (h : okA v t s) {L : List (List Int)} (hn : L.length ≤ 140737488351232) (hr : ∀ c ∈ L, c.length ≤ 140737488351232 ∧ ∀ l ∈ c, in64 l) : ∀ (n i : Nat), i + n = L.length → (∀ c ∈ L.take i, okC v c) →
    unit_Run.l0 L L (L.length : Int) (i : Int) v t s 0 [] [] = some (if okL v L then ((v, (propC L (v + 1).toNat t).1, s), (propC L (v + 1).toNat t).2, 0) else ((0, [], []), 0, 8))
  | 0, i, hi, hp => by
    have hL : okL v L := fun c hc => hp c (by rw [List.take_of_length_le (by omega)]; exact hc)
    have hsh := h.short
    have hv := h.vars
    obtain ⟨V, h1, h2⟩ := unit_values_eq h
    rw [unit_Run.l0_eq, cd, if_neg (by omega), app_nil (by omega), Option.bind_some, app_nil (by omega), Option.bind_some, h1, Option.bind_some, if_pos hL]
    exact unit_Run.loop1 hL hn (v + 1).toNat h h2 (by omega)
  | n + 1, i, hi, hp => by
    have hlt : i < L.length := by omega
    have hw : IntKind.wrap .i64 ((i : Int) + 1) = ((i + 1 : Nat) : Int) := by rw [wr] <;> omega
    obtain ⟨hc1, hc2⟩ := hr L[i] (List.getElem_mem hlt)
    rw [unit_Run.l0_eq, cd, if_pos (by omega), gsome hlt, Option.bind_some, clause_Check_eq hc1 hc2, Option.bind_some, if_pos h.vars, cn, hw]
    by_cases hc : okC v L[i]
    · rw [if_pos hc, if_pos rfl]
      refine unit_Run.loop0 h hn hr n (i + 1) (by omega) fun c hcm => ?_
      rw [List.take_add_one, List.getElem?_eq_getElem hlt] at hcm
      rcases List.mem_append.1 hcm with hcm | hcm
      · exact hp c hcm
      · have : c = L[i] := by simpa using hcm
        subst this; exact hc
    · rw [if_neg hc, if_neg (by omega), if_neg (fun hL => hc (hL _ (List.getElem_mem hlt)))]

def runC (v : Int) (t s : List Int) (L : List (List Int)) : (Int × List Int × List Int) × Int × Int :=
  if okA v t s then
    if L.length > 20000 then ((0, [], []), 0, 4) else
    if okL v L then ((v, (propC L (v + 1).toNat t).1, s), (propC L (v + 1).toNat t).2, 0) else ((0, [], []), 0, 8)
  else ((0, [], []), 0, 8)

theorem unit_Run_eq {v : Int} {t s : List Int} {L : List (List Int)} (ht : t.length ≤ 140737488351232) (hs : s.length ≤ 140737488351232) (htr : ∀ l ∈ t, in64 l) (hn : L.length ≤ 140737488351232) (hr : ∀ c ∈ L, c.length ≤ 140737488351232 ∧ ∀ l ∈ c, in64 l) :
    unit_Run v t s L = some (runC v t s L) := by
  rw [unit_Run.eq, assign_Check_eq ht hs htr, Option.bind_some, cn, cd]
  unfold runC
  by_cases h : okA v t s
  · rw [if_pos h, if_pos rfl, if_pos h]
    by_cases hl : L.length > 20000
    · rw [if_pos (by omega), if_pos hl]
    · rw [if_neg (by omega), if_neg hl]
      exact unit_Run.loop0 h hn hr L.length 0 (by omega) (by simp)
  · rw [if_neg h, if_neg (by omega), if_neg h]

def stateC (v : Int) (t s c : List Int) : Int × Int × Int :=
  if okA v t s then (if okC v c then ((stC t c).1, (stC t c).2, 0) else (0, 0, 8)) else (0, 0, 8)

theorem unit_State_eq {v : Int} {t s c : List Int} (ht : t.length ≤ 140737488351232) (hs : s.length ≤ 140737488351232) (htr : ∀ l ∈ t, in64 l) (hc : c.length ≤ 140737488351232) (hcr : ∀ l ∈ c, in64 l) : unit_State v t s c = some (stateC v t s c) := by
  rw [unit_State.eq, assign_Check_eq ht hs htr, Option.bind_some, cn, clause_Check_eq hc hcr, Option.bind_some, cn]
  unfold stateC
  by_cases h : okA v t s
  · rw [if_pos h, if_pos rfl, if_pos h, if_pos h.vars]
    by_cases hk : okC v c
    · obtain ⟨V, h1, h2⟩ := unit_values_eq h
      rw [if_pos hk, if_pos rfl, if_pos hk, h1, Option.bind_some, unit_state_eq h.vars h2 hk.1 hc, Option.bind_some]
    · rw [if_neg hk, if_neg (by omega), if_neg hk]
  · rw [if_neg h, if_neg (by omega), if_neg h]


theorem ref15_Wrong.loop {v : Int} (hv : okV v) {L : List (List Int)} (hn : L.length ≤ 140737488351232) (hr : ∀ c ∈ L, c.length ≤ 140737488351232) : ∀ (n i : Nat), i + n = L.length → (∀ c ∈ L.take i, okC v c) →
    spiritlevelref15_Wrong.l0 v L (i : Int) = some (if okL v L then 0 else 8)
  | 0, i, hi, hp => by
    have hL : okL v L := fun c hc => hp c (by rw [List.take_of_length_le (by omega)]; exact hc)
    rw [spiritlevelref15_Wrong.l0_eq, cd, if_neg (by omega), if_pos hL]
  | n + 1, i, hi, hp => by
    have hlt : i < L.length := by omega
    have hw : IntKind.wrap .i64 ((i : Int) + 1) = ((i + 1 : Nat) : Int) := by rw [wr] <;> omega
    rw [spiritlevelref15_Wrong.l0_eq, cd, if_pos (by omega), gsome hlt, Option.bind_some, ref13_Check_eq (hr _ (List.getElem_mem hlt)), Option.bind_some, if_pos hv, cn, hw]
    by_cases hc : okC v L[i]
    · rw [if_pos hc, if_pos rfl]
      refine ref15_Wrong.loop hv hn hr n (i + 1) (by omega) fun c hcm => ?_
      rw [List.take_add_one, List.getElem?_eq_getElem hlt] at hcm
      rcases List.mem_append.1 hcm with hcm | hcm
      · exact hp c hcm
      · have : c = L[i] := by simpa using hcm
        subst this; exact hc
    · rw [if_neg hc, if_neg (by omega), if_neg (fun hL => hc (hL _ (List.getElem_mem hlt)))]

theorem ref15_Wrong_eq {v : Int} (hv : okV v) {L : List (List Int)} (hn : L.length ≤ 140737488351232) (hr : ∀ c ∈ L, c.length ≤ 140737488351232) : spiritlevelref15_Wrong v L = some (if L.length > 20000 then 4 else if okL v L then 0 else 8) := by
  rw [spiritlevelref15_Wrong.eq, cd]
  by_cases h : L.length > 20000
  · rw [if_pos (by omega), if_pos h]
  · rw [if_neg (by omega), if_neg h]
    exact ref15_Wrong.loop hv hn hr L.length 0 (by omega) (by simp)

end Go.Proofs.YthbkhndapkbgbaaGreat
