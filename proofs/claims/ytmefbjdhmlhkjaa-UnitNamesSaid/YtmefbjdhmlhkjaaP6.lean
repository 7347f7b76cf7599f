/- UnitOrder, UnitMore, UnitFollows of plain values. -/
import Derived.Test.YtmefbjdhmlhkjaaP5
namespace Go.Proofs.Ytmefbjdhmlhkjaa
open Go Go.Proofs.Ytmefbjdhmlhkjaa.R
set_option linter.unusedVariables false

/-- Fewer clauses imply no more. -/
theorem prop_le {v : Int} {s : List Int} {L L' : List (List Int)} (hL : okL v L) (h : ∀ c ∈ L', c ∈ L) {t t' s' : List Int} (ht : okA v t s) (ht' : okA v t' s') (hs : ∀ l ∈ t', l ∈ t) (hn : (propC L (v + 1).toNat t).2 < 0) :
    (propC L' (v + 1).toNat t').2 < 0 ∧ ∀ l ∈ (propC L' (v + 1).toNat t').1, l ∈ (propC L (v + 1).toNat t).1 := by
  obtain ⟨h1, u, h2⟩ := propC_okA hL (v + 1).toNat ht
  refine prop_sub (fun c hc => hL c (h c hc)) h1 (fun c hc => prop_closed hL ht hn c (h c hc)) _ ht' fun l hl => ?_
  rw [h2]; exact List.mem_append_left _ (hs l hl)

theorem run_ok {a : Int × List Int × List Int} {L L' : List (List Int)} (ha : okD TA a) (hL : okD TLL L) (h : okA a.1 a.2.1 a.2.2) (hLL : okL a.1 L) (hm : ∀ c ∈ L', c ∈ L) (hl : L'.length ≤ 20000) : unit_Run a.1 a.2.1 a.2.2 L' = some ((a.1, (propC L' (a.1 + 1).toNat a.2.1).1, a.2.2), (propC L' (a.1 + 1).toNat a.2.1).2, 0) := by
  obtain ⟨a0, ⟨a1, a2⟩, a3, a4⟩ := okTA ha
  obtain ⟨l1, l2⟩ := okTLL hL
  rw [unit_Run_eq a1 a3 a2 (by omega) (fun c hc => l2 c (hm c hc)), runC_ok h (fun c hc => hLL c (hm c hc)) hl]

theorem UnitOrder.fill {ok : Bool} {b0 : Int} {b1 b2 : List Int} {o1 L : List (List Int)} (hl : L.length ≤ 60) : ∀ (n i : Nat), i + n = L.length →
    spiritlevellaw15_UnitOrder.l0 L ok (i : Int) b0 b1 b2 o1 (List.replicate n [] ++ (L.take i).reverse) = spiritlevellaw15_UnitOrder.l0 L ok (L.length : Int) b0 b1 b2 o1 L.reverse
  | 0, i, hi => by
    have : i = L.length := by omega
    subst this
    rw [List.take_length]; rfl
  | n + 1, i, hi => by
    have hlt : i < L.length := by omega
    have hw1 : IntKind.wrap .i64 ((IntKind.wrap .i64 ((L.length : Int) - 1)) - (i : Int)) = (n : Int) := by
      rw [wr (x := (L.length : Int) - 1) (by omega) (by omega), wr] <;> omega
    have hw2 : IntKind.wrap .i64 ((i : Int) + 1) = ((i + 1 : Nat) : Int) := by rw [wr] <;> omega
    have hn : n < (List.replicate (n + 1) ([] : List Int) ++ (L.take i).reverse).length := by simp; omega
    have hset : (List.replicate (n + 1) ([] : List Int) ++ (L.take i).reverse).set n L[i] = List.replicate n [] ++ (L.take (i + 1)).reverse := by
      have hr : (L.take (i + 1)).reverse = L[i] :: (L.take i).reverse := by rw [List.take_add_one, List.getElem?_eq_getElem hlt, Option.toList_some, List.reverse_append]; rfl
      rw [List.replicate_succ', List.append_assoc, List.set_append, if_neg (by simp), hr]
      simp
    rw [spiritlevellaw15_UnitOrder.l0_eq, cd, if_pos (by omega), gsome hlt, Option.bind_some]
    simp only [hw1, hw2]
    rw [gsome hn, Option.bind_some]
    have hz : ((n : Int)).toNat = n := by omega
    rw [hz, List.getElem?_eq_getElem hn, Option.bind_some, hset]
    exact UnitOrder.fill hl n (i + 1) (by omega)

theorem UnitOrder_pure (a : Int × List Int × List Int) (L : List (List Int)) (first : Int) (ha : okD TA a) (hL : okD TLL L) (hf : okD (.int .i64) first) : spiritlevellaw15_UnitOrder a.1 a.2.1 a.2.2 L first = some true := by
  obtain ⟨a0, ⟨a1, a2⟩, a3, a4⟩ := okTA ha
  obtain ⟨l1, l2⟩ := okTLL hL
  obtain ⟨b, h1, h2⟩ := fit_eq ha hL
  rw [spiritlevellaw15_UnitOrder.eq, alive_eq, Option.bind_some, h1, Option.bind_some]
  cases b with
  | false => rfl
  | true =>
    obtain ⟨hok, hLL, hs, hsh⟩ := h2 rfl
    have hl60 := hs.1
    have hv := hok.vars
    rw [cnot, ct, cd, cd]
    by_cases g1 : first < 0
    · rw [if_pos g1]
    · rw [if_neg g1]
      by_cases g2 : first > (L.length : Int)
      · rw [if_pos g2]
      · rw [if_neg g2, cnot, ct]
        have hsub1 : subl L first (L.length : Int) = some (L.drop first.toNat) := by
          unfold subl
          rw [if_pos (by omega)]; simp
        have hsub2 : subl L 0 first = some (L.take first.toNat) := by
          unfold subl
          rw [if_pos (by omega)]; simp
        rw [hsub1, Option.bind_some, app_ok (by simp; omega), Option.bind_some, hsub2, Option.bind_some, List.nil_append, app_ok (by simp; omega), Option.bind_some, mkl_ok (by omega) (by omega), Option.bind_some, if_pos rfl]
        have hfill := UnitOrder.fill (ok := true) (b0 := a.1) (b1 := a.2.1) (b2 := a.2.2) (o1 := L.drop first.toNat ++ L.take first.toNat) hl60 L.length 0 (by omega)
        rw [List.take_zero, List.reverse_nil, List.append_nil] at hfill
        rw [show ((0 : Nat) : Int) = 0 from rfl] at hfill
        rw [show ((L.length : Int)).toNat = L.length by omega, hfill, spiritlevellaw15_UnitOrder.l0_eq, cd, if_neg (by omega)]
        have m1 : ∀ c, c ∈ L.drop first.toNat ++ L.take first.toNat ↔ c ∈ L := fun c => by
          rw [List.mem_append]
          constructor
          · rintro (h | h)
            · exact List.mem_of_mem_drop h
            · exact List.mem_of_mem_take h
          · intro h
            rw [← List.take_append_drop first.toNat L] at h
            rcases List.mem_append.1 h with h | h
            · exact .inr h
            · exact .inl h
        have m2 : ∀ c, c ∈ L.reverse ↔ c ∈ L := fun c => List.mem_reverse
        have k1 : (L.drop first.toNat ++ L.take first.toNat).length ≤ 20000 := by simp; omega
        have k2 : L.reverse.length ≤ 20000 := by simp; omega
        rw [run_ok ha hL hok hLL (fun c hc => hc) (by omega), Option.bind_some, run_ok ha hL hok hLL (fun c hc => (m1 c).1 hc) k1, Option.bind_some, run_ok ha hL hok hLL (fun c hc => (m2 c).1 hc) k2, Option.bind_some]
        generalize L.drop first.toNat ++ L.take first.toNat = T at *
        generalize L.reverse = B at *
        have hT : okL a.1 T := fun c hc => hLL c ((m1 c).1 hc)
        have hB : okL a.1 B := fun c hc => hLL c ((m2 c).1 hc)
        have x1 := prop_le (t := a.2.1) (t' := a.2.1) hLL (L' := T) (fun c hc => (m1 c).1 hc) hok hok (fun l hl => hl)
        have x2 := prop_le (t := a.2.1) (t' := a.2.1) hLL (L' := B) (fun c hc => (m2 c).1 hc) hok hok (fun l hl => hl)
        have y1 := prop_le (t := a.2.1) (t' := a.2.1) hT (L' := L) (fun c hc => (m1 c).2 hc) hok hok (fun l hl => hl)
        have y2 := prop_le (t := a.2.1) (t' := a.2.1) hB (L' := L) (fun c hc => (m2 c).2 hc) hok hok (fun l hl => hl)
        have p1 := (propC_okA hLL (a.1 + 1).toNat hok).1
        have p2 := (propC_okA hT (a.1 + 1).toNat hok).1
        have p3 := (propC_okA hB (a.1 + 1).toNat hok).1
        generalize propC L (a.1 + 1).toNat a.2.1 = X at *
        generalize propC T (a.1 + 1).toNat a.2.1 = Y at *
        generalize propC B (a.1 + 1).toNat a.2.1 = Z at *
        have e1 : decide (X.2 < 0) = decide (Y.2 < 0) := by
          rw [decide_eq_decide]; exact ⟨fun h => (x1 h).1, fun h => (y1 h).1⟩
        have e2 : decide (X.2 < 0) = decide (Z.2 < 0) := by
          rw [decide_eq_decide]; exact ⟨fun h => (x2 h).1, fun h => (y2 h).1⟩
        simp only [cn, if_true]
        rw [← e1, ← e2, beq_self_eq_true, Bool.not_true, cf, cf, cd]
        by_cases hx : X.2 ≥ 0
        · rw [if_pos hx]
        · rw [if_neg hx]
          have hx := Int.not_le.1 hx
          have q1 := p1.short
          have q2 := p2.short
          have q3 := p3.short
          obtain ⟨S1, s11, s12, s13, s14⟩ := ref13_Sorted_ok (l := X.1) (by omega)
          obtain ⟨S2, s21, s22, s23, s24⟩ := ref13_Sorted_ok (l := Y.1) (by omega)
          obtain ⟨S3, s31, s32, s33, s34⟩ := ref13_Sorted_ok (l := Z.1) (by omega)
          have f1 := s14 p1.nodup
          have f2 := s24 p2.nodup
          have f3 := s34 p3.nodup
          have w1 : S1 = S2 := sorted_unique s12 s22 fun y => by
            rw [s13, s23]; exact ⟨(y1 (x1 hx).1).2 y, (x1 hx).2 y⟩
          have w2 : S1 = S3 := sorted_unique s12 s32 fun y => by
            rw [s13, s33]; exact ⟨(y2 (x2 hx).1).2 y, (x2 hx).2 y⟩
          rw [s11, Option.bind_some, ct, ce, if_pos (by omega), s21, Option.bind_some, ref13_Same_eq (by omega), Option.bind_some, decide_eq_true w1, ct, s31, Option.bind_some, ref13_Same_eq (by omega), Option.bind_some, decide_eq_true w2, ct, ce, if_pos (by rw [w1]; omega)]
          have : Z.1.length = S1.length := by rw [w2]; omega
          rw [this]; simp

/-! ### More -/

theorem moreL {p q : Prop} [Decidable p] [Decidable q] {A F : Option Bool} (h1 : q → ¬ p) (h2 : q → F = some true) : (bif decide p then (bif decide q then some false else (bif decide q then F.bind (fun r => bif !r then some false else A) else A)) else (bif decide q then F.bind (fun r => bif !r then some false else A) else A)) = A := by
  by_cases hq : q
  · have := h1 hq
    rw [h2 hq]; simp [hq, this]
  · by_cases hp : p <;> simp [hp, hq]

theorem moreR {p q : Prop} [Decidable p] [Decidable q] {F G : Option Bool} (h1 : ¬ q → p) (h2 : ¬ q → F = some true) : (bif decide p then (bif decide q then some true else F.bind (fun r => some r)) else (bif decide q then (bif decide q then some true else G) else some false)) = some true := by
  by_cases hq : q
  · by_cases hp : p <;> simp [hp, hq]
  · rw [h2 hq]; simp [hq, h1 hq]

theorem UnitMore_pure (a : Int × List Int × List Int) (L : List (List Int)) (c : List Int) (lit : Int) (ha : okD TA a) (hL : okD TLL L) (hc : okD TL c) (hlit : okD (.int .i64) lit) : spiritlevellaw15_UnitMore a.1 a.2.1 a.2.2 L c lit = some true := by
  obtain ⟨a0, ⟨a1, a2⟩, a3, a4⟩ := okTA ha
  obtain ⟨l1, l2⟩ := okTLL hL
  obtain ⟨c1, c2⟩ := okTL hc
  obtain ⟨b, h1, h2⟩ := fit_eq ha hL
  rw [spiritlevellaw15_UnitMore.eq, alive_eq, Option.bind_some, h1, Option.bind_some]
  cases b with
  | false => rfl
  | true =>
    obtain ⟨hok, hLL, hs, hsh⟩ := h2 rfl
    have hl60 := hs.1
    have hv := hok.vars
    rw [cnot, ct, cd, cd]
    by_cases g1 : (c.length : Int) > 40
    · rw [if_pos g1]
    · rw [if_neg g1]
      by_cases g2 : (L.length : Int) ≥ 60
      · rw [if_pos g2]
      · rw [if_neg g2, ref13_Check_eq c1, Option.bind_some, cn, if_pos hv]
        by_cases hcc : okC a.1 c
        · rw [if_pos hcc, if_pos rfl, cnot, ct, run_ok ha hL hok hLL (fun c hc => hc) (by omega), Option.bind_some, app_ok (by simp; omega), Option.bind_some, List.nil_append, app_ok (by simp; omega), Option.bind_some]
          have hLc : okL a.1 (L ++ [c]) := fun d hd => by
            rcases List.mem_append.1 hd with hd | hd
            · exact hLL d hd
            · rw [List.mem_singleton.1 hd]; exact hcc
          have hrun : unit_Run a.1 a.2.1 a.2.2 (L ++ [c]) = some ((a.1, (propC (L ++ [c]) (a.1 + 1).toNat a.2.1).1, a.2.2), (propC (L ++ [c]) (a.1 + 1).toNat a.2.1).2, 0) := by
            rw [unit_Run_eq a1 a3 a2 (by simp; omega) (fun d hd => by
              rcases List.mem_append.1 hd with hd | hd
              · exact l2 d hd
              · rw [List.mem_singleton.1 hd]; exact ⟨c1, c2⟩), runC_ok hok hLc (by simp; omega)]
          rw [hrun, Option.bind_some]
          have q1 := prop_le (t := a.2.1) (t' := a.2.1) hLc (L' := L) (fun c hc => List.mem_append_left _ hc) hok hok (fun l hl => hl)
          have p1 := (propC_okA hLL (a.1 + 1).toNat hok).1.short
          have p2 := (propC_okA hLc (a.1 + 1).toNat hok).1.short
          simp only [cn, if_true]
          rw [moreL (fun h => by have := (q1 h).1; omega) (fun h => by rw [ref13_Part_eq (by omega) (by omega), decide_eq_true (q1 h).2])]
          rw [ref13_Lit_eq (by omega), Option.bind_some, cnot, cd]
          by_cases hlt : isLit a.1 lit
          · rw [if_pos hlt, ref14_Is_eq (by omega) a1, Option.bind_some]
            by_cases h2 : isS a.2.1 lit = 2
            · rw [if_pos h2]
              have sh := hok.short
              rw [ref14_With_eq (by omega) (by omega), Option.bind_some, if_pos rfl]
              have hok2 : okA a.1 (a.2.1 ++ [lit]) (a.2.2 ++ [(a.2.1.length : Int)]) := by
                have h3 := hok.push hlt h2
                refine { h3 with inc := ?_, bnd := fun y hy => ?_ }
                · rw [List.pairwise_append]
                  refine ⟨hok.inc, by simp, fun x hx y hy => ?_⟩
                  rw [List.mem_singleton.1 hy]
                  exact (hok.bnd x hx).2
                · rw [List.length_append, List.length_singleton]
                  rcases List.mem_append.1 hy with hy | hy
                  · have := hok.bnd y hy; omega
                  · rw [List.mem_singleton.1 hy]; omega
              rw [unit_Run_eq (by simp; omega) (by simp; omega) (fun l hl => by
                rcases List.mem_append.1 hl with hl | hl
                · exact a2 l hl
                · rw [List.mem_singleton.1 hl]; exact lit64 hv hlt) l1 l2, Option.bind_some, runC_ok hok2 hLL (by omega)]
              have q2 := prop_le (t := a.2.1 ++ [lit]) (t' := a.2.1) hLL (L' := L) (fun c hc => hc) hok2 hok (fun l hl => List.mem_append_left _ hl)
              have p3 := (propC_okA hLL (a.1 + 1).toNat hok2).1.short
              simp only [ct, ce, if_true]
              exact moreR (fun h => (q2 (by omega)).1) (fun h => by rw [ref13_Part_eq (by omega) (by omega), decide_eq_true (q2 (by omega)).2])
            · rw [if_neg h2]
          · rw [if_neg hlt]
        · rw [if_neg hcc, if_neg (by omega)]

/-! ### Follows -/

theorem follows_all {b x y : Bool} : ((b && x) && y) = (b && (x && y)) := Bool.and_assoc ..

theorem UnitFollows.l1_all {ok : Bool} {L : List (List Int)} {k n b1 : Int} {v : Int} {t s : List Int} {W : List Bool} {o3 o4 : List Int} (hv : okV v) (hW : (W.length : Int) = v) (ht : ∀ l ∈ t, isLit v l) (hl : t.length ≤ 4000) : ∀ (m i : Nat) (b : Bool), i + m = t.length →
    spiritlevellaw15_UnitFollows.l1 L ok k n b (i : Int) v t s b1 W o3 o4 = spiritlevellaw15_UnitFollows.l2 L ok k n (b && (t.drop i).all (truth W)) 0 v t s b1 W o3 o4
  | 0, i, b, hi => by
    rw [spiritlevellaw15_UnitFollows.l1_eq, cd, if_neg (by omega), List.drop_of_length_le (by omega)]
    simp
  | m + 1, i, b, hi => by
    have hlt : i < t.length := by omega
    have hw2 : IntKind.wrap .i64 ((i : Int) + 1) = ((i + 1 : Nat) : Int) := by rw [wr] <;> omega
    rw [spiritlevellaw15_UnitFollows.l1_eq, cd, if_pos (by omega), gsome hlt, Option.bind_some, ref13_Truth_eq hv hW (ht _ (List.getElem_mem hlt)), Option.bind_some, hw2, drop_cons hlt, List.all_cons]
    cases b with
    | false => rw [cf, UnitFollows.l1_all hv hW ht hl m (i + 1) false (by omega)]; rfl
    | true => rw [ct, UnitFollows.l1_all hv hW ht hl m (i + 1) _ (by omega)]; rfl

theorem UnitFollows.l2_all {ok : Bool} {L : List (List Int)} {k n b1 : Int} {v : Int} {t s : List Int} {W : List Bool} {o3 o4 : List Int} (hv : okV v) (hW : (W.length : Int) = v) (hL : okL v L) (hl : L.length ≤ 60) : ∀ (m i : Nat) (b : Bool), i + m = L.length →
    spiritlevellaw15_UnitFollows.l2 L ok k n b (i : Int) v t s b1 W o3 o4 = spiritlevellaw15_UnitFollows.l2 L ok k n (b && (L.drop i).all (fun c => c.any (truth W))) (L.length : Int) v t s b1 W o3 o4
  | 0, i, b, hi => by
    have : i = L.length := by omega
    subst this
    rw [List.drop_length]; simp
  | m + 1, i, b, hi => by
    have hlt : i < L.length := by omega
    have hw2 : IntKind.wrap .i64 ((i : Int) + 1) = ((i + 1 : Nat) : Int) := by rw [wr] <;> omega
    have hc := hL _ (List.getElem_mem hlt)
    have hcl := hc.len hv
    rw [spiritlevellaw15_UnitFollows.l2_eq, cd, if_pos (by omega), gsome hlt, Option.bind_some, ref13_Holds_eq hv hW hc.1 (by omega), Option.bind_some, hw2, drop_cons hlt, List.all_cons]
    cases b with
    | false => rw [cf, UnitFollows.l2_all hv hW hL hl m (i + 1) false (by omega)]; rfl
    | true => rw [ct, UnitFollows.l2_all hv hW hL hl m (i + 1) _ (by omega)]; rfl

theorem UnitFollows.l3_all {ok : Bool} {L : List (List Int)} {k n b1 : Int} {v : Int} {t s : List Int} {W : List Bool} {x o4 : List Int} (hv : okV v) (hW : (W.length : Int) = v) (hx : ∀ l ∈ x, isLit v l) (hl : x.length ≤ 4000) (htr : ∀ l ∈ x, truth W l = true) : ∀ (m i : Nat), i + m = x.length →
    spiritlevellaw15_UnitFollows.l3 L ok k n (i : Int) v t s b1 W x o4 = spiritlevellaw15_UnitFollows.l0 L ok k (IntKind.wrap .i64 (n + 1)) v t s b1 x o4
  | 0, i, hi => by
    rw [spiritlevellaw15_UnitFollows.l3_eq, cd, if_neg (by omega)]
  | m + 1, i, hi => by
    have hlt : i < x.length := by omega
    have hw2 : IntKind.wrap .i64 ((i : Int) + 1) = ((i + 1 : Nat) : Int) := by rw [wr] <;> omega
    have hz : ((i : Int)).toNat = i := by omega
    rw [spiritlevellaw15_UnitFollows.l3_eq, cd, if_pos (by omega), gsome hlt, Option.bind_some, hz, List.getElem?_eq_getElem hlt, Option.bind_some, ref13_Truth_eq hv hW (hx _ (List.getElem_mem hlt)), Option.bind_some, htr _ (List.getElem_mem hlt), Bool.not_true, cf, hw2]
    exact UnitFollows.l3_all hv hW hx hl htr m (i + 1) (by omega)

theorem shl_small {v : Int} (h : 0 ≤ v ∧ v ≤ 8) : bshl .i64 1 v ≤ 256 := by
  have : v = 0 ∨ v = 1 ∨ v = 2 ∨ v = 3 ∨ v = 4 ∨ v = 5 ∨ v = 6 ∨ v = 7 ∨ v = 8 := by omega
  rcases this with h | h | h | h | h | h | h | h | h <;> subst h <;> decide

theorem UnitFollows.l0_all {L : List (List Int)} {v : Int} {t s : List Int} {b1 : Int} (h : okA v t s) (hv8 : v ≤ 8) (hL : okL v L) (hl : L.length ≤ 60) : ∀ (m n : Nat), n + m = 256 →
    spiritlevellaw15_UnitFollows.l0 L true (propC L (v + 1).toNat t).2 (n : Int) v t s b1 (propC L (v + 1).toNat t).1 s = some true := by
  have hv := h.vars
  have hu : IntKind.wrap .u64 v = v := by
    have : v = 0 ∨ v = 1 ∨ v = 2 ∨ v = 3 ∨ v = 4 ∨ v = 5 ∨ v = 6 ∨ v = 7 ∨ v = 8 := by omega
    rcases this with h | h | h | h | h | h | h | h | h <;> subst h <;> decide
  have hb := shl_small (v := v) ⟨hv.1, hv8⟩
  intro m
  induction m with
  | zero =>
    intro n hn
    rw [spiritlevellaw15_UnitFollows.l0_eq, hu, cd, if_neg (by omega), cd, if_neg (by omega)]
  | succ m ih =>
    intro n hn
    rw [spiritlevellaw15_UnitFollows.l0_eq, hu, cd, if_neg (by omega), cd]
    split
    · have hw2 : IntKind.wrap .i64 ((n : Int) + 1) = ((n + 1 : Nat) : Int) := by rw [wr] <;> omega
      obtain ⟨W, w1, w2⟩ := ref13_Values_ok hv (n := (n : Int)) (by unfold in64; omega)
      have hs := h.short
      have p1 := (propC_okA hL (v + 1).toNat h).1
      have ps := p1.short
      have e1 := UnitFollows.l1_all (ok := true) (L := L) (k := (propC L (v + 1).toNat t).2) (n := (n : Int)) (b1 := b1) (s := s) (o3 := (propC L (v + 1).toNat t).1) (o4 := s) hv w2 h.lits (by omega) t.length 0 true (by omega)
      rw [show ((0 : Nat) : Int) = 0 from rfl] at e1
      have e2 := fun b => UnitFollows.l2_all (ok := true) (t := t) (k := (propC L (v + 1).toNat t).2) (n := (n : Int)) (b1 := b1) (s := s) (o3 := (propC L (v + 1).toNat t).1) (o4 := s) hv w2 hL hl L.length 0 b (by omega)
      rw [show ((0 : Nat) : Int) = 0 from rfl] at e2
      rw [w1, Option.bind_some, e1, e2, spiritlevellaw15_UnitFollows.l2_eq, cd, if_neg (by omega), cnot, hw2, ih (n + 1) (by omega)]
      simp only [List.drop_zero, Bool.true_and]
      cases hm : (t.all (truth W) && L.all fun c => c.any (truth W)) with
      | false => rfl
      | true =>
        rw [Bool.and_eq_true, List.all_eq_true, List.all_eq_true] at hm
        have pm := prop_models hL hm.2 (v + 1).toNat h hm.1
        have e3 := UnitFollows.l3_all (ok := true) (L := L) (t := t) (k := (propC L (v + 1).toNat t).2) (n := (n : Int)) (b1 := b1) (s := s) (o4 := s) hv w2 p1.lits (by omega) pm.2 _ 0 (Nat.zero_add _)
        rw [show ((0 : Nat) : Int) = 0 from rfl, hw2, ih (n + 1) (by omega)] at e3
        rw [ct, cd, if_neg (by omega), e3]
    · rfl

theorem UnitFollows_pure (a : Int × List Int × List Int) (L : List (List Int)) (ha : okD TA a) (hL : okD TLL L) : spiritlevellaw15_UnitFollows a.1 a.2.1 a.2.2 L = some true := by
  obtain ⟨b, h1, h2⟩ := fit_eq ha hL
  rw [spiritlevellaw15_UnitFollows.eq, alive_eq, Option.bind_some, h1, Option.bind_some]
  cases b with
  | false => rfl
  | true =>
    obtain ⟨hok, hLL, hs, hsh⟩ := h2 rfl
    have hl60 := hs.1
    have hv := hok.vars
    rw [cnot, ct, cd]
    by_cases g1 : a.1 > 8
    · rw [if_pos g1]
    · rw [if_neg g1, cnot, ct, run_ok ha hL hok hLL (fun c hc => hc) (by omega), Option.bind_some]
      obtain ⟨p1, u, p2⟩ := propC_okA hLL (a.1 + 1).toNat hok
      have ps := p1.short
      simp only [cn, if_true]
      have hlu : ¬ ((propC L (a.1 + 1).toNat a.2.1).1.length : Int) < (a.2.1.length : Int) := by rw [p2, List.length_append]; omega
      rw [cd, if_neg hlu, ref14_Check_eq (by omega) (by omega), Option.bind_some, if_pos p1, if_pos rfl]
      exact UnitFollows.l0_all hok (by omega) hLL hl60 256 0 rfl

end Go.Proofs.Ytmefbjdhmlhkjaa
