/- The reference of the solver, of plain values: SolveTells. -/
import Derived.Test.YthbkhndapkbgbaaGreatPV1
import Derived.Test.YthbkhndapkbgbaaGreatPS8
namespace Go.Proofs.YthbkhndapkbgbaaGreat
open Go Go.Proofs.YthbkhndapkbgbaaGreat.R
set_option linter.unusedVariables false

/-! ### What is learned -/

theorem rm_mid {d : Int} : ∀ {o s : List Int}, d ∉ o → rm d (o ++ d :: s) = o ++ s
  | [], s, _ => by rw [List.nil_append, List.nil_append, rm, if_pos rfl]
  | a :: o, s, h => by
    rw [List.mem_cons, not_or] at h
    rw [List.cons_append, List.cons_append, rm, if_neg (fun e => h.1 e.symm), rm_mid h.2]

theorem drop_sub {D : List Int} {k : Nat} (h : k ≤ D.length) : subl D (k : Int) (D.length : Int) = some (D.drop k) := by
  unfold subl; rw [if_pos (by omega)]; simp

theorem ref17_Stay.loop {v : Int} {L : List (List Int)} {D : List Int} (hD : okA v D []) (hL : okL v L) (hn : L.length ≤ 20000) : ∀ (n i : Nat) (o : List Int), i + n = D.length → o.Sublist (D.take i) →
    spiritlevelref17_Stay.l0 L D (i : Int) o = some (shr v L (D.drop i) (o ++ D.drop i))
  | 0, i, o, hi, ho => by
    rw [spiritlevelref17_Stay.l0_eq, cd, if_neg (by omega), List.drop_of_length_le (by omega), List.append_nil]; rfl
  | n + 1, i, o, hi, ho => by
    have hlt : i < D.length := by omega
    have hv := hD.vars
    have hs := hD.short
    have hol : o.length ≤ i := by have := ho.length_le; rw [List.length_take] at this; omega
    have hw : IntKind.wrap .i64 ((i : Int) + 1) = ((i + 1 : Nat) : Int) := by rw [wr] <;> omega
    have hsub : (o ++ D.drop (i + 1)).Sublist D := by
      have h1 : (o ++ D.drop (i + 1)).Sublist (D.take i ++ D.drop i) := ho.append (by rw [drop_cons hlt]; exact List.sublist_cons_self ..)
      rwa [List.take_append_drop] at h1
    have hno : D[i] ∉ o := fun hm => by
      have h1 := ho.subset hm
      obtain ⟨k, hk, e⟩ := List.getElem_of_mem h1
      rw [List.length_take] at hk
      rw [List.getElem_take] at e
      exact List.pairwise_iff_getElem.1 hD.dis k i (by omega) hlt (by omega) (by rw [e])
    have hro : rm D[i] (o ++ D.drop i) = o ++ D.drop (i + 1) := by rw [drop_cons hlt]; exact rm_mid hno
    rw [spiritlevelref17_Stay.l0_eq, cd, if_pos (by omega), app_nil (by omega), Option.bind_some, hw, drop_sub (by omega), Option.bind_some, app_ok (by rw [List.length_drop]; omega), Option.bind_some, ref17_Fails_eq hL hn (okA_sub hD hsub), Option.bind_some, cnot]
    have he : shr v L (D.drop i) (o ++ D.drop i) = shr v L (D.drop (i + 1)) (if confC v L (o ++ D.drop (i + 1)) then o ++ D.drop (i + 1) else o ++ D.drop i) := by
      conv => lhs; rw [show D.drop i = D[i] :: D.drop (i + 1) from drop_cons hlt, shr, ← drop_cons hlt, hro]
    rw [he]
    by_cases hc : confC v L (o ++ D.drop (i + 1)) = true
    · rw [hc, ct, if_pos rfl]
      refine ref17_Stay.loop hD hL hn n (i + 1) o (by omega) ?_
      rw [List.take_add_one, List.getElem?_eq_getElem hlt]
      exact ho.trans (List.sublist_append_left _ _)
    · rw [Bool.not_eq_true _ |>.mp hc, cf, gsome hlt, Option.bind_some, app_ok (by simp; omega), Option.bind_some, if_neg (by simp)]
      have := ref17_Stay.loop hD hL hn n (i + 1) (o ++ [D[i]]) (by omega) (by
        rw [List.take_add_one, List.getElem?_eq_getElem hlt]
        exact ho.append (List.Sublist.refl _))
      rw [this, drop_cons hlt, List.append_assoc]; rfl

theorem ref17_Learned.loop {v : Int} (hv : okV v) {R : List Int} (hl : ∀ x ∈ R, isLit v x) (hn : R.length ≤ 4000) : ∀ (n i : Nat), i + n = R.length →
    spiritlevelref17_Learned.l0 (i : Int) ((R.take i).map neg) R = spiritlevelref13_Sorted (R.map neg)
  | 0, i, hi => by
    rw [spiritlevelref17_Learned.l0_eq, cd, if_neg (by omega), List.take_of_length_le (by omega)]
    cases spiritlevelref13_Sorted (R.map neg) <;> rfl
  | n + 1, i, hi => by
    have hlt : i < R.length := by omega
    have hx := hl _ (List.getElem_mem hlt)
    have hw : IntKind.wrap .i64 ((i : Int) + 1) = ((i + 1 : Nat) : Int) := by rw [wr] <;> omega
    rw [← ref17_Learned.loop hv hl hn n (i + 1) (by omega), spiritlevelref17_Learned.l0_eq (i7 := (i : Int)), cd, if_pos (by omega), gsome hlt, Option.bind_some, Int.toNat_natCast, List.getElem?_eq_getElem hlt, Option.bind_some, ref13_Not_eq (by have := lit64 hv hx; unfold in64 at this; omega), Option.bind_some,
      app_ok (by simp; omega), Option.bind_some, hw, List.take_add_one, List.getElem?_eq_getElem hlt, Option.toList_some, List.map_append, List.map_singleton]

theorem ref17_Learned_eq {v : Int} {L : List (List Int)} {D : List Int} (hD : okA v D []) (hL : okL v L) (hn : L.length ≤ 20000) : spiritlevelref17_Learned L D = some (lrnC v L D) := by
  have hv := hD.vars
  have hs := hD.short
  have h1 := ref17_Stay.loop hD hL hn D.length 0 [] (by omega) (List.nil_sublist _)
  rw [show ((0 : Nat) : Int) = 0 from rfl, List.drop_zero, List.nil_append] at h1
  have hsub := shr_sub (v := v) (L := L) D D
  have hR := okA_sub hD hsub
  have hlen := hsub.length_le
  have h2 := ref17_Learned.loop hv hR.lits (by omega) (shr v L D D).length 0 (by omega)
  rw [show ((0 : Nat) : Int) = 0 from rfl, List.take_zero, List.map_nil] at h2
  obtain ⟨S, e1, e2, e3, _⟩ := ref13_Sorted_ok (l := (shr v L D D).map neg) (by rw [List.length_map]; omega)
  rw [spiritlevelref17_Learned.eq, spiritlevelref17_Stay.eq, h1, Option.bind_some, h2, e1]
  refine congrArg some (lrn_is rfl ?_ e2 e3).symm
  rw [List.Nodup, List.pairwise_map]
  refine hR.dis.imp fun {a b} h e => h ?_
  have := congrArg (· / 2) e
  simpa only [neg_div] using this

/-! ### What stays decided -/

theorem decs_get {t s : List Int} {i : Nat} (hi : i < (decs t s).length) : (decs t s)[i] = dc t s i := by simp [decs]
theorem decs_len {t s : List Int} : (decs t s).length = s.length := by simp [decs]

theorem ref19_Kept.loop {v : Int} {t s : List Int} (h : okA v t s) {c : List Int} {J : List Nat} (hJ : J.Pairwise (· < ·)) (hb : ∀ k ∈ J, k < s.length) (hm : ∀ y, y ∈ c ↔ y ∈ J.map (dl t s)) (hc : c.length ≤ 4000) :
    ∀ (n i : Nat) (J1 J2 : List Nat), i + n = s.length → J = J1 ++ J2 → (∀ k ∈ J1, k < i) → (∀ k ∈ J2, i ≤ k) → spiritlevelref19_Kept.l0 (decs t s) c (top J1) (top J1.dropLast) (i : Int) = some (top J.dropLast)
  | 0, i, J1, J2, hi, hj, h1, h2 => by
    have : J2 = [] := by
      rcases List.eq_nil_or_concat J2 with e | ⟨q, k, e⟩
      · exact e
      · have e1 := h2 k (by rw [e]; simp)
        have e2 := hb k (by rw [hj, e]; simp)
        omega
    subst this
    rw [List.append_nil] at hj
    subst hj
    rw [spiritlevelref19_Kept.l0_eq, cd, if_neg (by rw [decs_len]; omega)]
  | n + 1, i, J1, J2, hi, hj, h1, h2 => by
    have hlt : i < s.length := by omega
    have hlt' : i < (decs t s).length := by rw [decs_len]; exact hlt
    have hv := h.vars
    have hsh := h.short
    have hw : IntKind.wrap .i64 ((i : Int) + 1) = ((i + 1 : Nat) : Int) := by rw [wr] <;> omega
    have hD := (okA_decs h).lits _ (List.getElem_mem hlt')
    have hiff : dl t s i ∈ c ↔ i ∈ J2 := by
      rw [hm, List.mem_map]
      constructor
      · rintro ⟨k, hk, e⟩
        have : k = i := dl_inj h (hb k hk) hlt (by rw [e])
        subst this
        rw [hj] at hk
        rcases List.mem_append.1 hk with q | q
        · have := h1 _ q; omega
        · exact q
      · exact fun q => ⟨i, by rw [hj]; exact List.mem_append_right _ q, rfl⟩
    rw [spiritlevelref19_Kept.l0_eq, cd, if_pos (by omega), gsome hlt', Option.bind_some, ref13_Not_eq (by have := lit64 hv hD; unfold in64 at this; omega), Option.bind_some, ref13_Has_eq (by omega), Option.bind_some, decs_get, neg_dc, cd, hw]
    by_cases hmem : dl t s i ∈ c
    · rw [if_pos hmem]
      have hi2 := hiff.1 hmem
      obtain ⟨J3, rfl⟩ : ∃ J3, J2 = i :: J3 := by
        cases J2 with
        | nil => cases hi2
        | cons a J3 =>
          refine ⟨J3, ?_⟩
          have ha := h2 a (by simp)
          rcases List.mem_cons.1 hi2 with e | e
          · rw [e]
          · have hp : (a :: J3).Pairwise (· < ·) := hJ.sublist (by rw [hj]; exact List.sublist_append_right _ _)
            have := (List.pairwise_cons.1 hp).1 i e
            omega
      have hp : (i :: J3).Pairwise (· < ·) := hJ.sublist (by rw [hj]; exact List.sublist_append_right _ _)
      have := ref19_Kept.loop h hJ hb hm hc n (i + 1) (J1 ++ [i]) J3 (by omega) (by rw [hj, List.append_assoc]; rfl) (fun k hk => by
        rcases List.mem_append.1 hk with q | q
        · have := h1 k q; omega
        · rw [List.mem_singleton] at q; omega) (fun k hk => (List.pairwise_cons.1 hp).1 k hk)
      rw [top_app, List.dropLast_concat] at this
      rw [← this]; rfl
    · rw [if_neg hmem]
      refine ref19_Kept.loop h hJ hb hm hc n (i + 1) J1 J2 (by omega) hj (fun k hk => by have := h1 k hk; omega) fun k hk => ?_
      have := h2 k hk
      rcases Nat.lt_or_ge i k with q | q
      · exact q
      · have : k = i := by omega
        subst this
        exact absurd (hiff.2 hk) hmem

theorem decs_take {v : Int} {p s : List Int} (h : okA v p s) {T : Nat} (hT : T < s.length) (g : Int) : decs (p.take (keep p s T) ++ [g]) (s.take T) = (decs p s).take T := by
  refine List.ext_getElem (by rw [decs_len, List.length_take, List.length_take, decs_len]) fun j h1 h2 => ?_
  rw [decs_len, List.length_take] at h1
  rw [decs_get, List.getElem_take, decs_get]
  have hkb := keep_bnd h hT
  exact same_dc h (by omega) (by rw [List.length_take]; omega) (List.getElem_take) (by rw [List.take_append_of_le_length (by rw [List.length_take]; omega), List.take_take, Nat.min_self]) (keep_inc h (show j < T by omega) hT)

/-- What is kept of decisions, and what going back leaves. -/
theorem kept_back {v : Int} {p s : List Int} {L : List (List Int)} (h : okA v p s) (hne : lrnC v L (decs p s) ≠ []) : ∃ T : Nat, T < s.length ∧ spiritlevelref19_Kept (decs p s) (lrnC v L (decs p s)) = some (T : Int) ∧
    ∀ t' s', jbackC v p s (lrnC v L (decs p s)) = ((v, (t', s')), 0) → decs t' s' = (decs p s).take T := by
  obtain ⟨J, j1, j2, hS, hlen, hm⟩ := lrn_some (L := L) h
  obtain ⟨F, d1, d2⟩ := dec_back h j1 j2 hS hm
  have hJ : J ≠ [] := fun e => hne (d1 e)
  obtain ⟨q1, q2, q3⟩ := d2 hJ
  have hv := h.vars
  have hsh := h.short
  have h0 : givC p s (lrnC v L (decs p s)) ≠ 0 := fun e => by
    obtain ⟨J', j, rfl⟩ : ∃ J' j, J = J' ++ [j] := by
      rcases List.eq_nil_or_concat J with h' | ⟨J', j, h'⟩
      · exact absurd h' hJ
      · exact ⟨J', j, by rw [h', List.concat_eq_append]⟩
    rw [lastD_app, e] at q3
    have := (dl_lit h (j2 j (by simp))).1
    omega
  have hlt : (toC p s (lrnC v L (decs p s)) : Int) < lvl p s (givC p s (lrnC v L (decs p s))) := by
    rcases F.spec with ⟨q, _⟩ | ⟨_, q, _⟩
    · exact absurd q h0
    · exact q
  have hT : toC p s (lrnC v L (decs p s)) < s.length := by have := (lvl_range (t := p) (s := s) (l := givC p s (lrnC v L (decs p s)))).2; omega
  refine ⟨_, hT, ?_, fun t' s' e => ?_⟩
  · have := ref19_Kept.loop h j1 j2 hm (by omega) s.length 0 [] J (by omega) rfl (by simp) (by simp)
    rw [spiritlevelref19_Kept.eq, q2]
    exact this
  · rw [F.jb h0, Prod.mk.injEq, Prod.mk.injEq, Prod.mk.injEq] at e
    obtain ⟨⟨_, rfl, rfl⟩, _⟩ := e
    exact decs_take h hT _

theorem decs_more {v : Int} {p s : List Int} (h : okA v p s) (x : Int) : decs (p ++ [x]) (s ++ [(p.length : Int)]) = decs p s ++ [x] := by
  refine List.ext_getElem (by rw [decs_len, List.length_append, List.length_append, decs_len]; rfl) fun j h1 h2 => ?_
  rw [decs_len, List.length_append, List.length_singleton] at h1
  rw [decs_get]
  rcases Nat.lt_or_ge j s.length with hlt | hge
  · rw [List.getElem_append_left (by rw [decs_len]; exact hlt), decs_get]
    exact same_dc h hlt (by simp; omega) (List.getElem_append_left hlt) (by simp) (keep_bnd h hlt)
  · have : j = s.length := by omega
    subst this
    rw [List.getElem_append_right (by rw [decs_len]; omega)]
    have hk : keep (p ++ [x]) (s ++ [(p.length : Int)]) s.length = p.length := by rw [keep_lt (by simp)]; simp
    rw [dc_keep (by simp), hk]
    simp

/-! ### A free variable; what is found -/

section
variable {v : Int} {T o : List Int}

theorem none_iff {x : Int} : isS T (2 * x) = 2 ↔ 2 * x ∉ T ∧ 2 * x + 1 ∉ T := by
  rw [isS_none]
  constructor
  · exact fun h => ⟨fun hm => h _ hm rfl, fun hm => h _ hm (by omega)⟩
  · rintro ⟨h1, h2⟩ a ha e
    have : a = 2 * x ∨ a = 2 * x + 1 := by omega
    rcases this with rfl | rfl
    · exact h1 ha
    · exact h2 ha

theorem ref19_Free.loop (hv : okV v) (ho : o.length ≤ 140737488351232) (hm : ∀ l, l ∈ o ↔ l ∈ T) : ∀ (n k : Nat), (k : Int) + n = v → (∀ y : Int, 1 ≤ y → y ≤ k → isS T (2 * y) ≠ 2) →
    spiritlevelref19_Free.l0 v o ((k + 1 : Nat) : Int) = some (lf v T)
  | 0, k, hk, hb => by
    rw [spiritlevelref19_Free.l0_eq, cd, if_neg (by omega)]
    rcases lf_spec (v := v) hv.1 T with ⟨e, _⟩ | ⟨e1, e2, e3, _⟩
    · rw [e]
    · exact absurd e3 (hb _ e1 (by omega))
  | n + 1, k, hk, hb => by
    have hv' := hv
    obtain ⟨v1, v2⟩ := hv'
    have ih := ref19_Free.loop hv ho hm n (k + 1) (by omega)
    have w1 : IntKind.wrap .i64 (2 * ((k + 1 : Nat) : Int)) = 2 * ((k + 1 : Nat) : Int) := by rw [wr] <;> omega
    have w2 : IntKind.wrap .i64 (2 * ((k + 1 : Nat) : Int) + 1) = 2 * ((k + 1 : Nat) : Int) + 1 := by rw [wr] <;> omega
    have w3 : IntKind.wrap .i64 (((k + 1 : Nat) : Int) + 1) = ((k + 1 + 1 : Nat) : Int) := by rw [wr] <;> omega
    have next : isS T (2 * ((k + 1 : Nat) : Int)) ≠ 2 → spiritlevelref19_Free.l0 v o ((k + 1 + 1 : Nat) : Int) = some (lf v T) := fun hx => ih fun y y1 y2 => by
      rcases Int.lt_or_le (k : Int) y with q | q
      · have : y = ((k + 1 : Nat) : Int) := by omega
        rw [this]; exact hx
      · exact hb y y1 q
    rw [spiritlevelref19_Free.l0_eq, cd, if_pos (by omega), w1, w2, w3, ref13_Has_eq ho, Option.bind_some, cnot, cd]
    by_cases h1 : 2 * ((k + 1 : Nat) : Int) ∈ o
    · rw [if_pos h1]
      exact next fun e => (none_iff.1 e).1 ((hm _).1 h1)
    · rw [if_neg h1, ref13_Has_eq ho, Option.bind_some, cnot, cd]
      by_cases h2 : 2 * ((k + 1 : Nat) : Int) + 1 ∈ o
      · rw [if_pos h2]
        exact next fun e => (none_iff.1 e).2 ((hm _).1 h2)
      · rw [if_neg h2]
        have hx : isS T (2 * ((k + 1 : Nat) : Int)) = 2 := none_iff.2 ⟨fun q => h1 ((hm _).2 q), fun q => h2 ((hm _).2 q)⟩
        rcases lf_spec (v := v) hv.1 T with ⟨_, e⟩ | ⟨e1, e2, e3, e4⟩
        · exact absurd hx (e _ (by omega) (by omega))
        · rcases Int.lt_or_le (k : Int) (lf v T) with q | q
          · rcases Int.lt_or_le ((k + 1 : Nat) : Int) (lf v T) with q2 | q2
            · exact absurd hx (e4 _ (by omega) q2)
            · congr 1; omega
          · exact absurd e3 (hb _ e1 q)

theorem ref19_Free_eq (hv : okV v) (ho : o.length ≤ 140737488351232) (hm : ∀ l, l ∈ o ↔ l ∈ T) : spiritlevelref19_Free v o = some (lf v T) := by
  rw [spiritlevelref19_Free.eq]
  exact ref19_Free.loop hv ho hm v.toNat 0 (by have := hv.1; omega) (fun y y1 y2 => by omega)

theorem set_next {α : Type} {M : List α} {f x : α} {N i : Nat} (hN : M.length = N) (hi : i < N) (hx : M[i]? = some x) : (M.take i ++ List.replicate (N - i) f).set i x = M.take (i + 1) ++ List.replicate (N - (i + 1)) f := by
  have h1 : (M.take i).length = i := by rw [List.length_take]; omega
  rw [List.set_append_right _ _ (by omega), h1, Nat.sub_self, show N - i = N - (i + 1) + 1 by omega, List.replicate_succ, List.set_cons_zero, List.take_add_one, hx, List.append_assoc]
  rfl

theorem ref19_Found.loop (hv : okV v) (ho : o.length ≤ 140737488351232) (hm : ∀ l, l ∈ o ↔ l ∈ T) : ∀ (n k : Nat), k + n = v.toNat →
    spiritlevelref19_Found.l0 v o ((k + 1 : Nat) : Int) ((mdl v T).take k ++ List.replicate (v.toNat - k) false) = some (mdl v T)
  | 0, k, hk => by
    have hv' := hv
    obtain ⟨v1, v2⟩ := hv'
    rw [spiritlevelref19_Found.l0_eq, cd, if_neg (by omega), List.take_of_length_le (by rw [mdl_len]; omega), show v.toNat - k = 0 by omega, List.replicate_zero, List.append_nil]
  | n + 1, k, hk => by
    have hv' := hv
    obtain ⟨v1, v2⟩ := hv'
    have ih := ref19_Found.loop hv ho hm n (k + 1) (by omega)
    have hl : k < ((mdl v T).take k ++ List.replicate (v.toNat - k) false).length := by simp [mdl_len]; omega
    have w1 : IntKind.wrap .i64 (2 * ((k + 1 : Nat) : Int)) = 2 * ((k : Int) + 1) := by rw [wr] <;> omega
    have w2 : IntKind.wrap .i64 (((k + 1 : Nat) : Int) - 1) = (k : Int) := by rw [wr] <;> omega
    have w3 : IntKind.wrap .i64 (((k + 1 : Nat) : Int) + 1) = ((k + 1 + 1 : Nat) : Int) := by rw [wr] <;> omega
    have hg : (mdl v T)[k]? = some (decide (2 * ((k : Int) + 1) ∈ o)) := by
      have := mdl_get (v := v) (T := T) (i := k) (by omega)
      rw [List.getD_eq_getElem?_getD, List.getElem?_eq_getElem (by rw [mdl_len]; omega), Option.getD_some] at this
      rw [List.getElem?_eq_getElem (by rw [mdl_len]; omega), this, decide_eq_decide.2 (hm _)]
    rw [spiritlevelref19_Found.l0_eq, cd, if_pos (by omega), w1, w2, w3, ref13_Has_eq ho, Option.bind_some, gsome hl, Option.bind_some, Int.toNat_natCast, List.getElem?_eq_getElem hl, Option.bind_some, set_next (mdl_len) (by omega) hg]
    exact ih

theorem ref19_Found_eq (hv : okV v) (ho : o.length ≤ 140737488351232) (hm : ∀ l, l ∈ o ↔ l ∈ T) : spiritlevelref19_Found v o = some (mdl v T) := by
  have hv' := hv
  obtain ⟨v1, v2⟩ := hv'
  have := ref19_Found.loop hv ho hm v.toNat 0 (by omega)
  rw [spiritlevelref19_Found.eq, mkl_ok v1 (by omega), Option.bind_some, if_pos rfl]
  exact this

end

/-! ### The search -/

def ansT (v b : Int) (r : Bool × List Int × List (List Int) × Nat) : Ansr × Bool := if (r.2.2.2 : Int) ≤ b then (ansR v r, true) else (ans0, false)

theorem take_cut {D : List Int} {T : Nat} : subOf D 0 T = D.take T := by unfold subOf; rw [List.drop_zero]

theorem ref19_Solved.loop {v b : Int} {L0 : List (List Int)} {b0 : Bool} {b1 : Int} {o4 : List Bool} {o5 : List Int} {o6 : List (List Int)} (hb1 : b ≤ 100000) (hlim : L0.length + 2 ^ v.toNat ≤ 20000) : ∀ (n : Nat) {t s : List Int} {log : List (List Int)}, Inv v L0 t s log → meas v t s < n → (log.length : Int) ≤ b →
    spiritlevelref19_Solved.l0 v b b0 b1 (L0 ++ log) false (log.length : Int) (decs t s) o4 o5 o6 [] [] log = some (ansT v b (sol v n (L0 ++ log) t s log))
  | 0, t, s, log, h, hn, hb => by omega
  | n + 1, t, s, log, h, hn, hb => by
    have hv := h.a.vars
    have hsh := h.a.short
    have hP := h.prop.1
    have htop : log.length + 1 ≤ 2 ^ v.toNat := by have := h.mes; have := mes_top h.a; omega
    have hll : (L0 ++ log).length < 20000 := by rw [List.length_append]; omega
    obtain ⟨_, u, hu⟩ := propC_okA h.ok (v + 1).toNat h.a
    have hdp : decs (propC (L0 ++ log) (v + 1).toNat t).1 s = decs t s := decs_prop h.a hu
    obtain ⟨o', i1, i2, i3⟩ := ref17_Implied_eq h.ok (by omega) (okA_decs h.a)
    have hol := i2.short
    rw [spiritlevelref19_Solved.l0_eq, i1, Option.bind_some]
    dsimp only
    unfold sol
    by_cases hat : 0 ≤ (propC (L0 ++ log) (v + 1).toNat t).2
    · rw [if_pos hat]
      obtain ⟨f1, f2, f3⟩ := h.fail hat rfl
      have hcf := h.conf hat
      have hk := fun hne => kept_back (L := L0 ++ log) hP.a hne
      rw [hdp] at hcf f1 f2 f3 hk ⊢
      rw [hcf, cnot, ct, ref17_Learned_eq (okA_decs h.a) h.ok (by omega), Option.bind_some, cd, if_neg (by omega), app_ok (by rw [List.length_append] at hll; simp; omega), Option.bind_some, app_ok (by simp at hll ⊢; omega), Option.bind_some, ce]
      by_cases hc : lrnC v (L0 ++ log) (decs t s) = []
      · rw [if_pos hc, if_pos (by rw [hc]; rfl), hc]
        unfold ansT ansR
        rw [if_pos hb]
        rfl
      · obtain ⟨t', s', e1, e2, e3⟩ := f3 hc
        obtain ⟨T, k1, k2, k3⟩ := hk hc
        have hw : IntKind.wrap .i64 ((log.length : Int) + 1) = (log.length : Int) + 1 := by rw [wr] <;> omega
        rw [if_neg hc, if_neg (by intro q; exact hc (List.eq_nil_of_length_eq_zero (by omega))), hw, cd, e1]
        dsimp only
        by_cases hov : (log.length : Int) + 1 > b
        · rw [if_pos hov]
          unfold ansT
          have := sol_conf (v := v) n (L0 ++ log ++ [lrnC v (L0 ++ log) (decs t s)]) t' s' (log ++ [lrnC v (L0 ++ log) (decs t s)])
          rw [List.length_append (bs := [_]), List.length_singleton] at this
          rw [if_neg (by omega)]
          rfl
        · have hch : (decide ((0 : Int) ≤ 0) && decide ((0 : Int) ≤ (T : Int)) && decide ((T : Int) ≤ ((decs t s).length : Int))) = true := by
            rw [Bool.and_eq_true, Bool.and_eq_true, decide_eq_true_eq, decide_eq_true_eq, decide_eq_true_eq, decs_len]; omega
          rw [if_neg hov, k2, Option.bind_some, hch, show chk true = some () from rfl, Option.bind_some, Int.sub_zero, Int.toNat_natCast, take_cut, ← k3 t' s' e1]
          have := ref19_Solved.loop (b := b) (b0 := b0) (b1 := b1) (o4 := o4) (o5 := o5) (o6 := o6) hb1 hlim n e2 (by omega) (by rw [List.length_append, List.length_singleton]; omega)
          rw [← List.append_assoc, List.length_append (bs := [_]), List.length_singleton, Int.natCast_add] at this
          exact this
    · rw [if_neg hat]
      have hno := h.noconf (by omega)
      obtain ⟨c1, c2, c3⟩ := i3 hno
      have hm := h.implied (by omega) i2 c1 c2 c3
      rw [hno, cnot, cf, ref19_Free_eq hv (by omega) hm, Option.bind_some, ce]
      by_cases hl : lf v (propC (L0 ++ log) (v + 1).toNat t).1 = 0
      · rw [if_pos hl, if_pos hl, ref19_Found_eq hv (by omega) hm, Option.bind_some]
        unfold ansT ansR
        rw [if_pos hb]
        rfl
      · obtain ⟨e1, e2⟩ := h.choose hl
        have hls := (lf_spec (v := v) hv.1 (propC (L0 ++ log) (v + 1).toNat t).1).resolve_left fun q => hl q.1
        have w1 : IntKind.wrap .i64 (IntKind.wrap .i64 (2 * lf v (propC (L0 ++ log) (v + 1).toNat t).1) + 1) = 2 * lf v (propC (L0 ++ log) (v + 1).toNat t).1 + 1 := by
          have q1 := hls.1; have q2 := hls.2.1; have q3 := hv.2
          rw [wr (x := 2 * _) (by omega) (by omega), wr (by omega) (by omega)]
        rw [if_neg hl, if_neg hl, w1, app_ok (by rw [decs_len]; simp; have := hv.2; omega), Option.bind_some]
        have := ref19_Solved.loop (b := b) (b0 := b0) (b1 := b1) (o4 := o4) (o5 := o5) (o6 := o6) hb1 hlim n e1 (by omega) hb
        rw [decs_more hP.a, hdp] at this
        exact this

theorem ref19_Solved_eq {v b : Int} (hv : okV v) (hb : 0 ≤ b ∧ b ≤ 100000) {L : List (List Int)} (hL : okL v L) (hlim : L.length + 2 ^ v.toNat ≤ 20000) : spiritlevelref19_Solved v L b = some (ansT v b (solR v L)) := by
  have g1 := ref19_Solved.loop (b := b) (b0 := false) (b1 := 0) (o4 := []) (o5 := []) (o6 := []) hb.2 hlim (meas v [] [] + 1) (inv0 hv hL) (Nat.lt_succ_self _) (by simpa using hb.1)
  rw [List.append_nil] at g1
  rw [spiritlevelref19_Solved.eq, app_nil (by have : L.length ≤ 20000 := Nat.le_trans (Nat.le_add_right _ _) hlim; omega), Option.bind_some]
  exact g1

/-! ### The whole -/

section
variable {v b : Int} {L : List (List Int)}

theorem ref13_Twin.loop (hn : L.length ≤ 100) (hr : ∀ c ∈ L, c.length ≤ 100) : ∀ (n i : Nat), i + n = L.length → spiritlevelref13_Twin.l0 L (i : Int) (L.take i) = some L
  | 0, i, hi => by rw [spiritlevelref13_Twin.l0_eq, cd, if_neg (by omega), List.take_of_length_le (by omega)]
  | n + 1, i, hi => by
    have hlt : i < L.length := by omega
    have hw : IntKind.wrap .i64 ((i : Int) + 1) = ((i + 1 : Nat) : Int) := by rw [wr] <;> omega
    have hc := hr _ (List.getElem_mem hlt)
    have := ref13_Twin.loop hn hr n (i + 1) (by omega)
    rw [List.take_add_one, List.getElem?_eq_getElem hlt] at this
    rw [spiritlevelref13_Twin.l0_eq, cd, if_pos (by omega), gsome hlt, Option.bind_some, app_nil (by omega), Option.bind_some, app_ok (by simp; omega), Option.bind_some, hw]
    exact this

theorem ref19_Asked_eq (hn : L.length ≤ 100) (hr : ∀ c ∈ L, c.length ≤ 100) : spiritlevelref19_Asked v L = some (if okV v then (if okL v L then 0 else 8) else 2) := by
  rw [spiritlevelref19_Asked.eq, ref13_Vars_eq, Option.bind_some, cnot, cd]
  by_cases hv : okV v
  · rw [if_pos hv, if_pos hv, ref15_Wrong_eq hv (by omega) (fun c hc => by have := hr c hc; omega), Option.bind_some, if_neg (by omega)]
  · rw [if_neg hv, if_neg hv]

theorem AnsS.zero : AnsS ans0 where
  m := by simp [ans0]
  co := by simp [ans0]
  log := by simp [ans0]
  cl := by simp [ans0]

theorem tells_run (hn : L.length ≤ 40) (hr : ∀ c ∈ L, c.length ≤ 10 ∧ ∀ x ∈ c, in64 x) (h12 : v ≤ 12 ∨ v = 4001) : ∃ A : Ans, solve_Run v L b = some A ∧ spiritlevelref19_Run v L b = some A ∧ AnsS A.1 := by
  rw [spiritlevelref19_Run.eq, cd, cd]
  by_cases hb : b < 0
  · rw [if_pos hb]
    exact ⟨_, run_arg (by omega), rfl, AnsS.zero⟩
  rw [if_neg hb]
  by_cases hb2 : b > 100000
  · rw [if_pos hb2]
    exact ⟨_, run_arg (by omega), rfl, AnsS.zero⟩
  rw [if_neg hb2, ref19_Asked_eq (by omega) (fun c hc => by have := (hr c hc).1; omega), Option.bind_some, cn]
  by_cases hv : okV v
  · rw [if_pos hv]
    have hv' := hv
    obtain ⟨v1, v2⟩ := hv'
    by_cases hL : okL v L
    · have hp := small_pow hv.1 (show v ≤ 12 by omega)
      rw [if_pos hL, if_pos rfl, ref19_Solved_eq hv ⟨by omega, by omega⟩ hL (by omega), Option.bind_some, solve_Run_eq hv ⟨by omega, by omega⟩ hL (by omega)]
      refine ⟨_, rfl, ?_, ?_⟩
      · unfold ansT ansC
        split <;> rfl
      · unfold ansC
        split
        · exact (solR_ok hv hL).small hv hp
        · exact AnsS.zero
    · rw [if_neg hL, if_neg (by omega)]
      exact ⟨_, run_bad hv ⟨by omega, by omega⟩ (check_bad hv (by omega) (fun c hc => ⟨by have := (hr c hc).1; omega, (hr c hc).2⟩) hL) (by omega), rfl, AnsS.zero⟩
  · rw [if_neg hv, if_neg (by omega)]
    exact ⟨_, run_arg (by unfold okV at hv; omega), rfl, AnsS.zero⟩

theorem ref19_Fits.loop3 {W : List Bool} (hv : okV v) (hL : okL v L) (hn : L.length ≤ 100) (hW : (W.length : Int) = v) : ∀ (n i : Nat), i + n = L.length → spiritlevelref19_Fits.l0 L W (i : Int) = some ((L.drop i).all (fun c => c.any (truth W)))
  | 0, i, hi => by rw [spiritlevelref19_Fits.l0_eq, cd, if_neg (by omega), List.drop_of_length_le (by omega)]; rfl
  | n + 1, i, hi => by
    have hlt : i < L.length := by omega
    have hw : IntKind.wrap .i64 ((i : Int) + 1) = ((i + 1 : Nat) : Int) := by rw [wr] <;> omega
    have hc := hL _ (List.getElem_mem hlt)
    rw [spiritlevelref19_Fits.l0_eq, cd, if_pos (by omega), gsome hlt, Option.bind_some, ref13_Holds_eq hv hW hc.1 (by have := hc.len hv; omega), Option.bind_some, drop_cons hlt, List.all_cons, hw, ref19_Fits.loop3 hv hL hn hW n (i + 1) (by omega)]
    cases (L[i]).any (truth W) <;> rfl

theorem tells_model {W : List Bool} (hn : L.length ≤ 40) (hr : ∀ c ∈ L, c.length ≤ 10 ∧ ∀ x ∈ c, in64 x) : ∃ M : Bool × Int, solve_Model v L W = some M ∧ spiritlevelref19_Model v L W = some M := by
  rw [spiritlevelref19_Model.eq, cn]
  by_cases hW : (W.length : Int) = v
  · rw [if_pos hW, ref19_Asked_eq (by omega) (fun c hc => by have := (hr c hc).1; omega), Option.bind_some, cn]
    by_cases hv : okV v
    · rw [if_pos hv]
      by_cases hL : okL v L
      · have g := ref19_Fits.loop3 hv hL (by omega) hW L.length 0 (by omega)
        rw [show ((0 : Nat) : Int) = 0 from rfl, List.drop_zero] at g
        rw [if_pos hL, if_pos rfl, spiritlevelref19_Fits.eq, g]
        exact ⟨_, model_eq hv (by omega) hL hW rfl, rfl⟩
      · rw [if_neg hL, if_neg (by omega)]
        exact ⟨_, model_bad hv hW (check_bad hv (by omega) (fun c hc => ⟨by have := (hr c hc).1; omega, (hr c hc).2⟩) hL) (by omega), rfl⟩
    · rw [if_neg hv, if_neg (by omega)]
      refine ⟨_, ?_, rfl⟩
      unfold okV at hv
      rw [solve_Model.eq, cd]
      by_cases h0 : v < 0
      · rw [if_pos h0]
      · rw [if_neg h0, cd, if_pos (by omega)]
  · rw [if_neg hW]
    refine ⟨_, ?_, rfl⟩
    rw [solve_Model.eq, cd]
    by_cases h0 : v < 0
    · rw [if_pos h0]
    · rw [if_neg h0, cd]
      by_cases h1 : v > 4000
      · rw [if_pos h1]
      · rw [if_neg h1, cn, if_neg hW]

end

theorem SolveTells_pure (v : Int) (L : List (List Int)) (b : Int) (W : List Bool) (hv : okD (.int .i64) v) (hL : okD TLL L) (hb : okD (.int .i64) b) (hW : okD (.list .bool) W) : spiritlevellaw19_SolveTells v L b W = some true := by
  obtain ⟨l1, l2⟩ := okTLL hL
  obtain ⟨g, h1, h2⟩ := ref19_Great.loop (v := v) l1 L.length 0 (by omega) (by simp)
  have h1' : spiritlevelref19_Great v L = some g := by rw [spiritlevelref19_Great.eq]; exact h1
  rw [spiritlevellaw19_SolveTells.eq, h1', Option.bind_some]
  cases g with
  | true => rfl
  | false =>
    obtain ⟨g1, g2, g3⟩ := h2 rfl
    have hr : ∀ c ∈ L, c.length ≤ 10 ∧ ∀ x ∈ c, in64 x := fun c hc => ⟨g2 c hc, (l2 c hc).2⟩
    have ht := ref13_Twin.loop (L := L) (by omega) (fun c hc => by have := g2 c hc; omega) L.length 0 (by omega)
    rw [show ((0 : Nat) : Int) = 0 from rfl, List.take_zero] at ht
    obtain ⟨A, a1, a2, a3⟩ := tells_run (b := b) g1 hr g3
    obtain ⟨M, m1, m2⟩ := tells_model (v := v) (W := W) g1 hr
    have hs := ref19_Same_eq (b := A.1) a3
    have hsa := ref13_SameAll_eq (a := L) (b := L) (by omega) (fun c hc => by have := g2 c hc; omega)
    simp only [spiritlevelref13_Twin.eq, ht, a1, a2, m1, m2, Option.bind_some, hs, hsa, decide_true, cond_true, cond_false, beq_self_eq_true, cd, ite_self]

end Go.Proofs.YthbkhndapkbgbaaGreat
