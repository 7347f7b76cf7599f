/- TseitinSmall, of plain values. -/
import Derived.Test.YtcgbilghglbgaaaPC9G
namespace Go.Proofs.Ytcgbilghglbgaaa
open Go Go.Proofs.Ytcgbilghglbgaaa.R
set_option linter.unusedVariables false

section
variable {I : Int} {Ls As : List (Int × Int)} {Bs Cs : List Int} {f n N : Nat} {lits : List Int}

def markL (M : List Bool) : List Int → List Bool
  | [] => M
  | x :: r => markL (setB M x) r

theorem markL_len : ∀ {ls : List Int} {M : List Bool}, (markL M ls).length = M.length
  | [], M => rfl
  | l :: r, M => by rw [markL, markL_len, setB_len]

theorem markL_get {j : Nat} : ∀ {ls : List Int} {M : List Bool}, M.length = N → (∀ l ∈ ls, l.toNat < N) → ((markL M ls).getD j false = true ↔ M.getD j false = true ∨ ∃ l ∈ ls, j = l.toNat)
  | [], M, _, _ => by simp [markL]
  | l :: r, M, hM, h => by
    rw [markL, markL_get (by rw [setB_len]; exact hM) (fun x hx => h x (List.mem_cons_of_mem _ hx)), setB_get (by rw [hM]; exact h l (List.mem_cons_self ..)), Bool.or_eq_true, decide_eq_true_eq]
    constructor
    · rintro ((rfl | q) | ⟨x, hx, e⟩)
      · exact .inr ⟨l, List.mem_cons_self .., rfl⟩
      · exact .inl q
      · exact .inr ⟨x, List.mem_cons_of_mem _ hx, e⟩
    · rintro (q | ⟨x, hx, e⟩)
      · exact .inl (.inr q)
      · rcases List.mem_cons.1 hx with rfl | hx
        · exact .inl (.inl e)
        · exact .inr ⟨x, hx, e⟩

def marksL (I : Int) (Ls As : List (Int × Int)) (M : List Bool) : List Int → List Bool
  | [] => M
  | l :: r => marksL I Ls As (markL M (sortI (coneL I Ls.length As l))) r

theorem marksL_len : ∀ {ls : List Int} {M : List Bool}, (marksL I Ls As M ls).length = M.length
  | [], M => rfl
  | l :: r, M => by rw [marksL, marksL_len, markL_len]

theorem sort_mem {l : List Int} {x : Int} : x ∈ sortI l ↔ x ∈ l := (sortI_spec l).1.mem_iff

theorem cone_in (hc : checkG I Ls As Bs Cs = 0) {l : Int} (hl : litN (size I Ls As) l) {x : Int} (hx : x ∈ coneL I Ls.length As l) : 1 ≤ x ∧ x < (((size I Ls As).toNat + 1 : Nat) : Int) := by
  obtain ⟨V, v1, v2, _⟩ := coneL_spec hc hl
  obtain ⟨a, b⟩ := (v1 x).1 hx
  refine ⟨a, ?_⟩
  by_cases h : x.toNat < V.length
  · omega
  · rw [List.getD_eq_getElem?_getD, List.getElem?_eq_none (by omega)] at b
    cases b

theorem marksL_get {j : Nat} (hc : checkG I Ls As Bs Cs = 0) : ∀ {ls : List Int} {M : List Bool}, M.length = (size I Ls As).toNat + 1 → (∀ l ∈ ls, litN (size I Ls As) l) → ((marksL I Ls As M ls).getD j false = true ↔ M.getD j false = true ∨ ∃ l ∈ ls, 1 ≤ j ∧ (j : Int) ∈ coneL I Ls.length As l)
  | [], M, _, _ => by simp [marksL]
  | l :: r, M, hM, h => by
    have hin := fun x (hx : x ∈ sortI (coneL I Ls.length As l)) => cone_in hc (h l (List.mem_cons_self ..)) (sort_mem.1 hx)
    rw [marksL, marksL_get hc (by rw [markL_len]; exact hM) (fun x hx => h x (List.mem_cons_of_mem _ hx)), markL_get hM (fun x hx => by have := hin x hx; omega)]
    constructor
    · rintro ((q | ⟨x, hx, e⟩) | ⟨x, hx, e⟩)
      · exact .inl q
      · have := hin x hx
        exact .inr ⟨l, List.mem_cons_self .., by omega, by rw [show (j : Int) = x by omega]; exact sort_mem.1 hx⟩
      · exact .inr ⟨x, List.mem_cons_of_mem _ hx, e⟩
    · rintro (q | ⟨x, hx, e, e2⟩)
      · exact .inl (.inl q)
      · rcases List.mem_cons.1 hx with rfl | hx
        · exact .inl (.inr ⟨(j : Int), sort_mem.2 e2, by omega⟩)
        · exact .inr ⟨x, hx, e, e2⟩

theorem coneL_small (hc : checkG I Ls As Bs Cs = 0) {l : Int} (hl : litN (size I Ls As) l) : (coneL I Ls.length As l).length ≤ 1001 := by
  obtain ⟨V, _, v2, _, _, _, v6⟩ := coneL_spec hc hl
  obtain ⟨k1, k2, k3⟩ := checkG_zero hc
  obtain ⟨q1, q2, _⟩ := k2
  have : (size I Ls As).toNat ≤ 1000 := by unfold size; omega
  rw [v6]
  exact Nat.le_trans List.count_le_length (by omega)

/-! ### The loops -/

theorem TseitinSmall.loop1 {ok : Bool} {b1 : Int} {o4 o5 : List (List Int)} {D : List Int} (hD : ∀ x ∈ D, 1 ≤ x ∧ x < (N : Int)) (hn : D.length ≤ 100000) {i : Int} : ∀ (m k : Nat) (M : List Bool), k + m = D.length → M.length = N →
    spiritlevellaw22_TseitinSmall.l1 lits ok i (k : Int) I Ls As Bs Cs b1 M D o4 o5 = spiritlevellaw22_TseitinSmall.l0 lits ok (IntKind.wrap .i64 (i + 1)) I Ls As Bs Cs b1 (markL M (D.drop k)) o4 o5
  | 0, k, M, hk, hM => by
    rw [spiritlevellaw22_TseitinSmall.l1_eq, cd, if_neg (by omega), List.drop_of_length_le (by omega)]; rfl
  | m + 1, k, M, hk, hM => by
    have hlt : k < D.length := by omega
    have hx := hD _ (List.getElem_mem hlt)
    have hw : IntKind.wrap .i64 ((k : Int) + 1) = ((k + 1 : Nat) : Int) := by rw [wr] <;> omega
    have hxm : (D[k]).toNat < M.length := by omega
    rw [spiritlevellaw22_TseitinSmall.l1_eq, cd, if_pos (by omega), gsome hlt, Option.bind_some, Int.toNat_natCast, List.getElem?_eq_getElem hlt, Option.bind_some, cd, if_neg (by omega), Option.bind_some, Option.bind_some, cd, if_neg (by omega), Option.bind_some, Option.bind_some, gi' (by omega), List.getElem?_eq_getElem hxm, Option.bind_some, Option.bind_some, hw, TseitinSmall.loop1 hD hn m (k + 1) _ (by omega) (by rw [List.length_set]; exact hM), drop_cons hlt]
    rfl

theorem TseitinSmall.loop0 (h : Sized I Ls As Bs Cs) (hc : checkG I Ls As Bs Cs = 0) {ok : Bool} {b1 : Int} {o3 o4 : List (List Int)} (hl : ∀ l ∈ lits, litN (size I Ls As) l) (hn : lits.length ≤ 1000) : ∀ (m i : Nat) (M : List Bool), i + m = lits.length → M.length = (size I Ls As).toNat + 1 →
    spiritlevellaw22_TseitinSmall.l0 lits ok (i : Int) I Ls As Bs Cs b1 M o3 o4 = spiritlevellaw22_TseitinSmall.l2 ok 0 0 1 I Ls As Bs Cs b1 (marksL I Ls As M (lits.drop i)) o3 o4
  | 0, i, M, hi, hM => by
    rw [spiritlevellaw22_TseitinSmall.l0_eq, cd, if_neg (by omega), List.drop_of_length_le (by omega)]; rfl
  | m + 1, i, M, hi, hM => by
    have hlt : i < lits.length := by omega
    have hx := hl _ (List.getElem_mem hlt)
    have hw : IntKind.wrap .i64 ((i : Int) + 1) = ((i + 1 : Nat) : Int) := by rw [wr] <;> omega
    have hlen : (sortI (coneL I Ls.length As lits[i])).length ≤ 100000 := by rw [(sortI_spec _).1.length_eq]; have := coneL_small hc hx; omega
    have g := TseitinSmall.loop1 (I := I) (Ls := Ls) (As := As) (Bs := Bs) (Cs := Cs) (lits := lits) (ok := ok) (b1 := b1) (o4 := o3) (o5 := o4) (D := sortI (coneL I Ls.length As lits[i])) (N := (size I Ls As).toNat + 1) (i := (i : Int)) (fun x hx' => cone_in hc hx (sort_mem.1 hx')) hlen (sortI (coneL I Ls.length As lits[i])).length 0 M (by omega) hM
    rw [show ((0 : Nat) : Int) = 0 from rfl, List.drop_zero, hw] at g
    rw [spiritlevellaw22_TseitinSmall.l0_eq, cd, if_pos (by omega), gsome hlt, Option.bind_some, gates_Cone_eq h hc hx, Option.bind_some, cn, if_pos rfl, g, TseitinSmall.loop0 h hc hl hn m (i + 1) _ (by omega) (by rw [markL_len]; exact hM), drop_cons hlt]
    rfl

def cntG (M : List Bool) (f v : Nat) : Nat := if v < f then 0 else cntM M v - cntM M (f - 1)

theorem cntM_step {M : List Bool} {v : Nat} : cntM M (v + 1) = cntM M v + if M.getD (v + 1) false = true then 1 else 0 := rfl

theorem TseitinSmall.loop2 {M U : List Bool} {ok : Bool} {b1 : Int} {cl : List (List Int)} (hI : 0 ≤ I) (hn : n ≤ 1000) (hf : (f : Int) = 1 + I + Ls.length) (hfn : f ≤ n + 1) (hU : U.length = n + 1) (hUM : ∀ j, 1 ≤ j → U.getD j false = M.getD j false) : ∀ (m v : Nat), v + m = n →
    spiritlevellaw22_TseitinSmall.l2 ok (cntM M v : Int) (cntG M f v : Int) ((v + 1 : Nat) : Int) I Ls As Bs Cs b1 U [rowM M (n + 1) n] cl = spiritlevellaw22_TseitinSmall.l3 ok (cntM M n : Int) (cntG M f n : Int) 0 b1 [rowM M (n + 1) n] cl
  | 0, v, hv => by
    have : v = n := by omega
    subst this
    rw [spiritlevellaw22_TseitinSmall.l2_eq, cd, if_neg (by omega)]
  | m + 1, v, hv => by
    have hlt : v + 1 < U.length := by omega
    have hw : IntKind.wrap .i64 (((v + 1 : Nat) : Int) + 1) = ((v + 1 + 1 : Nat) : Int) := by rw [wr] <;> omega
    have hrow : geti (rowM M (n + 1) n) ((v + 1 : Nat) : Int) = some ((rowM M (n + 1) n).getD (v + 1) 0) := getI (by rw [rowM_len]; omega)
    have hr := rowM_get (M := M) (N := n + 1) (k := n) (v := v + 1) (by omega)
    rw [if_neg (by omega), if_pos (by omega)] at hr
    have hc1 := (cntM_le (M := M) (a := 0) (b := v) (by omega)).2
    have hc0 : cntM M 0 = 0 := rfl
    have hcg : cntG M f v ≤ v := by unfold cntG; split <;> omega
    rw [spiritlevellaw22_TseitinSmall.l2_eq, cd, if_pos (by omega), getB hlt, Option.bind_some, Int.toNat_natCast, gdB hlt, Option.bind_some, cnot]
    rw [hUM (v + 1) (by omega)]
    have ih := TseitinSmall.loop2 (ok := ok) (b1 := b1) (cl := cl) hI hn hf hfn hU hUM m (v + 1) (by omega)
    rw [cntM_step] at ih
    cases hm : M.getD (v + 1) false with
    | false =>
      rw [hm, if_neg (by simp)] at hr ih
      have hg : cntG M f (v + 1) = cntG M f v := by
        have e : cntM M (v + 1) = cntM M v := by rw [cntM_step, hm]; rfl
        unfold cntG
        rw [e]
        by_cases h1 : v + 1 < f
        · rw [if_pos h1, if_pos (by omega)]
        · rw [if_neg h1]
          by_cases h2 : v < f
          · rw [if_pos h2, show f - 1 = v by omega]; omega
          · rw [if_neg h2]
      rw [hg, Nat.add_zero] at ih
      rw [cf, show geti [rowM M (n + 1) n] 0 = some (rowM M (n + 1) n) from rfl, Option.bind_some, show ([rowM M (n + 1) n] : List (List Int))[Int.toNat 0]? = some (rowM M (n + 1) n) from rfl, Option.bind_some, hrow, Option.bind_some, hr, cn, if_pos rfl, hw, ih]
    | true =>
      rw [hm, if_pos rfl] at hr ih
      rw [cntM_step, hm, if_pos rfl] at hr
      have w1 : IntKind.wrap .i64 ((cntM M v : Int) + 1) = ((cntM M v + 1 : Nat) : Int) := by rw [wr] <;> omega
      have w2 : IntKind.wrap .i64 (2 * ((cntM M v + 1 : Nat) : Int)) = 2 * ((cntM M v + 1 : Nat) : Int) := by rw [wr] <;> omega
      have w3 : IntKind.wrap .i64 ((cntG M f v : Int) + 1) = ((cntG M f v + 1 : Nat) : Int) := by rw [wr] <;> omega
      have hgate : spiritlevelref02_Gate I Ls As Bs Cs ((v + 1 : Nat) : Int) = some (((v + 1 : Nat) : Int) - (f : Int)) := by
        rw [spiritlevelref02_Gate.eq, wr (x := ((v + 1 : Nat) : Int) - 1) (by omega) (by omega), wr (x := _ - I) (by omega) (by omega), wr (by omega) (by omega)]
        congr 1
        omega
      rw [ct, show geti [rowM M (n + 1) n] 0 = some (rowM M (n + 1) n) from rfl, Option.bind_some, show ([rowM M (n + 1) n] : List (List Int))[Int.toNat 0]? = some (rowM M (n + 1) n) from rfl, Option.bind_some, hrow, Option.bind_some, hr, w1, w2, cn, if_pos rfl, hgate, Option.bind_some, cd, hw]
      by_cases hge : v + 1 < f
      · have hg : cntG M f (v + 1) = cntG M f v := by unfold cntG; rw [if_pos hge, if_pos (by omega)]
        rw [hg] at ih
        rw [if_neg (by omega), ih]
      · have hg : cntG M f (v + 1) = cntG M f v + 1 := by
          have e : cntM M (v + 1) = cntM M v + 1 := by rw [cntM_step, hm, if_pos rfl]
          unfold cntG
          rw [e, if_neg hge]
          by_cases h2 : v < f
          · rw [if_pos h2, show f - 1 = v by omega]; omega
          · rw [if_neg h2]
            have := (cntM_le (M := M) (a := f - 1) (b := v) (by omega)).1
            omega
        rw [hg] at ih
        rw [if_pos (by omega), w3, ih]

theorem TseitinSmall.loop3 {nn many b1 : Int} {o1 cl : List (List Int)} (hcl : ∀ c ∈ cl, 1 ≤ c.length ∧ c.length ≤ 3) (hn : cl.length ≤ 1000000) (hb : b1 = nn) (hm : 0 ≤ many ∧ many ≤ 1000000) (hc : (cl.length : Int) ≤ 3 * many) : ∀ (m i : Nat), i + m = cl.length → spiritlevellaw22_TseitinSmall.l3 true nn many (i : Int) b1 o1 cl = some true
  | 0, i, hi => by
    rw [spiritlevellaw22_TseitinSmall.l3_eq, cd, if_neg (by omega), ct, ce, if_pos hb, wr (by omega) (by omega), decide_eq_true hc]
  | m + 1, i, hi => by
    have hlt : i < cl.length := by omega
    have hx := hcl _ (List.getElem_mem hlt)
    have hw : IntKind.wrap .i64 ((i : Int) + 1) = ((i + 1 : Nat) : Int) := by rw [wr] <;> omega
    rw [spiritlevellaw22_TseitinSmall.l3_eq, cd, if_pos (by omega), gsome hlt, Option.bind_some, Int.toNat_natCast, List.getElem?_eq_getElem hlt, Option.bind_some, cd, if_neg (by omega), Option.bind_some, Option.bind_some, cd, if_neg (by omega), hw, TseitinSmall.loop3 hcl hn hb hm hc m (i + 1) (by omega)]

/-! ### Sizes -/

theorem nrm_len : ∀ (l : List Int), (nrm l).length ≤ l.length
  | [] => by simp [nrm]
  | x :: r => by
    have ins : ∀ S : List Int, (ins1 x S).length ≤ S.length + 1 := fun S => by
      induction S with
      | nil => simp [ins1]
      | cons y S ih =>
        unfold ins1
        split
        · simp
        · split
          · simp
          · simp only [List.length_cons]; omega
    have := nrm_len r
    have := ins (nrm r)
    show (ins1 x (nrm r)).length ≤ _
    rw [List.length_cons]; omega

theorem addC_small {cl : List (List Int)} {x : Int} {r : List Int} (hx : 1 < x) (hr : r.length ≤ 2) (h : ∀ c ∈ cl, 1 ≤ c.length ∧ c.length ≤ 3) : ∀ c ∈ addC cl (x :: r), 1 ≤ c.length ∧ c.length ≤ 3 := by
  intro c hcm
  unfold addC at hcm
  split at hcm
  · exact h c hcm
  · split at hcm
    · exact h c hcm
    · rcases List.mem_append.1 hcm with q | q
      · exact h c q
      · rw [List.mem_singleton] at q
        subst q
        have h1 : (big (x :: r)).length ≤ (x :: r).length := List.length_filter_le _ _
        have h2 := nrm_len (big (x :: r))
        rw [List.length_cons] at h1
        have h3 : x ∈ nrm (big (x :: r)) := ((nrm_spec _).2 x).2 (by unfold big; exact List.mem_filter.2 ⟨List.mem_cons_self .., by simpa using hx⟩)
        have := List.length_pos_of_mem h3
        omega

theorem gatesC_small {M : List Bool} : ∀ (r : List (Int × Int)) (g : Nat) (cl : List (List Int)), 0 < g → g + r.length ≤ n + 1 → (∀ c ∈ cl, 1 ≤ c.length ∧ c.length ≤ 3) → ∀ c ∈ gatesC M (rowM M (n + 1) n) g r cl, 1 ≤ c.length ∧ c.length ≤ 3
  | [], g, cl, _, _, h => h
  | x :: r, g, cl, hg, hn, h => by
    rw [List.length_cons] at hn
    rw [gatesC]
    refine gatesC_small r (g + 1) _ (by omega) (by omega) ?_
    by_cases hm : M.getD g false = true
    · rw [if_pos hm]
      have k1 := (row_lit (n := n) (M := M) (l := 2 * (g : Int) + 1) (by omega) (by omega) (.inr (by rw [show ((2 * (g : Int) + 1) / 2).toNat = g by omega]; exact hm))).1
      have k2 := (row_lit (n := n) (M := M) (l := 2 * (g : Int)) (by omega) (by omega) (.inr (by rw [show (2 * (g : Int) / 2).toNat = g by omega]; exact hm))).1
      rw [show ((2 * (g : Int) + 1) / 2).toNat = g by omega] at k1
      rw [show (2 * (g : Int) / 2).toNat = g by omega] at k2
      have hp := cntM_pos hm hg
      unfold gateC
      exact addC_small (by omega) (by simp) (addC_small (by omega) (by simp) (addC_small (by omega) (by simp) h))
    · rw [if_neg hm]; exact h

theorem glen_le {g : Int} {x : Int × Int} : glen g x ≤ 3 := by
  have h : ∀ ls, clen ls ≤ 1 := fun ls => by unfold clen; split <;> (try split) <;> omega
  unfold glen
  have := h [2 * g + 1, x.1]; have := h [2 * g + 1, x.2]; have := h [2 * g, neg x.1, neg x.2]
  omega

theorem sumG_le {M : List Bool} : ∀ (r : List (Int × Int)) (g : Nat), sumG M (g + 1) r + 3 * cntM M g ≤ 3 * cntM M (g + r.length)
  | [], g => by simp [sumG]
  | x :: r, g => by
    have := sumG_le (M := M) r (g + 1)
    rw [sumG, List.length_cons, show g + (r.length + 1) = g + 1 + r.length by omega]
    rw [cntM_step] at this
    have hl := glen_le (g := ((g + 1 : Nat) : Int)) (x := x)
    by_cases hm : M.getD (g + 1) false = true
    · rw [if_pos hm]
      rw [if_pos hm] at this
      omega
    · rw [if_neg hm]
      rw [if_neg hm] at this
      omega

end

theorem TseitinSmall_pure (c : Int × List (Int × Int) × List (Int × Int) × List Int × List Int) (lits : List Int) (hc : okD TC c) (hl : okD TL lits) : spiritlevellaw22_TseitinSmall c.1 c.2.1 c.2.2.1 c.2.2.2.1 c.2.2.2.2 lits = some true := by
  have hs := okTC hc
  obtain ⟨l1, l2⟩ := okTL hl
  obtain ⟨I, Ls, As, Bs, Cs⟩ := c
  dsimp only at *
  obtain ⟨b, b1, b2⟩ := fit22_eq hs l1
  rw [spiritlevellaw22_TseitinSmall.eq, alive22_eq, Option.bind_some, b1, Option.bind_some]
  cases b with
  | false => rfl
  | true =>
    obtain ⟨c1, c2, c3⟩ := b2 rfl
    have hb := checkG_before c1
    obtain ⟨k1, k2, k3⟩ := checkG_zero c1
    obtain ⟨q1, q2, _⟩ := k2
    have hsz : firstN I Ls + As.length = (size I Ls As).toNat + 1 := by unfold firstN size; omega
    have hs1 : (size I Ls As).toNat ≤ 1000 := by unfold size; omega
    have hs2 : size I Ls As = (((size I Ls As).toNat : Nat) : Int) := by unfold size; omega
    have hf : ((firstN I Ls : Nat) : Int) = 1 + I + Ls.length := by unfold firstN; omega
    have hf1 : 1 ≤ firstN I Ls := by omega
    have hlenC : ∀ {ls : List Int}, firstN I Ls + As.length ≤ (markC (List.replicate ((size I Ls As).toNat + 1) false) ls).length := fun {ls} => by rw [markC_len, List.length_replicate]; omega
    have clo : Closed (firstN I Ls) As (coneM I Ls As lits) := fun k hk ht => coneC_closed hb (Nat.le_refl _) hlenC k hk ht
    have hw : IntKind.wrap .i64 (size I Ls As + 1) = (((size I Ls As).toNat + 1 : Nat) : Int) := by rw [wr] <;> omega
    have hrow0 : geti (rowM (coneM I Ls As lits) ((size I Ls As).toNat + 1) (size I Ls As).toNat) 0 = some 0 := by
      have := getI (R := rowM (coneM I Ls As lits) ((size I Ls As).toNat + 1) (size I Ls As).toNat) (v := 0) (by rw [rowM_len]; omega)
      rw [rowM_get (by omega), if_pos rfl] at this
      exact this
    have g0 := TseitinSmall.loop0 (lits := lits) hs c1 (ok := true) (b1 := (cntM (coneM I Ls As lits) (size I Ls As).toNat : Int)) (o3 := [rowM (coneM I Ls As lits) ((size I Ls As).toNat + 1) (size I Ls As).toNat]) (o4 := gatesC (coneM I Ls As lits) (rowM (coneM I Ls As lits) ((size I Ls As).toNat + 1) (size I Ls As).toNat) (firstN I Ls) As []) c2 (by omega) lits.length 0 (List.replicate ((size I Ls As).toNat + 1) false) (by omega) (List.length_replicate ..)
    rw [show ((0 : Nat) : Int) = 0 from rfl, List.drop_zero] at g0
    have hU := fun j (hj : 1 ≤ j) => cones_eq (U := marksL I Ls As (List.replicate ((size I Ls As).toNat + 1) false) lits) c1 c2 (by rw [marksL_len, List.length_replicate]) (fun j => by rw [marksL_get c1 (List.length_replicate ..) c2, rep_no]; simp) j hj
    have g2 := TseitinSmall.loop2 (M := coneM I Ls As lits) (U := marksL I Ls As (List.replicate ((size I Ls As).toNat + 1) false) lits) (Ls := Ls) (As := As) (Bs := Bs) (Cs := Cs) (ok := true) (b1 := (cntM (coneM I Ls As lits) (size I Ls As).toNat : Int)) (cl := gatesC (coneM I Ls As lits) (rowM (coneM I Ls As lits) ((size I Ls As).toNat + 1) (size I Ls As).toNat) (firstN I Ls) As []) k1 hs1 hf (by omega) (by rw [marksL_len, List.length_replicate]) hU (size I Ls As).toNat 0 (by omega)
    rw [show cntM (coneM I Ls As lits) 0 = 0 from rfl, show cntG (coneM I Ls As lits) (firstN I Ls) 0 = 0 by unfold cntG; rw [if_pos (by omega)]] at g2
    have hgl := gatesC_len (M := coneM I Ls As lits) hb clo hsz As.length 0 [] (by omega)
    rw [List.drop_zero, List.length_nil, Nat.zero_add] at hgl
    simp only [Nat.add_zero] at hgl
    have hsum := sumG_le (M := coneM I Ls As lits) As (firstN I Ls - 1)
    rw [show firstN I Ls - 1 + 1 = firstN I Ls by omega, show firstN I Ls - 1 + As.length = (size I Ls As).toNat by omega] at hsum
    have hcm := (cntM_le (M := coneM I Ls As lits) (a := firstN I Ls - 1) (b := (size I Ls As).toNat) (by omega))
    have hcm2 := (cntM_le (M := coneM I Ls As lits) (a := 0) (b := (size I Ls As).toNat) (by omega)).2
    have hcg : cntG (coneM I Ls As lits) (firstN I Ls) (size I Ls As).toNat = cntM (coneM I Ls As lits) (size I Ls As).toNat - cntM (coneM I Ls As lits) (firstN I Ls - 1) ∨ (cntG (coneM I Ls As lits) (firstN I Ls) (size I Ls As).toNat = 0 ∧ (size I Ls As).toNat = firstN I Ls - 1) := by
      unfold cntG
      split
      · exact .inr ⟨rfl, by omega⟩
      · exact .inl rfl
    have hcl : (gatesC (coneM I Ls As lits) (rowM (coneM I Ls As lits) ((size I Ls As).toNat + 1) (size I Ls As).toNat) (firstN I Ls) As []).length ≤ 3 * cntG (coneM I Ls As lits) (firstN I Ls) (size I Ls As).toNat := by
      rw [hgl]
      rcases hcg with e | ⟨e, e2⟩
      · rw [e]; omega
      · rw [e2] at hsum; rw [e]; omega
    have hc0 : cntM (coneM I Ls As lits) 0 = 0 := rfl
    have hcgl : cntG (coneM I Ls As lits) (firstN I Ls) (size I Ls As).toNat ≤ 1000 := by rcases hcg with e | ⟨e, _⟩ <;> omega
    have g3 := TseitinSmall.loop3 (nn := (cntM (coneM I Ls As lits) (size I Ls As).toNat : Int)) (many := (cntG (coneM I Ls As lits) (firstN I Ls) (size I Ls As).toNat : Int)) (o1 := [rowM (coneM I Ls As lits) ((size I Ls As).toNat + 1) (size I Ls As).toNat]) (gatesC_small (n := (size I Ls As).toNat) (M := coneM I Ls As lits) As (firstN I Ls) [] (by omega) (by omega) (by simp)) (by omega) rfl ⟨by omega, by omega⟩ (by exact_mod_cast hcl) _ 0 (Nat.zero_add _)
    rw [cnot, ct, cnot, ct, of_ok hs (by omega) l2 c1 c2 rfl, Option.bind_some, cn, if_pos rfl]
    unfold tsC tsM
    dsimp only
    rw [cn, if_pos (show (([rowM (coneM I Ls As lits) ((size I Ls As).toNat + 1) (size I Ls As).toNat] : List (List Int)).length : Int) = 1 from rfl), show geti [rowM (coneM I Ls As lits) ((size I Ls As).toNat + 1) (size I Ls As).toNat] 0 = some (rowM (coneM I Ls As lits) ((size I Ls As).toNat + 1) (size I Ls As).toNat) from rfl, Option.bind_some, show ([rowM (coneM I Ls As lits) ((size I Ls As).toNat + 1) (size I Ls As).toNat] : List (List Int))[Int.toNat 0]? = some (rowM (coneM I Ls As lits) ((size I Ls As).toNat + 1) (size I Ls As).toNat) from rfl, Option.bind_some, ref02_Size_eq hs ⟨k1, q1⟩, Option.bind_some, hw, rowM_len, cn, if_pos rfl, Option.bind_some, Option.bind_some, hrow0, Option.bind_some, cn, if_pos rfl, Option.bind_some, Option.bind_some, rowM_len, mkl_ok (by omega) (by omega), Option.bind_some, if_pos rfl, Int.toNat_natCast, g0]
    exact g2.trans g3

end Go.Proofs.Ytcgbilghglbgaaa
