/- Circuits as clauses, of plain values: TseitinFrames. -/
import Derived.Test.YthbkhndapkbgbaaPC6
namespace Go.Proofs.Ythbkhndapkbgbaa
open Go Go.Proofs.Ythbkhndapkbgbaa.R
set_option linter.unusedVariables false

section
variable {I : Int} {Ls As : List (Int × Int)} {Bs Cs : List Int} {f n : Nat}

theorem ref22_Check.loop1 {v : Int} (hv : okV v) {row : List Int} {cl : List (List Int)} (hn : row.length ≤ 100000) (hr : ∀ x ∈ row, -1 ≤ x ∧ x ≤ 2 * v + 1) : ∀ (m i : Nat), i + m = row.length → spiritlevelref22_Check.l1 0 (i : Int) v [row] cl = some 0
  | 0, i, hi => by
    rw [spiritlevelref22_Check.l1_eq, show geti [row] 0 = some row from rfl, Option.bind_some, cd, if_neg (by omega), show IntKind.wrap .i64 ((0 : Int) + 1) = 1 by decide, spiritlevelref22_Check.l0_eq, cd, if_neg (by simp)]
  | m + 1, i, hi => by
    have hlt : i < row.length := by omega
    obtain ⟨h1, h2⟩ := hr _ (List.getElem_mem hlt)
    have hv' := hv
    obtain ⟨v1, v2⟩ := hv'
    have hw : IntKind.wrap .i64 ((i : Int) + 1) = ((i + 1 : Nat) : Int) := by rw [wr] <;> omega
    have w1 : IntKind.wrap .i64 (IntKind.wrap .i64 (2 * v) + 1) = 2 * v + 1 := by rw [wr (x := 2 * v) (by omega) (by omega), wr (by omega) (by omega)]
    rw [spiritlevelref22_Check.l1_eq, show geti [row] 0 = some row from rfl, Option.bind_some, cd, if_pos (by omega), Option.bind_some, gsome hlt, Option.bind_some, cd, if_neg (by omega), cd, w1, if_neg (by omega), hw]
    exact ref22_Check.loop1 hv hn hr m (i + 1) (by omega)

theorem ref22_Check_ok {v : Int} (hv : okV v) {row : List Int} {cl : List (List Int)} (hn : row.length ≤ 100000) (h0 : 0 < row.length) (hz : row.getD 0 0 = 0) (hr : ∀ x ∈ row, -1 ≤ x ∧ x ≤ 2 * v + 1) (hc : cl.length ≤ 20000) (hL : okL v cl) : spiritlevelref22_Check v [row] cl = some 0 := by
  have hg : geti row 0 = some 0 := by have := getI h0; rw [hz] at this; exact this
  have hv' := hv
  obtain ⟨v1, v2⟩ := hv'
  rw [spiritlevelref22_Check.eq, cd, if_neg (by omega), ref13_Vars_eq, Option.bind_some, decide_eq_true hv, cnot, ct, ref15_Wrong_eq hv (by omega) (fun c hcm => by have := (hL c hcm).len hv; omega), Option.bind_some, if_neg (by omega), if_pos hL, cn, if_pos rfl,
    spiritlevelref22_Check.l0_eq, cd, if_pos (by simp), show geti [row] 0 = some row from rfl, Option.bind_some, ce, if_neg (by omega), Option.bind_some, Option.bind_some, cn, if_pos rfl, Option.bind_some, hg, Option.bind_some, cn, if_pos rfl]
  exact ref22_Check.loop1 hv hn hr row.length 0 (by omega)

theorem rowM_rng {M : List Bool} : ∀ x ∈ rowM M (n + 1) n, -1 ≤ x ∧ x ≤ 2 * (cntM M n : Int) + 1 := fun x hx => by
  obtain ⟨i, hi, rfl⟩ := List.getElem_of_mem hx
  have hi' := hi
  rw [rowM_len] at hi'
  have := rowM_get (M := M) (k := n) hi'
  rw [List.getD_eq_getElem?_getD, List.getElem?_eq_getElem hi, Option.getD_some] at this
  rw [this]
  have hc := (cntM_le (M := M) (a := i) (b := n) (by omega)).1
  split
  · omega
  · split
    · split <;> omega
    · omega

theorem TseitinFrames.fin {turn : Int} {gate : Int} {M V W : List Bool} {cl : List (List Int)} (hb : Before f As) (hcl : Closed f As M) (hN : f + As.length = n + 1) (hf : 0 < f) (hn : n ≤ 1000) (hA : Agree f n As V) (hW : (W.length : Int) = (cntM M n : Int)) (hc : Corr M n W V) (hcle : cl = gatesC M (rowM M (n + 1) n) f As [])
    (hlen : cl.length ≤ 20000) (hg : gate = 0 ∨ ∃ k, k < As.length ∧ M.getD (f + k) false = true ∧ gate = (cntM M (f + k) : Int)) {rows : List (List Int)} {i : Int} (hi : ¬ i < (V.length : Int)) :
    spiritlevellaw22_TseitinFrames.l0 turn true gate i I Ls As Bs Cs (cntM M n : Int) V W rows cl = some true := by
  have hcn := cntM_le (M := M) (a := 0) (b := n) (by omega)
  rw [cntM] at hcn
  have hv : okV (cntM M n : Int) := ⟨by omega, by omega⟩
  have hL : okL (cntM M n : Int) cl := by
    have := okL_gates hb hcl hN As.length 0 [] (by omega) (fun c h => by cases h)
    rw [List.drop_zero] at this
    rw [hcle]; exact this
  have hs : ∀ {W V : List Bool}, Corr M n W V → sat W cl = gatesG M V f As := fun {W V} h => by
    have := sat_gates h hb hcl hN As.length 0 [] (by omega)
    rw [List.drop_zero] at this
    rw [hcle]; exact this
  have ht := gatesG_true (M := M) (f := f) hA.gate As.length 0 (by omega)
  rw [List.drop_zero] at ht
  have hmod := fun (W : List Bool) (h : (W.length : Int) = (cntM M n : Int)) => sm_model (W := W) hv hlen hL h
  rw [spiritlevellaw22_TseitinFrames.l0_eq, cd, if_neg hi, hmod W hW, Option.bind_some]
  have hs1 : (cl.all fun c => c.any (truth W)) = true := (hs hc).trans ht
  rw [hs1]
  dsimp only
  rw [cn, if_pos rfl, cnot, ct, ce]
  rcases hg with hg | ⟨k, hk, hm, rfl⟩
  · rw [if_pos hg]
  · have hp := cntM_pos hm (by omega)
    have hle := (cntM_le (M := M) (a := f + k) (b := n) (by omega)).1
    have w1 : IntKind.wrap .i64 ((cntM M (f + k) : Int) - 1) = ((cntM M (f + k) - 1 : Nat) : Int) := by rw [wr] <;> omega
    have i1 : cntM M (f + k) - 1 < W.length := by omega
    rw [if_neg (by omega), w1, getB i1, Option.bind_some, Int.toNat_natCast, gdB i1, Option.bind_some, Option.bind_some, Option.bind_some, hmod _ (by rw [List.length_set]; exact hW), Option.bind_some]
    have hc2 : Corr M n (W.set (cntM M (f + k) - 1) (!W.getD (cntM M (f + k) - 1) false)) (V.set (f + k) (!V.getD (f + k) false)) := by
      refine ⟨by rw [setV_get (by rw [hA.len]; omega), if_neg (by omega)]; exact hA.zero, fun j j1 j2 j3 => ?_⟩
      rw [setV_get i1, setV_get (by rw [hA.len]; omega)]
      by_cases e : f + k = j
      · subst e
        rw [if_pos rfl, if_pos rfl, hc.at_ _ (by omega) j2 j3]
      · have hpj := cntM_pos j3 (by omega)
        have hne : cntM M (f + k) - 1 ≠ cntM M j - 1 := fun q => by
          rcases Nat.lt_or_gt_of_ne e with q1 | q1
          · have := cntM_inj j3 q1; omega
          · have := cntM_inj hm q1; omega
        rw [if_neg hne, if_neg e]
        exact hc.at_ j j1 j2 j3
    have hs2 := hs hc2
    obtain ⟨b1, b2, b3⟩ := hb k hk
    have old : ∀ {l : Int}, 0 ≤ l → l / 2 < (f : Int) + k → valL (V.set (f + k) (!V.getD (f + k) false)) l = valL V l := fun h0 hl => valL_congr (by
      rw [setV_get (by rw [hA.len]; omega), if_neg (by omega)])
    have hf2 := gatesG_false (M := M) (V := V.set (f + k) (!V.getD (f + k) false)) (f := f) hk hm (by
      rw [old (by omega) b3, old (by omega) (by omega), setV_get (by rw [hA.len]; omega), if_pos rfl, hA.gate k hk]
      cases (valL V (As.getD k (0, 0)).1 && valL V (As.getD k (0, 0)).2) <;> simp) As.length 0 (by omega) (by omega)
    rw [List.drop_zero] at hf2
    have hs3 : (cl.all fun c => c.any (truth (W.set (cntM M (f + k) - 1) (!W.getD (cntM M (f + k) - 1) false)))) = false := hs2.trans hf2
    rw [hs3]
    rfl

theorem TseitinFrames.loop {turn : Int} {M V : List Bool} {cl : List (List Int)} (hb : Before f As) (hcl : Closed f As M) (hN : f + As.length = n + 1) (hf : (f : Int) = 1 + I + Ls.length) (hI : 0 ≤ I) (hn : n ≤ 1000) (hA : Agree f n As V) (hcle : cl = gatesC M (rowM M (n + 1) n) f As []) (hlen : cl.length ≤ 20000) :
    ∀ (m i : Nat) (W : List Bool) (gate : Int), i + m = n + 1 → 1 ≤ i → (W.length : Int) = (cntM M n : Int) → (∀ j, 1 ≤ j → j < i → M.getD j false = true → W.getD (cntM M j - 1) false = V.getD j false) →
      (gate = 0 ∨ ∃ k, k < As.length ∧ M.getD (f + k) false = true ∧ gate = (cntM M (f + k) : Int)) →
      spiritlevellaw22_TseitinFrames.l0 turn true gate (i : Int) I Ls As Bs Cs (cntM M n : Int) V W [rowM M (n + 1) n] cl = some true
  | 0, i, W, gate, hi, h1, hW, hc, hg => TseitinFrames.fin hb hcl hN (by omega) hn hA hW ⟨hA.zero, fun j j1 j2 j3 => hc j j1 (by omega) j3⟩ hcle hlen hg (by rw [hA.len]; omega)
  | m + 1, i, W, gate, hi, h1, hW, hc, hg => by
    have ih := fun W gate => TseitinFrames.loop (turn := turn) hb hcl hN hf hI hn hA hcle hlen m (i + 1) W gate (by omega) (by omega)
    have hlt : i < V.length := by rw [hA.len]; omega
    have hw : IntKind.wrap .i64 ((i : Int) + 1) = ((i + 1 : Nat) : Int) := by rw [wr] <;> omega
    have hr : i < (rowM M (n + 1) n).length := by rw [rowM_len]; omega
    have hrow := rowM_get (M := M) (N := n + 1) (k := n) (v := i) (by omega)
    rw [if_neg (by omega), if_pos (by omega)] at hrow
    rw [spiritlevellaw22_TseitinFrames.l0_eq, cd, if_pos (by omega), show geti [rowM M (n + 1) n] 0 = some (rowM M (n + 1) n) from rfl, Option.bind_some, show ([rowM M (n + 1) n] : List (List Int))[Int.toNat 0]? = some (rowM M (n + 1) n) from rfl, Option.bind_some, getI hr, Option.bind_some, hw, hrow]
    by_cases hm : M.getD i false = true
    · have hp := cntM_pos hm (by omega)
      have hle := (cntM_le (M := M) (a := i) (b := n) (by omega)).1
      have hcn := cntM_le (M := M) (a := 0) (b := n) (by omega)
      rw [cntM] at hcn
      have w1 : IntKind.wrap .i64 (Int.tdiv (2 * (cntM M i : Int)) 2) = (cntM M i : Int) := by rw [td (by omega) (by omega)]; omega
      have w2 : IntKind.wrap .i64 ((cntM M i : Int) - 1) = ((cntM M i - 1 : Nat) : Int) := by rw [wr] <;> omega
      have i1 : cntM M i - 1 < W.length := by omega
      have hset : ∀ j, 1 ≤ j → j < i + 1 → M.getD j false = true → (W.set (cntM M i - 1) (V.getD i false)).getD (cntM M j - 1) false = V.getD j false := fun j j1 j2 j3 => by
        rw [setV_get i1]
        have hpj := cntM_pos j3 (by omega)
        by_cases e : j = i
        · subst e; rw [if_pos rfl]
        · have := cntM_inj (M := M) (a := j) (b := i) hm (by omega)
          rw [if_neg (by omega)]
          exact hc j j1 (by omega) j3
      have go := fun gate => ih (W.set (cntM M i - 1) (V.getD i false)) gate (by rw [List.length_set]; exact hW) hset
      rw [if_pos hm, cd, if_neg (by omega), cd, if_neg (by omega), ce, tm (by omega), if_neg (by omega), getB hlt, Option.bind_some, Int.toNat_natCast, gdB hlt, Option.bind_some, w1, w2, getB i1, Option.bind_some, Int.toNat_natCast, gdB i1, Option.bind_some, ce]
      by_cases ht : (i : Int) = turn
      · have w3 : IntKind.wrap .i64 (IntKind.wrap .i64 (IntKind.wrap .i64 ((i : Int) - 1) - I) - (Ls.length : Int)) = (i : Int) - f := by
          rw [wr (x := (i : Int) - 1) (by omega) (by omega), wr (x := (i : Int) - 1 - I) (by omega) (by omega), wr (by omega) (by omega)]; omega
        rw [if_pos ht, spiritlevelref02_Gate.eq, w3, Option.bind_some, cd]
        by_cases hge : (i : Int) - f ≥ 0
        · rw [if_pos hge]
          refine go _ (.inr ⟨i - f, by omega, ?_, ?_⟩)
          · rw [show f + (i - f) = i by omega]; exact hm
          · rw [show f + (i - f) = i by omega]
        · rw [if_neg hge]
          exact go _ hg
      · rw [if_neg ht]
        exact go _ hg
    · rw [if_neg hm, cd, if_pos (by omega)]
      refine ih W gate hW (fun j j1 j2 j3 => ?_) hg
      by_cases e : j = i
      · subst e; exact absurd j3 hm
      · exact hc j j1 (by omega) j3

end

theorem TseitinFrames_pure (c : Int × List (Int × Int) × List (Int × Int) × List Int × List Int) (lits : List Int) (st ins : List Bool) (turn : Int) (hc : okD TC c) (hl : okD TL lits) (hst : okD (.list .bool) st) (hins : okD (.list .bool) ins) (hk : okD (.int .i64) turn) : spiritlevellaw22_TseitinFrames c.1 c.2.1 c.2.2.1 c.2.2.2.1 c.2.2.2.2 lits st ins turn = some true := by
  have hs := okTC hc
  obtain ⟨l1, l2⟩ := okTL hl
  obtain ⟨I, Ls, As, Bs, Cs⟩ := c
  dsimp only at *
  obtain ⟨b, b1, b2⟩ := fit22_eq hs l1
  rw [spiritlevellaw22_TseitinFrames.eq, alive22_eq, Option.bind_some, b1, Option.bind_some]
  cases b with
  | false => rfl
  | true =>
    obtain ⟨c1, c2, c3⟩ := b2 rfl
    rw [cnot, ct, cn]
    by_cases h1 : (st.length : Int) = (Ls.length : Int)
    · rw [if_pos h1, cn]
      by_cases h2 : (ins.length : Int) = I
      · have hb := checkG_before c1
        obtain ⟨k1, k2, _⟩ := checkG_zero c1
        obtain ⟨k2, k3, _⟩ := k2
        have hf : ((firstN I Ls : Nat) : Int) = 1 + I + Ls.length := by unfold firstN; omega
        have hsz : firstN I Ls + As.length = (size I Ls As).toNat + 1 := by unfold firstN size; omega
        have hs1 : (size I Ls As).toNat ≤ 1000 := by unfold size; omega
        have clo : Closed (firstN I Ls) As (coneM I Ls As lits) := fun k hk ht => coneC_closed hb (Nat.le_refl _) (by rw [markC_len, List.length_replicate]; omega) k hk ht
        obtain ⟨V, e1, hA⟩ := values_All_eq hs c1 (st := st) (ins := ins) (by omega) h2
        have hof := of_ok hs (by omega) l2 c1 c2 rfl
        have hcn := cntM_le (M := coneM I Ls As lits) (a := 0) (b := (size I Ls As).toNat) (by omega)
        rw [cntM] at hcn
        have hv : okV (cntM (coneM I Ls As lits) (size I Ls As).toNat : Int) := ⟨by omega, by omega⟩
        have hlen : (gatesC (coneM I Ls As lits) (rowM (coneM I Ls As lits) ((size I Ls As).toNat + 1) (size I Ls As).toNat) (firstN I Ls) As []).length ≤ 20000 := by
          have g := gatesC_len (M := coneM I Ls As lits) hb clo hsz As.length 0 [] (by omega)
          rw [List.drop_zero] at g
          simp only [Nat.add_zero] at g
          have le1 : ∀ ls, clen ls ≤ 1 := fun ls => by unfold clen; split <;> (try split) <;> omega
          have le2 : ∀ (r : List (Int × Int)) (a : Nat), sumG (coneM I Ls As lits) a r ≤ 3 * r.length := fun r => by
            induction r with
            | nil => intro a; simp [sumG]
            | cons x r ih =>
              intro a
              have h := ih (a + 1)
              have q1 := le1 [2 * (a : Int) + 1, x.1]
              have q2 := le1 [2 * (a : Int) + 1, x.2]
              have q3 := le1 [2 * (a : Int), neg x.1, neg x.2]
              rw [sumG, List.length_cons]
              unfold glen
              split <;> omega
          have := le2 As (firstN I Ls)
          rw [g, List.length_nil]
          omega
        have hL : okL (cntM (coneM I Ls As lits) (size I Ls As).toNat : Int) (gatesC (coneM I Ls As lits) (rowM (coneM I Ls As lits) ((size I Ls As).toNat + 1) (size I Ls As).toNat) (firstN I Ls) As []) := by
          have := okL_gates (M := coneM I Ls As lits) hb clo hsz As.length 0 [] (by omega) (fun c h => by cases h)
          rw [List.drop_zero] at this
          exact this
        have hck := ref22_Check_ok hv (row := rowM (coneM I Ls As lits) ((size I Ls As).toNat + 1) (size I Ls As).toNat) (by rw [rowM_len]; omega) (by rw [rowM_len]; omega) (by rw [rowM_get (by omega), if_pos rfl]) rowM_rng hlen hL
        have hlp := TseitinFrames.loop (I := I) (Ls := Ls) (As := As) (Bs := Bs) (Cs := Cs) (turn := turn) (M := coneM I Ls As lits) (V := V) hb clo hsz hf k1 hs1 hA rfl hlen (size I Ls As).toNat 1 (List.replicate (cntM (coneM I Ls As lits) (size I Ls As).toNat) false) 0 (by omega) (by omega) (by simp) (fun j j1 j2 _ => by omega) (.inl rfl)
        rw [if_pos h2, cnot, ct, hof, Option.bind_some, e1, Option.bind_some]
        unfold ofC ofM
        dsimp only
        rw [cn, if_pos rfl, cn, if_pos rfl, hck, Option.bind_some, cn, if_pos rfl, cn, if_pos (by simp), show ∀ (r : List Int), geti [r] 0 = some r from fun _ => rfl, Option.bind_some, show ∀ (r : List Int), ([r] : List (List Int))[Int.toNat 0]? = some r from fun _ => rfl, Option.bind_some, cn, if_pos (by rw [rowM_len, hA.len]),
          mkl_ok (by omega) (by omega), Option.bind_some, if_pos rfl, Int.toNat_natCast]
        exact hlp
      · rw [if_neg h2]
    · rw [if_neg h1]

end Go.Proofs.Ythbkhndapkbgbaa
