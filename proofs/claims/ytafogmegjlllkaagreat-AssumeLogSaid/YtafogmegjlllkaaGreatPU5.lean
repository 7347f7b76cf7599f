/- The laws of the solver under assumptions, of plain values: AssumeCore, AssumeLog. -/
import Derived.Test.YtafogmegjlllkaaGreatPU4
namespace Go.Proofs.YtafogmegjlllkaaGreat
open Go Go.Proofs.YtafogmegjlllkaaGreat.R
set_option linter.unusedVariables false

theorem ref13_Without.loop {l : List Int} {x : Int} (hn : l.length ≤ 100000) : ∀ (n i : Nat) (o : List Int), i + n = l.length → o.length ≤ i → spiritlevelref13_Without.l0 l x (i : Int) o = some (o ++ (l.drop i).filter fun y => decide (y ≠ x))
  | 0, i, o, hi, ho => by
    rw [spiritlevelref13_Without.l0_eq, cd, if_neg (by omega), List.drop_of_length_le (by omega)]; simp
  | n + 1, i, o, hi, ho => by
    have hlt : i < l.length := by omega
    have hw : IntKind.wrap .i64 ((i : Int) + 1) = ((i + 1 : Nat) : Int) := by rw [wr] <;> omega
    rw [spiritlevelref13_Without.l0_eq, cd, if_pos (by omega), gsome hlt, Option.bind_some, cn, hw, drop_cons hlt, List.filter_cons]
    by_cases h : l[i] = x
    · rw [if_pos h, ref13_Without.loop hn n (i + 1) _ (by omega) (by omega)]
      simp [h]
    · rw [if_neg h, Option.bind_some, app_ok (by simp only [List.length_singleton]; omega), Option.bind_some, ref13_Without.loop hn n (i + 1) _ (by omega) (by rw [List.length_append, List.length_singleton]; omega), if_pos (by simpa using h), List.append_assoc]
      rfl

theorem ref13_Without_eq {l : List Int} {x : Int} (hn : l.length ≤ 100000) : spiritlevelref13_Without l x = some (l.filter fun y => decide (y ≠ x)) := by
  rw [spiritlevelref13_Without.eq]
  exact ref13_Without.loop hn l.length 0 [] (by omega) (by simp)

/-! ### AssumeCore -/

theorem AssumeCore.loop {v : Int} {L : List (List Int)} {c : List Int} (hv : okV v) (o12 : v ≤ 12) (oL : okL v L) (on : L.length ≤ 40) (hc : ∀ a ∈ c, isLit v a) (hn : c.length ≤ 20) (hneed : ∀ x ∈ c, noneC v L (c.filter fun y => decide (y ≠ x)) = false) : ∀ (n i : Nat), i + n = c.length →
    spiritlevellaw20_AssumeCore.l0 v L true c (i : Int) = some true
  | 0, i, hi => by rw [spiritlevellaw20_AssumeCore.l0_eq, cd, if_neg (by omega)]
  | n + 1, i, hi => by
    have hlt : i < c.length := by omega
    have hw : IntKind.wrap .i64 ((i : Int) + 1) = ((i + 1 : Nat) : Int) := by rw [wr] <;> omega
    have hfl : (c.filter fun y => decide (y ≠ c[i])).length ≤ 20 := Nat.le_trans (List.length_filter_le ..) hn
    have hfs : ∀ a ∈ c.filter fun y => decide (y ≠ c[i]), isLit v a := fun a ha => hc a (List.mem_filter.1 ha).1
    rw [spiritlevellaw20_AssumeCore.l0_eq, cd, if_pos (by omega), gsome hlt, Option.bind_some, ref13_Without_eq (by omega), Option.bind_some, ref20_Units_eq (by omega) (by omega), Option.bind_some, ref19_Least_eq hv o12 (okL_asm oL hfs) (by rw [units_len]; omega), Option.bind_some, solR_none, hneed _ (List.getElem_mem hlt), hw]
    exact AssumeCore.loop hv o12 oL on hc hn hneed n (i + 1) (by omega)

theorem AssumeCore_pure (v : Int) (L : List (List Int)) (A : List Int) (hv : okD (.int .i64) v) (hL : okD TLL L) (hA : okD TL A) : spiritlevellaw20_AssumeCore v L A = some true := by
  obtain ⟨l1, l2⟩ := okTLL hL
  obtain ⟨c1, c2⟩ := okTL hA
  obtain ⟨f, h1, h2⟩ := fit20_eq (v := v) (A := A) l1 (fun c hc => (l2 c hc).1) c1
  rw [spiritlevellaw20_AssumeCore.eq, alive20_eq, Option.bind_some, h1, Option.bind_some]
  cases f with
  | false => rfl
  | true =>
    obtain ⟨oA, o12, oL, on, oa⟩ := h2 rfl
    have hvv := oA.vars
    have hp := small_pow hvv.1 o12
    have oU := okL_asm oL oA.lits
    have hul : (unitsC A ++ L).length ≤ 60 := by rw [units_len]; omega
    rw [cnot, ct, cnot, ct, assume5000 oA o12 oL (by omega), Option.bind_some, assume_Core_eq oA oL (by omega), Option.bind_some, ref20_Units_eq (by omega) (by omega), Option.bind_some, ref19_Least_eq hvv o12 oU (by omega), Option.bind_some]
    have hs1 := solAR_none oA oL
    have hs2 := solR_none v L A
    cases hn : noneC v L A with
    | false =>
      rw [hn] at hs1 hs2
      have hs1' : (solAR v A L).1 = true := hs1
      have hs2' : (solR v (unitsC A ++ L)).1 = true := hs2
      rw [ansA_sat hs1', hs2', if_pos rfl]
      rfl
    | true =>
      rw [hn] at hs1 hs2
      have hs1' : (solAR v A L).1 = false := hs1
      have hs2' : (solR v (unitsC A ++ L)).1 = false := hs2
      have hsub := coreC_sub (v := v) (L := L) A A
      have hsl := hsub.length_le
      have hcl : ∀ a ∈ coreC v L A A, isLit v a := fun a ha => oA.lits a (hsub.subset ha)
      have hnd : (coreC v L A A).Nodup := oA.nodup.sublist hsub
      have hcn := coreC_none A hn
      have hneed : ∀ x ∈ coreC v L A A, noneC v L ((coreC v L A A).filter fun y => decide (y ≠ x)) = false := fun x hx => by
        have h0 := coreC_need hvv oL A oA.nodup oA.lits x (hsub.subset hx) hx
        cases hf : noneC v L ((coreC v L A A).filter fun y => decide (y ≠ x)) with
        | false => rfl
        | true =>
          rw [noneC_mono hvv oL (fun a ha => hcl a ((rm_sub _ _).subset ha)) (fun a ha => ?_) hf] at h0
          · cases h0
          · rw [List.mem_filter, decide_eq_true_iff] at ha
            exact (rm_nodup hnd a).2 ha
      have hS := smallA oA oL hp
      rw [ansA_un hs1', hs2', if_pos rfl]
      dsimp only
      rw [cn, if_pos rfl]
      show (bif !(false == false) then some false else (bif (0 : Int) != 0 then some false else (spiritlevelref13_Same (coreC v L A A) (coreC v L A A)).bind fun r7_ => bif (!r7_) then (some false) else ((spiritlevelref13_Part (coreC v L A A) A).bind fun r8_ => bif (!r8_) then (some false) else
        ((spiritlevelref20_Units L (coreC v L A A)).bind fun r9_ => (spiritlevelref19_Least v r9_).bind fun r10_ => bif r10_.2 then (some false) else (spiritlevellaw20_AssumeCore.l0 v L true (coreC v L A A) (0 : Int)))))) = some true
      rw [ref13_Same_eq (by omega), Option.bind_some, decide_eq_true rfl, ref13_Part_eq (by omega) (by omega), Option.bind_some, decide_eq_true (fun x hx => hsub.subset hx), ref20_Units_eq (by omega) (by omega), Option.bind_some, ref19_Least_eq hvv o12 (okL_asm oL hcl) (by rw [units_len]; omega), Option.bind_some, solR_none, hcn]
      exact AssumeCore.loop hvv o12 oL on hcl (by omega) hneed (coreC v L A A).length 0 (by omega)

/-! ### AssumeLog -/

section
variable {v : Int} {L : List (List Int)} {A : List Int}

theorem AssumeLog.loop1 {i : Nat} {log o1 : List (List Int)} (ov : okV v) (hi : i < log.length) (hc : okC v log[i]) {sat ok : Bool} {conf : Int} {o3 : List Bool} {o4 : List Int} : ∀ (n k : Nat), k + n = log[i].length →
    spiritlevellaw20_AssumeLog.l1 v A ok (i : Int) (k : Int) sat conf o1 ((log[i].take k).map neg) o3 o4 log = spiritlevellaw20_AssumeLog.l1 v A ok (i : Int) (log[i].length : Int) sat conf o1 (log[i].map neg) o3 o4 log
  | 0, k, hk => by
    have : k = log[i].length := by omega
    subst this
    rw [List.take_length]
  | n + 1, k, hk => by
    have hlt : k < log[i].length := by omega
    have hcs := hc.short ov
    have hx := hc.1 _ (List.getElem_mem hlt)
    have hw : IntKind.wrap .i64 ((k : Int) + 1) = ((k + 1 : Nat) : Int) := by rw [wr] <;> omega
    rw [← AssumeLog.loop1 ov hi hc n (k + 1) (by omega), spiritlevellaw20_AssumeLog.l1_eq (k13 := (k : Int)), gsome hi, Option.bind_some, Int.toNat_natCast, List.getElem?_eq_getElem hi, Option.bind_some, cd, if_pos (by omega), Option.bind_some, Option.bind_some, gsome hlt, Option.bind_some, ref13_Not_eq ⟨by omega, by omega⟩, Option.bind_some,
      app_ok (by simp; omega), Option.bind_some, hw, List.take_add_one, List.getElem?_eq_getElem hlt, List.map_append]
    rfl

theorem AssumeLog.loop0 (oA : okA v A []) (o12 : v ≤ 12) (oL : okL v L) (on : L.length ≤ 40) (oa : A.length ≤ 20) {o2 : List Bool} {o3 : List Int} {r : Bool × List Int × List (List Int) × Nat} (hA : AnsA v A L r) : ∀ (n i : Nat), i + n = r.2.2.1.length →
    spiritlevellaw20_AssumeLog.l0 v A true (i : Int) r.1 (r.2.2.2 : Int) (L ++ r.2.2.1.take i) o2 o3 r.2.2.1 = some true
  | 0, i, hi => by
    have ov := oA.vars
    have hll := logA_len hA
    have hp := small_pow ov.1 o12
    have hb := hA.bnd
    rw [spiritlevellaw20_AssumeLog.l0_eq, cd, if_neg (by omega)]
    cases hr : r.1 with
    | true =>
      have h3 := (hA.sat hr).2
      rw [cnot, ct, ct, h3]
      simp
    | false =>
      obtain ⟨lg, c, e, h2, _⟩ := hA.unsat hr
      have hlen : r.2.2.1.length = lg.length + 1 := by rw [e]; simp
      have hw : IntKind.wrap .i64 ((r.2.2.2 : Int) + 1) = ((r.2.2.1.length : Nat) : Int) := by rw [wr] <;> omega
      rw [cnot, cf, ct, hw]
      simp
  | n + 1, i, hi => by
    have ov := oA.vars
    have hAs := oA.short
    have hlt : i < r.2.2.1.length := by omega
    have hll := logA_len hA
    have hp := small_pow ov.1 o12
    have hoc : okC v r.2.2.1[i] := hA.ok _ (List.mem_append_right _ (List.getElem_mem hlt))
    have hcs := hoc.short ov
    have hw : IntKind.wrap .i64 ((i : Int) + 1) = ((i + 1 : Nat) : Int) := by rw [wr] <;> omega
    have hw2 : IntKind.wrap .i64 ((r.2.2.1.length : Int) - 1) = (r.2.2.1.length : Int) - 1 := by rw [wr] <;> omega
    have hpre : okL v (L ++ r.2.2.1.take i) := fun c hc => hA.ok c (by
      rcases List.mem_append.1 hc with h | h
      · exact List.mem_append_left _ h
      · exact List.mem_append_right _ (List.mem_of_mem_take h))
    have hpl : (L ++ r.2.2.1.take i).length ≤ 20000 := by rw [List.length_append, List.length_take]; omega
    have hfrom : confC v (L ++ r.2.2.1.take i) (r.2.2.1[i].map neg) = true := hA.chain i hlt
    have hap : L ++ r.2.2.1.take i ++ [r.2.2.1[i]] = L ++ r.2.2.1.take (i + 1) := by
      rw [List.take_add_one, List.getElem?_eq_getElem hlt, List.append_assoc]; rfl
    have g := AssumeLog.loop1 (A := A) (ok := true) (o1 := L ++ r.2.2.1.take i) ov hlt hoc (sat := r.1) (conf := (r.2.2.2 : Int)) (o3 := o2) (o4 := o3) r.2.2.1[i].length 0 (by omega)
    have ih := AssumeLog.loop0 oA o12 oL on oa (o2 := o2) (o3 := o3) hA n (i + 1) (by omega)
    rw [show ((0 : Nat) : Int) = 0 from rfl, List.take_zero, List.map_nil] at g
    rw [spiritlevellaw20_AssumeLog.l0_eq, cd, if_pos (by omega), g, spiritlevellaw20_AssumeLog.l1_eq, gsome hlt, Option.bind_some, Int.toNat_natCast, List.getElem?_eq_getElem hlt, Option.bind_some, cd, if_neg (by omega), Option.bind_some, Option.bind_some, ref13_Check_eq (by omega), Option.bind_some, if_pos ov, if_pos hoc, cn, if_pos rfl,
      learn_Conflict_eq (okA_neg ov hoc) hpre hpl, Option.bind_some, hfrom]
    dsimp only
    rw [cn, if_pos rfl, cnot, ct, Option.bind_some, Option.bind_some, app_ok (by simp only [List.length_singleton]; omega), Option.bind_some, hap, hw, hw2, ce]
    split
    · rename_i hlast
      cases hr : r.1 with
      | true => rw [hr] at ih; rw [cnot, ct]; exact ih
      | false =>
        rw [hr] at ih
        obtain ⟨lg, c, e, h2, _, h4⟩ := hA.unsat hr
        have hlen : r.2.2.1.length = lg.length + 1 := by rw [e]; simp
        have hii : i = lg.length := by omega
        have hcl : r.2.2.1[i] = c := by simp [e, hii]
        have hpart : ∀ x ∈ r.2.2.1[i].map neg, x ∈ A := fun x hx => by
          obtain ⟨y, hy, rfl⟩ := List.mem_map.1 hx
          exact h4 y (by rw [← hcl]; exact hy)
        rw [cnot, cf, ref13_Part_eq (by rw [List.length_map]; omega) (by omega), Option.bind_some, decide_eq_true hpart, cnot, ct]
        exact ih
    · exact ih

end

theorem AssumeLog_pure (v : Int) (L : List (List Int)) (A : List Int) (hv : okD (.int .i64) v) (hL : okD TLL L) (hA : okD TL A) : spiritlevellaw20_AssumeLog v L A = some true := by
  obtain ⟨l1, l2⟩ := okTLL hL
  obtain ⟨c1, c2⟩ := okTL hA
  obtain ⟨f, h1, h2⟩ := fit20_eq (v := v) (A := A) l1 (fun c hc => (l2 c hc).1) c1
  rw [spiritlevellaw20_AssumeLog.eq, alive20_eq, Option.bind_some, h1, Option.bind_some]
  cases f with
  | false => rfl
  | true =>
    obtain ⟨oA, o12, oL, on, oa⟩ := h2 rfl
    rw [cnot, ct, cnot, ct, assume5000 oA o12 oL (by omega), Option.bind_some]
    dsimp only
    rw [cn, if_pos rfl, app_nil (by omega), Option.bind_some]
    have g := AssumeLog.loop0 oA o12 oL on oa (o2 := (ansA v A L).2.1) (o3 := (ansA v A L).2.2.1) (solAR_ok oA oL) (solAR v A L).2.2.1.length 0 (by omega)
    rw [List.take_zero, List.append_nil] at g
    exact g

end Go.Proofs.YtafogmegjlllkaaGreat
