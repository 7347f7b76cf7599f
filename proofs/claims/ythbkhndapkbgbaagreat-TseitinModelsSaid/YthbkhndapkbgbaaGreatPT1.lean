/- . -/
import Derived.Test.YthbkhndapkbgbaaGreatPJ3
import Derived.Test.YthbkhndapkbgbaaGreatPR4
namespace Go.Proofs.YthbkhndapkbgbaaGreat
open Go Go.Proofs.YthbkhndapkbgbaaGreat.R
set_option linter.unusedVariables false

def rm (d : Int) : List Int → List Int
  | [] => []
  | a :: r => if a = d then r else a :: rm d r

theorem rm_sub (d : Int) : ∀ l, (rm d l).Sublist l
  | [] => List.Sublist.refl _
  | a :: r => by
    unfold rm
    split
    · exact List.sublist_cons_self ..
    · exact (rm_sub d r).cons_cons _

theorem rm_mem {d x : Int} : ∀ {l : List Int}, x ∈ l → x ≠ d → x ∈ rm d l
  | a :: r, h, hne => by
    unfold rm
    rcases List.mem_cons.1 h with rfl | h
    · rw [if_neg hne]; exact List.mem_cons_self ..
    · split
      · exact h
      · exact List.mem_cons_of_mem _ (rm_mem h hne)

theorem slices_Index.found {s : List Int} {x : Int} (hn : s.length ≤ 1000000) : ∀ (n i : Nat), i + n = s.length → x ∈ s.drop i →
    ∃ k : Nat, slices_Index_int_int.l0 s x (s.length : Int) (i : Int) = some (k : Int) ∧ k < s.length ∧ s.take k ++ s.drop (k + 1) = s.take i ++ rm x (s.drop i)
  | 0, i, hi, hm => by rw [List.drop_of_length_le (by omega)] at hm; cases hm
  | n + 1, i, hi, hm => by
    have hlt : i < s.length := by omega
    have hw : IntKind.wrap .i64 ((i : Int) + 1) = ((i + 1 : Nat) : Int) := by rw [wr] <;> omega
    rw [drop_cons hlt] at hm
    rw [slices_Index_int_int.l0_eq, cd, if_pos (by omega), gsome hlt, Option.bind_some, ce, hw, drop_cons hlt]
    unfold rm
    by_cases h : x = s[i]
    · rw [if_pos h, if_pos h.symm]
      exact ⟨i, rfl, hlt, rfl⟩
    · rw [if_neg h, if_neg (fun e => h e.symm)]
      obtain ⟨k, e1, e2, e3⟩ := slices_Index.found hn n (i + 1) (by omega) (by
        rcases List.mem_cons.1 hm with hm | hm
        · exact absurd hm h
        · exact hm)
      refine ⟨k, e1, e2, ?_⟩
      rw [e3, List.take_add_one, List.getElem?_eq_getElem hlt, List.append_assoc]
      rfl

def shr (v : Int) (L : List (List Int)) : List Int → List Int → List Int
  | [], o => o
  | d :: r, o => shr v L r (if confC v L (rm d o) then rm d o else o)

theorem shr_sub {v : Int} {L : List (List Int)} : ∀ (r o : List Int), (shr v L r o).Sublist o
  | [], o => List.Sublist.refl _
  | d :: r, o => by
    unfold shr
    split
    · exact (shr_sub r _).trans (rm_sub d o)
    · exact shr_sub r o

theorem okA_sub {v : Int} {D o : List Int} (h : okA v D []) (ho : o.Sublist D) : okA v o [] where
  vars := h.vars
  lits := fun l hl => h.lits l (ho.subset hl)
  dis := h.dis.sublist ho
  inc := List.Pairwise.nil
  bnd := by simp

section
variable {v : Int} {L : List (List Int)} {D : List Int}

theorem learn_conflict_eq {t : List Int} (ht : okA v t []) (hL : okL v L) (hn : L.length ≤ 20000) : learn_conflict v L t = some (confC v L t) := by
  have hv := ht.vars
  have hs := ht.short
  have hr : ∀ c ∈ L, c.length ≤ 140737488351232 ∧ ∀ x ∈ c, in64 x := fun c hc => ⟨by have := (hL c hc).len hv; omega, fun x hx => lit64 hv ((hL c hc).1 x hx)⟩
  rw [learn_conflict.eq, unit_Run_eq (by omega) (by simp) (fun l hl => lit64 hv (ht.lits l hl)) (by omega) hr, Option.bind_some, runC_ok ht hL hn]
  rfl

theorem learn_check_ok (ht : okA v D []) (hL : okL v L) (hn : L.length ≤ 20000) : learn_check v L D = some 0 := by
  have hv := ht.vars
  have hs := ht.short
  have hlc := learn_check.loop hv hL (by omega) L.length 0 (by omega)
  rw [show ((0 : Nat) : Int) = 0 from rfl] at hlc
  rw [learn_check.eq, cd, if_neg (by omega), cd, if_neg (by omega), assign_Check_eq (by omega) (by simp) (fun l hl => lit64 hv (ht.lits l hl)), Option.bind_some, if_pos ht, cn, if_pos rfl, cd, if_neg (by omega), hlc]

theorem learn_Clause.loop0 (hD : okA v D []) (hL : okL v L) (hn : L.length ≤ 20000) : ∀ (n i : Nat) {o : List Int}, i + n = D.length → o.Sublist D → (∀ x ∈ D.drop i, x ∈ o) →
    learn_Clause.l0 v L D (D.length : Int) (i : Int) o = learn_Clause.l1 ((shr v L (D.drop i) o).length : Int) 0 [] (shr v L (D.drop i) o)
  | 0, i, o, hi, ho, hm => by
    rw [learn_Clause.l0_eq, cd, if_neg (by omega), List.drop_of_length_le (by omega)]
    rfl
  | n + 1, i, o, hi, ho, hm => by
    have hlt : i < D.length := by omega
    have hv := hD.vars
    have hs := hD.short
    have hol := ho.length_le
    have hw : IntKind.wrap .i64 ((i : Int) + 1) = ((i + 1 : Nat) : Int) := by rw [wr] <;> omega
    rw [drop_cons hlt] at hm ⊢
    have hd : D[i] ∈ o := hm _ (List.mem_cons_self ..)
    obtain ⟨k, e1, e2, e3⟩ := slices_Index.found (s := o) (x := D[i]) (by omega) o.length 0 (by omega) (by rw [List.drop_zero]; exact hd)
    rw [show ((0 : Nat) : Int) = 0 from rfl] at e1
    rw [List.take_zero, List.drop_zero, List.nil_append] at e3
    have hwk : IntKind.wrap .i64 ((k : Int) + 1) = ((k + 1 : Nat) : Int) := by rw [wr] <;> omega
    have hcut : cutl o (k : Int) ((k + 1 : Nat) : Int) = some (rm D[i] o) := by
      unfold cutl LIM
      rw [if_pos ⟨by omega, by omega, by omega, by omega⟩, Int.toNat_natCast, Int.toNat_natCast, e3]
    have hsub : (rm D[i] o).Sublist D := (rm_sub _ o).trans ho
    have hnd := hD.nodup
    rw [← List.take_append_drop i D, List.nodup_append, drop_cons hlt, List.nodup_cons] at hnd
    rw [learn_Clause.l0_eq, cd, if_pos (by omega), gsome hlt, Option.bind_some, slices_Index_int_int.eq, e1, Option.bind_some, app_nil (by omega), Option.bind_some, hwk, hcut, Option.bind_some, learn_conflict_eq (okA_sub hD hsub) hL hn, Option.bind_some, hw]
    unfold shr
    cases hcf : confC v L (rm D[i] o) with
    | true =>
      rw [ct]
      exact learn_Clause.loop0 hD hL hn n (i + 1) (by omega) hsub (fun x hx => rm_mem (hm x (List.mem_cons_of_mem _ hx)) (fun e => hnd.2.1.1 (e ▸ hx)))
    | false =>
      rw [cf]
      exact learn_Clause.loop0 hD hL hn n (i + 1) (by omega) ho (fun x hx => hm x (List.mem_cons_of_mem _ hx))

theorem learn_Clause.loop1 {o : List Int} (hl : ∀ x ∈ o, 0 ≤ x ∧ x ≤ 100000) (hn : o.length ≤ 1000000) : ∀ (n i : Nat) {out : List Int}, i + n = o.length → out.length ≤ i →
    learn_Clause.l1 (o.length : Int) (i : Int) out o = some (sortI (out ++ (o.drop i).map neg), 0)
  | 0, i, out, hi, ho => by
    rw [learn_Clause.l1_eq, cd, if_neg (by omega), List.drop_of_length_le (by omega), List.map_nil, List.append_nil]
    unfold lim LIM
    rw [if_pos (by omega), Option.bind_some]
  | n + 1, i, out, hi, ho => by
    have hlt : i < o.length := by omega
    have hx := hl _ (List.getElem_mem hlt)
    have hw : IntKind.wrap .i64 ((i : Int) + 1) = ((i + 1 : Nat) : Int) := by rw [wr] <;> omega
    rw [learn_Clause.l1_eq, cd, if_pos (by omega), gsome hlt, Option.bind_some, Int.toNat_natCast, List.getElem?_eq_getElem hlt, Option.bind_some, bxor_one hx.1 (by omega), app_ok (by simp; omega), Option.bind_some, hw, learn_Clause.loop1 hl hn n (i + 1) (by omega) (by simp; omega), drop_cons hlt,
      List.map_cons, List.append_assoc]
    rfl

def lrnC (v : Int) (L : List (List Int)) (D : List Int) : List Int := sortI ((shr v L D D).map neg)

theorem learn_Clause_eq (hD : okA v D []) (hL : okL v L) (hn : L.length ≤ 20000) (hc : confC v L D = true) : learn_Clause v L D = some (lrnC v L D, 0) := by
  have hv := hD.vars
  have hs := hD.short
  have hsub := shr_sub (v := v) (L := L) D D
  have g := learn_Clause.loop0 hD hL hn D.length 0 (o := D) (by omega) (List.Sublist.refl _) (fun x hx => by rwa [List.drop_zero] at hx)
  rw [show ((0 : Nat) : Int) = 0 from rfl, List.drop_zero] at g
  have g1 := learn_Clause.loop1 (o := shr v L D D) (fun x hx => by have := hD.lits x (hsub.subset hx); omega) (by have := hsub.length_le; omega) (shr v L D D).length 0 (out := []) (by omega) (Nat.le_refl _)
  rw [show ((0 : Nat) : Int) = 0 from rfl, List.drop_zero, List.nil_append] at g1
  rw [learn_Clause.eq, learn_check_ok hD hL hn, Option.bind_some, cn, if_pos rfl, learn_conflict_eq hD hL hn, Option.bind_some, hc, cnot, ct, app_nil (by omega), Option.bind_some, g, g1]
  rfl

end

end Go.Proofs.YthbkhndapkbgbaaGreat
