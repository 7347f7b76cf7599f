/- Under assumptions, of plain values: when there is no model, and the core. -/
import Derived.Test.YtafogmegjlllkaaPS5
import Derived.Test.YtafogmegjlllkaaPU1
namespace Go.Proofs.Ytafogmegjlllkaa
open Go Go.Proofs.Ytafogmegjlllkaa.R
set_option linter.unusedVariables false

/-! ### No model -/

def noneC (v : Int) (L : List (List Int)) (A : List Int) : Bool := !(solR v (unitsC A ++ L)).1

section
variable {v : Int} {L L' : List (List Int)} {A B : List Int}

theorem okL_units (h : ∀ a ∈ A, isLit v a) : okL v (unitsC A) := fun c hc => by
  obtain ⟨a, ha, rfl⟩ := List.mem_map.1 hc
  exact ⟨fun l hl => by rw [List.mem_singleton] at hl; subst hl; exact h _ ha, List.pairwise_singleton ..⟩

theorem okL_asm (hL : okL v L) (h : ∀ a ∈ A, isLit v a) : okL v (unitsC A ++ L) := okL_append.2 ⟨okL_units h, hL⟩

theorem noneC_iff (hv : okV v) (hL : okL v L) (hA : ∀ a ∈ A, isLit v a) : noneC v L A = true ↔ ∀ W, ¬ Models (unitsC A ++ L) W := by
  have h := solR_ok hv (okL_asm hL hA)
  unfold noneC
  cases hs : (solR v (unitsC A ++ L)).1 with
  | true => exact ⟨fun e => (by cases e), fun e => absurd (h.sat hs).1.2.1 (e _)⟩
  | false => exact ⟨fun _ => h.none hv hs, fun _ => rfl⟩

theorem models_sub (h : ∀ a ∈ A, a ∈ B) {W : List Bool} (hm : Models (unitsC B ++ L) W) : Models (unitsC A ++ L) W := by
  rw [models_both, models_units] at hm ⊢
  exact ⟨fun a ha => hm.1 a (h a ha), hm.2⟩

theorem noneC_mono (hv : okV v) (hL : okL v L) (hB : ∀ a ∈ B, isLit v a) (h : ∀ a ∈ A, a ∈ B) (hn : noneC v L A = true) : noneC v L B = true := by
  rw [noneC_iff hv hL fun a ha => hB a (h a ha)] at hn
  rw [noneC_iff hv hL hB]
  exact fun W hW => hn W (models_sub h hW)

/-! ### The core -/

def coreC (v : Int) (L : List (List Int)) : List Int → List Int → List Int
  | [], o => o
  | d :: r, o => coreC v L r (if noneC v L (rm d o) then rm d o else o)

theorem coreC_sub : ∀ (r o : List Int), (coreC v L r o).Sublist o
  | [], o => List.Sublist.refl _
  | d :: r, o => by
    unfold coreC
    split
    · exact (coreC_sub r _).trans (rm_sub d o)
    · exact coreC_sub r o

end

/-! ### The answer -/

def solAR (v : Int) (A : List Int) (L : List (List Int)) : Bool × List Int × List (List Int) × Nat := solA v A (meas v [] [] + 1) L [] [] []

theorem invA0 {v : Int} (hv : okV v) {A : List Int} {L : List (List Int)} (hL : okL v L) : InvA v A L [] [] [] where
  ok := by rw [List.append_nil]; exact hL
  a := ⟨hv, by simp, List.Pairwise.nil, List.Pairwise.nil, by simp⟩
  led := LedK.empty hv
  dec := DecQ.empty
  chain := fun i hi => by simp at hi
  mes := Nat.zero_le _

theorem solAR_ok {v : Int} {A : List Int} (hA : okA v A []) {L : List (List Int)} (hL : okL v L) : AnsA v A L (solAR v A L) := by
  have := solA_ok hA (meas v [] [] + 1) (invA0 hA.vars hL) (Nat.lt_succ_self _)
  rwa [List.append_nil] at this

theorem solAR_none {v : Int} {A : List Int} (hA : okA v A []) {L : List (List Int)} (hL : okL v L) : (solAR v A L).1 = !noneC v L A := by
  have h := solAR_ok hA hL
  have hi := noneC_iff hA.vars hL hA.lits
  cases hs : (solAR v A L).1 with
  | true =>
    cases hn : noneC v L A with
    | false => rfl
    | true => exact absurd (h.sat hs).1.2.1 (hi.1 hn _)
  | false => rw [hi.2 (h.none hA.vars hA.lits hs)]; rfl

def ansA (v : Int) (A : List Int) (L : List (List Int)) : Ansr :=
  ((solAR v A L).1, if (solAR v A L).1 then mdl v (solAR v A L).2.1 else [], if (solAR v A L).1 then [] else coreC v L A A, (solAR v A L).2.2.1, ((solAR v A L).2.2.2 : Int))
def runA (v b : Int) (A : List Int) (L : List (List Int)) : Ans := if ((solAR v A L).2.2.2 : Int) ≤ b then (ansA v A L, 0) else (ans0, 55)

theorem logA_len {v : Int} {A : List Int} {L : List (List Int)} {r : Bool × List Int × List (List Int) × Nat} (h : AnsA v A L r) : r.2.2.1.length ≤ 2 ^ v.toNat := by
  have hb := h.bnd
  cases hr : r.1 with
  | true => have := (h.sat hr).2; omega
  | false =>
    obtain ⟨lg, c, e, e2, _⟩ := h.unsat hr
    rw [e, List.length_append, List.length_singleton]; omega

theorem smallA {v : Int} {A : List Int} (hA : okA v A []) {L : List (List Int)} (hL : okL v L) (hp : 2 ^ v.toNat ≤ 4096) : AnsS (ansA v A L) where
  m := by
    unfold ansA
    have := hA.vars
    cases (solAR v A L).1 with
    | true => show (mdl v _).length ≤ _; rw [mdl_len]; omega
    | false => simp
  co := by
    unfold ansA
    have h1 := hA.short
    have h2 := hA.vars
    have h3 := (coreC_sub (v := v) (L := L) A A).length_le
    cases (solAR v A L).1 with
    | true => simp
    | false => show (coreC v L A A).length ≤ _; omega
  log := by have := logA_len (solAR_ok hA hL); show (solAR v A L).2.2.1.length ≤ _; omega
  cl := fun c hc => by
    have := ((solAR_ok hA hL).ok c (List.mem_append_right _ hc)).len hA.vars
    omega

end Go.Proofs.Ytafogmegjlllkaa
