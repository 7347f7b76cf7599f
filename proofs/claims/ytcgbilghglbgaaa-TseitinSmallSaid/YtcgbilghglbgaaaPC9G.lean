/- gates.Cone: what the machine knows of it. -/
import Derived.Test.YtcgbilghglbgaaaPC9
namespace Go.Proofs.Ytcgbilghglbgaaa
open Go Go.Proofs.Ytcgbilghglbgaaa.R
set_option linter.unusedVariables false

theorem gates_Cone_eq {I : Int} {Ls As : List (Int × Int)} {Bs Cs : List Int} (h : Sized I Ls As Bs Cs) (hc : checkG I Ls As Bs Cs = 0) {x : Int} (hx : litN (size I Ls As) x) : gates_Cone I Ls As Bs Cs x = some (sortI (coneL I Ls.length As x), 0) := by
  unfold gates_Cone
  rw [D_hk (k := coneHK sortI) (by kernel_rfl)]
  · show (if coneB I Ls.length As x = true then some (sortI (coneL I Ls.length As x), (0 : Int)) else none) = _
    rw [if_pos (coneB_of hc hx)]
  · intro q hq
    obtain ⟨k1, k2, k3⟩ := checkG_zero hc
    obtain ⟨q1, q2, _⟩ := k2
    have hq' : q ∈ coneAsks (.agg [.d (.int .i64) I, .d (.list (.pair (.int .i64) (.int .i64))) Ls, .d (.list (.pair (.int .i64) (.int .i64))) As, .d (.list (.int .i64)) Bs, .d (.list (.int .i64)) Cs]) (I + (Ls.length : Int) + (As.length : Int)) (Int.toNat (1 + I) + Ls.length + As.length) := hq
    unfold coneAsks at hq'
    rcases List.mem_cons.1 hq' with rfl | hq'
    · refine ⟨by kernel_rfl, ?_⟩
      have := gates_Vars_eq h
      rw [if_pos hc] at this
      exact this
    · obtain ⟨z, hz, rfl⟩ := List.mem_map.1 hq'
      have hz' := List.mem_range.1 hz
      exact ⟨by kernel_rfl, lits_Var_eq (z := (z : Int)) (by omega) (by omega)⟩

end Go.Proofs.Ytcgbilghglbgaaa
