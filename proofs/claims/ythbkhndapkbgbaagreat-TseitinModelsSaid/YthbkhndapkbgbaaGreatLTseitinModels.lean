/- The law TseitinModels, out of what its function computes (tseitinModels.pure). -/
import Derived.Test.YthbkhndapkbgbaaGreatQ4
import Derived.Test.YthbkhndapkbgbaaGreatRows
import Derived.WalkKit
import Derived.ProofKit
import Derived.OpenShut
import Derived.ChangeOld
import Derived.Below
import Derived.SizedLaws
namespace Go.Proofs.YthbkhndapkbgbaaGreat.tseitinModels
open Go Go.Proofs.YthbkhndapkbgbaaGreat.R Go.ChangeShapes Go.WideShapes Go.ChangeAt Go.RowKit
set_option linter.unusedVariables false
theorem own : ownKnob Tryz.prog.godebug = none := by kernel_rfl
theorem laidOut : laidOutB Tryz.prog = true := by kernel_rfl
/-- What is to be shown of plain values. -/
def Pure : Prop := ∀ (y0 : Int × (List (Int × Int)) × (List (Int × Int)) × (List Int) × List Int) (y1 : List Int) (y2 : Int), okD (.pair (.int .i64) (.pair (.list (.pair (.int .i64) (.int .i64))) (.pair (.list (.pair (.int .i64) (.int .i64))) (.pair (.list (.int .i64)) (.list (.int .i64)))))) y0 → okD (.list (.int .i64)) y1 → okD (.int .i64) y2 → spiritlevellaw22_TseitinModels y0.1 y0.2.1 y0.2.2.1 y0.2.2.2.1 y0.2.2.2.2 y1 y2 = some true
set_option maxRecDepth 100000 in
theorem lifted (pure : Pure) (os : Os) (started : os.Started) (H : Type) (enc : TypeId × Value → H) :
    ReturnsInHanded {} Tryz.checked os 4 .any (Rows.tseitinModelsSpec.pre6 enc Tryz.prog Tryz.f4 Rows.tseitinModelsRow.domain false) (Rows.tseitinModelsSpec.post enc Tryz.prog Tryz.f4 false true false false) := by
  refine returnsInHanded_of_change_sized (C := Tryz.checked) own started (by kernel_rfl) Tryz.func4
    (ChangeSpec.witness6 (enc := enc) (C := Tryz.checked) false ⟨#[], #[.agg #[.int .i64 0, .slice none 0 0, .slice none 0 0, .slice none 0 0, .slice none 0 0], .slice none 0 0, .int .i64 0], []⟩ 8 (by kernel_rfl) (by kernel_rfl) (by kernel_rfl) (by kernel_rfl)) ?_
  intro W base args ds gs before hval0 hW hcnd hsz0 _
  have hsz : (DataW.weightsEach Tryz.prog (Tryz.f4.params.toList ++ Rows.tseitinModelsSpec.plain.varTypes Tryz.prog) (ds ++ gs)).all (· ≤ reachBytes) = true := hsz0
  have hval : ∀ (j : Nat) t v, Tryz.f4.params[j]? = some t → args[j]? = some v → Value.okWide Tryz.prog W .any base t v := hval0
  have hW' := hW
  obtain ⟨p, q, hA0, hV, rfl, hfz, hnd⟩ := hW
  have hA : DataW.TrodAll enc Tryz.prog W 0 (fun _ => true) true Tryz.f4.params.toList args.toList ds p := hA0
  rw [Tryz.params4] at hA hval hsz
  obtain ⟨v0, vs0, d0, ds0, p0, q0, hargs, rfl, rfl, h0, r0⟩ := trodAll_cons hA
  obtain ⟨v1, vs1, d1, ds1, p1, q1, rfl, rfl, rfl, h1, r1⟩ := trodAll_cons r0
  obtain ⟨v2, vs2, d2, ds2, p2, q2, rfl, rfl, rfl, h2, r2⟩ := trodAll_cons r1
  obtain ⟨rfl, rfl, rfl⟩ := trodAll_nil r2
  obtain rfl : args = #[v0, v1, v2] := by cases args; simp_all
  obtain ⟨rfl, rfl⟩ := trodVars_none hV
  have lt0 : ∀ x ∈ p0, x.block < W.heap.size := by obtain ⟨m, hm⟩ := h0; exact DataW.trod_lt m _ _ _ hm
  obtain ⟨y0, e0, k0⟩ := arg_open (τ := (.pair (.int .i64) (.pair (.list (.pair (.int .i64) (.int .i64))) (.pair (.list (.pair (.int .i64) (.int .i64))) (.pair (.list (.int .i64)) (.list (.int .i64))))))) (e_ok.env.ty 44 (.pair (.int .i64) (.pair (.list (.pair (.int .i64) (.int .i64))) (.pair (.list (.pair (.int .i64) (.int .i64))) (.pair (.list (.int .i64)) (.list (.int .i64)))))) (by kernel_rfl)) (hval 0 44 v0 rfl rfl) h0 (weightsEach_get hsz (i := 0) rfl rfl)
  have lt1 : ∀ x ∈ p1, x.block < W.heap.size := by obtain ⟨m, hm⟩ := h1; exact DataW.trod_lt m _ _ _ hm
  obtain ⟨y1, e1, k1⟩ := arg_open (τ := (.list (.int .i64))) (e_ok.env.ty 26 (.list (.int .i64)) (by kernel_rfl)) (hval 1 26 v1 rfl rfl) h1 (weightsEach_get hsz (i := 1) rfl rfl)
  have lt2 : ∀ x ∈ p2, x.block < W.heap.size := by obtain ⟨m, hm⟩ := h2; exact DataW.trod_lt m _ _ _ hm
  obtain ⟨y2, e2, k2⟩ := arg_open (τ := (.int .i64)) (e_ok.env.ty 3 (.int .i64) (by kernel_rfl)) (hval 2 3 v2 rfl rfl) h2 (weightsEach_get hsz (i := 2) rfl rfl)
  refine (law_calls (P := Tryz.prog) (E := E) e_ok mixed (g := 4) (ms := [.ro, .ro, .ro]) (by kernel_rfl) (by kernel_rfl) (vs_cons e0 (vs_cons e1 (vs_cons e2 .nil))) (pure y0 y1 y2 k0 k1 k2)).mono fun e W' ⟨he, bel⟩ => ?_
  subst he
  exact ⟨_, rfl, _, _, _, [], _, [], hW', trodAll_mk1 (shut_bool Tryz.underlying4 _), (trodAll_cons_mk (Below.trod laidOut (by kernel_rfl) (of_decide_eq_true (by kernel_rfl)) h0 bel lt0) (trodAll_cons_mk (Below.trod laidOut (by kernel_rfl) (of_decide_eq_true (by kernel_rfl)) h1 bel lt1) (trodAll_cons_mk (Below.trod laidOut (by kernel_rfl) (of_decide_eq_true (by kernel_rfl)) h2 bel lt2) trodAll_mk0))), rfl, bel.frame _, fun h => by cases h⟩
theorem over (pure : Pure) : Rows.tseitinModelsRow.holds Tryz.pinned (OpenSpec.ofChange Rows.tseitinModelsSpec) :=
  OpenClaim.holds_of_wide 4 Tryz.f4 rfl rfl rfl rfl rfl rfl rfl ⟨rfl, rfl, rfl, rfl, rfl⟩ rfl rfl rfl rfl rfl (by kernel_rfl) Tryz.func4 (by kernel_rfl)
    (of_decide_eq_true (by kernel_rfl)) (by unfold Func.isWrapper; first | (rw [if_pos (by decide +kernel)]; kernel_rfl) | (rw [if_neg (by decide +kernel)]; exact ⟨rfl, rfl⟩))
    (fun os started H enc _ => lifted pure os started H enc)
theorem said (pure : Pure) : Rows.TseitinModelsSaid := over pure
end Go.Proofs.YthbkhndapkbgbaaGreat.tseitinModels
