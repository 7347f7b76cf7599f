/- The reference of the solver, of plain values: what is implied by decisions alone; what is learned of them. -/
import Derived.Test.YthbkhndapkbgbaaGreatPS5
namespace Go.Proofs.YthbkhndapkbgbaaGreat
open Go Go.Proofs.YthbkhndapkbgbaaGreat.R
set_option linter.unusedVariables false

theorem ref17.l0' {L : List (List Int)} {v : Int} (hL : okL v L) (hn : L.length ≤ 20000) {t : List Int} (ht : okA v t []) : ∀ (n : Nat) (o : List Int), v - o.length < n → okA v o [] → forced v L t o → (∀ l ∈ t, l ∈ o) →
    ∃ o', spiritlevelref17_Implied.l0 L o = some (o', confC v L t) ∧ okA v o' [] ∧ (confC v L t = false → closed L o' ∧ forced v L t o' ∧ ∀ l ∈ t, l ∈ o')
  | 0, o, hlt, ho, _, _ => by have := ho.short; omega
  | n + 1, o, hlt, ho, hf, hto => by
    have h1 := ref17.l1 (before := (o.length : Int)) hL hn L.length 0 o (by omega) ho
    rw [show ((0 : Nat) : Int) = 0 from rfl, List.drop_zero] at h1
    rw [spiritlevelref17_Implied.l0_eq, h1]
    unfold finP
    obtain ⟨i1, i2, ⟨u, i3⟩, i4, i5⟩ := implP_ok hL L (fun c hc => hc) ho hf
    obtain ⟨p1, w, p2⟩ := propC_okA hL (v + 1).toNat ht
    by_cases hb : (implP o L).2 = true
    · rw [hb, ct]
      suffices hs : confC v L t = true by rw [hs]; exact ⟨_, rfl, i1, by simp⟩
      obtain ⟨c, hc, hz⟩ := i4 hb
      unfold confC
      rw [decide_eq_true_iff]
      apply Classical.byContradiction
      intro hneg
      have hcl : closed L (propC L (v + 1).toNat t).1 := prop_closed hL ht (by omega)
      have hsub := i2 _ _ p1 hcl (fun l hl => by rw [p2]; exact List.mem_append_left _ hl)
      exact (hcl c hc).1 (stC_zero.2 fun l hl => (isS_sub i1 p1 hsub).1 (hz l hl))
    · rw [Bool.not_eq_true _ |>.mp hb, cf]
      by_cases hlen : ((implP o L).1.length : Int) = (o.length : Int)
      · rw [if_pos hlen]
        have hcl : closed L o := i5 (by simpa using hb) (by omega)
        have hu : u = [] := by
          rw [i3, List.length_append] at hlen
          exact List.eq_nil_of_length_eq_zero (by omega)
        have hio : (implP o L).1 = o := by rw [i3, hu, List.append_nil]
        suffices hs : confC v L t = false by rw [hs, hio]; exact ⟨_, rfl, ho, fun _ => ⟨hcl, hf, hto⟩⟩
        have := (prop_sub hL ho hcl (v + 1).toNat ht hto).1
        unfold confC
        rw [decide_eq_false_iff_not]
        omega
      · rw [if_neg hlen]
        have hlu : o.length < (implP o L).1.length := by
          have : (implP o L).1.length = o.length + u.length := by rw [i3, List.length_append]
          omega
        exact ref17.l0' hL hn ht n _ (by omega) i1 i2 (fun l hl => by rw [i3]; exact List.mem_append_left _ (hto l hl))

theorem ref17_Implied_eq {L : List (List Int)} {v : Int} (hL : okL v L) (hn : L.length ≤ 20000) {t : List Int} (ht : okA v t []) :
    ∃ o', spiritlevelref17_Implied L t = some (o', confC v L t) ∧ okA v o' [] ∧ (confC v L t = false → closed L o' ∧ forced v L t o' ∧ ∀ l ∈ t, l ∈ o') := by
  have hs := ht.short
  have hv := ht.vars
  obtain ⟨o', h1, h2, h3⟩ := ref17.l0' hL hn ht (v + 1).toNat t (by omega) ht (fun Y s _ _ h => h) (fun l hl => hl)
  exact ⟨o', by rw [spiritlevelref17_Implied.eq, app_ok (by simp; omega), Option.bind_some, List.nil_append, h1], h2, h3⟩

theorem decs_prop {v : Int} {t s P u : List Int} (h : okA v t s) (hu : P = t ++ u) : decs P s = decs t s := by
  unfold decs
  refine List.map_congr_left fun j hj => ?_
  have hj := List.mem_range.1 hj
  exact same_dc h hj hj rfl (m := t.length) (by rw [hu]; simp) (keep_bnd h hj)

section
variable {v : Int} {L0 : List (List Int)} {t s : List Int} {log : List (List Int)}

/-- Without a conflict, what the decisions imply is what is true. -/
theorem Inv.implied (h : Inv v L0 t s log) (hno : (propC (L0 ++ log) (v + 1).toNat t).2 < 0) {o : List Int} (ho : okA v o []) (hcl : closed (L0 ++ log) o) (hf : forced v (L0 ++ log) (decs t s) o) (hd : ∀ l ∈ decs t s, l ∈ o) (l : Int) :
    l ∈ o ↔ l ∈ (propC (L0 ++ log) (v + 1).toNat t).1 := by
  obtain ⟨hA, u, hu⟩ := propC_okA h.ok (v + 1).toNat h.a
  have hP := h.prop.1
  constructor
  · refine fun hl => hf _ _ hA (prop_closed h.ok h.a hno) (fun d hd => ?_) l hl
    obtain ⟨j, hj, rfl⟩ := List.mem_map.1 hd
    rw [hu]
    exact List.mem_append_left _ (dc_mem h.a (List.mem_range.1 hj))
  · refine fun hl => hP.led_all ho hcl (fun d hd' => hd d ?_) l hl
    rwa [decs_prop h.a hu] at hd'

theorem Inv.noconf (h : Inv v L0 t s log) (hno : (propC (L0 ++ log) (v + 1).toNat t).2 < 0) : confC v (L0 ++ log) (decs t s) = false := by
  obtain ⟨hA, u, hu⟩ := propC_okA h.ok (v + 1).toNat h.a
  have hD := okA_decs h.a
  have := (prop_sub h.ok hA (prop_closed h.ok h.a hno) (v + 1).toNat hD fun l hl => by
    obtain ⟨j, hj, rfl⟩ := List.mem_map.1 hl
    rw [hu]
    exact List.mem_append_left _ (dc_mem h.a (List.mem_range.1 hj))).1
  unfold confC
  rw [decide_eq_false_iff_not]
  omega

end

end Go.Proofs.YthbkhndapkbgbaaGreat
