/- Circuits, of plain values: gates.Check, gates.Vars and the reference 2. -/
import Derived.Test.YtjkoadoekaplpaaGreatP4
namespace Go.Proofs.YtjkoadoekaplpaaGreat
open Go Go.Proofs.YtjkoadoekaplpaaGreat.R
set_option linter.unusedVariables false

abbrev TP : Ty := .pair (.int .i64) (.int .i64)
abbrev TC : Ty := .pair (.int .i64) (.pair (.list TP) (.pair (.list TP) (.pair TL TL)))

/-- A circuit's parts are of the sizes that there are. -/
structure Sized (I : Int) (Ls As : List (Int × Int)) (Bs Cs : List Int) : Prop where
  i : in64 I
  ls : Ls.length ≤ 140737488351232 ∧ ∀ x ∈ Ls, in64 x.1 ∧ in64 x.2
  as_ : As.length ≤ 140737488351232 ∧ ∀ x ∈ As, in64 x.1 ∧ in64 x.2
  bs : Bs.length ≤ 140737488351232 ∧ ∀ x ∈ Bs, in64 x
  cs : Cs.length ≤ 140737488351232 ∧ ∀ x ∈ Cs, in64 x

theorem okTC {c : Int × List (Int × Int) × List (Int × Int) × List Int × List Int} (h : okD TC c) : Sized c.1 c.2.1 c.2.2.1 c.2.2.2.1 c.2.2.2.2 where
  i := wf64 h.1
  ls := ⟨h.2.1.1, fun x hx => ⟨wf64 (h.2.1.2 x hx).1, wf64 (h.2.1.2 x hx).2⟩⟩
  as_ := ⟨h.2.2.1.1, fun x hx => ⟨wf64 (h.2.2.1.2 x hx).1, wf64 (h.2.2.1.2 x hx).2⟩⟩
  bs := okTL h.2.2.2.1
  cs := okTL h.2.2.2.2

/-- A literal of so many variables. -/
abbrev litN (n l : Int) : Prop := 0 ≤ l ∧ l / 2 ≤ n
abbrev latN (n : Int) (x : Int × Int) : Prop := litN n x.1 ∧ 0 ≤ x.2 ∧ x.2 ≤ 2

/-- Gates, from a variable on. -/
def okG : Int → List (Int × Int) → Bool
  | _, [] => true
  | n, x :: r => decide (0 ≤ x.2) && decide (x.2 ≤ x.1) && decide (x.1 / 2 < n) && okG (n + 1) r

def few (I : Int) (Ls As : List (Int × Int)) (Bs Cs : List Int) : Prop := I ≤ 1000 ∧ I + Ls.length + As.length ≤ 1000 ∧ Bs.length ≤ 100 ∧ Cs.length ≤ 100
instance (I : Int) (Ls As : List (Int × Int)) (Bs Cs : List Int) : Decidable (few I Ls As Bs Cs) := by unfold few; infer_instance

def size (I : Int) (Ls As : List (Int × Int)) : Int := I + Ls.length + As.length

def goodC (I : Int) (Ls As : List (Int × Int)) (Bs Cs : List Int) : Prop :=
  (∀ l ∈ Bs, litN (size I Ls As) l) ∧ (∀ l ∈ Cs, litN (size I Ls As) l) ∧ (∀ x ∈ Ls, latN (size I Ls As) x) ∧ okG (1 + I + Ls.length) As = true
instance (I : Int) (Ls As : List (Int × Int)) (Bs Cs : List Int) : Decidable (goodC I Ls As Bs Cs) := by unfold goodC; infer_instance

def checkG (I : Int) (Ls As : List (Int × Int)) (Bs Cs : List Int) : Int := if I < 0 then 8 else if few I Ls As Bs Cs then (if goodC I Ls As Bs Cs then 0 else 8) else 4

section
variable {I : Int} {Ls As : List (Int × Int)} {Bs Cs : List Int}

theorem any_not {α : Type} {l : List α} {p : α → Bool} {q : α → Prop} (h : ∀ x ∈ l, (p x = false ↔ q x)) : l.any p = false ↔ ∀ x ∈ l, q x := by
  rw [List.any_eq_false]
  exact ⟨fun g x hx => (h x hx).1 (by simpa using g x hx), fun g x hx => by simpa using (h x hx).2 (g x hx)⟩

theorem shr1 (x : Int) : bshr .i64 x 1 = x / 2 := by
  unfold bshr
  rw [show min (Int.toNat 1) IntKind.i64.bits = 1 from rfl, Int.fdiv_eq_ediv_of_nonneg _ (by decide)]
  rfl

theorem outF_no {n x : Int} : outF (n + 1) x = false ↔ litN n x := by
  unfold outF
  rw [shr1, Bool.or_eq_false_iff, decide_eq_false_iff_not, decide_eq_false_iff_not]
  omega

theorem wrongF_no {n : Int} {x : Int × Int} : wrongF (n + 1) x = false ↔ latN n x := by
  unfold wrongF
  rw [Bool.or_eq_false_iff, Bool.or_eq_false_iff, outF_no, decide_eq_false_iff_not, decide_eq_false_iff_not]
  omega

theorem gates_Check.loop {s0 s1 s3 : Int} (h : As.length ≤ 140737488351232 ∧ ∀ x ∈ As, in64 x.1 ∧ in64 x.2) {n : Int} (hn : 0 ≤ n ∧ n ≤ 1000000) (hA : n + As.length ≤ 1000000) : ∀ (m i : Nat), i + m = As.length →
    gates_Check.l0 As (As.length : Int) (i : Int) [s0, s1, n, s3] = some (if okG (n + i) (As.drop i) = true then 0 else 8)
  | 0, i, hi => by
    rw [gates_Check.l0_eq, cd, if_neg (by omega), List.drop_of_length_le (by omega)]
    rfl
  | m + 1, i, hi => by
    have hlt : i < As.length := by omega
    obtain ⟨h1, h2⟩ := h.2 _ (List.getElem_mem hlt)
    have hw : IntKind.wrap .i64 ((i : Int) + 1) = ((i + 1 : Nat) : Int) := by rw [wr] <;> omega
    have hw2 : IntKind.wrap .i64 (2 * IntKind.wrap .i64 (n + (i : Int))) = 2 * (n + (i : Int)) := by rw [wr (x := n + (i : Int)) (by omega) (by omega), wr (by omega) (by omega)]
    rw [gates_Check.l0_eq, cd, if_pos (by omega), gsome hlt, Option.bind_some, cd, drop_cons hlt]
    unfold okG
    by_cases c1 : (As[i]).2 < 0
    · rw [if_pos c1, decide_eq_false (by omega : ¬ 0 ≤ (As[i]).2)]; rfl
    rw [if_neg c1, cd, decide_eq_true (by omega : 0 ≤ (As[i]).2), Bool.true_and]
    by_cases c2 : (As[i]).1 < (As[i]).2
    · rw [if_pos c2, decide_eq_false (by omega : ¬ (As[i]).2 ≤ (As[i]).1)]; rfl
    rw [if_neg c2, decide_eq_true (by omega : (As[i]).2 ≤ (As[i]).1), Bool.true_and, show geti [s0, s1, n, s3] 2 = some n from rfl, Option.bind_some, show ([s0, s1, n, s3] : List Int)[Int.toNat 2]? = some n from rfl, Option.bind_some, hw2, cd]
    by_cases c3 : (As[i]).1 ≥ 2 * (n + (i : Int))
    · rw [if_pos c3, decide_eq_false (by omega : ¬ (As[i]).1 / 2 < n + (i : Int))]; rfl
    rw [if_neg c3, decide_eq_true (by omega : (As[i]).1 / 2 < n + (i : Int)), Bool.true_and, hw, gates_Check.loop h hn hA m (i + 1) (by omega), show n + ((i + 1 : Nat) : Int) = n + (i : Int) + 1 from by omega]

theorem gates_Check_eq (h : Sized I Ls As Bs Cs) : gates_Check I Ls As Bs Cs = some (checkG I Ls As Bs Cs) := by
  have h1 := h.ls.1
  have h2 := h.as_.1
  have h3 := h.bs.1
  have h4 := h.cs.1
  unfold checkG
  rw [gates_Check.eq, cd]
  by_cases c1 : I < 0
  · rw [if_pos c1, if_pos c1]
  rw [if_neg c1, if_neg c1, cd]
  by_cases c2 : I > 1000
  · rw [if_pos c2, if_neg (fun g => by have := g.1; omega)]
  have w1 : IntKind.wrap .i64 (1 + I) = 1 + I := by rw [wr] <;> omega
  have w2 : IntKind.wrap .i64 (1 + I + (Ls.length : Int)) = 1 + I + (Ls.length : Int) := by rw [wr] <;> omega
  have w3 : IntKind.wrap .i64 (1 + I + (Ls.length : Int) + (As.length : Int)) = size I Ls As + 1 := by unfold size; rw [wr] <;> omega
  have w4 : IntKind.wrap .i64 (size I Ls As + 1 - 1) = size I Ls As := by unfold size; rw [wr] <;> omega
  rw [if_neg c2, w1, w2, w3, show geti [1, 1 + I, 1 + I + (Ls.length : Int), size I Ls As + 1] 3 = some (size I Ls As + 1) from rfl, Option.bind_some, w4, cd]
  by_cases c3 : size I Ls As > 1000
  · rw [if_pos c3, if_neg (fun g => by have := g.2.1; unfold size at c3; omega)]
  rw [if_neg c3, cd]
  by_cases c4 : (if (Bs.length : Int) < (Cs.length : Int) then (Cs.length : Int) else (Bs.length : Int)) > 100
  · rw [if_pos c4, if_neg (fun g => by have := g.2.2; split at c4 <;> omega)]
  have c4' : Bs.length ≤ 100 ∧ Cs.length ≤ 100 := by split at c4 <;> omega
  have c3' : I + Ls.length + As.length ≤ 1000 := by unfold size at c3; omega
  have hf : few I Ls As Bs Cs := ⟨by omega, by unfold size at c3; omega, c4'.1, c4'.2⟩
  rw [if_neg c4, if_pos hf, cd, if_pos (by unfold LIM; omega)]
  have e1 : Bs.any (outF (size I Ls As + 1)) = false ↔ ∀ l ∈ Bs, litN (size I Ls As) l := any_not fun x _ => outF_no
  have e2 : Cs.any (outF (size I Ls As + 1)) = false ↔ ∀ l ∈ Cs, litN (size I Ls As) l := any_not fun x _ => outF_no
  have e3 : Ls.any (wrongF (size I Ls As + 1)) = false ↔ ∀ l ∈ Ls, latN (size I Ls As) l := any_not fun x _ => wrongF_no
  cases q1 : Bs.any (outF (size I Ls As + 1)) with
  | true => rw [ct, if_neg (fun g => by rw [e1.2 g.1] at q1; cases q1)]
  | false =>
    rw [cf, cd, if_pos (by unfold LIM; omega)]
    cases q2 : Cs.any (outF (size I Ls As + 1)) with
    | true => rw [ct, if_neg (fun g => by rw [e2.2 g.2.1] at q2; cases q2)]
    | false =>
      rw [cf, cd, if_pos (by unfold LIM; omega)]
      cases q3 : Ls.any (wrongF (size I Ls As + 1)) with
      | true => rw [ct, if_neg (fun g => by rw [e3.2 g.2.2.1] at q3; cases q3)]
      | false =>
        have := gates_Check.loop (s0 := 1) (s1 := 1 + I) (s3 := size I Ls As + 1) h.as_ (n := 1 + I + (Ls.length : Int)) (by unfold size at c3; omega) (by unfold size at c3; omega) As.length 0 (by omega)
        rw [show ((0 : Nat) : Int) = 0 from rfl, List.drop_zero, Int.add_zero] at this
        rw [cf, this]
        by_cases q4 : okG (1 + I + (Ls.length : Int)) As = true
        · rw [if_pos q4, if_pos ⟨e1.1 q1, e2.1 q2, e3.1 q3, q4⟩]
        · rw [if_neg q4, if_neg (fun g => q4 g.2.2.2)]

theorem checkG_zero (h : checkG I Ls As Bs Cs = 0) : 0 ≤ I ∧ few I Ls As Bs Cs ∧ goodC I Ls As Bs Cs := by
  unfold checkG at h
  split at h
  · omega
  · split at h
    · split at h
      · exact ⟨by omega, by assumption, by assumption⟩
      · omega
    · omega

theorem gates_Vars_eq (h : Sized I Ls As Bs Cs) : gates_Vars I Ls As Bs Cs = some (if checkG I Ls As Bs Cs = 0 then (size I Ls As, 0) else (0, checkG I Ls As Bs Cs)) := by
  rw [gates_Vars.eq, gates_Check_eq h, Option.bind_some, cn]
  by_cases c : checkG I Ls As Bs Cs = 0
  · obtain ⟨k1, k2, _⟩ := checkG_zero c
    obtain ⟨k2, k3, _⟩ := k2
    have w1 : IntKind.wrap .i64 (1 + I) = 1 + I := by rw [wr] <;> omega
    have w2 : IntKind.wrap .i64 (1 + I + (Ls.length : Int)) = 1 + I + (Ls.length : Int) := by rw [wr] <;> omega
    have w3 : IntKind.wrap .i64 (1 + I + (Ls.length : Int) + (As.length : Int)) = size I Ls As + 1 := by unfold size; rw [wr] <;> omega
    have w4 : IntKind.wrap .i64 (size I Ls As + 1 - 1) = size I Ls As := by unfold size; rw [wr] <;> omega
    rw [if_pos c, if_pos c, w1, w2, w3, show geti [1, 1 + I, 1 + I + (Ls.length : Int), size I Ls As + 1] 3 = some (size I Ls As + 1) from rfl, Option.bind_some, w4]
  · rw [if_neg c, if_neg c]

/-! ### The reference -/

theorem ref02_Size_eq (h : Sized I Ls As Bs Cs) (hI : 0 ≤ I ∧ I ≤ 1000) : spiritlevelref02_Size I Ls As Bs Cs = some (size I Ls As) := by
  have h1 := h.ls.1
  have h2 := h.as_.1
  unfold size
  rw [spiritlevelref02_Size.eq, wr (x := I + (Ls.length : Int)) (by omega) (by omega), wr (by omega) (by omega)]

theorem td2 {l : Int} (h0 : 0 ≤ l) (h : in64 l) : IntKind.wrap .i64 (Int.tdiv l 2) = l / 2 := by rw [td h0 (by unfold in64 at h; omega)]

theorem ref02_literals.loop {n : Int} {l : List Int} (hn : l.length ≤ 140737488351232) (hr : ∀ x ∈ l, in64 x) : ∀ (m i : Nat), i + m = l.length → spiritlevelref02_literals.l0 l n (i : Int) = some (decide (∀ x ∈ l.drop i, litN n x))
  | 0, i, hi => by
    rw [spiritlevelref02_literals.l0_eq, cd, if_neg (by omega), List.drop_of_length_le (by omega)]; simp
  | m + 1, i, hi => by
    have hlt : i < l.length := by omega
    have hx := hr _ (List.getElem_mem hlt)
    have hw : IntKind.wrap .i64 ((i : Int) + 1) = ((i + 1 : Nat) : Int) := by rw [wr] <;> omega
    rw [spiritlevelref02_literals.l0_eq, cd, if_pos (by omega), gsome hlt, Option.bind_some, cd, drop_cons hlt]
    by_cases c1 : l[i] < 0
    · rw [if_pos c1, decide_eq_false]
      intro g
      have := (g _ (List.mem_cons_self ..)).1
      omega
    rw [if_neg c1, Option.bind_some, td2 (by omega) hx, cd]
    by_cases c2 : l[i] / 2 > n
    · rw [if_pos c2, decide_eq_false]
      intro g
      have := (g _ (List.mem_cons_self ..)).2
      omega
    · rw [if_neg c2, hw, ref02_literals.loop hn hr m (i + 1) (by omega)]
      congr 1
      rw [decide_eq_decide, List.forall_mem_cons]
      exact ⟨fun g => ⟨⟨by omega, by omega⟩, g⟩, fun g => g.2⟩

theorem ref02_literals_eq {n : Int} {l : List Int} (hn : l.length ≤ 140737488351232) (hr : ∀ x ∈ l, in64 x) : spiritlevelref02_literals l n = some (decide (∀ x ∈ l, litN n x)) := by
  rw [spiritlevelref02_literals.eq]
  have := ref02_literals.loop (n := n) hn hr l.length 0 (by omega)
  rwa [List.drop_zero] at this

theorem ref02_Check.loop1 (h : Sized I Ls As Bs Cs) (hI : 0 ≤ I ∧ I ≤ 1000) : ∀ (m i : Nat), i + m = As.length →
    spiritlevelref02_Check.l1 (i : Int) I Ls As Bs Cs = some (if okG (1 + I + Ls.length + i) (As.drop i) = true then 0 else 8)
  | 0, i, hi => by
    rw [spiritlevelref02_Check.l1_eq, cd, if_neg (by omega), List.drop_of_length_le (by omega)]
    rfl
  | m + 1, i, hi => by
    have hlt : i < As.length := by omega
    have hl1 := h.ls.1
    have hl2 := h.as_.1
    obtain ⟨h1, h2⟩ := h.as_.2 _ (List.getElem_mem hlt)
    have hw : IntKind.wrap .i64 ((i : Int) + 1) = ((i + 1 : Nat) : Int) := by rw [wr] <;> omega
    have hw2 : IntKind.wrap .i64 (IntKind.wrap .i64 (I + (Ls.length : Int)) + (i : Int)) = I + Ls.length + i := by rw [wr (x := I + (Ls.length : Int)) (by omega) (by omega), wr (by omega) (by omega)]
    rw [spiritlevelref02_Check.l1_eq, cd, if_pos (by omega), gsome hlt, Option.bind_some, cd, drop_cons hlt]
    unfold okG
    by_cases c1 : (As[i]).2 < 0
    · rw [if_pos c1, decide_eq_false (by omega : ¬ 0 ≤ (As[i]).2)]; rfl
    rw [if_neg c1, cd, decide_eq_true (by omega : 0 ≤ (As[i]).2), Bool.true_and]
    by_cases c2 : (As[i]).1 < (As[i]).2
    · rw [if_pos c2, decide_eq_false (by omega : ¬ (As[i]).2 ≤ (As[i]).1)]; rfl
    rw [if_neg c2, decide_eq_true (by omega : (As[i]).2 ≤ (As[i]).1), Bool.true_and, td2 (by omega) h1, hw2, cd]
    by_cases c3 : (As[i]).1 / 2 > I + Ls.length + i
    · rw [if_pos c3, decide_eq_false (by omega : ¬ (As[i]).1 / 2 < 1 + I + (Ls.length : Int) + (i : Int))]; rfl
    rw [if_neg c3, decide_eq_true (by omega : (As[i]).1 / 2 < 1 + I + (Ls.length : Int) + (i : Int)), Bool.true_and, hw, ref02_Check.loop1 h hI m (i + 1) (by omega), show 1 + I + (Ls.length : Int) + ((i + 1 : Nat) : Int) = 1 + I + (Ls.length : Int) + (i : Int) + 1 from by omega]

theorem ref02_Check.loop0 (h : Sized I Ls As Bs Cs) (hI : 0 ≤ I ∧ I ≤ 1000) {n : Int} : ∀ (m i : Nat), i + m = Ls.length →
    spiritlevelref02_Check.l0 n (i : Int) I Ls As Bs Cs = some (if (∀ x ∈ Ls.drop i, latN n x) ∧ okG (1 + I + Ls.length) As = true then 0 else 8)
  | 0, i, hi => by
    have := ref02_Check.loop1 h hI As.length 0 (by omega)
    rw [show ((0 : Nat) : Int) = 0 from rfl, List.drop_zero, Int.add_zero] at this
    rw [spiritlevelref02_Check.l0_eq, cd, if_neg (by omega), List.drop_of_length_le (by omega), this]
    simp
  | m + 1, i, hi => by
    have hlt : i < Ls.length := by omega
    obtain ⟨h1, h2⟩ := h.ls.2 _ (List.getElem_mem hlt)
    have hl := h.ls.1
    have hw : IntKind.wrap .i64 ((i : Int) + 1) = ((i + 1 : Nat) : Int) := by rw [wr] <;> omega
    rw [spiritlevelref02_Check.l0_eq, cd, if_pos (by omega), gsome hlt, Option.bind_some, ref02_literals_eq (by simp) (fun x hx => by rw [List.mem_singleton] at hx; subst hx; exact h1), Option.bind_some, cnot, cd, drop_cons hlt]
    by_cases c1 : litN n (Ls[i]).1
    · rw [if_pos (by simpa using c1), Option.bind_some, cd]
      by_cases c2 : (Ls[i]).2 < 0
      · rw [if_pos c2, if_neg]
        intro g
        have := (g.1 _ (List.mem_cons_self ..)).2.1
        omega
      rw [if_neg c2, Option.bind_some, cd]
      by_cases c3 : (Ls[i]).2 > 2
      · rw [if_pos c3, if_neg]
        intro g
        have := (g.1 _ (List.mem_cons_self ..)).2.2
        omega
      rw [if_neg c3, hw, ref02_Check.loop0 h hI m (i + 1) (by omega)]
      congr 1
      by_cases c4 : (∀ x ∈ Ls.drop (i + 1), latN n x) ∧ okG (1 + I + Ls.length) As = true
      · rw [if_pos c4, if_pos ⟨List.forall_mem_cons.2 ⟨⟨c1, by omega, by omega⟩, c4.1⟩, c4.2⟩]
      · rw [if_neg c4, if_neg (fun g => c4 ⟨(List.forall_mem_cons.1 g.1).2, g.2⟩)]
    · rw [if_neg (by simpa using c1), if_neg]
      intro g
      exact c1 (g.1 _ (List.mem_cons_self ..)).1

theorem ref02_Check_eq (h : Sized I Ls As Bs Cs) : spiritlevelref02_Check I Ls As Bs Cs = some (checkG I Ls As Bs Cs) := by
  unfold checkG
  rw [spiritlevelref02_Check.eq, cd]
  by_cases c1 : I < 0
  · rw [if_pos c1, if_pos c1]
  rw [if_neg c1, if_neg c1, cd]
  by_cases c2 : I > 1000
  · rw [if_pos c2, if_neg (fun g => by have := g.1; omega)]
  rw [if_neg c2, ref02_Size_eq h ⟨by omega, by omega⟩, Option.bind_some, cd]
  by_cases c3 : size I Ls As > 1000
  · rw [if_pos c3, if_neg (fun g => by have := g.2.1; unfold size at c3; omega)]
  rw [if_neg c3, cd]
  by_cases c4 : (Bs.length : Int) > 100
  · rw [if_pos c4, if_neg (fun g => by have := g.2.2.1; omega)]
  rw [if_neg c4, cd]
  by_cases c5 : (Cs.length : Int) > 100
  · rw [if_pos c5, if_neg (fun g => by have := g.2.2.2; omega)]
  have hf : few I Ls As Bs Cs := ⟨by omega, by unfold size at c3; omega, by omega, by omega⟩
  rw [if_neg c5, if_pos hf, Option.bind_some, ref02_literals_eq h.bs.1 h.bs.2, Option.bind_some, cnot, cd]
  by_cases q1 : ∀ x ∈ Bs, litN (size I Ls As) x
  · rw [if_pos q1, ref02_literals_eq h.cs.1 h.cs.2, Option.bind_some, cnot, cd]
    by_cases q2 : ∀ x ∈ Cs, litN (size I Ls As) x
    · have := ref02_Check.loop0 h ⟨by omega, by omega⟩ (n := size I Ls As) Ls.length 0 (by omega)
      rw [show ((0 : Nat) : Int) = 0 from rfl, List.drop_zero] at this
      rw [if_pos q2, this]
      congr 1
      by_cases q3 : (∀ x ∈ Ls, latN (size I Ls As) x) ∧ okG (1 + I + Ls.length) As = true
      · rw [if_pos q3, if_pos ⟨q1, q2, q3.1, q3.2⟩]
      · rw [if_neg q3, if_neg (fun g => q3 g.2.2)]
    · rw [if_neg q2, if_neg (fun g => q2 g.2.1)]
  · rw [if_neg q1, if_neg (fun g => q1 g.1)]

theorem ref02_Great_eq (h : Sized I Ls As Bs Cs) : spiritlevelref02_Great I Ls As Bs Cs = some (decide (Ls.length > 60 ∨ As.length > 120 ∨ Bs.length > 110 ∨ Cs.length > 110 ∨ (40 < I ∧ I < 996))) := by
  rw [spiritlevelref02_Great.eq, cd]
  by_cases c1 : (Ls.length : Int) > 60
  · rw [if_pos c1, decide_eq_true (by omega)]
  rw [if_neg c1, cd]
  by_cases c2 : (As.length : Int) > 120
  · rw [if_pos c2, decide_eq_true (by omega)]
  rw [if_neg c2, cd]
  by_cases c3 : (Bs.length : Int) > 110
  · rw [if_pos c3, decide_eq_true (by omega)]
  rw [if_neg c3, cd]
  by_cases c4 : (Cs.length : Int) > 110
  · rw [if_pos c4, decide_eq_true (by omega)]
  rw [if_neg c4, cd]
  by_cases c5 : I > 40
  · rw [if_pos c5]
    congr 1
    rw [decide_eq_decide]
    omega
  · rw [if_neg c5, decide_eq_false (by omega)]

end

end Go.Proofs.YtjkoadoekaplpaaGreat
