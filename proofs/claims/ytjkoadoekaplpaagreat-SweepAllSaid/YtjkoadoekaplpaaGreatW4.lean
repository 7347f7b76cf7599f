/- . -/
import Derived.Test.YtjkoadoekaplpaaGreatW3
import Derived.Test.YtjkoadoekaplpaaGreatS
namespace Go.Proofs.YtjkoadoekaplpaaGreat
open Go Go.RowKit Go.Proofs.YtjkoadoekaplpaaGreat.R
set_option linter.unusedVariables false
set_option linter.unusedSimpArgs false

abbrev LP := List (Int × Int)
abbrev Circ := Int × LP × LP × List Int × List Int
abbrev tyP : Go.Proofs.YtjkoadoekaplpaaGreat.R.Ty := .pair (.int .i64) (.int .i64)
def circS : Sh := .agg (.d (.int .i64)) (.agg (.d (.list (.pair (.int .i64) (.int .i64)))) (.agg (.d (.list (.pair (.int .i64) (.int .i64)))) (.agg (.d (.list (.int .i64))) (.d (.list (.int .i64))))))
def circA (i : Int) (l a : LP) (p q : List Int) : AV := .agg [.d (.int .i64) i, .d (.list (.pair (.int .i64) (.int .i64))) l, .d (.list (.pair (.int .i64) (.int .i64))) a, .d (.list (.int .i64)) p, .d (.list (.int .i64)) q]

def litsB (N : Int) (l : List Int) : Bool := l.all fun x => decide (0 ≤ x) && decide (x / 2 < N)
def givB (i : Int) : Nat → List Int → Bool
  | _, [] => true
  | v, x :: r => decide (-1 ≤ x) && decide (x < 2 * (v : Int)) && (decide (x < 0) || decide (i < (v : Int))) && givB i (v + 1) r
def gatB (gate : Int) : Nat → LP → Bool
  | _, [] => true
  | k, g :: r => decide (0 ≤ g.2) && decide (g.2 ≤ g.1) && decide (g.1 / 2 < gate + (k : Int)) && gatB gate (k + 1) r
theorem litsB_get {N : Int} {l : List Int} (h : litsB N l = true) (j : Nat) (x : Int) (hx : l[j]? = some x) : 0 ≤ x ∧ x / 2 < N := by
  have := List.all_eq_true.1 h x (List.mem_of_getElem? hx)
  simpa using this
theorem givB_get {i : Int} : ∀ {l : List Int} {v : Nat}, givB i v l = true → ∀ (j : Nat) (x : Int), l[j]? = some x → -1 ≤ x ∧ x < 2 * ((v + j : Nat) : Int) ∧ (0 ≤ x → i < ((v + j : Nat) : Int))
  | [], v, h, j, x, hx => by simp at hx
  | y :: r, v, h, j, x, hx => by
    simp only [givB, Bool.and_eq_true, Bool.or_eq_true, decide_eq_true_eq] at h
    obtain ⟨⟨⟨h1, h2⟩, h3⟩, h4⟩ := h
    cases j with
    | zero =>
      simp only [List.getElem?_cons_zero, Option.some.injEq] at hx
      subst hx
      exact ⟨h1, h2, fun h => by rcases h3 with h3 | h3; omega; exact h3⟩
    | succ j =>
      have := givB_get h4 j x (by simpa using hx)
      rw [show v + (j + 1) = v + 1 + j by omega]
      exact this
theorem gatB_get {gate : Int} : ∀ {l : LP} {k : Nat}, gatB gate k l = true → ∀ (j : Nat) (g : Int × Int), l[j]? = some g → 0 ≤ g.2 ∧ g.2 ≤ g.1 ∧ g.1 / 2 < gate + ((k + j : Nat) : Int)
  | [], k, h, j, g, hg => by simp at hg
  | x :: r, k, h, j, g, hg => by
    simp only [gatB, Bool.and_eq_true, decide_eq_true_eq] at h
    obtain ⟨⟨⟨h1, h2⟩, h3⟩, h4⟩ := h
    cases j with
    | zero =>
      simp only [List.getElem?_cons_zero, Option.some.injEq] at hg
      subst hg
      exact ⟨h1, h2, h3⟩
    | succ j =>
      have := gatB_get h4 j g (by simpa using hg)
      rw [show k + (j + 1) = k + 1 + j by omega]
      exact this

def gateN (i : Int) (l : LP) : Nat := (i + (l.length : Int) + 1).toNat
def buildB (i : Int) (l a : LP) (p q g : List Int) : Bool :=
  decide (0 ≤ i) && decide (i ≤ 1000) && decide (l.length ≤ 1000) && decide (a.length ≤ 1000) && decide (p.length ≤ 1000) && decide (q.length ≤ 1000) && decide (g.length = gateN i l + a.length) &&
  (gatB (gateN i l : Int) 0 a && givB i 0 g && litsB (g.length : Int) (l.map Prod.fst) && litsB (g.length : Int) p && litsB (g.length : Int) q)
def buildR (i : Int) (l a : LP) (g : List Int) : List Int × LP := runB (2 * (gateN i l : Int)) (gateN i l) a g g.length
def buildF (i : Int) (l a : LP) (p q g : List Int) : Circ × List Int × Int :=
  ((i, l.map (fun x => (atT (buildR i l a g).1 x.1, x.2)), (buildR i l a g).2, p.map (atT (buildR i l a g).1), q.map (atT (buildR i l a g).1)), (buildR i l a g).1, 0)

def buildAns (C : Calling) : List AV → Option (Circ × List Int × Int)
  | [.agg [.d (.int .i64) i, .d (.list (.pair (.int .i64) (.int .i64))) l, .d (.list (.pair (.int .i64) (.int .i64))) a, .d (.list (.int .i64)) p, .d (.list (.int .i64)) q], .d (.list (.int .i64)) g] =>
    match C 44 [circA i l a p q] [.d (.int .i64), .d (.int .i64)] with
    | some r => if (show Int × Int from r) = ((i + (List.length (α := Int × Int) l : Int) + (List.length (α := Int × Int) a : Int)), (0 : Int)) ∧ buildB i l a p q g = true then some (buildF i l a p q g) else none
    | none => none
  | _ => none
def buildRun (C : Calling) (xs : List AV) : (s : List Sh) → Option (dens s)
  | [.agg (.d (.int .i64)) (.agg (.d (.list (.pair (.int .i64) (.int .i64)))) (.agg (.d (.list (.pair (.int .i64) (.int .i64)))) (.agg (.d (.list (.int .i64))) (.d (.list (.int .i64)))))), .d (.list (.int .i64)), .d (.int .i64)] => buildAns C xs
  | _ => none
theorem buildAns_near {C : Calling} {Cn : Nat → Calling} (h : Near C Cn) {xs : List AV} {z : Circ × List Int × Int} (hz : buildAns C xs = some z) : ∃ n, ∀ m, n ≤ m → buildAns (Cn m) xs = some z := by
  unfold buildAns at hz
  split at hz
  · split at hz
    · rename_i r hr
      obtain ⟨n, hn⟩ := h _ _ _ _ hr
      refine ⟨n, fun m hm => ?_⟩
      simp only [buildAns, hn m hm]
      exact hz
    · cases hz
  · cases hz
def buildHK : HK where
  run := buildRun
  near := by
    intro C Cn h xs s z hz
    unfold buildRun at hz
    split at hz
    · exact buildAns_near h hz
    · cases hz


theorem enc_ints {w : World} {bad : Nat → Prop} {l : List Int} {b o n c : Nat} (hn : n = l.length) (hc : n ≤ c) (hb : ¬ bad b) (hf : ∀ (j : Nat) (x : Int), l[j]? = some x → w.cell? ⟨b, o + j, none⟩ = some (.int .i64 x)) :
    VR0 noβ [] w bad (.d (.list (.int .i64)) l) (.slice (some ⟨b, o, none⟩) n c) [] := by
  subst hn
  refine ⟨rfl, _, rfl, _, _, rfl, hc, by simp, fun a ha i x hx => ?_⟩
  cases ha
  refine ⟨rfl, hb, [.int .i64 x], rfl, fun j v hj => ?_⟩
  cases j with
  | zero => simp at hj; subst hj; simpa [Go.Proofs.YtjkoadoekaplpaaGreat.R.Ty.size] using hf i x hx
  | succ j => simp at hj

theorem enc_none {w : World} {bad : Nat → Prop} {e : Go.Proofs.YtjkoadoekaplpaaGreat.R.Ty} {A : Option Addr} : VR0 noβ [] w bad (.d (.list e) []) (.slice A 0 0) [] :=
  ⟨rfl, _, rfl, _, _, rfl, Nat.le_refl _, fun _ => rfl, fun a ha i x hx => by simp at hx⟩

theorem enc_pairs {w : World} {bad : Nat → Prop} {l : LP} {b o n c : Nat} (hn : n = l.length) (hc : n ≤ c) (hb : ¬ bad b) (hf : ∀ (j : Nat) (x : Int × Int), l[j]? = some x → w.cell? ⟨b, o + j * 2, none⟩ = some (.int .i64 x.1) ∧ w.cell? ⟨b, o + j * 2 + 1, none⟩ = some (.int .i64 x.2)) :
    VR0 noβ [] w bad (.d (.list (.pair (.int .i64) (.int .i64))) l) (.slice (some ⟨b, o, none⟩) n c) [] := by
  subst hn
  refine ⟨rfl, _, rfl, _, _, rfl, hc, by simp, fun a ha i x hx => ?_⟩
  cases ha
  obtain ⟨h1, h2⟩ := hf i x hx
  refine ⟨rfl, hb, [.int .i64 x.1, .int .i64 x.2], ⟨[.int .i64 x.1], [.int .i64 x.2], rfl, rfl, rfl⟩, fun j v hj => ?_⟩
  match j with
  | 0 => simp at hj; subst hj; exact h1
  | 1 => simp at hj; subst hj; exact h2
  | j + 2 => simp at hj

theorem cl_ints {base top : Nat} {w : World} {n : Nat} {l : List Int} {v : Value} {bad : Nat → Prop} (h : Cl base top w 1 n l v) (hn : n = l.length) (hb : ∀ b, base ≤ b → ¬ bad b) : VR0 noβ [] w bad (.d (.list (.int .i64)) l) v [] := by
  rcases h with ⟨_, rfl, A, rfl⟩ | ⟨b, o, c, rfl, h2, h3, h4, h5⟩
  · exact enc_none
  · exact enc_ints hn h2 (hb b h4.1) fun j x hx => h5.cell hx

theorem pairsI_len (l : LP) : (pairsI l).length = l.length * 2 := by
  induction l with
  | nil => rfl
  | cons x r ih => simp only [pairsI, List.flatMap_cons, List.length_append, List.length_cons, List.length_nil] at ih ⊢; omega

theorem cl_pairs {base top : Nat} {w : World} {n : Nat} {l : LP} {v : Value} {bad : Nat → Prop} (h : Cl base top w 2 n (pairsI l) v) (hn : n = l.length) (hb : ∀ b, base ≤ b → ¬ bad b) : VR0 noβ [] w bad (.d (.list (.pair (.int .i64) (.int .i64))) l) v [] := by
  rcases h with ⟨_, h, A, rfl⟩ | ⟨b, o, c, rfl, h2, h3, h4, h5⟩
  · have : l = [] := List.eq_nil_of_length_eq_zero (by have := congrArg List.length h; rw [pairsI_len] at this; simp only [List.length_nil] at this; omega)
    subst this
    exact enc_none
  · exact enc_pairs hn h2 (hb b h4.1) fun j x hx => ⟨h5.cell (pairsI_get l j x hx).1, by have := h5.cell (pairsI_get l j x hx).2; rw [← Nat.add_assoc] at this; exact this⟩

theorem cellsA_get : ∀ (l : LP) (j : Nat) (g : Int × Int), l[j]? = some g → (cellsA l)[j * 2]? = some (.int .i64 g.1) ∧ (cellsA l)[j * 2 + 1]? = some (.int .i64 g.2)
  | [], j, g, h => by simp at h
  | a :: r, 0, g, h => by simp at h; subst h; simp [cellsA]
  | a :: r, j + 1, g, h => by
    obtain ⟨h1, h2⟩ := cellsA_get r j g (by simpa using h)
    have e : cellsA (a :: r) = .int .i64 a.1 :: .int .i64 a.2 :: cellsA r := by simp [cellsA]
    rw [e, show (j + 1) * 2 = j * 2 + 1 + 1 by omega]
    exact ⟨by simpa using h1, by simpa using h2⟩

theorem own_pairs {w : World} {base : Nat} {l : LP} {v : Value} {bad : Nat → Prop} (h : w.ownsRow base 85 2 v l.length (cellsA l)) (hb : ∀ b, v.ownBlock = some b → ¬ bad b) : VR0 noβ [] w bad (.d (.list (.pair (.int .i64) (.int .i64))) l) v [] := by
  rcases h.2 with ⟨rfl, hn⟩ | ⟨g, cap, cur, rfl, h2, h3, h4, h5, h6, h7⟩
  · have : l = [] := List.eq_nil_of_length_eq_zero hn
    subst this
    exact enc_none
  · have hc : ∀ (j : Nat) (v : Value), (cellsA l)[j]? = some v → w.cell? ⟨g, 0 + j, none⟩ = some v := fun j v hv => by
      rw [← h7, List.getElem?_take] at hv
      split at hv
      · rw [cell_of h3, Nat.zero_add]; simpa using hv
      · cases hv
    exact enc_pairs rfl h4 (hb g rfl) fun j x hx => ⟨hc _ _ (cellsA_get l j x hx).1, hc _ _ (cellsA_get l j x hx).2⟩

theorem ints_at {w : World} {bad : Nat → Prop} {l : List Int} {v : Value} {bs : List Nat} (h : VR0 noβ [] w bad (.d (.list (.int .i64)) l) v bs) :
    ∃ A c, v = .slice A l.length c ∧ (A = none → l = []) ∧ ∀ (j : Nat) (x : Int), l[j]? = some x → ∃ b o, A = some ⟨b, o, none⟩ ∧ b < w.heap.size ∧ w.cell? ⟨b, o + j, none⟩ = some (.int .i64 x) := by
  obtain ⟨A, c, rfl, hA, hr⟩ := list_val h
  refine ⟨A, c, rfl, hA, fun j x hx => ?_⟩
  cases A with
  | none => rw [hA rfl] at hx; simp at hx
  | some ad =>
    obtain ⟨hsp, ds, he, hat⟩ := hr ad rfl j x hx
    obtain ⟨blk, off, spot⟩ := ad
    cases hsp
    simp only [enc] at he
    subst he
    have t0 := hat 0 _ rfl
    simp only [Go.Proofs.YtjkoadoekaplpaaGreat.R.Ty.size, Nat.mul_one, Nat.add_zero] at t0
    exact ⟨blk, off, rfl, World.block_lt_of_cell? _ _ t0, t0⟩

theorem pairs_at {w : World} {bad : Nat → Prop} {l : LP} {v : Value} {bs : List Nat} (h : VR0 noβ [] w bad (.d (.list (.pair (.int .i64) (.int .i64))) l) v bs) :
    ∃ A c, v = .slice A l.length c ∧ (A = none → l = []) ∧ ∀ (j : Nat) (x : Int × Int), l[j]? = some x → ∃ b o, A = some ⟨b, o, none⟩ ∧ b < w.heap.size ∧ w.cell? ⟨b, o + j * 2, none⟩ = some (.int .i64 x.1) ∧ w.cell? ⟨b, o + j * 2 + 1, none⟩ = some (.int .i64 x.2) := by
  obtain ⟨A, c, rfl, hA, hr⟩ := list_val h
  refine ⟨A, c, rfl, hA, fun j x hx => ?_⟩
  cases A with
  | none => rw [show l = [] from hA rfl] at hx; simp at hx
  | some ad =>
    obtain ⟨hsp, ds, he, hat⟩ := hr ad rfl j x hx
    obtain ⟨blk, off, spot⟩ := ad
    cases hsp
    obtain ⟨d1, d2, rfl, he1, he2⟩ := he
    simp only [enc] at he1 he2
    subst he1; subst he2
    have t0 := hat 0 _ rfl
    have t1 := hat 1 _ rfl
    exact ⟨blk, off, rfl, World.block_lt_of_cell? _ _ t0, t0, t1⟩
end Go.Proofs.YtjkoadoekaplpaaGreat

namespace Go.Proofs.YtjkoadoekaplpaaGreat
open Go Go.RowKit Go.Proofs.YtjkoadoekaplpaaGreat.R
set_option linter.unusedVariables false
set_option linter.unusedSimpArgs false

def ClOk (g : FuncId) (e : Go.Proofs.YtjkoadoekaplpaaGreat.R.Ty) : Prop := ∀ (bad : Nat → Prop) (w : World) (l : List e.den) (v : Value), Reads w bad e l v → l.length ≤ LIM →
    Calls Tryz.prog g #[v] w fun en w' => ∃ u bs, en = .returned u ∧ Same (fun _ => False) w w' ∧ bs.Nodup ∧ (∀ b ∈ bs, b < w'.heap.size ∧ w.heap.size ≤ b) ∧
      ∀ bad', (∀ b, b < w.heap.size → bad' b → bad b) → newV w' bad' e l u bs

theorem dataV_below {w W : World} {bad : Nat → Prop} {τ : Go.Proofs.YtjkoadoekaplpaaGreat.R.Ty} {x : τ.den} {v : Value} (hb : Below w.heap.size w W) (h : dataV w bad τ x v) : dataV W bad τ x v :=
  dataV_mono (same_below hb) (fun _ _ h => h.elim) (fun b _ h => h) h

theorem clone1 (hC : ClOk 41 (.int .i64)) {w : World} {bad : Nat → Prop} {l : List Int} {A : Option Addr} {c : Nat} {bs : List Nat} (h : VR0 noβ [] w bad (.d (.list (.int .i64)) l) (.slice A l.length c) bs) (hl : l.length ≤ 1000) (W : World) (hb : Below w.heap.size w W) :
    Calls Tryz.prog 41 #[.slice A l.length c] W (CloneEnd W 1 l.length l) := by
  obtain ⟨cs, hv, he⟩ := dataV_below hb h.2
  have hv' : cs = [.slice A l.length c] := hv
  subst hv'
  refine (hC bad W l _ (enc_reads he) (by unfold LIM; omega)).mono ?_
  rintro e w' ⟨u, bs, rfl, hs, hn, hbs, hnew⟩
  refine ⟨u, rfl, below_of hs (fun _ h => h), ?_⟩
  rcases hnew (fun _ => False) (fun _ _ h => h.elim) with ⟨⟨A, rfl⟩, rfl, _⟩ | ⟨b, o, c, rfl, rfl, cells, elem, hh, hc1, hc2, hr⟩
  · exact .inl ⟨rfl, rfl, A, rfl⟩
  · refine .inr ⟨b, o, c, rfl, hc1.1, hc1.2, ⟨(hbs b (by simp)).2, (hbs b (by simp)).1⟩, cells, elem, hh, by simpa [Go.Proofs.YtjkoadoekaplpaaGreat.R.Ty.size] using hc2, fun j x hx => ?_⟩
    obtain ⟨ds, h1, h2⟩ := hr j x hx
    simp only [enc] at h1
    subst h1
    have := h2 0 _ rfl
    simpa [Go.Proofs.YtjkoadoekaplpaaGreat.R.Ty.size] using this

theorem clone2 (hC : ClOk 39 (.pair (.int .i64) (.int .i64))) {w : World} {bad : Nat → Prop} {l : LP} {A : Option Addr} {c : Nat} {bs : List Nat} (h : VR0 noβ [] w bad (.d (.list (.pair (.int .i64) (.int .i64))) l) (.slice A l.length c) bs) (hl : l.length ≤ 1000) (W : World) (hb : Below w.heap.size w W) :
    Calls Tryz.prog 39 #[.slice A l.length c] W (CloneEnd W 2 l.length (pairsI l)) := by
  obtain ⟨cs, hv, he⟩ := dataV_below hb h.2
  have hv' : cs = [.slice A l.length c] := hv
  subst hv'
  refine (hC bad W l _ (enc_reads he) (by unfold LIM; omega)).mono ?_
  rintro e w' ⟨u, bs, rfl, hs, hn, hbs, hnew⟩
  refine ⟨u, rfl, below_of hs (fun _ h => h), ?_⟩
  rcases hnew (fun _ => False) (fun _ _ h => h.elim) with ⟨⟨A, rfl⟩, rfl, _⟩ | ⟨b, o, c, rfl, rfl, cells, elem, hh, hc1, hc2, hr⟩
  · exact .inl ⟨rfl, rfl, A, rfl⟩
  · refine .inr ⟨b, o, c, rfl, hc1.1, hc1.2, ⟨(hbs b (by simp)).2, (hbs b (by simp)).1⟩, cells, elem, hh, by simpa [Go.Proofs.YtjkoadoekaplpaaGreat.R.Ty.size] using hc2, fun j x hx => ?_⟩
    have hj : j / 2 < l.length := by
      have := (List.getElem?_eq_some_iff.1 hx).1
      rw [pairsI_len] at this
      omega
    obtain ⟨g, hg⟩ : ∃ g, l[j / 2]? = some g := ⟨_, List.getElem?_eq_getElem hj⟩
    obtain ⟨ds, h1, h2⟩ := hr _ g hg
    obtain ⟨d1, d2, rfl, he1, he2⟩ := h1
    simp only [enc] at he1 he2
    subst he1; subst he2
    obtain ⟨p1, p2⟩ := pairsI_get l _ g hg
    have t0 := h2 0 _ rfl
    have t1 := h2 1 _ rfl
    simp only [Go.Proofs.YtjkoadoekaplpaaGreat.R.Ty.size, Nat.add_zero] at t0 t1
    rcases Nat.mod_two_eq_zero_or_one j with hm | hm
    · have : j / 2 * 2 = j := by omega
      rw [this] at p1
      rw [hx] at p1
      cases p1
      rw [show o + j / 2 * (1 + 1) = o + j by omega] at t0
      exact t0
    · have : j / 2 * 2 + 1 = j := by omega
      rw [this] at p2
      rw [hx] at p2
      cases p2
      rw [show o + j / 2 * (1 + 1) + 1 = o + j by omega] at t1
      exact t1

theorem circ_at {w : World} {bad : Nat → Prop} {i : Int} {l a : LP} {p q : List Int} {v : Value} {bs : List Nat} (h : VR2 noβ [] w bad (circA i l a p q) v bs) : bs = [] ∧ ∃ v1 v2 v3 v4, v = .agg #[.int .i64 i, v1, v2, v3, v4] ∧
    VR0 noβ [] w bad (.d (.list (.pair (.int .i64) (.int .i64))) l) v1 [] ∧ VR0 noβ [] w bad (.d (.list (.pair (.int .i64) (.int .i64))) a) v2 [] ∧ VR0 noβ [] w bad (.d (.list (.int .i64)) p) v3 [] ∧ VR0 noβ [] w bad (.d (.list (.int .i64)) q) v4 [] := by
  obtain rfl : bs = [] := nonew2 h rfl
  obtain ⟨us, rfl, hus⟩ := h
  obtain ⟨u1, us1, d1, ds1, rfl, hd1, k1, hus⟩ := hus.cons'
  obtain ⟨u2, us2, d2, ds2, rfl, hd2, k2, hus⟩ := hus.cons'
  obtain ⟨u3, us3, d3, ds3, rfl, hd3, k3, hus⟩ := hus.cons'
  obtain ⟨u4, us4, d4, ds4, rfl, hd4, k4, hus⟩ := hus.cons'
  obtain ⟨u5, us5, d5, ds5, rfl, hd5, k5, hus⟩ := hus.cons'
  obtain ⟨rfl, rfl⟩ := hus.nil'
  obtain ⟨rfl, rfl⟩ := rel_int (β := noβ) (ob := []) (w := w) (show VR2 noβ [] w _ (.d (.int .i64) i) u1 d1 from k1)
  obtain rfl := k2.1; obtain rfl := k3.1; obtain rfl := k4.1; obtain rfl := k5.1
  exact ⟨rfl, u2, u3, u4, u5, rfl, k2, k3, k4, k5⟩

theorem circ_mk {w : World} {bad : Nat → Prop} {i : Int} {l a : LP} {p q : List Int} {v1 v2 v3 v4 : Value}
    (k2 : VR0 noβ [] w bad (.d (.list (.pair (.int .i64) (.int .i64))) l) v1 []) (k3 : VR0 noβ [] w bad (.d (.list (.pair (.int .i64) (.int .i64))) a) v2 []) (k4 : VR0 noβ [] w bad (.d (.list (.int .i64)) p) v3 []) (k5 : VR0 noβ [] w bad (.d (.list (.int .i64)) q) v4 []) :
    VR1 noβ [] w bad (circA i l a p q) (.agg #[.int .i64 i, v1, v2, v3, v4]) [] :=
  ⟨[.int .i64 i, v1, v2, v3, v4], rfl, Vs.cons (b := []) (show VR0 noβ [] w bad (.d (.int .i64) i) (.int .i64 i) [] from ⟨rfl, _, rfl, rfl⟩) (Vs.cons (b := []) k2 (Vs.cons (b := []) k3 (Vs.cons (b := []) k4 (Vs.cons (b := []) k5 Vs.nil))))⟩

theorem circ_more {w W : World} {bad : Nat → Prop} {i : Int} {l a : LP} {p q : List Int} {v : Value} (hb : Below w.heap.size w W) (h : VR2 noβ [] w bad (circA i l a p q) v []) : VR2 noβ [] W (fun b => False ∨ b ∈ ([] : List Nat)) (circA i l a p q) v [] :=
  VR2_mono (same_below hb) (fun _ _ h => h.elim) (fun b _ h => by rcases h with h | h; exact h.elim; cases h) (fun _ h => by cases h) h

theorem buildB_iff {i : Int} {l a : LP} {p q g : List Int} (h : buildB i l a p q g = true) :
    0 ≤ i ∧ i ≤ 1000 ∧ l.length ≤ 1000 ∧ a.length ≤ 1000 ∧ p.length ≤ 1000 ∧ q.length ≤ 1000 ∧ g.length = gateN i l + a.length ∧
    gatB (gateN i l : Int) 0 a = true ∧ givB i 0 g = true ∧ litsB (g.length : Int) (l.map Prod.fst) = true ∧ litsB (g.length : Int) p = true ∧ litsB (g.length : Int) q = true := by
  simp only [buildB, Bool.and_eq_true, decide_eq_true_eq] at h
  obtain ⟨⟨⟨⟨⟨⟨⟨h1, h2⟩, h3⟩, h4⟩, h5⟩, h6⟩, h7⟩, ⟨⟨⟨⟨h8, h9⟩, h10⟩, h11⟩, h12⟩⟩ := h
  exact ⟨h1, h2, h3, h4, h5, h6, h7, h8, h9, h10, h11, h12⟩

set_option maxHeartbeats 1000000 in
theorem build_core {E : Env} (h44 : lookN E.sg 44 = some ([.ro], [.d (.int .i64), .d (.int .i64)])) (hC1 : ClOk 39 (.pair (.int .i64) (.int .i64))) (hC2 : ClOk 41 (.int .i64)) {C : Calling} (hC : CallOk Tryz.prog E C)
    (i : Int) (l a : LP) (p q g : List Int) (h44a : C 44 [circA i l a p q] [.d (.int .i64), .d (.int .i64)] = some (i + (l.length : Int) + (a.length : Int), (0 : Int))) (hB : buildB i l a p q g = true)
    (b0 : Nat → Prop) (w : World) (vs : List Value) (bs : List Nat) (hvs : Vs (VR2 noβ [] w (fun b => b0 b ∨ b ∈ bs)) [circA i l a p q, .d (.list (.int .i64)) g] vs bs) (hb0 : ∀ b, b0 b → b < w.heap.size) :
    Calls Tryz.prog 38 vs.toArray w fun e w' => ∃ v, e = .returned v ∧ CallRes b0 [.ro, .ro] [circS, .d (.list (.int .i64)), .d (.int .i64)] vs bs w w' (buildF i l a p q g) v := by
  obtain ⟨i0, i1, l1, a1, p1, q1, gl, hga, hgi, hL, hP, hQ⟩ := buildB_iff hB
  obtain ⟨v1, vs1, b1, bs1, rfl, rfl, g1, hvs1⟩ := hvs.cons'
  obtain ⟨v2, vs2, b2, bs2, rfl, rfl, g2, hvs2⟩ := hvs1.cons'
  obtain ⟨rfl, rfl⟩ := hvs2.nil'
  obtain ⟨rfl, u1, u2, u3, u4, rfl, k1, k2, k3, k4⟩ := circ_at g1
  obtain rfl : b2 = [] := nonew2 g2 rfl
  obtain ⟨A1, c1, rfl, hA1, at1⟩ := pairs_at k1
  obtain ⟨A2, c2, rfl, hA2, at2⟩ := pairs_at k2
  obtain ⟨A3, c3, rfl, hA3, at3⟩ := ints_at k3
  obtain ⟨A4, c4, rfl, hA4, at4⟩ := ints_at k4
  obtain ⟨A5, c5, rfl, hA5, at5⟩ := ints_at (show VR0 noβ [] w _ (.d (.list (.int .i64)) g) v2 [] from g2)
  have hgate : (gateN i l : Int) = i + (l.length : Int) + 1 := by unfold gateN; omega
  have hg0 : 0 < g.length := by omega
  obtain ⟨Gb, Go, rfl, hGl, _⟩ := at5 0 _ (List.getElem?_eq_getElem hg0)
  have at5' : ∀ (k : Nat) (x : Int), g[k]? = some x → w.cell? ⟨Gb, Go + k, none⟩ = some (.int .i64 x) := fun k x hx => by
    obtain ⟨b, o, e, _, h⟩ := at5 k x hx
    cases e; exact h
  have hVs : VarsDo i l.length a.length A1 A2 c1 c2 (.slice A3 p.length c3) (.slice A4 q.length c4) w := by
    intro W hb
    refine ((hC 44 _ _ h44 _ _ h44a).2 (fun _ => False) W _ [] (.cons (b := []) (circ_more hb g1) .nil) List.nodup_nil (by simp) (fun _ h => h.elim)).mono fun e w' h => ?_
    obtain ⟨v, rfl, hres⟩ := h
    obtain ⟨e1, e2, _, _, hv, _⟩ := hres.res
    obtain ⟨us, rfl, hu⟩ := hv
    obtain ⟨x1, y1, m1, n1, rfl, _, j1, hu⟩ := hu.cons'
    obtain ⟨x2, y2, m2, n2, rfl, _, j2, hu⟩ := hu.cons'
    obtain ⟨rfl, _⟩ := hu.nil'
    obtain ⟨rfl, -⟩ := rel_int (β := noβ) (ob := []) (w := w') (show VR2 noβ [] w' _ (.d (.int .i64) (i + (l.length : Int) + (a.length : Int))) x1 m1 from j1)
    obtain ⟨rfl, -⟩ := rel_int (β := noβ) (ob := []) (w := w') (show VR2 noβ [] w' _ (.d (.int .i64) 0) x2 m2 from j2)
    exact ⟨rfl, below_of hres.same (by simp)⟩
  have hgD : ∀ v, v < g.length → g[v]? = some (g.getD v 0) := fun v hv => by
    rw [List.getElem?_eq_getElem hv]; simp [List.getD, List.getElem?_eq_getElem hv]
  have hOk : BOk g.length (gateN i l) a g := ⟨gl, fun v hv => by have := givB_get hgi v _ (hgD v hv); rw [Nat.zero_add] at this; exact ⟨this.2.1, this.1⟩,
    fun k x hx => by have := gatB_get hga k x hx; rw [Nat.zero_add] at this; exact this, by omega, by unfold gateN at gl; omega, rfl, a1⟩
  refine (build_walk i l.length c1 c2 p.length c3 q.length c4 A1 A2 A3 A4 a g Gb Go c5 g.length (gateN i l) l p q w l1 i0 i1 hOk hgate hVs hGl at5'
    (fun v hv h => by have := givB_get hgi v _ (hgD v hv); rw [Nat.zero_add] at this; exact this.2.2 h) at2 rfl rfl rfl p1 q1
    (fun j x hx => ⟨litsB_get hL j x.1 (by rw [List.getElem?_map, hx]; rfl), by obtain ⟨b, o, e1, e2, e3, _⟩ := at1 j x hx; exact ⟨b, o, e1, e2, e3⟩⟩)
    (fun j x hx => ⟨litsB_get hP j x hx, at3 j x hx⟩) (fun j x hx => ⟨litsB_get hQ j x hx, at4 j x hx⟩)
    (clone2 hC1 k1 l1) (clone1 hC2 k3 p1) (clone1 hC2 k4 q1)).mono ?_
  rintro e w' ⟨t1A, t1c, t3A, t3c, t4A, t4c, va, T, R0, m1, m2, L0, rfl, hbel, o1, o2, o3, o4, o5, z1, z3, z4, zr, ⟨base, zo⟩, zv⟩
  have hnb : ∀ b, w.heap.size ≤ b → ¬ ((fun b => b0 b ∨ b ∈ ([] : List Nat) ++ []) b) := fun b hb h => by
    rcases h with h | h
    · have := hb0 b h; omega
    · cases h
  have y1 := cl_pairs (bad := fun b => b0 b ∨ b ∈ ([] : List Nat) ++ []) z1 (by rw [List.length_map]) fun b hb => hnb b (by omega)
  have y2 := own_pairs (bad := fun b => b0 b ∨ b ∈ ([] : List Nat) ++ []) zo fun b hb => hnb b (by have := zv b hb; omega)
  have y3 := cl_ints (bad := fun b => b0 b ∨ b ∈ ([] : List Nat) ++ []) z3 (by rw [List.length_map]) fun b hb => hnb b (by omega)
  have y4 := cl_ints (bad := fun b => b0 b ∨ b ∈ ([] : List Nat) ++ []) z4 (by rw [List.length_map]) fun b hb => hnb b (by omega)
  have y5 : VR0 noβ [] w' (fun b => b0 b ∨ b ∈ ([] : List Nat) ++ []) (.d (.list (.int .i64)) (buildR i l a g).1) (.slice (some ⟨T, 0, none⟩) g.length g.length) [] := enc_ints (by unfold buildR; rw [runB_len]) (Nat.le_refl _) (hnb T (by omega)) fun j x hx => zr.cell hx
  refine ⟨_, rfl, ⟨(same_below hbel).mono fun _ _ h => h.elim, [], [], by simp, by simp, ?_, .nil⟩⟩
  exact ⟨[_, _, .int .i64 0], rfl, Vs.cons (b := []) (circ_mk (i := i) y1 y2 y3 y4) (Vs.cons (b := []) (a := .d (.list (.int .i64)) (buildR i l a g).1) y5 (.cons (b := []) (a := .d (.int .i64) 0) (mk_int (β := noβ) (ob := []) .i64 0) .nil))⟩

theorem buildDo {E : Env} (h38 : lookN E.sg 38 = some ([.ro, .ro], [circS, .d (.list (.int .i64)), .d (.int .i64)])) (h44 : lookN E.sg 44 = some ([.ro], [.d (.int .i64), .d (.int .i64)]))
    (hC1 : ClOk 39 (.pair (.int .i64) (.int .i64))) (hC2 : ClOk 41 (.int .i64)) : HkDo Tryz.prog E 38 buildHK := by
  intro C hC ms rs hsg xs r hans b0 w vs bs hvs hnd hbs hb0
  rw [h38] at hsg
  cases hsg
  have hans' : buildAns C xs = some r := hans
  clear hans
  unfold buildAns at hans'
  split at hans'
  · split at hans'
    · rename_i r44 h44a
      split at hans'
      · rename_i hcond
        obtain ⟨hr44, hB⟩ := hcond
        have h44b := h44a.trans (congrArg some hr44)
        cases hans'
        exact build_core h44 hC1 hC2 hC _ _ _ _ _ _ h44b hB b0 w vs bs hvs hb0
      · cases hans'
    · cases hans'
  · cases hans'
end Go.Proofs.YtjkoadoekaplpaaGreat

namespace Go.Proofs.YtjkoadoekaplpaaGreat
open Go Go.RowKit Go.Proofs.YtjkoadoekaplpaaGreat.R
set_option linter.unusedVariables false
set_option linter.unusedSimpArgs false

def nvOf (C : Calling) (i : Int) (l a : LP) (p q : List Int) (b : Int) : Int → Int → Option (Bool × Int) :=
  fun x y => C 34 [circA i l a p q, .d (.int .i64) x, .d (.int .i64) y, .d (.int .i64) b] [.d .bool, .d (.int .i64)]

abbrev Asks := Calling → Int → LP → LP → List Int → List Int → Int → Int → Int → Option (Bool × Int)
def nvNone : Asks := fun _ _ _ _ _ _ _ _ _ => none

def givenB (i : Int) (l a : LP) (b : Int) (s : List Int) : Bool :=
  decide (0 ≤ i) && decide (i ≤ 1000) && decide (l.length ≤ 1000) && decide (0 ≤ b) && decide (b ≤ 100000) && decide (s.length = gateN i l + a.length) && decide (s.length ≤ 3001) && s.all fun x => decide (0 ≤ x) && decide (x ≤ 18446744073709551615)

def endG : Option (Sum Int (List Int × LP)) → Option (List Int × Int)
  | some (.inr st) => some (st.1, 0)
  | some (.inl e) => some ([], e)
  | none => none

def givenAns (V : Asks) (C : Calling) : List AV → Option (List Int × Int)
  | [.agg [.d (.int .i64) i, .d (.list (.pair (.int .i64) (.int .i64))) l, .d (.list (.pair (.int .i64) (.int .i64))) a, .d (.list (.int .i64)) p, .d (.list (.int .i64)) q], .d (.int .i64) b] =>
    match C 18 [circA i l a p q] [.own (.int .u64), .d (.int .i64)] with
    | some r1 => match C 32 [circA i l a p q] [.d (.int .u64)] with
      | some r2 => match C 55 [.d (.int .u64) (1 : Int), .d (.int .u64) (((show List Int × Int from r1).1.length : Nat) : Int)] [.d (.int .u64), .d (.int .u64)] with
        | some r3 => if (show List Int × Int from r1).2 = 0 ∧ (show Int × Int from r3) = ((0 : Int), ((show List Int × Int from r1).1.length : Int)) ∧ givenB i l a b (show List Int × Int from r1).1 = true then
            endG (runG r2 (gateN i l) (V C i l a p q b) (show List Int × Int from r1).1 (show List Int × Int from r1).1.length) else none
        | none => none
      | none => none
    | none => none
  | _ => none
def givenRun (V : Asks) (C : Calling) (xs : List AV) : (s : List Sh) → Option (dens s)
  | [.d (.list (.int .i64)), .d (.int .i64)] => givenAns V C xs
  | _ => none

def nearN (f : Int → Int → Option (Bool × Int)) (g : Nat → Int → Int → Option (Bool × Int)) : Prop := ∀ x y z, f x y = some z → ∃ n, ∀ m, n ≤ m → g m x y = some z
theorem sameG_near {f : Int → Int → Option (Bool × Int)} {g : Nat → Int → Int → Option (Bool × Int)} (h : nearN f g) {v l : Int} {z : Bool × Int} (hz : sameG f v l = some z) : ∃ n, ∀ m, n ≤ m → sameG (g m) v l = some z := by
  unfold sameG at hz
  split at hz
  · cases hz
  · rename_i b e h1
    obtain ⟨n, hn⟩ := h _ _ _ h1
    split at hz
    · rename_i hc
      obtain ⟨k, hk⟩ := h _ _ _ hz
      exact ⟨max n k, fun m hm => by unfold sameG; rw [hn m (by omega)]; simp only; rw [if_pos hc]; exact hk m (by omega)⟩
    · rename_i hc
      exact ⟨n, fun m hm => by unfold sameG; rw [hn m hm]; simp only; rw [if_neg hc]; exact hz⟩
theorem stepG_near {f : Int → Int → Option (Bool × Int)} {g : Nat → Int → Int → Option (Bool × Int)} (h : nearN f g) {all : Int} {gate : Nat} {s : List Int} {st : List Int × List (Int × Int)} {z : Sum Int (List Int × List (Int × Int))} (hz : stepG all gate f s st = some z) : ∃ n, ∀ m, n ≤ m → stepG all gate (g m) s st = some z := by
  unfold stepG at hz
  split at hz
  · rename_i h1
    exact ⟨0, fun m _ => by unfold stepG; rw [h1]; exact hz⟩
  · rename_i u h1
    split at hz
    · rename_i h2
      exact ⟨0, fun m _ => by unfold stepG; rw [h1]; simp only; rw [if_pos h2]; exact hz⟩
    · rename_i h2
      by_cases h3 : gate ≤ 7
      · rw [if_pos h3] at hz
        exact ⟨0, fun m _ => by unfold stepG; rw [h1]; simp only; rw [if_neg h2, if_pos h3]; exact hz⟩
      · rw [if_neg h3] at hz
        cases h4 : sameG f (st.1.length : Int) (litG s u (s.getD st.1.length 0)) with
        | none => rw [h4] at hz; cases hz
        | some r =>
          obtain ⟨n, hn⟩ := sameG_near h h4
          rw [h4] at hz
          exact ⟨n, fun m hm => by unfold stepG; rw [h1]; simp only; rw [if_neg h2, if_neg h3, hn m hm]; exact hz⟩
theorem runG_near {f : Int → Int → Option (Bool × Int)} {g : Nat → Int → Int → Option (Bool × Int)} (h : nearN f g) {all : Int} {gate : Nat} {s : List Int} : ∀ (k : Nat) (z : Sum Int (List Int × List (Int × Int))), runG all gate f s k = some z → ∃ n, ∀ m, n ≤ m → runG all gate (g m) s k = some z
  | 0, z, hz => ⟨0, fun m _ => hz⟩
  | k + 1, z, hz => by
    simp only [runG] at hz
    split at hz
    · rename_i st h1
      obtain ⟨n1, hn1⟩ := runG_near h k _ h1
      obtain ⟨n2, hn2⟩ := stepG_near h hz
      exact ⟨max n1 n2, fun m hm => by simp only [runG]; rw [hn1 m (by omega)]; exact hn2 m (by omega)⟩
    · rename_i e h1
      obtain ⟨n1, hn1⟩ := runG_near h k _ h1
      exact ⟨n1, fun m hm => by simp only [runG]; rw [hn1 m hm]; exact hz⟩
    · cases hz
theorem endG_near {f : Int → Int → Option (Bool × Int)} {g : Nat → Int → Int → Option (Bool × Int)} (h : nearN f g) {all : Int} {gate : Nat} {s : List Int} {k : Nat} {z : List Int × Int} (hz : endG (runG all gate f s k) = some z) : ∃ n, ∀ m, n ≤ m → endG (runG all gate (g m) s k) = some z := by
  cases h1 : runG all gate f s k with
  | none => rw [h1] at hz; cases hz
  | some r =>
    obtain ⟨n, hn⟩ := runG_near h k _ h1
    rw [h1] at hz
    exact ⟨n, fun m hm => by rw [hn m hm]; exact hz⟩

theorem givenAns_near {V : Asks} (hV : ∀ {C : Calling} {Cn : Nat → Calling}, Near C Cn → ∀ i l a p q b, nearN (V C i l a p q b) (fun m => V (Cn m) i l a p q b)) {C : Calling} {Cn : Nat → Calling} (h : Near C Cn) {xs : List AV} {z : List Int × Int} (hz : givenAns V C xs = some z) : ∃ n, ∀ m, n ≤ m → givenAns V (Cn m) xs = some z := by
  unfold givenAns at hz
  split at hz
  · rename_i i l a p q b
    split at hz
    · rename_i r1 h1
      split at hz
      · rename_i r2 h2
        split at hz
        · rename_i r3 h3
          split at hz
          · rename_i hc
            obtain ⟨n1, k1⟩ := h _ _ _ _ h1
            obtain ⟨n2, k2⟩ := h _ _ _ _ h2
            obtain ⟨n3, k3⟩ := h _ _ _ _ h3
            obtain ⟨n4, k4⟩ := endG_near (hV h i l a p q b) hz
            refine ⟨max (max n1 n2) (max n3 n4), fun m hm => ?_⟩
            simp only [givenAns, k1 m (by omega), k2 m (by omega), k3 m (by omega), if_pos hc]
            exact k4 m (by omega)
          · cases hz
        · cases hz
      · cases hz
    · cases hz
  · cases hz
theorem givenRun_near {V : Asks} (hV : ∀ {C : Calling} {Cn : Nat → Calling}, Near C Cn → ∀ i l a p q b, nearN (V C i l a p q b) (fun m => V (Cn m) i l a p q b)) {C : Calling} {Cn : Nat → Calling} (h : Near C Cn) (xs : List AV) (s : List Sh) (z : dens s) (hz : givenRun V C xs s = some z) : ∃ n, ∀ m, n ≤ m → givenRun V (Cn m) xs s = some z := by
  unfold givenRun at hz
  split at hz
  · exact givenAns_near hV h hz
  · cases hz
def givenHK : HK where
  run := givenRun nvOf
  near := givenRun_near fun h i l a p q b x y z hz => h _ _ _ _ hz
def givenHK6 : HK where
  run := givenRun nvNone
  near := givenRun_near fun h i l a p q b x y z hz => by cases hz

theorem givenB_iff {i : Int} {l a : LP} {b : Int} {s : List Int} (h : givenB i l a b s = true) :
    0 ≤ i ∧ i ≤ 1000 ∧ l.length ≤ 1000 ∧ 0 ≤ b ∧ b ≤ 100000 ∧ s.length = gateN i l + a.length ∧ s.length ≤ 3001 ∧ ∀ x ∈ s, 0 ≤ x ∧ x ≤ 18446744073709551615 := by
  simp only [givenB, Bool.and_eq_true, decide_eq_true_eq, List.all_eq_true] at h
  obtain ⟨⟨⟨⟨⟨⟨⟨h1, h2⟩, h3⟩, h4⟩, h5⟩, h6⟩, h7⟩, h8⟩ := h
  exact ⟨h1, h2, h3, h4, h5, h6, h7, h8⟩

set_option maxHeartbeats 1000000 in
theorem given_core {E : Env} (h18 : lookN E.sg 18 = some ([.ro], [.own (.int .u64), .d (.int .i64)])) (h32 : lookN E.sg 32 = some ([.ro], [.d (.int .u64)])) (h55 : lookN E.sg 55 = some ([.ro, .ro], [.d (.int .u64), .d (.int .u64)]))
    {C : Calling} (hC : CallOk Tryz.prog E C) (i : Int) (l a : LP) (p q : List Int) (b : Int) (s : List Int) (all : Int) (z : List Int × Int) (nv : Int → Int → Option (Bool × Int))
    (h18a : C 18 [circA i l a p q] [.own (.int .u64), .d (.int .i64)] = some (s, (0 : Int))) (h32a : C 32 [circA i l a p q] [.d (.int .u64)] = some all)
    (h55a : C 55 [.d (.int .u64) (1 : Int), .d (.int .u64) (s.length : Int)] [.d (.int .u64), .d (.int .u64)] = some ((0 : Int), (s.length : Int))) (hB : givenB i l a b s = true)
    (hz : endG (runG all (gateN i l) nv s s.length) = some z)
    (hN : ∀ x y t n, nv x y = some (t, n) → ∀ (W : World) (u : Value), VR2 noβ [] W (fun b => False ∨ b ∈ ([] : List Nat)) (circA i l a p q) u [] → Calls Tryz.prog 34 #[u, .int .i64 x, .int .i64 y, .int .i64 b] W fun e w' => e = .returned (.tuple #[.bool t, .int .i64 n]) ∧ Below W.heap.size W w')
    (b0 : Nat → Prop) (w : World) (vs : List Value) (bs : List Nat) (hvs : Vs (VR2 noβ [] w (fun b => b0 b ∨ b ∈ bs)) [circA i l a p q, .d (.int .i64) b] vs bs) (hb0 : ∀ b, b0 b → b < w.heap.size) :
    Calls Tryz.prog 11 vs.toArray w fun e w' => ∃ v, e = .returned v ∧ CallRes b0 [.ro, .ro] [.d (.list (.int .i64)), .d (.int .i64)] vs bs w w' z v := by
  obtain ⟨i0, i1, l1, c0, c1, sl, sN, sr⟩ := givenB_iff hB
  obtain ⟨v1, vs1, b1, bs1, rfl, rfl, g1, hvs1⟩ := hvs.cons'
  obtain ⟨v2, vs2, b2, bs2, rfl, rfl, g2, hvs2⟩ := hvs1.cons'
  obtain ⟨rfl, rfl⟩ := hvs2.nil'
  obtain ⟨rfl, u1, u2, u3, u4, rfl, k1, k2, k3, k4⟩ := circ_at g1
  obtain ⟨rfl, rfl⟩ := rel_int g2
  obtain ⟨A1, d1, rfl, -, -⟩ := pairs_at k1
  obtain ⟨A2, d2, rfl, -, -⟩ := pairs_at k2
  obtain ⟨A3, d3, rfl, -, -⟩ := ints_at k3
  obtain ⟨A4, d4, rfl, -, -⟩ := ints_at k4
  have hgate : (gateN i l : Int) = i + (l.length : Int) + 1 := by unfold gateN; omega
  have hs1 : 1 ≤ s.length := by omega
  cases hr : runG all (gateN i l) nv s s.length with
  | none => rw [hr] at hz; cases hz
  | some ans =>
    rw [hr] at hz
    have hSig : SigDo (.agg #[.int .i64 i, .slice A1 l.length d1, .slice A2 a.length d2, .slice A3 p.length d3, .slice A4 q.length d4]) s s.length w := by
      intro W hb
      refine ((hC 18 _ _ h18 _ _ h18a).2 (fun _ => False) W _ [] (.cons (b := []) (circ_more hb g1) .nil) List.nodup_nil (by simp) (fun _ h => h.elim)).mono fun e w' h => ?_
      obtain ⟨v, rfl, hres⟩ := h
      obtain ⟨e1, e2, _, hbs, hv, _⟩ := hres.res
      obtain ⟨us, rfl, hu⟩ := hv
      obtain ⟨x1, y1, m1, n1, rfl, _, j1, hu⟩ := hu.cons'
      obtain ⟨x2, y2, m2, n2, rfl, _, j2, hu⟩ := hu.cons'
      obtain ⟨rfl, _⟩ := hu.nil'
      obtain ⟨rfl, -⟩ := rel_int (β := noβ) (ob := []) (w := w') (show VR2 noβ [] w' _ (.d (.int .i64) (0 : Int)) x2 m2 from j2)
      have j1' : newV w' (fun b => False ∨ b ∈ e1 ++ e2) (.int .u64) s x1 m1 := j1
      rcases j1' with ⟨_, h, _⟩ | ⟨bb, o, c, _, rfl, cells, elem, hh, _, _, hrow⟩
      · subst h; simp at hs1
      · refine ⟨bb, o, c, rfl, below_of hres.same (by simp), fun j x hx => ?_⟩
        obtain ⟨ds, q1, q2⟩ := hrow j x hx
        have q1' : ds = [.int .u64 x] := q1
        subst q1'
        have := q2 0 _ rfl
        rw [cell_of hh]
        simpa [Go.Proofs.YtjkoadoekaplpaaGreat.R.Ty.size] using this
    have hAll : ∀ W, Below w.heap.size w W → Calls Tryz.prog 32 #[.agg #[.int .i64 i, .slice A1 l.length d1, .slice A2 a.length d2, .slice A3 p.length d3, .slice A4 q.length d4]] W fun e w' => e = .returned (.int .u64 all) ∧ Below W.heap.size W w' := by
      intro W hb
      refine ((hC 32 _ _ h32 _ _ h32a).2 (fun _ => False) W _ [] (.cons (b := []) (circ_more hb g1) .nil) List.nodup_nil (by simp) (fun _ h => h.elim)).mono fun e w' h => ?_
      obtain ⟨v, rfl, hres⟩ := h
      obtain ⟨e1, e2, _, hbs, hv, _⟩ := hres.res
      obtain ⟨rfl, -⟩ := rel_int (β := noβ) (ob := []) (w := w') (show VR2 noβ [] w' _ (.d (.int .u64) all) v e1 from hv)
      exact ⟨rfl, below_of hres.same (by simp)⟩
    have hM : ∀ W, Below w.heap.size w W → Calls Tryz.prog 55 #[.int .u64 1, .int .u64 (s.length : Int)] W fun e w' => e = .returned (.tuple #[.int .u64 0, .int .u64 (s.length : Int)]) ∧ Below W.heap.size W w' := by
      intro W hb
      refine ((hC 55 _ _ h55 _ _ h55a).2 (fun _ => False) W _ [] (.cons (b := []) (mk_int _ _) (.cons (b := []) (mk_int _ _) .nil)) List.nodup_nil (by simp) (fun _ h => h.elim)).mono fun e w' h => ?_
      obtain ⟨v, rfl, hres⟩ := h
      obtain ⟨e1, e2, _, hbs, hv, _⟩ := hres.res
      obtain ⟨us, rfl, hu⟩ := hv
      obtain ⟨x1, y1, m1, n1, rfl, _, j1, hu⟩ := hu.cons'
      obtain ⟨x2, y2, m2, n2, rfl, _, j2, hu⟩ := hu.cons'
      obtain ⟨rfl, _⟩ := hu.nil'
      obtain ⟨rfl, -⟩ := rel_int (β := noβ) (ob := []) (w := w') (show VR2 noβ [] w' _ (.d (.int .u64) (0 : Int)) x1 m1 from j1)
      obtain ⟨rfl, -⟩ := rel_int (β := noβ) (ob := []) (w := w') (show VR2 noβ [] w' _ (.d (.int .u64) (s.length : Int)) x2 m2 from j2)
      exact ⟨rfl, below_of hres.same (by simp)⟩
    have hNv : ∀ (x y : Int) (t : Bool) (n : Int) (W : World), nv x y = some (t, n) → Below w.heap.size w W → Calls Tryz.prog 34 #[.agg #[.int .i64 i, .slice A1 l.length d1, .slice A2 a.length d2, .slice A3 p.length d3, .slice A4 q.length d4], .int .i64 x, .int .i64 y, .int .i64 b] W fun e w' => e = .returned (.tuple #[.bool t, .int .i64 n]) ∧ Below W.heap.size W w' := by
      intro x y t n W ha hb
      exact hN x y t n ha W _ (circ_more hb g1)
    have hw := given_walk i b l.length d1 a.length d2 p.length d3 q.length d4 A1 A2 A3 A4 s all s.length (gateN i l) w i0 i1 l1 nv ans hgate c0 c1 hr hNv rfl sN hs1 sr hSig hAll hM
    refine hw.mono ?_
    have hnb : ∀ b, w.heap.size ≤ b → ¬ ((fun b => b0 b ∨ b ∈ ([] : List Nat) ++ []) b) := fun b hb h => by
      rcases h with h | h
      · have := hb0 b h; omega
      · cases h
    rintro e w' (⟨st, T, rfl, rfl, hT, hbel, hrow⟩ | ⟨er, rfl, rfl, hbel⟩)
    · cases hz
      have hlen := (runG_len _ _ hr).1
      have y5 : VR0 noβ [] w' (fun b => b0 b ∨ b ∈ ([] : List Nat) ++ []) (.d (.list (.int .i64)) st.1) (.slice (some ⟨T, 0, none⟩) s.length s.length) [] := enc_ints hlen.symm (Nat.le_refl _) (hnb T (by omega)) fun j x hx => hrow.cell hx
      refine ⟨_, rfl, ⟨(same_below hbel).mono fun _ _ h => h.elim, [], [], by simp, by simp, ?_, .nil⟩⟩
      exact ⟨[_, .int .i64 0], rfl, Vs.cons (b := []) (a := .d (.list (.int .i64)) st.1) y5 (.cons (b := []) (a := .d (.int .i64) 0) (mk_int (β := noβ) (ob := []) .i64 0) .nil)⟩
    · cases hz
      refine ⟨_, rfl, ⟨(same_below hbel).mono fun _ _ h => h.elim, [], [], by simp, by simp, ?_, .nil⟩⟩
      exact ⟨[_, .int .i64 er], rfl, Vs.cons (b := []) (a := .d (.list (.int .i64)) []) enc_none (.cons (b := []) (a := .d (.int .i64) er) (mk_int (β := noβ) (ob := []) .i64 er) .nil)⟩

theorem nv_do {E : Env} (h34 : lookN E.sg 34 = some ([.ro, .ro, .ro, .ro], [.d .bool, .d (.int .i64)])) {C : Calling} (hC : CallOk Tryz.prog E C) (i : Int) (l a : LP) (p q : List Int) (b x y : Int) (t : Bool) (n : Int) (ha : nvOf C i l a p q b x y = some (t, n)) (W : World) (u : Value) (g1 : VR2 noβ [] W (fun b => False ∨ b ∈ ([] : List Nat)) (circA i l a p q) u []) :
    Calls Tryz.prog 34 #[u, .int .i64 x, .int .i64 y, .int .i64 b] W fun e w' => e = .returned (.tuple #[.bool t, .int .i64 n]) ∧ Below W.heap.size W w' := by
  refine ((hC 34 _ _ h34 _ _ ha).2 (fun _ => False) W _ [] (.cons (b := []) g1 (.cons (b := []) (mk_int _ _) (.cons (b := []) (mk_int _ _) (.cons (b := []) (mk_int _ _) .nil)))) List.nodup_nil (by simp) (fun _ h => h.elim)).mono fun e w' h => ?_
  obtain ⟨v, rfl, hres⟩ := h
  obtain ⟨e1, e2, _, hbs, hv, _⟩ := hres.res
  obtain ⟨us, rfl, hu⟩ := hv
  obtain ⟨x1, y1, m1, n1, rfl, _, j1, hu⟩ := hu.cons'
  obtain ⟨x2, y2, m2, n2, rfl, _, j2, hu⟩ := hu.cons'
  obtain ⟨rfl, _⟩ := hu.nil'
  obtain ⟨rfl, -⟩ := rel_bool (β := noβ) (ob := []) (w := w') (show VR2 noβ [] w' _ (.d .bool t) x1 m1 from j1)
  obtain ⟨rfl, -⟩ := rel_int (β := noβ) (ob := []) (w := w') (show VR2 noβ [] w' _ (.d (.int .i64) n) x2 m2 from j2)
  exact ⟨rfl, below_of hres.same (by simp)⟩

theorem givenDoV {E : Env} {V : Asks} {k : HK} (hk : k.run = givenRun V) (h11 : lookN E.sg 11 = some ([.ro, .ro], [.d (.list (.int .i64)), .d (.int .i64)])) (h18 : lookN E.sg 18 = some ([.ro], [.own (.int .u64), .d (.int .i64)])) (h32 : lookN E.sg 32 = some ([.ro], [.d (.int .u64)])) (h55 : lookN E.sg 55 = some ([.ro, .ro], [.d (.int .u64), .d (.int .u64)]))
    (hV : ∀ {C : Calling}, CallOk Tryz.prog E C → ∀ i l a p q b x y t n, V C i l a p q b x y = some (t, n) → ∀ (W : World) (u : Value), VR2 noβ [] W (fun b => False ∨ b ∈ ([] : List Nat)) (circA i l a p q) u [] → Calls Tryz.prog 34 #[u, .int .i64 x, .int .i64 y, .int .i64 b] W fun e w' => e = .returned (.tuple #[.bool t, .int .i64 n]) ∧ Below W.heap.size W w') : HkDo Tryz.prog E 11 k := by
  intro C hC ms rs hsg xs r hans b0 w vs bs hvs hnd hbs hb0
  rw [h11] at hsg
  cases hsg
  rw [hk] at hans
  have hans' : givenAns V C xs = some r := hans
  clear hans
  unfold givenAns at hans'
  split at hans'
  · split at hans'
    · rename_i r1 h1
      split at hans'
      · rename_i r2 h2
        split at hans'
        · rename_i r3 h3
          split at hans'
          · rename_i hc
            obtain ⟨e1, e2, hB⟩ := hc
            obtain ⟨s, e⟩ := r1
            have e1' : e = 0 := e1
            subst e1'
            exact given_core h18 h32 h55 hC _ _ _ _ _ _ s r2 r _ h1 h2 (h3.trans (congrArg some e2)) hB hans' (hV hC _ _ _ _ _ _) b0 w vs bs hvs hb0
          · cases hans'
        · cases hans'
      · cases hans'
    · cases hans'
  · cases hans'

theorem givenDo {E : Env} (h11 : lookN E.sg 11 = some ([.ro, .ro], [.d (.list (.int .i64)), .d (.int .i64)])) (h18 : lookN E.sg 18 = some ([.ro], [.own (.int .u64), .d (.int .i64)])) (h32 : lookN E.sg 32 = some ([.ro], [.d (.int .u64)])) (h55 : lookN E.sg 55 = some ([.ro, .ro], [.d (.int .u64), .d (.int .u64)])) (h34 : lookN E.sg 34 = some ([.ro, .ro, .ro, .ro], [.d .bool, .d (.int .i64)])) : HkDo Tryz.prog E 11 givenHK :=
  givenDoV rfl h11 h18 h32 h55 (nv_do h34)
theorem givenDo6 {E : Env} (h11 : lookN E.sg 11 = some ([.ro, .ro], [.d (.list (.int .i64)), .d (.int .i64)])) (h18 : lookN E.sg 18 = some ([.ro], [.own (.int .u64), .d (.int .i64)])) (h32 : lookN E.sg 32 = some ([.ro], [.d (.int .u64)])) (h55 : lookN E.sg 55 = some ([.ro, .ro], [.d (.int .u64), .d (.int .u64)])) : HkDo Tryz.prog E 11 givenHK6 :=
  givenDoV rfl h11 h18 h32 h55 fun _ _ _ _ _ _ _ _ _ _ _ h => by cases h
end Go.Proofs.YtjkoadoekaplpaaGreat

