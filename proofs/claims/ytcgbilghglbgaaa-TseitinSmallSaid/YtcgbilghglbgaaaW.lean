/- Functions that are known as a whole: walked by hand. -/
import Derived.Test.YtcgbilghglbgaaaS
import Derived.WalkKit
import Derived.ProofKit
namespace Go.Proofs.Ytcgbilghglbgaaa
open Go Go.RowKit
set_option linter.unusedVariables false

theorem heap_a2 (w : World) (o o' : Obj) : ((w.alloc o).alloc o').heap[w.heap.size + 1]? = some o' := by
  show ((w.heap.push o).push o')[w.heap.size + 1]? = some o'
  rw [show w.heap.size + 1 = (w.heap.push o).size from by simp]
  exact Array.getElem?_push_size

theorem res_cell1 {P : Program} {fn : Func} {tmps : Array Value} {a : Tmp} {t : TypeId} (h : fn.results = #[.cell a t]) {p : Addr} {v : Value} {w : World} (hp : tmps.getD a undef = .pointer (some p)) (hl : (loadVar t p).run P w = .ok v w) : (results fn tmps).run P w = .ok v w := by
  rw [Array.getD_eq_getD_getElem?] at hp
  simp [results, h, hp, hl, asAddr]

def startsV (i l a : Int) : Value := .agg #[.int .i64 1, .int .i64 (1 + i), .int .i64 (1 + i + l), .int .i64 (1 + i + l + a)]

set_option maxHeartbeats 2000000 in
theorem starts_any (i : Int) (l a c1 c2 : Nat) (A1 A2 : Option Addr) (x y : Value) (w : World) (hi : 0 ≤ i) (hi2 : i ≤ 1000) (hl : l ≤ 1000) (ha : a ≤ 1000) :
    Calls Try.prog 25 #[.agg #[.int .i64 i, .slice A1 l c1, .slice A2 a c2, x, y]] w fun e w' => e = .returned (startsV i l a) ∧ Below w.heap.size w w' := by
  go_enter Try.func25, Try.ntmps25
  go_wp2
  refine bodyPost_ret (v := startsV i l a) (res_cell1 rfl rfl (run_loadVar_row _ _ 58 58 _ (0, 0) _ ?_ Try.underlying58 rfl (by kernel_rfl))) rfl ?_
  · rw [heap_a2]; try rfl
  · exact ⟨rfl, ((Below.refl _ w).alloc (Nat.le_refl _) _).alloc (by simp) _⟩
end Go.Proofs.Ytcgbilghglbgaaa

namespace Go.Proofs.Ytcgbilghglbgaaa
open Go Go.RowKit
set_option linter.unusedVariables false

structure Hd (p : Prop) : Prop where
  out : p

/-- What a cone's search does: what is marked, and what is met. -/
def visF (ands : List (Int × Int)) (f : Nat) : Nat → Nat → List Bool × List Int → List Bool × List Int
  | 0, _, s => s
  | n + 1, v, s =>
    if v = 0 ∨ s.1.getD v false = true then s
    else
      let t : List Bool × List Int := (s.1.set v true, s.2 ++ [(v : Int)])
      if v < f then t else match ands[v - f]? with
        | some g => visF ands f n (g.2 / 2).toNat (visF ands f n (g.1 / 2).toNat t)
        | none => t

/-- What stays while a cone is searched. -/
structure Fix where
  C0 : Nat
  M : Nat
  i : Int
  l : Nat
  A1 : Option Addr
  A2 : Option Addr
  c1 : Nat
  c2 : Nat
  x : Value
  y : Value
  ands : List (Int × Int)

def Fix.cs (F : Fix) : Array Value := #[.int .i64 F.i, .slice F.A1 F.l F.c1, .slice F.A2 F.ands.length F.c2, F.x, F.y]
def Fix.first (F : Fix) : Nat := 1 + F.i.toNat + F.l
def Fix.N (F : Fix) : Nat := F.first + F.ands.length
def Fix.self (F : Fix) : Value := .func (.func 19) #[] #[.pointer (some ⟨F.M + 1, 0, none⟩), .pointer (some ⟨F.M + 2, 0, none⟩), .pointer (some ⟨F.C0, 0, none⟩), .pointer (some ⟨F.M + 3, 0, none⟩)]

structure Fix.Ok (F : Fix) (wM : World) : Prop where
  size : wM.heap.size = F.M
  lt : F.C0 < F.M
  circ : wM.heap[F.C0]? = some (.cells F.cs 26 (0, 0))
  i0 : 0 ≤ F.i
  i1 : F.i ≤ 1000
  l1 : F.l ≤ 1000
  a1 : F.ands.length ≤ 1000
  data : ∀ k g, F.ands[k]? = some g → ∃ b o, F.A2 = some ⟨b, o, none⟩ ∧ b < F.M ∧ wM.cell? ⟨b, o + k * 2, none⟩ = some (.int .i64 g.1) ∧ wM.cell? ⟨b, o + k * 2 + 1, none⟩ = some (.int .i64 g.2)
  well : ∀ k g, F.ands[k]? = some g → 0 ≤ g.2 ∧ g.2 ≤ g.1 ∧ g.1 / 2 < ((F.first + k : Nat) : Int)

structure Inv (F : Fix) (wM : World) (s : List Bool × List Int) (wr : World) : Prop where
  size : F.M + 4 ≤ wr.heap.size
  len : s.1.length = F.N
  cnt : s.2.length = s.1.count true
  row : wr.heap[F.M]? = some (.cells (s.1.map Value.bool).toArray 4 (0, 0))
  hI : wr.heap[F.M + 1]? = some (.cells #[.slice (some ⟨F.M, 0, none⟩) F.N F.N] 36 (0, 0))
  hO : ∃ v, wr.heap[F.M + 2]? = some (.cells #[v] 24 (0, 0)) ∧ wr.ownsRow (F.M + 4) 3 1 v s.2.length (s.2.map (Value.int .i64))
  hF : wr.heap[F.M + 3]? = some (.cells #[F.self] 53 (0, 0))
  bel : Below F.M wM wr

theorem run_mkfn (P : Program) : ∀ (fn : Fn) (first cap : Array Value) (w : World), (Instr.makeFunc fn first cap).run P w = .ok (.func fn first cap) w := fun _ _ _ _ => rfl

def VisitDo (F : Fix) (wM : World) (n v : Nat) : Prop := ∀ (s : List Bool × List Int) (wr : World), Inv F wM s wr →
  Calls Try.prog 19 #[.int .i64 (v : Int), .pointer (some ⟨F.M + 1, 0, none⟩), .pointer (some ⟨F.M + 2, 0, none⟩), .pointer (some ⟨F.C0, 0, none⟩), .pointer (some ⟨F.M + 3, 0, none⟩)] wr fun e w' => e = .returned (.tuple #[]) ∧ Inv F wM (visF F.ands F.first n v s) w'

/-- What parts does behind the marking. -/
def partsF (ands : List (Int × Int)) (f n v : Nat) (t : List Bool × List Int) : List Bool × List Int :=
  if v < f then t else match ands[v - f]? with
    | some g => visF ands f n (g.2 / 2).toNat (visF ands f n (g.1 / 2).toNat t)
    | none => t

def PartsDo (F : Fix) (wM : World) (n v : Nat) : Prop := ∀ (s : List Bool × List Int) (wr : World), Inv F wM s wr →
  Calls Try.prog 20 #[.agg #[.int .i64 F.i, .slice F.A1 F.l F.c1, .slice F.A2 F.ands.length F.c2, F.x, F.y], .int .i64 (v : Int), F.self] wr fun e w' => e = .returned (.tuple #[]) ∧ Inv F wM (partsF F.ands F.first n v s) w'

theorem visit_zero {F : Fix} {wM : World} (n : Nat) : VisitDo F wM (n + 1) 0 := by
  intro s wr h
  have cI := cell_of_one h.hI
  have hv : visF F.ands F.first (n + 1) 0 s = s := by simp [visF]
  rw [hv]
  go_enter Try.func19, Try.ntmps19
  go_wp2
  exact bodyPost_ret (v := .tuple #[]) (by simp [results, Try.results19, go_sem]) rfl ⟨rfl, h⟩

theorem cellB {F : Fix} {wM wr : World} {s : List Bool × List Int} (h : Inv F wM s wr) {v : Nat} (hv : v < F.N) : wr.cell? ⟨F.M, v, none⟩ = some (.bool (s.1.getD v false)) := by
  have := h.len
  rw [cell_of_row wr F.M v _ 4 (0, 0) h.row]
  simp [List.getD, List.getElem?_eq_getElem (show v < s.1.length by omega)]

theorem visit_met {F : Fix} {wM : World} (n v : Nat) (hv : v < F.N) (hN : F.N ≤ 3001) (s : List Bool × List Int) (hm : s.1.getD v false = true) (wr : World) (h : Inv F wM s wr) :
    Calls Try.prog 19 #[.int .i64 (v : Int), .pointer (some ⟨F.M + 1, 0, none⟩), .pointer (some ⟨F.M + 2, 0, none⟩), .pointer (some ⟨F.C0, 0, none⟩), .pointer (some ⟨F.M + 3, 0, none⟩)] wr fun e w' => e = .returned (.tuple #[]) ∧ Inv F wM (visF F.ands F.first (n + 1) v s) w' := by
  have cI := cell_of_one h.hI
  have cB := cellB h hv
  rw [hm] at cB
  have hvf : visF F.ands F.first (n + 1) v s = s := by unfold visF; rw [if_pos (.inr hm)]
  rw [hvf]
  have H := Hd.mk hvf; clear hvf
  have H2 := Hd.mk hm; clear hm
  go_enter Try.func19, Try.ntmps19
  go_wp2
  all_goals exact bodyPost_ret (v := .tuple #[]) (by simp [results, Try.results19, go_sem]) rfl ⟨rfl, h⟩
end Go.Proofs.Ytcgbilghglbgaaa

namespace Go.Proofs.Ytcgbilghglbgaaa
open Go Go.RowKit
set_option linter.unusedVariables false

theorem heap_setB (w : World) (M v : Nat) (l : List Bool) (e : TypeId) (h : w.heap[M]? = some (.cells (l.map Value.bool).toArray e (0, 0))) (hv : v < l.length) :
    (w.setCell ⟨M, v, none⟩ (.bool true)).heap[M]? = some (.cells ((l.set v true).map Value.bool).toArray e (0, 0)) := by
  have hlt := lt_of_block h
  have h' : w.heap[M] = .cells (l.map Value.bool).toArray e (0, 0) := by simpa [Array.getElem?_eq_getElem hlt] using h
  show (w.heap.modify M _)[M]? = _
  rw [Array.getElem?_eq_getElem (by simpa using hlt), Array.getElem_modify_self, h']
  simp [List.map_set]

theorem info_int : ∃ i : TypeInfo, Try.prog.info? 3 = some i ∧ i.zero = some (.int .i64 0) ∧ i.size = 1 ∧ i.bytes = 8 := by
  have h1 : (Try.prog.info? 3).map (fun i => (i.size, i.bytes)) = some (1, 8) := by kernel_rfl
  have h2 : (Try.prog.info? 3).bind (fun i => i.zero) = some (.int .i64 0) := by kernel_rfl
  cases h : Try.prog.info? 3 with
  | none => rw [h] at h1; cases h1
  | some i =>
    rw [h] at h1 h2
    simp only [Option.map_some, Option.some.injEq, Prod.mk.injEq, Option.bind_some] at h1 h2
    exact ⟨i, rfl, h2, h1.1, h1.2⟩

/-- What is marked. -/
theorem inv_mark {F : Fix} {wM wr : World} {s : List Bool × List Int} (h : Inv F wM s wr) {v : Nat} (hv : v < F.N) (hw : wM.heap.size = F.M) :
    (wr.setCell ⟨F.M, v, none⟩ (.bool true)).heap[F.M]? = some (.cells ((s.1.set v true).map Value.bool).toArray 4 (0, 0)) ∧
    (∀ b, b ≠ F.M → (wr.setCell ⟨F.M, v, none⟩ (.bool true)).heap[b]? = wr.heap[b]?) ∧ Below F.M wM (wr.setCell ⟨F.M, v, none⟩ (.bool true)) :=
  ⟨heap_setB _ _ _ _ _ h.row (by have := h.len; omega), fun b hb => Below.heap_setCell _ _ _ _ hb, h.bel.setCell (Nat.le_refl _) _⟩

theorem count_set {l : List Bool} {v : Nat} (hv : v < l.length) (hm : l.getD v false = false) : (l.set v true).count true = l.count true + 1 ∧ l.count true < l.length := by
  have hm' : l[v] = false := by simpa [List.getD, hv] using hm
  have h1 := List.count_set (a := true) (b := true) (l := l) (i := v) hv
  have h2 : l.count true < l.length := by
    rcases Nat.lt_or_ge (l.count true) l.length with h | h
    · exact h
    · have := List.count_eq_length.1 (Nat.le_antisymm List.count_le_length h) l[v] (List.getElem_mem hv)
      rw [hm'] at this; cases this
  refine ⟨?_, h2⟩
  rw [h1, hm']
  simp

theorem load_circ {F : Fix} {wM : World} (hF : F.Ok wM) {w : World} (hb : Below F.M wM w) : w.cell? ⟨F.C0, 0, none⟩ = some (.int .i64 F.i) ∧ w.cell? ⟨F.C0, 1, none⟩ = some (.slice F.A1 F.l F.c1) ∧ w.cell? ⟨F.C0, 2, none⟩ = some (.slice F.A2 F.ands.length F.c2) ∧
    w.cell? ⟨F.C0, 3, none⟩ = some F.x ∧ w.cell? ⟨F.C0, 4, none⟩ = some F.y := by
  have h : w.heap[F.C0]? = some (.cells F.cs 26 (0, 0)) := by rw [hb.block _ hF.lt]; exact hF.circ
  refine ⟨?_, ?_, ?_, ?_, ?_⟩ <;> rw [cell_of_row w F.C0 _ _ 26 (0, 0) h] <;> rfl

theorem inv_pushed {F : Fix} {wM wr w1 : World} (hF : F.Ok wM) {s : List Bool × List Int} (h : Inv F wM s wr) {v : Nat} (hv : v < F.N) (hm : s.1.getD v false = false) {vo v' : Value}
    (hO : wr.heap[F.M + 2]? = some (.cells #[vo] 24 (0, 0))) (hown : w1.ownsRow (F.M + 4) 3 1 v' (s.2.length + 1) (s.2.map (Value.int .i64) ++ [.int .i64 (v : Int)]))
    (hob : ∀ k, vo.ownBlock = some k → F.M + 4 ≤ k)
    (hg : ((wr.setCell ⟨F.M, v, none⟩ (.bool true)).alloc (.cells #[.int .i64 (v : Int)] 3)).grownBy w1 vo.ownBlock) :
    w1.heap[F.M + 2]? = some (.cells #[vo] 24 (0, 0)) ∧ Inv F wM (s.1.set v true, s.2 ++ [(v : Int)]) (w1.setCell ⟨F.M + 2, 0, none⟩ v') := by
  obtain ⟨m1, m2, m3⟩ := inv_mark h hv hF.size
  have hsz := h.size
  have hlow : ∀ b, b < F.M + 4 → w1.heap[b]? = (wr.setCell ⟨F.M, v, none⟩ (.bool true)).heap[b]? := fun b hb => by
    rw [hg.block b (by simp; omega) (fun e => by have := hob b e.symm; omega)]
    exact Below.heap_alloc _ _ b (by simp; omega)
  have o1 : w1.heap[F.M + 2]? = some (.cells #[vo] 24 (0, 0)) := by rw [hlow _ (by omega), m2 _ (by omega)]; exact hO
  have hset : ∀ b, b ≠ F.M + 2 → (w1.setCell ⟨F.M + 2, 0, none⟩ v').heap[b]? = w1.heap[b]? := fun b hb => Below.heap_setCell _ _ _ _ hb
  have hc := count_set (l := s.1) (v := v) (by have := h.len; omega) hm
  refine ⟨o1, ?_, ?_, ?_, ?_, ?_, ?_, ?_, ?_⟩
  · have := hg.size; simp at this ⊢; omega
  · simpa using h.len
  · simp only [List.length_append, List.length_cons, List.length_nil, hc.1]; rw [h.cnt]
  · rw [hset _ (by omega), hlow _ (by omega)]; exact m1
  · rw [hset _ (by omega), hlow _ (by omega), m2 _ (by omega)]; exact h.hI
  · refine ⟨v', one_setCell o1, ?_⟩
    have hne : v'.ownBlock ≠ some (F.M + 2) := fun e => by have := (hown.lt _ e).1; omega
    have := ownsRow_setCell_other hown (a := ⟨F.M + 2, 0, none⟩) hne v'
    simpa using this
  · rw [hset _ (by omega), hlow _ (by omega), m2 _ (by omega)]; exact h.hF
  · exact ((m3.alloc (by simp; omega) _).grown hg (by simp; omega) (fun k hk => by have := hob k hk; omega)).setCell (by show F.M ≤ F.M + 2; omega) _

set_option maxRecDepth 1000000 in
set_option maxHeartbeats 2000000 in
theorem visit_new {F : Fix} {wM : World} (hF : F.Ok wM) (n v : Nat) (hv : v < F.N) (h0 : v ≠ 0) (s : List Bool × List Int) (hm : s.1.getD v false = false) (hP : PartsDo F wM n v) (wr : World) (h : Inv F wM s wr) :
    Calls Try.prog 19 #[.int .i64 (v : Int), .pointer (some ⟨F.M + 1, 0, none⟩), .pointer (some ⟨F.M + 2, 0, none⟩), .pointer (some ⟨F.C0, 0, none⟩), .pointer (some ⟨F.M + 3, 0, none⟩)] wr fun e w' => e = .returned (.tuple #[]) ∧ Inv F wM (visF F.ands F.first (n + 1) v s) w' := by
  have hvf : visF F.ands F.first (n + 1) v s = partsF F.ands F.first n v (s.1.set v true, s.2 ++ [(v : Int)]) := by
    show (if v = 0 ∨ s.1.getD v false = true then s else _) = _
    rw [if_neg (by rw [hm]; simp; exact h0)]
    rfl
  rw [hvf]
  clear hvf
  have hN : F.N ≤ 3001 := by have := hF.i0; have := hF.i1; have := hF.l1; have := hF.a1; unfold Fix.N Fix.first; omega
  obtain ⟨vo, hO, hown⟩ := h.hO
  have hcnt : s.2.length ≤ 3001 := by
    have := (count_set (l := s.1) (v := v) (by have := h.len; omega) hm).2
    have := h.len; have := h.cnt; omega
  have hob : ∀ k, vo.ownBlock = some k → F.M + 4 ≤ k := fun k hk => (hown.lt k hk).1
  have hownB : (wr.setCell ⟨F.M, v, none⟩ (.bool true)).ownsRow (F.M + 4) 3 1 vo s.2.length (s.2.map (Value.int .i64)) := ownsRow_setCell_other hown (fun e => by have := hob _ e; simp at this; omega) _
  have cI := cell_of_one h.hI
  have cO := cell_of_one hO
  have cB := cellB h hv
  rw [hm] at cB
  have fB : wr.frozen? ⟨F.M, v, none⟩ = false := by simp [World.frozen?, h.row]
  have cO' : (wr.setCell ⟨F.M, v, none⟩ (.bool true)).cell? ⟨F.M + 2, 0, none⟩ = some vo := cell_of_one (t := 24) ((Below.heap_setCell _ _ _ _ (by simp)).trans hO)
  have hsz := h.size
  obtain ⟨i0, hi, hz0, hz1, hz2⟩ := info_int
  have K1 := Hd.mk h; have K2 := Hd.mk hm; have K3 := Hd.mk hown
  have key : ∀ w1 v', w1.ownsRow (F.M + 4) 3 1 v' (s.2.length + 1) (s.2.map (Value.int .i64) ++ [.int .i64 (v : Int)]) →
      ((wr.setCell ⟨F.M, v, none⟩ (.bool true)).alloc (.cells #[.int .i64 (v : Int)] 3)).grownBy w1 vo.ownBlock →
      w1.heap[F.M + 2]? = some (.cells #[vo] 24 (0, 0)) ∧ Inv F wM (s.1.set v true, s.2 ++ [(v : Int)]) (w1.setCell ⟨F.M + 2, 0, none⟩ v') := fun w1 v' h1 h2 => inv_pushed hF K1.out hv K2.out hO h1 hob h2
  have HK := Hd.mk key
  clear h hm hown key
  go_enter Try.func19, Try.ntmps19
  go_wp2_with (at_builtin; go_loud (refine wpList_append_own _ rfl _ _ 24 rfl (F.M + 4) 3 i0 (.int .i64 0) 1 8 Try.underlying24 hi hz0 hz1 hz2 rfl (by decide) _ _ _ rfl (hownB.alloc _) ⟨wr.heap.size, 0, none⟩ 1 1 [.int .i64 (v : Int)] rfl rfl ?c1 ?c2 ?c3 ?c4 ?c5 ?_))
  case c1 =>
    intro j u hj
    match j, hj with
    | 0, hj => simp at hj; subst hj; simp [Addr.add, World.cell?_alloc_at]
  case c2 => intro u hu; simp at hu; subst hu; rfl
  case c3 => unfold maxLen; omega
  case c4 => omega
  case c5 => simp; omega
  intro v' w1 hown' hgrow _
  obtain ⟨o1, hinv⟩ := HK.out w1 v' hown' hgrow
  obtain ⟨g, cap, hv'⟩ : ∃ g cap, v' = .slice (some ⟨g, 0, none⟩) (s.2.length + 1) cap := by
    rcases hown'.2 with ⟨_, hh⟩ | ⟨g, cap, cur, hv', _⟩
    · omega
    · exact ⟨g, cap, hv'⟩
  subst hv'
  have cO1 := cell_of_one o1
  have fO1 := free_of_one o1
  obtain ⟨hL0, hL1, hL2, hL3, hL4⟩ := load_circ hF hinv.bel
  have cF := cell_of_one hinv.hF
  have hcall := hP _ _ hinv
  have K4 := Hd.mk hinv; have K5 := Hd.mk hown'; have K6 := Hd.mk hgrow; have K7 := Hd.mk HK
  clear hinv hown' hgrow HK hownB hO o1 cO cO' cB fB hob
  go_wp2_with (go_at_call 20; refine hcall.mono ?_; rintro e w2 ⟨rfl, h2⟩; have K8 := Hd.mk h2; clear h2)
  go_end0
  exact ⟨rfl, K8.out⟩
end Go.Proofs.Ytcgbilghglbgaaa

namespace Go.Proofs.Ytcgbilghglbgaaa
open Go Go.RowKit
set_option linter.unusedVariables false

theorem bcell {W w1 : World} (hb : Below W.heap.size W w1) : (∀ b o, b < W.heap.size → w1.cell? ⟨b, o, none⟩ = W.cell? ⟨b, o, none⟩) ∧ (∀ b o, b < W.heap.size → w1.frozen? ⟨b, o, none⟩ = W.frozen? ⟨b, o, none⟩) :=
  ⟨fun b o h => hb.cell (p := ⟨b, o, none⟩) h, fun b o h => hb.frozen (p := ⟨b, o, none⟩) h⟩

/-- Blocks are made, and nothing else turns. -/
theorem Inv.more {F : Fix} {wM : World} {s : List Bool × List Int} {w w' : World} (h : Inv F wM s w) (hb : Below w.heap.size w w') : Inv F wM s w' := by
  have hz := h.size
  have hlow : ∀ b, b < w.heap.size → w'.heap[b]? = w.heap[b]? := fun b hlt => hb.block b hlt
  refine ⟨Nat.le_trans hz hb.size, h.len, h.cnt, ?_, ?_, ?_, ?_, h.bel.trans (hb.mono (by omega))⟩
  · rw [hlow _ (by omega)]; exact h.row
  · rw [hlow _ (by omega)]; exact h.hI
  · obtain ⟨v, h1, h2⟩ := h.hO
    refine ⟨v, by rw [hlow _ (by omega)]; exact h1, h2.kept (row := none) ⟨hb.os, hb.tape, hb.output, hb.size, fun k hk _ => hlow k hk⟩ ?_⟩
    cases v.ownBlock <;> simp
  · rw [hlow _ (by omega)]; exact h.hF

theorem index58 (a b c d : Value) (w : World) : (Instr.index 58 (.agg #[a, b, c, d]) (.int .i64 2)).run Try.prog w = .ok c w := by
  simp [Instr.index, run_underlying Try.underlying58, go_sem]
theorem index64_0 (a b : Value) (w : World) : (Instr.index 64 (.agg #[a, b]) (.int .i64 0)).run Try.prog w = .ok a w := by
  simp [Instr.index, run_underlying Try.underlying64, go_sem]
theorem index64_1 (a b : Value) (w : World) : (Instr.index 64 (.agg #[a, b]) (.int .i64 1)).run Try.prog w = .ok b w := by
  simp [Instr.index, run_underlying Try.underlying64, go_sem]

set_option maxRecDepth 1000000 in
set_option maxHeartbeats 2000000 in
theorem parts_leaf {F : Fix} {wM : World} (hF : F.Ok wM) (n v : Nat) (hv : v < F.first) : PartsDo F wM n v := by
  intro s wr h
  have hr : partsF F.ands F.first n v s = s := by unfold partsF; rw [if_pos hv]
  rw [hr]
  clear hr
  have i0 := hF.i0; have i1 := hF.i1; have l1 := hF.l1; have a1 := hF.a1
  have hlt : ((v : Int) < 1 + F.i + (F.l : Int)) := by unfold Fix.first at hv; omega
  have hst := starts_any F.i F.l F.ands.length F.c1 F.c2 F.A1 F.A2 F.x F.y (wr.alloc (.cells #[.int .i64 F.i, .slice F.A1 F.l F.c1, .slice F.A2 F.ands.length F.c2, F.x, F.y] 26)) i0 i1 l1 a1
  have K1 := Hd.mk h
  clear h
  have hix := index58
  go_enter Try.func20, Try.ntmps20
  go_wp2_with (go_at_call 25; refine hst.mono ?_; rintro e w1 ⟨rfl, hb⟩; have K2 := Hd.mk hb; clear hb; unfold startsV)
  go_end0
  exact ⟨rfl, K1.out.more (((Below.refl _ _).alloc (Nat.le_refl _) _).trans (K2.out.mono (by simp)))⟩

/-- What lits.Var does to the literals of a circuit. -/
def VarDo (F : Fix) : Prop := ∀ (x : Int) (W : World), 0 ≤ x → x / 2 < (F.N : Int) → Calls Try.prog 18 #[.int .i64 x] W fun e w' => ∃ b, e = .returned (.tuple #[.int .i64 (x / 2), .bool b, .int .i64 0]) ∧ Below W.heap.size W w'

set_option maxRecDepth 1000000 in
set_option maxHeartbeats 4000000 in
theorem parts_gate {F : Fix} {wM : World} (hF : F.Ok wM) (hV : VarDo F) (n v k : Nat) (hk : v = F.first + k) (g : Int × Int) (hg : F.ands[k]? = some g) (ih : ∀ p, p < v → VisitDo F wM n p) : PartsDo F wM n v := by
  intro s wr h
  have hr : partsF F.ands F.first n v s = visF F.ands F.first n (g.2 / 2).toNat (visF F.ands F.first n (g.1 / 2).toNat s) := by
    unfold partsF; rw [if_neg (by omega), show v - F.first = k by omega, hg]
  rw [hr]
  clear hr
  have i0 := hF.i0; have i1 := hF.i1; have l1 := hF.l1; have a1 := hF.a1
  have hka : k < F.ands.length := (List.getElem?_eq_some_iff.1 hg).1
  have hlt : (1 + F.i + (F.l : Int) ≤ (v : Int)) := by unfold Fix.first at hk; omega
  have hsub : (v : Int) - (1 + F.i + (F.l : Int)) = (k : Int) := by unfold Fix.first at hk; omega
  obtain ⟨b, o, hA2, hbM, hd0, hd1⟩ := hF.data k g hg
  obtain ⟨q0, q1, q2⟩ := hF.well k g hg
  have hst := starts_any F.i F.l F.ands.length F.c1 F.c2 F.A1 F.A2 F.x F.y (wr.alloc (.cells #[.int .i64 F.i, .slice F.A1 F.l F.c1, .slice F.A2 F.ands.length F.c2, F.x, F.y] 26)) i0 i1 l1 a1
  have hz := h.size
  have e0 : wr.cell? ⟨b, o + k * 2, none⟩ = some (.int .i64 g.1) := (h.bel.cell (p := ⟨b, o + k * 2, none⟩) hbM).trans hd0
  have e1 : wr.cell? ⟨b, o + k * 2 + 1, none⟩ = some (.int .i64 g.2) := (h.bel.cell (p := ⟨b, o + k * 2 + 1, none⟩) hbM).trans hd1
  have K1 := Hd.mk h
  have hix := index58; have hi0 := index64_0; have hi1 := index64_1
  have hA := hA2
  rw [hA2] at hst ⊢
  have p1 : g.1 / 2 < (v : Int) := by rw [hk]; exact q2
  have p2 : g.2 / 2 < (v : Int) := by omega
  clear h hd0 hd1 hk hg
  go_enter Try.func20, Try.ntmps20
  go_wp2_with (go_at_call 25; refine hst.mono ?_; rintro e w1 ⟨rfl, hb⟩; obtain ⟨hc, hf⟩ := bcell hb; have hz1 := hb.size; have d0 := ((hc b (o + k * 2) (by simp; omega)).trans (World.cell?_alloc_past _ _ _ (by show b < _; omega))).trans e0; have d1 := ((hc b (o + k * 2 + 1) (by simp; omega)).trans (World.cell?_alloc_past _ _ _ (by show b < _; omega))).trans e1; have K2 := Hd.mk hb; clear hb; unfold startsV)
  clear hc hf e0 e1 d0 d1 hst
  have K3 := K1.out.more (((Below.refl _ wr).alloc (Nat.le_refl _) (.cells #[.int .i64 F.i, .slice F.A1 F.l F.c1, .slice (some ⟨b, o, none⟩) F.ands.length F.c2, F.x, F.y] 26)).trans (K2.out.mono (by simp)))
  have K4 := K3.more ((Below.refl _ w1).alloc (Nat.le_refl _) (.cells #[.int .i64 g.1, .int .i64 g.2] 48))
  generalize ((w1.alloc (.cells #[.int .i64 g.1, .int .i64 g.2] 48))) = wa at K4 ⊢
  have V1 : ∀ (s : List Bool × List Int) (wr : World), Inv F wM s wr → Calls Try.prog 19 #[.int .i64 (g.1 / 2), .pointer (some ⟨F.M + 1, 0, none⟩), .pointer (some ⟨F.M + 2, 0, none⟩), .pointer (some ⟨F.C0, 0, none⟩), .pointer (some ⟨F.M + 3, 0, none⟩)] wr fun e w' => e = .returned (.tuple #[]) ∧ Inv F wM (visF F.ands F.first n (g.1 / 2).toNat s) w' := by
    have := ih (g.1 / 2).toNat (by omega)
    unfold VisitDo at this
    rwa [show ((g.1 / 2).toNat : Int) = g.1 / 2 by omega] at this
  have V2 : ∀ (s : List Bool × List Int) (wr : World), Inv F wM s wr → Calls Try.prog 19 #[.int .i64 (g.2 / 2), .pointer (some ⟨F.M + 1, 0, none⟩), .pointer (some ⟨F.M + 2, 0, none⟩), .pointer (some ⟨F.C0, 0, none⟩), .pointer (some ⟨F.M + 3, 0, none⟩)] wr fun e w' => e = .returned (.tuple #[]) ∧ Inv F wM (visF F.ands F.first n (g.2 / 2).toNat s) w' := by
    have := ih (g.2 / 2).toNat (by omega)
    unfold VisitDo at this
    rwa [show ((g.2 / 2).toNat : Int) = g.2 / 2 by omega] at this
  have R1 := fun W => hV g.1 W (by omega) (by unfold Fix.N; omega)
  have R2 := fun W => hV g.2 W (by omega) (by unfold Fix.N; omega)
  have H1 := Hd.mk V1; have H2 := Hd.mk V2; have H3 := Hd.mk R1; have H4 := Hd.mk R2; have H5 := Hd.mk K4
  clear V1 V2 R1 R2 K4 K3 hV ih hA hA2 hsub hlt hix
  unfold Fix.self
  refine wp_loop_rounds 3 ?_
  rw [rounds_succ]
  go_wp2_with (go_at_call 18; refine (H3.out _).mono ?_; rintro e w2 ⟨bb, rfl, hb2⟩; have H6 := Hd.mk (H5.out.more hb2); clear hb2)
  refine (H1.out _ _ H6.out).mono ?_
  rintro e w3 ⟨rfl, h3⟩
  have H7 := Hd.mk h3
  clear h3
  go_wp2_with fail
  rw [rounds_succ]
  go_wp2_with (go_at_call 18; refine (H4.out _).mono ?_; rintro e w4 ⟨bb, rfl, hb2⟩; have H8 := Hd.mk (H7.out.more hb2); clear hb2)
  refine (H2.out _ _ H8.out).mono ?_
  rintro e w5 ⟨rfl, h3⟩
  have H9 := Hd.mk h3
  clear h3
  go_wp2_with fail
  rw [rounds_succ]
  go_wp2_with fail
  go_end0
  exact ⟨rfl, H9.out⟩
end Go.Proofs.Ytcgbilghglbgaaa

namespace Go.Proofs.Ytcgbilghglbgaaa
open Go Go.RowKit
set_option linter.unusedVariables false

theorem visit_ok {F : Fix} {wM : World} (hF : F.Ok wM) (hV : VarDo F) : ∀ (n v : Nat), v < n → v < F.N → VisitDo F wM n v
  | 0, v, h, _ => absurd h (Nat.not_lt_zero _)
  | n + 1, v, h, hv => by
    by_cases h0 : v = 0
    · subst h0; exact visit_zero n
    · intro s wr hI
      cases hm : s.1.getD v false with
      | true => exact visit_met n v hv (by have := hF.i0; have := hF.i1; have := hF.l1; have := hF.a1; unfold Fix.N Fix.first; omega) s hm wr hI
      | false =>
        refine visit_new hF n v hv h0 s hm ?_ wr hI
        by_cases hf : v < F.first
        · exact parts_leaf hF n v hf
        · have hk : v - F.first < F.ands.length := by unfold Fix.N at hv; omega
          exact parts_gate hF hV n v (v - F.first) (by omega) _ (List.getElem?_eq_getElem hk) (fun p hp => visit_ok hF hV n p (by omega) (by omega))

def VarsDo (i : Int) (l : Nat) (ands : List (Int × Int)) (A1 A2 : Option Addr) (c1 c2 : Nat) (x y : Value) (w : World) : Prop :=
  ∀ W, Below w.heap.size w W → Calls Try.prog 14 #[.agg #[.int .i64 i, .slice A1 l c1, .slice A2 ands.length c2, x, y]] W fun e w' => e = .returned (.tuple #[.int .i64 (i + l + ands.length), .int .i64 0]) ∧ Below W.heap.size W w'

/-- Where a cone's search begins. -/
theorem inv_start {F : Fix} {w2 : World} (hF : F.Ok w2) {N : Nat} (hN : F.N = N) : Inv F w2 (List.replicate N false, []) ((((w2.alloc (.cells (Array.replicate N (.bool false)) 4)).alloc (.cells #[.slice (some ⟨w2.heap.size, 0, none⟩) N N] 36)).alloc (.cells #[.slice none 0 0] 24)).alloc
    (.cells #[.func (.func 19) #[] #[.pointer (some ⟨w2.heap.size + 1, 0, none⟩), .pointer (some ⟨w2.heap.size + 1 + 1, 0, none⟩), .pointer (some ⟨F.C0, 0, none⟩), .pointer (some ⟨w2.heap.size + 1 + 1 + 1, 0, none⟩)]] 53)) := by
  have hM := hF.size
  have new : ∀ (w : World) (o : Obj) (k : Nat), k = w.heap.size → (w.alloc o).heap[k]? = some o := fun w o k hk => by subst hk; exact Array.getElem?_push_size
  subst hN
  refine ⟨by simp; omega, by simp, by simp [List.count_replicate], ?_, ?_, ⟨.slice none 0 0, ?_, World.ownsRow_nil _ _ _ _⟩, ?_, ?_⟩
  · rw [Below.heap_alloc _ _ _ (by simp; omega), Below.heap_alloc _ _ _ (by simp; omega), Below.heap_alloc _ _ _ (by simp; omega), new _ _ _ hM.symm]
    simp
  · rw [Below.heap_alloc _ _ _ (by simp; omega), Below.heap_alloc _ _ _ (by simp; omega), new _ _ _ (by simp; omega), hM]
  · rw [Below.heap_alloc _ _ _ (by simp; omega), new _ _ _ (by simp; omega)]
  · rw [new _ _ _ (by simp; omega)]
    unfold Fix.self
    rw [hM]
  · exact ((((Below.refl _ _).alloc (by omega) _).alloc (by simp; omega) _).alloc (by simp; omega) _).alloc (by simp; omega) _

theorem info_bool : ∃ i : TypeInfo, Try.prog.info? 4 = some i ∧ i.zero = some (.bool false) ∧ i.size = 1 ∧ i.bytes = 1 := by
  have h1 : (Try.prog.info? 4).map (fun i => (i.size, i.bytes)) = some (1, 1) := by kernel_rfl
  have h2 : (Try.prog.info? 4).bind (fun i => i.zero) = some (.bool false) := by kernel_rfl
  cases h : Try.prog.info? 4 with
  | none => rw [h] at h1; cases h1
  | some i =>
    rw [h] at h1 h2
    simp only [Option.map_some, Option.some.injEq, Prod.mk.injEq, Option.bind_some] at h1 h2
    exact ⟨i, rfl, h2, h1.1, h1.2⟩

theorem make_bools (n : Nat) (hn : n ≤ 3001) (W : World) : (Instr.makeSlice 36 (.int .i64 (n : Int)) (.int .i64 (n : Int))).run Try.prog W = .ok (.slice (some ⟨W.heap.size, 0, none⟩) n n) (W.alloc (.cells (Array.replicate n (.bool false)) 4)) := by
  obtain ⟨i0, hi, hz0, hz1, hz2⟩ := info_bool
  have := run_make (P := Try.prog) W 36 4 i0 _ Try.underlying36 hi hz0 .i64 .i64 (n : Int) (n : Int) (by omega) (by omega) (by rw [hz2]; omega) (by omega)
  rw [this, hz1]
  have : madeCells (Value.bool false).cells (((n : Int)).toNat * 1) = Array.replicate n (.bool false) := by
    apply Array.ext'
    simp only [madeCells, Value.cells, Nat.mul_one, Int.toNat_natCast, Array.toList_map, Array.toList_replicate, Array.toList_range]
    rw [show (fun x => (#[Value.bool false] : Array Value)[x % (#[Value.bool false] : Array Value).size]!) = fun _ => Value.bool false from funext fun x => by simp [Nat.mod_one]]
    simp [List.map_const']
  rw [this]
  simp

theorem storeFn (fn : Fn) (first captured : Array Value) (a : Addr) (w : World) : (store a (.func fn first captured)).run Try.prog w = stored Try.prog w a (.func fn first captured) .plain := run_store Try.prog w a _ .plain rfl

open Go.Proofs.Ytcgbilghglbgaaa.R in
theorem row_of_owns {w : World} {M : Nat} {v : Value} {l : List Int} (h : w.ownsRow M 3 1 v l.length (l.map (Value.int .i64))) : (v = .slice none 0 0 ∧ l = []) ∨ ∃ g cap, v = .slice (some ⟨g, 0, none⟩) l.length cap ∧ M ≤ g ∧ l.length ≤ cap ∧ ∀ bad, Row w bad (.int .i64) l g 0 cap := by
  rcases h.2 with ⟨h1, h0⟩ | ⟨g, cap, cur, rfl, hg, hh, hn, hm, hs, ht⟩
  · exact .inl ⟨h1, List.eq_nil_of_length_eq_zero h0⟩
  · refine .inr ⟨g, cap, rfl, hg, hn, fun bad => ⟨cur, 3, hh, ⟨hn, by unfold maxLen at hm; omega⟩, by simp [Ty.size]; omega, fun i x hx => ⟨[.int .i64 x], rfl, fun j v hj => ?_⟩⟩⟩
    match j, hj with
    | 0, hj =>
      cases hj
      have h1 : (l.map (Value.int .i64))[i]? = some (.int .i64 x) := by
        rw [List.getElem?_map]; rw [show l[i]? = some x from hx]; rfl
      rw [← ht, List.getElem?_take] at h1
      split at h1
      · simpa [Ty.size] using h1
      · cases h1

open Go.Proofs.Ytcgbilghglbgaaa.R in
theorem below_same {B : Nat} {w w' : World} {g : Nat} (h : Same (· = g) w w') (hg : B ≤ g) (hB : B ≤ w.heap.size) : Below B w w' :=
  ⟨h.st.os, h.st.tape, h.st.output, h.1, fun k hk => h.2 k (by omega) (by omega)⟩

/-- What a call of Cone ends with. -/
def ConeEnd (w : World) (l : List Int) (e : Ending) (w' : World) : Prop :=
  ∃ v, e = .returned (.tuple #[v, .int .i64 0]) ∧ Below w.heap.size w w' ∧ ∃ bs : List Nat, bs.Nodup ∧ (∀ b ∈ bs, w.heap.size ≤ b ∧ b < w'.heap.size) ∧ ∀ bad, Go.Proofs.Ytcgbilghglbgaaa.R.newV w' bad (.int .i64) l v bs

open Go.Proofs.Ytcgbilghglbgaaa.R in
set_option maxRecDepth 1000000 in
set_option maxHeartbeats 4000000 in
theorem cone_walk (f : List Int → List Int) (hS : ExtDo Try.prog 21 (.inplace (.int .i64) f none)) (i : Int) (l : Nat) (ands : List (Int × Int)) (A1 A2 : Option Addr) (c1 c2 : Nat) (x y : Value) (lit : Int) (w : World) (i0 : 0 ≤ i) (i1 : i ≤ 1000) (l1 : l ≤ 1000) (a1 : ands.length ≤ 1000) (hl0 : 0 ≤ lit) (hl1 : lit / 2 ≤ i + l + ands.length)
    (hVs : VarsDo i l ands A1 A2 c1 c2 x y w) (hV : ∀ (z : Int) (W : World), 0 ≤ z → z / 2 ≤ i + l + ands.length → Calls Try.prog 18 #[.int .i64 z] W fun e w' => ∃ b, e = .returned (.tuple #[.int .i64 (z / 2), .bool b, .int .i64 0]) ∧ Below W.heap.size W w')
    (hD : ∀ k g, ands[k]? = some g → ∃ b o, A2 = some ⟨b, o, none⟩ ∧ b < w.heap.size ∧ w.cell? ⟨b, o + k * 2, none⟩ = some (.int .i64 g.1) ∧ w.cell? ⟨b, o + k * 2 + 1, none⟩ = some (.int .i64 g.2))
    (hW : ∀ (k : Nat) (g : Int × Int), ands[k]? = some g → 0 ≤ g.2 ∧ g.2 ≤ g.1 ∧ g.1 / 2 < 1 + i + (l : Int) + (k : Int)) :
    Calls Try.prog 8 #[.agg #[.int .i64 i, .slice A1 l c1, .slice A2 ands.length c2, x, y], .int .i64 lit] w
      (ConeEnd w (f (visF ands (1 + i.toNat + l) ((lit / 2).toNat + 1) (lit / 2).toNat (List.replicate (1 + i.toNat + l + ands.length) false, [])).2)) := by
  have hb0 : Below w.heap.size w (w.alloc (.cells #[.int .i64 i, .slice A1 l c1, .slice A2 ands.length c2, x, y] 26)) := (Below.refl _ _).alloc (Nat.le_refl _) _
  have R0 := hVs _ hb0
  have R1 := fun W => hV lit W hl0 hl1
  have hmf := run_mkfn Try.prog
  have hsf := storeFn
  obtain ⟨N, hN⟩ : ∃ N : Nat, i + (l : Int) + (ands.length : Int) + 1 = (N : Int) := ⟨(i + l + ands.length + 1).toNat, by omega⟩
  have hNN : 1 + i.toNat + l + ands.length = N := by omega
  have hmk := make_bools N (by omega)
  have hN3 : N ≤ 3001 := by omega
  rw [hNN]
  have HN := Hd.mk hNN; clear hNN
  have HV := Hd.mk R1; have HV2 := Hd.mk hV; have HD := Hd.mk hD; have HW := Hd.mk hW; have HS := Hd.mk hS; have HB := Hd.mk hb0
  clear hVs R1 hV hD hW hS hb0
  go_enter Try.func8, Try.ntmps8
  go_wp2_with (go_at_call 14; refine R0.mono ?_; rintro e w1 ⟨rfl, hb⟩; have K1 := Hd.mk hb; clear hb)
  refine (HV.out _).mono ?_
  rintro e w2 ⟨bb, rfl, hb2⟩
  have hb20 := HB.out.trans ((K1.out.mono (by simp)).trans (hb2.mono (Nat.le_trans (by simp) K1.out.size)))
  have hsz : w.heap.size < w2.heap.size := Nat.lt_of_lt_of_le (by have := K1.out.size; simp at this; omega) hb2.size
  have hck : w2.heap[w.heap.size]? = some (.cells #[.int .i64 i, .slice A1 l c1, .slice A2 ands.length c2, x, y] 26 (0, 0)) := by
    rw [hb2.block _ (by have := K1.out.size; simp at this; omega), K1.out.block _ (by simp)]
    exact Array.getElem?_push_size
  let F : Fix := ⟨w.heap.size, w2.heap.size, i, l, A1, A2, c1, c2, x, y, ands⟩
  have hF : F.Ok w2 := ⟨rfl, hsz, hck, i0, i1, l1, a1, fun k g hg => by
    obtain ⟨b, o, q1, q2, q3, q4⟩ := HD.out k g hg
    exact ⟨b, o, q1, Nat.lt_trans q2 hsz, (hb20.cell (p := ⟨b, o + k * 2, none⟩) q2).trans q3, (hb20.cell (p := ⟨b, o + k * 2 + 1, none⟩) q2).trans q4⟩, fun k g hg => by
    obtain ⟨q1, q2, q3⟩ := HW.out k g hg
    exact ⟨q1, q2, by show g.1 / 2 < ((1 + i.toNat + l + k : Nat) : Int); omega⟩⟩
  have hFV : VarDo F := fun z W h1 h2 => HV2.out z W h1 (by
    have : z / 2 < ((1 + i.toNat + l + ands.length : Nat) : Int) := h2
    omega)
  have hI := inv_start hF (N := N) HN.out
  have hvis := visit_ok hF hFV ((lit / 2).toNat + 1) (lit / 2).toNat (Nat.lt_succ_self _) (by show (lit / 2).toNat < 1 + i.toNat + l + ands.length; omega) _ _ hI
  rw [show ((lit / 2).toNat : Int) = lit / 2 by omega] at hvis
  have H1 := Hd.mk hvis; have H2 := Hd.mk hb20; have H3 := Hd.mk hI; have H4 := Hd.mk hF; have H5 := Hd.mk hFV; have H6 := Hd.mk hck
  clear hvis hb20 hI hF hFV hb2 R0 hck
  have hc3 : ((((w2.alloc (.cells (Array.replicate N (.bool false)) 4)).alloc (.cells #[.slice (some ⟨w2.heap.size, 0, none⟩) N N] 36)).alloc (.cells #[.slice none 0 0] 24)).alloc (.cells #[.nilFunc] 53)).cell? ⟨w2.heap.size + 1 + 1 + 1, 0, none⟩ = some .nilFunc := by
    rw [World.cell?_alloc_at _ _ _ _ (by simp)]; rfl
  have hf3 : ((((w2.alloc (.cells (Array.replicate N (.bool false)) 4)).alloc (.cells #[.slice (some ⟨w2.heap.size, 0, none⟩) N N] 36)).alloc (.cells #[.slice none 0 0] 24)).alloc (.cells #[.nilFunc] 53)).frozen? ⟨w2.heap.size + 1 + 1 + 1, 0, none⟩ = false := World.frozen?_alloc_at _ _ _ _ (by simp)
  go_wp2_with fail
  refine H1.out.mono ?_
  rintro e w3 ⟨rfl, h3⟩
  obtain ⟨vo, hO, hown⟩ := h3.hO
  have cO := cell_of_one hO
  change w3.cell? ⟨w2.heap.size + 1 + 1, 0, none⟩ = some vo at cO
  generalize hout : (visF ands (1 + i.toNat + l) ((lit / 2).toNat + 1) (lit / 2).toNat (List.replicate N false, [])).2 = out at *
  have hown' : w3.ownsRow (w2.heap.size + 4) 3 1 vo out.length (out.map (Value.int .i64)) := by rw [← hout]; exact hown
  have hcnt : out.length ≤ 3001 := by
    have h1 := h3.cnt
    have h2 := h3.len
    have h4 : ∀ l : List Bool, l.count true ≤ l.length := fun l => List.count_le_length
    rw [← hout]
    refine Nat.le_trans (Nat.le_of_eq h1) (Nat.le_trans (h4 _) (Nat.le_trans (Nat.le_of_eq h2) ?_))
    show 1 + i.toNat + l + ands.length ≤ 3001
    rw [HN.out]; exact hN3
  have hb23 : Below w.heap.size w w3 := H2.out.trans (h3.bel.mono (Nat.le_of_lt hsz))
  have h3s : w2.heap.size + 4 ≤ w3.heap.size := h3.size
  obtain ⟨hf1, hf2, hf3⟩ := HS.out
  have K3 := Hd.mk h3; have K4 := Hd.mk hown; have K5 := Hd.mk hb23; have K6 := Hd.mk hO; have K7 := Hd.mk hf1
  rcases row_of_owns hown' with ⟨rfl, rfl⟩ | ⟨g, cap, rfl, hg, hcap, hrow⟩
  · have hs := hf2 w3 none 0
    have hf0 : f [] = [] := List.eq_nil_of_length_eq_zero (K7.out [])
    rw [hf0]
    have L := Hd.mk hs
    clear hs h3 hown hown' hb23 hO hf1 hf2 hf3 hout hf0
    go_wp2_with (go_at_call 21; refine L.out.mono ?_; rintro e w4 ⟨rfl, rfl⟩)
    go_ret2
    exact ⟨.slice none 0 0, rfl, K5.out, [], by simp, by simp, fun bad => .inl ⟨⟨_, rfl⟩, List.eq_nil_of_length_eq_zero (K7.out []), rfl⟩⟩
  · by_cases ho : out = []
    · subst ho
      have hs := hf2 w3 (some ⟨g, 0, none⟩) cap
      have hf0 : f [] = [] := List.eq_nil_of_length_eq_zero (K7.out [])
      have F0 := Hd.mk hf0
      have L := Hd.mk hs; have L2 := Hd.mk hrow
      clear hs h3 hown hown' hb23 hO hf1 hf2 hf3 hout hf0 hrow
      go_wp2_with (go_at_call 21; refine L.out.mono ?_; rintro e w4 ⟨rfl, rfl⟩)
      go_ret2
      refine ⟨.slice (some ⟨g, 0, none⟩) 0 cap, rfl, K5.out, [g], by simp, fun b hb => ?_, fun bad => by rw [F0.out]; exact .inr ⟨g, 0, cap, rfl, rfl, L2.out bad⟩⟩
      have := (L2.out fun _ => False).lt
      simp only [List.mem_singleton] at hb
      subst hb
      exact ⟨by omega, this⟩
    · have hs := hf3 (fun _ => False) w3 out g 0 cap cap (hrow _) ho hcap (by unfold LIM; omega)
      have L := Hd.mk hs; have L2 := Hd.mk hrow; have L3 := Hd.mk ho
      have L4 := Hd.mk hO
      clear hs h3 hown hown' hb23 hO hf1 hf2 hf3 hout hrow ho
      go_wp2_with (go_at_call 21; refine L.out.mono ?_; rintro e w4 ⟨rfl, hsame, hr4⟩; have cO4 : w4.cell? ⟨w2.heap.size + 1 + 1, 0, none⟩ = _ := cell_of_one (t := 24) ((hsame.2 _ (by omega) (by omega)).trans L4.out); have N1 := Hd.mk hsame; have N2 := Hd.mk hr4; clear hsame hr4)
      go_ret2
      refine ⟨.slice (some ⟨g, 0, none⟩) out.length cap, rfl, K5.out.trans (below_same N1.out (by omega) K5.out.size), [g], by simp, fun b hb => ?_, fun bad => .inr ⟨g, 0, cap, rfl, ?_, N2.out bad⟩⟩
      · have := (N2.out fun _ => False).lt
        simp only [List.mem_singleton] at hb
        subst hb
        exact ⟨by omega, this⟩
      · rw [K7.out]
end Go.Proofs.Ytcgbilghglbgaaa

namespace Go.Proofs.Ytcgbilghglbgaaa
open Go Go.RowKit Go.Proofs.Ytcgbilghglbgaaa.R
set_option linter.unusedVariables false

/-- gates.Cone: what it asks of gates.Vars and lits.Var. -/
def coneAsks (arg : AV) (n : Int) (N : Nat) : List Go.Proofs.Ytcgbilghglbgaaa.R.Ask :=
  ⟨14, [arg], [.d (.int .i64), .d (.int .i64)], (n, (0 : Int))⟩ :: (List.range (2 * N)).map fun (z : Nat) => ⟨18, [.d (.int .i64) (z : Int)], [.d (.int .i64), .d .bool, .d (.int .i64)], ((z : Int) / 2, decide ((z : Int) % 2 = 1), (0 : Int))⟩

def wellB (f : Int) : Nat → List (Int × Int) → Bool
  | _, [] => true
  | k, g :: r => decide (0 ≤ g.2) && decide (g.2 ≤ g.1) && decide (g.1 / 2 < f + k) && wellB f (k + 1) r

theorem wellB_get {f : Int} : ∀ {l : List (Int × Int)} {k : Nat}, wellB f k l = true → ∀ (j : Nat) (g : Int × Int), l[j]? = some g → 0 ≤ g.2 ∧ g.2 ≤ g.1 ∧ g.1 / 2 < f + (k : Int) + (j : Int)
  | [], k, h, j, g, hg => by simp at hg
  | x :: r, k, h, j, g, hg => by
    simp only [wellB, Bool.and_eq_true, decide_eq_true_eq] at h
    obtain ⟨⟨⟨h1, h2⟩, h3⟩, h4⟩ := h
    cases j with
    | zero =>
      simp only [List.getElem?_cons_zero, Option.some.injEq] at hg
      subst hg
      exact ⟨h1, h2, by simpa using h3⟩
    | succ j =>
      have := wellB_get h4 j g (by simpa using hg)
      refine ⟨this.1, this.2.1, ?_⟩
      have := this.2.2
      push_cast at this ⊢
      omega

/-- What Cone answers. -/
def coneL (i : Int) (l : Nat) (ands : List (Int × Int)) (lit : Int) : List Int :=
  (visF ands (1 + i.toNat + l) ((lit / 2).toNat + 1) (lit / 2).toNat (List.replicate (1 + i.toNat + l + ands.length) false, [])).2

def coneB (i : Int) (l : Nat) (ands : List (Int × Int)) (lit : Int) : Bool :=
  decide (0 ≤ i) && decide (i ≤ 1000) && decide (l ≤ 1000) && decide (ands.length ≤ 1000) && decide (0 ≤ lit) && decide (lit / 2 ≤ i + l + ands.length) && wellB (1 + i + l) 0 ands

def coneAsk : List AV → List Go.Proofs.Ytcgbilghglbgaaa.R.Ask
  | [.agg [.d (.int .i64) i, .d (.list (.pair (.int .i64) (.int .i64))) l, .d (.list (.pair (.int .i64) (.int .i64))) a, .d (.list (.int .i64)) p, .d (.list (.int .i64)) q], .d (.int .i64) lit] =>
    coneAsks (.agg [.d (.int .i64) i, .d (.list (.pair (.int .i64) (.int .i64))) l, .d (.list (.pair (.int .i64) (.int .i64))) a, .d (.list (.int .i64)) p, .d (.list (.int .i64)) q]) (i + (List.length (α := Int × Int) l : Int) + (List.length (α := Int × Int) a : Int)) (Int.toNat (1 + i) + List.length (α := Int × Int) l + List.length (α := Int × Int) a)
  | _ => []

def coneAns (f : List Int → List Int) : List AV → Option (List Int × Int)
  | [.agg [.d (.int .i64) i, .d (.list (.pair (.int .i64) (.int .i64))) l, .d (.list (.pair (.int .i64) (.int .i64))) a, .d (.list (.int .i64)) p, .d (.list (.int .i64)) q], .d (.int .i64) lit] =>
    if coneB i (List.length (α := Int × Int) l) a lit = true then some (f (coneL i (List.length (α := Int × Int) l) a lit), (0 : Int)) else none
  | _ => none

def coneHK (f : List Int → List Int) : HK where
  asks := coneAsk
  ans xs s := match s with
    | [.own (.int .i64), .d (.int .i64)] => coneAns f xs
    | _ => none

theorem coneDo {E : Env} {f : List Int → List Int} (hS : ExtDo Try.prog 21 (.inplace (.int .i64) f none)) (h8 : lookN E.sg 8 = some ([.ro, .ro], [.own (.int .i64), .d (.int .i64)])) (h14 : lookN E.sg 14 = some ([.ro], [.d (.int .i64), .d (.int .i64)]))
    (h18 : lookN E.sg 18 = some ([.ro], [.d (.int .i64), .d .bool, .d (.int .i64)])) : HkDo Try.prog E 8 (coneHK f) := by
  intro C hC ms rs hsg xs r hask hans b0 w vs bs hvs hnd hbs hb0
  rw [h8] at hsg
  cases hsg
  have hans' : coneAns f xs = some r := hans
  have hask' : ∀ q ∈ coneAsk xs, C q.g q.xs q.s = some q.r := hask
  clear hans hask
  unfold coneAns at hans'
  split at hans'
  · rename_i i l a p q lit
    split at hans'
    · rename_i hB
      cases hans'
      simp only [coneB, Bool.and_eq_true, decide_eq_true_eq] at hB
      obtain ⟨⟨⟨⟨⟨⟨i0, i1⟩, l1⟩, a1⟩, q0⟩, q1⟩, hw⟩ := hB
      obtain ⟨v1, vs1, b1, bs1, rfl, rfl, g1, hvs1⟩ := hvs.cons'
      obtain ⟨v2, vs2, b2, bs2, rfl, rfl, g2, hvs2⟩ := hvs1.cons'
      obtain ⟨rfl, rfl⟩ := hvs2.nil'
      obtain ⟨rfl, rfl⟩ := rel_int g2
      obtain rfl : b1 = [] := nonew2 g1 rfl
      have g1' := g1
      obtain ⟨us, rfl, hus⟩ := g1'
      obtain ⟨u1, us1, d1, ds1, rfl, hd1, k1, hus⟩ := hus.cons'
      obtain ⟨u2, us2, d2, ds2, rfl, hd2, k2, hus⟩ := hus.cons'
      obtain ⟨u3, us3, d3, ds3, rfl, hd3, k3, hus⟩ := hus.cons'
      obtain ⟨u4, us4, d4, ds4, rfl, hd4, k4, hus⟩ := hus.cons'
      obtain ⟨u5, us5, d5, ds5, rfl, hd5, k5, hus⟩ := hus.cons'
      obtain ⟨rfl, rfl⟩ := hus.nil'
      obtain ⟨rfl, -⟩ := rel_int (β := noβ) (ob := []) (w := w) (show VR2 noβ [] w _ (.d (.int .i64) i) u1 d1 from k1)
      obtain ⟨A1, c1, rfl, _⟩ := list_val k2
      obtain ⟨A2, c2, rfl, hA2, hrow⟩ := list_val k3
      have ask14 : C 14 [.agg [.d (.int .i64) i, .d (.list (.pair (.int .i64) (.int .i64))) l, .d (.list (.pair (.int .i64) (.int .i64))) a, .d (.list (.int .i64)) p, .d (.list (.int .i64)) q]] [.d (.int .i64), .d (.int .i64)] = some ((i + (List.length (α := Int × Int) l : Int) + (List.length (α := Int × Int) a : Int)), (0 : Int)) :=
        hask' _ (List.mem_cons_self ..)
      have ask18 : ∀ z : Int, 0 ≤ z → z / 2 ≤ i + (List.length (α := Int × Int) l : Int) + (List.length (α := Int × Int) a : Int) → C 18 [.d (.int .i64) z] [.d (.int .i64), .d .bool, .d (.int .i64)] = some (z / 2, decide (z % 2 = 1), (0 : Int)) := by
        intro z hz0 hz1
        have := hask' ⟨18, [.d (.int .i64) z], [.d (.int .i64), .d .bool, .d (.int .i64)], (z / 2, decide (z % 2 = 1), (0 : Int))⟩ (List.mem_cons_of_mem _ (List.mem_map.2 ⟨z.toNat, List.mem_range.2 (by omega), by rw [show (z.toNat : Int) = z by omega]⟩))
        exact this
      have bad : Nat → Prop := fun b => b0 b
      have hV : ∀ (z : Int) (W : World), 0 ≤ z → z / 2 ≤ i + (List.length (α := Int × Int) l : Int) + (List.length (α := Int × Int) a : Int) → Calls Try.prog 18 #[.int .i64 z] W fun e w' => ∃ b, e = .returned (.tuple #[.int .i64 (z / 2), .bool b, .int .i64 0]) ∧ Below W.heap.size W w' := by
        intro z W hz0 hz1
        refine ((hC 18 _ _ h18 _ _ (ask18 z hz0 hz1)).2 (fun _ => False) W [.int .i64 z] [] (.cons (b := []) (mk_int _ _) .nil) List.nodup_nil (by simp) (fun _ h => h.elim)).mono fun e w' h => ?_
        obtain ⟨v, rfl, hres⟩ := h
        obtain ⟨e1, e2, _, _, hv, _⟩ := hres.res
        obtain ⟨us, rfl, hu⟩ := hv
        obtain ⟨x1, y1, m1, n1, rfl, _, j1, hu⟩ := hu.cons'
        obtain ⟨x2, y2, m2, n2, rfl, _, j2, hu⟩ := hu.cons'
        obtain ⟨x3, y3, m3, n3, rfl, _, j3, hu⟩ := hu.cons'
        obtain ⟨rfl, _⟩ := hu.nil'
        obtain ⟨rfl, -⟩ := rel_int (β := noβ) (ob := []) (w := w') (show VR2 noβ [] w' _ (.d (.int .i64) (z / 2)) x1 m1 from j1)
        obtain ⟨rfl, -⟩ := rel_bool (β := noβ) (ob := []) (w := w') (show VR2 noβ [] w' _ (.d .bool (decide (z % 2 = 1))) x2 m2 from j2)
        obtain ⟨rfl, -⟩ := rel_int (β := noβ) (ob := []) (w := w') (show VR2 noβ [] w' _ (.d (.int .i64) 0) x3 m3 from j3)
        exact ⟨_, rfl, below_of hres.same (by simp)⟩
      have hVs : VarsDo i (List.length (α := Int × Int) l) a A1 A2 c1 c2 u4 u5 w := by
        intro W hb
        have g1W := VR2_mono (bad' := fun b => False ∨ b ∈ ([] : List Nat)) (same_below hb) (fun _ _ h => h.elim) (fun b _ h => by rcases h with h | h; exact h.elim; cases h) (fun _ _ h => h) g1
        refine ((hC 14 _ _ h14 _ _ ask14).2 (fun _ => False) W _ [] (.cons (b := []) g1W .nil) List.nodup_nil (by simp) (fun _ h => h.elim)).mono fun e w' h => ?_
        · obtain ⟨v, rfl, hres⟩ := h
          obtain ⟨e1, e2, _, _, hv, _⟩ := hres.res
          obtain ⟨us, rfl, hu⟩ := hv
          obtain ⟨x1, y1, m1, n1, rfl, _, j1, hu⟩ := hu.cons'
          obtain ⟨x2, y2, m2, n2, rfl, _, j2, hu⟩ := hu.cons'
          obtain ⟨rfl, _⟩ := hu.nil'
          obtain ⟨rfl, -⟩ := rel_int (β := noβ) (ob := []) (w := w') (show VR2 noβ [] w' _ (.d (.int .i64) (i + (List.length (α := Int × Int) l : Int) + (List.length (α := Int × Int) a : Int))) x1 m1 from j1)
          obtain ⟨rfl, -⟩ := rel_int (β := noβ) (ob := []) (w := w') (show VR2 noβ [] w' _ (.d (.int .i64) 0) x2 m2 from j2)
          exact ⟨rfl, below_of hres.same (by simp)⟩
      have hD : ∀ (k : Nat) (g : Int × Int), (show List (Int × Int) from a)[k]? = some g → ∃ b o, A2 = some ⟨b, o, none⟩ ∧ b < w.heap.size ∧ w.cell? ⟨b, o + k * 2, none⟩ = some (.int .i64 g.1) ∧ w.cell? ⟨b, o + k * 2 + 1, none⟩ = some (.int .i64 g.2) := by
        intro k g hg
        cases A2 with
        | none => rw [show (show List (Int × Int) from a) = [] from hA2 rfl] at hg; simp at hg
        | some ad =>
          obtain ⟨hsp, ds, he, hat⟩ := hrow ad rfl k g hg
          obtain ⟨blk, off, spot⟩ := ad
          cases hsp
          obtain ⟨d1, d2, rfl, he1, he2⟩ := he
          simp only [enc] at he1 he2
          subst he1; subst he2
          have t0 := hat 0 _ rfl
          have t1 := hat 1 _ rfl
          exact ⟨blk, off, rfl, World.block_lt_of_cell? _ _ t0, t0, t1⟩
      refine (cone_walk f hS i (List.length (α := Int × Int) l) a A1 A2 c1 c2 u4 u5 lit w i0 i1 l1 a1 q0 q1 hVs hV hD (fun k g hg => by have := wellB_get hw k g hg; refine ⟨this.1, this.2.1, ?_⟩; have := this.2.2; simpa using this)).mono fun e w' h => ?_
      obtain ⟨v, rfl, hbel, bs', hn', hb', hnew⟩ := h
      refine ⟨_, rfl, ⟨(same_below hbel).mono fun _ _ h => h.elim, bs', [], by simpa using hn', fun b hb => ?_, ?_, .nil⟩⟩
      · rw [List.append_nil] at hb
        exact ⟨(hb' b hb).2, .inr (hb' b hb).1⟩
      · refine ⟨[v, .int .i64 0], rfl, ?_⟩
        have t : Vs (VR1 noβ [] w' (fun b => b0 b ∨ b ∈ bs' ++ [])) [.new (.int .i64) (f (coneL i (List.length (α := Int × Int) l) a lit)), .d (.int .i64) (0 : Int)] [v, .int .i64 0] bs' := by
          have := Vs.cons (r := VR1 noβ [] w' (fun b => b0 b ∨ b ∈ bs' ++ [])) (a := .new (.int .i64) (f (coneL i (List.length (α := Int × Int) l) a lit))) (hnew _) (.cons (b := []) (a := .d (.int .i64) 0) (mk_int (β := noβ) (ob := []) .i64 0) .nil)
          simp only [List.append_nil] at this ⊢
          exact this
        exact t
    · cases hans'
  · cases hans'
end Go.Proofs.Ytcgbilghglbgaaa

