/- What functions of the library do to rows: out of the kit's contracts. -/
import Derived.Test.YtnhbfjegcaflcaaR3
import Derived.Sort.EveryDepth
import Derived.Shelf.Sort.AssemblyIn
import Derived.Shelf.Slices.In.SortNone
import Derived.Shelf.Slices.CompactI
import Derived.Shelf.Slices.Delete
import Derived.Shelf.Slices.Empties
import Derived.Shelf.SlSortCmp.WholeK
import Derived.Shelf.SlSortCmp.NoneTotal
import Derived.Shelf.Small.Wraps
import Derived.Test.YtnhbfjegcaflcaaProg
namespace Go.Proofs.Ytnhbfjegcaflcaa.R
open Go Go.Shelf Go.Lib
set_option linter.unusedVariables false

def sortI (l : List Int) : List Int := l.mergeSort fun x y => decide (x ≤ y)
def cfAt (x y : Int × Int) : Int := compareInt y.2 x.2
def encAt (x : Int × Int) : List Value := [.int .i64 x.1, .int .i64 x.2]
def sortAt (l : List (Int × Int)) : List (Int × Int) := (Go.Sort.pdq (ltOf cfAt) l.toArray 0 l.toArray.size (Lib.bitLen l.toArray.size) true true).toList

theorem ltAt (x y : Int × Int) : ltOf cfAt x y = decide (y.2 < x.2) := by
  unfold ltOf cfAt compareInt
  by_cases h1 : y.2 < x.2
  · simp [h1]
  · by_cases h2 : x.2 < y.2 <;> simp [h1, h2]

theorem swoAt : Go.Sort.SWO (ltOf cfAt) where
  irrefl x := by rw [ltAt]; simp
  trans x y z h1 h2 := by rw [ltAt] at *; simp at *; omega
  ntrans x y z h1 h2 := by rw [ltAt] at *; simp at *; omega

theorem sortAt_spec (l : List (Int × Int)) : (sortAt l).Perm l ∧ (sortAt l).Pairwise fun x y => y.2 ≤ x.2 := by
  have h := Go.Sort.pdq_sorts (ltOf cfAt) swoAt l.toArray 0 l.toArray.size (Lib.bitLen l.toArray.size) true true (Nat.zero_le _) (Nat.le_refl _) (Or.inl rfl)
  obtain ⟨⟨h1, _, h3⟩, h2⟩ := h
  unfold sortAt
  generalize Go.Sort.pdq (ltOf cfAt) l.toArray 0 l.toArray.size (Lib.bitLen l.toArray.size) true true = d at h1 h2 h3
  constructor
  · have e1 : d.extract 0 l.toArray.size = d := by rw [← h1]; simp
    rw [e1] at h3
    simpa using h3
  · rw [List.pairwise_iff_getElem]
    intro i j hi hj hij
    have := h2 i j (Nat.zero_le _) hij (by rw [← h1]; simpa using hj)
    rw [ltAt, decide_eq_false_iff_not] at this
    have ei : i < d.size := by simpa using hi
    have ej : j < d.size := by simpa using hj
    rw [getElem!_pos d i ei, getElem!_pos d j ej] at this
    simpa using this

section
variable {w : World}

theorem putCells_get {o : Nat} {F cells : Array Value} (k : Nat) : (Go.Sort.putCells id o F cells)[k]? = (cells[k]?).map fun x => if o ≤ k ∧ k < o + F.size then F[k - o]! else x := by
  simp [Go.Sort.putCells]

theorem sorted_world {b o n : Nat} {F cells : Array Value} {elem : TypeId} {os : Array Obj} (hh : w.heap[b]? = some (.cells cells elem (0, 0))) :
    Same (· = b) w (Go.Sort.grow (Go.Sort.putRow id (Go.Sort.ahead w n) b o F) os) ∧ (Go.Sort.grow (Go.Sort.putRow id (Go.Sort.ahead w n) b o F) os).heap[b]? = some (.cells (Go.Sort.putCells id o F cells) elem (0, 0)) := by
  have hlt : b < w.heap.size := by
    rcases Nat.lt_or_ge b w.heap.size with h | h
    · exact h
    · rw [Array.getElem?_eq_none h] at hh; cases hh
  have hget : ∀ k, k < w.heap.size → (Go.Sort.grow (Go.Sort.putRow id (Go.Sort.ahead w n) b o F) os).heap[k]? = if b = k then (w.heap[k]?).map (Go.Sort.onCells (Go.Sort.putCells id o F)) else w.heap[k]? := by
    intro k hk
    simp only [Go.Sort.grow, Go.Sort.putRow, Go.Sort.mapBlock, Go.Sort.ahead]
    rw [Array.getElem?_append_left (by simpa using hk), Array.getElem?_modify]
  refine ⟨⟨?_, fun k hk hn => ?_, ⟨rfl, rfl, rfl, fun k hk => ?_⟩⟩, ?_⟩
  · simp [Go.Sort.grow, Go.Sort.putRow, Go.Sort.mapBlock, Go.Sort.ahead]
  · rw [hget k hk, if_neg (fun e => hn e.symm)]
  · rw [hget k hk]
    split
    · rename_i e
      subst e
      rw [hh]
      simp [Go.Sort.onCells, objLen, Go.Sort.putCells]
    · rfl
  · rw [hget b hlt, if_pos rfl, hh]; rfl

theorem row_of {w' : World} {bad' : Nat → Prop} {τ : Ty} {l' : List τ.den} {b o C : Nat} {F cells : Array Value} {elem : TypeId} (hB : C ≤ 9223372036854775807) (hh' : w'.heap[b]? = some (.cells (Go.Sort.putCells id o F cells) elem (0, 0))) (hC : l'.length ≤ C) (hcs : o + C * τ.size ≤ cells.size)
    (hsz : l'.length * τ.size ≤ F.size) (hF : ∀ (i : Nat) (x : τ.den), l'[i]? = some x → ∃ ds, enc w' bad' τ x ds ∧ ∀ (j : Nat) v, ds[j]? = some v → F[i * τ.size + j]! = v) : Row w' bad' τ l' b o C := by
  refine ⟨_, elem, hh', ⟨hC, hB⟩, by simpa [Go.Sort.putCells] using hcs, fun i x hx => ?_⟩
  obtain ⟨ds, he, hd⟩ := hF i x hx
  refine ⟨ds, he, fun j v hj => ?_⟩
  have hjl := lt_of_get hj
  rw [enc_len he] at hjl
  have hil := lt_of_get hx
  have h1 : (i + 1) * τ.size ≤ l'.length * τ.size := Nat.mul_le_mul_right _ (by omega)
  have h2 : l'.length * τ.size ≤ C * τ.size := Nat.mul_le_mul_right _ hC
  rw [Nat.add_mul] at h1
  have hk : o + i * τ.size + j < cells.size := by omega
  rw [putCells_get, Array.getElem?_eq_getElem hk, Option.map_some, if_pos ⟨by omega, by omega⟩, show o + i * τ.size + j - o = i * τ.size + j from by omega, hd j v hj]

theorem putRow_map {b o : Nat} {d : Array Int} : Go.Sort.putRow (Value.int .i64) w b o d = Go.Sort.putRow id w b o (d.map (Value.int .i64)) := by
  unfold Go.Sort.putRow
  congr 1
  funext c
  apply Array.ext_getElem?
  intro k
  simp only [Go.Sort.putCells, Array.getElem?_mapIdx, Array.size_map]
  congr 1
  funext x
  by_cases h : o ≤ k ∧ k < o + d.size
  · rw [if_pos h, if_pos h, getElem!_pos d (k - o) (by omega), getElem!_pos (d.map (Value.int .i64)) (k - o) (by simp; omega)]; simp
  · rw [if_neg h, if_neg h]

theorem int_at {d : Array Int} {i : Nat} {x : Int} (h : d.toList[i]? = some x) : (d.map (Value.int .i64))[i]! = Value.int .i64 x := by
  have hi : i < d.size := by have := lt_of_get h; simpa using this
  rw [getElem!_pos (d.map (Value.int .i64)) i (by simpa using hi)]
  rw [List.getElem?_eq_getElem (by simpa using hi)] at h
  have := Option.some.inj h
  simp only [Array.getElem_toList] at this
  simp [this]

theorem holds_int {bad : Nat → Prop} {l : List Int} {b o c : Nat} (hR : Row w bad (.int .i64) l b o c) : Go.Sort.Holds (Value.int .i64) w b o l.toArray := by
  obtain ⟨cells, elem, hh, hl, hc, hrd⟩ := hR
  intro j hj
  have hj' : j < l.length := by simpa using hj
  obtain ⟨ds, he, hd⟩ := hrd j l[j] (List.getElem?_eq_getElem hj')
  simp only [enc] at he
  subst he
  have h1 := hd 0 _ rfl
  simp only [Ty.size, Nat.mul_one, Nat.add_zero] at h1
  refine ⟨?_, by simp [World.frozen?, hh]⟩
  rw [cell_of hh, h1, getElem!_pos l.toArray j hj]; simp

theorem sort_do {P : Program} {ρ : Ren} (Ly : Lays.n189 P ρ) : ExtDo P (ρ.f 189) (.inplace (.int .i64) sortI none) := by
  refine ⟨fun l => by simp [sortI], fun w A C => Any.slices_Sort_int_none Ly A C w, fun bad w l b o c' C hR hne hC hlim => ?_⟩
  obtain ⟨cells, elem, hh, hl, hc, hrd⟩ := id hR
  refine (calls_of_every_depth fun D => AnyS.slices_Sort_int_in Ly D b o C l w (holds_int hR) hR.lt (by unfold LIM at hlim; omega)).mono ?_
  rintro e w' ⟨rfl, n, os, rfl⟩
  rw [putRow_map]
  obtain ⟨h1, h2⟩ := sorted_world (n := n) (o := o) (F := (List.mergeSort l fun x y => decide (x ≤ y)).toArray.map (Value.int .i64)) (os := os) hh
  exact ⟨rfl, h1, fun bad' => row_of (τ := .int .i64) (l' := sortI l) hl.2 h2 (by simp [sortI]; exact hl.1) hc (by simp [sortI, Ty.size]) fun i x hx => ⟨_, rfl, fun j v hj => by
    cases j with
    | zero => simp only [List.getElem?_cons_zero, Option.some.injEq] at hj; subst hj; simp only [Ty.size, Nat.mul_one, Nat.add_zero]; exact int_at (by simpa [sortI] using hx)
    | succ j => simp at hj⟩⟩

theorem compact_len (l : List Int) : (compact l).length ≤ l.length := by
  unfold compact compactUpTo
  rw [List.length_map]
  exact Nat.le_trans (List.length_filter_le _ _) (by simp)

theorem compact_do {P : Program} {ρ : Ren} (Ly : Lays2.n20 P ρ) : ExtDo P (ρ.f 20) (.take (.int .i64) compact) := by
  refine ⟨rfl, by have := compact_len []; exact List.eq_nil_of_length_eq_zero (by simpa using this), fun w A C => Any.slices_Compact_int_empty Ly A C w, fun bad w l b o c' C hR hne hC hCc hlim => ?_⟩
  obtain ⟨cells, elem, hh, hl, hc, hrd⟩ := id hR
  refine (Any.slices_Compact_int Ly b o C l w (holds_int hR) (by unfold LIM at hlim; omega) hC).mono ?_
  rintro e w' ⟨rfl, n, rfl⟩
  rw [putRow_map]
  obtain ⟨h1, h2⟩ := sorted_world (n := n) (o := o) (F := (compact l ++ List.replicate (l.length - (compact l).length) 0).toArray.map (Value.int .i64)) (os := #[]) hh
  rw [Go.Sort.grow_empty] at h1 h2
  have hcl := compact_len l
  refine ⟨rfl, h1, fun bad' => row_of (τ := .int .i64) (l' := compact l) (by omega) h2 (by show (compact l).length ≤ C; omega) (by simp only [Ty.size] at hc ⊢; omega) (by simp [Ty.size]) fun i x hx => ⟨_, rfl, fun j v hj => ?_⟩⟩
  have hi := lt_of_get hx
  cases j with
  | zero =>
    simp only [List.getElem?_cons_zero, Option.some.injEq] at hj
    subst hj
    simp only [Ty.size, Nat.mul_one, Nat.add_zero]
    exact int_at (by show (compact l ++ _)[i]? = some x; rw [List.getElem?_append_left hi]; exact hx)
  | succ j => simp at hj

theorem cut_do {P : Program} {ρ : Ren} (Ly : Lays2.n23 P ρ) : ExtDo P (ρ.f 23) (.cut (.int .i64)) := by
  refine ⟨rfl, fun w A C => Any.slices_Delete_int_empty Ly A C w, fun bad w l b o c' C i j hR hne hC hCc hB hlim hij hj => ?_⟩
  obtain ⟨cells, elem, hh, hl, hc, hrd⟩ := id hR
  have hlen : (List.take i l ++ List.drop j l).length = l.length - (j - i) := by rw [List.length_append, List.length_take, List.length_drop]; omega
  refine (Any.slices_Delete_int Ly b o C i j l w (holds_int hR) hC hB hij hj).mono ?_
  rintro e w' ⟨rfl, n, rfl⟩
  rw [putRow_map]
  obtain ⟨h1, h2⟩ := sorted_world (n := n) (o := o) (F := (List.take i l ++ List.drop j l ++ List.replicate (j - i) 0).toArray.map (Value.int .i64)) (os := #[]) hh
  rw [Go.Sort.grow_empty] at h1 h2
  refine ⟨by rw [hlen], h1, fun bad' => row_of (τ := .int .i64) (l' := List.take i l ++ List.drop j l) hB h2 (by show (List.take i l ++ List.drop j l).length ≤ C; omega) (by simp only [Ty.size] at hc ⊢; omega) (by simp [Ty.size]) fun k x hx => ⟨_, rfl, fun m v hm => ?_⟩⟩
  have hi := lt_of_get hx
  cases m with
  | zero =>
    simp only [List.getElem?_cons_zero, Option.some.injEq] at hm
    subst hm
    simp only [Ty.size, Nat.mul_one, Nat.add_zero]
    exact int_at (by show (List.take i l ++ List.drop j l ++ _)[k]? = some x; rw [List.getElem?_append_left hi]; exact hx)
  | succ m => simp at hm

theorem holds_at {bad : Nat → Prop} {l : List (Int × Int)} {b o c : Nat} (hR : Row w bad (.pair (.int .i64) (.int .i64)) l b o c) : Go.Sort.HoldsK encAt 2 w b o l.toArray := by
  obtain ⟨cells, elem, hh, hl, hc, hrd⟩ := hR
  intro t ht
  have ht' : t < l.length * 2 := by simpa using ht
  have hi : t / 2 < l.length := by omega
  obtain ⟨ds, he, hd⟩ := hrd (t / 2) l[t / 2] (List.getElem?_eq_getElem hi)
  obtain ⟨c1, c2, rfl, h1, h2⟩ := he
  simp only [enc] at h1 h2
  subst h1
  subst h2
  refine ⟨?_, by simp [World.frozen?, hh]⟩
  rw [cell_of hh, Go.Sort.get_flatK encAt 2 l.toArray t (by simpa using ht'), getElem!_pos l.toArray (t / 2) (by simpa using hi)]
  simp only [Ty.size] at hd
  have e : o + t / 2 * (1 + 1) + t % 2 = o + t := by omega
  rcases Nat.mod_two_eq_zero_or_one t with h0 | h0
  · have := hd 0 _ rfl
    rw [h0] at e
    rw [e] at this
    rw [this, h0]; simp [encAt]
  · have := hd 1 _ rfl
    rw [h0] at e
    rw [e] at this
    rw [this, h0]; simp [encAt]

theorem sortBy_do {P : Program} {ρ : Ren} (Ly : SlLaysF0.n6 P ρ) (aE : ∀ w, (isAgg (ρ.t 24)).run P w = .ok true w) (zE : ∀ w, (Go.sizeOf (ρ.t 24)).run P w = .ok 2 w) {g : FuncId} (eg : ∀ args w, (callFunc g args).run P w = .ok (.enter g args) w)
    (hcmp : ∀ b o s w, CmpLays P g #[] encAt 2 cfAt b o s w) : ExtDo P (ρ.f 6) (.inplace (.pair (.int .i64) (.int .i64)) sortAt (some g)) := by
  have hlen : ∀ l, (sortAt l).length = l.length := fun l => (sortAt_spec l).1.length_eq
  refine ⟨hlen, fun w A C => AnyF.slices_SortFunc_none Ly A C (.func (.func g) #[] #[]) w, fun bad w l b o c' C hR hne hC hlim => ?_⟩
  obtain ⟨cells, elem, hh, hl, hc, hrd⟩ := id hR
  refine (AnyQ.slices_SortFunc_eq Ly 2 aE zE encAt (fun _ => rfl) (fun x v hv => by simp only [encAt, List.mem_cons, List.not_mem_nil, or_false] at hv; rcases hv with rfl | rfl <;> rfl) cfAt swoAt g #[] b o C l.toArray w eg (hcmp _ _ _ _) (holds_at hR) hR.lt
    (by unfold LIM at hlim; simp; omega)).mono ?_
  rintro e w' ⟨rfl, n, os, rfl⟩
  unfold sortWorldK Go.Sort.putRowK
  have hd : (sortAt l).toArray = Go.Sort.pdq (ltOf cfAt) l.toArray 0 l.toArray.size (Lib.bitLen l.toArray.size) true true := by unfold sortAt; simp
  rw [← hd]
  obtain ⟨h1, h2⟩ := sorted_world (n := n) (o := o) (F := Go.Sort.flatK encAt 2 (sortAt l).toArray) (os := os) hh
  refine ⟨rfl, h1, fun bad' => row_of (τ := .pair (.int .i64) (.int .i64)) (l' := sortAt l) hl.2 h2 (by show (sortAt l).length ≤ c'; rw [hlen]; exact hl.1) hc (by simp [Ty.size]) fun i x hx => ⟨[Value.int .i64 x.1, Value.int .i64 x.2], ⟨[Value.int .i64 x.1], [Value.int .i64 x.2], rfl, rfl, rfl⟩, fun j v hj => ?_⟩⟩
  have hi := lt_of_get hx
  have hxx : (sortAt l)[i] = x := by rw [List.getElem?_eq_getElem hi] at hx; exact Option.some.inj hx
  simp only [Ty.size]
  have hj2 : j < 2 := by have := lt_of_get hj; simpa using this
  rw [Go.Sort.get_flatK encAt 2 _ _ (by simp; omega), show (i * (1 + 1) + j) / 2 = i from by omega, show (i * (1 + 1) + j) % 2 = j from by omega, getElem!_pos (sortAt l).toArray i (by simpa using hi)]
  simp only [List.getElem_toArray, hxx]
  rcases Nat.lt_or_ge j 1 with h0 | h0
  · have : j = 0 := by omega
    subst this
    simp at hj
    simp [encAt, hj]
  · have : j = 1 := by omega
    subst this
    simp at hj
    simp [encAt, hj]
end
end Go.Proofs.Ytnhbfjegcaflcaa.R
namespace Go.Proofs
open Go.Shelf
def Ytnhbfjegcaflcaa.laySort_ren : Go.Shelf.Ren := ⟨fun | 189 => 54 | 125 => 63 | 257 => 62 | 128 => 79 | 129 => 80 | 294 => 70 | 295 => 71 | 296 => 72 | 297 => 73 | 298 => 74 | 299 => 75 | 216 => 76 | 300 => 77 | 301 => 78 | 328 => 88 | 329 => 89 | 330 => 90 | 331 => 91 | 332 => 92 | 215 => 85 | 343 => 102 | n => n, fun | 28 => 26 | 3 => 3 | 46 => 63 | 0 => 0 | 51 => 116 | 53 => 118 | 4 => 4 | 183 => 109 | 182 => 108 | 131 => 113 | 5 => 5 | 9 => 9 | 218 => 124 | 222 => 128 | 228 => 135 | 229 => 71 | n => n, fun | n => n⟩
theorem Ytnhbfjegcaflcaa.laySort : Go.Proofs.Lays.n189 Try.prog Ytnhbfjegcaflcaa.laySort_ren := {
  mixed := by kernel_rfl
  f125 := Try.func63.trans (congrArg some (by kernel_rfl))
  f128 := Try.func79.trans (congrArg some (by kernel_rfl))
  f129 := Try.func80.trans (congrArg some (by kernel_rfl))
  f189 := Try.func54.trans (congrArg some (by kernel_rfl))
  f215 := Try.func85.trans (congrArg some (by kernel_rfl))
  f216 := Try.func76.trans (congrArg some (by kernel_rfl))
  f257 := Try.func62.trans (congrArg some (by kernel_rfl))
  f294 := Try.func70.trans (congrArg some (by kernel_rfl))
  f295 := Try.func71.trans (congrArg some (by kernel_rfl))
  f296 := Try.func72.trans (congrArg some (by kernel_rfl))
  f297 := Try.func73.trans (congrArg some (by kernel_rfl))
  f298 := Try.func74.trans (congrArg some (by kernel_rfl))
  f299 := Try.func75.trans (congrArg some (by kernel_rfl))
  f300 := Try.func77.trans (congrArg some (by kernel_rfl))
  f301 := Try.func78.trans (congrArg some (by kernel_rfl))
  f328 := Try.func88.trans (congrArg some (by kernel_rfl))
  f329 := Try.func89.trans (congrArg some (by kernel_rfl))
  f330 := Try.func90.trans (congrArg some (by kernel_rfl))
  f331 := Try.func91.trans (congrArg some (by kernel_rfl))
  f332 := Try.func92.trans (congrArg some (by kernel_rfl))
  f343 := Try.func102.trans (congrArg some (by kernel_rfl))
  t0 := Try.underlying0
  a0 := Try.isAgg0
  z0 := Try.sizeOf0
  v0 := Try.zeroValue0
  t3 := Try.underlying3
  a3 := Try.isAgg3
  z3 := Try.sizeOf3
  v3 := Try.zeroValue3
  t4 := Try.underlying4
  a4 := Try.isAgg4
  z4 := Try.sizeOf4
  v4 := Try.zeroValue4
  t5 := Try.underlying5
  a5 := Try.isAgg5
  z5 := Try.sizeOf5
  v5 := Try.zeroValue5
  t9 := Try.underlying9
  a9 := Try.isAgg9
  z9 := Try.sizeOf9
  v9 := Try.zeroValue9
  t28 := Try.underlying26
  a28 := Try.isAgg26
  z28 := Try.sizeOf26
  v28 := Try.zeroValue26
  t46 := Try.underlying63
  a46 := Try.isAgg63
  z46 := Try.sizeOf63
  v46 := Try.zeroValue63
  t51 := Try.underlying116
  a51 := Try.isAgg116
  z51 := Try.sizeOf116
  v51 := Try.zeroValue116
  t53 := Try.underlying118
  a53 := Try.isAgg118
  z53 := Try.sizeOf118
  v53 := Try.zeroValue118
  t131 := Try.underlying113
  a131 := Try.isAgg113
  z131 := Try.sizeOf113
  v131 := Try.zeroValue113
  t182 := Try.underlying108
  a182 := Try.isAgg108
  z182 := Try.sizeOf108
  v182 := Try.zeroValue108
  t183 := Try.underlying109
  a183 := Try.isAgg109
  z183 := Try.sizeOf109
  v183 := Try.zeroValue109
  t218 := Try.underlying124
  a218 := Try.isAgg124
  z218 := Try.sizeOf124
  v218 := Try.zeroValue124
  t222 := Try.underlying128
  a222 := Try.isAgg128
  z222 := Try.sizeOf128
  v222 := Try.zeroValue128
  t228 := Try.underlying135
  a228 := Try.isAgg135
  z228 := Try.sizeOf135
  v228 := Try.zeroValue135
  t229 := Try.underlying71
  a229 := Try.isAgg71
  z229 := Try.sizeOf71
  v229 := Try.zeroValue71 }
def Ytnhbfjegcaflcaa.layDelete_ren : Go.Shelf.Ren := ⟨fun | 23 => 53 | n => n, fun | 22 => 26 | 3 => 3 | 4 => 4 | 0 => 0 | n => n, fun | n => n⟩
theorem Ytnhbfjegcaflcaa.layDelete : Go.Proofs.Lays2.n23 Try.prog Ytnhbfjegcaflcaa.layDelete_ren := {
  mixed := by kernel_rfl
  f23 := Try.func53.trans (congrArg some (by kernel_rfl))
  t0 := Try.underlying0
  a0 := Try.isAgg0
  z0 := Try.sizeOf0
  v0 := Try.zeroValue0
  t3 := Try.underlying3
  a3 := Try.isAgg3
  z3 := Try.sizeOf3
  v3 := Try.zeroValue3
  t4 := Try.underlying4
  a4 := Try.isAgg4
  z4 := Try.sizeOf4
  v4 := Try.zeroValue4
  t22 := Try.underlying26
  a22 := Try.isAgg26
  z22 := Try.sizeOf26
  v22 := Try.zeroValue26
  i3 := by kernel_rfl }
def Ytnhbfjegcaflcaa.layCompare_ren : Go.Shelf.Ren := ⟨fun | 122 => 67 | 215 => 85 | n => n, fun | 3 => 3 | 4 => 4 | n => n, fun | n => n⟩
theorem Ytnhbfjegcaflcaa.layCompare : Go.Proofs.Lays.n122 Try.prog Ytnhbfjegcaflcaa.layCompare_ren := {
  mixed := by kernel_rfl
  f122 := Try.func67.trans (congrArg some (by kernel_rfl))
  f215 := Try.func85.trans (congrArg some (by kernel_rfl))
  t3 := Try.underlying3
  a3 := Try.isAgg3
  z3 := Try.sizeOf3
  v3 := Try.zeroValue3
  t4 := Try.underlying4
  a4 := Try.isAgg4
  z4 := Try.sizeOf4
  v4 := Try.zeroValue4 }
def Ytnhbfjegcaflcaa.laySortBy_ren : Go.Shelf.Ren := ⟨fun | 6 => 68 | 15 => 63 | 14 => 86 | 28 => 79 | 29 => 80 | 20 => 94 | 21 => 95 | 22 => 96 | 23 => 97 | 24 => 98 | 25 => 99 | 26 => 100 | 27 => 101 | 46 => 103 | 47 => 89 | 48 => 90 | 49 => 104 | 50 => 105 | 57 => 106 | n => n, fun | 22 => 86 | 24 => 90 | 25 => 104 | 3 => 3 | 39 => 63 | 0 => 0 | 53 => 116 | 55 => 118 | 4 => 4 | 46 => 109 | 45 => 108 | 50 => 113 | 5 => 5 | 9 => 9 | 66 => 124 | 70 => 128 | 76 => 135 | 77 => 71 | n => n, fun | n => n⟩
theorem Ytnhbfjegcaflcaa.laySortBy : Go.Proofs.SlLaysF0.n6 Try.prog Ytnhbfjegcaflcaa.laySortBy_ren := {
  mixed := by kernel_rfl
  f6 := ⟨Try.f68.name, by decide, Try.func68.trans (congrArg some (by kernel_rfl))⟩
  f14 := ⟨Try.f86.name, by decide, Try.func86.trans (congrArg some (by kernel_rfl))⟩
  f15 := Try.func63.trans (congrArg some (by kernel_rfl))
  f20 := ⟨Try.f94.name, by decide, Try.func94.trans (congrArg some (by kernel_rfl))⟩
  f21 := ⟨Try.f95.name, by decide, Try.func95.trans (congrArg some (by kernel_rfl))⟩
  f22 := ⟨Try.f96.name, by decide, Try.func96.trans (congrArg some (by kernel_rfl))⟩
  f23 := ⟨Try.f97.name, by decide, Try.func97.trans (congrArg some (by kernel_rfl))⟩
  f24 := ⟨Try.f98.name, by decide, Try.func98.trans (congrArg some (by kernel_rfl))⟩
  f25 := ⟨Try.f99.name, by decide, Try.func99.trans (congrArg some (by kernel_rfl))⟩
  f26 := ⟨Try.f100.name, by decide, Try.func100.trans (congrArg some (by kernel_rfl))⟩
  f27 := ⟨Try.f101.name, by decide, Try.func101.trans (congrArg some (by kernel_rfl))⟩
  f28 := Try.func79.trans (congrArg some (by kernel_rfl))
  f29 := Try.func80.trans (congrArg some (by kernel_rfl))
  f46 := ⟨Try.f103.name, by decide, Try.func103.trans (congrArg some (by kernel_rfl))⟩
  f47 := Try.func89.trans (congrArg some (by kernel_rfl))
  f48 := Try.func90.trans (congrArg some (by kernel_rfl))
  f49 := ⟨Try.f104.name, by decide, Try.func104.trans (congrArg some (by kernel_rfl))⟩
  f50 := ⟨Try.f105.name, by decide, Try.func105.trans (congrArg some (by kernel_rfl))⟩
  f57 := ⟨Try.f106.name, by decide, Try.func106.trans (congrArg some (by kernel_rfl))⟩
  t0 := Try.underlying0
  a0 := Try.isAgg0
  z0 := Try.sizeOf0
  v0 := Try.zeroValue0
  t3 := Try.underlying3
  a3 := Try.isAgg3
  z3 := Try.sizeOf3
  v3 := Try.zeroValue3
  t4 := Try.underlying4
  a4 := Try.isAgg4
  z4 := Try.sizeOf4
  v4 := Try.zeroValue4
  t5 := Try.underlying5
  a5 := Try.isAgg5
  z5 := Try.sizeOf5
  v5 := Try.zeroValue5
  t9 := Try.underlying9
  a9 := Try.isAgg9
  z9 := Try.sizeOf9
  v9 := Try.zeroValue9
  t22 := Try.underlying86
  a22 := Try.isAgg86
  z22 := Try.sizeOf86
  v22 := Try.zeroValue86
  t25 := Try.underlying104
  a25 := Try.isAgg104
  z25 := Try.sizeOf104
  v25 := Try.zeroValue104
  t39 := Try.underlying63
  a39 := Try.isAgg63
  z39 := Try.sizeOf63
  v39 := Try.zeroValue63
  t45 := Try.underlying108
  a45 := Try.isAgg108
  z45 := Try.sizeOf108
  v45 := Try.zeroValue108
  t46 := Try.underlying109
  a46 := Try.isAgg109
  z46 := Try.sizeOf109
  v46 := Try.zeroValue109
  t50 := Try.underlying113
  a50 := Try.isAgg113
  z50 := Try.sizeOf113
  v50 := Try.zeroValue113
  t53 := Try.underlying116
  a53 := Try.isAgg116
  z53 := Try.sizeOf116
  v53 := Try.zeroValue116
  t55 := Try.underlying118
  a55 := Try.isAgg118
  z55 := Try.sizeOf118
  v55 := Try.zeroValue118
  t66 := Try.underlying124
  a66 := Try.isAgg124
  z66 := Try.sizeOf124
  v66 := Try.zeroValue124
  t70 := Try.underlying128
  a70 := Try.isAgg128
  z70 := Try.sizeOf128
  v70 := Try.zeroValue128
  t76 := Try.underlying135
  a76 := Try.isAgg135
  z76 := Try.sizeOf135
  v76 := Try.zeroValue135
  t77 := Try.underlying71
  a77 := Try.isAgg71
  z77 := Try.sizeOf71
  v77 := Try.zeroValue71 }
end Go.Proofs
namespace Go.Proofs.Ytnhbfjegcaflcaa
open Go Go.Shelf Go.RowKit Go.Lib Go.Sort Go.Proofs.Ytnhbfjegcaflcaa.R
set_option maxHeartbeats 1000000 in
/-- The closure of jump.levels: the higher level first. -/
theorem closureAt (x y : Int × Int) (W : World) : Calls Try.prog 66 #[.agg #[.int .i64 x.1, .int .i64 x.2], .agg #[.int .i64 y.1, .int .i64 y.2]] W fun e w' => e = .returned (.int .i64 (Lib.compareInt y.2 x.2)) ∧ ∃ q os', w' = Go.Sort.grow (W.drewN q) os' := by
  have hcon := fun W' => Any.cmp_Compare_int layCompare y.2 x.2 W'
  change ∀ W', Calls Try.prog 67 _ _ _ at hcon
  generalize Lib.compareInt y.2 x.2 = r at hcon ⊢
  go_enter Try.func66, Try.ntmps66
  go_wp2_with (go_at_call 67; refine (hcon _).mono ?_; rintro e w' ⟨rfl, rfl⟩)
  go_ret
  exact ⟨rfl, 0, _, by rw [Go.Sort.alloc_eq_grow, Go.Sort.alloc_eq_grow, Go.Sort.grow_grow]; rfl⟩
theorem cmpAt : ∀ b o s w, CmpLays Try.prog 66 #[] encAt 2 cfAt b o s w := fun _ _ _ _ _ _ _ _ x y => closureAt x y _
theorem aggAt : ∀ w, (isAgg 90).run Try.prog w = .ok true w := Try.isAgg90
theorem sizeAt : ∀ w, (Go.sizeOf 90).run Try.prog w = .ok 2 w := Try.sizeOf90
theorem entersAt : ∀ args w, (callFunc 66 args).run Try.prog w = .ok (.enter 66 args) w := enters_of Try.func66 (by kernel_rfl) rfl
end Go.Proofs.Ytnhbfjegcaflcaa
