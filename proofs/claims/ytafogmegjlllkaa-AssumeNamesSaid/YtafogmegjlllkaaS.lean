/- What functions of the library do to rows: out of the kit's contracts. -/
import Derived.Test.YtafogmegjlllkaaR3
import Derived.Sort.EveryDepth
import Derived.Shelf.Sort.AssemblyIn
import Derived.Shelf.Slices.In.SortNone
import Derived.Shelf.Slices.CompactI
import Derived.Shelf.Slices.Delete
import Derived.Shelf.Slices.Empties
import Derived.Shelf.SlSortCmp.WholeK
import Derived.Shelf.SlSortCmp.NoneTotal
import Derived.Shelf.Small.Wraps
import Derived.Test.YtafogmegjlllkaaProg
namespace Go.Proofs.Ytafogmegjlllkaa.R
open Go Go.Shelf Go.Lib
set_option linter.unusedVariables false

def sortI (l : List Int) : List Int := l.mergeSort fun x y => decide (x ≤ y)
def cfAt (x y : Int × Int) : Int := compareInt y.2 x.2
def encAt (x : Int × Int) : List Value := [.int .i64 x.1, .int .i64 x.2]
def sortAt (l : List (Int × Int)) : List (Int × Int) := (Go.Sort.pdq (ltOf cfAt) l.toArray 0 l.toArray.size (Lib.bitLen l.toArray.size) true true).toList

theorem ltAt (x y : Int × Int) : ltOf cfAt x y = decide (y.2 < x.2) := by
  unfold ltOf cfAt compareInt
  by_cases h1 : y.2 < x.2
  · simp [h1]
  · by_cases h2 : x.2 < y.2 <;> simp [h1, h2]

theorem swoAt : Go.Sort.SWO (ltOf cfAt) where
  irrefl x := by rw [ltAt]; simp
  trans x y z h1 h2 := by rw [ltAt] at *; simp at *; omega
  ntrans x y z h1 h2 := by rw [ltAt] at *; simp at *; omega

theorem sortAt_spec (l : List (Int × Int)) : (sortAt l).Perm l ∧ (sortAt l).Pairwise fun x y => y.2 ≤ x.2 := by
  have h := Go.Sort.pdq_sorts (ltOf cfAt) swoAt l.toArray 0 l.toArray.size (Lib.bitLen l.toArray.size) true true (Nat.zero_le _) (Nat.le_refl _) (Or.inl rfl)
  obtain ⟨⟨h1, _, h3⟩, h2⟩ := h
  unfold sortAt
  generalize Go.Sort.pdq (ltOf cfAt) l.toArray 0 l.toArray.size (Lib.bitLen l.toArray.size) true true = d at h1 h2 h3
  constructor
  · have e1 : d.extract 0 l.toArray.size = d := by rw [← h1]; simp
    rw [e1] at h3
    simpa using h3
  · rw [List.pairwise_iff_getElem]
    intro i j hi hj hij
    have := h2 i j (Nat.zero_le _) hij (by rw [← h1]; simpa using hj)
    rw [ltAt, decide_eq_false_iff_not] at this
    have ei : i < d.size := by simpa using hi
    have ej : j < d.size := by simpa using hj
    rw [getElem!_pos d i ei, getElem!_pos d j ej] at this
    simpa using this

section
variable {w : World}

theorem putCells_get {o : Nat} {F cells : Array Value} (k : Nat) : (Go.Sort.putCells id o F cells)[k]? = (cells[k]?).map fun x => if o ≤ k ∧ k < o + F.size then F[k - o]! else x := by
  simp [Go.Sort.putCells]

theorem sorted_world {b o n : Nat} {F cells : Array Value} {elem : TypeId} {os : Array Obj} (hh : w.heap[b]? = some (.cells cells elem (0, 0))) :
    Same (· = b) w (Go.Sort.grow (Go.Sort.putRow id (Go.Sort.ahead w n) b o F) os) ∧ (Go.Sort.grow (Go.Sort.putRow id (Go.Sort.ahead w n) b o F) os).heap[b]? = some (.cells (Go.Sort.putCells id o F cells) elem (0, 0)) := by
  have hlt : b < w.heap.size := by
    rcases Nat.lt_or_ge b w.heap.size with h | h
    · exact h
    · rw [Array.getElem?_eq_none h] at hh; cases hh
  have hget : ∀ k, k < w.heap.size → (Go.Sort.grow (Go.Sort.putRow id (Go.Sort.ahead w n) b o F) os).heap[k]? = if b = k then (w.heap[k]?).map (Go.Sort.onCells (Go.Sort.putCells id o F)) else w.heap[k]? := by
    intro k hk
    simp only [Go.Sort.grow, Go.Sort.putRow, Go.Sort.mapBlock, Go.Sort.ahead]
    rw [Array.getElem?_append_left (by simpa using hk), Array.getElem?_modify]
  refine ⟨⟨?_, fun k hk hn => ?_, ⟨rfl, rfl, rfl, fun k hk => ?_⟩⟩, ?_⟩
  · simp [Go.Sort.grow, Go.Sort.putRow, Go.Sort.mapBlock, Go.Sort.ahead]
  · rw [hget k hk, if_neg (fun e => hn e.symm)]
  · rw [hget k hk]
    split
    · rename_i e
      subst e
      rw [hh]
      simp [Go.Sort.onCells, objLen, Go.Sort.putCells]
    · rfl
  · rw [hget b hlt, if_pos rfl, hh]; rfl

theorem row_of {w' : World} {bad' : Nat → Prop} {τ : Ty} {l' : List τ.den} {b o C : Nat} {F cells : Array Value} {elem : TypeId} (hB : C ≤ 9223372036854775807) (hh' : w'.heap[b]? = some (.cells (Go.Sort.putCells id o F cells) elem (0, 0))) (hC : l'.length ≤ C) (hcs : o + C * τ.size ≤ cells.size)
    (hsz : l'.length * τ.size ≤ F.size) (hF : ∀ (i : Nat) (x : τ.den), l'[i]? = some x → ∃ ds, enc w' bad' τ x ds ∧ ∀ (j : Nat) v, ds[j]? = some v → F[i * τ.size + j]! = v) : Row w' bad' τ l' b o C := by
  refine ⟨_, elem, hh', ⟨hC, hB⟩, by simpa [Go.Sort.putCells] using hcs, fun i x hx => ?_⟩
  obtain ⟨ds, he, hd⟩ := hF i x hx
  refine ⟨ds, he, fun j v hj => ?_⟩
  have hjl := lt_of_get hj
  rw [enc_len he] at hjl
  have hil := lt_of_get hx
  have h1 : (i + 1) * τ.size ≤ l'.length * τ.size := Nat.mul_le_mul_right _ (by omega)
  have h2 : l'.length * τ.size ≤ C * τ.size := Nat.mul_le_mul_right _ hC
  rw [Nat.add_mul] at h1
  have hk : o + i * τ.size + j < cells.size := by omega
  rw [putCells_get, Array.getElem?_eq_getElem hk, Option.map_some, if_pos ⟨by omega, by omega⟩, show o + i * τ.size + j - o = i * τ.size + j from by omega, hd j v hj]

theorem putRow_map {b o : Nat} {d : Array Int} : Go.Sort.putRow (Value.int .i64) w b o d = Go.Sort.putRow id w b o (d.map (Value.int .i64)) := by
  unfold Go.Sort.putRow
  congr 1
  funext c
  apply Array.ext_getElem?
  intro k
  simp only [Go.Sort.putCells, Array.getElem?_mapIdx, Array.size_map]
  congr 1
  funext x
  by_cases h : o ≤ k ∧ k < o + d.size
  · rw [if_pos h, if_pos h, getElem!_pos d (k - o) (by omega), getElem!_pos (d.map (Value.int .i64)) (k - o) (by simp; omega)]; simp
  · rw [if_neg h, if_neg h]

theorem int_at {d : Array Int} {i : Nat} {x : Int} (h : d.toList[i]? = some x) : (d.map (Value.int .i64))[i]! = Value.int .i64 x := by
  have hi : i < d.size := by have := lt_of_get h; simpa using this
  rw [getElem!_pos (d.map (Value.int .i64)) i (by simpa using hi)]
  rw [List.getElem?_eq_getElem (by simpa using hi)] at h
  have := Option.some.inj h
  simp only [Array.getElem_toList] at this
  simp [this]

theorem holds_int {bad : Nat → Prop} {l : List Int} {b o c : Nat} (hR : Row w bad (.int .i64) l b o c) : Go.Sort.Holds (Value.int .i64) w b o l.toArray := by
  obtain ⟨cells, elem, hh, hl, hc, hrd⟩ := hR
  intro j hj
  have hj' : j < l.length := by simpa using hj
  obtain ⟨ds, he, hd⟩ := hrd j l[j] (List.getElem?_eq_getElem hj')
  simp only [enc] at he
  subst he
  have h1 := hd 0 _ rfl
  simp only [Ty.size, Nat.mul_one, Nat.add_zero] at h1
  refine ⟨?_, by simp [World.frozen?, hh]⟩
  rw [cell_of hh, h1, getElem!_pos l.toArray j hj]; simp

theorem sort_do {P : Program} {ρ : Ren} (Ly : Lays.n189 P ρ) : ExtDo P (ρ.f 189) (.inplace (.int .i64) sortI none) := by
  refine ⟨fun l => by simp [sortI], fun w A C => Any.slices_Sort_int_none Ly A C w, fun bad w l b o c' C hR hne hC hlim => ?_⟩
  obtain ⟨cells, elem, hh, hl, hc, hrd⟩ := id hR
  refine (calls_of_every_depth fun D => AnyS.slices_Sort_int_in Ly D b o C l w (holds_int hR) hR.lt (by unfold LIM at hlim; omega)).mono ?_
  rintro e w' ⟨rfl, n, os, rfl⟩
  rw [putRow_map]
  obtain ⟨h1, h2⟩ := sorted_world (n := n) (o := o) (F := (List.mergeSort l fun x y => decide (x ≤ y)).toArray.map (Value.int .i64)) (os := os) hh
  exact ⟨rfl, h1, fun bad' => row_of (τ := .int .i64) (l' := sortI l) hl.2 h2 (by simp [sortI]; exact hl.1) hc (by simp [sortI, Ty.size]) fun i x hx => ⟨_, rfl, fun j v hj => by
    cases j with
    | zero => simp only [List.getElem?_cons_zero, Option.some.injEq] at hj; subst hj; simp only [Ty.size, Nat.mul_one, Nat.add_zero]; exact int_at (by simpa [sortI] using hx)
    | succ j => simp at hj⟩⟩

theorem compact_len (l : List Int) : (compact l).length ≤ l.length := by
  unfold compact compactUpTo
  rw [List.length_map]
  exact Nat.le_trans (List.length_filter_le _ _) (by simp)

theorem compact_do {P : Program} {ρ : Ren} (Ly : Lays2.n20 P ρ) : ExtDo P (ρ.f 20) (.take (.int .i64) compact) := by
  refine ⟨rfl, by have := compact_len []; exact List.eq_nil_of_length_eq_zero (by simpa using this), fun w A C => Any.slices_Compact_int_empty Ly A C w, fun bad w l b o c' C hR hne hC hCc hlim => ?_⟩
  obtain ⟨cells, elem, hh, hl, hc, hrd⟩ := id hR
  refine (Any.slices_Compact_int Ly b o C l w (holds_int hR) (by unfold LIM at hlim; omega) hC).mono ?_
  rintro e w' ⟨rfl, n, rfl⟩
  rw [putRow_map]
  obtain ⟨h1, h2⟩ := sorted_world (n := n) (o := o) (F := (compact l ++ List.replicate (l.length - (compact l).length) 0).toArray.map (Value.int .i64)) (os := #[]) hh
  rw [Go.Sort.grow_empty] at h1 h2
  have hcl := compact_len l
  refine ⟨rfl, h1, fun bad' => row_of (τ := .int .i64) (l' := compact l) (by omega) h2 (by show (compact l).length ≤ C; omega) (by simp only [Ty.size] at hc ⊢; omega) (by simp [Ty.size]) fun i x hx => ⟨_, rfl, fun j v hj => ?_⟩⟩
  have hi := lt_of_get hx
  cases j with
  | zero =>
    simp only [List.getElem?_cons_zero, Option.some.injEq] at hj
    subst hj
    simp only [Ty.size, Nat.mul_one, Nat.add_zero]
    exact int_at (by show (compact l ++ _)[i]? = some x; rw [List.getElem?_append_left hi]; exact hx)
  | succ j => simp at hj

theorem cut_do {P : Program} {ρ : Ren} (Ly : Lays2.n23 P ρ) : ExtDo P (ρ.f 23) (.cut (.int .i64)) := by
  refine ⟨rfl, fun w A C => Any.slices_Delete_int_empty Ly A C w, fun bad w l b o c' C i j hR hne hC hCc hB hlim hij hj => ?_⟩
  obtain ⟨cells, elem, hh, hl, hc, hrd⟩ := id hR
  have hlen : (List.take i l ++ List.drop j l).length = l.length - (j - i) := by rw [List.length_append, List.length_take, List.length_drop]; omega
  refine (Any.slices_Delete_int Ly b o C i j l w (holds_int hR) hC hB hij hj).mono ?_
  rintro e w' ⟨rfl, n, rfl⟩
  rw [putRow_map]
  obtain ⟨h1, h2⟩ := sorted_world (n := n) (o := o) (F := (List.take i l ++ List.drop j l ++ List.replicate (j - i) 0).toArray.map (Value.int .i64)) (os := #[]) hh
  rw [Go.Sort.grow_empty] at h1 h2
  refine ⟨by rw [hlen], h1, fun bad' => row_of (τ := .int .i64) (l' := List.take i l ++ List.drop j l) hB h2 (by show (List.take i l ++ List.drop j l).length ≤ C; omega) (by simp only [Ty.size] at hc ⊢; omega) (by simp [Ty.size]) fun k x hx => ⟨_, rfl, fun m v hm => ?_⟩⟩
  have hi := lt_of_get hx
  cases m with
  | zero =>
    simp only [List.getElem?_cons_zero, Option.some.injEq] at hm
    subst hm
    simp only [Ty.size, Nat.mul_one, Nat.add_zero]
    exact int_at (by show (List.take i l ++ List.drop j l ++ _)[k]? = some x; rw [List.getElem?_append_left hi]; exact hx)
  | succ m => simp at hm

theorem holds_at {bad : Nat → Prop} {l : List (Int × Int)} {b o c : Nat} (hR : Row w bad (.pair (.int .i64) (.int .i64)) l b o c) : Go.Sort.HoldsK encAt 2 w b o l.toArray := by
  obtain ⟨cells, elem, hh, hl, hc, hrd⟩ := hR
  intro t ht
  have ht' : t < l.length * 2 := by simpa using ht
  have hi : t / 2 < l.length := by omega
  obtain ⟨ds, he, hd⟩ := hrd (t / 2) l[t / 2] (List.getElem?_eq_getElem hi)
  obtain ⟨c1, c2, rfl, h1, h2⟩ := he
  simp only [enc] at h1 h2
  subst h1
  subst h2
  refine ⟨?_, by simp [World.frozen?, hh]⟩
  rw [cell_of hh, Go.Sort.get_flatK encAt 2 l.toArray t (by simpa using ht'), getElem!_pos l.toArray (t / 2) (by simpa using hi)]
  simp only [Ty.size] at hd
  have e : o + t / 2 * (1 + 1) + t % 2 = o + t := by omega
  rcases Nat.mod_two_eq_zero_or_one t with h0 | h0
  · have := hd 0 _ rfl
    rw [h0] at e
    rw [e] at this
    rw [this, h0]; simp [encAt]
  · have := hd 1 _ rfl
    rw [h0] at e
    rw [e] at this
    rw [this, h0]; simp [encAt]

theorem sortBy_do {P : Program} {ρ : Ren} (Ly : SlLaysF0.n6 P ρ) (aE : ∀ w, (isAgg (ρ.t 24)).run P w = .ok true w) (zE : ∀ w, (Go.sizeOf (ρ.t 24)).run P w = .ok 2 w) {g : FuncId} (eg : ∀ args w, (callFunc g args).run P w = .ok (.enter g args) w)
    (hcmp : ∀ b o s w, CmpLays P g #[] encAt 2 cfAt b o s w) : ExtDo P (ρ.f 6) (.inplace (.pair (.int .i64) (.int .i64)) sortAt (some g)) := by
  have hlen : ∀ l, (sortAt l).length = l.length := fun l => (sortAt_spec l).1.length_eq
  refine ⟨hlen, fun w A C => AnyF.slices_SortFunc_none Ly A C (.func (.func g) #[] #[]) w, fun bad w l b o c' C hR hne hC hlim => ?_⟩
  obtain ⟨cells, elem, hh, hl, hc, hrd⟩ := id hR
  refine (AnyQ.slices_SortFunc_eq Ly 2 aE zE encAt (fun _ => rfl) (fun x v hv => by simp only [encAt, List.mem_cons, List.not_mem_nil, or_false] at hv; rcases hv with rfl | rfl <;> rfl) cfAt swoAt g #[] b o C l.toArray w eg (hcmp _ _ _ _) (holds_at hR) hR.lt
    (by unfold LIM at hlim; simp; omega)).mono ?_
  rintro e w' ⟨rfl, n, os, rfl⟩
  unfold sortWorldK Go.Sort.putRowK
  have hd : (sortAt l).toArray = Go.Sort.pdq (ltOf cfAt) l.toArray 0 l.toArray.size (Lib.bitLen l.toArray.size) true true := by unfold sortAt; simp
  rw [← hd]
  obtain ⟨h1, h2⟩ := sorted_world (n := n) (o := o) (F := Go.Sort.flatK encAt 2 (sortAt l).toArray) (os := os) hh
  refine ⟨rfl, h1, fun bad' => row_of (τ := .pair (.int .i64) (.int .i64)) (l' := sortAt l) hl.2 h2 (by show (sortAt l).length ≤ c'; rw [hlen]; exact hl.1) hc (by simp [Ty.size]) fun i x hx => ⟨[Value.int .i64 x.1, Value.int .i64 x.2], ⟨[Value.int .i64 x.1], [Value.int .i64 x.2], rfl, rfl, rfl⟩, fun j v hj => ?_⟩⟩
  have hi := lt_of_get hx
  have hxx : (sortAt l)[i] = x := by rw [List.getElem?_eq_getElem hi] at hx; exact Option.some.inj hx
  simp only [Ty.size]
  have hj2 : j < 2 := by have := lt_of_get hj; simpa using this
  rw [Go.Sort.get_flatK encAt 2 _ _ (by simp; omega), show (i * (1 + 1) + j) / 2 = i from by omega, show (i * (1 + 1) + j) % 2 = j from by omega, getElem!_pos (sortAt l).toArray i (by simpa using hi)]
  simp only [List.getElem_toArray, hxx]
  rcases Nat.lt_or_ge j 1 with h0 | h0
  · have : j = 0 := by omega
    subst this
    simp at hj
    simp [encAt, hj]
  · have : j = 1 := by omega
    subst this
    simp at hj
    simp [encAt, hj]
end
end Go.Proofs.Ytafogmegjlllkaa.R
namespace Go.Proofs
open Go.Shelf
def Ytafogmegjlllkaa.laySort_ren : Go.Shelf.Ren := ⟨fun | 189 => 43 | 125 => 54 | 257 => 53 | 128 => 70 | 129 => 71 | 294 => 61 | 295 => 62 | 296 => 63 | 297 => 64 | 298 => 65 | 299 => 66 | 216 => 67 | 300 => 68 | 301 => 69 | 328 => 77 | 329 => 78 | 330 => 79 | 331 => 80 | 332 => 81 | 215 => 75 | 343 => 91 | n => n, fun | 28 => 24 | 3 => 3 | 46 => 93 | 0 => 0 | 51 => 111 | 53 => 113 | 4 => 4 | 183 => 104 | 182 => 103 | 131 => 108 | 5 => 5 | 9 => 9 | 218 => 118 | 222 => 122 | 228 => 129 | 229 => 61 | n => n, fun | n => n⟩
theorem Ytafogmegjlllkaa.laySort : Go.Proofs.Lays.n189 Try.prog Ytafogmegjlllkaa.laySort_ren := {
  mixed := by kernel_rfl
  f125 := Try.func54.trans (congrArg some (by kernel_rfl))
  f128 := Try.func70.trans (congrArg some (by kernel_rfl))
  f129 := Try.func71.trans (congrArg some (by kernel_rfl))
  f189 := Try.func43.trans (congrArg some (by kernel_rfl))
  f215 := Try.func75.trans (congrArg some (by kernel_rfl))
  f216 := Try.func67.trans (congrArg some (by kernel_rfl))
  f257 := Try.func53.trans (congrArg some (by kernel_rfl))
  f294 := Try.func61.trans (congrArg some (by kernel_rfl))
  f295 := Try.func62.trans (congrArg some (by kernel_rfl))
  f296 := Try.func63.trans (congrArg some (by kernel_rfl))
  f297 := Try.func64.trans (congrArg some (by kernel_rfl))
  f298 := Try.func65.trans (congrArg some (by kernel_rfl))
  f299 := Try.func66.trans (congrArg some (by kernel_rfl))
  f300 := Try.func68.trans (congrArg some (by kernel_rfl))
  f301 := Try.func69.trans (congrArg some (by kernel_rfl))
  f328 := Try.func77.trans (congrArg some (by kernel_rfl))
  f329 := Try.func78.trans (congrArg some (by kernel_rfl))
  f330 := Try.func79.trans (congrArg some (by kernel_rfl))
  f331 := Try.func80.trans (congrArg some (by kernel_rfl))
  f332 := Try.func81.trans (congrArg some (by kernel_rfl))
  f343 := Try.func91.trans (congrArg some (by kernel_rfl))
  t0 := Try.underlying0
  a0 := Try.isAgg0
  z0 := Try.sizeOf0
  v0 := Try.zeroValue0
  t3 := Try.underlying3
  a3 := Try.isAgg3
  z3 := Try.sizeOf3
  v3 := Try.zeroValue3
  t4 := Try.underlying4
  a4 := Try.isAgg4
  z4 := Try.sizeOf4
  v4 := Try.zeroValue4
  t5 := Try.underlying5
  a5 := Try.isAgg5
  z5 := Try.sizeOf5
  v5 := Try.zeroValue5
  t9 := Try.underlying9
  a9 := Try.isAgg9
  z9 := Try.sizeOf9
  v9 := Try.zeroValue9
  t28 := Try.underlying24
  a28 := Try.isAgg24
  z28 := Try.sizeOf24
  v28 := Try.zeroValue24
  t46 := Try.underlying93
  a46 := Try.isAgg93
  z46 := Try.sizeOf93
  v46 := Try.zeroValue93
  t51 := Try.underlying111
  a51 := Try.isAgg111
  z51 := Try.sizeOf111
  v51 := Try.zeroValue111
  t53 := Try.underlying113
  a53 := Try.isAgg113
  z53 := Try.sizeOf113
  v53 := Try.zeroValue113
  t131 := Try.underlying108
  a131 := Try.isAgg108
  z131 := Try.sizeOf108
  v131 := Try.zeroValue108
  t182 := Try.underlying103
  a182 := Try.isAgg103
  z182 := Try.sizeOf103
  v182 := Try.zeroValue103
  t183 := Try.underlying104
  a183 := Try.isAgg104
  z183 := Try.sizeOf104
  v183 := Try.zeroValue104
  t218 := Try.underlying118
  a218 := Try.isAgg118
  z218 := Try.sizeOf118
  v218 := Try.zeroValue118
  t222 := Try.underlying122
  a222 := Try.isAgg122
  z222 := Try.sizeOf122
  v222 := Try.zeroValue122
  t228 := Try.underlying129
  a228 := Try.isAgg129
  z228 := Try.sizeOf129
  v228 := Try.zeroValue129
  t229 := Try.underlying61
  a229 := Try.isAgg61
  z229 := Try.sizeOf61
  v229 := Try.zeroValue61 }
def Ytafogmegjlllkaa.layDelete_ren : Go.Shelf.Ren := ⟨fun | 23 => 25 | n => n, fun | 22 => 24 | 3 => 3 | 4 => 4 | 0 => 0 | n => n, fun | n => n⟩
theorem Ytafogmegjlllkaa.layDelete : Go.Proofs.Lays2.n23 Try.prog Ytafogmegjlllkaa.layDelete_ren := {
  mixed := by kernel_rfl
  f23 := Try.func25.trans (congrArg some (by kernel_rfl))
  t0 := Try.underlying0
  a0 := Try.isAgg0
  z0 := Try.sizeOf0
  v0 := Try.zeroValue0
  t3 := Try.underlying3
  a3 := Try.isAgg3
  z3 := Try.sizeOf3
  v3 := Try.zeroValue3
  t4 := Try.underlying4
  a4 := Try.isAgg4
  z4 := Try.sizeOf4
  v4 := Try.zeroValue4
  t22 := Try.underlying24
  a22 := Try.isAgg24
  z22 := Try.sizeOf24
  v22 := Try.zeroValue24
  i3 := by kernel_rfl }
def Ytafogmegjlllkaa.layCompare_ren : Go.Shelf.Ren := ⟨fun | 122 => 58 | 215 => 75 | n => n, fun | 3 => 3 | 4 => 4 | n => n, fun | n => n⟩
theorem Ytafogmegjlllkaa.layCompare : Go.Proofs.Lays.n122 Try.prog Ytafogmegjlllkaa.layCompare_ren := {
  mixed := by kernel_rfl
  f122 := Try.func58.trans (congrArg some (by kernel_rfl))
  f215 := Try.func75.trans (congrArg some (by kernel_rfl))
  t3 := Try.underlying3
  a3 := Try.isAgg3
  z3 := Try.sizeOf3
  v3 := Try.zeroValue3
  t4 := Try.underlying4
  a4 := Try.isAgg4
  z4 := Try.sizeOf4
  v4 := Try.zeroValue4 }
def Ytafogmegjlllkaa.laySortBy_ren : Go.Shelf.Ren := ⟨fun | 6 => 59 | 15 => 54 | 14 => 76 | 28 => 70 | 29 => 71 | 20 => 83 | 21 => 84 | 22 => 85 | 23 => 86 | 24 => 87 | 25 => 88 | 26 => 89 | 27 => 90 | 46 => 92 | 47 => 78 | 48 => 79 | 49 => 93 | 50 => 94 | 57 => 95 | n => n, fun | 22 => 80 | 24 => 84 | 25 => 99 | 3 => 3 | 39 => 93 | 0 => 0 | 53 => 111 | 55 => 113 | 4 => 4 | 46 => 104 | 45 => 103 | 50 => 108 | 5 => 5 | 9 => 9 | 66 => 118 | 70 => 122 | 76 => 129 | 77 => 61 | n => n, fun | n => n⟩
theorem Ytafogmegjlllkaa.laySortBy : Go.Proofs.SlLaysF0.n6 Try.prog Ytafogmegjlllkaa.laySortBy_ren := {
  mixed := by kernel_rfl
  f6 := ⟨Try.f59.name, by decide, Try.func59.trans (congrArg some (by kernel_rfl))⟩
  f14 := ⟨Try.f76.name, by decide, Try.func76.trans (congrArg some (by kernel_rfl))⟩
  f15 := Try.func54.trans (congrArg some (by kernel_rfl))
  f20 := ⟨Try.f83.name, by decide, Try.func83.trans (congrArg some (by kernel_rfl))⟩
  f21 := ⟨Try.f84.name, by decide, Try.func84.trans (congrArg some (by kernel_rfl))⟩
  f22 := ⟨Try.f85.name, by decide, Try.func85.trans (congrArg some (by kernel_rfl))⟩
  f23 := ⟨Try.f86.name, by decide, Try.func86.trans (congrArg some (by kernel_rfl))⟩
  f24 := ⟨Try.f87.name, by decide, Try.func87.trans (congrArg some (by kernel_rfl))⟩
  f25 := ⟨Try.f88.name, by decide, Try.func88.trans (congrArg some (by kernel_rfl))⟩
  f26 := ⟨Try.f89.name, by decide, Try.func89.trans (congrArg some (by kernel_rfl))⟩
  f27 := ⟨Try.f90.name, by decide, Try.func90.trans (congrArg some (by kernel_rfl))⟩
  f28 := Try.func70.trans (congrArg some (by kernel_rfl))
  f29 := Try.func71.trans (congrArg some (by kernel_rfl))
  f46 := ⟨Try.f92.name, by decide, Try.func92.trans (congrArg some (by kernel_rfl))⟩
  f47 := Try.func78.trans (congrArg some (by kernel_rfl))
  f48 := Try.func79.trans (congrArg some (by kernel_rfl))
  f49 := ⟨Try.f93.name, by decide, Try.func93.trans (congrArg some (by kernel_rfl))⟩
  f50 := ⟨Try.f94.name, by decide, Try.func94.trans (congrArg some (by kernel_rfl))⟩
  f57 := ⟨Try.f95.name, by decide, Try.func95.trans (congrArg some (by kernel_rfl))⟩
  t0 := Try.underlying0
  a0 := Try.isAgg0
  z0 := Try.sizeOf0
  v0 := Try.zeroValue0
  t3 := Try.underlying3
  a3 := Try.isAgg3
  z3 := Try.sizeOf3
  v3 := Try.zeroValue3
  t4 := Try.underlying4
  a4 := Try.isAgg4
  z4 := Try.sizeOf4
  v4 := Try.zeroValue4
  t5 := Try.underlying5
  a5 := Try.isAgg5
  z5 := Try.sizeOf5
  v5 := Try.zeroValue5
  t9 := Try.underlying9
  a9 := Try.isAgg9
  z9 := Try.sizeOf9
  v9 := Try.zeroValue9
  t22 := Try.underlying80
  a22 := Try.isAgg80
  z22 := Try.sizeOf80
  v22 := Try.zeroValue80
  t25 := Try.underlying99
  a25 := Try.isAgg99
  z25 := Try.sizeOf99
  v25 := Try.zeroValue99
  t39 := Try.underlying93
  a39 := Try.isAgg93
  z39 := Try.sizeOf93
  v39 := Try.zeroValue93
  t45 := Try.underlying103
  a45 := Try.isAgg103
  z45 := Try.sizeOf103
  v45 := Try.zeroValue103
  t46 := Try.underlying104
  a46 := Try.isAgg104
  z46 := Try.sizeOf104
  v46 := Try.zeroValue104
  t50 := Try.underlying108
  a50 := Try.isAgg108
  z50 := Try.sizeOf108
  v50 := Try.zeroValue108
  t53 := Try.underlying111
  a53 := Try.isAgg111
  z53 := Try.sizeOf111
  v53 := Try.zeroValue111
  t55 := Try.underlying113
  a55 := Try.isAgg113
  z55 := Try.sizeOf113
  v55 := Try.zeroValue113
  t66 := Try.underlying118
  a66 := Try.isAgg118
  z66 := Try.sizeOf118
  v66 := Try.zeroValue118
  t70 := Try.underlying122
  a70 := Try.isAgg122
  z70 := Try.sizeOf122
  v70 := Try.zeroValue122
  t76 := Try.underlying129
  a76 := Try.isAgg129
  z76 := Try.sizeOf129
  v76 := Try.zeroValue129
  t77 := Try.underlying61
  a77 := Try.isAgg61
  z77 := Try.sizeOf61
  v77 := Try.zeroValue61 }
end Go.Proofs
namespace Go.Proofs.Ytafogmegjlllkaa
open Go Go.Shelf Go.RowKit Go.Lib Go.Sort Go.Proofs.Ytafogmegjlllkaa.R
set_option maxHeartbeats 1000000 in
/-- The closure of jump.levels: the higher level first. -/
theorem closureAt (x y : Int × Int) (W : World) : Calls Try.prog 57 #[.agg #[.int .i64 x.1, .int .i64 x.2], .agg #[.int .i64 y.1, .int .i64 y.2]] W fun e w' => e = .returned (.int .i64 (Lib.compareInt y.2 x.2)) ∧ ∃ q os', w' = Go.Sort.grow (W.drewN q) os' := by
  have hcon := fun W' => Any.cmp_Compare_int layCompare y.2 x.2 W'
  change ∀ W', Calls Try.prog 58 _ _ _ at hcon
  generalize Lib.compareInt y.2 x.2 = r at hcon ⊢
  go_enter Try.func57, Try.ntmps57
  go_wp2_with (go_at_call 58; refine (hcon _).mono ?_; rintro e w' ⟨rfl, rfl⟩)
  go_ret
  exact ⟨rfl, 0, _, by rw [Go.Sort.alloc_eq_grow, Go.Sort.alloc_eq_grow, Go.Sort.grow_grow]; rfl⟩
theorem cmpAt : ∀ b o s w, CmpLays Try.prog 57 #[] encAt 2 cfAt b o s w := fun _ _ _ _ _ _ _ _ x y => closureAt x y _
theorem aggAt : ∀ w, (isAgg 84).run Try.prog w = .ok true w := Try.isAgg84
theorem sizeAt : ∀ w, (Go.sizeOf 84).run Try.prog w = .ok 2 w := Try.sizeOf84
theorem entersAt : ∀ args w, (callFunc 57 args).run Try.prog w = .ok (.enter 57 args) w := enters_of Try.func57 (by kernel_rfl) rfl
end Go.Proofs.Ytafogmegjlllkaa
