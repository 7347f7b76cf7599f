/- What functions of the library do to rows: out of the kit's contracts. -/
import Derived.Test.YtdojdblncegjcaaR3
import Derived.Sort.EveryDepth
import Derived.Shelf.Sort.AssemblyIn
import Derived.Shelf.Slices.In.SortNone
import Derived.Shelf.Slices.CompactI
import Derived.Shelf.SlSortCmp.WholeK
import Derived.Shelf.SlSortCmp.NoneTotal
import Derived.Shelf.Small.Wraps
import Derived.Test.YtdojdblncegjcaaProg
namespace Go.Proofs.Ytdojdblncegjcaa.R
open Go Go.Shelf Go.Lib
set_option linter.unusedVariables false

def sortI (l : List Int) : List Int := l.mergeSort fun x y => decide (x ≤ y)
def cfAt (x y : Int × Int) : Int := compareInt y.2 x.2
def encAt (x : Int × Int) : List Value := [.int .i64 x.1, .int .i64 x.2]
def sortAt (l : List (Int × Int)) : List (Int × Int) := (Go.Sort.pdq (ltOf cfAt) l.toArray 0 l.toArray.size (Lib.bitLen l.toArray.size) true true).toList

theorem ltAt (x y : Int × Int) : ltOf cfAt x y = decide (y.2 < x.2) := by
  unfold ltOf cfAt compareInt
  by_cases h1 : y.2 < x.2
  · simp [h1]
  · by_cases h2 : x.2 < y.2 <;> simp [h1, h2]

theorem swoAt : Go.Sort.SWO (ltOf cfAt) where
  irrefl x := by rw [ltAt]; simp
  trans x y z h1 h2 := by rw [ltAt] at *; simp at *; omega
  ntrans x y z h1 h2 := by rw [ltAt] at *; simp at *; omega

theorem sortAt_spec (l : List (Int × Int)) : (sortAt l).Perm l ∧ (sortAt l).Pairwise fun x y => y.2 ≤ x.2 := by
  have h := Go.Sort.pdq_sorts (ltOf cfAt) swoAt l.toArray 0 l.toArray.size (Lib.bitLen l.toArray.size) true true (Nat.zero_le _) (Nat.le_refl _) (Or.inl rfl)
  obtain ⟨⟨h1, _, h3⟩, h2⟩ := h
  unfold sortAt
  generalize Go.Sort.pdq (ltOf cfAt) l.toArray 0 l.toArray.size (Lib.bitLen l.toArray.size) true true = d at h1 h2 h3
  constructor
  · have e1 : d.extract 0 l.toArray.size = d := by rw [← h1]; simp
    rw [e1] at h3
    simpa using h3
  · rw [List.pairwise_iff_getElem]
    intro i j hi hj hij
    have := h2 i j (Nat.zero_le _) hij (by rw [← h1]; simpa using hj)
    rw [ltAt, decide_eq_false_iff_not] at this
    have ei : i < d.size := by simpa using hi
    have ej : j < d.size := by simpa using hj
    rw [getElem!_pos d i ei, getElem!_pos d j ej] at this
    simpa using this

section
variable {w : World}

theorem putCells_get {o : Nat} {F cells : Array Value} (k : Nat) : (Go.Sort.putCells id o F cells)[k]? = (cells[k]?).map fun x => if o ≤ k ∧ k < o + F.size then F[k - o]! else x := by
  simp [Go.Sort.putCells]

theorem sorted_world {b o n : Nat} {F cells : Array Value} {elem : TypeId} {os : Array Obj} (hh : w.heap[b]? = some (.cells cells elem (0, 0))) :
    Same (· = b) w (Go.Sort.grow (Go.Sort.putRow id (Go.Sort.ahead w n) b o F) os) ∧ (Go.Sort.grow (Go.Sort.putRow id (Go.Sort.ahead w n) b o F) os).heap[b]? = some (.cells (Go.Sort.putCells id o F cells) elem (0, 0)) := by
  have hlt : b < w.heap.size := by
    rcases Nat.lt_or_ge b w.heap.size with h | h
    · exact h
    · rw [Array.getElem?_eq_none h] at hh; cases hh
  have hget : ∀ k, k < w.heap.size → (Go.Sort.grow (Go.Sort.putRow id (Go.Sort.ahead w n) b o F) os).heap[k]? = if b = k then (w.heap[k]?).map (Go.Sort.onCells (Go.Sort.putCells id o F)) else w.heap[k]? := by
    intro k hk
    simp only [Go.Sort.grow, Go.Sort.putRow, Go.Sort.mapBlock, Go.Sort.ahead]
    rw [Array.getElem?_append_left (by simpa using hk), Array.getElem?_modify]
  refine ⟨⟨?_, fun k hk hn => ?_, ⟨rfl, rfl, rfl, fun k hk => ?_⟩⟩, ?_⟩
  · simp [Go.Sort.grow, Go.Sort.putRow, Go.Sort.mapBlock, Go.Sort.ahead]
  · rw [hget k hk, if_neg (fun e => hn e.symm)]
  · rw [hget k hk]
    split
    · rename_i e
      subst e
      rw [hh]
      simp [Go.Sort.onCells, objLen, Go.Sort.putCells]
    · rfl
  · rw [hget b hlt, if_pos rfl, hh]; rfl

theorem row_of {w' : World} {bad' : Nat → Prop} {τ : Ty} {l' : List τ.den} {b o C : Nat} {F cells : Array Value} {elem : TypeId} (hh' : w'.heap[b]? = some (.cells (Go.Sort.putCells id o F cells) elem (0, 0))) (hC : l'.length ≤ C) (hcs : o + C * τ.size ≤ cells.size)
    (hsz : l'.length * τ.size ≤ F.size) (hF : ∀ (i : Nat) (x : τ.den), l'[i]? = some x → ∃ ds, enc w' bad' τ x ds ∧ ∀ (j : Nat) v, ds[j]? = some v → F[i * τ.size + j]! = v) : Row w' bad' τ l' b o C := by
  refine ⟨_, elem, hh', hC, by simpa [Go.Sort.putCells] using hcs, fun i x hx => ?_⟩
  obtain ⟨ds, he, hd⟩ := hF i x hx
  refine ⟨ds, he, fun j v hj => ?_⟩
  have hjl := lt_of_get hj
  rw [enc_len he] at hjl
  have hil := lt_of_get hx
  have h1 : (i + 1) * τ.size ≤ l'.length * τ.size := Nat.mul_le_mul_right _ (by omega)
  have h2 : l'.length * τ.size ≤ C * τ.size := Nat.mul_le_mul_right _ hC
  rw [Nat.add_mul] at h1
  have hk : o + i * τ.size + j < cells.size := by omega
  rw [putCells_get, Array.getElem?_eq_getElem hk, Option.map_some, if_pos ⟨by omega, by omega⟩, show o + i * τ.size + j - o = i * τ.size + j from by omega, hd j v hj]

theorem putRow_map {b o : Nat} {d : Array Int} : Go.Sort.putRow (Value.int .i64) w b o d = Go.Sort.putRow id w b o (d.map (Value.int .i64)) := by
  unfold Go.Sort.putRow
  congr 1
  funext c
  apply Array.ext_getElem?
  intro k
  simp only [Go.Sort.putCells, Array.getElem?_mapIdx, Array.size_map]
  congr 1
  funext x
  by_cases h : o ≤ k ∧ k < o + d.size
  · rw [if_pos h, if_pos h, getElem!_pos d (k - o) (by omega), getElem!_pos (d.map (Value.int .i64)) (k - o) (by simp; omega)]; simp
  · rw [if_neg h, if_neg h]

theorem int_at {d : Array Int} {i : Nat} {x : Int} (h : d.toList[i]? = some x) : (d.map (Value.int .i64))[i]! = Value.int .i64 x := by
  have hi : i < d.size := by have := lt_of_get h; simpa using this
  rw [getElem!_pos (d.map (Value.int .i64)) i (by simpa using hi)]
  rw [List.getElem?_eq_getElem (by simpa using hi)] at h
  have := Option.some.inj h
  simp only [Array.getElem_toList] at this
  simp [this]

theorem holds_int {bad : Nat → Prop} {l : List Int} {b o c : Nat} (hR : Row w bad (.int .i64) l b o c) : Go.Sort.Holds (Value.int .i64) w b o l.toArray := by
  obtain ⟨cells, elem, hh, hl, hc, hrd⟩ := hR
  intro j hj
  have hj' : j < l.length := by simpa using hj
  obtain ⟨ds, he, hd⟩ := hrd j l[j] (List.getElem?_eq_getElem hj')
  simp only [enc] at he
  subst he
  have h1 := hd 0 _ rfl
  simp only [Ty.size, Nat.mul_one, Nat.add_zero] at h1
  refine ⟨?_, by simp [World.frozen?, hh]⟩
  rw [cell_of hh, h1, getElem!_pos l.toArray j hj]; simp

theorem sort_do {P : Program} {ρ : Ren} (Ly : Lays.n189 P ρ) : ExtDo P (ρ.f 189) (.inplace (.int .i64) sortI none) := by
  refine ⟨fun l => by simp [sortI], fun w A C => Any.slices_Sort_int_none Ly A C w, fun bad w l b o c' C hR hne hC hlim => ?_⟩
  obtain ⟨cells, elem, hh, hl, hc, hrd⟩ := id hR
  refine (calls_of_every_depth fun D => AnyS.slices_Sort_int_in Ly D b o C l w (holds_int hR) hR.lt (by unfold LIM at hlim; omega)).mono ?_
  rintro e w' ⟨rfl, n, os, rfl⟩
  rw [putRow_map]
  obtain ⟨h1, h2⟩ := sorted_world (n := n) (o := o) (F := (List.mergeSort l fun x y => decide (x ≤ y)).toArray.map (Value.int .i64)) (os := os) hh
  exact ⟨rfl, h1, fun bad' => row_of (τ := .int .i64) (l' := sortI l) h2 (by simp [sortI]; exact hl) hc (by simp [sortI, Ty.size]) fun i x hx => ⟨_, rfl, fun j v hj => by
    cases j with
    | zero => simp only [List.getElem?_cons_zero, Option.some.injEq] at hj; subst hj; simp only [Ty.size, Nat.mul_one, Nat.add_zero]; exact int_at (by simpa [sortI] using hx)
    | succ j => simp at hj⟩⟩

theorem compact_len (l : List Int) : (compact l).length ≤ l.length := by
  unfold compact compactUpTo
  rw [List.length_map]
  exact Nat.le_trans (List.length_filter_le _ _) (by simp)

theorem compact_do {P : Program} {ρ : Ren} (Ly : Lays2.n20 P ρ) : ExtDo P (ρ.f 20) (.take (.int .i64) compact) := by
  refine ⟨rfl, by have := compact_len []; exact List.eq_nil_of_length_eq_zero (by simpa using this), fun w A C => Any.slices_Compact_int_empty Ly A C w, fun bad w l b o c' C hR hne hC hCc hlim => ?_⟩
  obtain ⟨cells, elem, hh, hl, hc, hrd⟩ := id hR
  refine (Any.slices_Compact_int Ly b o C l w (holds_int hR) (by unfold LIM at hlim; omega) hC).mono ?_
  rintro e w' ⟨rfl, n, rfl⟩
  rw [putRow_map]
  obtain ⟨h1, h2⟩ := sorted_world (n := n) (o := o) (F := (compact l ++ List.replicate (l.length - (compact l).length) 0).toArray.map (Value.int .i64)) (os := #[]) hh
  rw [Go.Sort.grow_empty] at h1 h2
  have hcl := compact_len l
  refine ⟨rfl, h1, fun bad' => row_of (τ := .int .i64) (l' := compact l) h2 (by show (compact l).length ≤ C; omega) (by simp only [Ty.size] at hc ⊢; omega) (by simp [Ty.size]) fun i x hx => ⟨_, rfl, fun j v hj => ?_⟩⟩
  have hi := lt_of_get hx
  cases j with
  | zero =>
    simp only [List.getElem?_cons_zero, Option.some.injEq] at hj
    subst hj
    simp only [Ty.size, Nat.mul_one, Nat.add_zero]
    exact int_at (by show (compact l ++ _)[i]? = some x; rw [List.getElem?_append_left hi]; exact hx)
  | succ j => simp at hj

theorem holds_at {bad : Nat → Prop} {l : List (Int × Int)} {b o c : Nat} (hR : Row w bad (.pair (.int .i64) (.int .i64)) l b o c) : Go.Sort.HoldsK encAt 2 w b o l.toArray := by
  obtain ⟨cells, elem, hh, hl, hc, hrd⟩ := hR
  intro t ht
  have ht' : t < l.length * 2 := by simpa using ht
  have hi : t / 2 < l.length := by omega
  obtain ⟨ds, he, hd⟩ := hrd (t / 2) l[t / 2] (List.getElem?_eq_getElem hi)
  obtain ⟨c1, c2, rfl, h1, h2⟩ := he
  simp only [enc] at h1 h2
  subst h1
  subst h2
  refine ⟨?_, by simp [World.frozen?, hh]⟩
  rw [cell_of hh, Go.Sort.get_flatK encAt 2 l.toArray t (by simpa using ht'), getElem!_pos l.toArray (t / 2) (by simpa using hi)]
  simp only [Ty.size] at hd
  have e : o + t / 2 * (1 + 1) + t % 2 = o + t := by omega
  rcases Nat.mod_two_eq_zero_or_one t with h0 | h0
  · have := hd 0 _ rfl
    rw [h0] at e
    rw [e] at this
    rw [this, h0]; simp [encAt]
  · have := hd 1 _ rfl
    rw [h0] at e
    rw [e] at this
    rw [this, h0]; simp [encAt]

theorem sortBy_do {P : Program} {ρ : Ren} (Ly : SlLaysF0.n6 P ρ) (aE : ∀ w, (isAgg (ρ.t 24)).run P w = .ok true w) (zE : ∀ w, (Go.sizeOf (ρ.t 24)).run P w = .ok 2 w) {g : FuncId} (eg : ∀ args w, (callFunc g args).run P w = .ok (.enter g args) w)
    (hcmp : ∀ b o s w, CmpLays P g #[] encAt 2 cfAt b o s w) : ExtDo P (ρ.f 6) (.inplace (.pair (.int .i64) (.int .i64)) sortAt (some g)) := by
  have hlen : ∀ l, (sortAt l).length = l.length := fun l => (sortAt_spec l).1.length_eq
  refine ⟨hlen, fun w A C => AnyF.slices_SortFunc_none Ly A C (.func (.func g) #[] #[]) w, fun bad w l b o c' C hR hne hC hlim => ?_⟩
  obtain ⟨cells, elem, hh, hl, hc, hrd⟩ := id hR
  refine (AnyQ.slices_SortFunc_eq Ly 2 aE zE encAt (fun _ => rfl) (fun x v hv => by simp only [encAt, List.mem_cons, List.not_mem_nil, or_false] at hv; rcases hv with rfl | rfl <;> rfl) cfAt swoAt g #[] b o C l.toArray w eg (hcmp _ _ _ _) (holds_at hR) hR.lt
    (by unfold LIM at hlim; simp; omega)).mono ?_
  rintro e w' ⟨rfl, n, os, rfl⟩
  unfold sortWorldK Go.Sort.putRowK
  have hd : (sortAt l).toArray = Go.Sort.pdq (ltOf cfAt) l.toArray 0 l.toArray.size (Lib.bitLen l.toArray.size) true true := by unfold sortAt; simp
  rw [← hd]
  obtain ⟨h1, h2⟩ := sorted_world (n := n) (o := o) (F := Go.Sort.flatK encAt 2 (sortAt l).toArray) (os := os) hh
  refine ⟨rfl, h1, fun bad' => row_of (τ := .pair (.int .i64) (.int .i64)) (l' := sortAt l) h2 (by show (sortAt l).length ≤ c'; rw [hlen]; exact hl) hc (by simp [Ty.size]) fun i x hx => ⟨[Value.int .i64 x.1, Value.int .i64 x.2], ⟨[Value.int .i64 x.1], [Value.int .i64 x.2], rfl, rfl, rfl⟩, fun j v hj => ?_⟩⟩
  have hi := lt_of_get hx
  have hxx : (sortAt l)[i] = x := by rw [List.getElem?_eq_getElem hi] at hx; exact Option.some.inj hx
  simp only [Ty.size]
  have hj2 : j < 2 := by have := lt_of_get hj; simpa using this
  rw [Go.Sort.get_flatK encAt 2 _ _ (by simp; omega), show (i * (1 + 1) + j) / 2 = i from by omega, show (i * (1 + 1) + j) % 2 = j from by omega, getElem!_pos (sortAt l).toArray i (by simpa using hi)]
  simp only [List.getElem_toArray, hxx]
  rcases Nat.lt_or_ge j 1 with h0 | h0
  · have : j = 0 := by omega
    subst this
    simp at hj
    simp [encAt, hj]
  · have : j = 1 := by omega
    subst this
    simp at hj
    simp [encAt, hj]
end
end Go.Proofs.Ytdojdblncegjcaa.R
namespace Go.Proofs
open Go.Shelf
def Ytdojdblncegjcaa.laySort_ren : Go.Shelf.Ren := ⟨fun | 189 => 79 | 125 => 96 | 257 => 95 | 128 => 111 | 129 => 112 | 294 => 103 | 295 => 104 | 296 => 105 | 297 => 106 | 298 => 107 | 299 => 108 | 216 => 93 | 300 => 109 | 301 => 110 | 328 => 123 | 329 => 124 | 330 => 125 | 331 => 126 | 332 => 127 | 215 => 100 | 343 => 132 | n => n, fun | 28 => 23 | 3 => 3 | 46 => 38 | 0 => 0 | 51 => 129 | 53 => 131 | 4 => 4 | 183 => 123 | 182 => 122 | 131 => 101 | 5 => 5 | 9 => 9 | 218 => 140 | 222 => 144 | 228 => 149 | 229 => 32 | n => n, fun | n => n⟩
theorem Ytdojdblncegjcaa.laySort : Go.Proofs.Lays.n189 Try.prog Ytdojdblncegjcaa.laySort_ren := {
  mixed := by kernel_rfl
  f125 := Try.func96.trans (congrArg some (by kernel_rfl))
  f128 := Try.func111.trans (congrArg some (by kernel_rfl))
  f129 := Try.func112.trans (congrArg some (by kernel_rfl))
  f189 := Try.func79.trans (congrArg some (by kernel_rfl))
  f215 := Try.func100.trans (congrArg some (by kernel_rfl))
  f216 := Try.func93.trans (congrArg some (by kernel_rfl))
  f257 := Try.func95.trans (congrArg some (by kernel_rfl))
  f294 := Try.func103.trans (congrArg some (by kernel_rfl))
  f295 := Try.func104.trans (congrArg some (by kernel_rfl))
  f296 := Try.func105.trans (congrArg some (by kernel_rfl))
  f297 := Try.func106.trans (congrArg some (by kernel_rfl))
  f298 := Try.func107.trans (congrArg some (by kernel_rfl))
  f299 := Try.func108.trans (congrArg some (by kernel_rfl))
  f300 := Try.func109.trans (congrArg some (by kernel_rfl))
  f301 := Try.func110.trans (congrArg some (by kernel_rfl))
  f328 := Try.func123.trans (congrArg some (by kernel_rfl))
  f329 := Try.func124.trans (congrArg some (by kernel_rfl))
  f330 := Try.func125.trans (congrArg some (by kernel_rfl))
  f331 := Try.func126.trans (congrArg some (by kernel_rfl))
  f332 := Try.func127.trans (congrArg some (by kernel_rfl))
  f343 := Try.func132.trans (congrArg some (by kernel_rfl))
  t0 := Try.underlying0
  a0 := Try.isAgg0
  z0 := Try.sizeOf0
  v0 := Try.zeroValue0
  t3 := Try.underlying3
  a3 := Try.isAgg3
  z3 := Try.sizeOf3
  v3 := Try.zeroValue3
  t4 := Try.underlying4
  a4 := Try.isAgg4
  z4 := Try.sizeOf4
  v4 := Try.zeroValue4
  t5 := Try.underlying5
  a5 := Try.isAgg5
  z5 := Try.sizeOf5
  v5 := Try.zeroValue5
  t9 := Try.underlying9
  a9 := Try.isAgg9
  z9 := Try.sizeOf9
  v9 := Try.zeroValue9
  t28 := Try.underlying23
  a28 := Try.isAgg23
  z28 := Try.sizeOf23
  v28 := Try.zeroValue23
  t46 := Try.underlying38
  a46 := Try.isAgg38
  z46 := Try.sizeOf38
  v46 := Try.zeroValue38
  t51 := Try.underlying129
  a51 := Try.isAgg129
  z51 := Try.sizeOf129
  v51 := Try.zeroValue129
  t53 := Try.underlying131
  a53 := Try.isAgg131
  z53 := Try.sizeOf131
  v53 := Try.zeroValue131
  t131 := Try.underlying101
  a131 := Try.isAgg101
  z131 := Try.sizeOf101
  v131 := Try.zeroValue101
  t182 := Try.underlying122
  a182 := Try.isAgg122
  z182 := Try.sizeOf122
  v182 := Try.zeroValue122
  t183 := Try.underlying123
  a183 := Try.isAgg123
  z183 := Try.sizeOf123
  v183 := Try.zeroValue123
  t218 := Try.underlying140
  a218 := Try.isAgg140
  z218 := Try.sizeOf140
  v218 := Try.zeroValue140
  t222 := Try.underlying144
  a222 := Try.isAgg144
  z222 := Try.sizeOf144
  v222 := Try.zeroValue144
  t228 := Try.underlying149
  a228 := Try.isAgg149
  z228 := Try.sizeOf149
  v228 := Try.zeroValue149
  t229 := Try.underlying32
  a229 := Try.isAgg32
  z229 := Try.sizeOf32
  v229 := Try.zeroValue32 }
def Ytdojdblncegjcaa.layCompact_ren : Go.Shelf.Ren := ⟨fun | 20 => 80 | n => n, fun | 22 => 23 | 3 => 3 | 4 => 4 | 0 => 0 | n => n, fun | n => n⟩
theorem Ytdojdblncegjcaa.layCompact : Go.Proofs.Lays2.n20 Try.prog Ytdojdblncegjcaa.layCompact_ren := {
  mixed := by kernel_rfl
  f20 := Try.func80.trans (congrArg some (by kernel_rfl))
  t0 := Try.underlying0
  a0 := Try.isAgg0
  z0 := Try.sizeOf0
  v0 := Try.zeroValue0
  t3 := Try.underlying3
  a3 := Try.isAgg3
  z3 := Try.sizeOf3
  v3 := Try.zeroValue3
  t4 := Try.underlying4
  a4 := Try.isAgg4
  z4 := Try.sizeOf4
  v4 := Try.zeroValue4
  t22 := Try.underlying23
  a22 := Try.isAgg23
  z22 := Try.sizeOf23
  v22 := Try.zeroValue23
  i3 := by kernel_rfl }
def Ytdojdblncegjcaa.layCompare_ren : Go.Shelf.Ren := ⟨fun | 122 => 87 | 215 => 100 | n => n, fun | 3 => 3 | 4 => 4 | n => n, fun | n => n⟩
theorem Ytdojdblncegjcaa.layCompare : Go.Proofs.Lays.n122 Try.prog Ytdojdblncegjcaa.layCompare_ren := {
  mixed := by kernel_rfl
  f122 := Try.func87.trans (congrArg some (by kernel_rfl))
  f215 := Try.func100.trans (congrArg some (by kernel_rfl))
  t3 := Try.underlying3
  a3 := Try.isAgg3
  z3 := Try.sizeOf3
  v3 := Try.zeroValue3
  t4 := Try.underlying4
  a4 := Try.isAgg4
  z4 := Try.sizeOf4
  v4 := Try.zeroValue4 }
def Ytdojdblncegjcaa.laySortBy_ren : Go.Shelf.Ren := ⟨fun | 6 => 88 | 15 => 96 | 14 => 101 | 28 => 111 | 29 => 112 | 20 => 114 | 21 => 115 | 22 => 116 | 23 => 117 | 24 => 118 | 25 => 119 | 26 => 120 | 27 => 121 | 46 => 129 | 47 => 124 | 48 => 125 | 49 => 130 | 50 => 131 | 57 => 133 | n => n, fun | 22 => 82 | 24 => 88 | 25 => 110 | 3 => 3 | 39 => 38 | 0 => 0 | 53 => 129 | 55 => 131 | 4 => 4 | 46 => 123 | 45 => 122 | 50 => 101 | 5 => 5 | 9 => 9 | 66 => 140 | 70 => 144 | 76 => 149 | 77 => 32 | n => n, fun | n => n⟩
theorem Ytdojdblncegjcaa.laySortBy : Go.Proofs.SlLaysF0.n6 Try.prog Ytdojdblncegjcaa.laySortBy_ren := {
  mixed := by kernel_rfl
  f6 := ⟨Try.f88.name, by decide, Try.func88.trans (congrArg some (by kernel_rfl))⟩
  f14 := ⟨Try.f101.name, by decide, Try.func101.trans (congrArg some (by kernel_rfl))⟩
  f15 := Try.func96.trans (congrArg some (by kernel_rfl))
  f20 := ⟨Try.f114.name, by decide, Try.func114.trans (congrArg some (by kernel_rfl))⟩
  f21 := ⟨Try.f115.name, by decide, Try.func115.trans (congrArg some (by kernel_rfl))⟩
  f22 := ⟨Try.f116.name, by decide, Try.func116.trans (congrArg some (by kernel_rfl))⟩
  f23 := ⟨Try.f117.name, by decide, Try.func117.trans (congrArg some (by kernel_rfl))⟩
  f24 := ⟨Try.f118.name, by decide, Try.func118.trans (congrArg some (by kernel_rfl))⟩
  f25 := ⟨Try.f119.name, by decide, Try.func119.trans (congrArg some (by kernel_rfl))⟩
  f26 := ⟨Try.f120.name, by decide, Try.func120.trans (congrArg some (by kernel_rfl))⟩
  f27 := ⟨Try.f121.name, by decide, Try.func121.trans (congrArg some (by kernel_rfl))⟩
  f28 := Try.func111.trans (congrArg some (by kernel_rfl))
  f29 := Try.func112.trans (congrArg some (by kernel_rfl))
  f46 := ⟨Try.f129.name, by decide, Try.func129.trans (congrArg some (by kernel_rfl))⟩
  f47 := Try.func124.trans (congrArg some (by kernel_rfl))
  f48 := Try.func125.trans (congrArg some (by kernel_rfl))
  f49 := ⟨Try.f130.name, by decide, Try.func130.trans (congrArg some (by kernel_rfl))⟩
  f50 := ⟨Try.f131.name, by decide, Try.func131.trans (congrArg some (by kernel_rfl))⟩
  f57 := ⟨Try.f133.name, by decide, Try.func133.trans (congrArg some (by kernel_rfl))⟩
  t0 := Try.underlying0
  a0 := Try.isAgg0
  z0 := Try.sizeOf0
  v0 := Try.zeroValue0
  t3 := Try.underlying3
  a3 := Try.isAgg3
  z3 := Try.sizeOf3
  v3 := Try.zeroValue3
  t4 := Try.underlying4
  a4 := Try.isAgg4
  z4 := Try.sizeOf4
  v4 := Try.zeroValue4
  t5 := Try.underlying5
  a5 := Try.isAgg5
  z5 := Try.sizeOf5
  v5 := Try.zeroValue5
  t9 := Try.underlying9
  a9 := Try.isAgg9
  z9 := Try.sizeOf9
  v9 := Try.zeroValue9
  t22 := Try.underlying82
  a22 := Try.isAgg82
  z22 := Try.sizeOf82
  v22 := Try.zeroValue82
  t25 := Try.underlying110
  a25 := Try.isAgg110
  z25 := Try.sizeOf110
  v25 := Try.zeroValue110
  t39 := Try.underlying38
  a39 := Try.isAgg38
  z39 := Try.sizeOf38
  v39 := Try.zeroValue38
  t45 := Try.underlying122
  a45 := Try.isAgg122
  z45 := Try.sizeOf122
  v45 := Try.zeroValue122
  t46 := Try.underlying123
  a46 := Try.isAgg123
  z46 := Try.sizeOf123
  v46 := Try.zeroValue123
  t50 := Try.underlying101
  a50 := Try.isAgg101
  z50 := Try.sizeOf101
  v50 := Try.zeroValue101
  t53 := Try.underlying129
  a53 := Try.isAgg129
  z53 := Try.sizeOf129
  v53 := Try.zeroValue129
  t55 := Try.underlying131
  a55 := Try.isAgg131
  z55 := Try.sizeOf131
  v55 := Try.zeroValue131
  t66 := Try.underlying140
  a66 := Try.isAgg140
  z66 := Try.sizeOf140
  v66 := Try.zeroValue140
  t70 := Try.underlying144
  a70 := Try.isAgg144
  z70 := Try.sizeOf144
  v70 := Try.zeroValue144
  t76 := Try.underlying149
  a76 := Try.isAgg149
  z76 := Try.sizeOf149
  v76 := Try.zeroValue149
  t77 := Try.underlying32
  a77 := Try.isAgg32
  z77 := Try.sizeOf32
  v77 := Try.zeroValue32 }
end Go.Proofs
namespace Go.Proofs.Ytdojdblncegjcaa
open Go Go.Shelf Go.RowKit Go.Lib Go.Sort Go.Proofs.Ytdojdblncegjcaa.R
set_option maxHeartbeats 1000000 in
/-- The closure of jump.levels: the higher level first. -/
theorem closureAt (x y : Int × Int) (W : World) : Calls Try.prog 86 #[.agg #[.int .i64 x.1, .int .i64 x.2], .agg #[.int .i64 y.1, .int .i64 y.2]] W fun e w' => e = .returned (.int .i64 (Lib.compareInt y.2 x.2)) ∧ ∃ q os', w' = Go.Sort.grow (W.drewN q) os' := by
  have hcon := fun W' => Any.cmp_Compare_int layCompare y.2 x.2 W'
  change ∀ W', Calls Try.prog 87 _ _ _ at hcon
  generalize Lib.compareInt y.2 x.2 = r at hcon ⊢
  go_enter Try.func86, Try.ntmps86
  go_wp2_with (go_at_call 87; refine (hcon _).mono ?_; rintro e w' ⟨rfl, rfl⟩)
  go_ret
  exact ⟨rfl, 0, _, by rw [Go.Sort.alloc_eq_grow, Go.Sort.alloc_eq_grow, Go.Sort.grow_grow]; rfl⟩
theorem cmpAt : ∀ b o s w, CmpLays Try.prog 86 #[] encAt 2 cfAt b o s w := fun _ _ _ _ _ _ _ _ x y => closureAt x y _
theorem aggAt : ∀ w, (isAgg 88).run Try.prog w = .ok true w := Try.isAgg88
theorem sizeAt : ∀ w, (Go.sizeOf 88).run Try.prog w = .ok 2 w := Try.sizeOf88
theorem entersAt : ∀ args w, (callFunc 86 args).run Try.prog w = .ok (.enter 86 args) w := enters_of Try.func86 (by kernel_rfl) rfl
end Go.Proofs.Ytdojdblncegjcaa
