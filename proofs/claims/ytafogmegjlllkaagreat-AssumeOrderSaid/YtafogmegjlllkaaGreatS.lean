/- What functions of the library do to rows: out of the kit's contracts. -/
import Derived.Test.YtafogmegjlllkaaGreatR3
import Derived.Sort.EveryDepth
import Derived.Shelf.Sort.AssemblyIn
import Derived.Shelf.Slices.In.SortNone
import Derived.Shelf.Slices.CompactI
import Derived.Shelf.Slices.Delete
import Derived.Shelf.Slices.Empties
import Derived.Shelf.SlSortCmp.WholeK
import Derived.Shelf.SlSortCmp.NoneTotal
import Derived.Shelf.Small.Wraps
import Derived.Test.YtafogmegjlllkaaGreatProg
namespace Go.Proofs.YtafogmegjlllkaaGreat.R
open Go Go.Shelf Go.Lib
set_option linter.unusedVariables false

def sortI (l : List Int) : List Int := l.mergeSort fun x y => decide (x ≤ y)
def cfAt (x y : Int × Int) : Int := compareInt y.2 x.2
def encAt (x : Int × Int) : List Value := [.int .i64 x.1, .int .i64 x.2]
def sortAt (l : List (Int × Int)) : List (Int × Int) := (Go.Sort.pdq (ltOf cfAt) l.toArray 0 l.toArray.size (Lib.bitLen l.toArray.size) true true).toList

theorem ltAt (x y : Int × Int) : ltOf cfAt x y = decide (y.2 < x.2) := by
  unfold ltOf cfAt compareInt
  by_cases h1 : y.2 < x.2
  · simp [h1]
  · by_cases h2 : x.2 < y.2 <;> simp [h1, h2]

theorem swoAt : Go.Sort.SWO (ltOf cfAt) where
  irrefl x := by rw [ltAt]; simp
  trans x y z h1 h2 := by rw [ltAt] at *; simp at *; omega
  ntrans x y z h1 h2 := by rw [ltAt] at *; simp at *; omega

theorem sortAt_spec (l : List (Int × Int)) : (sortAt l).Perm l ∧ (sortAt l).Pairwise fun x y => y.2 ≤ x.2 := by
  have h := Go.Sort.pdq_sorts (ltOf cfAt) swoAt l.toArray 0 l.toArray.size (Lib.bitLen l.toArray.size) true true (Nat.zero_le _) (Nat.le_refl _) (Or.inl rfl)
  obtain ⟨⟨h1, _, h3⟩, h2⟩ := h
  unfold sortAt
  generalize Go.Sort.pdq (ltOf cfAt) l.toArray 0 l.toArray.size (Lib.bitLen l.toArray.size) true true = d at h1 h2 h3
  constructor
  · have e1 : d.extract 0 l.toArray.size = d := by rw [← h1]; simp
    rw [e1] at h3
    simpa using h3
  · rw [List.pairwise_iff_getElem]
    intro i j hi hj hij
    have := h2 i j (Nat.zero_le _) hij (by rw [← h1]; simpa using hj)
    rw [ltAt, decide_eq_false_iff_not] at this
    have ei : i < d.size := by simpa using hi
    have ej : j < d.size := by simpa using hj
    rw [getElem!_pos d i ei, getElem!_pos d j ej] at this
    simpa using this

section
variable {w : World}

theorem putCells_get {o : Nat} {F cells : Array Value} (k : Nat) : (Go.Sort.putCells id o F cells)[k]? = (cells[k]?).map fun x => if o ≤ k ∧ k < o + F.size then F[k - o]! else x := by
  simp [Go.Sort.putCells]

theorem sorted_world {b o n : Nat} {F cells : Array Value} {elem : TypeId} {os : Array Obj} (hh : w.heap[b]? = some (.cells cells elem (0, 0))) :
    Same (· = b) w (Go.Sort.grow (Go.Sort.putRow id (Go.Sort.ahead w n) b o F) os) ∧ (Go.Sort.grow (Go.Sort.putRow id (Go.Sort.ahead w n) b o F) os).heap[b]? = some (.cells (Go.Sort.putCells id o F cells) elem (0, 0)) := by
  have hlt : b < w.heap.size := by
    rcases Nat.lt_or_ge b w.heap.size with h | h
    · exact h
    · rw [Array.getElem?_eq_none h] at hh; cases hh
  have hget : ∀ k, k < w.heap.size → (Go.Sort.grow (Go.Sort.putRow id (Go.Sort.ahead w n) b o F) os).heap[k]? = if b = k then (w.heap[k]?).map (Go.Sort.onCells (Go.Sort.putCells id o F)) else w.heap[k]? := by
    intro k hk
    simp only [Go.Sort.grow, Go.Sort.putRow, Go.Sort.mapBlock, Go.Sort.ahead]
    rw [Array.getElem?_append_left (by simpa using hk), Array.getElem?_modify]
  refine ⟨⟨?_, fun k hk hn => ?_, ⟨rfl, rfl, rfl, fun k hk => ?_⟩⟩, ?_⟩
  · simp [Go.Sort.grow, Go.Sort.putRow, Go.Sort.mapBlock, Go.Sort.ahead]
  · rw [hget k hk, if_neg (fun e => hn e.symm)]
  · rw [hget k hk]
    split
    · rename_i e
      subst e
      rw [hh]
      simp [Go.Sort.onCells, objLen, Go.Sort.putCells]
    · rfl
  · rw [hget b hlt, if_pos rfl, hh]; rfl

theorem row_of {w' : World} {bad' : Nat → Prop} {τ : Ty} {l' : List τ.den} {b o C : Nat} {F cells : Array Value} {elem : TypeId} (hB : C ≤ 9223372036854775807) (hh' : w'.heap[b]? = some (.cells (Go.Sort.putCells id o F cells) elem (0, 0))) (hC : l'.length ≤ C) (hcs : o + C * τ.size ≤ cells.size)
    (hsz : l'.length * τ.size ≤ F.size) (hF : ∀ (i : Nat) (x : τ.den), l'[i]? = some x → ∃ ds, enc w' bad' τ x ds ∧ ∀ (j : Nat) v, ds[j]? = some v → F[i * τ.size + j]! = v) : Row w' bad' τ l' b o C := by
  refine ⟨_, elem, hh', ⟨hC, hB⟩, by simpa [Go.Sort.putCells] using hcs, fun i x hx => ?_⟩
  obtain ⟨ds, he, hd⟩ := hF i x hx
  refine ⟨ds, he, fun j v hj => ?_⟩
  have hjl := lt_of_get hj
  rw [enc_len he] at hjl
  have hil := lt_of_get hx
  have h1 : (i + 1) * τ.size ≤ l'.length * τ.size := Nat.mul_le_mul_right _ (by omega)
  have h2 : l'.length * τ.size ≤ C * τ.size := Nat.mul_le_mul_right _ hC
  rw [Nat.add_mul] at h1
  have hk : o + i * τ.size + j < cells.size := by omega
  rw [putCells_get, Array.getElem?_eq_getElem hk, Option.map_some, if_pos ⟨by omega, by omega⟩, show o + i * τ.size + j - o = i * τ.size + j from by omega, hd j v hj]

theorem putRow_map {b o : Nat} {d : Array Int} : Go.Sort.putRow (Value.int .i64) w b o d = Go.Sort.putRow id w b o (d.map (Value.int .i64)) := by
  unfold Go.Sort.putRow
  congr 1
  funext c
  apply Array.ext_getElem?
  intro k
  simp only [Go.Sort.putCells, Array.getElem?_mapIdx, Array.size_map]
  congr 1
  funext x
  by_cases h : o ≤ k ∧ k < o + d.size
  · rw [if_pos h, if_pos h, getElem!_pos d (k - o) (by omega), getElem!_pos (d.map (Value.int .i64)) (k - o) (by simp; omega)]; simp
  · rw [if_neg h, if_neg h]

theorem int_at {d : Array Int} {i : Nat} {x : Int} (h : d.toList[i]? = some x) : (d.map (Value.int .i64))[i]! = Value.int .i64 x := by
  have hi : i < d.size := by have := lt_of_get h; simpa using this
  rw [getElem!_pos (d.map (Value.int .i64)) i (by simpa using hi)]
  rw [List.getElem?_eq_getElem (by simpa using hi)] at h
  have := Option.some.inj h
  simp only [Array.getElem_toList] at this
  simp [this]

theorem holds_int {bad : Nat → Prop} {l : List Int} {b o c : Nat} (hR : Row w bad (.int .i64) l b o c) : Go.Sort.Holds (Value.int .i64) w b o l.toArray := by
  obtain ⟨cells, elem, hh, hl, hc, hrd⟩ := hR
  intro j hj
  have hj' : j < l.length := by simpa using hj
  obtain ⟨ds, he, hd⟩ := hrd j l[j] (List.getElem?_eq_getElem hj')
  simp only [enc] at he
  subst he
  have h1 := hd 0 _ rfl
  simp only [Ty.size, Nat.mul_one, Nat.add_zero] at h1
  refine ⟨?_, by simp [World.frozen?, hh]⟩
  rw [cell_of hh, h1, getElem!_pos l.toArray j hj]; simp

theorem sort_do {P : Program} {ρ : Ren} (Ly : Lays.n189 P ρ) : ExtDo P (ρ.f 189) (.inplace (.int .i64) sortI none) := by
  refine ⟨fun l => by simp [sortI], fun w A C => Any.slices_Sort_int_none Ly A C w, fun bad w l b o c' C hR hne hC hlim => ?_⟩
  obtain ⟨cells, elem, hh, hl, hc, hrd⟩ := id hR
  refine (calls_of_every_depth fun D => AnyS.slices_Sort_int_in Ly D b o C l w (holds_int hR) hR.lt (by unfold LIM at hlim; omega)).mono ?_
  rintro e w' ⟨rfl, n, os, rfl⟩
  rw [putRow_map]
  obtain ⟨h1, h2⟩ := sorted_world (n := n) (o := o) (F := (List.mergeSort l fun x y => decide (x ≤ y)).toArray.map (Value.int .i64)) (os := os) hh
  exact ⟨rfl, h1, fun bad' => row_of (τ := .int .i64) (l' := sortI l) hl.2 h2 (by simp [sortI]; exact hl.1) hc (by simp [sortI, Ty.size]) fun i x hx => ⟨_, rfl, fun j v hj => by
    cases j with
    | zero => simp only [List.getElem?_cons_zero, Option.some.injEq] at hj; subst hj; simp only [Ty.size, Nat.mul_one, Nat.add_zero]; exact int_at (by simpa [sortI] using hx)
    | succ j => simp at hj⟩⟩

theorem compact_len (l : List Int) : (compact l).length ≤ l.length := by
  unfold compact compactUpTo
  rw [List.length_map]
  exact Nat.le_trans (List.length_filter_le _ _) (by simp)

theorem compact_do {P : Program} {ρ : Ren} (Ly : Lays2.n20 P ρ) : ExtDo P (ρ.f 20) (.take (.int .i64) compact) := by
  refine ⟨rfl, by have := compact_len []; exact List.eq_nil_of_length_eq_zero (by simpa using this), fun w A C => Any.slices_Compact_int_empty Ly A C w, fun bad w l b o c' C hR hne hC hCc hlim => ?_⟩
  obtain ⟨cells, elem, hh, hl, hc, hrd⟩ := id hR
  refine (Any.slices_Compact_int Ly b o C l w (holds_int hR) (by unfold LIM at hlim; omega) hC).mono ?_
  rintro e w' ⟨rfl, n, rfl⟩
  rw [putRow_map]
  obtain ⟨h1, h2⟩ := sorted_world (n := n) (o := o) (F := (compact l ++ List.replicate (l.length - (compact l).length) 0).toArray.map (Value.int .i64)) (os := #[]) hh
  rw [Go.Sort.grow_empty] at h1 h2
  have hcl := compact_len l
  refine ⟨rfl, h1, fun bad' => row_of (τ := .int .i64) (l' := compact l) (by omega) h2 (by show (compact l).length ≤ C; omega) (by simp only [Ty.size] at hc ⊢; omega) (by simp [Ty.size]) fun i x hx => ⟨_, rfl, fun j v hj => ?_⟩⟩
  have hi := lt_of_get hx
  cases j with
  | zero =>
    simp only [List.getElem?_cons_zero, Option.some.injEq] at hj
    subst hj
    simp only [Ty.size, Nat.mul_one, Nat.add_zero]
    exact int_at (by show (compact l ++ _)[i]? = some x; rw [List.getElem?_append_left hi]; exact hx)
  | succ j => simp at hj

theorem cut_do {P : Program} {ρ : Ren} (Ly : Lays2.n23 P ρ) : ExtDo P (ρ.f 23) (.cut (.int .i64)) := by
  refine ⟨rfl, fun w A C => Any.slices_Delete_int_empty Ly A C w, fun bad w l b o c' C i j hR hne hC hCc hB hlim hij hj => ?_⟩
  obtain ⟨cells, elem, hh, hl, hc, hrd⟩ := id hR
  have hlen : (List.take i l ++ List.drop j l).length = l.length - (j - i) := by rw [List.length_append, List.length_take, List.length_drop]; omega
  refine (Any.slices_Delete_int Ly b o C i j l w (holds_int hR) hC hB hij hj).mono ?_
  rintro e w' ⟨rfl, n, rfl⟩
  rw [putRow_map]
  obtain ⟨h1, h2⟩ := sorted_world (n := n) (o := o) (F := (List.take i l ++ List.drop j l ++ List.replicate (j - i) 0).toArray.map (Value.int .i64)) (os := #[]) hh
  rw [Go.Sort.grow_empty] at h1 h2
  refine ⟨by rw [hlen], h1, fun bad' => row_of (τ := .int .i64) (l' := List.take i l ++ List.drop j l) hB h2 (by show (List.take i l ++ List.drop j l).length ≤ C; omega) (by simp only [Ty.size] at hc ⊢; omega) (by simp [Ty.size]) fun k x hx => ⟨_, rfl, fun m v hm => ?_⟩⟩
  have hi := lt_of_get hx
  cases m with
  | zero =>
    simp only [List.getElem?_cons_zero, Option.some.injEq] at hm
    subst hm
    simp only [Ty.size, Nat.mul_one, Nat.add_zero]
    exact int_at (by show (List.take i l ++ List.drop j l ++ _)[k]? = some x; rw [List.getElem?_append_left hi]; exact hx)
  | succ m => simp at hm

theorem holds_at {bad : Nat → Prop} {l : List (Int × Int)} {b o c : Nat} (hR : Row w bad (.pair (.int .i64) (.int .i64)) l b o c) : Go.Sort.HoldsK encAt 2 w b o l.toArray := by
  obtain ⟨cells, elem, hh, hl, hc, hrd⟩ := hR
  intro t ht
  have ht' : t < l.length * 2 := by simpa using ht
  have hi : t / 2 < l.length := by omega
  obtain ⟨ds, he, hd⟩ := hrd (t / 2) l[t / 2] (List.getElem?_eq_getElem hi)
  obtain ⟨c1, c2, rfl, h1, h2⟩ := he
  simp only [enc] at h1 h2
  subst h1
  subst h2
  refine ⟨?_, by simp [World.frozen?, hh]⟩
  rw [cell_of hh, Go.Sort.get_flatK encAt 2 l.toArray t (by simpa using ht'), getElem!_pos l.toArray (t / 2) (by simpa using hi)]
  simp only [Ty.size] at hd
  have e : o + t / 2 * (1 + 1) + t % 2 = o + t := by omega
  rcases Nat.mod_two_eq_zero_or_one t with h0 | h0
  · have := hd 0 _ rfl
    rw [h0] at e
    rw [e] at this
    rw [this, h0]; simp [encAt]
  · have := hd 1 _ rfl
    rw [h0] at e
    rw [e] at this
    rw [this, h0]; simp [encAt]

theorem sortBy_do {P : Program} {ρ : Ren} (Ly : SlLaysF0.n6 P ρ) (aE : ∀ w, (isAgg (ρ.t 24)).run P w = .ok true w) (zE : ∀ w, (Go.sizeOf (ρ.t 24)).run P w = .ok 2 w) {g : FuncId} (eg : ∀ args w, (callFunc g args).run P w = .ok (.enter g args) w)
    (hcmp : ∀ b o s w, CmpLays P g #[] encAt 2 cfAt b o s w) : ExtDo P (ρ.f 6) (.inplace (.pair (.int .i64) (.int .i64)) sortAt (some g)) := by
  have hlen : ∀ l, (sortAt l).length = l.length := fun l => (sortAt_spec l).1.length_eq
  refine ⟨hlen, fun w A C => AnyF.slices_SortFunc_none Ly A C (.func (.func g) #[] #[]) w, fun bad w l b o c' C hR hne hC hlim => ?_⟩
  obtain ⟨cells, elem, hh, hl, hc, hrd⟩ := id hR
  refine (AnyQ.slices_SortFunc_eq Ly 2 aE zE encAt (fun _ => rfl) (fun x v hv => by simp only [encAt, List.mem_cons, List.not_mem_nil, or_false] at hv; rcases hv with rfl | rfl <;> rfl) cfAt swoAt g #[] b o C l.toArray w eg (hcmp _ _ _ _) (holds_at hR) hR.lt
    (by unfold LIM at hlim; simp; omega)).mono ?_
  rintro e w' ⟨rfl, n, os, rfl⟩
  unfold sortWorldK Go.Sort.putRowK
  have hd : (sortAt l).toArray = Go.Sort.pdq (ltOf cfAt) l.toArray 0 l.toArray.size (Lib.bitLen l.toArray.size) true true := by unfold sortAt; simp
  rw [← hd]
  obtain ⟨h1, h2⟩ := sorted_world (n := n) (o := o) (F := Go.Sort.flatK encAt 2 (sortAt l).toArray) (os := os) hh
  refine ⟨rfl, h1, fun bad' => row_of (τ := .pair (.int .i64) (.int .i64)) (l' := sortAt l) hl.2 h2 (by show (sortAt l).length ≤ c'; rw [hlen]; exact hl.1) hc (by simp [Ty.size]) fun i x hx => ⟨[Value.int .i64 x.1, Value.int .i64 x.2], ⟨[Value.int .i64 x.1], [Value.int .i64 x.2], rfl, rfl, rfl⟩, fun j v hj => ?_⟩⟩
  have hi := lt_of_get hx
  have hxx : (sortAt l)[i] = x := by rw [List.getElem?_eq_getElem hi] at hx; exact Option.some.inj hx
  simp only [Ty.size]
  have hj2 : j < 2 := by have := lt_of_get hj; simpa using this
  rw [Go.Sort.get_flatK encAt 2 _ _ (by simp; omega), show (i * (1 + 1) + j) / 2 = i from by omega, show (i * (1 + 1) + j) % 2 = j from by omega, getElem!_pos (sortAt l).toArray i (by simpa using hi)]
  simp only [List.getElem_toArray, hxx]
  rcases Nat.lt_or_ge j 1 with h0 | h0
  · have : j = 0 := by omega
    subst this
    simp at hj
    simp [encAt, hj]
  · have : j = 1 := by omega
    subst this
    simp at hj
    simp [encAt, hj]
end
end Go.Proofs.YtafogmegjlllkaaGreat.R
namespace Go.Proofs
open Go.Shelf
def YtafogmegjlllkaaGreat.laySort_ren : Go.Shelf.Ren := ⟨fun | 189 => 135 | 125 => 151 | 257 => 150 | 128 => 175 | 129 => 176 | 294 => 166 | 295 => 167 | 296 => 168 | 297 => 169 | 298 => 170 | 299 => 171 | 216 => 172 | 300 => 173 | 301 => 174 | 328 => 183 | 329 => 184 | 330 => 185 | 331 => 186 | 332 => 187 | 215 => 179 | 343 => 197 | n => n, fun | 28 => 24 | 3 => 3 | 46 => 126 | 0 => 0 | 51 => 218 | 53 => 220 | 4 => 4 | 183 => 211 | 182 => 210 | 131 => 215 | 5 => 5 | 9 => 9 | 218 => 225 | 222 => 229 | 228 => 236 | 229 => 155 | n => n, fun | n => n⟩
theorem YtafogmegjlllkaaGreat.laySort : Go.Proofs.Lays.n189 Tryz.prog YtafogmegjlllkaaGreat.laySort_ren := {
  mixed := by kernel_rfl
  f125 := Tryz.func151.trans (congrArg some (by kernel_rfl))
  f128 := Tryz.func175.trans (congrArg some (by kernel_rfl))
  f129 := Tryz.func176.trans (congrArg some (by kernel_rfl))
  f189 := Tryz.func135.trans (congrArg some (by kernel_rfl))
  f215 := Tryz.func179.trans (congrArg some (by kernel_rfl))
  f216 := Tryz.func172.trans (congrArg some (by kernel_rfl))
  f257 := Tryz.func150.trans (congrArg some (by kernel_rfl))
  f294 := Tryz.func166.trans (congrArg some (by kernel_rfl))
  f295 := Tryz.func167.trans (congrArg some (by kernel_rfl))
  f296 := Tryz.func168.trans (congrArg some (by kernel_rfl))
  f297 := Tryz.func169.trans (congrArg some (by kernel_rfl))
  f298 := Tryz.func170.trans (congrArg some (by kernel_rfl))
  f299 := Tryz.func171.trans (congrArg some (by kernel_rfl))
  f300 := Tryz.func173.trans (congrArg some (by kernel_rfl))
  f301 := Tryz.func174.trans (congrArg some (by kernel_rfl))
  f328 := Tryz.func183.trans (congrArg some (by kernel_rfl))
  f329 := Tryz.func184.trans (congrArg some (by kernel_rfl))
  f330 := Tryz.func185.trans (congrArg some (by kernel_rfl))
  f331 := Tryz.func186.trans (congrArg some (by kernel_rfl))
  f332 := Tryz.func187.trans (congrArg some (by kernel_rfl))
  f343 := Tryz.func197.trans (congrArg some (by kernel_rfl))
  t0 := Tryz.underlying0
  a0 := Tryz.isAgg0
  z0 := Tryz.sizeOf0
  v0 := Tryz.zeroValue0
  t3 := Tryz.underlying3
  a3 := Tryz.isAgg3
  z3 := Tryz.sizeOf3
  v3 := Tryz.zeroValue3
  t4 := Tryz.underlying4
  a4 := Tryz.isAgg4
  z4 := Tryz.sizeOf4
  v4 := Tryz.zeroValue4
  t5 := Tryz.underlying5
  a5 := Tryz.isAgg5
  z5 := Tryz.sizeOf5
  v5 := Tryz.zeroValue5
  t9 := Tryz.underlying9
  a9 := Tryz.isAgg9
  z9 := Tryz.sizeOf9
  v9 := Tryz.zeroValue9
  t28 := Tryz.underlying24
  a28 := Tryz.isAgg24
  z28 := Tryz.sizeOf24
  v28 := Tryz.zeroValue24
  t46 := Tryz.underlying126
  a46 := Tryz.isAgg126
  z46 := Tryz.sizeOf126
  v46 := Tryz.zeroValue126
  t51 := Tryz.underlying218
  a51 := Tryz.isAgg218
  z51 := Tryz.sizeOf218
  v51 := Tryz.zeroValue218
  t53 := Tryz.underlying220
  a53 := Tryz.isAgg220
  z53 := Tryz.sizeOf220
  v53 := Tryz.zeroValue220
  t131 := Tryz.underlying215
  a131 := Tryz.isAgg215
  z131 := Tryz.sizeOf215
  v131 := Tryz.zeroValue215
  t182 := Tryz.underlying210
  a182 := Tryz.isAgg210
  z182 := Tryz.sizeOf210
  v182 := Tryz.zeroValue210
  t183 := Tryz.underlying211
  a183 := Tryz.isAgg211
  z183 := Tryz.sizeOf211
  v183 := Tryz.zeroValue211
  t218 := Tryz.underlying225
  a218 := Tryz.isAgg225
  z218 := Tryz.sizeOf225
  v218 := Tryz.zeroValue225
  t222 := Tryz.underlying229
  a222 := Tryz.isAgg229
  z222 := Tryz.sizeOf229
  v222 := Tryz.zeroValue229
  t228 := Tryz.underlying236
  a228 := Tryz.isAgg236
  z228 := Tryz.sizeOf236
  v228 := Tryz.zeroValue236
  t229 := Tryz.underlying155
  a229 := Tryz.isAgg155
  z229 := Tryz.sizeOf155
  v229 := Tryz.zeroValue155 }
def YtafogmegjlllkaaGreat.layCompact_ren : Go.Shelf.Ren := ⟨fun | 20 => 147 | n => n, fun | 22 => 24 | 3 => 3 | 4 => 4 | 0 => 0 | n => n, fun | n => n⟩
theorem YtafogmegjlllkaaGreat.layCompact : Go.Proofs.Lays2.n20 Tryz.prog YtafogmegjlllkaaGreat.layCompact_ren := {
  mixed := by kernel_rfl
  f20 := Tryz.func147.trans (congrArg some (by kernel_rfl))
  t0 := Tryz.underlying0
  a0 := Tryz.isAgg0
  z0 := Tryz.sizeOf0
  v0 := Tryz.zeroValue0
  t3 := Tryz.underlying3
  a3 := Tryz.isAgg3
  z3 := Tryz.sizeOf3
  v3 := Tryz.zeroValue3
  t4 := Tryz.underlying4
  a4 := Tryz.isAgg4
  z4 := Tryz.sizeOf4
  v4 := Tryz.zeroValue4
  t22 := Tryz.underlying24
  a22 := Tryz.isAgg24
  z22 := Tryz.sizeOf24
  v22 := Tryz.zeroValue24
  i3 := by kernel_rfl }
def YtafogmegjlllkaaGreat.layDelete_ren : Go.Shelf.Ren := ⟨fun | 23 => 107 | n => n, fun | 22 => 24 | 3 => 3 | 4 => 4 | 0 => 0 | n => n, fun | n => n⟩
theorem YtafogmegjlllkaaGreat.layDelete : Go.Proofs.Lays2.n23 Tryz.prog YtafogmegjlllkaaGreat.layDelete_ren := {
  mixed := by kernel_rfl
  f23 := Tryz.func107.trans (congrArg some (by kernel_rfl))
  t0 := Tryz.underlying0
  a0 := Tryz.isAgg0
  z0 := Tryz.sizeOf0
  v0 := Tryz.zeroValue0
  t3 := Tryz.underlying3
  a3 := Tryz.isAgg3
  z3 := Tryz.sizeOf3
  v3 := Tryz.zeroValue3
  t4 := Tryz.underlying4
  a4 := Tryz.isAgg4
  z4 := Tryz.sizeOf4
  v4 := Tryz.zeroValue4
  t22 := Tryz.underlying24
  a22 := Tryz.isAgg24
  z22 := Tryz.sizeOf24
  v22 := Tryz.zeroValue24
  i3 := by kernel_rfl }
def YtafogmegjlllkaaGreat.layCompare_ren : Go.Shelf.Ren := ⟨fun | 122 => 155 | 215 => 179 | n => n, fun | 3 => 3 | 4 => 4 | n => n, fun | n => n⟩
theorem YtafogmegjlllkaaGreat.layCompare : Go.Proofs.Lays.n122 Tryz.prog YtafogmegjlllkaaGreat.layCompare_ren := {
  mixed := by kernel_rfl
  f122 := Tryz.func155.trans (congrArg some (by kernel_rfl))
  f215 := Tryz.func179.trans (congrArg some (by kernel_rfl))
  t3 := Tryz.underlying3
  a3 := Tryz.isAgg3
  z3 := Tryz.sizeOf3
  v3 := Tryz.zeroValue3
  t4 := Tryz.underlying4
  a4 := Tryz.isAgg4
  z4 := Tryz.sizeOf4
  v4 := Tryz.zeroValue4 }
def YtafogmegjlllkaaGreat.laySortBy_ren : Go.Shelf.Ren := ⟨fun | 6 => 156 | 15 => 151 | 14 => 180 | 28 => 175 | 29 => 176 | 20 => 189 | 21 => 190 | 22 => 191 | 23 => 192 | 24 => 193 | 25 => 194 | 26 => 195 | 27 => 196 | 46 => 198 | 47 => 184 | 48 => 185 | 49 => 199 | 50 => 200 | 57 => 201 | n => n, fun | 22 => 183 | 24 => 187 | 25 => 202 | 3 => 3 | 39 => 126 | 0 => 0 | 53 => 218 | 55 => 220 | 4 => 4 | 46 => 211 | 45 => 210 | 50 => 215 | 5 => 5 | 9 => 9 | 66 => 225 | 70 => 229 | 76 => 236 | 77 => 155 | n => n, fun | n => n⟩
theorem YtafogmegjlllkaaGreat.laySortBy : Go.Proofs.SlLaysF0.n6 Tryz.prog YtafogmegjlllkaaGreat.laySortBy_ren := {
  mixed := by kernel_rfl
  f6 := ⟨Tryz.f156.name, by decide, Tryz.func156.trans (congrArg some (by kernel_rfl))⟩
  f14 := ⟨Tryz.f180.name, by decide, Tryz.func180.trans (congrArg some (by kernel_rfl))⟩
  f15 := Tryz.func151.trans (congrArg some (by kernel_rfl))
  f20 := ⟨Tryz.f189.name, by decide, Tryz.func189.trans (congrArg some (by kernel_rfl))⟩
  f21 := ⟨Tryz.f190.name, by decide, Tryz.func190.trans (congrArg some (by kernel_rfl))⟩
  f22 := ⟨Tryz.f191.name, by decide, Tryz.func191.trans (congrArg some (by kernel_rfl))⟩
  f23 := ⟨Tryz.f192.name, by decide, Tryz.func192.trans (congrArg some (by kernel_rfl))⟩
  f24 := ⟨Tryz.f193.name, by decide, Tryz.func193.trans (congrArg some (by kernel_rfl))⟩
  f25 := ⟨Tryz.f194.name, by decide, Tryz.func194.trans (congrArg some (by kernel_rfl))⟩
  f26 := ⟨Tryz.f195.name, by decide, Tryz.func195.trans (congrArg some (by kernel_rfl))⟩
  f27 := ⟨Tryz.f196.name, by decide, Tryz.func196.trans (congrArg some (by kernel_rfl))⟩
  f28 := Tryz.func175.trans (congrArg some (by kernel_rfl))
  f29 := Tryz.func176.trans (congrArg some (by kernel_rfl))
  f46 := ⟨Tryz.f198.name, by decide, Tryz.func198.trans (congrArg some (by kernel_rfl))⟩
  f47 := Tryz.func184.trans (congrArg some (by kernel_rfl))
  f48 := Tryz.func185.trans (congrArg some (by kernel_rfl))
  f49 := ⟨Tryz.f199.name, by decide, Tryz.func199.trans (congrArg some (by kernel_rfl))⟩
  f50 := ⟨Tryz.f200.name, by decide, Tryz.func200.trans (congrArg some (by kernel_rfl))⟩
  f57 := ⟨Tryz.f201.name, by decide, Tryz.func201.trans (congrArg some (by kernel_rfl))⟩
  t0 := Tryz.underlying0
  a0 := Tryz.isAgg0
  z0 := Tryz.sizeOf0
  v0 := Tryz.zeroValue0
  t3 := Tryz.underlying3
  a3 := Tryz.isAgg3
  z3 := Tryz.sizeOf3
  v3 := Tryz.zeroValue3
  t4 := Tryz.underlying4
  a4 := Tryz.isAgg4
  z4 := Tryz.sizeOf4
  v4 := Tryz.zeroValue4
  t5 := Tryz.underlying5
  a5 := Tryz.isAgg5
  z5 := Tryz.sizeOf5
  v5 := Tryz.zeroValue5
  t9 := Tryz.underlying9
  a9 := Tryz.isAgg9
  z9 := Tryz.sizeOf9
  v9 := Tryz.zeroValue9
  t22 := Tryz.underlying183
  a22 := Tryz.isAgg183
  z22 := Tryz.sizeOf183
  v22 := Tryz.zeroValue183
  t25 := Tryz.underlying202
  a25 := Tryz.isAgg202
  z25 := Tryz.sizeOf202
  v25 := Tryz.zeroValue202
  t39 := Tryz.underlying126
  a39 := Tryz.isAgg126
  z39 := Tryz.sizeOf126
  v39 := Tryz.zeroValue126
  t45 := Tryz.underlying210
  a45 := Tryz.isAgg210
  z45 := Tryz.sizeOf210
  v45 := Tryz.zeroValue210
  t46 := Tryz.underlying211
  a46 := Tryz.isAgg211
  z46 := Tryz.sizeOf211
  v46 := Tryz.zeroValue211
  t50 := Tryz.underlying215
  a50 := Tryz.isAgg215
  z50 := Tryz.sizeOf215
  v50 := Tryz.zeroValue215
  t53 := Tryz.underlying218
  a53 := Tryz.isAgg218
  z53 := Tryz.sizeOf218
  v53 := Tryz.zeroValue218
  t55 := Tryz.underlying220
  a55 := Tryz.isAgg220
  z55 := Tryz.sizeOf220
  v55 := Tryz.zeroValue220
  t66 := Tryz.underlying225
  a66 := Tryz.isAgg225
  z66 := Tryz.sizeOf225
  v66 := Tryz.zeroValue225
  t70 := Tryz.underlying229
  a70 := Tryz.isAgg229
  z70 := Tryz.sizeOf229
  v70 := Tryz.zeroValue229
  t76 := Tryz.underlying236
  a76 := Tryz.isAgg236
  z76 := Tryz.sizeOf236
  v76 := Tryz.zeroValue236
  t77 := Tryz.underlying155
  a77 := Tryz.isAgg155
  z77 := Tryz.sizeOf155
  v77 := Tryz.zeroValue155 }
end Go.Proofs
namespace Go.Proofs.YtafogmegjlllkaaGreat
open Go Go.Shelf Go.RowKit Go.Lib Go.Sort Go.Proofs.YtafogmegjlllkaaGreat.R
set_option maxHeartbeats 1000000 in
/-- The closure of jump.levels: the higher level first. -/
theorem closureAt (x y : Int × Int) (W : World) : Calls Tryz.prog 154 #[.agg #[.int .i64 x.1, .int .i64 x.2], .agg #[.int .i64 y.1, .int .i64 y.2]] W fun e w' => e = .returned (.int .i64 (Lib.compareInt y.2 x.2)) ∧ ∃ q os', w' = Go.Sort.grow (W.drewN q) os' := by
  have hcon := fun W' => Any.cmp_Compare_int layCompare y.2 x.2 W'
  change ∀ W', Calls Tryz.prog 155 _ _ _ at hcon
  generalize Lib.compareInt y.2 x.2 = r at hcon ⊢
  go_enter Tryz.func154, Tryz.ntmps154
  go_wp2_with (go_at_call 155; refine (hcon _).mono ?_; rintro e w' ⟨rfl, rfl⟩)
  go_ret
  exact ⟨rfl, 0, _, by rw [Go.Sort.alloc_eq_grow, Go.Sort.alloc_eq_grow, Go.Sort.grow_grow]; rfl⟩
theorem cmpAt : ∀ b o s w, CmpLays Tryz.prog 154 #[] encAt 2 cfAt b o s w := fun _ _ _ _ _ _ _ _ x y => closureAt x y _
theorem aggAt : ∀ w, (isAgg 187).run Tryz.prog w = .ok true w := Tryz.isAgg187
theorem sizeAt : ∀ w, (Go.sizeOf 187).run Tryz.prog w = .ok 2 w := Tryz.sizeOf187
theorem entersAt : ∀ args w, (callFunc 154 args).run Tryz.prog w = .ok (.enter 154 args) w := enters_of Tryz.func154 (by kernel_rfl) rfl
end Go.Proofs.YtafogmegjlllkaaGreat
