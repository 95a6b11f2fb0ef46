/- For the seat: texts joined: Slc, LabP, Lab, Dl. -/
import Derived.Shelf.Sort.Plain
import Derived.Ground.Names2Prog
import Derived.Shelf.Slices.CompactI
import Derived.Shelf.Slices.SearchI
import Derived.Shelf.Slices.In.SortNone
import Derived.Shelf.Slices.Empties
import Derived.Test.YtdeelhbckfmaeaaGreatDoorProg
import Derived.Lib.SlicesCompact
import Derived.Test.YtdeelhbckfmaeaaGreatDoorJE
import Derived.Sort.OwnSortedInts
import Derived.Test.YtdeelhbckfmaeaaGreatDoorJG
import Derived.Test.YtdeelhbckfmaeaaGreatDoorJHz
/-
  DERIVED: THE SHELF's CONTRACTS AT THIS DUMP, IN PLAIN WORDS (tools/lay-plain.mjs out of 'TryzSlcSrc.lean', which tools/lay-shelf.mjs wrote): THE SAME DECLARATIONS UNDER THE SAME NAMES: 'import', 'namespace', 'open', 'def', 'theorem' AND NOTHING ELSE: no command of the shelf's: FOR A HAND-IN. Each laying: the table of numbers ('.._ren') and one theorem, a field a fact of the dump's own or the kernel's comparison; each contract: ONE APPLICATION.
-/
namespace Go.Proofs
open Go.Shelf
def Tryz.lays189_ren : Go.Shelf.Ren := ⟨fun | 189 => 23 | 125 => 40 | 257 => 39 | 128 => 79 | 129 => 80 | 294 => 70 | 295 => 71 | 296 => 72 | 297 => 73 | 298 => 74 | 299 => 75 | 216 => 76 | 300 => 77 | 301 => 78 | 328 => 123 | 329 => 124 | 330 => 125 | 331 => 126 | 332 => 127 | 215 => 128 | 343 => 188 | n => n, fun | 28 => 31 | 3 => 3 | 46 => 36 | 0 => 0 | 51 => 124 | 53 => 34 | 4 => 4 | 183 => 117 | 182 => 116 | 131 => 39 | 5 => 5 | 9 => 9 | 218 => 171 | 222 => 175 | 228 => 236 | 229 => 95 | n => n, fun | n => n⟩
theorem Tryz.lays189 : Go.Proofs.Lays.n189 Tryz.prog Tryz.lays189_ren := {
  mixed := by kernel_rfl
  f125 := Tryz.func40.trans (congrArg some (by kernel_rfl))
  f128 := Tryz.func79.trans (congrArg some (by kernel_rfl))
  f129 := Tryz.func80.trans (congrArg some (by kernel_rfl))
  f189 := Tryz.func23.trans (congrArg some (by kernel_rfl))
  f215 := Tryz.func128.trans (congrArg some (by kernel_rfl))
  f216 := Tryz.func76.trans (congrArg some (by kernel_rfl))
  f257 := Tryz.func39.trans (congrArg some (by kernel_rfl))
  f294 := Tryz.func70.trans (congrArg some (by kernel_rfl))
  f295 := Tryz.func71.trans (congrArg some (by kernel_rfl))
  f296 := Tryz.func72.trans (congrArg some (by kernel_rfl))
  f297 := Tryz.func73.trans (congrArg some (by kernel_rfl))
  f298 := Tryz.func74.trans (congrArg some (by kernel_rfl))
  f299 := Tryz.func75.trans (congrArg some (by kernel_rfl))
  f300 := Tryz.func77.trans (congrArg some (by kernel_rfl))
  f301 := Tryz.func78.trans (congrArg some (by kernel_rfl))
  f328 := Tryz.func123.trans (congrArg some (by kernel_rfl))
  f329 := Tryz.func124.trans (congrArg some (by kernel_rfl))
  f330 := Tryz.func125.trans (congrArg some (by kernel_rfl))
  f331 := Tryz.func126.trans (congrArg some (by kernel_rfl))
  f332 := Tryz.func127.trans (congrArg some (by kernel_rfl))
  f343 := Tryz.func188.trans (congrArg some (by kernel_rfl))
  t0 := Tryz.underlying0
  a0 := Tryz.isAgg0
  z0 := Tryz.sizeOf0
  v0 := Tryz.zeroValue0
  t3 := Tryz.underlying3
  a3 := Tryz.isAgg3
  z3 := Tryz.sizeOf3
  v3 := Tryz.zeroValue3
  t4 := Tryz.underlying4
  a4 := Tryz.isAgg4
  z4 := Tryz.sizeOf4
  v4 := Tryz.zeroValue4
  t5 := Tryz.underlying5
  a5 := Tryz.isAgg5
  z5 := Tryz.sizeOf5
  v5 := Tryz.zeroValue5
  t9 := Tryz.underlying9
  a9 := Tryz.isAgg9
  z9 := Tryz.sizeOf9
  v9 := Tryz.zeroValue9
  t28 := Tryz.underlying31
  a28 := Tryz.isAgg31
  z28 := Tryz.sizeOf31
  v28 := Tryz.zeroValue31
  t46 := Tryz.underlying36
  a46 := Tryz.isAgg36
  z46 := Tryz.sizeOf36
  v46 := Tryz.zeroValue36
  t51 := Tryz.underlying124
  a51 := Tryz.isAgg124
  z51 := Tryz.sizeOf124
  v51 := Tryz.zeroValue124
  t53 := Tryz.underlying34
  a53 := Tryz.isAgg34
  z53 := Tryz.sizeOf34
  v53 := Tryz.zeroValue34
  t131 := Tryz.underlying39
  a131 := Tryz.isAgg39
  z131 := Tryz.sizeOf39
  v131 := Tryz.zeroValue39
  t182 := Tryz.underlying116
  a182 := Tryz.isAgg116
  z182 := Tryz.sizeOf116
  v182 := Tryz.zeroValue116
  t183 := Tryz.underlying117
  a183 := Tryz.isAgg117
  z183 := Tryz.sizeOf117
  v183 := Tryz.zeroValue117
  t218 := Tryz.underlying171
  a218 := Tryz.isAgg171
  z218 := Tryz.sizeOf171
  v218 := Tryz.zeroValue171
  t222 := Tryz.underlying175
  a222 := Tryz.isAgg175
  z222 := Tryz.sizeOf175
  v222 := Tryz.zeroValue175
  t228 := Tryz.underlying236
  a228 := Tryz.isAgg236
  z228 := Tryz.sizeOf236
  v228 := Tryz.zeroValue236
  t229 := Tryz.underlying95
  a229 := Tryz.isAgg95
  z229 := Tryz.sizeOf95
  v229 := Tryz.zeroValue95 }
def Tryz.laysNm220_ren : Go.Shelf.Ren := ⟨fun | 20 => 24 | n => n, fun | 22 => 31 | 3 => 3 | 4 => 4 | 0 => 0 | n => n, fun | n => n⟩
theorem Tryz.laysNm220 : Go.Proofs.Lays2.n20 Tryz.prog Tryz.laysNm220_ren := {
  mixed := by kernel_rfl
  f20 := Tryz.func24.trans (congrArg some (by kernel_rfl))
  t0 := Tryz.underlying0
  a0 := Tryz.isAgg0
  z0 := Tryz.sizeOf0
  v0 := Tryz.zeroValue0
  t3 := Tryz.underlying3
  a3 := Tryz.isAgg3
  z3 := Tryz.sizeOf3
  v3 := Tryz.zeroValue3
  t4 := Tryz.underlying4
  a4 := Tryz.isAgg4
  z4 := Tryz.sizeOf4
  v4 := Tryz.zeroValue4
  t22 := Tryz.underlying31
  a22 := Tryz.isAgg31
  z22 := Tryz.sizeOf31
  v22 := Tryz.zeroValue31
  i3 := by kernel_rfl }
def Tryz.laysNm225_ren : Go.Shelf.Ren := ⟨fun | 25 => 43 | 31 => 76 | 32 => 81 | 37 => 128 | n => n, fun | 22 => 31 | 3 => 3 | 4 => 4 | 40 => 36 | 0 => 0 | n => n, fun | n => n⟩
theorem Tryz.laysNm225 : Go.Proofs.Lays2.n25 Tryz.prog Tryz.laysNm225_ren := {
  mixed := by kernel_rfl
  f25 := Tryz.func43.trans (congrArg some (by kernel_rfl))
  f31 := Tryz.func76.trans (congrArg some (by kernel_rfl))
  f32 := Tryz.func81.trans (congrArg some (by kernel_rfl))
  f37 := Tryz.func128.trans (congrArg some (by kernel_rfl))
  t0 := Tryz.underlying0
  a0 := Tryz.isAgg0
  z0 := Tryz.sizeOf0
  v0 := Tryz.zeroValue0
  t3 := Tryz.underlying3
  a3 := Tryz.isAgg3
  z3 := Tryz.sizeOf3
  v3 := Tryz.zeroValue3
  t4 := Tryz.underlying4
  a4 := Tryz.isAgg4
  z4 := Tryz.sizeOf4
  v4 := Tryz.zeroValue4
  t22 := Tryz.underlying31
  a22 := Tryz.isAgg31
  z22 := Tryz.sizeOf31
  v22 := Tryz.zeroValue31
  t40 := Tryz.underlying36
  a40 := Tryz.isAgg36
  z40 := Tryz.sizeOf36
  v40 := Tryz.zeroValue36 }
end Go.Proofs
/- For the seat: numbers in order, each once: plain. -/
namespace Go.Proofs.YtdeelhbckfmaeaaGreatDoor

set_option maxRecDepth 100000 in
/-- What is left where runs of equal numbers are made one, of numbers in order: they rise, and are the same. -/
theorem compact_spec (l : List Int) (h : l.Pairwise (· ≤ ·)) : (Lib.compact l).Pairwise (· < ·) ∧ ∀ v, v ∈ Lib.compact l ↔ v ∈ l := by
  have hg : ∀ i, i < l.length → l.toArray[i]! = l.getD i 0 := fun i hi => by
    simp [List.getD, hi]
  have hs : ∀ i j, i ≤ j → j < l.length → l.getD i 0 ≤ l.getD j 0 := fun i j hij hj => by
    rcases Nat.eq_or_lt_of_le hij with rfl | hlt
    · exact Int.le_refl _
    · have := List.pairwise_iff_getElem.1 h i j (by omega) hj hlt
      simpa [List.getD, show i < l.length by omega, hj] using this
  constructor
  · unfold Lib.compact Lib.compactUpTo
    rw [List.pairwise_map]
    refine List.Pairwise.imp_of_mem ?_ (List.Pairwise.filter _ List.pairwise_lt_range)
    intro i j hi hj hij
    simp only [List.mem_filter, List.mem_range] at hi hj
    obtain ⟨hjl, hk⟩ := hj
    simp only [Lib.keeps, decide_eq_true_eq] at hk
    rcases hk with h0 | hne
    · omega
    rw [hg i hi.1, hg j hjl]
    rw [hg j hjl, hg (j - 1) (by omega)] at hne
    have h1 := hs i (j - 1) (by omega) (by omega)
    have h2 := hs (j - 1) j (by omega) hjl
    omega
  · intro v
    unfold Lib.compact Lib.compactUpTo
    simp only [List.mem_map, List.mem_filter, List.mem_range]
    constructor
    · rintro ⟨i, ⟨hi, _⟩, rfl⟩
      rw [hg i hi]
      simp [List.getD, hi]
    · intro hv
      obtain ⟨i, hi, hiv, hmin⟩ : ∃ i, i < l.length ∧ l.getD i 0 = v ∧ ∀ j, j < i → l.getD j 0 ≠ v := by
        obtain ⟨k, hk, hkv⟩ := List.getElem_of_mem hv
        have key : ∀ n k, k ≤ n → k < l.length → l.getD k 0 = v → ∃ i, i < l.length ∧ l.getD i 0 = v ∧ ∀ j, j < i → l.getD j 0 ≠ v := by
          intro n
          induction n with
          | zero => exact fun k h1 h2 h3 => ⟨k, h2, h3, fun j hj => by omega⟩
          | succ n ih =>
            intro k h1 h2 h3
            by_cases hc : ∃ j, j < k ∧ l.getD j 0 = v
            · obtain ⟨j, hj, hjv⟩ := hc
              exact ih j (by omega) (by omega) hjv
            · exact ⟨k, h2, h3, fun j hj e => hc ⟨j, hj, e⟩⟩
        exact key k k (Nat.le_refl _) hk (by simpa [List.getD, hk] using hkv)
      refine ⟨i, ⟨hi, ?_⟩, by rw [hg i hi, hiv]⟩
      simp only [Lib.keeps, decide_eq_true_eq]
      rcases Nat.eq_zero_or_pos i with h0 | h0
      · exact .inl h0
      · right
        rw [hg i hi, hg (i - 1) (by omega), hiv]
        exact fun e => hmin (i - 1) (by omega) e.symm

set_option maxRecDepth 100000 in
theorem sorted_of_mergeSort (l : List Int) : (l.mergeSort fun x y => decide (x ≤ y)).Pairwise (· ≤ ·) := by
  have := List.pairwise_mergeSort (le := fun x y : Int => decide (x ≤ y)) (by intro a b c; simp; omega) (by intro a b; simp; omega) l
  exact this.imp fun h => by simpa using h

set_option maxRecDepth 100000 in
theorem labels_spec (l : List Int) : (Lib.compact (l.mergeSort fun x y => decide (x ≤ y))).Pairwise (· < ·) ∧ ∀ v, v ∈ Lib.compact (l.mergeSort fun x y => decide (x ≤ y)) ↔ v ∈ l := by
  obtain ⟨h1, h2⟩ := compact_spec _ (sorted_of_mergeSort l)
  exact ⟨h1, fun v => (h2 v).trans List.mem_mergeSort⟩
end Go.Proofs.YtdeelhbckfmaeaaGreatDoor
/- For the seat: dis.Labels: the places that are led to, in order, each once. -/
namespace Go.Proofs.YtdeelhbckfmaeaaGreatDoor
open Go.Sx Go.ChangeShapes Go.WideShapes Go.RowKit Go.Joins Go.Deep Go.Sort

/-- The places that items lead to. -/
def leadsL : List Itm → List Int
  | [] => []
  | y :: r => match (leadsP y).2 with
    | true => (leadsP y).1 :: leadsL r
    | false => leadsL r
/-- In order, each once. -/
def labels (l : List Itm) : List Int := Lib.compact ((leadsL l).mergeSort fun x y => decide (x ≤ y))

set_option maxRecDepth 100000 in
theorem leadsL_len : ∀ l : List Itm, (leadsL l).length ≤ l.length
  | [] => Nat.le_refl _
  | y :: r => by
    have := leadsL_len r
    unfold leadsL
    split <;> simp only [List.length_cons] <;> omega

set_option maxRecDepth 100000 in
theorem leadsL_mem {l : List Itm} {v : Int} (h : v ∈ leadsL l) : ∃ y ∈ l, (leadsP y).2 = true ∧ (leadsP y).1 = v := by
  induction l with
  | nil => simp [leadsL] at h
  | cons y r ih =>
    unfold leadsL at h
    split at h
    · rename_i hy
      rcases List.mem_cons.1 h with rfl | h
      · exact ⟨y, List.mem_cons_self .., hy, rfl⟩
      · obtain ⟨z, hz, h1, h2⟩ := ih h
        exact ⟨z, List.mem_cons_of_mem _ hz, h1, h2⟩
    · obtain ⟨z, hz, h1, h2⟩ := ih h
      exact ⟨z, List.mem_cons_of_mem _ hz, h1, h2⟩

set_option maxRecDepth 100000 in
theorem labels_mem {l : List Itm} {v : Int} (h : v ∈ labels l) : ∃ y ∈ l, (leadsP y).2 = true ∧ (leadsP y).1 = v := leadsL_mem (((labels_spec (leadsL l)).2 v).1 h)
set_option maxRecDepth 100000 in
theorem labels_rise (l : List Itm) : (labels l).Pairwise (· < ·) := (labels_spec (leadsL l)).1
set_option maxRecDepth 100000 in
theorem labels_len (l : List Itm) : (labels l).length ≤ l.length := by
  have h1 : (labels l).length ≤ ((leadsL l).mergeSort fun x y => decide (x ≤ y)).length := by
    unfold labels Lib.compact Lib.compactUpTo
    rw [List.length_map]
    exact Nat.le_trans (List.length_filter_le _ _) (by simp)
  rw [List.length_mergeSort] at h1
  exact Nat.le_trans h1 (leadsL_len l)

set_option maxRecDepth 100000 in
/-- Sorted and made one: numbers of the call's own. -/
theorem sortCompact (w : World) (base : Nat) (v : Value) (l : List Int) (hown : w.ownsRow base 3 1 v l.length (encI l)) (hb : base ≤ w.heap.size) (hl : l.length ≤ 1000000000) :
    Calls Tryz.prog 23 #[v] w fun e w' => e = .returned (.tuple #[]) ∧ Below base w w' ∧
      Calls Tryz.prog 24 #[v] w' fun e w'' => (∃ A cap, e = .returned (.slice A (Lib.compact (l.mergeSort fun x y => decide (x ≤ y))).length cap) ∧ IAt w'' w''.heap.size A (Lib.compact (l.mergeSort fun x y => decide (x ≤ y)))) ∧ Below base w w'' := by
  rcases hown.2 with ⟨hv, h0⟩ | ⟨g, cap, cur, rfl, hg, hh, hcap, hmax, hsz, htake⟩
  · subst hv
    obtain rfl := List.eq_nil_of_length_eq_zero h0
    refine (Any.slices_Sort_int_none Tryz.lays189 none 0 w).mono ?_
    rintro e w' ⟨rfl, rfl⟩
    refine ⟨rfl, Below.refl _ _, ?_⟩
    refine (Any.slices_Compact_int_empty Tryz.laysNm220 none 0 w').mono ?_
    rintro e w'' ⟨rfl, rfl⟩
    have e0 : Lib.compact (([] : List Int).mergeSort fun x y => decide (x ≤ y)) = [] := by simp [Lib.compact, Lib.compactUpTo]
    rw [e0]
    exact ⟨⟨none, 0, rfl, IAt.nil _ _ _⟩, Below.refl _ _⟩
  · have hgl : g < w.heap.size := (Array.getElem?_eq_some_iff.1 hh).1
    have htake' : cur.toList.take l.length = l.map (Value.int .i64) := by rw [Nat.mul_one] at htake; exact htake
    have hH := holds_of_blockI hh htake'
    refine (Any.slices_Sort_int Tryz.lays189 g 0 cap l w hH hgl (by omega)).mono ?_
    rintro e w' ⟨rfl, n, os, rfl⟩
    have hlen : (l.mergeSort fun x y => decide (x ≤ y)).length = l.length := List.length_mergeSort ..
    have hgrown := grownBy_sortedI (w := w) (g := g) (n := n) (os := os) (l.mergeSort fun x y => decide (x ≤ y)).toArray
    have hB : Below base w (grow (putRow (Value.int .i64) (Sort.ahead w n) g 0 (l.mergeSort fun x y => decide (x ≤ y)).toArray) os) := (Below.refl base w).grown hgrown hb (fun j hj => by cases hj; exact hg)
    have hown2 := ownsRow_sortedI (n := n) (os := os) (ts := l.mergeSort fun x y => decide (x ≤ y)) (ss := l) hlen hg hh hcap hmax hsz
    refine ⟨rfl, hB, ?_⟩
    generalize hW : grow (putRow (Value.int .i64) (Sort.ahead w n) g 0 (l.mergeSort fun x y => decide (x ≤ y)).toArray) os = W at hB hown2 ⊢
    generalize hzs : l.mergeSort (fun x y => decide (x ≤ y)) = zs at hown2 hlen ⊢
    rcases hown2.2 with ⟨h1, _⟩ | ⟨g2, cap2, cur2, hv2, hg2, hh2, hcap2, hmax2, hsz2, htake2⟩
    · cases h1
    · cases hv2
      have htk : cur2.toList.take zs.length = zs.map (Value.int .i64) := by rw [hlen]; simpa using htake2
      have hH2 := holds_of_blockI hh2 htk
      have hgl2 : g < W.heap.size := (Array.getElem?_eq_some_iff.1 hh2).1
      rw [← hlen]
      refine (Any.slices_Compact_int Tryz.laysNm220 g 0 cap zs W hH2 (by omega) (by omega)).mono ?_
      rintro e w'' ⟨rfl, q, rfl⟩
      have hcl : (Lib.compact zs).length ≤ zs.length := by
        unfold Lib.compact Lib.compactUpTo
        rw [List.length_map]
        exact Nat.le_trans (List.length_filter_le _ _) (by simp)
      have hds : (Lib.compact zs ++ List.replicate (zs.length - (Lib.compact zs).length) 0).toArray.size = zs.toArray.size := by simp; omega
      have hgr2 := grownBy_sortedI (w := W) (g := g) (n := q) (os := #[]) (Lib.compact zs ++ List.replicate (zs.length - (Lib.compact zs).length) 0).toArray
      have hg0 : ∀ X : World, grow X #[] = X := fun X => by unfold grow; simp
      rw [hg0] at hgr2
      refine ⟨⟨_, _, rfl, ?_⟩, hB.grown hgr2 (Nat.le_trans hb hB.size) (fun j hj => by cases hj; exact hg)⟩
      intro hne
      refine ⟨g, 0, rfl, by rw [size_putRow]; exact hgl2, fun i a hi => ?_⟩
      have hil : i < (Lib.compact zs).length := (List.getElem?_eq_some_iff.1 hi).1
      have := cell?_putRow (Value.int .i64) (Sort.ahead W q) g 0 zs.toArray (Lib.compact zs ++ List.replicate (zs.length - (Lib.compact zs).length) 0).toArray hH2 hds i (by simp; omega)
      rw [Nat.zero_add] at this ⊢
      rw [this]
      congr 2
      have e1 := (List.getElem?_eq_some_iff.1 hi).2
      simp [List.getElem?_append_left hil, List.getElem?_eq_getElem hil, e1]

set_option maxRecDepth 100000 in
theorem leadsL_cons (y : Itm) (r : List Itm) : leadsL (y :: r) = match (leadsP y).2 with | true => (leadsP y).1 :: leadsL r | false => leadsL r := rfl

set_option maxRecDepth 100000 in
set_option maxHeartbeats 4000000 in
theorem labels_any (s : ByteArray) (l : List Itm) (A : Option Addr) (cap : Nat) (w : World) (hA : ItAt w w.heap.size A l) (hl : l.length ≤ 1000000000) :
    Calls Tryz.prog 12 #[.agg #[.string s, .slice A l.length cap]] w fun e w' => (∃ A' cap', e = .returned (.slice A' (labels l).length cap') ∧ IAt w' w'.heap.size A' (labels l)) ∧ Below w.heap.size w w' := by
  have b0 : Below w.heap.size w (w.alloc (.cells #[.string s, .slice A l.length cap] 24)) := (Below.refl _ _).alloc (Nat.le_refl _) _
  have c01 : (w.alloc (.cells #[.string s, .slice A l.length cap] 24)).cell? ⟨w.heap.size, 1, none⟩ = some (.slice A l.length cap) := cell_allocN _ _ _ 1
  have hsz : (w.alloc (.cells #[.string s, .slice A l.length cap] 24)).heap.size = w.heap.size + 1 := by simp
  generalize hW : w.alloc (.cells #[.string s, .slice A l.length cap] 24) = W0 at b0 c01 hsz
  have hLb : labels l = Lib.compact ((leadsL l).mergeSort fun x y => decide (x ≤ y)) := rfl
  generalize labels l = lb at hLb ⊢
  go_enter Tryz.func12, Tryz.ntmps12
  go_wp2
  go_loopw [3, 11] (fun v k wr => ∃ (i : Nat) (pre : List Int), k = .int .i64 i ∧ i ≤ l.length ∧ Hid (leadsL l = pre ++ leadsL (l.drop i)) ∧ wr.ownsRow W0.heap.size 3 1 v pre.length (encI pre) ∧ Below W0.heap.size W0 wr) (fun _ k _ => l.length - (intOf k).toNat)
  case atStart => exact ⟨0, [], rfl, by omega, Lib.hid rfl, World.ownsRow_nil _ _ _ _, Below.refl _ _⟩
  case round =>
    obtain ⟨i, pre, rfl, hi, HP, hown, hbr⟩ := hrel
    have hpl : pre.length ≤ l.length := by
      have := congrArg List.length HP.out
      rw [List.length_append] at this
      have h2 := leadsL_len l
      omega
    have hbw : Below w.heap.size w wr := b0.trans (hbr.mono (by omega))
    by_cases hlt : i < l.length
    · obtain ⟨g, off, rfl, hg, hc⟩ := (hA.below hbw (Nat.le_refl _)).at_ hlt
      have hk0 : (0 : Int) ≤ (i : Int) := by omega
      have hkl : (i : Int) < (l.length : Int) := by omega
      have IN := itIn_of hc
      have hp := HP.out
      rw [List.drop_eq_getElem_cons hlt, leadsL_cons] at hp
      have hLd := fun W : World => leads_any l[i] W
      generalize l[i] = y at IN hp hLd
      generalize leadsP y = ld at hp hLd
      obtain ⟨to, ok⟩ := ld
      obtain ⟨k, a, sz, f, ln, x, V, vc, vs⟩ := y
      obtain ⟨x0, x1, x2, x3, x4, x5, x6, x7, xb⟩ := x
      obtain ⟨p0, p1, p2, p3, p4, p5, p6, p7, p8, p9, p10, p11, p12, p13, p14⟩ := IN
      dsimp only [Itm.val, Itm.cells] at hp hLd p0 p1 p2 p3 p4 p5 p6 p7 p8 p9 p10 p11 p12 p13 p14
      have HPN := Lib.hid hp
      have hgr : g < wr.heap.size := Nat.lt_of_lt_of_le hg hbw.size
      clear hc hp HP
      go_wp2_with fail
      ((with_reducible refine (hLd _).mono ?_); rintro e w1 ⟨rfl, hb1⟩)
      have B1 : Below W0.heap.size W0 w1 := (hbr.alloc hbr.size _).trans (hb1.mono (by have := hbr.size; simp; omega))
      have hown1 := own_below (own_below hown ((Below.refl wr.heap.size wr).alloc (Nat.le_refl _) _)) hb1
      clear hLd p0 p1 p2 p3 p4 p5 p6 p7 p8 p9 p10 p11 p12 p13 p14
      cases ok
      · have hp := HPN.out
        have HN := Lib.hid hp
        clear hp HPN
        go_wp2_with fail
        go_roundw
        case rel => exact ⟨i + 1, pre, by go_num, by omega, HN, hown1, B1⟩
        case measure => simp [intOf]; omega
      · have hp := HPN.out
        rw [show pre ++ (match true with | true => to :: leadsL (l.drop (i + 1)) | false => leadsL (l.drop (i + 1))) = (pre ++ [to]) ++ leadsL (l.drop (i + 1)) by simp] at hp
        have HN := Lib.hid hp
        clear hp HPN
        go_wp2_with (at_builtin; refine app_int w1 rfl _ _ rfl W0.heap.size B1.size pre to (by omega) _ rfl ?_ _ rfl rfl ?_; exact hown1; intro v2 w2 hown2 hb2)
        go_roundw
        case rel => exact ⟨i + 1, pre ++ [to], by go_num, by omega, HN, hown2, B1.trans hb2⟩
        case measure => simp [intOf]; omega
    · have e : i = l.length := by omega
      subst e
      have hp := HP.out
      rw [List.drop_length] at hp
      have hp2 : leadsL l = pre := by rw [hp]; exact List.append_nil _
      rw [hp2] at hLb
      have hS := sortCompact wr W0.heap.size _ pre hown hbr.size (by omega)
      rw [← hLb] at hS
      clear hp hp2 HP hLb
      go_wp2_with fail
      ((with_reducible refine hS.mono ?_); rintro e w1 ⟨rfl, hb1, hC⟩)
      go_wp2_with fail
      ((with_reducible refine hC.mono ?_); rintro e w2 ⟨⟨A2, cap2, rfl, hA2⟩, hb2⟩)
      go_wp2_with fail
      exact bodyPost_ret (results_tmp rfl _ _ _) rfl ⟨⟨A2, cap2, rfl, hA2⟩, hbw.trans (hb2.mono (by omega))⟩
end Go.Proofs.YtdeelhbckfmaeaaGreatDoor
/- For the seat: the law's function: the places that are led to rise, and each is led to by an instruction. -/
namespace Go.Proofs.YtdeelhbckfmaeaaGreatDoor
open Go.Sx Go.ChangeShapes Go.WideShapes Go.RowKit Go.Joins Go.Deep

set_option maxRecDepth 100000 in
theorem gxLaid_below {w w' : World} (h : gx.Laid w) (hb : Below w.heap.size w w') : gx.Laid w' := by
  obtain ⟨cs, t, fz, hw, hc⟩ := h
  exact ⟨cs, t, fz, by rw [hb.block _ (Array.getElem?_eq_some_iff.1 hw).1]; exact hw, hc⟩

set_option maxRecDepth 100000 in
theorem few_facts {n : Nat} {l : List Itm} (h : fewI n l = 1) : n ≤ 3145728 ∧ l.length ≤ 300 ∧ ∀ y ∈ l, y.vs.length ≤ 300 := by
  unfold fewI at h
  split at h
  · rename_i h1
    split at h
    · rename_i h2
      exact ⟨h1.1, h1.2, fun y hy => of_decide_eq_true (List.all_eq_true.1 h2 y hy)⟩
    · omega
  · omega

set_option maxRecDepth 100000 in
set_option maxHeartbeats 1000000 in
theorem may_any (s : ByteArray) (l : List Itm) (A : Option Addr) (cap : Nat) (w : World) (hA : ItAt w w.heap.size A l) (hk : ∀ y ∈ l, y.Ok) (hl : l.length ≤ maxLen) :
    Calls Tryz.prog 10 #[.agg #[.string s, .slice A l.length cap]] w fun e w' => ∃ r, e = .returned (.bool r) ∧ (r = true → goodR s l ∧ s.size ≤ 3145728 ∧ l.length ≤ 300 ∧ ∀ y ∈ l, y.vs.length ≤ 300) ∧ Below w.heap.size w w' := by
  have b0 : Below w.heap.size w (w.alloc (.cells #[.string s, .slice A l.length cap] 24)) := (Below.refl _ _).alloc (Nat.le_refl _) _
  have c0 : (w.alloc (.cells #[.string s, .slice A l.length cap] 24)).cell? ⟨w.heap.size, 0, none⟩ = some (.string s) := cell_allocN _ _ _ 0
  have c01 : (w.alloc (.cells #[.string s, .slice A l.length cap] 24)).cell? ⟨w.heap.size, 1, none⟩ = some (.slice A l.length cap) := cell_allocN _ _ _ 1
  have hsz : (w.alloc (.cells #[.string s, .slice A l.length cap] 24)).heap.size = w.heap.size + 1 := by simp
  generalize hW : w.alloc (.cells #[.string s, .slice A l.length cap] 24) = W0 at b0 c0 c01 hsz
  have hF := few_any s l A cap W0 ((hA.below b0 (Nat.le_refl _)).more (by omega)) hl
  go_enter Tryz.func10, Tryz.ntmps10
  go_wp2_with fail
  ((with_reducible refine hF.mono ?_); rintro e w1 ⟨rfl, hb1⟩)
  have h1 : Below w.heap.size w w1 := b0.trans (hb1.mono (by omega))
  have d0 := (hb1.cell (p := ⟨w.heap.size, 0, none⟩) (by show w.heap.size < W0.heap.size; omega)).trans c0
  have d1 := (hb1.cell (p := ⟨w.heap.size, 1, none⟩) (by show w.heap.size < W0.heap.size; omega)).trans c01
  by_cases hf : fewI s.size l = 1
  · obtain ⟨f1, f2, f3⟩ := few_facts hf
    have hq : (fewI s.size l == 1) = true := by rw [hf]; rfl
    have hC := checkR_any s l A cap w1 ((hA.below h1 (Nat.le_refl _)).more h1.size) hl (by omega) hk (fun y hy => Nat.le_trans (f3 y hy) (by decide)) trivial
    have hO : goodR s l → goodR s l ∧ s.size ≤ 3145728 ∧ l.length ≤ 300 ∧ ∀ y ∈ l, y.vs.length ≤ 300 := fun h => ⟨h, f1, f2, f3⟩
    generalize fewI s.size l = fI at hq
    clear hf f1 f2 f3 hF
    go_wp2_with fail
    ((with_reducible refine hC.mono ?_); rintro e w2 ⟨r, rfl, hr, hb2⟩)
    go_wp2_with fail
    exact bodyPost_ret (results_tmp rfl _ _ _) rfl ⟨r, rfl, (fun h => hO (hr h)), h1.trans (hb2.mono h1.size)⟩
  · have hq : (fewI s.size l == 1) = false := by simpa using hf
    generalize fewI s.size l = fI at hq
    clear hf hF
    go_wp2_with fail
    exact bodyPost_ret (results_tmp rfl _ _ _) rfl ⟨false, rfl, (fun h => by cases h), h1⟩

/-- Does an item lead to a place? -/
def leadsTo (v : Int) (y : Itm) : Bool := (leadsR y).2 && ((leadsR y).1 == v)

set_option maxRecDepth 100000 in
set_option maxHeartbeats 8000000 in
theorem labels_r (aw : ∀ W, gx.Laid W → Calls Tryz.prog 11 #[] W fun e w' => e = .returned (.bool true) ∧ Below W.heap.size W w')
    (s : ByteArray) (l : List Itm) (A : Option Addr) (cap : Nat) (w : World) (hA : ItAt w w.heap.size A l) (hk : ∀ y ∈ l, y.Ok) (hl : l.length ≤ maxLen) (hw : gx.Laid w) :
    Calls Tryz.prog 4 #[.agg #[.string s, .slice A l.length cap]] w fun e w' => e = .returned (.bool true) ∧ Below w.heap.size w w' := by
  have b0 : Below w.heap.size w (w.alloc (.cells #[.string s, .slice A l.length cap] 24)) := (Below.refl _ _).alloc (Nat.le_refl _) _
  have c0 : (w.alloc (.cells #[.string s, .slice A l.length cap] 24)).cell? ⟨w.heap.size, 0, none⟩ = some (.string s) := cell_allocN _ _ _ 0
  have c01 : (w.alloc (.cells #[.string s, .slice A l.length cap] 24)).cell? ⟨w.heap.size, 1, none⟩ = some (.slice A l.length cap) := cell_allocN _ _ _ 1
  have hsz : (w.alloc (.cells #[.string s, .slice A l.length cap] 24)).heap.size = w.heap.size + 1 := by simp
  generalize hW : w.alloc (.cells #[.string s, .slice A l.length cap] 24) = W0 at b0 c0 c01 hsz
  have U : ∀ W : World, Below W0.heap.size W0 W → Below w.heap.size w W := fun W h => b0.trans (h.mono (by omega))
  have K : ∀ W : World, Below W0.heap.size W0 W → W.cell? ⟨w.heap.size, 0, none⟩ = some (.string s) ∧ W.cell? ⟨w.heap.size, 1, none⟩ = some (.slice A l.length cap) := fun W h => ⟨(h.cell (p := ⟨w.heap.size, 0, none⟩) (by show w.heap.size < W0.heap.size; omega)).trans c0, (h.cell (p := ⟨w.heap.size, 1, none⟩) (by show w.heap.size < W0.heap.size; omega)).trans c01⟩
  have hM := may_any s l A cap W0 ((hA.below b0 (Nat.le_refl _)).more (by omega)) hk hl
  go_enter Tryz.func4, Tryz.ntmps4
  go_wp2_with fail
  ((with_reducible refine hM.mono ?_); rintro e w1 ⟨r, rfl, hr, hb1⟩)
  clear hM c0 c01
  obtain ⟨d0, d1⟩ := K w1 hb1
  cases r
  · go_wp2_with fail
    ((with_reducible refine (aw w1 (gxLaid_below hw (U _ hb1))).mono ?_); rintro e w2 ⟨rfl, hb2⟩)
    go_wp2_with fail
    exact bodyPost_ret (results_tmp rfl _ _ _) rfl ⟨rfl, (U _ hb1).trans (hb2.mono (U _ hb1).size)⟩
  obtain ⟨hg, hs, hl3, _⟩ := hr rfl
  have hLb := labels_any s l A cap w1 ((hA.below (U _ hb1) (Nat.le_refl _)).more (U _ hb1).size) (by omega)
  have hled : ∀ v ∈ labels l, (l.any (leadsTo v)) = true ∧ 0 ≤ v ∧ v ≤ (s.size : Int) := fun v hv => by
    obtain ⟨y, hy, h1, h2⟩ := labels_mem hv
    obtain ⟨e1, e2, e3⟩ := led_in hg (by omega) hy h1
    refine ⟨List.any_eq_true.2 ⟨y, hy, ?_⟩, by omega, by omega⟩
    unfold leadsTo
    rw [e1, h1, h2]
    simp
  have hrise := labels_rise l
  have hlen := labels_len l
  generalize labels l = lb at hLb hled hrise hlen
  clear hr hg
  go_wp2_with fail
  ((with_reducible refine hLb.mono ?_); rintro e w2 ⟨⟨A2, cap2, rfl, hA2⟩, hb2⟩)
  have B2 := hb1.trans (hb2.mono hb1.size)
  clear d0 d1 hLb
  go_wp2_with fail
  go_loopw [4] (fun k wr => ∃ i : Nat, i ≤ lb.length ∧ k = .int .i64 i ∧ Below w2.heap.size w2 wr) (fun k _ => lb.length - (intOf k).toNat)
  case atStart => exact ⟨0, by omega, rfl, Below.refl _ _⟩
  case round =>
    obtain ⟨i, hi, rfl, hbr⟩ := hrel
    have BR := B2.trans (hbr.mono B2.size)
    by_cases hlt : i < lb.length
    · have hk0 : (0 : Int) ≤ (i : Int) := by omega
      have hkl : (i : Int) < (lb.length : Int) := by omega
      obtain ⟨g2, o2, rfl, hg2, hc2⟩ := (hA2.below hbr (Nat.le_refl _)).at_ hlt
      obtain ⟨hany, hv0, hv1⟩ := hled lb[i] (List.getElem_mem hlt)
      generalize hv : lb[i] = v at hc2 hany hv0 hv1
      have hri : ∀ i' : Nat, i = i' + 1 → lb.getD i' 0 < v := fun i' h => by
        subst h
        have := List.pairwise_iff_getElem.1 hrise i' (i' + 1) (by omega) hlt (by omega)
        rw [hv] at this
        simpa [List.getD, show i' < lb.length by omega] using this
      obtain ⟨w4, hw4⟩ : ∃ W, W = wr := ⟨_, rfl⟩
      subst hw4
      go_wp2_with fail
      go_loopw [5, 6] (fun d k wr => ∃ (j : Nat), j ≤ l.length ∧ k = .int .i64 j ∧ d = .bool ((l.take j).any (leadsTo v)) ∧ Below w4.heap.size w4 wr) (fun _ k _ => l.length - (intOf k).toNat)
      case atStart => exact ⟨0, by omega, rfl, rfl, Below.refl _ _⟩
      case round =>
        obtain ⟨j, hj, rfl, rfl, hbq⟩ := hrel
        have BQ := BR.trans (hbq.mono BR.size)
        obtain ⟨d0, d1⟩ := K wr BQ
        have hcv : wr.cell? ⟨g2, o2 + i, none⟩ = some (.int .i64 v) := (hbq.cell (p := ⟨g2, o2 + i, none⟩) (Nat.lt_of_lt_of_le hg2 hbr.size)).trans hc2
        by_cases hjl : j < l.length
        · obtain ⟨g, off, rfl, hg, hc⟩ := (hA.below (U _ BQ) (Nat.le_refl _)).at_ hjl
          have hj0 : (0 : Int) ≤ (j : Int) := by omega
          have hjk : (j : Int) < (l.length : Int) := by omega
          have IN := itIn_of hc
          have hLd := fun W : World => leadsR_any l[j] W
          have hstep : (l.take (j + 1)).any (leadsTo v) = ((l.take j).any (leadsTo v) || leadsTo v l[j]) := by
            rw [List.take_succ_eq_append_getElem hjl, List.any_append]
            simp
          rw [show leadsTo v l[j] = ((leadsR l[j]).2 && ((leadsR l[j]).1 == v)) from rfl] at hstep
          generalize l[j] = y at IN hLd hstep
          generalize leadsR y = ld at hLd hstep
          obtain ⟨to, ok⟩ := ld
          obtain ⟨k, a, sz, f, ln, x, V, vc, vs⟩ := y
          obtain ⟨x0, x1, x2, x3, x4, x5, x6, x7, xb⟩ := x
          obtain ⟨p0, p1, p2, p3, p4, p5, p6, p7, p8, p9, p10, p11, p12, p13, p14⟩ := IN
          dsimp only [Itm.val, Itm.cells] at hLd hstep p0 p1 p2 p3 p4 p5 p6 p7 p8 p9 p10 p11 p12 p13 p14
          clear hc
          generalize hold : (l.take j).any (leadsTo v) = old at hstep
          go_wp2_with fail
          ((with_reducible refine (hLd _).mono ?_); rintro e w5 ⟨rfl, hb5⟩)
          have B5 := hbq.trans (hb5.mono hbq.size)
          have hcv5 := (hb5.cell (p := ⟨g2, o2 + i, none⟩) (Nat.lt_of_lt_of_le hg2 (Nat.le_trans hbr.size hbq.size))).trans hcv
          clear p0 p1 p2 p3 p4 p5 p6 p7 p8 p9 p10 p11 p12 p13 p14 hLd hcv hc2 d0 d1 hold
          cases old
          · cases ok
            · go_wp2_with fail
              go_roundw
              case rel => exact ⟨j + 1, by omega, by go_num, by rw [hstep]; rfl, B5⟩
              case measure => simp [intOf]; omega
            · cases he : (to == v)
              · rw [he] at hstep
                go_wp2_with fail
                go_roundw
                case rel => exact ⟨j + 1, by omega, by go_num, by rw [hstep]; rfl, B5⟩
                case measure => simp [intOf]; omega
              · rw [he] at hstep
                go_wp2_with fail
                go_roundw
                case rel => exact ⟨j + 1, by omega, by go_num, by rw [hstep]; rfl, B5⟩
                case measure => simp [intOf]; omega
          · go_wp2_with fail
            go_roundw
            case rel => exact ⟨j + 1, by omega, by go_num, by rw [hstep]; rfl, B5⟩
            case measure => simp [intOf]; omega
        · have e : j = l.length := by omega
          subst e
          rw [List.take_length, hany]
          have x2 : decide (v < 0) = false := decide_eq_false (by omega)
          have x3 : decide ((s.size : Int) < v) = false := decide_eq_false (by omega)
          have Bf : Below w2.heap.size w2 wr := hbr.trans (hbq.mono hbr.size)
          by_cases hi0 : i = 0
          · have u0 : decide ((0 : Int) < (i : Int)) = false := decide_eq_false (by omega)
            have u0n : decide (0 < i) = false := decide_eq_false (by omega)
            clear hri hi0
            go_wp2_with fail
            go_quiet (fail)
            go_wp2_with fail
            go_roundw
            case rel => exact ⟨i + 1, by omega, by go_num, below_drewN Bf⟩
            case measure => simp [intOf]; omega
          · have u0 : decide ((0 : Int) < (i : Int)) = true := decide_eq_true (by omega)
            have u0n : decide (0 < i) = true := decide_eq_true (by omega)
            obtain ⟨i', hi'⟩ : ∃ i', i = i' + 1 := ⟨i - 1, by omega⟩
            have hlt' := hri i' hi'
            obtain ⟨g3, o3, hA3, _, hc3⟩ := (hA2.below Bf (Nat.le_refl _)).at_ (k := i') (by omega)
            simp only [Option.some.injEq, Addr.mk.injEq, and_true] at hA3
            obtain ⟨rfl, rfl⟩ := hA3
            have hge : lb.getD i' 0 = lb[i'] := by simp [List.getD, show i' < lb.length by omega]
            rw [hge] at hlt'
            generalize lb[i'] = v' at hlt' hc3
            have x1 : decide (v ≤ v') = false := decide_eq_false (by omega)
            have m1 : IntKind.i64.wrap ((i : Int) - 1) = (i : Int) - 1 := IntWalk.i64_in _ (by omega)
            have m2 : (0 : Int) ≤ (i : Int) - 1 := by omega
            have m3 : (i : Int) - 1 < (lb.length : Int) := by omega
            have m4 : ((i : Int) - 1).toNat = i' := by omega
            clear hri hi0 hlt' hi' hge
            go_wp2_with fail
            go_quiet (fail)
            go_wp2_with fail
            go_roundw
            case rel => exact ⟨i + 1, by omega, by go_num, below_drewN Bf⟩
            case measure => simp [intOf]; omega
    · have e : i = lb.length := by omega
      subst e
      go_wp2_with fail
      ((with_reducible refine (aw wr (gxLaid_below hw (U _ BR))).mono ?_); rintro e w3 ⟨rfl, hb3⟩)
      go_wp2_with fail
      exact bodyPost_ret (results_tmp rfl _ _ _) rfl ⟨rfl, (U _ BR).trans (hb3.mono (U _ BR).size)⟩
end Go.Proofs.YtdeelhbckfmaeaaGreatDoor
