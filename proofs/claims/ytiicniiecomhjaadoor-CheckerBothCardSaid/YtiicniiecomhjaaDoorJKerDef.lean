/- For the seat: texts joined: KerDef. -/
import Derived.Test.YtiicniiecomhjaaDoorJD
import Derived.Test.YtiicniiecomhjaaDoorJC0
/- For the seat: images: their items, and what is asked of them: plain. -/
namespace Go.Proofs.YtiicniiecomhjaaDoor
open Go.Sx Go.ChangeShapes Go.WideShapes Go.RowKit Go.Joins Go.Deep

/-- An item: kind, place, size, form, line, instruction, values. -/
structure Itm where
  k : Int
  a : Int
  s : Int
  f : Int
  l : Int
  x : Fields
  V : Option Addr
  vc : Nat
  vs : List Int

abbrev Itm.cells (y : Itm) : Array Value := #[.int .i64 y.k, .int .i64 y.a, .int .i64 y.s, .int .i64 y.f, .int .i64 y.l, .int .i64 y.x.x0, .int .i64 y.x.x1, .int .i64 y.x.x2, .int .i64 y.x.x3, .int .i64 y.x.x4, .int .i64 y.x.x5, .int .i64 y.x.x6, .int .i64 y.x.x7, .bool y.x.b, .slice y.V y.vs.length y.vc]
abbrev Itm.val (y : Itm) : Value := .agg y.cells

structure Itm.Ok (y : Itm) : Prop where
  k : kHas .i64 y.k
  a : kHas .i64 y.a
  s : kHas .i64 y.s
  f : kHas .i64 y.f
  l : kHas .i64 y.l
  x : y.x.Ok
  vs : ∀ v ∈ y.vs, kHas .i64 v
  len : y.vs.length ≤ maxLen
  cap : y.vs.length ≤ y.vc

/-- A slice's address, below block B, where such items lie. -/
def ItAt (w : World) (B : Nat) (A : Option Addr) (l : List Itm) : Prop :=
  (l ≠ [] → ∃ g off, A = some ⟨g, off, none⟩ ∧ g < B ∧ ∀ (i : Nat) (y : Itm), l[i]? = some y → ∀ (j : Nat) (v : Value), y.cells[j]? = some v → w.cell? ⟨g, off + i * 15 + j, none⟩ = some v) ∧
  ∀ y ∈ l, IAt w B y.V y.vs
theorem ItAt.keep {w w' : World} {B : Nat} {A : Option Addr} {l : List Itm} (h : ItAt w B A l) (hk : ∀ p : Addr, p.block < B → ∀ v, w.cell? p = some v → w'.cell? p = some v) : ItAt w' B A l := by
  refine ⟨fun hn => ?_, fun y hy => (h.2 y hy).keep hk⟩
  obtain ⟨g, off, e, hb, hc⟩ := h.1 hn
  exact ⟨g, off, e, hb, fun i x hx j v hv => hk _ hb _ (hc i x hx j v hv)⟩
theorem ItAt.below {w w' : World} {B B' : Nat} {A : Option Addr} {l : List Itm} (h : ItAt w B A l) (hb : Below B' w w') (hB : B ≤ B') : ItAt w' B A l := h.keep fun _ hp _ e => (hb.cell (by omega)).trans e
theorem ItAt.more {w : World} {B B' : Nat} {A : Option Addr} {l : List Itm} (h : ItAt w B A l) (hB : B ≤ B') : ItAt w B' A l := by
  refine ⟨fun hn => ?_, fun y hy => (h.2 y hy).more hB⟩
  obtain ⟨g, off, e, hb, hc⟩ := h.1 hn
  exact ⟨g, off, e, by omega, hc⟩
theorem ItAt.at_ {w : World} {B : Nat} {A : Option Addr} {l : List Itm} (h : ItAt w B A l) {k : Nat} (hk : k < l.length) :
    ∃ g off, A = some ⟨g, off, none⟩ ∧ g < B ∧ ∀ (j : Nat) (v : Value), l[k].cells[j]? = some v → w.cell? ⟨g, off + k * 15 + j, none⟩ = some v := by
  obtain ⟨g, off, e, hb, hc⟩ := h.1 (by intro e; subst e; simp at hk)
  exact ⟨g, off, e, hb, fun j v hv => hc k l[k] (List.getElem?_eq_getElem hk) j v hv⟩

/-- An item at its place. -/
def ItIn (W : World) (g o : Nat) (y : Itm) : Prop := W.cell? ⟨g, o, none⟩ = some (.int .i64 y.k) ∧ W.cell? ⟨g, o + 1, none⟩ = some (.int .i64 y.a) ∧ W.cell? ⟨g, o + 2, none⟩ = some (.int .i64 y.s) ∧ W.cell? ⟨g, o + 3, none⟩ = some (.int .i64 y.f) ∧ W.cell? ⟨g, o + 4, none⟩ = some (.int .i64 y.l) ∧
  W.cell? ⟨g, o + 5, none⟩ = some (.int .i64 y.x.x0) ∧ W.cell? ⟨g, o + 6, none⟩ = some (.int .i64 y.x.x1) ∧ W.cell? ⟨g, o + 7, none⟩ = some (.int .i64 y.x.x2) ∧ W.cell? ⟨g, o + 8, none⟩ = some (.int .i64 y.x.x3) ∧ W.cell? ⟨g, o + 9, none⟩ = some (.int .i64 y.x.x4) ∧ W.cell? ⟨g, o + 10, none⟩ = some (.int .i64 y.x.x5) ∧ W.cell? ⟨g, o + 11, none⟩ = some (.int .i64 y.x.x6) ∧ W.cell? ⟨g, o + 12, none⟩ = some (.int .i64 y.x.x7) ∧ W.cell? ⟨g, o + 13, none⟩ = some (.bool y.x.b) ∧
  W.cell? ⟨g, o + 14, none⟩ = some (.slice y.V y.vs.length y.vc)
theorem itIn_of {W : World} {g o : Nat} {y : Itm} (h : ∀ (j : Nat) (v : Value), y.cells[j]? = some v → W.cell? ⟨g, o + j, none⟩ = some v) : ItIn W g o y :=
  ⟨h 0 _ rfl, h 1 _ rfl, h 2 _ rfl, h 3 _ rfl, h 4 _ rfl, h 5 _ rfl, h 6 _ rfl, h 7 _ rfl, h 8 _ rfl, h 9 _ rfl, h 10 _ rfl, h 11 _ rfl, h 12 _ rfl, h 13 _ rfl, h 14 _ rfl⟩
theorem ItIn.below {W W' : World} {B g o : Nat} {y : Itm} (h : ItIn W g o y) (hb : Below B W W') (hg : g < B) : ItIn W' g o y := by
  unfold ItIn at h ⊢
  have e := fun o => hb.cell (p := ⟨g, o, none⟩) hg
  simp only [e]
  exact h
theorem itIn_new (W : World) (y : Itm) (t : TypeId) (b : Nat) (hb : b = W.heap.size) : ItIn (W.alloc (.cells y.cells t)) b 0 y := by
  subst hb
  have h : (W.alloc (.cells y.cells t)).heap[W.heap.size]? = some (.cells y.cells t (0, 0)) := heap_alloc_new W _
  refine itIn_of fun j v hv => ?_
  simp only [World.cell?, h, Nat.zero_add]
  exact hv

/-! ### What is asked -/

/-- Do items stand one behind the other, from a place on, to the end? -/
def disjB (n : Int) : Int → List Itm → Bool
  | p, [] => p == n
  | p, y :: r => if y.a = p ∧ 1 ≤ y.s ∧ y.s ≤ n - p then disjB n (p + y.s) r else false

theorem disjB_cons (n p : Int) (y : Itm) (r : List Itm) : disjB n p (y :: r) = if y.a = p ∧ 1 ≤ y.s ∧ y.s ≤ n - p then disjB n (p + y.s) r else false := rfl
/-- Where all is as it should be, the sizes make up the whole. -/
theorem disjB_sum {n : Int} : ∀ {l : List Itm} {p : Int}, disjB n p l = true → n = p + (l.map (·.s)).sum
  | [], p, h => by
    have := eq_of_beq h
    simp [this]
  | y :: r, p, h => by
    unfold disjB at h
    split at h
    · have := disjB_sum h
      simp only [List.map_cons, List.sum_cons]
      omega
    · cases h

/-- The place that an item leads to, and whether it does. -/
def leadsP (y : Itm) : Int × Bool :=
  if y.k = 1 then
    if y.x.x0 = 40 ∨ y.x.x0 = 41 then (wrap64 (bits BinOp.andNot IntKind.i64 (wrap64 (y.a + 4)) 3 + y.x.x5), true)
    else if y.x.x0 = 35 ∨ y.x.x0 = 36 ∨ y.x.x0 = 37 ∨ y.x.x0 = 38 then (wrap64 (wrap64 (y.a + 4) + y.x.x5), true)
    else (0, false)
  else (0, false)

/-- A halfword of two bytes. -/
def halfB (a b : UInt8) : Int := bits BinOp.or IntKind.i64 (IntKind.i64.wrap (a.toNat : Int)) (IntKind.i64.wrap (IntKind.i64.wrap (b.toNat : Int) * 256))
/-- Bytes as halfwords. -/
def unpB : List UInt8 → List Int
  | [] => []
  | [a] => [IntKind.i64.wrap (a.toNat : Int)]
  | a :: b :: r => halfB a b :: unpB r

/-- Is a place that of an item, or the end? -/
def standsB (n : Nat) (l : List Itm) (p : Int) : Bool := p == (n : Int) || l.any fun y => y.a == p

noncomputable def insB (n : Nat) (l : List Itm) (y : Itm) (s : List UInt8) (it : Int) : Bool :=
  if (decOf (unpB s) (itB it)).2.2 = 0 ∧ (decOf (unpB s) (itB it)).1 = y.x ∧ 2 * (decOf (unpB s) (itB it)).2.1 = y.s ∧ bits BinOp.and IntKind.i64 y.a 1 = 0 then
    if (leadsP y).2 = true then
      if y.x.x0 = 40 ∨ y.x.x0 = 41 then decide (0 ≤ (leadsP y).1 ∧ (leadsP y).1 ≤ (n : Int)) else standsB n l (leadsP y).1
    else true
  else false

/-- The first place of a number. -/
def indexI (l : List Int) (v : Int) : Int := match l.findIdx? (· == v) with | some i => i | none => -1

def wordB (s : List UInt8) : Int := bits BinOp.or IntKind.i64 ((unpB s).getD 0 0) (IntKind.i64.wrap ((unpB s).getD 1 0 * 65536))
def poolG (vs : List Int) (s : List UInt8) : Nat → List Int → Bool
  | _, [] => true
  | i, v :: r => if v = wordB ((s.drop (4 * i)).take 4) ∧ indexI vs v = i then poolG vs s (i + 1) r else false
def poolB (y : Itm) (s : List UInt8) : Bool :=
  if bits BinOp.and IntKind.i64 y.a 3 = 0 ∧ y.s = 4 * (y.vs.length : Int) then poolG y.vs s 0 y.vs else false

noncomputable def oneB (n : Nat) (l : List Itm) (y : Itm) (s : List UInt8) (it : Int) : Bool :=
  if y.k = 1 then insB n l y s it
  else if y.k = 4 then poolB y s
  else if y.k = 3 then s.all (· == 0)
  else true

/-- Is each item as it should be? -/
noncomputable def rangB (s : List UInt8) (l : List Itm) : Int → List Itm → Bool
  | _, [] => true
  | it, y :: r =>
    if 0 ≤ y.a ∧ y.a ≤ (s.length : Int) ∧ 0 ≤ y.s ∧ y.s ≤ (s.length : Int) - y.a then
      if oneB s.length l y ((s.drop y.a.toNat).take y.s.toNat) it = true then rangB s l (if y.k = 1 then aftI it y.x else it) r else false
    else false

end Go.Proofs.YtiicniiecomhjaaDoor
