/- For the seat: texts joined: MyH, MyI, LyD. -/
import Derived.Test.YtpdkpkabdkefcaaGreatDoorJAj
import Derived.Test.YtpdkpkabdkefcaaGreatDoorJAm
import Derived.Deep.OwnRows
set_option maxRecDepth 100000
namespace Go.Proofs.YtpdkpkabdkefcaaGreatDoor
open Go.Sx Go.ChangeShapes Go.WideShapes Go.RowKit Go.Joins Go.Deep Go.Rp
abbrev insC (y : Lw) : Array Value := #[.int .i64 y.op, .int .i64 y.ic, .int .i64 y.rd, .int .i64 y.rn, .int .i64 y.rm, .int .i64 y.im, .int .i64 y.md, .int .i64 y.ls, .bool y.s]
def startF (can : Lw → Bool → Bool) (y : Lw) (it : Bool) : Int :=
  if !((y.k == 1) || (y.k == 2)) then 0 else if (y.wd || (((y.k == 1) && (y.op == 36)) || (((y.k == 2) || ((y.k == 1) && ((y.op == 40) || (y.op == 41)))) && !lowB y.rd))) then 1 else if reachB y then 0 else if can y it then 0 else 1
def startL (can : Lw → Bool → Bool) : List Lw → List Bool → List Int
  | y :: r, b :: s => startF can y b :: startL can r s
  | _, _ => []
theorem laid_lw {w w' : World} (h : Laid w) (hb : Below w.heap.size w w') : Laid w' := by
  obtain ⟨t, fz, hw⟩ := h
  exact ⟨t, fz, by rw [hb.block 0 (Array.getElem?_eq_some_iff.1 hw).1]; exact hw⟩
theorem insideL_len (L : List Lw) : (insideL L).length = L.length := by
  unfold insideL
  rw [List.length_map, condsL_len]
end Go.Proofs.YtpdkpkabdkefcaaGreatDoor
namespace Go.Proofs.YtpdkpkabdkefcaaGreatDoor
open Go.Sx Go.ChangeShapes Go.WideShapes Go.RowKit Go.Joins Go.Deep Go.Rp
abbrev lwX (y : Lw) (o n : Int) (s : Bs) (A : Option Addr) (m c : Nat) : Array Value := lwC y (.int .i64 o) (.int .i64 n) (.string (tx s)) (.slice A m c)
theorem LsAt.line {w : World} {K : Nat → Prop} {A : Option Addr} {L : List Lw} (hA : LsAt w K A L) (hK : ∀ g, K g → g < w.heap.size) {i : Nat} (hi : i < L.length) :
    ∃ g off o n s A2 m c, A = some ⟨g, off, none⟩ ∧ g < w.heap.size ∧ okW L[i] ∧ ∀ w', Below w.heap.size w w' → w'.rangeAt g (off + i * 19) (lwX L[i] o n s A2 m c).toList ∧ ExAt w' K L[i].ex (.agg (exC o n s A2 m c)) := by
  obtain ⟨g, off, rfl, hg, hc⟩ := hA (by rintro rfl; simp at hi)
  obtain ⟨hok, e0, e1, e2, e3, h3, h4⟩ := hc i hi
  obtain ⟨o, n, s, A2, m, c, hC⟩ := h4.cells
  obtain ⟨rfl, rfl, rfl, rfl⟩ := agg4 hC
  exact ⟨g, off, o, n, s, A2, m, c, rfl, hK g hg, hok, fun w' hb => ⟨fun j v hv => (hb.cell (p := ⟨g, off + i * 19 + j, none⟩) (hK g hg)).trans (h3 j v (by simpa using hv)), h4.below hb hK⟩⟩
theorem line_copy (w : World) (y : Lw) (o n : Int) (s : Bs) (A2 : Option Addr) (m c : Nat) :
    ∃ V, Hid (V = (w.alloc (.cells lwZ 49)).setCells w.heap.size 0 (lwX y o n s A2 m c).toList) ∧ Below w.heap.size w V ∧ V.heap.size = w.heap.size + 1 ∧ V.heap[w.heap.size]? = some (.cells (lwX y o n s A2 m c) 49 (0, 0)) ∧
      (w.alloc (.cells lwZ 49)).there w.heap.size 0 19 := by
  have hn4 := heap_alloc_new w (.cells lwZ 49)
  refine ⟨_, Lib.hid rfl, below_setCells ((Below.refl _ _).alloc (Nat.le_refl _) _) (Nat.le_refl _) _, ?_, setCells_all hn4 (lwX y o n s A2 m c).toList rfl, there_of hn4⟩
  rw [(setCells_heap w.heap.size (lwX y o n s A2 m c).toList 0 _).2.1]
  simp
theorem line_cells {V : World} {b : Nat} {y : Lw} {o n : Int} {s : Bs} {A2 : Option Addr} {m c : Nat} (h : V.heap[b]? = some (.cells (lwX y o n s A2 m c) 49 (0, 0))) :
    V.cell? ⟨b, 0, none⟩ = some (.string (tx y.lab)) ∧ V.cell? ⟨b, 1, none⟩ = some (.int .i64 y.k) ∧ V.cell? ⟨b, 2, none⟩ = some (.int .i64 y.op) ∧ V.cell? ⟨b, 3, none⟩ = some (.int .i64 y.ic) ∧ V.cell? ⟨b, 4, none⟩ = some (.int .i64 y.rd) ∧ V.cell? ⟨b, 7, none⟩ = some (.int .i64 y.im) ∧
      V.cell? ⟨b, 11, none⟩ = some (.int .i64 y.c) ∧ V.cell? ⟨b, 12, none⟩ = some (.string (tx y.ref)) ∧ V.cell? ⟨b, 13, none⟩ = some (.bool y.wd) ∧ V.cell? ⟨b, 14, none⟩ = some (.int .i64 y.sz) := by
  simp [World.cell?, h]
theorem intRet_row {w : World} {b : Nat} {t : TypeId} {B : Nat} (R : List Int) {n : Nat} (hn : R.length = n) (h : w.rowIs b t n fun j => .int .i64 (R.getD j 0)) (hB : B ≤ b) : IntRet B R (.returned (.slice (some ⟨b, 0, none⟩) n n)) w := by
  subst hn
  refine ⟨_, R.length, rfl, .inr ⟨Nat.le_refl _, b, 0, rfl⟩, fun _ => ⟨b, 0, rfl, h.lt, fun i a ha => ?_⟩, fun q o e => by simp only [Option.some.injEq, Addr.mk.injEq, and_true] at e; omega⟩
  have hi : i < R.length := (List.getElem?_eq_some_iff.1 ha).1
  rw [Nat.zero_add, h.cell hi]
  rw [List.getD_eq_getElem?_getD, ha]; rfl
theorem encR_bool : ∀ R : List Bool, encR booE R = R.map Value.bool
  | [] => rfl
  | x :: r => by rw [encR_cons, encR_bool r]; rfl
theorem boolsRet_row {w : World} {b : Nat} {t : TypeId} {B : Nat} (R : List Bool) {n : Nat} (hn : R.length = n) (h : w.rowIs b t n fun j => .bool (R.getD j false)) (hB : B ≤ b) : BoolsRet B R (.returned (.slice (some ⟨b, 0, none⟩) n n)) w := by
  subst hn
  refine ⟨_, R.length, rfl, .inr ⟨Nat.le_refl _, b, 0, rfl⟩, fun _ => ⟨b, 0, rfl, h.lt, fun i v hv => ?_⟩, fun q o e => by simp only [Option.some.injEq, Addr.mk.injEq, and_true] at e; omega⟩
  rw [encR_bool, List.getElem?_map, Option.map_eq_some_iff] at hv
  obtain ⟨x, hx, rfl⟩ := hv
  have hi : i < R.length := (List.getElem?_eq_some_iff.1 hx).1
  rw [Nat.zero_add, h.cell hi, List.getD_eq_getElem?_getD, hx]; rfl
theorem row_put {w : World} {b : Nat} {t : TypeId} {n i : Nat} {R : List Int} {z : Int} (h : w.rowIs b t n fun j => .int .i64 (if j < i then R.getD j 0 else z)) {v : Int} (hv : R.getD i 0 = v) :
    (w.setCell ⟨b, i, none⟩ (.int .i64 v)).rowIs b t n fun j => .int .i64 (if j < i + 1 then R.getD j 0 else z) := by
  refine (h.set i _).congr fun j _ => ?_
  by_cases e : j = i
  · subst e
    rw [if_pos rfl, if_pos (by omega), hv]
  · rw [if_neg e]
    by_cases h1 : j < i
    · rw [if_pos h1, if_pos (by omega)]
    · rw [if_neg h1, if_neg (by omega)]
theorem row_putB {w : World} {b : Nat} {t : TypeId} {n i : Nat} {R : List Bool} {z : Bool} (h : w.rowIs b t n fun j => .bool (if j < i then R.getD j false else z)) {v : Bool} (hv : R.getD i false = v) :
    (w.setCell ⟨b, i, none⟩ (.bool v)).rowIs b t n fun j => .bool (if j < i + 1 then R.getD j false else z) := by
  refine (h.set i _).congr fun j _ => ?_
  by_cases e : j = i
  · subst e
    rw [if_pos rfl, if_pos (by omega), hv]
  · rw [if_neg e]
    by_cases h1 : j < i
    · rw [if_pos h1, if_pos (by omega)]
    · rw [if_neg h1, if_neg (by omega)]
theorem row_keep {w : World} {b : Nat} {t : TypeId} {n i : Nat} {R : List Int} {z v : Int} (h : w.rowIs b t n fun j => if j = i then .int .i64 v else .int .i64 (if j < i then R.getD j 0 else z)) (hv : R.getD i 0 = v) :
    w.rowIs b t n fun j => .int .i64 (if j < i + 1 then R.getD j 0 else z) := by
  refine h.congr fun j _ => ?_
  by_cases e : j = i
  · subst e
    rw [if_pos rfl, if_pos (by omega), hv]
  · rw [if_neg e]
    by_cases h1 : j < i
    · rw [if_pos h1, if_pos (by omega)]
    · rw [if_neg h1, if_neg (by omega)]
theorem row_again {w : World} {b : Nat} {t : TypeId} {n i : Nat} {R : List Int} {z v : Int} {x : Value} (h : w.rowIs b t n fun j => if j = i then x else .int .i64 (if j < i then R.getD j 0 else z)) (hv : R.getD i 0 = v) :
    (w.setCell ⟨b, i, none⟩ (.int .i64 v)).rowIs b t n fun j => .int .i64 (if j < i + 1 then R.getD j 0 else z) := by
  refine (h.set i _).congr fun j _ => ?_
  by_cases e : j = i
  · subst e
    rw [if_pos rfl, if_pos (by omega), hv]
  · rw [if_neg e, if_neg e]
    by_cases h1 : j < i
    · rw [if_pos h1, if_pos (by omega)]
    · rw [if_neg h1, if_neg (by omega)]
end Go.Proofs.YtpdkpkabdkefcaaGreatDoor
namespace Go.Proofs.YtpdkpkabdkefcaaGreatDoor
open Go.Rp
def leadI (a b : Int) : Int := if b < 1 then 0 else (-a.tmod b) % b
def poolSz (p : List Int) (a : Int) : Int := if (p.length : Int) = 0 then 0 else leadI a 4 + 4 * p.length
def lineSz (P : List (List Int)) (y : Lw) (f a : Int) (n : Nat) : Int :=
  if y.k = 1 ∨ y.k = 2 then 2 + 2 * min (max f 0) 2 else if y.k = 3 ∨ y.k = 7 then max y.sz 0 else if y.k = 4 then leadI a y.sz else if y.k = 5 then poolSz (P.getD n []) a else 0
def nextN (y : Lw) (n : Nat) : Nat := if y.k = 5 then n + 1 else n
def sizesF (P : List (List Int)) : List Lw → List Int → Int → Nat → List Int
  | [], _, a, n => [poolSz (P.getD n []) a]
  | y :: r, F, a, n => lineSz P y (F.headD 0) a n :: sizesF P r F.tail (a + lineSz P y (F.headD 0) a n) (nextN y n)
def addrF : List Lw → List Int → Int → List Int
  | [], _, a => [a]
  | _ :: r, S, a => a :: addrF r S.tail (a + max (S.headD 0) 0)
theorem sizesF_len (P : List (List Int)) : ∀ (L : List Lw) (F : List Int) (a : Int) (n : Nat), (sizesF P L F a n).length = L.length + 1
  | [], _, _, _ => rfl
  | y :: r, F, a, n => by rw [sizesF, List.length_cons, sizesF_len P r, List.length_cons]
theorem addrF_len : ∀ (L : List Lw) (S : List Int) (a : Int), (addrF L S a).length = L.length + 1
  | [], _, _ => rfl
  | _ :: r, S, a => by rw [addrF, List.length_cons, addrF_len r, List.length_cons]
def ofN : List Lw → Nat → Nat
  | [], _ => 0
  | _ :: _, 0 => 0
  | y :: r, i + 1 => (if y.k = 5 then 1 else 0) + ofN r i
def placeN : List Lw → Nat
  | [] => 0
  | y :: r => if y.k = 5 then 0 else placeN r + 1
def labN (name : Bs) : List Lw → Option Nat
  | [] => none
  | y :: r => if name ≠ [] ∧ y.lab = name then some 0 else (labN name r).map (· + 1)
def valN (v : Int) : List Int → Option Nat
  | [] => none
  | x :: r => if x = v then some 0 else (valN v r).map (· + 1)
def cbB (y : Lw) : Bool := (y.k == 1) && ((y.op == 37) || (y.op == 38))
def ownB (y : Lw) (inn : Bool) : Bool := (y.k == 1) && ((y.op == 35) && ((y.ic != 14) && !inn))
def fitK (k o : Int) : Bool :=
  decide (o % 2 = 0) && (if k = 1 then decide (-256 ≤ o ∧ o ≤ 254) else if k = 2 then decide (-2048 ≤ o ∧ o ≤ 2046) else if k = 3 then decide (-1048576 ≤ o ∧ o ≤ 1048574) else if k = 4 then decide (-16777216 ≤ o ∧ o ≤ 16777214) else decide (0 ≤ o ∧ o ≤ 126))
def fitY (y : Lw) (inn : Bool) (f o : Int) : Bool :=
  if placeB y = true ∧ f = 0 then decide (0 ≤ o ∧ o ≤ 1020 ∧ o % 4 = 0)
  else if placeB y = true then decide (-4095 ≤ o ∧ o ≤ 4095)
  else if y.op = 36 ∨ f = 2 then fitK 4 o
  else if y.op ≠ 35 then fitK 5 o
  else fitK ((if ownB y inn then 1 else 2) + (if f = 1 then 2 else 0)) o
def nextY (y : Lw) (inn : Bool) (f : Int) : Int := if (f = 0 ∧ cbB y = true) ∨ (f = 1 ∧ ownB y inn = true) then 2 else if f = 0 then 1 else f
def offY (L : List Lw) (P : List (List Int)) (V : List Int) (A : List Int) (i : Nat) (y : Lw) (f : Int) : Option Int :=
  let pc := A.getD i 0 + 4
  if y.k = 2 then (match V[i]? with
    | none => none
    | some v => match valN v (P.getD (ofN L i) []) with
      | none => none
      | some k => let p := A.getD (i + placeN (L.drop i)) 0; some (p + leadI p 4 + 4 * (k : Int) - pc / 4 * 4))
  else match labN y.ref L with
    | none => none
    | some t => some (if placeB y then A.getD t 0 - pc / 4 * 4 else if f = 2 then A.getD t 0 - (pc + 2) else A.getD t 0 - pc)
def growY (L : List Lw) (I : List Bool) (P : List (List Int)) (V : List Int) (A : List Int) (i : Nat) (y : Lw) (f : Int) : Int :=
  if reachB y then (match offY L P V A i y f with | none => f | some o => if fitY y (I.getD i false) f o then f else nextY y (I.getD i false) f) else f
def addrL (L : List Lw) (F : List Int) (P : List (List Int)) : List Int := addrF L (sizesF P L F 0 0) 0
def growL (L : List Lw) (I : List Bool) (P : List (List Int)) (V F : List Int) : List Int := (List.range L.length).map fun i => growY L I P V (addrL L F P) i (L.getD i lw0) (F.getD i 0)
theorem growL_len (L : List Lw) (I : List Bool) (P : List (List Int)) (V F : List Int) : (growL L I P V F).length = L.length := by simp [growL]
theorem growL_get (L : List Lw) (I : List Bool) (P : List (List Int)) (V F : List Int) {i : Nat} (hi : i < L.length) : (growL L I P V F).getD i 0 = growY L I P V (addrL L F P) i L[i] (F.getD i 0) := by
  rw [growL, List.getD_eq_getElem?_getD, List.getElem?_map, List.getElem?_range hi]
  simp [hi]
def solveF (L : List Lw) (I : List Bool) (P : List (List Int)) (V : List Int) : Nat → List Int → List Int × Nat
  | 0, F => (F, 0)
  | k + 1, F => if growL L I P V F = F then (F, 1) else ((solveF L I P V k (growL L I P V F)).1, (solveF L I P V k (growL L I P V F)).2 + 1)
end Go.Proofs.YtpdkpkabdkefcaaGreatDoor
