/- For the seat: texts joined: RowG, Stay, NmD, WdD, RsD, RlD, RlE, RlF, RlG, RqD, RqE, RqJ. -/
import Derived.Test.YtpdkpkabdkefcaaGreatDoorJAa
import Derived.Deep.MidRow
import Derived.RowKit
set_option maxRecDepth 100000
namespace Go.Proofs.YtpdkpkabdkefcaaGreatDoor
open Go.Sx Go.ChangeShapes Go.WideShapes Go.RowKit Go.Joins Go.Deep
structure Ele (α : Type) where
  cells : α → Array Value
  z : Nat
  len : ∀ x, (cells x).size = z
  one : ∀ x, ∀ u ∈ (cells x).toList, u.oneCell' = true
  pos : 0 < z
section
variable {α : Type} (E : Ele α)
def encR (l : List α) : List Value := l.flatMap fun y => (E.cells y).toList
theorem encR_cons (y : α) (r : List α) : encR E (y :: r) = (E.cells y).toList ++ encR E r := by simp [encR]
theorem encR_app (l m : List α) : encR E (l ++ m) = encR E l ++ encR E m := by simp [encR]
theorem encR_len : ∀ l : List α, (encR E l).length = l.length * E.z
  | [] => by simp [encR]
  | y :: r => by rw [encR_cons, List.length_append, encR_len r, List.length_cons, Array.length_toList, E.len, Nat.succ_mul, Nat.add_comm]
theorem encR_one {l : List α} {u : Value} (h : u ∈ encR E l) : u.oneCell' = true := by
  simp only [encR, List.mem_flatMap] at h
  obtain ⟨y, _, hu⟩ := h
  exact E.one y u hu
theorem encR_get : ∀ (l : List α) (k j : Nat) (hk : k < l.length), j < E.z → (encR E l)[k * E.z + j]? = (E.cells l[k])[j]?
  | [], k, j, hk, _ => by simp at hk
  | y :: r, 0, j, _, hj => by
    rw [encR_cons, List.getElem?_append_left (by rw [Array.length_toList, E.len]; omega), Nat.zero_mul, Nat.zero_add]
    simp
  | y :: r, k + 1, j, hk, hj => by
    have e : (k + 1) * E.z = k * E.z + E.z := Nat.succ_mul _ _
    rw [encR_cons, List.getElem?_append_right (by rw [Array.length_toList, E.len]; omega), Array.length_toList, E.len, show (k + 1) * E.z + j - E.z = k * E.z + j by omega,
      encR_get r k j (by simp at hk; omega) hj]
    rfl
def RAt (w : World) (B : Nat) (A : Option Addr) (l : List α) : Prop :=
  l ≠ [] → ∃ g off, A = some ⟨g, off, none⟩ ∧ g < B ∧ ∀ (i : Nat) (v : Value), (encR E l)[i]? = some v → w.cell? ⟨g, off + i, none⟩ = some v
variable {E}
theorem RAt.nil (w : World) (B : Nat) (A : Option Addr) : RAt E w B A [] := fun h => absurd rfl h
theorem RAt.keep {w w' : World} {B : Nat} {A : Option Addr} {l : List α} (h : RAt E w B A l) (hk : ∀ p : Addr, p.block < B → ∀ v, w.cell? p = some v → w'.cell? p = some v) : RAt E w' B A l := by
  intro hn
  obtain ⟨g, off, e, hb, hc⟩ := h hn
  exact ⟨g, off, e, hb, fun i p hp => hk _ hb _ (hc i p hp)⟩
theorem RAt.below {w w' : World} {B B' : Nat} {A : Option Addr} {l : List α} (h : RAt E w B A l) (hb : Below B' w w') (hB : B ≤ B') : RAt E w' B A l := h.keep fun _ hp _ e => (hb.cell (by omega)).trans e
theorem RAt.more {w : World} {B B' : Nat} {A : Option Addr} {l : List α} (h : RAt E w B A l) (hB : B ≤ B') : RAt E w B' A l := by
  intro hn
  obtain ⟨g, off, e, hb, hc⟩ := h hn
  exact ⟨g, off, e, by omega, hc⟩
theorem RAt.at_ {w : World} {B : Nat} {A : Option Addr} {l : List α} (h : RAt E w B A l) {k : Nat} (hk : k < l.length) : ∃ g off, A = some ⟨g, off, none⟩ ∧ g < B ∧ ∀ (j : Nat) (v : Value), (E.cells l[k])[j]? = some v → w.cell? ⟨g, off + k * E.z + j, none⟩ = some v := by
  obtain ⟨g, off, e, hb, hc⟩ := h (by intro e; subst e; simp at hk)
  refine ⟨g, off, e, hb, fun j u hu => ?_⟩
  have hj : j < E.z := by
    have := (Array.getElem?_eq_some_iff.1 hu).1
    rwa [E.len] at this
  rw [Nat.add_assoc]
  exact hc (k * E.z + j) u ((encR_get E l k j hk hj).trans hu)
def RSl (A : Option Addr) (n cap : Nat) : Prop := (A = none ∧ n = 0 ∧ cap = 0) ∨ (n ≤ cap ∧ ∃ g off, A = some ⟨g, off, none⟩)
theorem addR (g off i : Nat) : (⟨g, off, none⟩ : Addr).add i = ⟨g, off + i, none⟩ := Addr.add_mid ..
theorem app_row (w0 : World) (t ts : TypeId) {i0 : TypeInfo} {zv : Value} (hu : Tryz.prog.underlying ts = some (.slice t)) (hi0 : Tryz.prog.info? t = some i0) (hz0 : i0.zero = some zv) (hz1 : i0.size = E.z) (hz2 : i0.bytes ≤ 256) (hz3 : zv.cells.size = E.z)
    {ops : Array Oper} {rest : List Oper} {o : Oper} {a : Act} {Q : Exit → Act → World → Prop} (hgd : o.guard = none) (s x : Operand)
    (ho : o.op = .call { callee := .builtin .append, args := #[s, x], argTypes := #[ts, ts] }) (base : Nat) (hbase : base ≤ w0.heap.size) (l : List α) (y : α) (hlen : l.length ≤ 1000000)
    (v : Value) (hs : a.eval s = v) (hown : w0.ownsRow base t E.z v l.length (encR E l)) (g : Nat) (hx : a.eval x = .slice (some ⟨g, 0, none⟩) 1 1) (hg : g = w0.heap.size)
    (h : ∀ v' w', w'.ownsRow base t E.z v' (l ++ [y]).length (encR E (l ++ [y])) → Below base w0 w' → wpList Tryz.prog ops Q rest (a.put o.dst v') w') :
    wpList Tryz.prog ops Q (o :: rest) a (w0.alloc (.cells (E.cells y) t)) := by
  subst hg
  have he : encR E [y] = (E.cells y).toList := by rw [encR_cons]; exact List.append_nil _
  refine wpList_append_own _ hgd s x ts ho base t i0 _ E.z i0.bytes hu hi0 hz0 hz1 rfl hz3 E.pos v l.length (encR E l) hs (hown.alloc _) ⟨w0.heap.size, 0, none⟩ 1 1 (encR E [y]) hx (encR_len E [y]) ?_
    (fun u hu => encR_one E hu) (by unfold maxLen; omega) (Nat.le_trans (Nat.mul_le_mul (show l.length + 1 ≤ 1000001 by omega) hz2) (by decide)) (by simp; omega) ?_
  · rw [he]
    exact World.news_of_block (cs := E.cells y) (t := t) (fr := (0, 0)) (heap_alloc_new w0 _)
  intro v' w' hown' hgrow _
  refine h v' w' (by rw [encR_app, List.length_append]; exact hown') ?_
  exact ((Below.refl base w0).alloc hbase _).grown hgrow (by simp; omega) (fun j hj => (hown.lt _ hj).1)
theorem own_row {w : World} {base : Nat} {t : TypeId} {v : Value} {l : List α} (h : w.ownsRow base t E.z v l.length (encR E l)) : ∃ A cap, v = .slice A l.length cap ∧ RSl A l.length cap ∧ RAt E w w.heap.size A l := by
  rcases h.2 with ⟨hv, h0⟩ | ⟨g, cap, cur, rfl, hb, hh, hcap, _, hs, ht⟩
  · obtain rfl := List.eq_nil_of_length_eq_zero h0
    exact ⟨none, 0, hv, .inl ⟨rfl, rfl, rfl⟩, RAt.nil _ _ _⟩
  · refine ⟨_, _, rfl, .inr ⟨hcap, g, 0, rfl⟩, fun _ => ⟨g, 0, rfl, (Array.getElem?_eq_some_iff.1 hh).1, fun i u hi => ?_⟩⟩
    have k1 := h.cells (g := g) rfl i u hi
    rw [addR] at k1
    exact k1
theorem own_row2 {w : World} {base : Nat} {t : TypeId} {v : Value} {l : List α} (h : w.ownsRow base t E.z v l.length (encR E l)) : ∃ A cap, v = .slice A l.length cap ∧ RSl A l.length cap ∧ RAt E w w.heap.size A l ∧ ∀ q o, A = some ⟨q, o, none⟩ → base ≤ q := by
  have h' := h
  rcases h.2 with ⟨hv, h0⟩ | ⟨g, cap, cur, rfl, hb, hh, hcap, _, hs, ht⟩
  · obtain rfl := List.eq_nil_of_length_eq_zero h0
    exact ⟨none, 0, hv, .inl ⟨rfl, rfl, rfl⟩, RAt.nil _ _ _, fun _ _ e => by cases e⟩
  · obtain ⟨A, c, e, h1, h2⟩ := own_row h'
    simp only [Value.slice.injEq] at e
    obtain ⟨e1, _, rfl⟩ := e
    subst e1
    exact ⟨_, _, rfl, h1, h2, fun q o e => by simp only [Option.some.injEq, Addr.mk.injEq, and_true] at e; omega⟩
end
end Go.Proofs.YtpdkpkabdkefcaaGreatDoor
namespace Go.Proofs.YtpdkpkabdkefcaaGreatDoor
open Go.Sx Go.ChangeShapes Go.WideShapes Go.RowKit Go.Joins Go.Deep
structure Stay (d : Nat) (w w' : World) : Prop where
  os : w'.os = w.os
  tape : w'.tape = w.tape
  output : w'.output = w.output
  size : w.heap.size ≤ w'.heap.size
  block : ∀ k, k < w.heap.size → k ≠ d → w'.heap[k]? = w.heap[k]?
theorem Stay.refl (d : Nat) (w : World) : Stay d w w := ⟨rfl, rfl, rfl, Nat.le_refl _, fun _ _ _ => rfl⟩
theorem Stay.trans {d : Nat} {a b c : World} (h : Stay d a b) (k : Stay d b c) : Stay d a c :=
  ⟨k.os.trans h.os, k.tape.trans h.tape, k.output.trans h.output, Nat.le_trans h.size k.size, fun i hi hn => (k.block i (Nat.lt_of_lt_of_le hi h.size) hn).trans (h.block i hi hn)⟩
theorem Stay.of_below {d : Nat} {w w' : World} (h : Below w.heap.size w w') : Stay d w w' := ⟨h.os, h.tape, h.output, h.size, fun k hk _ => h.block k hk⟩
theorem Stay.below {d : Nat} {w w' : World} (h : Stay d w w') {B : Nat} (hB : B ≤ w.heap.size) (hd : B ≤ d) : Below B w w' := ⟨h.os, h.tape, h.output, h.size, fun k hk => h.block k (by omega) (by omega)⟩
theorem Stay.cell {d : Nat} {w w' : World} (h : Stay d w w') {p : Addr} (hp : p.block < w.heap.size) (hn : p.block ≠ d) : w'.cell? p = w.cell? p := World.cell?_of_block (h.block p.block hp hn)
theorem Stay.setCell {w : World} {p : Addr} (u : Value) : Stay p.block w (w.setCell p u) := ⟨rfl, rfl, rfl, by simp [World.setCell], fun k _ hn => Below.heap_setCell _ _ _ _ hn⟩
theorem Stay.set {d : Nat} (w : World) (o : Nat) (u : Value) : Stay d w (w.setCell ⟨d, o, none⟩ u) := Stay.setCell (p := ⟨d, o, none⟩) u
end Go.Proofs.YtpdkpkabdkefcaaGreatDoor
namespace Go.Rp
def regN : List Bs := [[114, 48], [114, 49], [114, 50], [114, 51], [114, 52], [114, 53], [114, 54], [114, 55], [114, 56], [114, 57], [114, 49, 48], [114, 49, 49], [114, 49, 50], [115, 112], [108, 114], [112, 99], [114, 49, 51], [114, 49, 52], [114, 49, 53]]
def condN : List Bs := [[101, 113], [110, 101], [99, 115], [99, 99], [109, 105], [112, 108], [118, 115], [118, 99], [104, 105], [108, 115], [103, 101], [108, 116], [103, 116], [108, 101]]
def opN : List Bs := [[], [97, 110, 100], [101, 111, 114], [111, 114, 114], [98, 105, 99], [97, 100, 100], [97, 100, 99], [115, 117, 98], [115, 98, 99], [114, 115, 98], [109, 111, 118], [109, 118, 110], [99, 109, 112], [99, 109, 110], [116, 115, 116], [116, 101, 113], [108, 115, 108], [108, 115, 114], [97, 115, 114], [114, 111, 114], [109, 117, 108], [117, 100, 105, 118], [115, 100, 105, 118], [109, 111, 118, 119], [109, 111, 118, 116], [108, 100, 114], [108, 100, 114, 98], [108, 100, 114, 104], [115, 116, 114], [115, 116, 114, 98], [115, 116, 114, 104], [108, 100, 109], [115, 116, 109], [112, 117, 115, 104], [112, 111, 112], [98], [98, 108], [99, 98, 122], [99, 98, 110, 122], [98, 120], [108, 100, 114], [97, 100, 114], [105, 116], [110, 111, 112], [98, 107, 112, 116], [116, 98, 98]]
def findF : List Bs → Nat → Bs → Option Nat
  | [], _, _ => none
  | x :: r, k, s => if x == s then some k else findF r (k + 1) s
theorem findF_at {l : List Bs} {i : Nat} (h : i < l.length) (s : Bs) : findF (l.drop i) i s = if l[i] == s then some i else findF (l.drop (i + 1)) (i + 1) s := by
  rw [List.drop_eq_getElem_cons h, findF]
def regFind (s : Bs) : Int := match findF regN 0 s with | some i => if 15 < i then i - 3 else i | none => -1
def regName (r : Int) : Bs := if r < 0 ∨ 15 < r then [] else regN.getD r.toNat []
def condFind (s : Bs) : Int := if s == [104, 115] then 2 else if s == [108, 111] then 3 else if s == [] then 14 else if s == [97, 108] then 14 else match findF condN 0 s with | some i => i | none => -1
def condName (c : Int) : Bs := if c < 0 ∨ 13 < c then [] else condN.getD c.toNat []
def opName (o : Int) : Bs := if o < 1 ∨ 45 < o then [] else opN.getD o.toNat []
def opSets (o : Int) : Bool := (decide (1 ≤ o) && decide (o ≤ 11)) || (decide (16 ≤ o) && decide (o ≤ 19))
end Go.Rp
namespace Go.Rp
def condP (op : Int) (s : Bs) : Int × Bool := if !s.isEmpty && (op == 37 || op == 38) then (0, false) else (condFind s, decide (0 ≤ condFind s))
def wordAt (base : Bs) (wide : Bool) (op : Nat) : Option (Bool × Int) :=
  if op = 42 ∨ base.length < (opName op).length ∨ base.take (opName op).length ≠ opName op then none
  else if wide = true ∧ (op = 37 ∨ op = 38 ∨ op = 39 ∨ op = 44) then none
  else if (condP op (base.drop (opName op).length)).2 then some (false, (condP op (base.drop (opName op).length)).1)
  else if opSets op = true ∧ (base.drop (opName op).length).head? = some 115 then
    (if (condP op (base.drop (opName op).length).tail).2 then some (true, (condP op (base.drop (opName op).length).tail).1) else none)
  else none
def wordF (base : Bs) (wide : Bool) : Nat → Nat → Option (Nat × Bool × Int)
  | 0, _ => none
  | f + 1, op => match wordAt base wide op with | some p => some (op, p) | none => wordF base wide f (op + 1)
def wideW (w : Bs) : Bool := decide (2 < w.length) && (w.drop (w.length - 2) == [46, 119])
def baseW (w : Bs) : Bs := if wideW w then w.take (w.length - 2) else w
def wordP (w : Bs) : Int × Bool × Int × Bool × Bool := match wordF (baseW w) (wideW w) 45 1 with | some p => ((p.1 : Int), p.2.1, p.2.2, wideW w, true) | none => (0, false, 0, false, false)
def blockF : Bs → Option (List Bool)
  | [] => some []
  | b :: r => if b == 116 || b == 101 then (blockF r).map ((b == 116) :: ·) else none
def blockP (w : Bs) : Option (List Bool) := if w.length < 2 ∨ 5 < w.length ∨ w.take 2 ≠ [105, 116] then none else blockF (w.drop 2)
end Go.Rp
namespace Go.Rp
structure Rs where
  i : Nat
  e : Int
section
variable (T : List Tok) (σ : Rs)
def badS (e : Int) : Rs := if σ.e = 0 then ⟨σ.i, e⟩ else σ
def takeB (s : Bs) : Bool := (σ.e == 0) && isS (tokA T σ.i) s
def takeT (s : Bs) : Rs := if takeB T σ s then ⟨σ.i + 1, σ.e⟩ else σ
def mustT (s : Bs) : Rs := if takeB T σ s then ⟨σ.i + 1, σ.e⟩ else badS σ 3
def regR : Int := if (tokA T σ.i).k = 1 then regFind (tokA T σ.i).t else -1
def regV : Int := if regR T σ < 0 then 0 else regR T σ
def regT : Rs := if regR T σ < 0 then badS σ 3 else ⟨σ.i + 1, σ.e⟩
def nameB : Bool := ((tokA T σ.i).k == 1) && isNm (tokA T σ.i).t
def nameV : Bs := if nameB T σ then (tokA T σ.i).t else []
def nameT : Rs := if nameB T σ then ⟨σ.i + 1, σ.e⟩ else badS σ 3
def termV : Et := if σ.e = 0 then (readX T σ.i).1 else ex0
def termT : Rs := if σ.e = 0 then (if (readX T σ.i).2.2 = 0 then ⟨(readX T σ.i).2.1, σ.e⟩ else ⟨σ.i, (readX T σ.i).2.2⟩) else σ
end
def Rs.In (T : List Tok) (σ : Rs) : Prop := σ.i ≤ T.length
theorem badS_in {T : List Tok} {σ : Rs} (h : σ.In T) (e : Int) : (badS σ e).In T := by
  unfold badS
  split <;> exact h
theorem takeB_lt {T : List Tok} {σ : Rs} {s : Bs} (h : takeB T σ s = true) : σ.i < T.length := by
  unfold takeB at h
  rw [Bool.and_eq_true] at h
  exact isS_lt h.2
theorem takeT_in {T : List Tok} {σ : Rs} (h : σ.In T) (s : Bs) : (takeT T σ s).In T := by
  unfold takeT
  split
  · rename_i hb; exact takeB_lt hb
  · exact h
theorem mustT_in {T : List Tok} {σ : Rs} (h : σ.In T) (s : Bs) : (mustT T σ s).In T := by
  unfold mustT
  split
  · rename_i hb; exact takeB_lt hb
  · exact badS_in h 3
theorem regR_lt {T : List Tok} {σ : Rs} (h : ¬ regR T σ < 0) : σ.i < T.length := by
  unfold regR at h
  split at h
  · rename_i hk; exact tokA_lt (by omega)
  · omega
theorem regT_in {T : List Tok} {σ : Rs} (h : σ.In T) : (regT T σ).In T := by
  unfold regT
  split
  · exact badS_in h 3
  · rename_i hk; exact regR_lt hk
theorem nameB_lt {T : List Tok} {σ : Rs} (h : nameB T σ = true) : σ.i < T.length := by
  unfold nameB at h
  simp only [Bool.and_eq_true, beq_iff_eq] at h
  exact tokA_lt (by omega)
theorem nameT_in {T : List Tok} {σ : Rs} (h : σ.In T) : (nameT T σ).In T := by
  unfold nameT
  split
  · rename_i hk; exact nameB_lt hk
  · exact badS_in h 3
theorem readX_le (T : List Tok) (i : Nat) : (readX T i).2.1 ≤ T.length := by
  unfold readX
  split
  · exact Nat.zero_le _
  · rename_i p hp
    split
    · exact Nat.zero_le _
    · exact ((term_gt T (fuelT T)).1 1 i p.1 p.2 hp).2
theorem termT_in {T : List Tok} {σ : Rs} (h : σ.In T) : (termT T σ).In T := by
  unfold termT
  split
  · split
    · exact readX_le T σ.i
    · exact h
  · exact h
end Go.Rp
namespace Go.Rp
structure Lw where
  lab : Bs
  k : Int
  op : Int
  ic : Int
  rd : Int
  rn : Int
  rm : Int
  im : Int
  md : Int
  ls : Int
  s : Bool
  c : Int
  ref : Bs
  wd : Bool
  sz : Int
  ex : Et
section
variable (T : List Tok) (σ : Rs) (y : Lw)
def reachT : Rs := nameT T σ
def reachL : Lw := { y with md := 1, ref := nameV T σ }
def lastT : Rs := if takeB T σ [35] then termT T (takeT T σ [35]) else regT T (takeT T σ [35])
def lastL : Lw := if takeB T σ [35] then { y with md := 1, ex := termV T (takeT T σ [35]) } else { y with md := 2, rm := regV T (takeT T σ [35]) }
end
end Go.Rp
namespace Go.Rp
abbrev Fs := Rs × Lw
section
variable (T : List Tok)
def stMust (s : Bs) (p : Fs) : Fs := (mustT T p.1 s, p.2)
def stTake (s : Bs) (p : Fs) : Fs := (takeT T p.1 s, p.2)
def stRd (p : Fs) : Fs := (regT T p.1, { p.2 with rd := regV T p.1 })
def stRn (p : Fs) : Fs := (regT T p.1, { p.2 with rn := regV T p.1 })
def stRm (p : Fs) : Fs := (regT T p.1, { p.2 with rm := regV T p.1 })
def stMd (k : Int) (p : Fs) : Fs := (p.1, { p.2 with md := k })
def stEx (x : Et) (p : Fs) : Fs := (p.1, { p.2 with ex := x })
def stTerm (p : Fs) : Fs := (termT T p.1, { p.2 with ex := termV T p.1 })
def stReach (p : Fs) : Fs := (reachT T p.1, reachL T p.1 p.2)
def stLast (p : Fs) : Fs := (lastT T p.1, lastL T p.1 p.2)
def stAcc (p : Fs) : Fs :=
  let q := stEx (.mk 1 0 [] []) (stMd 1 (stRn T (stMust T [91] p)))
  stMust T [93] (if takeB T q.1 [44] then stLast T (stEx ex0 (stTake T [44] q)) else stTake T [44] q)
def stKind (k : Int) (p : Fs) : Fs := (p.1, { p.2 with k := k })
def stIns (o : Int) (p : Fs) : Fs := (p.1, { p.2 with op := o, ic := 0, rn := 0, rm := 0, im := 0, md := 0, ls := 0, s := false })
def stLoads1 (q : Fs) : Fs :=
  if q.2.op ≠ 25 then stAcc T q else if isS (tokA T q.1.i) [91] = true then stAcc T q
  else if takeB T q.1 [61] = true then stTerm T (stIns 40 (stKind 2 (stTake T [61] q)))
  else stReach T (stIns 40 (stTake T [61] q))
def stLoads (p : Fs) : Fs := stLoads1 T (stMust T [44] (stRd T p))
def stA (p : Fs) : Fs := stLast T (stMust T [44] (stRn T (stMust T [44] (stRd T p))))
def stB (p : Fs) : Fs := stLast T (stMust T [44] (stRd T p))
def stC (p : Fs) : Fs := stLast T (stMust T [44] (stRn T p))
def stD (p : Fs) : Fs := stRm T (stMd 2 (stMust T [44] (stRn T (stMust T [44] (stRd T p)))))
def stE (p : Fs) : Fs := stTerm T (stMust T [35] (stMd 1 (stMust T [44] (stRd T p))))
def stG (p : Fs) : Fs := stReach T (stMust T [44] (stRn T p))
def stH (p : Fs) : Fs := stRm T (stMd 2 p)
def stI (p : Fs) : Fs := stReach T (stMust T [44] (stRd T p))
def stJ (p : Fs) : Fs := stTerm T (stMust T [35] (stMd 1 p))
def stK (p : Fs) : Fs := stMust T [93] (stRm T (stMd 2 (stMust T [44] (stRn T (stMust T [91] p)))))
end
end Go.Rp
namespace Go.Rp
def orBits : Nat → Int → Int → Int
  | 0, _, L => L
  | n + 1, k, L => orBits n (k + 1) (Go.bits Go.BinOp.or Go.IntKind.i64 L (Go.RowKit.wrap64 (2 ^ k.toNat)))
section
variable (T : List Tok)
def lsEnd (σ : Rs) : Rs × Int :=
  if takeB T (regT T σ) [45] then
    ((if regV T (takeT T (regT T σ) [45]) ≤ regV T σ then badS (regT T (takeT T (regT T σ) [45])) 3 else regT T (takeT T (regT T σ) [45])), regV T (takeT T (regT T σ) [45]))
  else (takeT T (regT T σ) [45], regV T σ)
def lsWas (σ : Rs) (was : Int) : Rs := if regV T σ ≤ was then badS (lsEnd T σ).1 3 else (lsEnd T σ).1
def lsBits (σ : Rs) (L : Int) : Int := orBits ((lsEnd T σ).2 + 1 - regV T σ).toNat (regV T σ) L
def listF : Nat → Bool → Rs → Int → Int → Rs × Int
  | 0, _, σ, _, L => (σ, L)
  | n + 1, m, σ, was, L => if m = true ∧ σ.e = 0 then listF n (takeB T (lsWas T σ was) [44]) (takeT T (lsWas T σ was) [44]) (lsEnd T σ).2 (lsBits T σ L) else (σ, L)
def listX (σ : Rs) : Rs × Int := listF T (T.length + 1) true (mustT T σ [123]) (-1) 0
def listT (σ : Rs) : Rs := mustT T (listX T σ).1 [125]
def listV (σ : Rs) : Int := (listX T σ).2
def stL (p : Fs) : Fs := let q := stMust T [44] (stMust T [33] (stRn T p)); (listT T q.1, { q.2 with ls := listV T q.1 })
def stM (p : Fs) : Fs := (listT T p.1, { p.2 with ls := listV T p.1 })
end
theorem badS_i (σ : Rs) (e : Int) : (badS σ e).i = σ.i := by unfold badS; split <;> rfl
theorem takeT_i (T : List Tok) (σ : Rs) (s : Bs) : σ.i ≤ (takeT T σ s).i := by unfold takeT; split <;> simp
theorem takeT_i1 {T : List Tok} {σ : Rs} {s : Bs} (h : takeB T σ s = true) : (takeT T σ s).i = σ.i + 1 := by unfold takeT; rw [if_pos h]
theorem regT_i (T : List Tok) (σ : Rs) : σ.i ≤ (regT T σ).i := by unfold regT; split <;> simp [badS_i]
theorem regFind_bd (s : Bs) : regFind s ≤ 15 := by
  have hb : ∀ (l : List Bs) (k : Nat) (i : Nat), findF l k s = some i → i < k + l.length := by
    intro l
    induction l with
    | nil => intro k i h; simp [findF] at h
    | cons a r ih =>
      intro k i h
      unfold findF at h
      split at h
      · injection h with h; simp; omega
      · have := ih _ _ h; simp at this ⊢; omega
  unfold regFind
  split
  · rename_i i hi
    have := hb _ _ _ hi
    have hl : regN.length = 19 := rfl
    split <;> omega
  · omega
theorem regV_bd (T : List Tok) (σ : Rs) : 0 ≤ regV T σ ∧ regV T σ ≤ 15 := by
  unfold regV
  have h : regR T σ ≤ 15 := by
    unfold regR
    split
    · exact regFind_bd _
    · omega
  split <;> omega
theorem lsEnd_in {T : List Tok} {σ : Rs} (h : σ.In T) : (lsEnd T σ).1.In T := by
  unfold lsEnd
  split
  · dsimp only
    split
    · exact badS_in (regT_in (takeT_in (regT_in h) _)) _
    · exact regT_in (takeT_in (regT_in h) _)
  · exact takeT_in (regT_in h) _
theorem lsWas_in {T : List Tok} {σ : Rs} (h : σ.In T) (was : Int) : (lsWas T σ was).In T := by
  unfold lsWas
  split
  · exact badS_in (lsEnd_in h) _
  · exact lsEnd_in h
theorem lsEnd_i (T : List Tok) (σ : Rs) : σ.i ≤ (lsEnd T σ).1.i := by
  have h1 := regT_i T σ
  have h2 := takeT_i T (regT T σ) [45]
  have h3 := regT_i T (takeT T (regT T σ) [45])
  unfold lsEnd
  split
  · dsimp only
    split
    · rw [badS_i]; omega
    · omega
  · dsimp only; omega
theorem lsWas_i (T : List Tok) (σ : Rs) (was : Int) : σ.i ≤ (lsWas T σ was).i := by
  have h := lsEnd_i T σ
  unfold lsWas
  split
  · rw [badS_i]; exact h
  · exact h
end Go.Rp
namespace Go.Rp
section
variable (T : List Tok)
def stOthers (p : Fs) : Fs :=
  if p.2.op = 31 ∨ p.2.op = 32 then stL T p else if p.2.op = 33 ∨ p.2.op = 34 then stM T p else if p.2.op = 35 ∨ p.2.op = 36 then stReach T p
  else if p.2.op = 37 ∨ p.2.op = 38 then stG T p else if p.2.op = 39 then stH T p else if p.2.op = 41 then stI T p else if p.2.op = 44 then stJ T p else if p.2.op = 45 then stK T p else p
def stOps (p : Fs) : Fs :=
  if p.2.op ≤ 9 ∨ (16 ≤ p.2.op ∧ p.2.op ≤ 19) then stA T p else if p.2.op ≤ 11 then stB T p else if p.2.op ≤ 15 then stC T p else if p.2.op ≤ 22 then stD T p
  else if p.2.op ≤ 24 then stE T p else if p.2.op ≤ 30 then stLoads T p else stOthers T p
end
end Go.Rp
namespace Go.Rp
def maskF (c : Int) : List Bool → Int → Int → Int
  | [], m, a => m + a
  | x :: r, m, a => if x = false ∧ c = 14 then 0 else maskF c r (m + (if x then c % 2 else 1 - c % 2) * a) (a / 2)
def maskP (c : Int) (l : List Bool) : Int := if c < 0 ∨ 14 < c ∨ 3 < l.length then 0 else maskF c l 0 8
def itC (T : List Tok) (σ : Rs) : Int := if (tokA T σ.i).k = 1 ∧ (tokA T σ.i).t ≠ [] then condFind (tokA T σ.i).t else -1
def itP (T : List Tok) (m : List Bool) (p : Fs) : Fs :=
  if itC T p.1 < 0 then (badS p.1 3, p.2)
  else ((if maskP (itC T p.1) m = 0 then badS ⟨p.1.i + 1, p.1.e⟩ 3 else ⟨p.1.i + 1, p.1.e⟩),
    { p.2 with op := 42, ic := itC T p.1, rd := 0, rn := 0, rm := 0, im := maskP (itC T p.1) m, md := 1, ls := 0, s := false })
def lw0 : Lw := ⟨[], 0, 0, 0, 0, 0, 0, 0, 0, 0, false, 0, [], false, 0, ex0⟩
def lwI : Lw := { lw0 with k := 1, c := 14 }
def lwW (v : Int × Bool × Int × Bool × Bool) : Lw := { lwI with op := v.1, s := v.2.1, c := v.2.2.1, wd := v.2.2.2.1, ic := if v.1 = 35 then v.2.2.1 else 0 }
def endE (T : List Tok) (σ : Rs) : Int := if σ.e = 0 ∧ σ.i ≠ T.length then 3 else σ.e
def finL (T : List Tok) (p : Fs) : Lw × Int := if endE T p.1 = 0 then (p.2, 0) else (lw0, endE T p.1)
def readLn (T : List Tok) (i : Nat) : Lw × Int :=
  if (tokA T i).k = 1 then
    (match blockP (tokA T i).t with
    | some m => finL T (itP T m (⟨i + 1, 0⟩, lwI))
    | none => if (wordP (tokA T i).t).2.2.2.2 then finL T (stOps T (⟨i + 1, 0⟩, lwW (wordP (tokA T i).t))) else (lw0, 4))
  else (lw0, 3)
def Lw.insEq (a b : Lw) : Bool := decide (a.op = b.op ∧ a.ic = b.ic ∧ a.rd = b.rd ∧ a.rn = b.rn ∧ a.rm = b.rm ∧ a.im = b.im ∧ a.md = b.md ∧ a.ls = b.ls ∧ a.s = b.s)
def Lw.beq (a b : Lw) : Bool := a.lab == b.lab && (decide (a.k = b.k) && (a.insEq b && (decide (a.c = b.c) && (a.ref == b.ref && ((a.wd == b.wd) && (decide (a.sz = b.sz) && a.ex.beq b.ex))))))
theorem Lw.beq_iff (a b : Lw) : a.beq b = true ↔ a = b := by
  obtain ⟨a1, a2, a3, a4, a5, a6, a7, a8, a9, a10, a11, a12, a13, a14, a15, a16⟩ := a
  obtain ⟨b1, b2, b3, b4, b5, b6, b7, b8, b9, b10, b11, b12, b13, b14, b15, b16⟩ := b
  simp only [Lw.beq, Lw.insEq, Bool.and_eq_true, beq_iff_eq, decide_eq_true_eq, Et.beq_iff, Lw.mk.injEq]
  constructor
  · rintro ⟨h1, h2, ⟨h3, h4, h5, h6, h7, h8, h9, h10, h11⟩, h12, h13, h14, h15, h16⟩
    exact ⟨h1, h2, h3, h4, h5, h6, h7, h8, h9, h10, h11, h12, h13, h14, h15, h16⟩
  · rintro ⟨h1, h2, h3, h4, h5, h6, h7, h8, h9, h10, h11, h12, h13, h14, h15, h16⟩
    exact ⟨h1, h2, ⟨h3, h4, h5, h6, h7, h8, h9, h10, h11⟩, h12, h13, h14, h15, h16⟩
def hasP (L r : Int) : Bool := Go.bits Go.BinOp.and Go.IntKind.i64 (L / 2 ^ r.toNat) 1 == 1
def runR (L : Int) : Nat → Int → Int
  | 0, r => r
  | f + 1, r => if r < 12 ∧ hasP L (r + 1) = true then runR L f (r + 1) else r
def regsF (L : Int) : Nat → Int → Bs → Bs
  | 0, _, s => s
  | f + 1, r, s =>
    if 16 ≤ r then s else if hasP L r = false then regsF L f (r + 1) s
    else regsF L f (runR L 16 r + 1) ((if s = [123] then s else s ++ [44, 32]) ++ regName r ++ (if r < runR L 16 r then [45] ++ regName (runR L 16 r) else []))
def regsP (L : Int) : Bs := regsF L 17 0 [123] ++ [125]
def lastX (y : Lw) : Bs := if y.md = 2 then regName y.rm else [35] ++ y.ex.print
def cm : Bs := [44, 32]
def operX (y : Lw) : Bs :=
  if y.k = 2 then regName y.rd ++ [44, 32, 61] ++ y.ex.print
  else if y.op = 42 then (if y.ic = 14 then [97, 108] else condName y.ic)
  else if y.op ≤ 9 ∨ (16 ≤ y.op ∧ y.op ≤ 19) then regName y.rd ++ cm ++ regName y.rn ++ cm ++ lastX y
  else if y.op ≤ 11 ∨ y.op = 23 ∨ y.op = 24 then regName y.rd ++ cm ++ lastX y
  else if y.op ≤ 15 then regName y.rn ++ cm ++ lastX y
  else if y.op ≤ 22 then regName y.rd ++ cm ++ regName y.rn ++ cm ++ regName y.rm
  else if y.op ≤ 30 then regName y.rd ++ [44, 32, 91] ++ regName y.rn ++ cm ++ lastX y ++ [93]
  else if y.op = 40 ∨ y.op = 41 then regName y.rd ++ cm ++ y.ref
  else if y.op = 31 ∨ y.op = 32 then regName y.rn ++ [33, 44, 32] ++ regsP y.ls
  else if y.op = 33 ∨ y.op = 34 then regsP y.ls
  else if y.op = 35 ∨ y.op = 36 then y.ref
  else if y.op = 37 ∨ y.op = 38 then regName y.rn ++ cm ++ y.ref
  else if y.op = 39 then regName y.rm
  else if y.op = 44 then lastX y
  else if y.op = 45 then [91] ++ regName y.rn ++ cm ++ regName y.rm ++ [93]
  else []
def condsF (c : Int) : Nat → Int → Option (List Int)
  | 0, _ => some []
  | f + 1, m =>
    if m = 8 then some []
    else if decide (8 ≤ m) = (c % 2 == 1) then (condsF c f (m % 8 * 2)).map (c :: ·)
    else if c = 14 then none else (condsF c f (m % 8 * 2)).map ((if c % 2 = 0 then c + 1 else c - 1) :: ·)
def condsP (c m : Int) : List Int := if c < 0 ∨ 14 < c ∨ m < 1 ∨ 15 < m then [] else match condsF c 4 m with | some l => c :: l | none => []
def itX (y : Lw) : Bs := if y.op = 42 then (condsP y.ic y.im).tail.map fun c => if c = y.ic then 116 else 101 else []
def wordX (y : Lw) : Bs := opName y.op ++ itX y ++ (if y.s then [115] else []) ++ condName y.c ++ (if y.wd then [46, 119] else [])
def textX (y : Lw) : Bs := if y.op < 1 ∨ 45 < y.op then [] else wordX y ++ (if operX y = [] then [] else [32] ++ operX y)
def printX (y : Lw) : Bs :=
  match lineL (textX y) with
  | none => []
  | some T => if textX y = [] then [] else if (readLn T 0).2 = 0 ∧ (readLn T 0).1.beq y = true then textX y else []
end Go.Rp
namespace Go.Rp
theorem lexF_len : ∀ (f : Nat) (l : Bs) (T : List Tok), lexF f l = some T → T.length ≤ l.length ∧ ∀ t ∈ T, t.t.length ≤ l.length ∧ 0 ≤ t.n ∧ t.n < 4294967296 := by
  intro f
  induction f with
  | zero => intro l T h; simp [lexF] at h
  | succ f ih =>
    intro l T h
    match l, h with
    | [], h => simp [lexF] at h; subst h; simp
    | b :: r, h =>
      rw [lexF] at h
      have key : ∀ (n : Nat) (t : Tok), 0 < n → n ≤ (b :: r).length → t.t.length ≤ (b :: r).length → 0 ≤ t.n → t.n < 4294967296 → (lexF f ((b :: r).drop n)).map (t :: ·) = some T →
          T.length ≤ (b :: r).length ∧ ∀ t ∈ T, t.t.length ≤ (b :: r).length ∧ 0 ≤ t.n ∧ t.n < 4294967296 := by
        intro n t h0 h1 h2 h3 h4 h5
        rw [Option.map_eq_some_iff] at h5
        obtain ⟨T', h6, rfl⟩ := h5
        obtain ⟨h7, h8⟩ := ih _ _ h6
        rw [List.length_drop] at h7 h8
        refine ⟨by rw [List.length_cons]; omega, fun u hu => ?_⟩
        rcases List.mem_cons.1 hu with rfl | hu
        · exact ⟨h2, h3, h4⟩
        · obtain ⟨a, b, c⟩ := h8 u hu
          exact ⟨by omega, b, c⟩
      split at h
      · obtain ⟨h7, h8⟩ := ih _ _ h
        exact ⟨by rw [List.length_cons]; omega, fun u hu => ⟨by have := (h8 u hu).1; rw [List.length_cons]; omega, (h8 u hu).2⟩⟩
      split at h
      · simp at h; subst h; simp
      split at h
      · rename_i hl
        split at h
        · cases h
        · exact key _ _ (runL_pos hl) (runL_le _) (by show ((b :: r).take _).length ≤ _; rw [List.length_take]; omega) (Int.le_refl 0) (show (0 : Int) < 4294967296 by decide) h
      split at h
      · split at h
        · cases h
        · rename_i h0
          exact key _ _ (Nat.pos_of_ne_zero h0) (numL_le _) (Nat.zero_le _) (numL_bound _).1 (numL_bound _).2 h
      · split at h
        · cases h
        · rename_i h0
          exact key _ _ (Nat.pos_of_ne_zero h0) (sgnL_le _) (by show ((b :: r).take _).length ≤ _; rw [List.length_take]; omega) (Int.le_refl 0) (show (0 : Int) < 4294967296 by decide) h
theorem lineL_len {l : Bs} {T : List Tok} (h : lineL l = some T) : T.length ≤ 256 ∧ ∀ t ∈ T, t.t.length ≤ 256 ∧ 0 ≤ t.n ∧ t.n < 4294967296 := by
  unfold lineL at h
  split at h
  · cases h
  · rename_i hn
    obtain ⟨h1, h2⟩ := lexF_len _ _ _ h
    exact ⟨by omega, fun t ht => ⟨by have := (h2 t ht).1; omega, (h2 t ht).2⟩⟩
theorem getD_len (n : Nat) : ∀ (l : List Bs) (k : Nat), l.all (fun x => decide (x.length ≤ n)) = true → (l.getD k []).length ≤ n
  | [], _, _ => Nat.zero_le _
  | x :: r, 0, h => by
    rw [List.all_cons, Bool.and_eq_true] at h
    exact of_decide_eq_true h.1
  | x :: r, k + 1, h => by
    rw [List.all_cons, Bool.and_eq_true] at h
    have := getD_len n r k h.2
    simpa using this
theorem regName_len (r : Int) : (regName r).length ≤ 8 := by
  unfold regName
  split
  · exact Nat.zero_le _
  · exact getD_len 8 _ _ (by decide)
theorem condName_len (r : Int) : (condName r).length ≤ 8 := by
  unfold condName
  split
  · exact Nat.zero_le _
  · exact getD_len 8 _ _ (by decide)
theorem opName_len (r : Int) : (opName r).length ≤ 8 := by
  unfold opName
  split
  · exact Nat.zero_le _
  · exact getD_len 8 _ _ (by decide)
theorem regsF_len (L : Int) : ∀ (f : Nat) (r : Int) (s : Bs), (regsF L f r s).length ≤ s.length + 20 * f
  | 0, _, s => Nat.le_add_right _ _
  | f + 1, r, s => by
    rw [regsF]
    split
    · omega
    · split
      · have := regsF_len L f (r + 1) s; omega
      · have h := regsF_len L f (runR L 16 r + 1) ((if s = [123] then s else s ++ [44, 32]) ++ regName r ++ (if r < runR L 16 r then [45] ++ regName (runR L 16 r) else []))
        have h1 := regName_len r
        have h2 := regName_len (runR L 16 r)
        have h3 : (if s = [123] then s else s ++ [44, 32]).length ≤ s.length + 2 := by split <;> simp
        have h4 : (if r < runR L 16 r then [45] ++ regName (runR L 16 r) else []).length ≤ 9 := by
          split
          · simp; omega
          · simp
        simp only [List.length_append] at h
        omega
theorem regsP_len (L : Int) : (regsP L).length ≤ 500 := by
  have := regsF_len L 17 0 [123]
  unfold regsP
  simp only [List.length_append, List.length_cons, List.length_nil] at this ⊢
  omega
theorem fewL_neg {l : Int} (h : l < 0) : ∀ (r : List Et) (d : Int), Et.fewL r d l = l
  | [], _ => by rw [Et.fewL]
  | y :: r, d => by rw [Et.fewL, if_pos h]
theorem few_nms : ∀ (x : Et) (d l : Int), l ≤ 9000 → 0 ≤ x.few d l → x.nms = true ∧ x.few d l ≤ l := by
  refine Et.ind fun o n s a ih d l hl h => ?_
  rw [Et.few] at h ⊢
  split at h
  · omega
  rename_i hn
  rw [if_neg hn]
  have key : ∀ (r : List Et) (d l : Int), (∀ y ∈ r, y ∈ a) → l ≤ 9000 → 0 ≤ Et.fewL r d l → Et.nmsL r = true ∧ Et.fewL r d l ≤ l := by
    intro r
    induction r with
    | nil => intro d l _ _ h; exact ⟨rfl, by rw [Et.fewL]; exact Int.le_refl _⟩
    | cons y r ihr =>
      intro d l hm hl h
      rw [Et.fewL] at h ⊢
      split at h
      · omega
      · rename_i h0
        rw [if_neg h0]
        rcases Int.lt_or_le (y.few d l) 0 with hy | hy
        · rw [fewL_neg hy] at h; omega
        · obtain ⟨k1, k2⟩ := ih y (hm y (List.mem_cons_self ..)) d l hl hy
          obtain ⟨k3, k4⟩ := ihr d _ (fun z hz => hm z (List.mem_cons_of_mem _ hz)) (by omega) h
          exact ⟨by rw [Et.nmsL, k1, k3]; rfl, by omega⟩
  have hs : (0 : Int) ≤ (s.length : Int) / 100 := by omega
  obtain ⟨k1, k2⟩ := key a (d - 1) _ (fun y hy => hy) (by omega) h
  refine ⟨?_, by omega⟩
  rw [Et.nms, k1, Bool.and_true]
  exact decide_eq_true (by omega)
end Go.Rp
namespace Go.Rp
def sizeP (w : Bs) : Int := if w = [46, 119, 111, 114, 100] then 4 else if w = [46, 104, 119, 111, 114, 100] then 2 else if w = [46, 98, 121, 116, 101] then 1 else 0
def finD (T : List Tok) (p : Fs) : Lw × Bool × Int := if endE T p.1 = 0 then (p.2, true, 0) else (lw0, true, endE T p.1)
def equT (T : List Tok) : Rs :=
  let σ := nameT T ⟨1, 0⟩
  if σ.e = 0 ∧ isS (tokA T σ.i) [44] = false then ⟨σ.i + 1, 3⟩ else ⟨σ.i + 1, σ.e⟩
def alignS (n : Int) : Int := Go.RowKit.wrap64 (2 ^ (n % 16).toNat)
def dirP (T : List Tok) : Lw × Bool × Int :=
  if 0 < sizeP (tokA T 0).t then finD T (stTerm T (⟨1, 0⟩, { lw0 with k := 3, sz := sizeP (tokA T 0).t }))
  else if (tokA T 0).t = [46, 108, 116, 111, 114, 103] then finD T (⟨1, 0⟩, { lw0 with k := 5 })
  else if (tokA T 0).t = [46, 101, 113, 117] then
    (if (equT T).e = 0 then finD T (stTerm T (equT T, { lw0 with k := 6, ref := nameV T ⟨1, 0⟩ })) else (lw0, true, 3))
  else if (tokA T 0).t = [46, 97, 108, 105, 103, 110] ∨ (tokA T 0).t = [46, 115, 112, 97, 99, 101] then
    (if T.length ≠ 2 ∨ (tokA T 1).k ≠ 2 then (lw0, true, 3)
    else if (tokA T 0).t = [46, 97, 108, 105, 103, 110] then (if (tokA T 1).n < 1 ∨ 8 < (tokA T 1).n then (lw0, true, 2) else ({ lw0 with k := 4, sz := alignS (tokA T 1).n }, true, 0))
    else (if 1048576 < (tokA T 1).n then (lw0, true, 2) else ({ lw0 with k := 7, sz := (tokA T 1).n }, true, 0)))
  else (lw0, false, 0)
def labB (T : List Tok) : Bool := decide (1 < T.length) && ((tokA T 0).k == 1 && ((tokA T 1).k == 3 && ((tokA T 1).t == [58] && isNm (tokA T 0).t)))
def labX (T : List Tok) : Bs := if labB T then (tokA T 0).t else []
def labT (T : List Tok) : List Tok := if labB T then T.drop 2 else T
def oneT (T : List Tok) (lab : Bs) : Lw × Int :=
  if T = [] then ({ lw0 with lab := lab }, 0)
  else if (tokA T 0).k ≠ 1 then (lw0, 3)
  else if (dirP T).2.1 = true then (if (dirP T).2.2 = 0 then ({ (dirP T).1 with lab := lab }, 0) else (lw0, (dirP T).2.2))
  else if (readLn T 0).2 = 0 then ({ (readLn T 0).1 with lab := lab }, 0) else (lw0, (readLn T 0).2)
def oneX (s : Bs) : Lw × Int := match lineL s with
  | none => (lw0, 3)
  | some T => oneT (labT T) (labX T)
def logF : Nat → Int → Int
  | 0, _ => 0
  | f + 1, n => if 1 < n then 1 + logF f (n / 2) else 0
def bodyX (y : Lw) : Bs :=
  if y.k = 1 ∨ y.k = 2 then printX { y with lab := [] }
  else if y.k = 3 then (if y.sz = 1 then [46, 98, 121, 116, 101, 32] else if y.sz = 2 then [46, 104, 119, 111, 114, 100, 32] else [46, 119, 111, 114, 100, 32]) ++ y.ex.print
  else if y.k = 4 then [46, 97, 108, 105, 103, 110, 32] ++ digsN (logF 64 y.sz).toNat
  else if y.k = 5 then [46, 108, 116, 111, 114, 103]
  else if y.k = 6 then [46, 101, 113, 117, 32] ++ y.ref ++ [44, 32] ++ y.ex.print
  else if y.k = 7 then [46, 115, 112, 97, 99, 101, 32] ++ digsN y.sz.toNat
  else []
def lineS (y : Lw) : Bs := if y.lab = [] then bodyX y else if bodyX y = [] then y.lab ++ [58] else y.lab ++ [58, 32] ++ bodyX y
def lineOk (y : Lw) : Bool := ((oneX (lineS y)).2 == 0) && (oneX (lineS y)).1.beq y
theorem logF_bound : ∀ (f : Nat) (n : Int), 0 ≤ logF f n ∧ logF f n ≤ f
  | 0, n => ⟨Int.le_refl _, Int.le_refl _⟩
  | f + 1, n => by
    rw [logF]
    split
    · have := logF_bound f (n / 2); omega
    · exact ⟨Int.le_refl _, by omega⟩
end Go.Rp
