/- For the seat: texts joined: LyG, IsD, IsA, IsO, IsB, IsC, IsE, IsF. -/
import Derived.Test.YtpdkpkabdkefcaaGreatDoorJAn
import Derived.Test.YtpdkpkabdkefcaaGreatDoorJAj
import Derived.Test.YtpdkpkabdkefcaaGreatDoorJAh
set_option maxRecDepth 100000
namespace Go.Proofs.YtpdkpkabdkefcaaGreatDoor
open Go.Sx Go.ChangeShapes Go.WideShapes Go.RowKit Go.Joins Go.Deep Go.Rp
theorem tmod_bd (a b : Int) (hb : 0 < b) : -b < a.tmod b ∧ a.tmod b < b := by
  have h1 := Int.tmod_lt_of_pos a hb
  have h2 : -b < a.tmod b := by
    have := Int.tmod_lt_of_pos (-a) hb
    rw [Int.neg_tmod] at this
    omega
  exact ⟨h2, h1⟩
theorem leadI_bd (a b : Int) (hb : b ≤ 1048576) : 0 ≤ leadI a b ∧ leadI a b ≤ 1048576 := by
  unfold leadI
  split
  · omega
  · have h2 : 0 ≤ (-a.tmod b) % b := Int.emod_nonneg _ (by omega)
    have h3 : (-a.tmod b) % b < b := Int.emod_lt_of_pos _ (by omega)
    omega
theorem poolSz_bd (p : List Int) (a : Int) (hp : p.length ≤ 100000) : 0 ≤ poolSz p a ∧ poolSz p a ≤ 1500000 := by
  unfold poolSz
  have := leadI_bd a 4 (by omega)
  split <;> omega
theorem lineSz_bd (P : List (List Int)) (y : Lw) (f a : Int) (n : Nat) (hy : y.sz ≤ 1048576) (hP : ∀ p ∈ P, p.length ≤ 100000) : 0 ≤ lineSz P y f a n ∧ lineSz P y f a n ≤ 1500000 := by
  unfold lineSz
  have h1 := leadI_bd a y.sz hy
  have h2 := poolSz_bd (P.getD n []) a (by
    rw [List.getD_eq_getElem?_getD]
    cases h : P[n]? with
    | none => simp
    | some p => exact hP p (List.mem_of_getElem? h))
  repeat' split
  all_goals omega
theorem getD_pool {P : List (List Int)} (hP : ∀ p ∈ P, p.length ≤ 100000) (n : Nat) : (P.getD n []).length ≤ 100000 := by
  rw [List.getD_eq_getElem?_getD]
  cases h : P[n]? with
  | none => simp
  | some p => exact hP p (List.mem_of_getElem? h)
def PlAt (w : World) (B : Nat) (A : Option Addr) (P : List (List Int)) : Prop :=
  P ≠ [] → ∃ g off, A = some ⟨g, off, none⟩ ∧ g < B ∧ ∀ (i : Nat) (p : List Int), P[i]? = some p → ∃ Ai ci, w.cell? ⟨g, off + i, none⟩ = some (.slice Ai p.length ci) ∧ IAt w B Ai p
theorem PlAt.below {w w' : World} {B B' : Nat} {A : Option Addr} {P : List (List Int)} (h : PlAt w B A P) (hb : Below B' w w') (hB : B ≤ B') : PlAt w' B A P := by
  intro hn
  obtain ⟨g, off, e, hg, hc⟩ := h hn
  refine ⟨g, off, e, hg, fun i p hp => ?_⟩
  obtain ⟨Ai, ci, h1, h2⟩ := hc i p hp
  exact ⟨Ai, ci, (hb.cell (p := ⟨g, off + i, none⟩) (Nat.lt_of_lt_of_le hg hB)).trans h1, h2.below hb hB⟩
theorem PlAt.more {w : World} {B B' : Nat} {A : Option Addr} {P : List (List Int)} (h : PlAt w B A P) (hB : B ≤ B') : PlAt w B' A P := by
  intro hn
  obtain ⟨g, off, e, hg, hc⟩ := h hn
  refine ⟨g, off, e, by omega, fun i p hp => ?_⟩
  obtain ⟨Ai, ci, h1, h2⟩ := hc i p hp
  exact ⟨Ai, ci, h1, h2.more hB⟩
theorem lead_l (a b : Int) (hb : b ≤ 1048576) (w : World) : Calls Tryz.prog 37 #[.int .i64 a, .int .i64 b] w fun e w' => e = .returned (.int .i64 (leadI a b)) ∧ w' = w := by
  have hR : leadI a b = if b < 1 then 0 else (-a.tmod b) % b := rfl
  generalize leadI a b = R at hR
  go_enter Tryz.func37, Tryz.ntmps37
  cases u : decide (b < 1)
  · have h1 := of_decide_eq_false u
    rw [if_neg h1] at hR
    subst hR
    have h2 := tmod_bd a b (by omega)
    have hb0 : (b == 0) = false := by simp; omega
    go_wp2_with (fail)
    exact bodyPost_ret (results_tmp rfl _ _ _) rfl ⟨rfl, rfl⟩
  · rw [if_pos (of_decide_eq_true u)] at hR
    subst hR
    go_wp2_with (fail)
    exact bodyPost_ret (results_tmp rfl _ _ _) rfl ⟨rfl, rfl⟩
theorem pool_l (P : List (List Int)) (k : Nat) (hP : P.length ≤ 1000000) (A : Option Addr) (cap : Nat) (w : World) (hA : PlAt w w.heap.size A P) :
    Calls Tryz.prog 39 #[.slice A P.length cap, .int .i64 k] w fun e w' => (∃ Ai ci, e = .returned (.slice Ai (P.getD k []).length ci) ∧ IAt w w.heap.size Ai (P.getD k [])) ∧ w' = w := by
  go_enter Tryz.func39, Tryz.ntmps39
  by_cases hk : k < P.length
  · have u : decide ((k : Int) < (P.length : Int)) = true := decide_eq_true (by omega)
    obtain ⟨g, off, rfl, hg, hc⟩ := hA (by rintro rfl; simp at hk)
    obtain ⟨Ai, ci, h1, h2⟩ := hc k P[k] (List.getElem?_eq_getElem hk)
    have hd : P.getD k [] = P[k] := by rw [List.getD_eq_getElem?_getD, List.getElem?_eq_getElem hk]; rfl
    rw [hd]
    generalize P[k] = p at h1 h2
    go_wp2_with (fail)
    exact bodyPost_ret (results_tmp rfl _ _ _) rfl ⟨⟨Ai, ci, rfl, h2⟩, rfl⟩
  · have u : decide ((k : Int) < (P.length : Int)) = false := decide_eq_false (by omega)
    have hd : P.getD k [] = [] := by rw [List.getD_eq_getElem?_getD, List.getElem?_eq_none (by omega)]; rfl
    rw [hd]
    go_wp2_with (fail)
    exact bodyPost_ret (results_tmp rfl _ _ _) rfl ⟨⟨none, 0, rfl, IAt.nil _ _ _⟩, rfl⟩
theorem poolSz_l (p : List Int) (a : Int) (hp : p.length ≤ 100000) (A : Option Addr) (cap : Nat) (w : World) : Calls Tryz.prog 38 #[.slice A p.length cap, .int .i64 a] w fun e w' => e = .returned (.int .i64 (poolSz p a)) ∧ w' = w := by
  have hR : poolSz p a = if (p.length : Int) = 0 then 0 else leadI a 4 + 4 * p.length := rfl
  have hl := lead_l a 4 (by omega) w
  have h0 := leadI_bd a 4 (by omega)
  generalize poolSz p a = R at hR
  generalize leadI a 4 = l at hR hl h0
  go_enter Tryz.func38, Tryz.ntmps38
  cases u : ((p.length : Int) == 0)
  · rw [if_neg (by simpa using u)] at hR
    have HR := Lib.hid hR
    clear hR
    go_wp2_with (fail)
    ((with_reducible refine hl.mono ?_); rintro e w' ⟨rfl, rfl⟩)
    go_wp2_with (fail)
    exact bodyPost_ret (results_tmp rfl _ _ _) rfl ⟨by rw [HR.out]; rfl, rfl⟩
  · rw [if_pos (by simpa using u)] at hR
    subst hR
    go_wp2_with (fail)
    exact bodyPost_ret (results_tmp rfl _ _ _) rfl ⟨rfl, rfl⟩
theorem form_l (F : List Int) (k : Nat) (_hF : F.length ≤ 1000000) (A : Option Addr) (cap : Nat) (w : World) (hA : IAt w w.heap.size A F) : Calls Tryz.prog 36 #[.slice A F.length cap, .int .i64 k] w fun e w' => e = .returned (.int .i64 (F.getD k 0)) ∧ w' = w := by
  go_enter Tryz.func36, Tryz.ntmps36
  by_cases hk : k < F.length
  · have u : decide ((k : Int) < (F.length : Int)) = true := decide_eq_true (by omega)
    obtain ⟨g, off, rfl, hg, hc⟩ := hA.at_ hk
    have hd : F.getD k 0 = F[k] := by rw [List.getD_eq_getElem?_getD, List.getElem?_eq_getElem hk]; rfl
    rw [hd]
    generalize F[k] = x at hc
    go_wp2_with (fail)
    exact bodyPost_ret (results_tmp rfl _ _ _) rfl ⟨rfl, rfl⟩
  · have u : decide ((k : Int) < (F.length : Int)) = false := decide_eq_false (by omega)
    have hd : F.getD k 0 = 0 := by rw [List.getD_eq_getElem?_getD, List.getElem?_eq_none (by omega)]; rfl
    rw [hd]
    go_wp2_with (fail)
    exact bodyPost_ret (results_tmp rfl _ _ _) rfl ⟨rfl, rfl⟩
end Go.Proofs.YtpdkpkabdkefcaaGreatDoor
namespace Go.Proofs.YtpdkpkabdkefcaaGreatDoor
open Go.Sx Go.ChangeShapes Go.WideShapes Go.RowKit Go.Joins Go.Deep Go.Rp
structure Lk where
  op : Int
  ic : Int
  rd : Int
  rn : Int
  rm : Int
  im : Int
  md : Int
  ls : Int
  s : Bool
  ok : Bool
def plB (r : Int) : Bool := (decide (0 ≤ r) && decide (r ≤ 12)) || (r == 14)
def btB (n a b : Int) : Bool := decide (a ≤ n) && decide (n ≤ b)
def liB (l least m : Int) : Bool := (decide (0 < l) && (bits BinOp.andNot IntKind.i64 l m == 0)) && decide (least ≤ (Ones.onesN l.toNat : Int))
namespace Lk
def is (x : Lk) (b : Bool) : Lk := { x with ok := x.ok && b }
def rdL (x : Lk) : Lk := { x.is (plB x.rd) with rd := 0 }
def rnL (x : Lk) : Lk := { x.is (plB x.rn) with rn := 0 }
def imL (a b : Int) (x : Lk) : Lk := { x.is ((x.md == 1) && btB x.im a b) with md := 0, im := 0 }
def rgL (x : Lk) : Lk := { x.is ((x.md == 2) && plB x.rm) with md := 0, rm := 0 }
def laL (a b : Int) (x : Lk) : Lk := if x.md = 2 then x.rgL else x.imL a b
def brL (x : Lk) : Lk := (x.is (bits BinOp.and IntKind.i64 x.im 1 == 0)).imL (-16777216) 16777214
def seS (x : Lk) : Lk := { x with s := false }
def seC (x : Lk) : Lk := { x with ic := 0 }
def datL (x : Lk) : Lk :=
  if x.op ≤ 9 then (x.rdL.rnL.laL 0 4294967295).seS
  else if x.op = 10 ∧ x.md = 2 ∧ x.s = false then { x.is (btB x.rd 0 14 && btB x.rm 0 14) with rd := 0, rm := 0, md := 0 }
  else if x.op ≤ 11 then (x.rdL.laL 0 4294967295).seS
  else if x.op ≤ 15 then x.rnL.laL 0 4294967295
  else if x.op ≤ 19 then (x.rdL.rnL.laL 1 (if x.op = 17 ∨ x.op = 18 then 32 else 31)).seS
  else if x.op ≤ 22 then x.rdL.rnL.rgL
  else x.rdL.imL 0 65535
def liL (least more : Int) (x : Lk) : Lk := { x.is (liB x.ls least (if more = 15 then 57343 else 24575)) with ls := 0 }
def manL (x : Lk) : Lk :=
  if x.op = 31 ∨ x.op = 32 then ((x.is (!btB x.rn 0 15 || (bits BinOp.and IntKind.i64 (x.ls / 2 ^ x.rn.toNat) 1 == 0))).rnL).liL 2 (-1)
  else if x.op = 33 then x.liL 1 (-1)
  else if x.op = 34 then (x.is (bits BinOp.and IntKind.i64 (x.ls / 16384) 3 != 3)).liL 1 15
  else x
def othL (x : Lk) : Lk :=
  if x.op = 35 then (x.is (btB x.ic 0 14)).seC.brL
  else if x.op = 36 then x.brL
  else if x.op = 37 ∨ x.op = 38 then ({ x.is (lowB x.rn && (bits BinOp.and IntKind.i64 x.im 1 == 0)) with rn := 0 } : Lk).imL 0 126
  else if x.op = 39 then { x.is ((x.md == 2) && btB x.rm 0 14) with md := 0, rm := 0 }
  else if x.op = 40 ∨ x.op = 41 then x.rdL.imL (-4095) 4095
  else if x.op = 42 then (x.is (decide (0 < (condsP x.ic x.im).length))).seC.imL 1 15
  else if x.op = 44 then x.imL 0 255
  else if x.op = 45 then x.rnL.rgL
  else x
def spL (x : Lk) : Lk := if x.rn = 13 then { x with rn := 0 } else x
def chkL (x : Lk) : Lk := if x.op ≤ 24 then x.datL else if x.op ≤ 30 then x.rdL.spL.rnL.laL 0 4095 else if x.op ≤ 34 then x.manL else x.othL
def zB (x : Lk) (o : Int) : Bool := decide (x.op = o ∧ x.ic = 0 ∧ x.rd = 0 ∧ x.rn = 0 ∧ x.rm = 0 ∧ x.im = 0 ∧ x.md = 0 ∧ x.ls = 0 ∧ x.s = false)
def chkB (x : Lk) : Bool := (decide (1 ≤ x.op) && decide (x.op ≤ 45)) && (x.chkL.ok && x.chkL.zB x.op)
end Lk
def pairB (op : Int) : Bool := (op == 1) || ((op == 2) || ((op == 16) || ((op == 17) || ((op == 18) || ((op == 6) || ((op == 8) || ((op == 19) || ((op == 3) || (op == 4)))))))))
def low2 (a b : Int) : Bool := lowB a && lowB b
def low3 (a b c : Int) : Bool := lowB a && (lowB b && lowB c)
namespace Lk
def datB (x : Lk) (it : Bool) : List Bool :=
  (pairB x.op && ((x.rd == x.rn) && ((!(x.s == it)) && low2 x.rd x.rm))) ::
    (if x.op = 11 then [(!(x.s == it)) && low2 x.rd x.rm] else if x.op = 14 ∨ x.op = 13 then [low2 x.rn x.rm] else if x.op = 12 then [low2 x.rn x.rm, true]
    else if x.op = 10 then [x.s && (!it && low2 x.rd x.rm), !x.s] else if x.op = 5 then [(!(x.s == it)) && low3 x.rd x.rn x.rm, (x.rd == x.rn) && !x.s]
    else if x.op = 7 then [(!(x.s == it)) && low3 x.rd x.rn x.rm] else [])
def numB (x : Lk) (it : Bool) : List Bool :=
  if x.op = 9 then [(x.im == 0) && ((!(x.s == it)) && low2 x.rd x.rn)] else if x.op = 12 then [decide (x.im ≤ 255) && lowB x.rn] else if x.op = 10 then [decide (x.im ≤ 255) && ((!(x.s == it)) && lowB x.rd)]
  else if x.op = 16 ∨ x.op = 17 ∨ x.op = 18 then [(!(x.s == it)) && low2 x.rd x.rn]
  else if x.op = 7 ∨ x.op = 5 then [decide (x.im ≤ 7) && ((!(x.s == it)) && low2 x.rd x.rn), decide (x.im ≤ 255) && ((x.rd == x.rn) && ((!(x.s == it)) && lowB x.rd))] else []
def byI (op : Int) : Int := if op = 25 ∨ op = 28 then 4 else if op = 26 ∨ op = 29 then 1 else 2
def loaB (x : Lk) : List Bool :=
  if x.md = 2 then [low3 x.rd x.rn x.rm]
  else (low2 x.rd x.rn && ((x.im.tmod (byI x.op) == 0) && decide (x.im.tdiv (byI x.op) < 32))) :: (if byI x.op = 4 ∧ x.rn = 13 then [lowB x.rd && ((x.im.tmod 4 == 0) && decide (x.im ≤ 1020))] else [])
def plcB (x : Lk) : Bool := lowB x.rd && (decide (0 ≤ x.im) && (decide (x.im ≤ 1020) && (x.im.tmod 4 == 0)))
def resB (x : Lk) (it : Bool) : Bool :=
  if x.op = 20 then it && ((x.rd == x.rm) && low2 x.rd x.rn) else if x.op = 32 ∨ x.op = 31 then lowB x.rn && (x.ls == bits BinOp.and IntKind.i64 x.ls 255)
  else if x.op = 33 then bits BinOp.andNot IntKind.i64 x.ls 16639 == 0 else if x.op = 34 then bits BinOp.andNot IntKind.i64 x.ls 33023 == 0
  else if x.op = 35 then (if x.ic = 14 then fitK 2 x.im else !it && fitK 1 x.im) else if x.op = 37 ∨ x.op = 38 then !it && fitK 5 x.im
  else if x.op = 39 ∨ x.op = 43 ∨ x.op = 44 then true else if x.op = 40 ∨ x.op = 41 then x.plcB else if x.op = 42 then !it else false
def frmB (x : Lk) (it : Bool) : List Bool := if x.op ≤ 19 then (if x.md = 2 then x.datB it else x.numB it) else if 25 ≤ x.op ∧ x.op ≤ 30 then x.loaB else [x.resB it]
def canB (x : Lk) (it : Bool) : Bool := x.chkB && (x.frmB it).any id
end Lk
end Go.Proofs.YtpdkpkabdkefcaaGreatDoor
namespace Go.Proofs.YtpdkpkabdkefcaaGreatDoor
open Go.Sx Go.ChangeShapes Go.WideShapes Go.RowKit Go.Joins Go.Deep Go.Rp
theorem plain_05 (r : Int) (w : World) : Calls Tryz.prog 155 #[.int .i64 r] w fun e w' => e = .returned (.bool (plB r)) ∧ w' = w := by
  have hR : plB r = ((decide (0 ≤ r) && decide (r ≤ 12)) || (r == 14)) := rfl
  generalize plB r = R at hR
  have HR := Lib.hid hR
  clear hR
  go_enter Tryz.func155, Tryz.ntmps155
  cases a : decide (0 ≤ r) <;> cases b : decide (r ≤ 12) <;> cases c : (r == 14) <;>
    (have hR := HR.out; rw [a, b, c] at hR; subst hR; clear HR; go_wp2_with (fail); exact bodyPost_ret (results_tmp rfl _ _ _) rfl ⟨rfl, rfl⟩)
theorem within_05 (n p q : Int) (w : World) : Calls Tryz.prog 152 #[.int .i64 n, .int .i64 p, .int .i64 q] w fun e w' => e = .returned (.bool (btB n p q)) ∧ w' = w := by
  have hR : btB n p q = (decide (p ≤ n) && decide (n ≤ q)) := rfl
  generalize btB n p q = R at hR
  have HR := Lib.hid hR
  clear hR
  go_enter Tryz.func152, Tryz.ntmps152
  cases a : decide (p ≤ n) <;> cases b : decide (n ≤ q) <;>
    (have hR := HR.out; rw [a, b] at hR; subst hR; clear HR; go_wp2_with (fail); exact bodyPost_ret (results_tmp rfl _ _ _) rfl ⟨rfl, rfl⟩)
abbrev lkC (x : Lk) : Array Value := #[.int .i64 x.op, .int .i64 x.ic, .int .i64 x.rd, .int .i64 x.rn, .int .i64 x.rm, .int .i64 x.im, .int .i64 x.md, .int .i64 x.ls, .bool x.s, .bool x.ok]
def LkAt (w : World) (b : Nat) (x : Lk) : Prop := w.heap[b]? = some (.cells (lkC x) 131 (0, 0))
def LkPost (b : Nat) (w : World) (x : Lk) (e : Ending) (w' : World) : Prop := e = .returned (.tuple #[]) ∧ LkAt w' b x ∧ Stay b w w'
section
variable {w w' : World} {b : Nat} {x : Lk}
theorem LkAt.lt (h : LkAt w b x) : b < w.heap.size := (Array.getElem?_eq_some_iff.1 h).1
theorem LkAt.fz (h : LkAt w b x) (j : Nat) : w.frozen? ⟨b, j, none⟩ = false := froz h j
theorem LkAt.set {y : Lk} (h : LkAt w b x) (j : Nat) (v : Value) (hc : (lkC x).setIfInBounds j v = lkC y) : LkAt (w.setCell ⟨b, j, none⟩ v) b y := by
  unfold LkAt at h ⊢
  rw [setCell_at h, hc]
theorem LkAt.c (h : LkAt w b x) : w.cell? ⟨b, 0, none⟩ = some (.int .i64 x.op) ∧ w.cell? ⟨b, 1, none⟩ = some (.int .i64 x.ic) ∧ w.cell? ⟨b, 2, none⟩ = some (.int .i64 x.rd) ∧ w.cell? ⟨b, 3, none⟩ = some (.int .i64 x.rn) ∧ w.cell? ⟨b, 4, none⟩ = some (.int .i64 x.rm) ∧
    w.cell? ⟨b, 5, none⟩ = some (.int .i64 x.im) ∧ w.cell? ⟨b, 6, none⟩ = some (.int .i64 x.md) ∧ w.cell? ⟨b, 7, none⟩ = some (.int .i64 x.ls) ∧ w.cell? ⟨b, 8, none⟩ = some (.bool x.s) ∧ w.cell? ⟨b, 9, none⟩ = some (.bool x.ok) := by
  unfold LkAt at h
  simp [World.cell?, h]
theorem lk_is (h : LkAt w b x) (q : Bool) : Calls Tryz.prog 151 #[.pointer (some ⟨b, 0, none⟩), .bool q] w (LkPost b w (x.is q)) := by
  obtain ⟨_, _, _, _, _, _, _, _, _, c9⟩ := h.c
  have f9 := h.fz 9
  have l1 : LkAt (w.setCell ⟨b, 9, none⟩ (.bool (x.ok && q))) b (x.is q) := h.set 9 _ rfl
  have s1 := Stay.set (d := b) w 9 (.bool (x.ok && q))
  generalize x.is q = y at l1
  generalize x.ok = o at c9 l1 s1
  unfold LkPost
  go_enter Tryz.func151, Tryz.ntmps151
  cases o <;> (go_wp2_with (fail); exact bodyPost_end (results_none rfl _ _ _) rfl ⟨rfl, l1, s1⟩)
theorem lk_d (h : LkAt w b x) : Calls Tryz.prog 116 #[.pointer (some ⟨b, 0, none⟩)] w (LkPost b w x.rdL) := by
  obtain ⟨_, _, c2, c3, _⟩ := h.c
  have hp := plain_05 x.rd
  have hi := lk_is h (plB x.rd)
  have hk : ∀ w1, LkAt w1 b (x.is (plB x.rd)) → LkAt (w1.setCell ⟨b, 2, none⟩ (.int .i64 0)) b x.rdL := fun w1 l => l.set 2 _ rfl
  generalize x.rdL = y at hk
  generalize x.is (plB x.rd) = z at hi hk
  generalize plB x.rd = q at hp hi
  generalize x.rd = r at c2 hp
  unfold LkPost at hi ⊢
  go_enter Tryz.func116, Tryz.ntmps116
  go_wp2_with (fail)
  ((with_reducible refine (hp _).mono ?_); rintro e w1 ⟨rfl, rfl⟩)
  go_wp2_with (fail)
  ((with_reducible refine hi.mono ?_); rintro e w1 ⟨rfl, l1, s1⟩)
  obtain ⟨_, _, k2, k3, k4, k5, k6, _⟩ := l1.c
  have f1 := l1.fz 2
  go_wp2_with (fail)
  exact bodyPost_end (results_none rfl _ _ _) rfl ⟨rfl, hk _ l1, s1.trans (Stay.set _ _ _)⟩
theorem lk_n (h : LkAt w b x) : Calls Tryz.prog 117 #[.pointer (some ⟨b, 0, none⟩)] w (LkPost b w x.rnL) := by
  obtain ⟨_, _, c2, c3, _⟩ := h.c
  have hp := plain_05 x.rn
  have hi := lk_is h (plB x.rn)
  have hk : ∀ w1, LkAt w1 b (x.is (plB x.rn)) → LkAt (w1.setCell ⟨b, 3, none⟩ (.int .i64 0)) b x.rnL := fun w1 l => l.set 3 _ rfl
  generalize x.rnL = y at hk
  generalize x.is (plB x.rn) = z at hi hk
  generalize plB x.rn = q at hp hi
  generalize x.rn = r at c3 hp
  unfold LkPost at hi ⊢
  go_enter Tryz.func117, Tryz.ntmps117
  go_wp2_with (fail)
  ((with_reducible refine (hp _).mono ?_); rintro e w1 ⟨rfl, rfl⟩)
  go_wp2_with (fail)
  ((with_reducible refine hi.mono ?_); rintro e w1 ⟨rfl, l1, s1⟩)
  obtain ⟨_, _, k2, k3, k4, k5, k6, _⟩ := l1.c
  have f1 := l1.fz 3
  go_wp2_with (fail)
  exact bodyPost_end (results_none rfl _ _ _) rfl ⟨rfl, hk _ l1, s1.trans (Stay.set _ _ _)⟩
theorem lk_imm (h : LkAt w b x) (p q : Int) : Calls Tryz.prog 154 #[.pointer (some ⟨b, 0, none⟩), .int .i64 p, .int .i64 q] w (LkPost b w (x.imL p q)) := by
  obtain ⟨_, _, _, _, c4, c5, c6, _⟩ := h.c
  have hp := within_05 x.im p q
  have hi := lk_is h ((x.md == 1) && btB x.im p q)
  have hk : ∀ w1, LkAt w1 b (x.is ((x.md == 1) && btB x.im p q)) → LkAt ((w1.setCell ⟨b, 6, none⟩ (.int .i64 0)).setCell ⟨b, 5, none⟩ (.int .i64 0)) b (x.imL p q) := fun w1 l => (l.set (y := { x.is ((x.md == 1) && btB x.im p q) with md := 0 }) 6 _ rfl).set 5 _ rfl
  generalize (x.imL p q) = y at hk
  generalize x.is ((x.md == 1) && btB x.im p q) = z at hi hk
  generalize btB x.im p q = q at hp hi
  generalize x.im = r at c5 hp
  generalize x.md = m at c6 hi
  unfold LkPost at hi ⊢
  have hs : ∀ w1, Stay b w w1 → Stay b w ((w1.setCell ⟨b, 6, none⟩ (.int .i64 0)).setCell ⟨b, 5, none⟩ (.int .i64 0)) := fun w1 s1 => s1.trans ((Stay.set _ _ _).trans (Stay.set _ _ _))
  go_enter Tryz.func154, Tryz.ntmps154
  cases a : (m == 1)
  · rw [a, Bool.false_and] at hi
    go_wp2_with (fail)
    ((with_reducible refine hi.mono ?_); rintro e w1 ⟨rfl, l1, s1⟩)
    obtain ⟨_, _, k2, k3, k4, k5, k6, _⟩ := l1.c
    have f1 := l1.fz 6
    have f2 := l1.fz 5
    go_wp2_with (fail)
    exact bodyPost_end (results_none rfl _ _ _) rfl ⟨rfl, hk _ l1, hs _ s1⟩
  · rw [a, Bool.true_and] at hi
    go_wp2_with (fail)
    ((with_reducible refine (hp _).mono ?_); rintro e w1 ⟨rfl, rfl⟩)
    go_wp2_with (fail)
    ((with_reducible refine hi.mono ?_); rintro e w1 ⟨rfl, l1, s1⟩)
    obtain ⟨_, _, k2, k3, k4, k5, k6, _⟩ := l1.c
    have f1 := l1.fz 6
    have f2 := l1.fz 5
    go_wp2_with (fail)
    exact bodyPost_end (results_none rfl _ _ _) rfl ⟨rfl, hk _ l1, hs _ s1⟩
theorem lk_reg (h : LkAt w b x) : Calls Tryz.prog 153 #[.pointer (some ⟨b, 0, none⟩)] w (LkPost b w x.rgL) := by
  obtain ⟨_, _, _, _, c4, c5, c6, _⟩ := h.c
  have hp := plain_05 x.rm
  have hi := lk_is h ((x.md == 2) && plB x.rm)
  have hk : ∀ w1, LkAt w1 b (x.is ((x.md == 2) && plB x.rm)) → LkAt ((w1.setCell ⟨b, 6, none⟩ (.int .i64 0)).setCell ⟨b, 4, none⟩ (.int .i64 0)) b x.rgL := fun w1 l => (l.set (y := { x.is ((x.md == 2) && plB x.rm) with md := 0 }) 6 _ rfl).set 4 _ rfl
  generalize x.rgL = y at hk
  generalize x.is ((x.md == 2) && plB x.rm) = z at hi hk
  generalize plB x.rm = q at hp hi
  generalize x.rm = r at c4 hp
  generalize x.md = m at c6 hi
  unfold LkPost at hi ⊢
  have hs : ∀ w1, Stay b w w1 → Stay b w ((w1.setCell ⟨b, 6, none⟩ (.int .i64 0)).setCell ⟨b, 4, none⟩ (.int .i64 0)) := fun w1 s1 => s1.trans ((Stay.set _ _ _).trans (Stay.set _ _ _))
  go_enter Tryz.func153, Tryz.ntmps153
  cases a : (m == 2)
  · rw [a, Bool.false_and] at hi
    go_wp2_with (fail)
    ((with_reducible refine hi.mono ?_); rintro e w1 ⟨rfl, l1, s1⟩)
    obtain ⟨_, _, k2, k3, k4, k5, k6, _⟩ := l1.c
    have f1 := l1.fz 6
    have f2 := l1.fz 4
    go_wp2_with (fail)
    exact bodyPost_end (results_none rfl _ _ _) rfl ⟨rfl, hk _ l1, hs _ s1⟩
  · rw [a, Bool.true_and] at hi
    go_wp2_with (fail)
    ((with_reducible refine (hp _).mono ?_); rintro e w1 ⟨rfl, rfl⟩)
    go_wp2_with (fail)
    ((with_reducible refine hi.mono ?_); rintro e w1 ⟨rfl, l1, s1⟩)
    obtain ⟨_, _, k2, k3, k4, k5, k6, _⟩ := l1.c
    have f1 := l1.fz 6
    have f2 := l1.fz 4
    go_wp2_with (fail)
    exact bodyPost_end (results_none rfl _ _ _) rfl ⟨rfl, hk _ l1, hs _ s1⟩
theorem lk_last (h : LkAt w b x) (p q : Int) : Calls Tryz.prog 118 #[.pointer (some ⟨b, 0, none⟩), .int .i64 p, .int .i64 q] w (LkPost b w (x.laL p q)) := by
  obtain ⟨_, _, _, _, _, _, c6, _⟩ := h.c
  have h1 := lk_imm h p q
  have h2 := lk_reg h
  have hR : x.laL p q = if x.md = 2 then x.rgL else x.imL p q := rfl
  generalize x.laL p q = y at hR
  generalize x.imL p q = y1 at h1 hR
  generalize x.rgL = y2 at h2 hR
  generalize x.md = m at c6 hR
  unfold LkPost at h1 h2 ⊢
  go_enter Tryz.func118, Tryz.ntmps118
  cases a : (m == 2)
  · rw [if_neg (ne_of_beq_false a)] at hR
    subst hR
    go_wp2_with (fail)
    ((with_reducible refine h1.mono ?_); rintro e w1 ⟨rfl, l1, s1⟩)
    go_wp2_with (fail)
    exact bodyPost_end (results_none rfl _ _ _) rfl ⟨rfl, l1, s1⟩
  · rw [if_pos (eq_of_beq a)] at hR
    subst hR
    go_wp2_with (fail)
    ((with_reducible refine h2.mono ?_); rintro e w1 ⟨rfl, l1, s1⟩)
    go_wp2_with (fail)
    exact bodyPost_ret (results_none rfl _ _ _) rfl ⟨rfl, l1, s1⟩
theorem lk_branch (h : LkAt w b x) : Calls Tryz.prog 157 #[.pointer (some ⟨b, 0, none⟩)] w (LkPost b w x.brL) := by
  obtain ⟨_, _, _, _, _, c5, _⟩ := h.c
  have h1 := lk_is h (bits BinOp.and IntKind.i64 x.im 1 == 0)
  have h2 := fun w1 (l : LkAt w1 b (x.is (bits BinOp.and IntKind.i64 x.im 1 == 0))) => lk_imm l (-16777216) 16777214
  have hR : (x.is (bits BinOp.and IntKind.i64 x.im 1 == 0)).imL (-16777216) 16777214 = x.brL := rfl
  rw [hR] at h2
  generalize x.brL = y at h2
  generalize x.is (bits BinOp.and IntKind.i64 x.im 1 == 0) = z at h1 h2
  generalize x.im = m at c5 h1
  unfold LkPost at h1 h2 ⊢
  go_enter Tryz.func157, Tryz.ntmps157
  go_wp2_with (fail)
  ((with_reducible refine h1.mono ?_); rintro e w1 ⟨rfl, l1, s1⟩)
  go_wp2_with (fail)
  ((with_reducible refine (h2 _ l1).mono ?_); rintro e w2 ⟨rfl, l2, s2⟩)
  go_wp2_with (fail)
  exact bodyPost_end (results_none rfl _ _ _) rfl ⟨rfl, l2, s1.trans s2⟩
end
end Go.Proofs.YtpdkpkabdkefcaaGreatDoor
namespace Go.Proofs.YtpdkpkabdkefcaaGreatDoor
open Go.Sx Go.ChangeShapes Go.WideShapes Go.RowKit Go.Joins Go.Deep Go.Rp Go.Sx.Ones
theorem andU (a b : Nat) (ha : a < 2 ^ 64) (hb : b < 2 ^ 64) : bits BinOp.and IntKind.u64 (a : Int) (b : Int) = ((a &&& b : Nat) : Int) := and_nat (u_has ha) (u_has hb) (u_has (Nat.lt_of_le_of_lt Nat.and_le_left ha))
theorem wrapU (a : Nat) (h : a < 2 ^ 64) : IntKind.u64.wrap (a : Int) = a := wrap_of_has (u_has h)
theorem stepA (x c : Nat) (m : Nat) (hm : m < 2 ^ 64) (hx : x < 2 ^ 32) : IntKind.u64.wrap (bits BinOp.and IntKind.u64 ((x : Int) / (c : Int)) (m : Int) + bits BinOp.and IntKind.u64 (x : Int) (m : Int)) = ((((x / c) &&& m) + (x &&& m) : Nat) : Int) ∧ (((x / c) &&& m) + (x &&& m) : Nat) ≤ 2 * x := by
  have h1 : x / c ≤ x := Nat.div_le_self _ _
  have h2 : (x / c) &&& m ≤ x / c := Nat.and_le_left
  have h3 : x &&& m ≤ x := Nat.and_le_left
  refine ⟨?_, by omega⟩
  rw [show (x : Int) / (c : Int) = ((x / c : Nat) : Int) from rfl, andU _ _ (by omega) hm, andU _ _ (by omega) hm, ← Int.natCast_add, wrapU _ (by omega)]
theorem stepB (x c : Nat) (hx : x < 2 ^ 32) : IntKind.u64.wrap ((x : Int) + (x : Int) / (c : Int)) = ((x + x / c : Nat) : Int) ∧ x + x / c ≤ 2 * x := by
  have h1 : x / c ≤ x := Nat.div_le_self _ _
  exact ⟨wrapU (x + x / c) (by omega), by omega⟩
set_option maxHeartbeats 4000000 in
theorem ones_64 (n : Nat) (h : n < 65536) (w : World) : Calls Tryz.prog 183 #[.int .u64 n] w fun e w' => e = .returned (.int .i64 (onesN n)) ∧ w' = w := by
  go_enter Tryz.func183, Tryz.ntmps183
  go_wp2_with (fail)
  refine bodyPost_ret (results_tmp rfl _ _ _) rfl ⟨?_, rfl⟩
  obtain ⟨e1, b1⟩ := stepA n 2 m0 (by decide) (by omega)
  have r1 : n1 n = (n / 2 &&& m0) + (n &&& m0) := by show (n >>> 1 &&& m0) + (n &&& m0) = _; rw [Nat.shiftRight_eq_div_pow]
  rw [← r1] at e1 b1
  rw [show IntKind.u64.wrap (bits BinOp.and IntKind.u64 ((n : Int) / 2) 6148914691236517205 + bits BinOp.and IntKind.u64 (n : Int) 6148914691236517205) = (n1 n : Int) from e1]
  have r9 : onesN n = Nat.land (n6 (n5 (n4 (n3 (n2 (n1 n)))))) 127 := rfl
  generalize n1 n = x1 at b1 r9 ⊢
  obtain ⟨e2, b2⟩ := stepA x1 4 m1 (by decide) (by omega)
  have r2 : n2 x1 = (x1 / 4 &&& m1) + (x1 &&& m1) := by show (x1 >>> 2 &&& m1) + (x1 &&& m1) = _; rw [Nat.shiftRight_eq_div_pow]
  rw [← r2] at e2 b2
  rw [show IntKind.u64.wrap (bits BinOp.and IntKind.u64 ((x1 : Int) / 4) 3689348814741910323 + bits BinOp.and IntKind.u64 (x1 : Int) 3689348814741910323) = (n2 x1 : Int) from e2]
  generalize n2 x1 = x2 at b2 r9 ⊢
  have e3 : bits BinOp.and IntKind.u64 (IntKind.u64.wrap ((x2 : Int) / 16 + (x2 : Int))) 1085102592571150095 = (n3 x2 : Int) := by
    rw [Int.add_comm, show ((16 : Int)) = ((16 : Nat) : Int) from rfl, (stepB x2 16 (by omega)).1]
    have := andU (x2 + x2 / 16) m2 (by have := (stepB x2 16 (by omega)).2; omega) (by decide)
    refine this.trans ?_
    show _ = ((x2 >>> 4 + x2 &&& m2 : Nat) : Int)
    rw [Nat.shiftRight_eq_div_pow, Nat.add_comm]
  have b3 : n3 x2 ≤ 2 * x2 := by
    have h1 : n3 x2 ≤ x2 >>> 4 + x2 := Nat.and_le_left
    rw [Nat.shiftRight_eq_div_pow] at h1
    have h2 : x2 / 2 ^ 4 ≤ x2 := Nat.div_le_self _ _
    omega
  rw [e3]
  have r3 : ∀ x : Nat, n4 x = x + x / 256 ∧ n5 x = x + x / 65536 ∧ n6 x = x + x / 4294967296 := fun x => ⟨by show x + x >>> 8 = _; rw [Nat.shiftRight_eq_div_pow], by show x + x >>> 16 = _; rw [Nat.shiftRight_eq_div_pow], by show x + x >>> 32 = _; rw [Nat.shiftRight_eq_div_pow]⟩
  generalize n3 x2 = x3 at b3 r9 ⊢
  obtain ⟨e4, b4⟩ := stepB x3 256 (by omega)
  rw [← (r3 x3).1] at e4 b4
  rw [show IntKind.u64.wrap ((x3 : Int) + (x3 : Int) / 256) = (n4 x3 : Int) from e4]
  generalize n4 x3 = x4 at b4 r9 ⊢
  obtain ⟨e5, b5⟩ := stepB x4 65536 (by omega)
  rw [← (r3 x4).2.1] at e5 b5
  rw [show IntKind.u64.wrap ((x4 : Int) + (x4 : Int) / 65536) = (n5 x4 : Int) from e5]
  generalize n5 x4 = x5 at b5 r9 ⊢
  obtain ⟨e6, b6⟩ := stepB x5 4294967296 (by omega)
  rw [← (r3 x5).2.2] at e6 b6
  rw [show IntKind.u64.wrap ((x5 : Int) + (x5 : Int) / 4294967296) = (n6 x5 : Int) from e6]
  generalize n6 x5 = x6 at b6 r9 ⊢
  have e7 : bits BinOp.and IntKind.i64 (wrap64 (x6 : Int)) 127 = (onesN n : Int) := by
    rw [show wrap64 (x6 : Int) = (x6 : Int) by unfold wrap64; omega, r9, show (127 : Int) = ((2 ^ 7 - 1 : Nat) : Int) from rfl]
    exact and_nat (k := .i64) (show -2 ^ 63 ≤ (x6 : Int) ∧ (x6 : Int) < 2 ^ 63 by omega) (show -2 ^ 63 ≤ ((2 ^ 7 - 1 : Nat) : Int) ∧ ((2 ^ 7 - 1 : Nat) : Int) < 2 ^ 63 by decide) (by have : x6 &&& 127 ≤ x6 := Nat.and_le_left; exact show -2 ^ 63 ≤ ((x6 &&& 127 : Nat) : Int) ∧ ((x6 &&& 127 : Nat) : Int) < 2 ^ 63 by omega)
  rw [e7]
  rfl
theorem ones_05 (n : Nat) (h : n < 65536) (w : World) : Calls Tryz.prog 176 #[.int .u64 n] w fun e w' => e = .returned (.int .i64 (onesN n)) ∧ w' = w := by
  have h1 := ones_64 n h
  generalize onesN n = R at h1
  go_enter Tryz.func176, Tryz.ntmps176
  go_wp2_with (fail)
  ((with_reducible refine (h1 _).mono ?_); rintro e w1 ⟨rfl, rfl⟩)
  go_wp2_with (fail)
  exact bodyPost_ret (results_tmp rfl _ _ _) rfl ⟨rfl, rfl⟩
end Go.Proofs.YtpdkpkabdkefcaaGreatDoor
namespace Go.Proofs.YtpdkpkabdkefcaaGreatDoor
open Go.Sx Go.ChangeShapes Go.WideShapes Go.RowKit Go.Joins Go.Deep Go.Rp
section
variable {w w' : World} {b : Nat} {x : Lk}
set_option maxHeartbeats 4000000 in
theorem lk_data (h : LkAt w b x) : Calls Tryz.prog 115 #[.pointer (some ⟨b, 0, none⟩)] w (LkPost b w x.datL) := by
  obtain ⟨c0, _, c2, _, c4, _, c6, _, c8, _⟩ := h.c
  have hR : x.datL = if x.op ≤ 9 then (x.rdL.rnL.laL 0 4294967295).seS
    else if x.op = 10 ∧ x.md = 2 ∧ x.s = false then { x.is (btB x.rd 0 14 && btB x.rm 0 14) with rd := 0, rm := 0, md := 0 }
    else if x.op ≤ 11 then (x.rdL.laL 0 4294967295).seS
    else if x.op ≤ 15 then x.rnL.laL 0 4294967295
    else if x.op ≤ 19 then (x.rdL.rnL.laL 1 (if x.op = 17 ∨ x.op = 18 then 32 else 31)).seS
    else if x.op ≤ 22 then x.rdL.rnL.rgL
    else x.rdL.imL 0 65535 := rfl
  have p1 := within_05 x.rd 0 14
  have p2 := within_05 x.rm 0 14
  generalize x.datL = y at hR
  generalize x.op = o at c0 hR
  generalize x.md = m at c6 hR
  generalize hs : x.s = s at c8 hR
  clear hs
  unfold LkPost
  go_enter Tryz.func115, Tryz.ntmps115
  cases a1 : decide (o ≤ 9)
  rotate_left
  · rw [if_pos (of_decide_eq_true a1)] at hR
    subst hR
    have h1 := lk_d h
    unfold LkPost at h1
    go_wp2_with (fail)
    ((with_reducible refine h1.mono ?_); rintro e w1 ⟨rfl, l1, t1⟩)
    clear h1
    have s1 := t1
    have h2 := lk_n l1
    unfold LkPost at h2
    go_wp2_with (fail)
    ((with_reducible refine h2.mono ?_); rintro e w2 ⟨rfl, l2, t2⟩)
    clear h2
    have s2 := s1.trans t2
    have h3 := lk_last l2 0 4294967295
    unfold LkPost at h3
    go_wp2_with (fail)
    ((with_reducible refine h3.mono ?_); rintro e w3 ⟨rfl, l3, t3⟩)
    clear h3
    have s3 := s2.trans t3
    have f3 := fun j => l3.fz j
    obtain ⟨k0, k1, k2, k3, k4, k5, k6, k7, k8, k9⟩ := l3.c
    have f3_8 := l3.fz 8
    clear f3
    go_wp2_with (fail)
    have l4 := (l3.set (y := Lk.seS _) 8 (.bool false) rfl)
    have s4 := (s3.trans (Stay.set (d := b) _ 8 (.bool false)))
    clear k0 k1 k2 k3 k4 k5 k6 k7 k8 k9 f3_8
    go_wp2_with (fail)
    exact bodyPost_end (results_none rfl _ _ _) rfl ⟨rfl, l4, s4⟩
  rw [if_neg (of_decide_eq_false a1)] at hR
  cases a2 : (o == 10)
  rotate_left
  · obtain rfl := eq_of_beq a2
    cases a3 : (m == 2)
    · rw [if_neg (fun e => by have := ne_of_beq_false a3; exact this e.2.1), if_pos (by decide)] at hR
      subst hR
      have h1 := lk_d h
      unfold LkPost at h1
      go_wp2_with (fail)
      ((with_reducible refine h1.mono ?_); rintro e w1 ⟨rfl, l1, t1⟩)
      clear h1
      have s1 := t1
      have h2 := lk_last l1 0 4294967295
      unfold LkPost at h2
      go_wp2_with (fail)
      ((with_reducible refine h2.mono ?_); rintro e w2 ⟨rfl, l2, t2⟩)
      clear h2
      have s2 := s1.trans t2
      have f2 := fun j => l2.fz j
      obtain ⟨k0, k1, k2, k3, k4, k5, k6, k7, k8, k9⟩ := l2.c
      have f2_8 := l2.fz 8
      clear f2
      go_wp2_with (fail)
      have l3 := (l2.set (y := Lk.seS _) 8 (.bool false) rfl)
      have s3 := (s2.trans (Stay.set (d := b) _ 8 (.bool false)))
      clear k0 k1 k2 k3 k4 k5 k6 k7 k8 k9 f2_8
      go_wp2_with (fail)
      exact bodyPost_end (results_none rfl _ _ _) rfl ⟨rfl, l3, s3⟩
    obtain rfl := eq_of_beq a3
    cases s
    rotate_left
    · rw [if_neg (fun e => by cases e.2.2), if_pos (by decide)] at hR
      subst hR
      have h1 := lk_d h
      unfold LkPost at h1
      go_wp2_with (fail)
      ((with_reducible refine h1.mono ?_); rintro e w1 ⟨rfl, l1, t1⟩)
      clear h1
      have s1 := t1
      have h2 := lk_last l1 0 4294967295
      unfold LkPost at h2
      go_wp2_with (fail)
      ((with_reducible refine h2.mono ?_); rintro e w2 ⟨rfl, l2, t2⟩)
      clear h2
      have s2 := s1.trans t2
      have f2 := fun j => l2.fz j
      obtain ⟨k0, k1, k2, k3, k4, k5, k6, k7, k8, k9⟩ := l2.c
      have f2_8 := l2.fz 8
      clear f2
      go_wp2_with (fail)
      have l3 := (l2.set (y := Lk.seS _) 8 (.bool false) rfl)
      have s3 := (s2.trans (Stay.set (d := b) _ 8 (.bool false)))
      clear k0 k1 k2 k3 k4 k5 k6 k7 k8 k9 f2_8
      go_wp2_with (fail)
      exact bodyPost_end (results_none rfl _ _ _) rfl ⟨rfl, l3, s3⟩
    rw [if_pos ⟨rfl, rfl, rfl⟩] at hR
    subst hR
    generalize btB x.rd 0 14 = q1 at p1
    generalize btB x.rm 0 14 = q2 at p2
    generalize x.rd = rd at c2 p1
    generalize x.rm = rm at c4 p2
    have hk : ∀ w1, LkAt w1 b (x.is (q1 && q2)) → LkAt (((w1.setCell ⟨b, 2, none⟩ (.int .i64 0)).setCell ⟨b, 4, none⟩ (.int .i64 0)).setCell ⟨b, 6, none⟩ (.int .i64 0)) b { x.is (q1 && q2) with rd := 0, rm := 0, md := 0 } := fun w1 l => ((l.set (y := { x.is (q1 && q2) with rd := 0 }) 2 _ rfl).set (y := { x.is (q1 && q2) with rd := 0, rm := 0 }) 4 _ rfl).set 6 _ rfl
    cases q1
    · have h1 := lk_is h (false && q2)
      unfold LkPost at h1
      rw [Bool.false_and] at h1 hk
      go_wp2_with (fail)
      ((with_reducible refine (p1 _).mono ?_); rintro e wq ⟨rfl, rfl⟩)
      go_wp2_with (fail)
      ((with_reducible refine h1.mono ?_); rintro e w1 ⟨rfl, l1, s1⟩)
      obtain ⟨k0, k1, k2, k3, k4, k5, k6, k7, k8, k9⟩ := l1.c
      have f2 := l1.fz 2
      have f4 := l1.fz 4
      have f6 := l1.fz 6
      go_wp2_with (fail)
      exact bodyPost_end (results_none rfl _ _ _) rfl ⟨rfl, (by first | exact hk _ l1 | (rw [Bool.false_and]; exact hk _ l1)), s1.trans ((Stay.set (d := b) _ 2 _).trans ((Stay.set (d := b) _ 4 _).trans (Stay.set (d := b) _ 6 _)))⟩
    · have h1 := lk_is h (true && q2)
      unfold LkPost at h1
      rw [Bool.true_and] at h1 hk
      go_wp2_with (fail)
      ((with_reducible refine (p1 _).mono ?_); rintro e wq ⟨rfl, rfl⟩)
      go_wp2_with (fail)
      ((with_reducible refine (p2 _).mono ?_); rintro e wq ⟨rfl, rfl⟩)
      go_wp2_with (fail)
      ((with_reducible refine h1.mono ?_); rintro e w1 ⟨rfl, l1, s1⟩)
      obtain ⟨k0, k1, k2, k3, k4, k5, k6, k7, k8, k9⟩ := l1.c
      have f2 := l1.fz 2
      have f4 := l1.fz 4
      have f6 := l1.fz 6
      go_wp2_with (fail)
      exact bodyPost_end (results_none rfl _ _ _) rfl ⟨rfl, (by first | exact hk _ l1 | (rw [Bool.true_and]; exact hk _ l1)), s1.trans ((Stay.set (d := b) _ 2 _).trans ((Stay.set (d := b) _ 4 _).trans (Stay.set (d := b) _ 6 _)))⟩
  rw [if_neg (fun e => by have := ne_of_beq_false a2; exact this e.1)] at hR
  cases a3 : decide (o ≤ 11)
  rotate_left
  · rw [if_pos (of_decide_eq_true a3)] at hR
    subst hR
    have h1 := lk_d h
    unfold LkPost at h1
    go_wp2_with (fail)
    ((with_reducible refine h1.mono ?_); rintro e w1 ⟨rfl, l1, t1⟩)
    clear h1
    have s1 := t1
    have h2 := lk_last l1 0 4294967295
    unfold LkPost at h2
    go_wp2_with (fail)
    ((with_reducible refine h2.mono ?_); rintro e w2 ⟨rfl, l2, t2⟩)
    clear h2
    have s2 := s1.trans t2
    have f2 := fun j => l2.fz j
    obtain ⟨k0, k1, k2, k3, k4, k5, k6, k7, k8, k9⟩ := l2.c
    have f2_8 := l2.fz 8
    clear f2
    go_wp2_with (fail)
    have l3 := (l2.set (y := Lk.seS _) 8 (.bool false) rfl)
    have s3 := (s2.trans (Stay.set (d := b) _ 8 (.bool false)))
    clear k0 k1 k2 k3 k4 k5 k6 k7 k8 k9 f2_8
    go_wp2_with (fail)
    exact bodyPost_end (results_none rfl _ _ _) rfl ⟨rfl, l3, s3⟩
  rw [if_neg (of_decide_eq_false a3)] at hR
  cases a4 : decide (o ≤ 15)
  rotate_left
  · rw [if_pos (of_decide_eq_true a4)] at hR
    subst hR
    have h1 := lk_n h
    unfold LkPost at h1
    go_wp2_with (fail)
    ((with_reducible refine h1.mono ?_); rintro e w1 ⟨rfl, l1, t1⟩)
    clear h1
    have s1 := t1
    have h2 := lk_last l1 0 4294967295
    unfold LkPost at h2
    go_wp2_with (fail)
    ((with_reducible refine h2.mono ?_); rintro e w2 ⟨rfl, l2, t2⟩)
    clear h2
    have s2 := s1.trans t2
    go_wp2_with (fail)
    exact bodyPost_end (results_none rfl _ _ _) rfl ⟨rfl, l2, s2⟩
  rw [if_neg (of_decide_eq_false a4)] at hR
  cases a5 : decide (o ≤ 19)
  rotate_left
  · rw [if_pos (of_decide_eq_true a5)] at hR
    cases a6 : (o == 17)
    · cases a7 : (o == 18)
      · rw [if_neg (fun e => by have h1 := ne_of_beq_false a6; have h2 := ne_of_beq_false a7; exact e.elim h1 h2)] at hR
        subst hR
        have h1 := lk_d h
        unfold LkPost at h1
        go_wp2_with (fail)
        ((with_reducible refine h1.mono ?_); rintro e w1 ⟨rfl, l1, t1⟩)
        clear h1
        have s1 := t1
        have h2 := lk_n l1
        unfold LkPost at h2
        go_wp2_with (fail)
        ((with_reducible refine h2.mono ?_); rintro e w2 ⟨rfl, l2, t2⟩)
        clear h2
        have s2 := s1.trans t2
        have h3 := lk_last l2 1 31
        unfold LkPost at h3
        go_wp2_with (fail)
        ((with_reducible refine h3.mono ?_); rintro e w3 ⟨rfl, l3, t3⟩)
        clear h3
        have s3 := s2.trans t3
        have f3 := fun j => l3.fz j
        obtain ⟨k0, k1, k2, k3, k4, k5, k6, k7, k8, k9⟩ := l3.c
        have f3_8 := l3.fz 8
        clear f3
        go_wp2_with (fail)
        have l4 := (l3.set (y := Lk.seS _) 8 (.bool false) rfl)
        have s4 := (s3.trans (Stay.set (d := b) _ 8 (.bool false)))
        clear k0 k1 k2 k3 k4 k5 k6 k7 k8 k9 f3_8
        go_wp2_with (fail)
        exact bodyPost_end (results_none rfl _ _ _) rfl ⟨rfl, l4, s4⟩
      · rw [if_pos (.inr (eq_of_beq a7))] at hR
        subst hR
        have h1 := lk_d h
        unfold LkPost at h1
        go_wp2_with (fail)
        ((with_reducible refine h1.mono ?_); rintro e w1 ⟨rfl, l1, t1⟩)
        clear h1
        have s1 := t1
        have h2 := lk_n l1
        unfold LkPost at h2
        go_wp2_with (fail)
        ((with_reducible refine h2.mono ?_); rintro e w2 ⟨rfl, l2, t2⟩)
        clear h2
        have s2 := s1.trans t2
        have h3 := lk_last l2 1 32
        unfold LkPost at h3
        go_wp2_with (fail)
        ((with_reducible refine h3.mono ?_); rintro e w3 ⟨rfl, l3, t3⟩)
        clear h3
        have s3 := s2.trans t3
        have f3 := fun j => l3.fz j
        obtain ⟨k0, k1, k2, k3, k4, k5, k6, k7, k8, k9⟩ := l3.c
        have f3_8 := l3.fz 8
        clear f3
        go_wp2_with (fail)
        have l4 := (l3.set (y := Lk.seS _) 8 (.bool false) rfl)
        have s4 := (s3.trans (Stay.set (d := b) _ 8 (.bool false)))
        clear k0 k1 k2 k3 k4 k5 k6 k7 k8 k9 f3_8
        go_wp2_with (fail)
        exact bodyPost_end (results_none rfl _ _ _) rfl ⟨rfl, l4, s4⟩
    · rw [if_pos (.inl (eq_of_beq a6))] at hR
      subst hR
      have h1 := lk_d h
      unfold LkPost at h1
      go_wp2_with (fail)
      ((with_reducible refine h1.mono ?_); rintro e w1 ⟨rfl, l1, t1⟩)
      clear h1
      have s1 := t1
      have h2 := lk_n l1
      unfold LkPost at h2
      go_wp2_with (fail)
      ((with_reducible refine h2.mono ?_); rintro e w2 ⟨rfl, l2, t2⟩)
      clear h2
      have s2 := s1.trans t2
      have h3 := lk_last l2 1 32
      unfold LkPost at h3
      go_wp2_with (fail)
      ((with_reducible refine h3.mono ?_); rintro e w3 ⟨rfl, l3, t3⟩)
      clear h3
      have s3 := s2.trans t3
      have f3 := fun j => l3.fz j
      obtain ⟨k0, k1, k2, k3, k4, k5, k6, k7, k8, k9⟩ := l3.c
      have f3_8 := l3.fz 8
      clear f3
      go_wp2_with (fail)
      have l4 := (l3.set (y := Lk.seS _) 8 (.bool false) rfl)
      have s4 := (s3.trans (Stay.set (d := b) _ 8 (.bool false)))
      clear k0 k1 k2 k3 k4 k5 k6 k7 k8 k9 f3_8
      go_wp2_with (fail)
      exact bodyPost_end (results_none rfl _ _ _) rfl ⟨rfl, l4, s4⟩
  rw [if_neg (of_decide_eq_false a5)] at hR
  cases a8 : decide (o ≤ 22)
  · rw [if_neg (of_decide_eq_false a8)] at hR
    subst hR
    have h1 := lk_d h
    unfold LkPost at h1
    go_wp2_with (fail)
    ((with_reducible refine h1.mono ?_); rintro e w1 ⟨rfl, l1, t1⟩)
    clear h1
    have s1 := t1
    have h2 := lk_imm l1 0 65535
    unfold LkPost at h2
    go_wp2_with (fail)
    ((with_reducible refine h2.mono ?_); rintro e w2 ⟨rfl, l2, t2⟩)
    clear h2
    have s2 := s1.trans t2
    go_wp2_with (fail)
    exact bodyPost_end (results_none rfl _ _ _) rfl ⟨rfl, l2, s2⟩
  · rw [if_pos (of_decide_eq_true a8)] at hR
    subst hR
    have h1 := lk_d h
    unfold LkPost at h1
    go_wp2_with (fail)
    ((with_reducible refine h1.mono ?_); rintro e w1 ⟨rfl, l1, t1⟩)
    clear h1
    have s1 := t1
    have h2 := lk_n l1
    unfold LkPost at h2
    go_wp2_with (fail)
    ((with_reducible refine h2.mono ?_); rintro e w2 ⟨rfl, l2, t2⟩)
    clear h2
    have s2 := s1.trans t2
    have h3 := lk_reg l2
    unfold LkPost at h3
    go_wp2_with (fail)
    ((with_reducible refine h3.mono ?_); rintro e w3 ⟨rfl, l3, t3⟩)
    clear h3
    have s3 := s2.trans t3
    go_wp2_with (fail)
    exact bodyPost_end (results_none rfl _ _ _) rfl ⟨rfl, l3, s3⟩
end
end Go.Proofs.YtpdkpkabdkefcaaGreatDoor
namespace Go.Proofs.YtpdkpkabdkefcaaGreatDoor
open Go.Sx Go.ChangeShapes Go.WideShapes Go.RowKit Go.Joins Go.Deep Go.Rp
theorem low16 {l m : Int} (hl : -2 ^ 63 ≤ l ∧ l < 2 ^ 63) {k : Nat} (hk : m = (k : Int)) (hm : k < 65536) (h0 : 0 < l) (h : bits BinOp.andNot IntKind.i64 l m = 0) : l < 65536 := by
  subst hk
  have h1 : l = l % 2 ^ 16 := by
    refine eq_of_has (k := .i64) hl (show -2 ^ 63 ≤ l % 2 ^ 16 ∧ l % 2 ^ 16 < 2 ^ 63 by omega) fun i hi => ?_
    by_cases hi16 : i < 16
    · exact (bitI_emod l 16 i hi16).symm
    · rw [bitI_high (l % 2 ^ 16) 16 i (by omega) (by omega) (by omega), decide_eq_false (by omega)]
      have hb := (bitsOp_bit .i64 (fun a b => a &&& ~~~b) (fun a b => a && !b) (by intro a b i hi; simp [hi]) l (k : Int) i hi)
      rw [show bitsOp .i64 (fun a b => a &&& ~~~b) l (k : Int) = 0 from h, bitI_nat, Nat.testBit_lt_two_pow (Nat.lt_of_lt_of_le hm (Nat.pow_le_pow_right (n := 2) (by decide) (show 16 ≤ i by omega)))] at hb
      rw [show bitI 0 i = false by rw [show (0 : Int) = ((0 : Nat) : Int) from rfl, bitI_nat]; simp] at hb
      simpa using hb.symm
  omega
section
variable {w w' : World} {b : Nat} {x : Lk}
theorem lk_list (h : LkAt w b x) (hl : -2 ^ 63 ≤ x.ls ∧ x.ls < 2 ^ 63) (least more : Int) (hm : more = -1 ∨ more = 15) : Calls Tryz.prog 156 #[.pointer (some ⟨b, 0, none⟩), .int .i64 least, .int .i64 more] w (LkPost b w (x.liL least more)) := by
  obtain ⟨m, k, hM, hk, hk2, hm2⟩ : ∃ (m : Int) (k : Nat), (if more = 15 then (57343 : Int) else 24575) = m ∧ m = k ∧ k < 65536 ∧ (more = -1 ∧ m = 24575 ∨ more = 15 ∧ m = 57343) := by
    rcases hm with rfl | rfl
    · exact ⟨24575, 24575, rfl, rfl, by decide, .inl ⟨rfl, rfl⟩⟩
    · exact ⟨57343, 57343, rfl, rfl, by decide, .inr ⟨rfl, rfl⟩⟩
  have hL : x.liL least more = { x.is (liB x.ls least m) with ls := 0 } := by rw [← hM]; rfl
  have hi := fun w1 (l : LkAt w1 b x) => lk_is l (liB x.ls least m)
  have hk1 : ∀ w1, LkAt w1 b (x.is (liB x.ls least m)) → LkAt (w1.setCell ⟨b, 7, none⟩ (.int .i64 0)) b (x.liL least more) := fun w1 l => l.set 7 _ (by rw [hL]; rfl)
  obtain ⟨_, _, _, _, _, _, _, c7, _⟩ := h.c
  have hB : liB x.ls least m = ((decide (0 < x.ls) && (bits BinOp.andNot IntKind.i64 x.ls m == 0)) && decide (least ≤ (Ones.onesN x.ls.toNat : Int))) := rfl
  have hu := fun h0 h1 => low16 hl hk hk2 h0 h1
  generalize x.liL least more = y at hk1
  clear hL hM hm
  generalize liB x.ls least m = q at hi hk1 hB
  generalize x.is q = z at hi hk1
  generalize x.ls = r at c7 hB hu
  generalize hf : bits BinOp.andNot IntKind.i64 r m = f at hB hu
  clear hk hk2
  have hi0 := hi w h
  unfold LkPost at hi0 ⊢
  go_enter Tryz.func156, Tryz.ntmps156
  rcases hm2 with ⟨rfl, rfl⟩ | ⟨rfl, rfl⟩
  all_goals
    have hor : bits BinOp.or IntKind.i64 24575 32768 = 57343 := by decide +kernel
    cases a1 : decide (0 < r)
    · rw [a1, Bool.false_and, Bool.false_and] at hB
      subst hB
      go_wp2_with (fail)
      ((with_reducible refine hi0.mono ?_); rintro e w1 ⟨rfl, l1, s1⟩)
      obtain ⟨_, _, _, _, _, _, _, k7, _⟩ := l1.c
      have f1 := l1.fz 7
      go_wp2_with (fail)
      exact bodyPost_end (results_none rfl _ _ _) rfl ⟨rfl, hk1 _ l1, s1.trans (Stay.set _ _ _)⟩
    have h0 := of_decide_eq_true a1
    rw [a1, Bool.true_and] at hB
    cases a2 : (f == 0)
    · rw [a2, Bool.false_and] at hB
      subst hB
      rw [← hf] at a2
      clear hf hu
      go_wp2_with (fail)
      ((with_reducible refine hi0.mono ?_); rintro e w1 ⟨rfl, l1, s1⟩)
      obtain ⟨_, _, _, _, _, _, _, k7, _⟩ := l1.c
      have f1 := l1.fz 7
      go_wp2_with (fail)
      exact bodyPost_end (results_none rfl _ _ _) rfl ⟨rfl, hk1 _ l1, s1.trans (Stay.set _ _ _)⟩
    have h6 := hu h0 (eq_of_beq a2)
    rw [a2, Bool.true_and] at hB
    clear hu
    obtain ⟨n, rfl⟩ : ∃ n : Nat, r = n := ⟨r.toNat, by omega⟩
    have ho := ones_05 n (by omega)
    rw [Int.toNat_natCast] at hB
    have a3 := eq_of_beq a2
    rw [← hf] at a3
    clear hf a2
    subst hB
    have hw : IntKind.u64.wrap (n : Int) = n := wrapU n (by omega)
    clear h6
    generalize Ones.onesN n = c at ho hi0
    go_wp2_with (fail)
    ((with_reducible refine (ho _).mono ?_); rintro e w1 ⟨rfl, rfl⟩)
    go_wp2_with (fail)
    ((with_reducible refine hi0.mono ?_); rintro e w1 ⟨rfl, l1, s1⟩)
    obtain ⟨_, _, _, _, _, _, _, k7, _⟩ := l1.c
    have f1 := l1.fz 7
    go_wp2_with (fail)
    exact bodyPost_end (results_none rfl _ _ _) rfl ⟨rfl, hk1 _ l1, s1.trans (Stay.set _ _ _)⟩
end
end Go.Proofs.YtpdkpkabdkefcaaGreatDoor
namespace Go.Proofs.YtpdkpkabdkefcaaGreatDoor
open Go.Sx Go.ChangeShapes Go.WideShapes Go.RowKit Go.Joins Go.Deep Go.Rp
section
variable {w w' : World} {b : Nat} {x : Lk}
set_option maxHeartbeats 4000000 in
theorem lk_many (h : LkAt w b x) (hl : -2 ^ 63 ≤ x.ls ∧ x.ls < 2 ^ 63) : Calls Tryz.prog 119 #[.pointer (some ⟨b, 0, none⟩)] w (LkPost b w x.manL) := by
  obtain ⟨c0, _, _, c3, _, _, _, c7, _⟩ := h.c
  have hR : x.manL = if x.op = 31 ∨ x.op = 32 then ((x.is (!btB x.rn 0 15 || (bits BinOp.and IntKind.i64 (x.ls / 2 ^ x.rn.toNat) 1 == 0))).rnL).liL 2 (-1)
    else if x.op = 33 then x.liL 1 (-1)
    else if x.op = 34 then (x.is (bits BinOp.and IntKind.i64 (x.ls / 16384) 3 != 3)).liL 1 15
    else x := rfl
  have p1 := within_05 x.rn 0 15
  have HL := Lib.hid hl
  clear hl
  generalize x.manL = y at hR
  generalize x.op = o at c0 hR
  unfold LkPost
  go_enter Tryz.func119, Tryz.ntmps119
  by_cases a0 : o = 31 ∨ o = 32
  · rw [if_pos a0] at hR
    subst hR
    obtain ⟨q, hq⟩ : ∃ q, q = (!btB x.rn 0 15 || (bits BinOp.and IntKind.i64 (x.ls / 2 ^ x.rn.toNat) 1 == 0)) := ⟨_, rfl⟩
    rw [← hq]
    have kS : w.drew.cell? ⟨b, 3, none⟩ = some (.int .i64 x.rn) ∧ w.drew.cell? ⟨b, 7, none⟩ = some (.int .i64 x.ls) := ⟨c3, c7⟩
    have h2 := lk_is (show LkAt w.drew b x from h) q
    unfold LkPost at h2
    rcases a0 with rfl | rfl
    all_goals
      cases a2 : btB x.rn 0 15
      · rw [a2] at p1 hq
        obtain rfl : q = true := hq
        clear a2
        go_wp2_with (fail)
        refine wpN_start (S := fun w' => w'.cell? ⟨b, 3, none⟩ = some (.int .i64 x.rn) ∧ w'.cell? ⟨b, 7, none⟩ = some (.int .i64 x.ls)) (by kernel_rfl) kS (fun hHeld => ?_)
        repeat (refine nx ?_; (try simp only [Act.put, List.setIfInBounds_toArray, List.set_cons_zero, List.set_cons_succ]))
        refine cl (fun K hK => ?_)
        go_simp
        ((with_reducible refine (p1 _).mono ?_); rintro e w7 ⟨rfl, rfl⟩)
        refine hK.out _ _ (by assumption) (fun hHeld => ?_)
        clear hK K
        repeat (refine nx ?_; (try simp only [Act.put, List.setIfInBounds_toArray, List.set_cons_zero, List.set_cons_succ]))
        skip
        refine cl (fun K hK => ?_)
        go_simp
        ((with_reducible refine h2.mono ?_); rintro e w1 ⟨rfl, l1, s1⟩)
        have t1 : Stay b w w1 := ⟨s1.os, s1.tape, s1.output, s1.size, s1.block⟩
        refine hK.out _ _ ⟨by have := l1.c.2.2.2.1; first | exact this | (rw [← HM.out]; exact this), l1.c.2.2.2.2.2.2.2.1⟩ (fun hHeld => ?_)
        clear hK K
        refine wpN_nil ?_
        have h2 := lk_n l1
        unfold LkPost at h2
        go_wp2_with (fail)
        ((with_reducible refine h2.mono ?_); rintro e w2 ⟨rfl, l2, t2⟩)
        clear h2
        have s2 := t2
        have s3 := t1.trans s2
        have h3 := lk_list l2 (by exact HL.out) 2 (-1) (.inl rfl)
        unfold LkPost at h3
        go_wp2_with (fail)
        ((with_reducible refine h3.mono ?_); rintro e w3 ⟨rfl, l3, t3⟩)
        go_wp2_with (fail)
        exact bodyPost_end (results_none rfl _ _ _) rfl ⟨rfl, l3, s3.trans t3⟩
      · rw [a2] at p1 hq
        have hb : 0 ≤ x.rn ∧ x.rn ≤ 15 := by unfold btB at a2; simpa using a2
        obtain ⟨m, hm⟩ : ∃ m : Nat, x.rn = m := ⟨x.rn.toNat, by omega⟩
        have hm15 : m ≤ 15 := by omega
        rw [hm] at kS p1 c3 hq
        rw [Int.toNat_natCast] at hq
        have hq2 : q = (bits BinOp.and IntKind.i64 (x.ls / 2 ^ m) 1 == 0) := by rw [hq]; rfl
        rw [hq2] at h2
        have HQ := Lib.hid hq2
        have HM := Lib.hid hm
        clear hq hq2 hb hm
        clear a2
        go_wp2_with (fail)
        refine wpN_start (S := fun w' => w'.cell? ⟨b, 3, none⟩ = some (.int .i64 m) ∧ w'.cell? ⟨b, 7, none⟩ = some (.int .i64 x.ls)) (by kernel_rfl) kS (fun hHeld => ?_)
        repeat (refine nx ?_; (try simp only [Act.put, List.setIfInBounds_toArray, List.set_cons_zero, List.set_cons_succ]))
        refine cl (fun K hK => ?_)
        go_simp
        ((with_reducible refine (p1 _).mono ?_); rintro e w7 ⟨rfl, rfl⟩)
        refine hK.out _ _ (by assumption) (fun hHeld => ?_)
        clear hK K
        repeat (refine nx ?_; (try simp only [Act.put, List.setIfInBounds_toArray, List.set_cons_zero, List.set_cons_succ]))
        skip
        refine cl (fun K hK => ?_)
        go_simp
        ((with_reducible refine h2.mono ?_); rintro e w1 ⟨rfl, l1, s1⟩)
        rw [← HQ.out] at l1
        have t1 : Stay b w w1 := ⟨s1.os, s1.tape, s1.output, s1.size, s1.block⟩
        refine hK.out _ _ ⟨by have := l1.c.2.2.2.1; first | exact this | (rw [← HM.out]; exact this), l1.c.2.2.2.2.2.2.2.1⟩ (fun hHeld => ?_)
        clear hK K
        refine wpN_nil ?_
        have h2 := lk_n l1
        unfold LkPost at h2
        go_wp2_with (fail)
        ((with_reducible refine h2.mono ?_); rintro e w2 ⟨rfl, l2, t2⟩)
        clear h2
        have s2 := t2
        have s3 := t1.trans s2
        have h3 := lk_list l2 (by exact HL.out) 2 (-1) (.inl rfl)
        unfold LkPost at h3
        go_wp2_with (fail)
        ((with_reducible refine h3.mono ?_); rintro e w3 ⟨rfl, l3, t3⟩)
        go_wp2_with (fail)
        exact bodyPost_end (results_none rfl _ _ _) rfl ⟨rfl, l3, s3.trans t3⟩
  rw [if_neg a0] at hR
  obtain ⟨b1, b2⟩ := not_or.1 a0
  have a1 : (o == 31) = false := by simpa using b1
  have a2 : (o == 32) = false := by simpa using b2
  clear a0 b1 b2
  cases a3 : (o == 33)
  rotate_left
  · rw [if_pos (eq_of_beq a3)] at hR
    subst hR
    have h3 := lk_list h (by exact HL.out) 1 (-1) (.inl rfl)
    unfold LkPost at h3
    go_wp2_with (fail)
    ((with_reducible refine h3.mono ?_); rintro e w3 ⟨rfl, l3, t3⟩)
    go_wp2_with (fail)
    exact bodyPost_end (results_none rfl _ _ _) rfl ⟨rfl, l3, t3⟩
  rw [if_neg (ne_of_beq_false a3)] at hR
  cases a4 : (o == 34)
  rotate_left
  · rw [if_pos (eq_of_beq a4)] at hR
    subst hR
    have h1 := lk_is h (bits BinOp.and IntKind.i64 (x.ls / 16384) 3 != 3)
    unfold LkPost at h1
    go_wp2_with (fail)
    ((with_reducible refine h1.mono ?_); rintro e w1 ⟨rfl, l1, t1⟩)
    clear h1
    have s1 := t1
    have h3 := lk_list l1 (by exact HL.out) 1 15 (.inr rfl)
    unfold LkPost at h3
    go_wp2_with (fail)
    ((with_reducible refine h3.mono ?_); rintro e w3 ⟨rfl, l3, t3⟩)
    go_wp2_with (fail)
    exact bodyPost_end (results_none rfl _ _ _) rfl ⟨rfl, l3, s1.trans t3⟩
  rw [if_neg (ne_of_beq_false a4)] at hR
  subst hR
  go_wp2_with (fail)
  exact bodyPost_end (results_none rfl _ _ _) rfl ⟨rfl, h, Stay.refl _ _⟩
end
end Go.Proofs.YtpdkpkabdkefcaaGreatDoor
namespace Go.Proofs.YtpdkpkabdkefcaaGreatDoor
open Go.Sx Go.ChangeShapes Go.WideShapes Go.RowKit Go.Joins Go.Deep Go.Rp
section
variable {w w' : World} {b : Nat} {x : Lk}
set_option maxHeartbeats 4000000 in
theorem lk_others (h : LkAt w b x) : Calls Tryz.prog 120 #[.pointer (some ⟨b, 0, none⟩)] w (LkPost b w x.othL) := by
  obtain ⟨c0, c1, _, c3, c4, c5, c6, _⟩ := h.c
  have hR : x.othL = if x.op = 35 then (x.is (btB x.ic 0 14)).seC.brL
    else if x.op = 36 then x.brL
    else if x.op = 37 ∨ x.op = 38 then ({ x.is (lowB x.rn && (bits BinOp.and IntKind.i64 x.im 1 == 0)) with rn := 0 } : Lk).imL 0 126
    else if x.op = 39 then { x.is ((x.md == 2) && btB x.rm 0 14) with md := 0, rm := 0 }
    else if x.op = 40 ∨ x.op = 41 then x.rdL.imL (-4095) 4095
    else if x.op = 42 then (x.is (decide (0 < (condsP x.ic x.im).length))).seC.imL 1 15
    else if x.op = 44 then x.imL 0 255
    else if x.op = 45 then x.rnL.rgL
    else x := rfl
  generalize x.othL = y at hR
  generalize x.op = o at c0 hR
  unfold LkPost
  go_enter Tryz.func120, Tryz.ntmps120
  cases a35 : (o == 35)
  rotate_left
  · rw [if_pos (eq_of_beq a35)] at hR
    subst hR
    have p1 := within_05 x.ic 0 14
    go_wp2_with (fail)
    ((with_reducible refine (p1 _).mono ?_); rintro e w7 ⟨rfl, rfl⟩)
    have h1 := lk_is h (btB x.ic 0 14)
    unfold LkPost at h1
    go_wp2_with (fail)
    ((with_reducible refine h1.mono ?_); rintro e w1 ⟨rfl, l1, t1⟩)
    clear h1
    have s1 := t1
    obtain ⟨k0, k1, k2, k3, k4, k5, k6, k7, k8, k9⟩ := l1.c
    have f1 := l1.fz 1
    go_wp2_with (fail)
    have l2 := (l1.set (y := Lk.seC (x.is (btB x.ic 0 14))) 1 (.int .i64 0) rfl)
    have s2 := (s1.trans (Stay.set (d := b) _ 1 (.int .i64 0)))
    clear k0 k1 k2 k3 k4 k5 k6 k7 k8 k9 f1
    have h3 := lk_branch l2
    unfold LkPost at h3
    go_wp2_with (fail)
    ((with_reducible refine h3.mono ?_); rintro e w3 ⟨rfl, l3, t3⟩)
    clear h3
    have s3 := s2.trans t3
    go_wp2_with (fail)
    exact bodyPost_end (results_none rfl _ _ _) rfl ⟨rfl, l3, s3⟩
  rw [if_neg (ne_of_beq_false a35)] at hR
  cases a36 : (o == 36)
  rotate_left
  · rw [if_pos (eq_of_beq a36)] at hR
    subst hR
    have h1 := lk_branch h
    unfold LkPost at h1
    go_wp2_with (fail)
    ((with_reducible refine h1.mono ?_); rintro e w1 ⟨rfl, l1, t1⟩)
    clear h1
    have s1 := t1
    go_wp2_with (fail)
    exact bodyPost_end (results_none rfl _ _ _) rfl ⟨rfl, l1, s1⟩
  rw [if_neg (ne_of_beq_false a36)] at hR
  by_cases a37 : o = 37 ∨ o = 38
  · rw [if_pos a37] at hR
    subst hR
    have p1 := low_05 x.rn
    have h1 := lk_is h (lowB x.rn && (bits BinOp.and IntKind.i64 x.im 1 == 0))
    unfold LkPost at h1
    rcases a37 with rfl | rfl
    all_goals
      cases q : lowB x.rn
      · rw [q, Bool.false_and] at h1
        rw [q] at p1
        go_wp2_with (fail)
        ((with_reducible refine (p1 _).mono ?_); rintro e w7 ⟨rfl, rfl⟩)
        go_wp2_with (fail)
        ((with_reducible refine h1.mono ?_); rintro e w1 ⟨rfl, l1, s1⟩)
        clear h1 p1 q
        obtain ⟨k0, k1, k2, k3, k4, k5, k6, k7, k8, k9⟩ := l1.c
        have f3 := l1.fz 3
        go_wp2_with (fail)
        have l2 := (l1.set (y := { x.is (false) with rn := 0 }) 3 (.int .i64 0) rfl)
        have s2 := (s1.trans (Stay.set (d := b) _ 3 (.int .i64 0)))
        clear k0 k1 k2 k3 k4 k5 k6 k7 k8 k9 f3
        have h3 := lk_imm l2 0 126
        unfold LkPost at h3
        go_wp2_with (fail)
        ((with_reducible refine h3.mono ?_); rintro e w3 ⟨rfl, l3, t3⟩)
        clear h3
        have s3 := s2.trans t3
        go_wp2_with (fail)
        exact bodyPost_end (results_none rfl _ _ _) rfl ⟨rfl, l3, s3⟩
      · rw [q, Bool.true_and] at h1
        rw [q] at p1
        go_wp2_with (fail)
        ((with_reducible refine (p1 _).mono ?_); rintro e w7 ⟨rfl, rfl⟩)
        go_wp2_with (fail)
        ((with_reducible refine h1.mono ?_); rintro e w1 ⟨rfl, l1, s1⟩)
        clear h1 p1 q
        obtain ⟨k0, k1, k2, k3, k4, k5, k6, k7, k8, k9⟩ := l1.c
        have f3 := l1.fz 3
        go_wp2_with (fail)
        have l2 := (l1.set (y := { x.is (bits BinOp.and IntKind.i64 x.im 1 == 0) with rn := 0 }) 3 (.int .i64 0) rfl)
        have s2 := (s1.trans (Stay.set (d := b) _ 3 (.int .i64 0)))
        clear k0 k1 k2 k3 k4 k5 k6 k7 k8 k9 f3
        have h3 := lk_imm l2 0 126
        unfold LkPost at h3
        go_wp2_with (fail)
        ((with_reducible refine h3.mono ?_); rintro e w3 ⟨rfl, l3, t3⟩)
        clear h3
        have s3 := s2.trans t3
        go_wp2_with (fail)
        exact bodyPost_end (results_none rfl _ _ _) rfl ⟨rfl, l3, s3⟩
  rw [if_neg a37] at hR
  obtain ⟨b37, b38⟩ := not_or.1 a37
  replace b37 : (o == 37) = false := by simpa using b37
  replace b38 : (o == 38) = false := by simpa using b38
  clear a37
  cases a39 : (o == 39)
  rotate_left
  · rw [if_pos (eq_of_beq a39)] at hR
    subst hR
    have p1 := within_05 x.rm 0 14
    have h1 := lk_is h ((x.md == 2) && btB x.rm 0 14)
    unfold LkPost at h1
    cases q : (x.md == 2)
    · rw [q, Bool.false_and] at h1
      go_wp2_with (fail)
      ((with_reducible refine h1.mono ?_); rintro e w1 ⟨rfl, l1, s1⟩)
      clear h1 p1 q
      obtain ⟨k0, k1, k2, k3, k4, k5, k6, k7, k8, k9⟩ := l1.c
      have f6 := l1.fz 6
      have f4 := l1.fz 4
      go_wp2_with (fail)
      have l2 := ((l1.set (y := { x.is (false) with md := 0 }) 6 (.int .i64 0) rfl).set (y := { x.is (false) with md := 0, rm := 0 }) 4 (.int .i64 0) rfl)
      have s2 := ((s1.trans (Stay.set (d := b) _ 6 (.int .i64 0))).trans (Stay.set (d := b) _ 4 (.int .i64 0)))
      clear k0 k1 k2 k3 k4 k5 k6 k7 k8 k9 f6 f4
      go_wp2_with (fail)
      exact bodyPost_end (results_none rfl _ _ _) rfl ⟨rfl, l2, s2⟩
    · rw [q, Bool.true_and] at h1
      go_wp2_with (fail)
      ((with_reducible refine (p1 _).mono ?_); rintro e w7 ⟨rfl, rfl⟩)
      go_wp2_with (fail)
      ((with_reducible refine h1.mono ?_); rintro e w1 ⟨rfl, l1, s1⟩)
      clear h1 p1 q
      obtain ⟨k0, k1, k2, k3, k4, k5, k6, k7, k8, k9⟩ := l1.c
      have f6 := l1.fz 6
      have f4 := l1.fz 4
      go_wp2_with (fail)
      have l2 := ((l1.set (y := { x.is (btB x.rm 0 14) with md := 0 }) 6 (.int .i64 0) rfl).set (y := { x.is (btB x.rm 0 14) with md := 0, rm := 0 }) 4 (.int .i64 0) rfl)
      have s2 := ((s1.trans (Stay.set (d := b) _ 6 (.int .i64 0))).trans (Stay.set (d := b) _ 4 (.int .i64 0)))
      clear k0 k1 k2 k3 k4 k5 k6 k7 k8 k9 f6 f4
      go_wp2_with (fail)
      exact bodyPost_end (results_none rfl _ _ _) rfl ⟨rfl, l2, s2⟩
  rw [if_neg (ne_of_beq_false a39)] at hR
  by_cases a40 : o = 40 ∨ o = 41
  · rw [if_pos a40] at hR
    subst hR
    rcases a40 with rfl | rfl
    all_goals
      have h1 := lk_d h
      unfold LkPost at h1
      go_wp2_with (fail)
      ((with_reducible refine h1.mono ?_); rintro e w1 ⟨rfl, l1, t1⟩)
      clear h1
      have s1 := t1
      have h2 := lk_imm l1 (-4095) 4095
      unfold LkPost at h2
      go_wp2_with (fail)
      ((with_reducible refine h2.mono ?_); rintro e w2 ⟨rfl, l2, t2⟩)
      clear h2
      have s2 := s1.trans t2
      go_wp2_with (fail)
      exact bodyPost_end (results_none rfl _ _ _) rfl ⟨rfl, l2, s2⟩
  rw [if_neg a40] at hR
  obtain ⟨b40, b41⟩ := not_or.1 a40
  replace b40 : (o == 40) = false := by simpa using b40
  replace b41 : (o == 41) = false := by simpa using b41
  clear a40
  cases a42 : (o == 42)
  rotate_left
  · rw [if_pos (eq_of_beq a42)] at hR
    subst hR
    have hlt := h.lt
    have kS : w.drew.cell? ⟨b, 1, none⟩ = some (.int .i64 x.ic) ∧ w.drew.cell? ⟨b, 5, none⟩ = some (.int .i64 x.im) := ⟨c1, c5⟩
    have p1 := conds_04 x.ic x.im w.drew
    unfold IntRet at p1
    have hi := fun w1 (l : LkAt w1 b x) => lk_is l (decide (0 < (condsP x.ic x.im).length))
    unfold LkPost at hi
    generalize condsP x.ic x.im = C at p1 hi ⊢
    go_wp2_with (fail)
    refine wpN_start (S := fun w' => w'.cell? ⟨b, 1, none⟩ = some (.int .i64 x.ic) ∧ w'.cell? ⟨b, 5, none⟩ = some (.int .i64 x.im)) (by kernel_rfl) kS (fun hHeld => ?_)
    repeat (refine nx ?_; (try simp only [Act.put, List.setIfInBounds_toArray, List.set_cons_zero, List.set_cons_succ]))
    refine cl (fun K hK => ?_)
    go_simp
    ((with_reducible refine p1.mono ?_); rintro e w1 ⟨⟨A, cp, rfl, _, _, _⟩, hb⟩)
    have l1 : LkAt w1 b x := (hb.block b hlt).trans h
    have s1 : Stay b w w1 := Stay.of_below ((Below.refl _ _).drew.trans hb)
    have h2 := hi _ l1
    refine hK.out _ _ ⟨l1.c.2.1, l1.c.2.2.2.2.2.1⟩ (fun hHeld => ?_)
    clear hK K
    repeat (refine nx ?_; (try simp only [Act.put, List.setIfInBounds_toArray, List.set_cons_zero, List.set_cons_succ]))
    refine cl (fun K hK => ?_)
    go_simp
    ((with_reducible refine h2.mono ?_); rintro e w2 ⟨rfl, l2, s2⟩)
    refine hK.out _ _ ⟨l2.c.2.1, l2.c.2.2.2.2.2.1⟩ (fun hHeld => ?_)
    clear hK K
    refine wpN_nil ?_
    clear h2 hi p1
    have s3 := s1.trans s2
    obtain ⟨k0, k1, k2, k3, k4, k5, k6, k7, k8, k9⟩ := l2.c
    have f1 := l2.fz 1
    go_wp2_with (fail)
    have l4 := (l2.set (y := Lk.seC (x.is (decide (0 < C.length)))) 1 (.int .i64 0) rfl)
    have s4 := (s3.trans (Stay.set (d := b) _ 1 (.int .i64 0)))
    clear k0 k1 k2 k3 k4 k5 k6 k7 k8 k9 f1
    have h5 := lk_imm l4 1 15
    unfold LkPost at h5
    go_wp2_with (fail)
    ((with_reducible refine h5.mono ?_); rintro e w5 ⟨rfl, l5, t5⟩)
    clear h5
    have s5 := s4.trans t5
    go_wp2_with (fail)
    exact bodyPost_end (results_none rfl _ _ _) rfl ⟨rfl, l5, s5⟩
  rw [if_neg (ne_of_beq_false a42)] at hR
  cases a44 : (o == 44)
  rotate_left
  · rw [if_pos (eq_of_beq a44)] at hR
    subst hR
    have h1 := lk_imm h 0 255
    unfold LkPost at h1
    go_wp2_with (fail)
    ((with_reducible refine h1.mono ?_); rintro e w1 ⟨rfl, l1, t1⟩)
    clear h1
    have s1 := t1
    go_wp2_with (fail)
    exact bodyPost_end (results_none rfl _ _ _) rfl ⟨rfl, l1, s1⟩
  rw [if_neg (ne_of_beq_false a44)] at hR
  cases a45 : (o == 45)
  rotate_left
  · rw [if_pos (eq_of_beq a45)] at hR
    subst hR
    have h1 := lk_n h
    unfold LkPost at h1
    go_wp2_with (fail)
    ((with_reducible refine h1.mono ?_); rintro e w1 ⟨rfl, l1, t1⟩)
    clear h1
    have s1 := t1
    have h2 := lk_reg l1
    unfold LkPost at h2
    go_wp2_with (fail)
    ((with_reducible refine h2.mono ?_); rintro e w2 ⟨rfl, l2, t2⟩)
    clear h2
    have s2 := s1.trans t2
    go_wp2_with (fail)
    exact bodyPost_end (results_none rfl _ _ _) rfl ⟨rfl, l2, s2⟩
  rw [if_neg (ne_of_beq_false a45)] at hR
  subst hR
  go_wp2_with (fail)
  exact bodyPost_end (results_none rfl _ _ _) rfl ⟨rfl, h, Stay.refl _ _⟩
end
end Go.Proofs.YtpdkpkabdkefcaaGreatDoor
