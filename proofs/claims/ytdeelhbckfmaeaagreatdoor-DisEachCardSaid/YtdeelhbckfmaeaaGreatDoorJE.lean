/- For the seat: texts joined: SamI, Aft, KerDef, KerA, KerS, KrF, KrU, KrDef, KrA, KrP. -/
import Derived.Test.YtdeelhbckfmaeaaGreatDoorJD
import Derived.TacticsInMore
import Derived.LoopNIn
import Derived.Test.YtdeelhbckfmaeaaGreatDoorJC0
import Derived.Lib.Strings
import Derived.WalkLawsBesides
/- For the seat: two rows of numbers compared; two instructions compared. -/
namespace Go.Proofs.YtdeelhbckfmaeaaGreatDoor
open Go.Sx Go.ChangeShapes Go.WideShapes Go.RowKit Go.Joins Go.Deep

instance : DecidableEq Fields := fun x y =>
  decidable_of_iff (x.x0 = y.x0 ∧ x.x1 = y.x1 ∧ x.x2 = y.x2 ∧ x.x3 = y.x3 ∧ x.x4 = y.x4 ∧ x.x5 = y.x5 ∧ x.x6 = y.x6 ∧ x.x7 = y.x7 ∧ x.b = y.b) (by cases x; cases y; simp)
set_option maxRecDepth 100000 in
theorem take_snoc {α : Type} {l m : List α} {i : Nat} (h : l.take i = m.take i) (hl : i < l.length) (hm : i < m.length) (e : l[i] = m[i]) : l.take (i + 1) = m.take (i + 1) := by
  rw [List.take_succ_eq_append_getElem hl, List.take_succ_eq_append_getElem hm, h, e]

set_option maxRecDepth 100000 in
theorem below_drewN {b n : Nat} {w w' : World} (h : Below b w w') : Below b w (w'.drewN n) := ⟨h.os, h.tape, h.output, h.size, h.block⟩

set_option maxRecDepth 100000 in
set_option maxHeartbeats 2000000 in
theorem ints_r (l m : List Int) (A B : Option Addr) (ca cb : Nat) (w : World) (hA : IAt w w.heap.size A l) (hB : IAt w w.heap.size B m) (hl : l.length ≤ 5000000000) (_hca : l.length ≤ ca) (hcb : m.length ≤ cb) (hm : m.length ≤ 5000000000) :
    Calls Tryz.prog 21 #[.slice A l.length ca, .slice B m.length cb] w fun e w' => e = .returned (.bool (decide (l = m))) ∧ Below w.heap.size w w' := by
  go_enter Tryz.func21, Tryz.ntmps21
  by_cases hne : l.length = m.length
  · have h0 : (((l.length : Int) != (m.length : Int))) = false := by rw [hne]; simp
    rw [← hne]
    go_wp2
    go_loopw [5] (fun k wr => ∃ i : Nat, i ≤ l.length ∧ k = .int .i64 i ∧ l.take i = m.take i ∧ Below w.heap.size w wr) (fun k _ => l.length - (intOf k).toNat)
    case atStart => exact ⟨0, by omega, rfl, rfl, Below.refl _ _⟩
    case round =>
      obtain ⟨i, hi, rfl, hp, hbr⟩ := hrel
      by_cases hlt : i < l.length
      · obtain ⟨g, off, rfl, hg, hc⟩ := (hA.below hbr (Nat.le_refl _)).at_ hlt
        obtain ⟨g', off', rfl, hg', hc'⟩ := (hB.below hbr (Nat.le_refl _)).at_ (k := i) (by omega)
        have hk0 : (0 : Int) ≤ (i : Int) := by omega
        have hkl : (i : Int) < (l.length : Int) := by omega
        have hw1 : wr.drew.cell? ⟨g, off + i, none⟩ = some (.int .i64 l[i]) := hc
        have hw2 : wr.drew.cell? ⟨g', off' + i, none⟩ = some (.int .i64 (m[i]'(by omega))) := hc'
        by_cases he : l[i] = m[i]'(by omega)
        · rw [← he] at hc' hw2
          go_wp2
          go_quiet (fail)
          go_wp2
          go_roundw
          case rel => exact ⟨i + 1, by omega, by go_num, take_snoc hp hlt (by omega) he, below_drewN hbr⟩
          case measure => simp [intOf]; omega
        · go_wp2
          go_quiet (fail)
          go_wp2
          refine bodyPost_ret (results_tmp rfl _ _ _) rfl ?_
          have hd : decide (l = m) = false := decide_eq_false (by rintro rfl; exact he rfl)
          rw [hd]
          exact ⟨rfl, below_drewN hbr⟩
      · have e : i = l.length := by omega
        subst e
        go_wp2
        refine bodyPost_ret (results_tmp rfl _ _ _) rfl ?_
        rw [List.take_length] at hp
        have hd : decide (l = m) = true := decide_eq_true (by rw [hp, hne, List.take_length])
        rw [hd]
        exact ⟨rfl, hbr⟩
  · have h0 : ((l.length : Int) != (m.length : Int)) = true := by
      simp only [bne_iff_ne, ne_eq]
      omega
    go_wp2
    refine bodyPost_ret (results_tmp rfl _ _ _) rfl ?_
    have hd : decide (l = m) = false := decide_eq_false (by rintro rfl; exact hne rfl)
    rw [hd]
    exact ⟨rfl, Below.refl _ _⟩

/-- A slice's address, below block B, where such instructions lie. -/
def FAt (w : World) (B : Nat) (A : Option Addr) (l : List Fields) : Prop :=
  l ≠ [] → ∃ g off, A = some ⟨g, off, none⟩ ∧ g < B ∧ ∀ (i : Nat) (x : Fields), l[i]? = some x → ∀ (j : Nat) (v : Value), x.cells[j]? = some v → w.cell? ⟨g, off + i * 9 + j, none⟩ = some v
set_option maxRecDepth 100000 in
theorem FAt.keep {w w' : World} {B : Nat} {A : Option Addr} {l : List Fields} (h : FAt w B A l) (hk : ∀ p : Addr, p.block < B → ∀ v, w.cell? p = some v → w'.cell? p = some v) : FAt w' B A l := by
  intro hn
  obtain ⟨g, off, e, hb, hc⟩ := h hn
  exact ⟨g, off, e, hb, fun i x hx j v hv => hk _ hb _ (hc i x hx j v hv)⟩
set_option maxRecDepth 100000 in
theorem FAt.below {w w' : World} {B B' : Nat} {A : Option Addr} {l : List Fields} (h : FAt w B A l) (hb : Below B' w w') (hB : B ≤ B') : FAt w' B A l := h.keep fun _ hp _ e => (hb.cell (by omega)).trans e
set_option maxRecDepth 100000 in
theorem FAt.more {w : World} {B B' : Nat} {A : Option Addr} {l : List Fields} (h : FAt w B A l) (hB : B ≤ B') : FAt w B' A l := by
  intro hn
  obtain ⟨g, off, e, hb, hc⟩ := h hn
  exact ⟨g, off, e, by omega, hc⟩
set_option maxRecDepth 100000 in
theorem FAt.at_ {w : World} {B : Nat} {A : Option Addr} {l : List Fields} (h : FAt w B A l) {k : Nat} (hk : k < l.length) :
    ∃ g off, A = some ⟨g, off, none⟩ ∧ g < B ∧ ∀ (j : Nat) (v : Value), l[k].cells[j]? = some v → w.cell? ⟨g, off + k * 9 + j, none⟩ = some v := by
  obtain ⟨g, off, e, hb, hc⟩ := h (by intro e; subst e; simp at hk)
  exact ⟨g, off, e, hb, fun j v hv => hc k l[k] (List.getElem?_eq_getElem hk) j v hv⟩

namespace eqi
def X : SVal := .agg (.ofList [.int .i64 (.var 0), .int .i64 (.var 1), .int .i64 (.var 2), .int .i64 (.var 3), .int .i64 (.var 4), .int .i64 (.var 5), .int .i64 (.var 6), .int .i64 (.var 7), .bool (.var 8)])
def Y : SVal := .agg (.ofList [.int .i64 (.var 9), .int .i64 (.var 10), .int .i64 (.var 11), .int .i64 (.var 12), .int .i64 (.var 13), .int .i64 (.var 14), .int .i64 (.var 15), .int .i64 (.var 16), .bool (.var 17)])
def q (i : Nat) : Tm := .op2 .eq (.var i) (.var (i + 9))
def c : Tm := .op2 .band (q 0) (.op2 .band (q 1) (.op2 .band (q 2) (.op2 .band (q 3) (.op2 .band (q 4) (.op2 .band (q 5) (.op2 .band (q 6) (.op2 .band (q 7) (.op2 .beq (.var 8) (.var 17)))))))))
set_option maxRecDepth 100000 in
theorem run : eqT cx 20 30 X Y = some c := by kernel_rfl
end eqi

def eqB (x y : Fields) : Bool := decide (x = y)
set_option maxRecDepth 100000 in
theorem eqB_yes {x y : Fields} (h : x = y) : eqB x y = true := by unfold eqB; exact decide_eq_true h
set_option maxRecDepth 100000 in
theorem eqB_no {x y : Fields} (h : ¬ x = y) : eqB x y = false := by unfold eqB; exact decide_eq_false h
set_option maxRecDepth 100000 in
/-- Two instructions compared. -/
theorem ins_equal (w : World) (x0 x1 x2 x3 x4 x5 x6 x7 : Int) (xb : Bool) (y0 y1 y2 y3 y4 y5 y6 y7 : Int) (yb : Bool) :
    (Op.equalIn 10000 30 (.agg #[.int .i64 x0, .int .i64 x1, .int .i64 x2, .int .i64 x3, .int .i64 x4, .int .i64 x5, .int .i64 x6, .int .i64 x7, .bool xb]) (.agg #[.int .i64 y0, .int .i64 y1, .int .i64 y2, .int .i64 y3, .int .i64 y4, .int .i64 y5, .int .i64 y6, .int .i64 y7, .bool yb])).run Tryz.prog w =
      .ok (eqB ⟨x0, x1, x2, x3, x4, x5, x6, x7, xb⟩ ⟨y0, y1, y2, y3, y4, y5, y6, y7, yb⟩) w := by
  have h := run_eqT (ρ := envOf F2 [.int x0, .int x1, .int x2, .int x3, .int x4, .int x5, .int x6, .int x7, .bool xb, .int y0, .int y1, .int y2, .int y3, .int y4, .int y5, .int y6, .int y7, .bool yb]) (ι := ι0) w cxok 20 10000 (by decide) eqi.run
  refine Eq.trans h ?_
  congr 1
  show ((x0 == y0) && ((x1 == y1) && ((x2 == y2) && ((x3 == y3) && ((x4 == y4) && ((x5 == y5) && ((x6 == y6) && ((x7 == y7) && (xb == yb))))))))) = _
  unfold eqB
  rw [Bool.eq_iff_iff]
  simp only [Bool.and_eq_true, beq_iff_eq, decide_eq_true_eq, Fields.mk.injEq]
set_option maxRecDepth 100000 in
theorem ins_guard (op : BinOp) (x y : Operand) (xs ys : Array Value) (w : World) : (eqGuard op 30 x y (.agg xs) (.agg ys)).run Tryz.prog w = .ok () w := run_eqGuard_agg w op _ x y _ _ (by kernel_rfl)

set_option maxRecDepth 100000 in
theorem iat_new (w : World) (t : TypeId) (l : List Int) : IAt (w.alloc (.cells (encI l).toArray t)) (w.alloc (.cells (encI l).toArray t)).heap.size (some ⟨w.heap.size, 0, none⟩) l := by
  intro _
  refine ⟨_, _, rfl, by simp, fun i a hi => ?_⟩
  have h : (w.alloc (.cells (encI l).toArray t)).heap[w.heap.size]? = some (.cells (encI l).toArray t (0, 0)) := heap_alloc_new w _
  simp only [World.cell?, h, Nat.zero_add]
  simp [encI, hi]
/-- An instruction of a row, at its place. -/
def InsIn (W : World) (g o : Nat) (x : Fields) : Prop := W.cell? ⟨g, o, none⟩ = some (.int .i64 x.x0) ∧ W.cell? ⟨g, o + 1, none⟩ = some (.int .i64 x.x1) ∧ W.cell? ⟨g, o + 2, none⟩ = some (.int .i64 x.x2) ∧ W.cell? ⟨g, o + 3, none⟩ = some (.int .i64 x.x3) ∧ W.cell? ⟨g, o + 4, none⟩ = some (.int .i64 x.x4) ∧ W.cell? ⟨g, o + 5, none⟩ = some (.int .i64 x.x5) ∧ W.cell? ⟨g, o + 6, none⟩ = some (.int .i64 x.x6) ∧ W.cell? ⟨g, o + 7, none⟩ = some (.int .i64 x.x7) ∧ W.cell? ⟨g, o + 8, none⟩ = some (.bool x.b)
set_option maxRecDepth 100000 in
theorem insIn_of {W : World} {g o : Nat} {x : Fields} (h : ∀ (j : Nat) (v : Value), x.cells[j]? = some v → W.cell? ⟨g, o + j, none⟩ = some v) : InsIn W g o x :=
  ⟨h 0 _ rfl, h 1 _ rfl, h 2 _ rfl, h 3 _ rfl, h 4 _ rfl, h 5 _ rfl, h 6 _ rfl, h 7 _ rfl, h 8 _ rfl⟩
set_option maxRecDepth 100000 in
theorem InsIn.below {W W' : World} {B g o : Nat} {x : Fields} (h : InsIn W g o x) (hb : Below B W W') (hg : g < B) : InsIn W' g o x := by
  unfold InsIn at h ⊢
  have e := fun o => hb.cell (p := ⟨g, o, none⟩) hg
  simp only [e]
  exact h
end Go.Proofs.YtdeelhbckfmaeaaGreatDoor
/- For the seat: the IT state behind an instruction, of both packages. -/
namespace Go.Proofs.YtdeelhbckfmaeaaGreatDoor
open Go.Sx Go.ChangeShapes Go.WideShapes Go.RowKit Go.Joins Go.Deep

namespace aft
def v (i : Nat) : Tm := .var i
def and (a : Tm) (n : Int) : Tm := .op2 (.and .i64) a (.num n)
def rem (a : Tm) (n : Int) : Tm := .op2 .rem a (.num n)
def nextOf (a : Tm) : Tm := .ite (.op2 .eq (and a 7) (.num 0)) (.num 0) (.op2 (.or .i64) (and a 224) (and (.op2 (.shl .i64) a (.num 1)) 31))
def nextRof (a : Tm) : Tm := .ite (.op2 .eq (rem a 8) (.num 0)) (.num 0) (.op2 (.add .i64) (.op2 (.mul .i64) (.op2 (.quo .i64) a (.num 32)) (.num 32)) (rem (.op2 (.mul .i64) (rem a 32) (.num 2)) 32))
def behind (n : Tm) : Tm := .ite (.op2 .eq (v 1) (.num 42)) (.op2 (.or .i64) (.op2 (.shl .i64) (v 2) (.num 4)) (v 6)) n
def low8 : Tm := and (v 0) 255
def aftT : Tm := behind (nextOf (v 0))
def aftR : Tm := behind (nextRof low8)
def ins : SVal := .agg (.ofList [.int .i64 (v 1), .int .i64 (v 2), .int .i64 (v 3), .int .i64 (v 4), .int .i64 (v 5), .int .i64 (v 6), .int .i64 (v 7), .int .i64 (v 8), .bool (v 9)])
def pat : List SVal := [.int .i64 (v 0), ins]
def kn : Kn := ⟨[], [], [], [], [0]⟩
set_option maxRecDepth 100000 in
theorem run_p : pxIs sg (.int .i64 aftT) (callT cx noS (run cx noS 400) 35 pat [] (.bit true)) kn = true := by kernel_rfl
set_option maxRecDepth 100000 in
theorem run_r : pxIs sg (.int .i64 aftR) (callT cx noS (run cx noS 400) 30 pat [] (.bit true)) kn = true := by kernel_rfl
set_option maxRecDepth 100000 in
theorem low_a : pxT sg (.op2 .eq (nextOf (v 0)) (nextOf low8)) kn (fun _ => true) = true := by kernel_rfl
set_option maxRecDepth 100000 in
theorem low_b : pxT sg (.op2 .le (.num 0) low8) kn (fun _ => true) = true := by kernel_rfl
set_option maxRecDepth 100000 in
theorem low_c : pxT sg (.op2 .le low8 (.num 255)) kn (fun _ => true) = true := by kernel_rfl
def ρ0 : Env := ⟨fun _ => .int 0, fun _ _ => .int 0, fun _ => undef, Abs.no⟩
def same (n : Nat) : Bool := ((nextOf (.num n)).den ρ0).asInt == ((nextRof (.num n)).den ρ0).asInt
def allR (p : Nat → Bool) : Nat → Bool
  | 0 => true
  | n + 1 => p n && allR p n
set_option maxRecDepth 100000 in
theorem allR_get {p : Nat → Bool} : ∀ n, allR p n = true → ∀ r, r < n → p r = true
  | 0, _, r, h => by omega
  | n + 1, hp, r, h => by
    simp only [allR, Bool.and_eq_true] at hp
    by_cases e : r = n
    · subst e; exact hp.1
    · exact allR_get n hp.2 r (by omega)
set_option maxRecDepth 100000 in
theorem same256 : allR same 256 = true := by kernel_rfl
set_option maxRecDepth 100000 in
theorem nextOf_den {ρ : Env} {a : Tm} {n : Int} (h : a.den ρ = .int n) : (nextOf a).den ρ = (nextOf (.num n)).den ρ0 := by
  simp only [nextOf, and, Tm.den, h]
set_option maxRecDepth 100000 in
theorem nextRof_den {ρ : Env} {a : Tm} {n : Int} (h : a.den ρ = .int n) : (nextRof a).den ρ = (nextRof (.num n)).den ρ0 := by
  simp only [nextRof, rem, Tm.den, h]
set_option maxRecDepth 100000 in
theorem next_same {ρ : Env} (so : sg.Ok ρ) (hs : Sats ρ kn) : ((nextOf (v 0)).den ρ).asInt = ((nextRof low8).den ρ).asInt := by
  have a : (((nextOf (v 0)).den ρ).asInt == ((nextOf low8).den ρ).asInt) = true := (pxT_ok so hs low_a).1
  have b : decide ((0 : Int) ≤ (low8.den ρ).asInt) = true := (pxT_ok so hs low_b).1
  have c : decide ((low8.den ρ).asInt ≤ (255 : Int)) = true := (pxT_ok so hs low_c).1
  rw [eq_of_beq a]
  obtain ⟨n, hn⟩ := Int.eq_ofNat_of_zero_le (of_decide_eq_true b)
  have c := of_decide_eq_true c
  have hd : low8.den ρ = .int n := by rw [← hn]; rfl
  rw [nextOf_den hd, nextRof_den hd]
  exact eq_of_beq (allR_get 256 same256 n (by omega))
set_option maxRecDepth 100000 in
theorem aft_same {ρ : Env} (so : sg.Ok ρ) (hs : Sats ρ kn) : (aftR.den ρ).asInt = (aftT.den ρ).asInt := by
  unfold aftR aftT behind
  simp only [Tm.den]
  split
  · rfl
  · exact (next_same so hs).symm
end aft

def scsA (it : Int) (x : Fields) : List Sc := [.int it, .int x.x0, .int x.x1, .int x.x2, .int x.x3, .int x.x4, .int x.x5, .int x.x6, .int x.x7, .bool x.b]
/-- The IT state behind an instruction. -/
noncomputable def aftI (it : Int) (x : Fields) : Int := (aft.aftT.den (envOf F2 (scsA it x))).asInt

set_option maxRecDepth 100000 in
theorem scsA_ok {it : Int} {x : Fields} (hi : kHas .i64 it) (h : x.Ok) : VarsOk (envOf F2 (scsA it x)) := by
  refine ⟨?_, F2_has⟩
  intro i
  match i with
  | 0 => exact hi
  | 1 => exact h.h0
  | 2 => exact h.h1
  | 3 => exact h.h2
  | 4 => exact h.h3
  | 5 => exact h.h4
  | 6 => exact h.h5
  | 7 => exact h.h6
  | 8 => exact h.h7
  | 9 => exact zero_has
  | n + 10 => exact zero_has

set_option maxRecDepth 100000 in
theorem aft_has {it : Int} {x : Fields} (hi : kHas .i64 it) (h : x.Ok) : kHas .i64 (aftI it x) := inK_ok (scsA_ok hi h) .i64 aft.aftT (by decide +kernel)

set_option maxRecDepth 100000 in
theorem aft_kn {it : Int} {x : Fields} (hi : kHas .i64 it) (h : x.Ok) : Sats (envOf F2 (scsA it x)) aft.kn := by
  refine Sats.start (scsA_ok hi h) _ ?_
  intro i hi
  simp only [List.mem_cons, List.not_mem_nil, or_false] at hi
  subst hi
  exact ⟨_, rfl⟩

set_option maxRecDepth 100000 in
theorem aft_p {it : Int} {x : Fields} (hi : kHas .i64 it) (h : x.Ok) : Ans 35 [.int .i64 it, x.val] (.int .i64 (aftI it x)) := by
  obtain ⟨y, h1, h2⟩ := pxIs_ok (sg_ok' (ρ := envOf F2 (scsA it x)) F2_signs) _ _ (aft_kn hi h) aft.run_p
  refine ans_of (call_ok (ρ := envOf F2 (scsA it x)) cxok (noS_ok _ _) (noS_body _) rfl h1) (by intro v hv; simp [aft.pat] at hv; rcases hv with rfl | rfl <;> rfl) rfl ?_
  intro ι
  rw [h2]
  rfl

set_option maxRecDepth 100000 in
theorem aft_r {it : Int} {x : Fields} (hi : kHas .i64 it) (h : x.Ok) : Ans 30 [.int .i64 it, x.val] (.int .i64 (aftI it x)) := by
  have so := sg_ok' (ρ := envOf F2 (scsA it x)) F2_signs
  obtain ⟨y, h1, h2⟩ := pxIs_ok so _ _ (aft_kn hi h) aft.run_r
  refine ans_of (call_ok (ρ := envOf F2 (scsA it x)) cxok (noS_ok _ _) (noS_body _) rfl h1) (by intro v hv; simp [aft.pat] at hv; rcases hv with rfl | rfl <;> rfl) rfl ?_
  intro ι
  rw [h2]
  exact congrArg _ (aft.aft_same so (aft_kn hi h))

end Go.Proofs.YtdeelhbckfmaeaaGreatDoor
/- For the seat: images: their items, and what is asked of them: plain. -/
namespace Go.Proofs.YtdeelhbckfmaeaaGreatDoor
open Go.Sx Go.ChangeShapes Go.WideShapes Go.RowKit Go.Joins Go.Deep

/-- An item: kind, place, size, form, line, instruction, values. -/
structure Itm where
  k : Int
  a : Int
  s : Int
  f : Int
  l : Int
  x : Fields
  V : Option Addr
  vc : Nat
  vs : List Int

abbrev Itm.cells (y : Itm) : Array Value := #[.int .i64 y.k, .int .i64 y.a, .int .i64 y.s, .int .i64 y.f, .int .i64 y.l, .int .i64 y.x.x0, .int .i64 y.x.x1, .int .i64 y.x.x2, .int .i64 y.x.x3, .int .i64 y.x.x4, .int .i64 y.x.x5, .int .i64 y.x.x6, .int .i64 y.x.x7, .bool y.x.b, .slice y.V y.vs.length y.vc]
abbrev Itm.val (y : Itm) : Value := .agg y.cells

structure Itm.Ok (y : Itm) : Prop where
  k : kHas .i64 y.k
  a : kHas .i64 y.a
  s : kHas .i64 y.s
  f : kHas .i64 y.f
  l : kHas .i64 y.l
  x : y.x.Ok
  vs : ∀ v ∈ y.vs, kHas .i64 v
  len : y.vs.length ≤ maxLen
  cap : y.vs.length ≤ y.vc

/-- A slice's address, below block B, where such items lie. -/
def ItAt (w : World) (B : Nat) (A : Option Addr) (l : List Itm) : Prop :=
  (l ≠ [] → ∃ g off, A = some ⟨g, off, none⟩ ∧ g < B ∧ ∀ (i : Nat) (y : Itm), l[i]? = some y → ∀ (j : Nat) (v : Value), y.cells[j]? = some v → w.cell? ⟨g, off + i * 15 + j, none⟩ = some v) ∧
  ∀ y ∈ l, IAt w B y.V y.vs
set_option maxRecDepth 100000 in
theorem ItAt.keep {w w' : World} {B : Nat} {A : Option Addr} {l : List Itm} (h : ItAt w B A l) (hk : ∀ p : Addr, p.block < B → ∀ v, w.cell? p = some v → w'.cell? p = some v) : ItAt w' B A l := by
  refine ⟨fun hn => ?_, fun y hy => (h.2 y hy).keep hk⟩
  obtain ⟨g, off, e, hb, hc⟩ := h.1 hn
  exact ⟨g, off, e, hb, fun i x hx j v hv => hk _ hb _ (hc i x hx j v hv)⟩
set_option maxRecDepth 100000 in
theorem ItAt.below {w w' : World} {B B' : Nat} {A : Option Addr} {l : List Itm} (h : ItAt w B A l) (hb : Below B' w w') (hB : B ≤ B') : ItAt w' B A l := h.keep fun _ hp _ e => (hb.cell (by omega)).trans e
set_option maxRecDepth 100000 in
theorem ItAt.more {w : World} {B B' : Nat} {A : Option Addr} {l : List Itm} (h : ItAt w B A l) (hB : B ≤ B') : ItAt w B' A l := by
  refine ⟨fun hn => ?_, fun y hy => (h.2 y hy).more hB⟩
  obtain ⟨g, off, e, hb, hc⟩ := h.1 hn
  exact ⟨g, off, e, by omega, hc⟩
set_option maxRecDepth 100000 in
theorem ItAt.at_ {w : World} {B : Nat} {A : Option Addr} {l : List Itm} (h : ItAt w B A l) {k : Nat} (hk : k < l.length) :
    ∃ g off, A = some ⟨g, off, none⟩ ∧ g < B ∧ ∀ (j : Nat) (v : Value), l[k].cells[j]? = some v → w.cell? ⟨g, off + k * 15 + j, none⟩ = some v := by
  obtain ⟨g, off, e, hb, hc⟩ := h.1 (by intro e; subst e; simp at hk)
  exact ⟨g, off, e, hb, fun j v hv => hc k l[k] (List.getElem?_eq_getElem hk) j v hv⟩

/-- An item at its place. -/
def ItIn (W : World) (g o : Nat) (y : Itm) : Prop := W.cell? ⟨g, o, none⟩ = some (.int .i64 y.k) ∧ W.cell? ⟨g, o + 1, none⟩ = some (.int .i64 y.a) ∧ W.cell? ⟨g, o + 2, none⟩ = some (.int .i64 y.s) ∧ W.cell? ⟨g, o + 3, none⟩ = some (.int .i64 y.f) ∧ W.cell? ⟨g, o + 4, none⟩ = some (.int .i64 y.l) ∧
  W.cell? ⟨g, o + 5, none⟩ = some (.int .i64 y.x.x0) ∧ W.cell? ⟨g, o + 6, none⟩ = some (.int .i64 y.x.x1) ∧ W.cell? ⟨g, o + 7, none⟩ = some (.int .i64 y.x.x2) ∧ W.cell? ⟨g, o + 8, none⟩ = some (.int .i64 y.x.x3) ∧ W.cell? ⟨g, o + 9, none⟩ = some (.int .i64 y.x.x4) ∧ W.cell? ⟨g, o + 10, none⟩ = some (.int .i64 y.x.x5) ∧ W.cell? ⟨g, o + 11, none⟩ = some (.int .i64 y.x.x6) ∧ W.cell? ⟨g, o + 12, none⟩ = some (.int .i64 y.x.x7) ∧ W.cell? ⟨g, o + 13, none⟩ = some (.bool y.x.b) ∧
  W.cell? ⟨g, o + 14, none⟩ = some (.slice y.V y.vs.length y.vc)
set_option maxRecDepth 100000 in
theorem itIn_of {W : World} {g o : Nat} {y : Itm} (h : ∀ (j : Nat) (v : Value), y.cells[j]? = some v → W.cell? ⟨g, o + j, none⟩ = some v) : ItIn W g o y :=
  ⟨h 0 _ rfl, h 1 _ rfl, h 2 _ rfl, h 3 _ rfl, h 4 _ rfl, h 5 _ rfl, h 6 _ rfl, h 7 _ rfl, h 8 _ rfl, h 9 _ rfl, h 10 _ rfl, h 11 _ rfl, h 12 _ rfl, h 13 _ rfl, h 14 _ rfl⟩
set_option maxRecDepth 100000 in
theorem ItIn.below {W W' : World} {B g o : Nat} {y : Itm} (h : ItIn W g o y) (hb : Below B W W') (hg : g < B) : ItIn W' g o y := by
  unfold ItIn at h ⊢
  have e := fun o => hb.cell (p := ⟨g, o, none⟩) hg
  simp only [e]
  exact h
set_option maxRecDepth 100000 in
theorem itIn_new (W : World) (y : Itm) (t : TypeId) (b : Nat) (hb : b = W.heap.size) : ItIn (W.alloc (.cells y.cells t)) b 0 y := by
  subst hb
  have h : (W.alloc (.cells y.cells t)).heap[W.heap.size]? = some (.cells y.cells t (0, 0)) := heap_alloc_new W _
  refine itIn_of fun j v hv => ?_
  simp only [World.cell?, h, Nat.zero_add]
  exact hv

/-! ### What is asked -/

/-- Do items stand one behind the other, from a place on, to the end? -/
def disjB (n : Int) : Int → List Itm → Bool
  | p, [] => p == n
  | p, y :: r => if y.a = p ∧ 1 ≤ y.s ∧ y.s ≤ n - p then disjB n (p + y.s) r else false

set_option maxRecDepth 100000 in
theorem disjB_cons (n p : Int) (y : Itm) (r : List Itm) : disjB n p (y :: r) = if y.a = p ∧ 1 ≤ y.s ∧ y.s ≤ n - p then disjB n (p + y.s) r else false := rfl
set_option maxRecDepth 100000 in
/-- Where all is as it should be, the sizes make up the whole. -/
theorem disjB_sum {n : Int} : ∀ {l : List Itm} {p : Int}, disjB n p l = true → n = p + (l.map (·.s)).sum
  | [], p, h => by
    have := eq_of_beq h
    simp [this]
  | y :: r, p, h => by
    unfold disjB at h
    split at h
    · have := disjB_sum h
      simp only [List.map_cons, List.sum_cons]
      omega
    · cases h

/-- The place that an item leads to, and whether it does. -/
def leadsP (y : Itm) : Int × Bool :=
  if y.k = 1 then
    if y.x.x0 = 40 ∨ y.x.x0 = 41 then (wrap64 (bits BinOp.andNot IntKind.i64 (wrap64 (y.a + 4)) 3 + y.x.x5), true)
    else if y.x.x0 = 35 ∨ y.x.x0 = 36 ∨ y.x.x0 = 37 ∨ y.x.x0 = 38 then (wrap64 (wrap64 (y.a + 4) + y.x.x5), true)
    else (0, false)
  else (0, false)

/-- Is a place that of an item, or the end? -/
def standsB (n : Nat) (l : List Itm) (p : Int) : Bool := p == (n : Int) || l.any fun y => y.a == p


/-- The first place of a number. -/
def indexI (l : List Int) (v : Int) : Int := match l.findIdx? (· == v) with | some i => i | none => -1

def wordB (s : List UInt8) : Int := bits BinOp.or IntKind.i64 ((unpB s).getD 0 0) (IntKind.i64.wrap ((unpB s).getD 1 0 * 65536))
def poolG (vs : List Int) (s : List UInt8) : Nat → List Int → Bool
  | _, [] => true
  | i, v :: r => if v = wordB ((s.drop (4 * i)).take 4) ∧ indexI vs v = i then poolG vs s (i + 1) r else false
def poolB (y : Itm) (s : List UInt8) : Bool :=
  if bits BinOp.and IntKind.i64 y.a 3 = 0 ∧ y.s = 4 * (y.vs.length : Int) then poolG y.vs s 0 y.vs else false


end Go.Proofs.YtdeelhbckfmaeaaGreatDoor
/- For the seat: Few, Disjoint, Leads, Index: what they answer. -/
namespace Go.Proofs.YtdeelhbckfmaeaaGreatDoor
open Go.Sx Go.ChangeShapes Go.WideShapes Go.RowKit Go.Joins Go.Deep

set_option maxRecDepth 100000 in
/-- Numbers of a slice: the first place of one. -/
theorem indexI_at {l : List Int} {i : Nat} {v : Int} (hi : i < l.length) (hb : ∀ j, j < i → l[j]? ≠ some v) (h : l[i] = v) : indexI l v = i := by
  have : l.findIdx? (· == v) = some i := by
    rw [List.findIdx?_eq_some_iff_getElem]
    refine ⟨hi, by simp [h], fun j hj => ?_⟩
    have := hb j hj
    rw [List.getElem?_eq_getElem (by omega)] at this
    simpa using this
  rw [indexI, this]
set_option maxRecDepth 100000 in
theorem indexI_none {l : List Int} {v : Int} (hb : ∀ j, j < l.length → l[j]? ≠ some v) : indexI l v = -1 := by
  have : l.findIdx? (· == v) = none := by
    rw [List.findIdx?_eq_none_iff]
    intro x hx
    obtain ⟨j, hj, rfl⟩ := List.getElem_of_mem hx
    have := hb j hj
    rw [List.getElem?_eq_getElem hj] at this
    simpa using this
  rw [indexI, this]

set_option maxRecDepth 100000 in
set_option maxHeartbeats 1000000 in
theorem index_any (l : List Int) (A : Option Addr) (cap : Nat) (v : Int) (w : World) (hA : IAt w w.heap.size A l) (hl : l.length ≤ maxLen) :
    Calls Tryz.prog 54 #[.slice A l.length cap, .int .i64 v] w fun e w' => e = .returned (.int .i64 (indexI l v)) ∧ w' = w := by
  unfold maxLen at hl
  go_enter Tryz.func54, Tryz.ntmps54
  go_wp2
  go_loopw [8] (fun k wr => ∃ i : Nat, i ≤ l.length ∧ k = .int .i64 i ∧ (∀ j, j < i → l[j]? ≠ some v) ∧ wr = w) (fun k _ => l.length - (intOf k).toNat)
  case atStart => exact ⟨0, by omega, rfl, fun j hj => by omega, rfl⟩
  case round =>
    obtain ⟨i, hi, rfl, hp, rfl⟩ := hrel
    by_cases hlt : i < l.length
    · obtain ⟨g, off, rfl, hg, hc⟩ := hA.at_ hlt
      have hk0 : (0 : Int) ≤ (i : Int) := by omega
      have hkl : (i : Int) < (l.length : Int) := by omega
      by_cases he : v = l[i]
      · have hr := indexI_at hlt hp he.symm
        rw [← he] at hc
        go_wp2
        refine bodyPost_ret (results_tmp rfl _ _ _) rfl ⟨by rw [hr]; rfl, rfl⟩
      · have hq : (v == l[i]) = false := by simpa using he
        have hp' : ∀ j, j < i + 1 → l[j]? ≠ some v := fun j hj => by
          by_cases e : j = i
          · subst e; rw [List.getElem?_eq_getElem hlt]; simpa using fun e => he e.symm
          · exact hp j (by omega)
        go_wp2
        go_roundw
        case rel => exact ⟨i + 1, by omega, by go_num, hp', trivial⟩
        case measure => simp [intOf]; omega
    · have e : i = l.length := by omega
      subst e
      have hr := indexI_none hp
      go_wp2
      refine bodyPost_ret (results_tmp rfl _ _ _) rfl ⟨by rw [hr]; rfl, rfl⟩

set_option maxRecDepth 100000 in
set_option maxHeartbeats 1000000 in
theorem leads_any (y : Itm) (w : World) : Calls Tryz.prog 22 #[y.val] w fun e w' => e = .returned (.tuple #[.int .i64 (leadsP y).1, .bool (leadsP y).2]) ∧ Below w.heap.size w w' := by
  obtain ⟨k, a, s, f, l, x, V, vc, vs⟩ := y
  obtain ⟨x0, x1, x2, x3, x4, x5, x6, x7, xb⟩ := x
  unfold leadsP
  dsimp only
  go_enter Tryz.func22, Tryz.ntmps22
  have hb : Below w.heap.size w (w.alloc (.cells (Itm.cells ⟨k, a, s, f, l, ⟨x0, x1, x2, x3, x4, x5, x6, x7, xb⟩, V, vc, vs⟩) 33)) := (Below.refl _ _).alloc (Nat.le_refl _) _
  by_cases h1 : k = 1
  · subst h1
    rw [if_pos rfl]
    by_cases h40 : x0 = 40
    · subst h40
      rw [if_pos (.inl rfl)]
      go_wp2
      exact bodyPost_ret (by simp [results, Tryz.results22, go_sem]) rfl ⟨rfl, hb⟩
    by_cases h41 : x0 = 41
    · subst h41
      rw [if_pos (.inr rfl)]
      go_wp2
      exact bodyPost_ret (by simp [results, Tryz.results22, go_sem]) rfl ⟨rfl, hb⟩
    rw [if_neg (by rintro (h | h) <;> contradiction)]
    have q40 : (x0 == 40) = false := by simpa using h40
    have q41 : (x0 == 41) = false := by simpa using h41
    by_cases h35 : x0 = 35
    · subst h35
      rw [if_pos (.inl rfl)]
      go_wp2
      exact bodyPost_ret (by simp [results, Tryz.results22, go_sem]) rfl ⟨rfl, hb⟩
    have q35 : (x0 == 35) = false := by simpa using h35
    by_cases h36 : x0 = 36
    · subst h36
      rw [if_pos (.inr (.inl rfl))]
      go_wp2
      exact bodyPost_ret (by simp [results, Tryz.results22, go_sem]) rfl ⟨rfl, hb⟩
    have q36 : (x0 == 36) = false := by simpa using h36
    by_cases h37 : x0 = 37
    · subst h37
      rw [if_pos (.inr (.inr (.inl rfl)))]
      go_wp2
      exact bodyPost_ret (by simp [results, Tryz.results22, go_sem]) rfl ⟨rfl, hb⟩
    have q37 : (x0 == 37) = false := by simpa using h37
    by_cases h38 : x0 = 38
    · subst h38
      rw [if_pos (.inr (.inr (.inr rfl)))]
      go_wp2
      exact bodyPost_ret (by simp [results, Tryz.results22, go_sem]) rfl ⟨rfl, hb⟩
    have q38 : (x0 == 38) = false := by simpa using h38
    rw [if_neg (by rintro (h | h | h | h) <;> contradiction)]
    go_wp2
    exact bodyPost_ret (by simp [results, Tryz.results22, go_sem]) rfl ⟨rfl, hb⟩
  · rw [if_neg h1]
    have q1 : (k != 1) = true := by simpa using h1
    go_wp2
    exact bodyPost_ret (by simp [results, Tryz.results22, go_sem]) rfl ⟨rfl, hb⟩

set_option maxRecDepth 100000 in
set_option maxHeartbeats 2000000 in
theorem disj_any (s : ByteArray) (l : List Itm) (A : Option Addr) (cap : Nat) (w : World) (hA : ItAt w w.heap.size A l) (hl : l.length ≤ maxLen) (hs : s.size ≤ maxLen) (hk : ∀ y ∈ l, y.Ok) :
    Calls Tryz.prog 17 #[.agg #[.string s, .slice A l.length cap]] w fun e w' => e = .returned (.bool (disjB s.size 0 l)) ∧ Below w.heap.size w w' := by
  unfold maxLen at hl hs
  have b0 : Below w.heap.size w (w.alloc (.cells #[.string s, .slice A l.length cap] 24)) := (Below.refl _ _).alloc (Nat.le_refl _) _
  have c0 : (w.alloc (.cells #[.string s, .slice A l.length cap] 24)).cell? ⟨w.heap.size, 0, none⟩ = some (.string s) := by
    have h : (w.alloc (.cells #[.string s, .slice A l.length cap] 24)).heap[w.heap.size]? = some (.cells #[.string s, .slice A l.length cap] 24 (0, 0)) := heap_alloc_new w _
    simp only [World.cell?, h]; rfl
  have c01 : (w.alloc (.cells #[.string s, .slice A l.length cap] 24)).cell? ⟨w.heap.size, 1, none⟩ = some (.slice A l.length cap) := by
    have h : (w.alloc (.cells #[.string s, .slice A l.length cap] 24)).heap[w.heap.size]? = some (.cells #[.string s, .slice A l.length cap] 24 (0, 0)) := heap_alloc_new w _
    simp only [World.cell?, h]; rfl
  generalize hW : w.alloc (.cells #[.string s, .slice A l.length cap] 24) = W0 at b0 c0 c01
  have hsz : W0.heap.size = w.heap.size + 1 := by rw [← hW]; simp
  go_enter Tryz.func17, Tryz.ntmps17
  go_wp2
  go_loopw [3, 9] (fun p k wr => ∃ (i : Nat) (q : Int), i ≤ l.length ∧ k = .int .i64 i ∧ p = .int .i64 q ∧ 0 ≤ q ∧ q ≤ s.size ∧ disjB s.size 0 l = disjB s.size q (l.drop i) ∧ Below W0.heap.size W0 wr) (fun _ k _ => l.length - (intOf k).toNat)
  case atStart => exact ⟨0, 0, by omega, rfl, rfl, by omega, by omega, rfl, Below.refl _ _⟩
  case round =>
    obtain ⟨i, q, hi, rfl, rfl, hq0, hqs, hd, hbr⟩ := hrel
    have c1 : wr.cell? ⟨w.heap.size, 0, none⟩ = some (.string s) := (hbr.cell (p := ⟨w.heap.size, 0, none⟩) (by show w.heap.size < W0.heap.size; omega)).trans c0
    have hbw : Below w.heap.size w wr := b0.trans (hbr.mono (by omega))
    have hwz : w.heap.size < wr.heap.size := by have := hbr.size; omega
    by_cases hlt : i < l.length
    · obtain ⟨g, off, rfl, hg, hc⟩ := (hA.below hbw (Nat.le_refl _)).at_ hlt
      have hk0 : (0 : Int) ≤ (i : Int) := by omega
      have hkl : (i : Int) < (l.length : Int) := by omega
      have IN := itIn_of hc
      rw [List.drop_eq_getElem_cons hlt] at hd
      have hy := hk l[i] (List.getElem_mem hlt)
      generalize l[i] = y at hd IN hy
      clear hc
      obtain ⟨k, a, sz, f, ln, x, V, vc, vs⟩ := y
      obtain ⟨x0, x1, x2, x3, x4, x5, x6, x7, xb⟩ := x
      obtain ⟨p0, p1, p2, p3, p4, p5, p6, p7, p8, p9, p10, p11, p12, p13, p14⟩ := IN
      have hys := hy.s
      rw [disjB_cons] at hd
      dsimp only at hd hys p0 p1 p2 p3 p4 p5 p6 p7 p8 p9 p10 p11 p12 p13 p14
      have HD := Lib.hid hd
      clear hd hy
      have hg' : g < wr.heap.size := by omega
      have hfin : ∀ o, Below w.heap.size w (wr.alloc o) := fun o => hbw.alloc hbw.size o
      have hfin2 : ∀ o, Below W0.heap.size W0 (wr.alloc o) := fun o => hbr.alloc hbr.size o
      have hsub : IntKind.i64.wrap ((s.size : Int) - q) = (s.size : Int) - q := IntWalk.i64_in _ (by omega)
      by_cases h1 : a = q
      · subst h1
        have e1 : (a != a) = false := by simp
        by_cases h2 : sz < 1
        · have hr : disjB s.size 0 l = false := by rw [HD.out, if_neg (by omega)]
          have e2 : decide (sz < 1) = true := decide_eq_true h2
          go_wp2
          exact bodyPost_ret (results_tmp rfl _ _ _) rfl ⟨by first | rfl | (rw [hr]; rfl), hfin _⟩
        · have e2 : decide (sz < 1) = false := decide_eq_false h2
          by_cases h3 : (s.size : Int) - a < sz
          · have hr : disjB s.size 0 l = false := by rw [HD.out, if_neg (by omega)]
            have e3 : decide ((s.size : Int) - a < sz) = true := decide_eq_true h3
            go_wp2
            exact bodyPost_ret (results_tmp rfl _ _ _) rfl ⟨by first | rfl | (rw [hr]; rfl), hfin _⟩
          · have e3 : decide ((s.size : Int) - a < sz) = false := decide_eq_false h3
            have hr : disjB s.size 0 l = disjB s.size (a + sz) (l.drop (i + 1)) := by rw [HD.out, if_pos ⟨rfl, by omega, by omega⟩]
            have hadd : IntKind.i64.wrap (a + sz) = a + sz := IntWalk.i64_in _ (by omega)
            go_wp2
            go_roundw
            case rel => exact ⟨i + 1, a + sz, by omega, by go_num, rfl, by omega, by omega, hr, hfin2 _⟩
            case measure => simp [intOf]; omega
      · have hr : disjB s.size 0 l = false := by rw [HD.out, if_neg (by omega)]
        have e1 : (a != q) = true := by simpa using h1
        go_wp2
        exact bodyPost_ret (results_tmp rfl _ _ _) rfl ⟨by first | rfl | (rw [hr]; rfl), hfin _⟩
    · have e : i = l.length := by omega
      subst e
      rw [List.drop_length] at hd
      go_wp2
      refine bodyPost_ret (results_tmp rfl _ _ _) rfl ⟨by rw [hd]; rfl, hbw⟩
#print axioms disj_any
end Go.Proofs.YtdeelhbckfmaeaaGreatDoor
/- For the seat: a place that an item stands at; bytes of 0; nothing asked. -/
namespace Go.Proofs.YtdeelhbckfmaeaaGreatDoor
open Go.Sx Go.ChangeShapes Go.WideShapes Go.RowKit Go.Joins Go.Deep

set_option maxRecDepth 100000 in
theorem stands1_any (y : Itm) (b : Nat) (p : Int) (w : World) (hb : b < w.heap.size) (hc : w.cell? ⟨b, 0, none⟩ = some (.int .i64 p)) :
    Calls Tryz.prog 90 #[y.val, .pointer (some ⟨b, 0, none⟩)] w fun e w' => e = .returned (.bool (y.a == p)) ∧ Below w.heap.size w w' := by
  obtain ⟨k, a, s, f, l, x, V, vc, vs⟩ := y
  obtain ⟨x0, x1, x2, x3, x4, x5, x6, x7, xb⟩ := x
  have hne : ¬ w.heap.size = b := by omega
  go_enter Tryz.func90, Tryz.ntmps90
  go_wp2
  exact bodyPost_ret (results_tmp rfl _ _ _) rfl ⟨rfl, (Below.refl _ _).alloc (Nat.le_refl _) _⟩

set_option maxRecDepth 100000 in
theorem any_take {l : List Itm} {p : Int} {i : Nat} (h : ∀ j y, j < i → l[j]? = some y → (y.a == p) = false) (hi : l.length ≤ i) : l.any (fun y => y.a == p) = false := by
  rw [List.any_eq_false]
  intro y hy
  obtain ⟨j, hj, rfl⟩ := List.getElem_of_mem hy
  have := h j l[j] (by omega) (List.getElem?_eq_getElem hj)
  simpa using this

set_option maxRecDepth 100000 in
set_option maxHeartbeats 1000000 in
theorem indexFunc_any (l : List Itm) (A : Option Addr) (cap : Nat) (b : Nat) (p : Int) (w : World) (hA : ItAt w w.heap.size A l) (hl : l.length ≤ maxLen) (hb : b < w.heap.size) (hc : w.cell? ⟨b, 0, none⟩ = some (.int .i64 p)) :
    Calls Tryz.prog 142 #[.slice A l.length cap, .func (.func 90) #[] #[.pointer (some ⟨b, 0, none⟩)]] w
      fun e w' => ∃ r : Int, e = .returned (.int .i64 r) ∧ decide (0 ≤ r) = (l.any fun y => y.a == p) ∧ Below w.heap.size w w' := by
  unfold maxLen at hl
  go_enter Tryz.func142, Tryz.ntmps142
  go_wp2
  go_loopw [8] (fun k wr => ∃ i : Nat, i ≤ l.length ∧ k = .int .i64 i ∧ (∀ j y, j < i → l[j]? = some y → (y.a == p) = false) ∧ Below w.heap.size w wr) (fun k _ => l.length - (intOf k).toNat)
  case atStart => exact ⟨0, by omega, rfl, fun j y hj => by omega, Below.refl _ _⟩
  case round =>
    obtain ⟨i, hi, rfl, hp, hbr⟩ := hrel
    by_cases hlt : i < l.length
    · obtain ⟨g, off, rfl, hg, hc'⟩ := (hA.below hbr (Nat.le_refl _)).at_ hlt
      have hk0 : (0 : Int) ≤ (i : Int) := by omega
      have hkl : (i : Int) < (l.length : Int) := by omega
      have IN := itIn_of hc'
      have hcl := stands1_any l[i] b p wr (Nat.lt_of_lt_of_le hb hbr.size) ((hbr.cell (p := ⟨b, 0, none⟩) hb).trans hc)
      have hyes : (l[i].a == p) = true → (l.any fun y => y.a == p) = true := fun h => List.any_eq_true.2 ⟨l[i], List.getElem_mem hlt, h⟩
      have hno : (l[i].a == p) = false → ∀ j y, j < i + 1 → l[j]? = some y → (y.a == p) = false := fun h j y hj hy => by
        by_cases e : j = i
        · subst e; rw [List.getElem?_eq_getElem hlt] at hy; cases hy; exact h
        · exact hp j y (by omega) hy
      clear hc'
      generalize l[i] = y at hcl IN hyes hno
      have HY := Lib.hid hyes
      have HN := Lib.hid hno
      clear hyes hno hp
      obtain ⟨k, a, s, f, ln, x, V, vc, vs⟩ := y
      obtain ⟨x0, x1, x2, x3, x4, x5, x6, x7, xb⟩ := x
      obtain ⟨p0, p1, p2, p3, p4, p5, p6, p7, p8, p9, p10, p11, p12, p13, p14⟩ := IN
      dsimp only [Itm.val, Itm.cells] at hcl p0 p1 p2 p3 p4 p5 p6 p7 p8 p9 p10 p11 p12 p13 p14
      go_wp2_with fail
      ((with_reducible refine hcl.mono ?_); rintro e w1 ⟨rfl, hb1⟩)
      have hb2 := hbr.trans (hb1.mono hbr.size)
      cases hq : (a == p)
      · have hn := HN.out hq
        go_wp2_with fail
        go_roundw
        case rel => exact ⟨i + 1, by omega, by go_num, hn, hb2⟩
        case measure => simp [intOf]; omega
      · have hn := HY.out hq
        go_wp2_with fail
        exact bodyPost_ret (results_tmp rfl _ _ _) rfl ⟨i, rfl, by rw [hn]; exact decide_eq_true hk0, hb2⟩
    · have e : i = l.length := by omega
      subst e
      have hn := any_take hp (Nat.le_refl _)
      go_wp2
      exact bodyPost_ret (results_tmp rfl _ _ _) rfl ⟨-1, rfl, by rw [hn]; rfl, hbr⟩

set_option maxRecDepth 100000 in
theorem contains_any (l : List Itm) (A : Option Addr) (cap : Nat) (b : Nat) (p : Int) (w : World) (hA : ItAt w w.heap.size A l) (hl : l.length ≤ maxLen) (hb : b < w.heap.size) (hc : w.cell? ⟨b, 0, none⟩ = some (.int .i64 p)) :
    Calls Tryz.prog 89 #[.slice A l.length cap, .func (.func 90) #[] #[.pointer (some ⟨b, 0, none⟩)]] w
      fun e w' => e = .returned (.bool (l.any fun y => y.a == p)) ∧ Below w.heap.size w w' := by
  have hI := indexFunc_any l A cap b p w hA hl hb hc
  go_enter Tryz.func89, Tryz.ntmps89
  go_wp2_with fail
  ((with_reducible refine hI.mono ?_); rintro e w1 ⟨r, rfl, hr, hb1⟩)
  go_wp2_with fail
  exact bodyPost_ret (results_tmp rfl _ _ _) rfl ⟨by rw [← hr]; rfl, hb1⟩

set_option maxRecDepth 100000 in
theorem cell_alloc1 (w : World) (v : Value) (t : TypeId) (b : Nat) (hb : b = w.heap.size) : (w.alloc (.cells #[v] t)).cell? ⟨b, 0, none⟩ = some v := by
  subst hb
  have h : (w.alloc (.cells #[v] t)).heap[w.heap.size]? = some (.cells #[v] t (0, 0)) := heap_alloc_new w _
  simp only [World.cell?, h]; rfl
set_option maxRecDepth 100000 in
theorem cell_allocN (w : World) (cs : Array Value) (t : TypeId) (j : Nat) : (w.alloc (.cells cs t)).cell? ⟨w.heap.size, j, none⟩ = cs[j]? := by
  have h : (w.alloc (.cells cs t)).heap[w.heap.size]? = some (.cells cs t (0, 0)) := heap_alloc_new w _
  simp only [World.cell?, h]
  rfl

/-- An image that is looked at. -/
abbrev imgV (s : ByteArray) (A : Option Addr) (n cap : Nat) (y : Itm) (p : ByteArray) (it : Int) : Value :=
  .agg #[.string s, .slice A n cap, .int .i64 y.k, .int .i64 y.a, .int .i64 y.s, .int .i64 y.f, .int .i64 y.l, .int .i64 y.x.x0, .int .i64 y.x.x1, .int .i64 y.x.x2, .int .i64 y.x.x3, .int .i64 y.x.x4, .int .i64 y.x.x5, .int .i64 y.x.x6, .int .i64 y.x.x7, .bool y.x.b, .slice y.V y.vs.length y.vc, .string p, .int .i64 it]

set_option maxRecDepth 100000 in
set_option maxHeartbeats 1000000 in
theorem stands_any (s : ByteArray) (l : List Itm) (A : Option Addr) (cap : Nat) (y : Itm) (p : ByteArray) (it q : Int) (w : World) (hA : ItAt w w.heap.size A l) (hl : l.length ≤ maxLen) :
    Calls Tryz.prog 53 #[imgV s A l.length cap y p it, .int .i64 q] w fun e w' => e = .returned (.bool (standsB s.size l q)) ∧ Below w.heap.size w w' := by
  obtain ⟨k, a, sz, f, ln, x, V, vc, vs⟩ := y
  obtain ⟨x0, x1, x2, x3, x4, x5, x6, x7, xb⟩ := x
  unfold standsB
  by_cases h : q = (s.size : Int)
  · subst h
    go_enter Tryz.func53, Tryz.ntmps53
    go_wp2
    exact bodyPost_ret (results_tmp rfl _ _ _) rfl ⟨by simp, ((Below.refl _ _).alloc (Nat.le_refl _) _).alloc (by simp) _⟩
  · have e : (q == (s.size : Int)) = false := by simpa using h
    have b0 : ∀ o1 o2, Below w.heap.size w ((w.alloc o1).alloc o2) := fun o1 o2 => ((Below.refl _ _).alloc (Nat.le_refl _) o1).alloc (by simp) o2
    have hC : ∀ o1 o2 (b : Nat), b < ((w.alloc o1).alloc o2).heap.size → ((w.alloc o1).alloc o2).cell? ⟨b, 0, none⟩ = some (.int .i64 q) → _ := fun o1 o2 b hb hc => contains_any l A cap b q ((w.alloc o1).alloc o2) ((hA.below (b0 o1 o2) (Nat.le_refl _)).more (b0 o1 o2).size) hl hb hc
    go_enter Tryz.func53, Tryz.ntmps53
    go_wp2_with fail
    ((refine (hC _ _ _ (by simp) (cell_alloc1 _ _ _ _ (by simp))).mono ?_); rintro e w1 ⟨rfl, hb1⟩)
    have hb2 := (b0 _ _).trans (hb1.mono (b0 _ _).size)
    go_wp2_with fail
    exact bodyPost_ret (results_tmp rfl _ _ _) rfl ⟨by rw [e]; rfl, hb2⟩

set_option maxRecDepth 100000 in
theorem anyi_any (s : ByteArray) (A : Option Addr) (n cap : Nat) (y : Itm) (p : ByteArray) (it : Int) (w : World) :
    Calls Tryz.prog 31 #[imgV s A n cap y p it] w fun e w' => e = .returned (.bool true) ∧ Below w.heap.size w w' := by
  go_enter Tryz.func31, Tryz.ntmps31
  go_wp2
  exact bodyPost_ret (results_tmp rfl _ _ _) rfl ⟨rfl, (Below.refl _ _).alloc (Nat.le_refl _) _⟩

set_option maxRecDepth 100000 in
set_option maxHeartbeats 1000000 in
theorem pad_any (s : ByteArray) (A : Option Addr) (n cap : Nat) (y : Itm) (p : ByteArray) (it : Int) (w : World) (hp : p.size ≤ maxLen) :
    Calls Tryz.prog 34 #[imgV s A n cap y p it] w fun e w' => e = .returned (.bool (p.data.toList.all (· == 0))) ∧ Below w.heap.size w w' := by
  unfold maxLen at hp
  obtain ⟨k, a, sz, f, ln, x, V, vc, vs⟩ := y
  obtain ⟨x0, x1, x2, x3, x4, x5, x6, x7, xb⟩ := x
  dsimp only [imgV]
  have b0 := (Below.refl w.heap.size w).alloc (Nat.le_refl _) (.cells #[.string s, .slice A n cap, .int .i64 k, .int .i64 a, .int .i64 sz, .int .i64 f, .int .i64 ln, .int .i64 x0, .int .i64 x1, .int .i64 x2, .int .i64 x3, .int .i64 x4, .int .i64 x5, .int .i64 x6, .int .i64 x7, .bool xb, .slice V vs.length vc, .string p, .int .i64 it] 65)
  have c17 := cell_allocN w #[.string s, .slice A n cap, .int .i64 k, .int .i64 a, .int .i64 sz, .int .i64 f, .int .i64 ln, .int .i64 x0, .int .i64 x1, .int .i64 x2, .int .i64 x3, .int .i64 x4, .int .i64 x5, .int .i64 x6, .int .i64 x7, .bool xb, .slice V vs.length vc, .string p, .int .i64 it] 65 17
  have hsz : (w.alloc (.cells #[.string s, .slice A n cap, .int .i64 k, .int .i64 a, .int .i64 sz, .int .i64 f, .int .i64 ln, .int .i64 x0, .int .i64 x1, .int .i64 x2, .int .i64 x3, .int .i64 x4, .int .i64 x5, .int .i64 x6, .int .i64 x7, .bool xb, .slice V vs.length vc, .string p, .int .i64 it] 65)).heap.size = w.heap.size + 1 := by simp
  change _ = some (Value.string p) at c17
  generalize hW : w.alloc (.cells #[.string s, .slice A n cap, .int .i64 k, .int .i64 a, .int .i64 sz, .int .i64 f, .int .i64 ln, .int .i64 x0, .int .i64 x1, .int .i64 x2, .int .i64 x3, .int .i64 x4, .int .i64 x5, .int .i64 x6, .int .i64 x7, .bool xb, .slice V vs.length vc, .string p, .int .i64 it] 65) = W0 at b0 c17 hsz
  go_enter Tryz.func34, Tryz.ntmps34
  go_wp2
  go_loopw [7] (fun c wr => ∃ i : Nat, i ≤ p.size ∧ c = .int .i64 i ∧ (∀ (j : Nat) (hj : j < p.size), j < i → p[j] = 0) ∧ Below W0.heap.size W0 wr) (fun c _ => p.size - (intOf c).toNat)
  case atStart => exact ⟨0, by omega, rfl, fun j _ hj => by omega, Below.refl _ _⟩
  case round =>
    obtain ⟨i, hi, rfl, hq, hbr⟩ := hrel
    have c1 : wr.cell? ⟨w.heap.size, 17, none⟩ = some (.string p) := (hbr.cell (p := ⟨w.heap.size, 17, none⟩) (by show w.heap.size < W0.heap.size; omega)).trans c17
    have hbw : Below w.heap.size w wr := b0.trans (hbr.mono (by omega))
    by_cases hlt : i < p.size
    · have hk0 : (0 : Int) ≤ (i : Int) := by omega
      have hkl : (i : Int) < (p.size : Int) := by omega
      by_cases he : p[i] = 0
      · have h' : ∀ (j : Nat) (hj : j < p.size), j < i + 1 → p[j] = 0 := fun j hj hji => by
          by_cases e : j = i
          · subst e; exact he
          · exact hq j hj (by omega)
        have e0 : (((p[i]).toNat : Int) != 0) = false := by rw [he]; rfl
        go_wp2
        go_roundw
        case rel => exact ⟨i + 1, by omega, by go_num, h', hbr⟩
        case measure => simp [intOf]; omega
      · have e0 : (((p[i]).toNat : Int) != 0) = true := by
          rw [bne_iff_ne]
          intro h
          exact he (UInt8.toNat_inj.1 (by simpa using h))
        have hr : (p.data.toList.all (· == 0)) = false := by
          rw [List.all_eq_false]
          exact ⟨p[i], by
            show p.data[i] ∈ p.data.toList
            exact Array.getElem_mem_toList _, by simpa using he⟩
        go_wp2
        exact bodyPost_ret (results_tmp rfl _ _ _) rfl ⟨by rw [hr]; rfl, hbw⟩
    · have e : i = p.size := by omega
      subst e
      have hr : (p.data.toList.all (· == 0)) = true := by
        rw [List.all_eq_true]
        intro x hx
        obtain ⟨j, hj, rfl⟩ := List.getElem_of_mem hx
        have := hq j hj hj
        rw [Array.getElem_toList]
        show (p[j] == 0) = true
        rw [this]; rfl
      go_wp2
      exact bodyPost_ret (results_tmp rfl _ _ _) rfl ⟨by rw [hr]; rfl, hbw⟩
#print axioms pad_any
end Go.Proofs.YtdeelhbckfmaeaaGreatDoor
/- For the seat: Few: whether an image is not too large. -/
namespace Go.Proofs.YtdeelhbckfmaeaaGreatDoor
open Go.Sx Go.ChangeShapes Go.WideShapes Go.RowKit Go.Joins Go.Deep

/-- Is an image not too large? -/
def fewI (n : Nat) (l : List Itm) : Int := if n ≤ 3145728 ∧ l.length ≤ 300 then (if (l.all fun y => decide (y.vs.length ≤ 300)) = true then 1 else 0) else 0

set_option maxRecDepth 100000 in
set_option maxHeartbeats 1000000 in
theorem few_any (s : ByteArray) (l : List Itm) (A : Option Addr) (cap : Nat) (w : World) (hA : ItAt w w.heap.size A l) (hl : l.length ≤ maxLen) :
    Calls Tryz.prog 6 #[.agg #[.string s, .slice A l.length cap]] w fun e w' => e = .returned (.int .i64 (fewI s.size l)) ∧ Below w.heap.size w w' := by
  unfold maxLen at hl
  have b0 : Below w.heap.size w (w.alloc (.cells #[.string s, .slice A l.length cap] 24)) := (Below.refl _ _).alloc (Nat.le_refl _) _
  have c0 : (w.alloc (.cells #[.string s, .slice A l.length cap] 24)).cell? ⟨w.heap.size, 0, none⟩ = some (.string s) := cell_allocN _ _ _ 0
  have c01 : (w.alloc (.cells #[.string s, .slice A l.length cap] 24)).cell? ⟨w.heap.size, 1, none⟩ = some (.slice A l.length cap) := cell_allocN _ _ _ 1
  have hsz : (w.alloc (.cells #[.string s, .slice A l.length cap] 24)).heap.size = w.heap.size + 1 := by simp
  generalize hW : w.alloc (.cells #[.string s, .slice A l.length cap] 24) = W0 at b0 c0 c01 hsz
  generalize hR : fewI s.size l = R
  unfold fewI at hR
  go_enter Tryz.func6, Tryz.ntmps6
  by_cases h1 : s.size ≤ 3145728
  · have e1 : decide ((3145728 : Int) < (s.size : Int)) = false := decide_eq_false (by omega)
    by_cases h2 : l.length ≤ 300
    · have e2 : decide ((300 : Int) < (l.length : Int)) = false := decide_eq_false (by omega)
      rw [if_pos ⟨h1, h2⟩] at hR
      have HR := Lib.hid hR
      clear hR
      go_wp2
      go_loopw [3] (fun c wr => ∃ i : Nat, i ≤ l.length ∧ c = .int .i64 i ∧ Hid ((l.all fun y => decide (y.vs.length ≤ 300)) = ((l.drop i).all fun y => decide (y.vs.length ≤ 300))) ∧ Below W0.heap.size W0 wr) (fun c _ => l.length - (intOf c).toNat)
      case atStart => exact ⟨0, by omega, rfl, Lib.hid rfl, Below.refl _ _⟩
      case round =>
        obtain ⟨i, hi, rfl, HD, hbr⟩ := hrel
        have c1 : wr.cell? ⟨w.heap.size, 0, none⟩ = some (.string s) := (hbr.cell (p := ⟨w.heap.size, 0, none⟩) (by show w.heap.size < W0.heap.size; omega)).trans c0
        have c2 : wr.cell? ⟨w.heap.size, 1, none⟩ = some (.slice A l.length cap) := (hbr.cell (p := ⟨w.heap.size, 1, none⟩) (by show w.heap.size < W0.heap.size; omega)).trans c01
        have hbw : Below w.heap.size w wr := b0.trans (hbr.mono (by omega))
        by_cases hlt : i < l.length
        · obtain ⟨g, off, rfl, hg, hc⟩ := (hA.below hbw (Nat.le_refl _)).at_ hlt
          have hk0 : (0 : Int) ≤ (i : Int) := by omega
          have hkl : (i : Int) < (l.length : Int) := by omega
          have p14 : wr.cell? ⟨g, off + i * 15 + 14, none⟩ = some (.slice l[i].V l[i].vs.length l[i].vc) := hc 14 _ rfl
          have hd := HD.out
          rw [List.drop_eq_getElem_cons hlt, List.all_cons] at hd
          generalize l[i] = y at p14 hd
          clear hc HD
          by_cases h3 : y.vs.length ≤ 300
          · have e3 : decide ((300 : Int) < (y.vs.length : Int)) = false := decide_eq_false (by omega)
            rw [decide_eq_true h3, Bool.true_and] at hd
            have HD := Lib.hid hd
            clear hd h3
            go_wp2
            go_roundw
            case rel => exact ⟨i + 1, by omega, by go_num, HD, hbr⟩
            case measure => simp [intOf]; omega
          · have e3 : decide ((300 : Int) < (y.vs.length : Int)) = true := decide_eq_true (by omega)
            rw [decide_eq_false h3, Bool.false_and] at hd
            have hr := HR.out
            rw [hd] at hr
            have HR2 := Lib.hid hr
            clear hd h3 hr HR
            go_wp2
            exact bodyPost_ret (results_tmp rfl _ _ _) rfl ⟨by rw [← HR2.out]; rfl, hbw⟩
        · have e : i = l.length := by omega
          subst e
          have hd := HD.out
          rw [List.drop_length] at hd
          have hr := HR.out
          rw [hd] at hr
          have HR2 := Lib.hid hr
          clear hd hr HR HD
          go_wp2
          exact bodyPost_ret (results_tmp rfl _ _ _) rfl ⟨by rw [← HR2.out]; rfl, hbw⟩
    · have e2 : decide ((300 : Int) < (l.length : Int)) = true := decide_eq_true (by omega)
      rw [if_neg (fun h => h2 h.2)] at hR
      have HR := Lib.hid hR
      clear hR
      go_wp2
      exact bodyPost_ret (results_tmp rfl _ _ _) rfl ⟨by rw [← HR.out]; rfl, b0⟩
  · have e1 : decide ((3145728 : Int) < (s.size : Int)) = true := decide_eq_true (by omega)
    rw [if_neg (fun h => h1 h.1)] at hR
    have HR := Lib.hid hR
    clear hR
    go_wp2
    exact bodyPost_ret (results_tmp rfl _ _ _) rfl ⟨by rw [← HR.out]; rfl, b0⟩
end Go.Proofs.YtdeelhbckfmaeaaGreatDoor
/- For the seat: the reference's Unpack: bytes as halfwords. -/
namespace Go.Proofs.YtdeelhbckfmaeaaGreatDoor
open Go.Sx Go.ChangeShapes Go.WideShapes Go.RowKit Go.Joins Go.Deep

/-- Bytes as halfwords, as the reference has them. -/
def unpR : List UInt8 → List Int
  | [] => []
  | [a] => [(a.toNat : Int)]
  | a :: b :: r => ((a.toNat : Int) + 256 * (b.toNat : Int)) :: unpR r

set_option maxRecDepth 100000 in
theorem unpR_len : ∀ l : List UInt8, (unpR l).length ≤ l.length
  | [] => Nat.le_refl _
  | [_] => Nat.le_refl _
  | a :: b :: r => by have := unpR_len r; simp only [unpR, List.length_cons]; omega

set_option maxRecDepth 100000 in
theorem byte_lt (a : UInt8) : a.toNat < 256 := a.toNat_lt

set_option maxRecDepth 100000 in
theorem unpR_has : ∀ l : List UInt8, ∀ v ∈ unpR l, 0 ≤ v ∧ v < 65536
  | [], v, h => by simp [unpR] at h
  | [a], v, h => by
    simp only [unpR, List.mem_cons, List.not_mem_nil, or_false] at h
    subst h
    have := byte_lt a
    omega
  | a :: b :: r, v, h => by
    simp only [unpR, List.mem_cons] at h
    rcases h with rfl | h
    · have := byte_lt a
      have := byte_lt b
      omega
    · exact unpR_has r v h

set_option maxRecDepth 100000 in
set_option maxHeartbeats 1000000 in
theorem unpackR_any (s : ByteArray) (w : World) (hs : s.size ≤ 4000000000) :
    Calls Tryz.prog 47 #[.string s] w fun e w' => ∃ A cap, e = .returned (.slice A (unpR s.data.toList).length cap) ∧ IAt w' w'.heap.size A (unpR s.data.toList) ∧ (unpR s.data.toList).length ≤ cap ∧ Below w.heap.size w w' := by
  have hsl : s.data.toList.length = s.size := rfl
  go_enter Tryz.func47, Tryz.ntmps47
  go_wp2
  go_loopw [3, 4] (fun v k wr => ∃ (i : Nat) (pre : List Int), k = .int .i64 i ∧ i ≤ s.size + 1 ∧ unpR s.data.toList = pre ++ unpR (s.data.toList.drop i) ∧ wr.ownsRow w.heap.size 3 1 v pre.length (encI pre) ∧ Below w.heap.size w wr) (fun _ k _ => s.size + 1 - (intOf k).toNat)
  case atStart => exact ⟨0, [], rfl, by omega, rfl, World.ownsRow_nil _ _ _ _, Below.refl _ _⟩
  case round =>
    obtain ⟨i, pre, rfl, hi, hp, hown, hbr⟩ := hrel
    have hpl : pre.length ≤ s.size := by
      have := congrArg List.length hp
      rw [List.length_append] at this
      have h2 := unpR_len s.data.toList
      omega
    by_cases hlt : i < s.size
    · have e1 : decide ((i : Int) < (s.size : Int)) = true := decide_eq_true (by omega)
      have hk0 : (0 : Int) ≤ (i : Int) := by omega
      have hkl : (i : Int) < (s.size : Int) := by omega
      have hx0 : s.data.toList.drop i = s[i] :: s.data.toList.drop (i + 1) := List.drop_eq_getElem_cons (by rw [hsl]; exact hlt)
      rw [hx0] at hp
      have hadd : IntKind.i64.wrap ((i : Int) + 1) = (i : Int) + 1 := IntWalk.i64_in _ (by omega)
      have hp0 := byte_lt s[i]
      generalize hv0 : s[i] = p at hp hp0
      by_cases h2 : i + 1 < s.size
      · have e2 : decide ((i : Int) + 1 < (s.size : Int)) = true := decide_eq_true (by omega)
        have hk1 : (0 : Int) ≤ (i : Int) + 1 := by omega
        have hkl1 : (i : Int) + 1 < (s.size : Int) := by omega
        have hx1 : s.data.toList.drop (i + 1) = s[i + 1] :: s.data.toList.drop (i + 1 + 1) := List.drop_eq_getElem_cons (by rw [hsl]; exact h2)
        have hp1 := byte_lt s[i + 1]
        rw [hx1] at hp
        generalize hv1 : s[i + 1] = q at hp hp1
        have HP := Lib.hid hp
        clear hp hx0 hx1
        go_wp2_with (at_builtin; refine app_int wr rfl _ _ rfl w.heap.size hbr.size pre ((p.toNat : Int) + 256 * (q.toNat : Int)) (by omega) _ rfl ?_ _ rfl rfl ?_; exact hown; intro v2 w2 hown2 hb2)
        refine ⟨⟨i + 2, pre ++ [(p.toNat : Int) + 256 * (q.toNat : Int)], by go_num, by omega, ?_, hown2, hbr.trans hb2⟩, ?_⟩
        · rw [HP.out, List.append_assoc]; rfl
        · simp [intOf]; omega
      · have e2 : decide ((i : Int) + 1 < (s.size : Int)) = false := decide_eq_false (by omega)
        have hx1 : s.data.toList.drop (i + 1) = [] := List.drop_eq_nil_of_le (by omega)
        rw [hx1] at hp
        have HP := Lib.hid hp
        clear hp hx0 hx1
        go_wp2_with (at_builtin; refine app_int wr rfl _ _ rfl w.heap.size hbr.size pre (p.toNat : Int) (by omega) _ rfl ?_ _ rfl rfl ?_; exact hown; intro v2 w2 hown2 hb2)
        refine ⟨⟨i + 2, pre ++ [(p.toNat : Int)], by go_num, by omega, ?_, hown2, hbr.trans hb2⟩, ?_⟩
        · rw [HP.out, List.append_assoc, List.drop_eq_nil_of_le (by omega : s.data.toList.length ≤ i + 2)]; rfl
        · simp [intOf]; omega
    · have hd : s.data.toList.drop i = [] := List.drop_eq_nil_of_le (by omega)
      have e1 : decide ((i : Int) < (s.size : Int)) = false := decide_eq_false (by omega)
      rw [hd] at hp
      have hfin : unpR s.data.toList = pre := by rw [hp]; exact List.append_nil _
      clear hp
      go_wp2_with fail
      rw [hfin]
      obtain ⟨A, cap, rfl, hA, hc⟩ := own_out hown
      exact bodyPost_ret (results_tmp rfl _ _ _) rfl ⟨A, cap, rfl, hA, hc, hbr⟩
end Go.Proofs.YtdeelhbckfmaeaaGreatDoor
/- For the seat: images, as the reference looks at them: plain. -/
namespace Go.Proofs.YtdeelhbckfmaeaaGreatDoor
open Go.Sx Go.ChangeShapes Go.WideShapes Go.RowKit Go.Joins Go.Deep

/-- The place that an item leads to, and whether it does, as the reference has it. -/
def leadsR (y : Itm) : Int × Bool :=
  if y.k = 1 then
    if y.x.x0 = 35 ∨ y.x.x0 = 36 ∨ y.x.x0 = 37 ∨ y.x.x0 = 38 then (wrap64 (wrap64 (y.a + 4) + y.x.x5), true)
    else if y.x.x0 = 40 ∨ y.x.x0 = 41 then (wrap64 (wrap64 (wrap64 ((wrap64 (y.a + 4)).tdiv 4) * 4) + y.x.x5), true)
    else (0, false)
  else (0, false)

/-- Does a place of an image that an item leads to stand there? -/
def ledB (n : Nat) (l : List Itm) (y : Itm) : Bool :=
  if (leadsR y).2 = true then
    if y.x.x0 = 40 ∨ y.x.x0 = 41 then decide (0 ≤ (leadsR y).1 ∧ (leadsR y).1 ≤ (n : Int)) else standsB n l (leadsR y).1
  else true
end Go.Proofs.YtdeelhbckfmaeaaGreatDoor
/- For the seat: the reference's Leads, Disjoint, stands, part: what they answer. -/
namespace Go.Proofs.YtdeelhbckfmaeaaGreatDoor
open Go.Sx Go.ChangeShapes Go.WideShapes Go.RowKit Go.Joins Go.Deep

set_option maxRecDepth 100000 in
set_option maxHeartbeats 1000000 in
theorem leadsR_any (y : Itm) (w : World) : Calls Tryz.prog 13 #[y.val] w fun e w' => e = .returned (.tuple #[.int .i64 (leadsR y).1, .bool (leadsR y).2]) ∧ Below w.heap.size w w' := by
  obtain ⟨k, a, s, f, l, x, V, vc, vs⟩ := y
  obtain ⟨x0, x1, x2, x3, x4, x5, x6, x7, xb⟩ := x
  unfold leadsR
  dsimp only
  go_enter Tryz.func13, Tryz.ntmps13
  have hb : Below w.heap.size w (w.alloc (.cells (Itm.cells ⟨k, a, s, f, l, ⟨x0, x1, x2, x3, x4, x5, x6, x7, xb⟩, V, vc, vs⟩) 33)) := (Below.refl _ _).alloc (Nat.le_refl _) _
  by_cases h1 : k = 1
  · subst h1
    rw [if_pos rfl]
    by_cases h35 : x0 = 35
    · subst h35
      rw [if_pos (.inl rfl)]
      go_wp2
      exact bodyPost_ret (by simp [results, Tryz.results13, go_sem]) rfl ⟨rfl, hb⟩
    have q35 : (x0 == 35) = false := by simpa using h35
    by_cases h36 : x0 = 36
    · subst h36
      rw [if_pos (.inr (.inl rfl))]
      go_wp2
      exact bodyPost_ret (by simp [results, Tryz.results13, go_sem]) rfl ⟨rfl, hb⟩
    have q36 : (x0 == 36) = false := by simpa using h36
    by_cases h37 : x0 = 37
    · subst h37
      rw [if_pos (.inr (.inr (.inl rfl)))]
      go_wp2
      exact bodyPost_ret (by simp [results, Tryz.results13, go_sem]) rfl ⟨rfl, hb⟩
    have q37 : (x0 == 37) = false := by simpa using h37
    by_cases h38 : x0 = 38
    · subst h38
      rw [if_pos (.inr (.inr (.inr rfl)))]
      go_wp2
      exact bodyPost_ret (by simp [results, Tryz.results13, go_sem]) rfl ⟨rfl, hb⟩
    have q38 : (x0 == 38) = false := by simpa using h38
    rw [if_neg (by rintro (h | h | h | h) <;> contradiction)]
    by_cases h40 : x0 = 40
    · subst h40
      rw [if_pos (.inl rfl)]
      go_wp2
      exact bodyPost_ret (by simp [results, Tryz.results13, go_sem]) rfl ⟨rfl, hb⟩
    have q40 : (x0 == 40) = false := by simpa using h40
    by_cases h41 : x0 = 41
    · subst h41
      rw [if_pos (.inr rfl)]
      go_wp2
      exact bodyPost_ret (by simp [results, Tryz.results13, go_sem]) rfl ⟨rfl, hb⟩
    have q41 : (x0 == 41) = false := by simpa using h41
    rw [if_neg (by rintro (h | h) <;> contradiction)]
    go_wp2
    exact bodyPost_ret (by simp [results, Tryz.results13, go_sem]) rfl ⟨rfl, hb⟩
  · rw [if_neg h1]
    have q1 : (k != 1) = true := by simpa using h1
    go_wp2
    exact bodyPost_ret (by simp [results, Tryz.results13, go_sem]) rfl ⟨rfl, hb⟩

set_option maxRecDepth 100000 in
set_option maxHeartbeats 2000000 in
theorem disjR_any (s : ByteArray) (l : List Itm) (A : Option Addr) (cap : Nat) (w : World) (hA : ItAt w w.heap.size A l) (hl : l.length ≤ maxLen) (hs : s.size ≤ maxLen) (hk : ∀ y ∈ l, y.Ok) :
    Calls Tryz.prog 15 #[.agg #[.string s, .slice A l.length cap]] w fun e w' => e = .returned (.bool (disjB s.size 0 l)) ∧ Below w.heap.size w w' := by
  unfold maxLen at hl hs
  have b0 : Below w.heap.size w (w.alloc (.cells #[.string s, .slice A l.length cap] 24)) := (Below.refl _ _).alloc (Nat.le_refl _) _
  have c0 : (w.alloc (.cells #[.string s, .slice A l.length cap] 24)).cell? ⟨w.heap.size, 0, none⟩ = some (.string s) := cell_allocN _ _ _ 0
  have c01 : (w.alloc (.cells #[.string s, .slice A l.length cap] 24)).cell? ⟨w.heap.size, 1, none⟩ = some (.slice A l.length cap) := cell_allocN _ _ _ 1
  generalize hW : w.alloc (.cells #[.string s, .slice A l.length cap] 24) = W0 at b0 c0 c01
  have hsz : W0.heap.size = w.heap.size + 1 := by rw [← hW]; simp
  go_enter Tryz.func15, Tryz.ntmps15
  go_wp2
  go_loopw [3, 4] (fun p k wr => ∃ (i : Nat) (q : Int), i ≤ l.length ∧ k = .int .i64 i ∧ p = .int .i64 q ∧ 0 ≤ q ∧ q ≤ s.size ∧ disjB s.size 0 l = disjB s.size q (l.drop i) ∧ Below W0.heap.size W0 wr) (fun _ k _ => l.length - (intOf k).toNat)
  case atStart => exact ⟨0, 0, by omega, rfl, rfl, by omega, by omega, rfl, Below.refl _ _⟩
  case round =>
    obtain ⟨i, q, hi, rfl, rfl, hq0, hqs, hd, hbr⟩ := hrel
    have c1 : wr.cell? ⟨w.heap.size, 0, none⟩ = some (.string s) := (hbr.cell (p := ⟨w.heap.size, 0, none⟩) (by show w.heap.size < W0.heap.size; omega)).trans c0
    have c2 : wr.cell? ⟨w.heap.size, 1, none⟩ = some (.slice A l.length cap) := (hbr.cell (p := ⟨w.heap.size, 1, none⟩) (by show w.heap.size < W0.heap.size; omega)).trans c01
    have hbw : Below w.heap.size w wr := b0.trans (hbr.mono (by omega))
    have hwz : w.heap.size < wr.heap.size := by have := hbr.size; omega
    by_cases hlt : i < l.length
    · obtain ⟨g, off, rfl, hg, hc⟩ := (hA.below hbw (Nat.le_refl _)).at_ hlt
      have hk0 : (0 : Int) ≤ (i : Int) := by omega
      have hkl : (i : Int) < (l.length : Int) := by omega
      have IN := itIn_of hc
      rw [List.drop_eq_getElem_cons hlt] at hd
      have hy := hk l[i] (List.getElem_mem hlt)
      generalize l[i] = y at hd IN hy
      clear hc
      obtain ⟨k, a, sz, f, ln, x, V, vc, vs⟩ := y
      obtain ⟨x0, x1, x2, x3, x4, x5, x6, x7, xb⟩ := x
      obtain ⟨p0, p1, p2, p3, p4, p5, p6, p7, p8, p9, p10, p11, p12, p13, p14⟩ := IN
      have hys := hy.s
      rw [disjB_cons] at hd
      dsimp only at hd hys p0 p1 p2 p3 p4 p5 p6 p7 p8 p9 p10 p11 p12 p13 p14
      have HD := Lib.hid hd
      clear hd hy
      have hg' : g < wr.heap.size := by omega
      have hfin : ∀ o, Below w.heap.size w (wr.alloc o) := fun o => hbw.alloc hbw.size o
      have hfin2 : ∀ o, Below W0.heap.size W0 (wr.alloc o) := fun o => hbr.alloc hbr.size o
      have hsub : IntKind.i64.wrap ((s.size : Int) - q) = (s.size : Int) - q := IntWalk.i64_in _ (by omega)
      by_cases h1 : a = q
      · subst h1
        have e1 : (a != a) = false := by simp
        by_cases h2 : sz < 1
        · have hr : disjB s.size 0 l = false := by rw [HD.out, if_neg (by omega)]
          have e2 : decide (sz < 1) = true := decide_eq_true h2
          go_wp2
          exact bodyPost_ret (results_tmp rfl _ _ _) rfl ⟨by first | rfl | (rw [hr]; rfl), hfin _⟩
        · have e2 : decide (sz < 1) = false := decide_eq_false h2
          by_cases h3 : (s.size : Int) - a < sz
          · have hr : disjB s.size 0 l = false := by rw [HD.out, if_neg (by omega)]
            have e3 : decide ((s.size : Int) - a < sz) = true := decide_eq_true h3
            go_wp2
            exact bodyPost_ret (results_tmp rfl _ _ _) rfl ⟨by first | rfl | (rw [hr]; rfl), hfin _⟩
          · have e3 : decide ((s.size : Int) - a < sz) = false := decide_eq_false h3
            have hr : disjB s.size 0 l = disjB s.size (a + sz) (l.drop (i + 1)) := by rw [HD.out, if_pos ⟨rfl, by omega, by omega⟩]
            have hadd : IntKind.i64.wrap (a + sz) = a + sz := IntWalk.i64_in _ (by omega)
            go_wp2
            go_roundw
            case rel => exact ⟨i + 1, a + sz, by omega, by go_num, rfl, by omega, by omega, hr, hfin2 _⟩
            case measure => simp [intOf]; omega
      · have hr : disjB s.size 0 l = false := by rw [HD.out, if_neg (by omega)]
        have e1 : (a != q) = true := by simpa using h1
        go_wp2
        exact bodyPost_ret (results_tmp rfl _ _ _) rfl ⟨by first | rfl | (rw [hr]; rfl), hfin _⟩
    · have e : i = l.length := by omega
      subst e
      rw [List.drop_length] at hd
      go_wp2
      refine bodyPost_ret (results_tmp rfl _ _ _) rfl ⟨by rw [hd]; rfl, hbw⟩

set_option maxRecDepth 100000 in
set_option maxHeartbeats 1000000 in
theorem standsR_any (s : ByteArray) (l : List Itm) (A : Option Addr) (cap : Nat) (q : Int) (w : World) (hA : ItAt w w.heap.size A l) (hl : l.length ≤ maxLen) :
    Calls Tryz.prog 48 #[.agg #[.string s, .slice A l.length cap], .int .i64 q] w fun e w' => e = .returned (.bool (standsB s.size l q)) ∧ Below w.heap.size w w' := by
  unfold maxLen at hl
  unfold standsB
  have b0 : Below w.heap.size w (w.alloc (.cells #[.string s, .slice A l.length cap] 24)) := (Below.refl _ _).alloc (Nat.le_refl _) _
  have c0 : (w.alloc (.cells #[.string s, .slice A l.length cap] 24)).cell? ⟨w.heap.size, 0, none⟩ = some (.string s) := cell_allocN _ _ _ 0
  have c01 : (w.alloc (.cells #[.string s, .slice A l.length cap] 24)).cell? ⟨w.heap.size, 1, none⟩ = some (.slice A l.length cap) := cell_allocN _ _ _ 1
  generalize hW : w.alloc (.cells #[.string s, .slice A l.length cap] 24) = W0 at b0 c0 c01
  have hsz : W0.heap.size = w.heap.size + 1 := by rw [← hW]; simp
  by_cases h : q = (s.size : Int)
  · subst h
    go_enter Tryz.func48, Tryz.ntmps48
    go_wp2
    exact bodyPost_ret (results_tmp rfl _ _ _) rfl ⟨by simp, b0⟩
  · have e : (q == (s.size : Int)) = false := by simpa using h
    rw [e, Bool.false_or]
    go_enter Tryz.func48, Tryz.ntmps48
    go_wp2
    go_loopw [5] (fun k wr => ∃ i : Nat, i ≤ l.length ∧ k = .int .i64 i ∧ (∀ j y, j < i → l[j]? = some y → (y.a == q) = false) ∧ wr = W0) (fun k _ => l.length - (intOf k).toNat)
    case atStart => exact ⟨0, by omega, rfl, fun j y hj => by omega, rfl⟩
    case round =>
      obtain ⟨i, hi, rfl, hp, rfl⟩ := hrel
      by_cases hlt : i < l.length
      · obtain ⟨g, off, rfl, hg, hc⟩ := (hA.below b0 (Nat.le_refl _)).at_ hlt
        have hk0 : (0 : Int) ≤ (i : Int) := by omega
        have hkl : (i : Int) < (l.length : Int) := by omega
        have p1 := hc 1 (.int .i64 l[i].a) rfl
        have hyes : (l[i].a == q) = true → (l.any fun y => y.a == q) = true := fun h => List.any_eq_true.2 ⟨l[i], List.getElem_mem hlt, h⟩
        have hno : (l[i].a == q) = false → ∀ j y, j < i + 1 → l[j]? = some y → (y.a == q) = false := fun h j y hj hy => by
          by_cases e : j = i
          · subst e; rw [List.getElem?_eq_getElem hlt] at hy; cases hy; exact h
          · exact hp j y (by omega) hy
        clear hc
        generalize l[i].a = a at p1 hyes hno
        have HY := Lib.hid hyes
        have HN := Lib.hid hno
        clear hyes hno hp
        cases hq : (a == q)
        · have hn := HN.out hq
          go_wp2
          go_roundw
          case rel => exact ⟨i + 1, by omega, by go_num, hn, trivial⟩
          case measure => simp [intOf]; omega
        · have hn := HY.out hq
          go_wp2
          exact bodyPost_ret (results_tmp rfl _ _ _) rfl ⟨by rw [hn]; rfl, b0⟩
      · have e : i = l.length := by omega
        subst e
        have hn := any_take hp (Nat.le_refl _)
        go_wp2
        exact bodyPost_ret (results_tmp rfl _ _ _) rfl ⟨by rw [hn]; rfl, b0⟩

/-- An item's bytes are there. -/
def partB (n : Nat) (y : Itm) : Bool := decide (0 ≤ y.a ∧ y.a ≤ (n : Int) ∧ 0 ≤ y.s ∧ y.s ≤ (n : Int) - y.a)

set_option maxRecDepth 100000 in
set_option maxHeartbeats 1000000 in
theorem partR_any (s : ByteArray) (V0 : Value) (y : Itm) (w : World) (hs : s.size ≤ 4000000000) (hy : y.Ok) :
    Calls Tryz.prog 45 #[.agg #[.string s, V0], y.val] w fun e w' => e = .returned (.tuple #[.string (if partB s.size y then s.extract y.a.toNat (y.a + y.s).toNat else ⟨#[]⟩), .bool (partB s.size y)]) ∧ Below w.heap.size w w' := by
  have hya := hy.a
  have hys := hy.s
  unfold partB
  obtain ⟨k, a, sz, f, ln, x, V, vc, vs⟩ := y
  obtain ⟨x0, x1, x2, x3, x4, x5, x6, x7, xb⟩ := x
  dsimp only at hya hys ⊢
  clear hy
  have b0 : ∀ o1 o2, Below w.heap.size w ((w.alloc o1).alloc o2) := fun o1 o2 => ((Below.refl _ _).alloc (Nat.le_refl _) o1).alloc (by simp) o2
  by_cases h1 : a < 0
  · have e1 : decide (a < 0) = true := decide_eq_true h1
    have hr : decide (0 ≤ a ∧ a ≤ (s.size : Int) ∧ 0 ≤ sz ∧ sz ≤ (s.size : Int) - a) = false := decide_eq_false (by omega)
    rw [hr]
    go_enter Tryz.func45, Tryz.ntmps45
    go_wp2
    exact bodyPost_ret (by simp [results, Tryz.results45, go_sem]) rfl ⟨rfl, b0 _ _⟩
  have e1 : decide (a < 0) = false := decide_eq_false h1
  by_cases h2 : (s.size : Int) < a
  · have e2 : decide ((s.size : Int) < a) = true := decide_eq_true h2
    have hr : decide (0 ≤ a ∧ a ≤ (s.size : Int) ∧ 0 ≤ sz ∧ sz ≤ (s.size : Int) - a) = false := decide_eq_false (by omega)
    rw [hr]
    go_enter Tryz.func45, Tryz.ntmps45
    go_wp2
    exact bodyPost_ret (by simp [results, Tryz.results45, go_sem]) rfl ⟨rfl, b0 _ _⟩
  have e2 : decide ((s.size : Int) < a) = false := decide_eq_false h2
  by_cases h3 : sz < 0
  · have e3 : decide (sz < 0) = true := decide_eq_true h3
    have hr : decide (0 ≤ a ∧ a ≤ (s.size : Int) ∧ 0 ≤ sz ∧ sz ≤ (s.size : Int) - a) = false := decide_eq_false (by omega)
    rw [hr]
    go_enter Tryz.func45, Tryz.ntmps45
    go_wp2
    exact bodyPost_ret (by simp [results, Tryz.results45, go_sem]) rfl ⟨rfl, b0 _ _⟩
  have e3 : decide (sz < 0) = false := decide_eq_false h3
  have hsub : IntKind.i64.wrap ((s.size : Int) - a) = (s.size : Int) - a := IntWalk.i64_in _ (by omega)
  by_cases h4 : (s.size : Int) - a < sz
  · have e4 : decide ((s.size : Int) - a < sz) = true := decide_eq_true h4
    have hr : decide (0 ≤ a ∧ a ≤ (s.size : Int) ∧ 0 ≤ sz ∧ sz ≤ (s.size : Int) - a) = false := decide_eq_false (by omega)
    rw [hr]
    go_enter Tryz.func45, Tryz.ntmps45
    go_wp2
    exact bodyPost_ret (by simp [results, Tryz.results45, go_sem]) rfl ⟨rfl, b0 _ _⟩
  have e4 : decide ((s.size : Int) - a < sz) = false := decide_eq_false h4
  have hadd : IntKind.i64.wrap (a + sz) = a + sz := IntWalk.i64_in _ (by omega)
  have s0 : (0 : Int) ≤ a := by omega
  have s1 : a ≤ a + sz := by omega
  have s2 : a + sz ≤ (s.size : Int) := by omega
  have hr : decide (0 ≤ a ∧ a ≤ (s.size : Int) ∧ 0 ≤ sz ∧ sz ≤ (s.size : Int) - a) = true := decide_eq_true (by omega)
  rw [hr]
  go_enter Tryz.func45, Tryz.ntmps45
  go_wp2
  exact bodyPost_ret (by simp [results, Tryz.results45, go_sem]) rfl ⟨rfl, b0 _ _⟩
end Go.Proofs.YtdeelhbckfmaeaaGreatDoor
/- For the seat: the reference looks at a pool: it answers. -/
namespace Go.Proofs.YtdeelhbckfmaeaaGreatDoor
open Go.Sx Go.ChangeShapes Go.WideShapes Go.RowKit Go.Joins Go.Deep

set_option maxRecDepth 100000 in
set_option maxHeartbeats 1000000 in
theorem findR_any (l : List Int) (A : Option Addr) (cap : Nat) (v : Int) (w : World) (hA : IAt w w.heap.size A l) (hl : l.length ≤ maxLen) :
    Calls Tryz.prog 85 #[.slice A l.length cap, .int .i64 v] w fun e w' => e = .returned (.int .i64 (indexI l v)) ∧ w' = w := by
  unfold maxLen at hl
  go_enter Tryz.func85, Tryz.ntmps85
  go_wp2
  go_loopw [5] (fun k wr => ∃ i : Nat, i ≤ l.length ∧ k = .int .i64 i ∧ (∀ j, j < i → l[j]? ≠ some v) ∧ wr = w) (fun k _ => l.length - (intOf k).toNat)
  case atStart => exact ⟨0, by omega, rfl, fun j hj => by omega, rfl⟩
  case round =>
    obtain ⟨i, hi, rfl, hp, rfl⟩ := hrel
    by_cases hlt : i < l.length
    · obtain ⟨g, off, rfl, hg, hc⟩ := hA.at_ hlt
      have hk0 : (0 : Int) ≤ (i : Int) := by omega
      have hkl : (i : Int) < (l.length : Int) := by omega
      by_cases he : l[i] = v
      · have hr := indexI_at hlt hp he
        rw [he] at hc
        have hq : (v == v) = true := by simp
        go_wp2
        refine bodyPost_ret (results_tmp rfl _ _ _) rfl ⟨by rw [hr]; rfl, rfl⟩
      · have hq : (l[i] == v) = false := by simpa using he
        have hp' : ∀ j, j < i + 1 → l[j]? ≠ some v := fun j hj => by
          by_cases e : j = i
          · subst e; rw [List.getElem?_eq_getElem hlt]; simpa using fun e => he e
          · exact hp j (by omega)
        go_wp2
        go_roundw
        case rel => exact ⟨i + 1, by omega, by go_num, hp', trivial⟩
        case measure => simp [intOf]; omega
    · have e : i = l.length := by omega
      subst e
      have hr := indexI_none hp
      go_wp2
      refine bodyPost_ret (results_tmp rfl _ _ _) rfl ⟨by rw [hr]; rfl, rfl⟩

set_option maxRecDepth 100000 in
set_option maxHeartbeats 2000000 in
theorem poolR_any (y : Itm) (p : ByteArray) (w : World) (hV : IAt w w.heap.size y.V y.vs) (hvb : y.vs.length ≤ 1000000000) (hp : p.size ≤ 4000000000) :
    Calls Tryz.prog 49 #[y.val, .string p] w fun e w' => (∃ r, e = .returned (.bool r)) ∧ Below w.heap.size w w' := by
  obtain ⟨k, a, sz, f, ln, x, V, vc, vs⟩ := y
  obtain ⟨x0, x1, x2, x3, x4, x5, x6, x7, xb⟩ := x
  dsimp only at hV hvb
  have b0 := (Below.refl w.heap.size w).alloc (Nat.le_refl _) (.cells (Itm.cells ⟨k, a, sz, f, ln, ⟨x0, x1, x2, x3, x4, x5, x6, x7, xb⟩, V, vc, vs⟩) 33)
  have c1 : (w.alloc (.cells (Itm.cells ⟨k, a, sz, f, ln, ⟨x0, x1, x2, x3, x4, x5, x6, x7, xb⟩, V, vc, vs⟩) 33)).cell? ⟨w.heap.size, 1, none⟩ = some (.int .i64 a) := cell_allocN _ _ _ 1
  have c14 : (w.alloc (.cells (Itm.cells ⟨k, a, sz, f, ln, ⟨x0, x1, x2, x3, x4, x5, x6, x7, xb⟩, V, vc, vs⟩) 33)).cell? ⟨w.heap.size, 14, none⟩ = some (.slice V vs.length vc) := cell_allocN _ _ _ 14
  have hsz : (w.alloc (.cells (Itm.cells ⟨k, a, sz, f, ln, ⟨x0, x1, x2, x3, x4, x5, x6, x7, xb⟩, V, vc, vs⟩) 33)).heap.size = w.heap.size + 1 := by simp
  dsimp only [Itm.val, Itm.cells] at b0 c1 c14 hsz ⊢
  generalize hW : w.alloc (.cells #[.int .i64 k, .int .i64 a, .int .i64 sz, .int .i64 f, .int .i64 ln, .int .i64 x0, .int .i64 x1, .int .i64 x2, .int .i64 x3, .int .i64 x4, .int .i64 x5, .int .i64 x6, .int .i64 x7, .bool xb, .slice V vs.length vc] 33) = W0 at b0 c1 c14 hsz
  have hV0 : IAt W0 w.heap.size V vs := hV.below b0 (Nat.le_refl _)
  clear hV
  have hm : IntKind.i64.wrap (4 * (vs.length : Int)) = 4 * (vs.length : Int) := IntWalk.i64_in _ (by omega)
  go_enter Tryz.func49, Tryz.ntmps49
  go_wp2
  · exact bodyPost_ret (results_tmp rfl _ _ _) rfl ⟨⟨false, rfl⟩, b0⟩
  rotate_left
  · exact bodyPost_ret (results_tmp rfl _ _ _) rfl ⟨⟨false, rfl⟩, b0⟩
  have hne := ‹((p.size : Int) != 4 * (vs.length : Int)) = false›
  have hpv : p.size = 4 * vs.length := by
    have hne' := hne
    simp only [bne_eq_false_iff_eq] at hne'
    omega
  rw [hne]
  have HPV := Lib.hid hpv
  clear hne hpv
  go_loopw [5] (fun c wr => ∃ i : Nat, i ≤ vs.length ∧ c = .int .i64 i ∧ Below W0.heap.size W0 wr) (fun c _ => vs.length - (intOf c).toNat)
  case atStart => exact ⟨0, by omega, rfl, Below.refl _ _⟩
  case round =>
    obtain ⟨i, hi, rfl, hbr⟩ := hrel
    have keep : ∀ w', Below W0.heap.size W0 w' → w'.cell? ⟨w.heap.size, 14, none⟩ = some (.slice V vs.length vc) := fun w' h => (h.cell (p := ⟨w.heap.size, 14, none⟩) (by show w.heap.size < W0.heap.size; omega)).trans c14
    have hbw : Below w.heap.size w wr := b0.trans (hbr.mono (by omega))
    have d14 := keep wr hbr
    by_cases hlt : i < vs.length
    · have hpv := HPV.out
      obtain ⟨g, off, rfl, hgb, hc⟩ := (hV0.below hbr (by omega)).at_ hlt
      have hk0 : (0 : Int) ≤ (i : Int) := by omega
      have hkl : (i : Int) < (vs.length : Int) := by omega
      have m0 : IntKind.i64.wrap (4 * (i : Int)) = 4 * (i : Int) := IntWalk.i64_in _ (by omega)
      have m1 : IntKind.i64.wrap (4 * (i : Int) + 1) = 4 * (i : Int) + 1 := IntWalk.i64_in _ (by omega)
      have m2 : IntKind.i64.wrap (4 * (i : Int) + 2) = 4 * (i : Int) + 2 := IntWalk.i64_in _ (by omega)
      have m3 : IntKind.i64.wrap (4 * (i : Int) + 3) = 4 * (i : Int) + 3 := IntWalk.i64_in _ (by omega)
      have s0 : (0 : Int) ≤ 4 * (i : Int) := by omega
      have s1 : (0 : Int) ≤ 4 * (i : Int) + 1 := by omega
      have s2 : (0 : Int) ≤ 4 * (i : Int) + 2 := by omega
      have s3 : (0 : Int) ≤ 4 * (i : Int) + 3 := by omega
      have t0 : 4 * (i : Int) < (p.size : Int) := by omega
      have t1 : 4 * (i : Int) + 1 < (p.size : Int) := by omega
      have t2 : 4 * (i : Int) + 2 < (p.size : Int) := by omega
      have t3 : 4 * (i : Int) + 3 < (p.size : Int) := by omega
      have u0 : (4 * (i : Int)).toNat = 4 * i := by omega
      have u1 : (4 * (i : Int) + 1).toNat = 4 * i + 1 := by omega
      have u2 : (4 * (i : Int) + 2).toNat = 4 * i + 2 := by omega
      have u3 : (4 * (i : Int) + 3).toNat = 4 * i + 3 := by omega
      have hI := fun n q => findR_any vs (some ⟨g, off, none⟩) vc q (wr.drewN n) ((hV0.below hbr (by omega)).more (by have := hbr.size; show w.heap.size ≤ wr.heap.size; omega)) (by unfold maxLen; omega)
      generalize vs[i] = v at hc
      have y0 : 4 * i < p.size := by omega
      have y1 : 4 * i + 1 < p.size := by omega
      have y2 : 4 * i + 2 < p.size := by omega
      have y3 : 4 * i + 3 < p.size := by omega
      clear hpv
      go_wp2_with fail
      go_quiet (fail)
      generalize p[4 * i] = q0
      generalize p[4 * i + 1] = q1
      generalize p[4 * i + 2] = q2
      generalize p[4 * i + 3] = q3
      generalize wrap64 (q0.toNat : Int) = a0
      generalize wrap64 (q1.toNat : Int) = a1
      generalize wrap64 (q2.toNat : Int) = a2
      generalize wrap64 (q3.toNat : Int) = a3
      generalize wrap64 (a1 * 256) = b1
      generalize wrap64 (a2 * 65536) = b2
      generalize wrap64 (a3 * 16777216) = b3
      generalize wrap64 (a0 + b1) = e1
      generalize wrap64 (e1 + b2) = e2
      generalize wrap64 (e2 + b3) = e3
      generalize (q0.toNat : Int) = f0
      generalize (q1.toNat : Int) = f1
      generalize (q2.toNat : Int) = f2
      generalize (q3.toNat : Int) = f3
      clear y0 y1 y2 y3 m0 m1 m2 m3 s0 s1 s2 s3 t0 t1 t2 t3 u0 u1 u2 u3 hm HPV
      generalize 4 * (i : Int) + 1 = j1
      generalize 4 * (i : Int) + 2 = j2
      generalize 4 * (i : Int) + 3 = j3
      generalize 4 * (i : Int) = j0
      cases hx : (e3 != v)
      · go_wp2_with fail
        ((with_reducible refine (hI _ _).mono ?_); rintro e w4 ⟨rfl, rfl⟩)
        generalize indexI vs e3 = ix at *
        cases hy : (ix != (i : Int))
        · go_wp2_with fail
          go_roundw
          case rel => exact ⟨i + 1, by omega, by go_num, below_drewN hbr⟩
          case measure => simp [intOf]; omega
        · go_wp2_with fail
          exact bodyPost_ret (results_tmp rfl _ _ _) rfl ⟨⟨false, rfl⟩, below_drewN hbw⟩
      · go_wp2_with fail
        exact bodyPost_ret (results_tmp rfl _ _ _) rfl ⟨⟨false, rfl⟩, below_drewN hbw⟩
    · have e : i = vs.length := by omega
      subst e
      go_wp2_with fail
      exact bodyPost_ret (results_tmp rfl _ _ _) rfl ⟨⟨true, rfl⟩, hbw⟩
end Go.Proofs.YtdeelhbckfmaeaaGreatDoor
