/- For the seat: texts joined: Tla, DecDef, Dec, StmDef, StmIt, Two, Stm, Lit, SamI, Same. -/
import Derived.Test.YtmaaibffgoanpaaGreatDoorJC0
import Derived.Deep.RegionHeld3
import Derived.Test.YtmaaibffgoanpaaGreatDoorJS5
import Derived.RangeFuncBox
import Derived.RangeFuncNested
import Derived.RangeFuncBound
import Derived.RangeFuncLeaves
import Derived.Shelf.Abstract
import Derived.WalkKit
import Derived.OwnWalkIn
import Derived.TacticsInMore
import Derived.LoopNIn
import Derived.LoopIn
import Derived.IntWalk
import Derived.Deep.RegionHeld
import Derived.RegionTactic
import Derived.RangeFuncCalls
import Derived.Test.YtmaaibffgoanpaaGreatDoorJT0
import Derived.Test.YtmaaibffgoanpaaGreatDoorJT1
import Derived.Test.YtmaaibffgoanpaaGreatDoorJT2
import Derived.Test.YtmaaibffgoanpaaGreatDoorJT3
import Derived.Test.YtmaaibffgoanpaaGreatDoorJT4
import Derived.Test.YtmaaibffgoanpaaGreatDoorJT5
import Derived.Test.YtmaaibffgoanpaaGreatDoorJT6
import Derived.Test.YtmaaibffgoanpaaGreatDoorJT7
import Derived.Test.YtmaaibffgoanpaaGreatDoorJT8
import Derived.Test.YtmaaibffgoanpaaGreatDoorJT9
import Derived.Test.YtmaaibffgoanpaaGreatDoorJT10
import Derived.Test.YtmaaibffgoanpaaGreatDoorJT11
/- Tla: all cases of the input. -/
namespace Go.Proofs.YtmaaibffgoanpaaGreatDoor.tla
open Go.Sx
set_option maxRecDepth 100000
theorem all : ∀ j : Nat, j < 419 → tal.at' j = true := by
  intro j hj
  by_cases h : j < 14
  · exact List.all_eq_true.1 w0x0 j (List.mem_range'_1.2 ⟨by omega, by omega⟩)
  by_cases h : j < 15
  · exact List.all_eq_true.1 w0x14 j (List.mem_range'_1.2 ⟨by omega, by omega⟩)
  by_cases h : j < 16
  · exact List.all_eq_true.1 w0x15 j (List.mem_range'_1.2 ⟨by omega, by omega⟩)
  by_cases h : j < 44
  · exact List.all_eq_true.1 w0x16 j (List.mem_range'_1.2 ⟨by omega, by omega⟩)
  by_cases h : j < 45
  · exact List.all_eq_true.1 w0x44 j (List.mem_range'_1.2 ⟨by omega, by omega⟩)
  by_cases h : j < 53
  · exact List.all_eq_true.1 w0x45 j (List.mem_range'_1.2 ⟨by omega, by omega⟩)
  by_cases h : j < 54
  · exact List.all_eq_true.1 w0x53 j (List.mem_range'_1.2 ⟨by omega, by omega⟩)
  by_cases h : j < 62
  · exact List.all_eq_true.1 w0x54 j (List.mem_range'_1.2 ⟨by omega, by omega⟩)
  by_cases h : j < 63
  · exact List.all_eq_true.1 w0x62 j (List.mem_range'_1.2 ⟨by omega, by omega⟩)
  by_cases h : j < 71
  · exact List.all_eq_true.1 w0x63 j (List.mem_range'_1.2 ⟨by omega, by omega⟩)
  by_cases h : j < 72
  · exact List.all_eq_true.1 w0x71 j (List.mem_range'_1.2 ⟨by omega, by omega⟩)
  by_cases h : j < 78
  · exact List.all_eq_true.1 w0x72 j (List.mem_range'_1.2 ⟨by omega, by omega⟩)
  by_cases h : j < 80
  · exact List.all_eq_true.1 w0x78 j (List.mem_range'_1.2 ⟨by omega, by omega⟩)
  by_cases h : j < 81
  · exact List.all_eq_true.1 w0x80 j (List.mem_range'_1.2 ⟨by omega, by omega⟩)
  by_cases h : j < 89
  · exact List.all_eq_true.1 w0x81 j (List.mem_range'_1.2 ⟨by omega, by omega⟩)
  by_cases h : j < 90
  · exact List.all_eq_true.1 w0x89 j (List.mem_range'_1.2 ⟨by omega, by omega⟩)
  by_cases h : j < 107
  · exact List.all_eq_true.1 w0x90 j (List.mem_range'_1.2 ⟨by omega, by omega⟩)
  by_cases h : j < 116
  · exact List.all_eq_true.1 w0x107 j (List.mem_range'_1.2 ⟨by omega, by omega⟩)
  by_cases h : j < 117
  · exact List.all_eq_true.1 w0x116 j (List.mem_range'_1.2 ⟨by omega, by omega⟩)
  by_cases h : j < 125
  · exact List.all_eq_true.1 w0x117 j (List.mem_range'_1.2 ⟨by omega, by omega⟩)
  by_cases h : j < 126
  · exact List.all_eq_true.1 w0x125 j (List.mem_range'_1.2 ⟨by omega, by omega⟩)
  by_cases h : j < 143
  · exact List.all_eq_true.1 w0x126 j (List.mem_range'_1.2 ⟨by omega, by omega⟩)
  by_cases h : j < 160
  · exact List.all_eq_true.1 w0x143 j (List.mem_range'_1.2 ⟨by omega, by omega⟩)
  by_cases h : j < 175
  · exact List.all_eq_true.1 w0x160 j (List.mem_range'_1.2 ⟨by omega, by omega⟩)
  by_cases h : j < 188
  · exact List.all_eq_true.1 w0x175 j (List.mem_range'_1.2 ⟨by omega, by omega⟩)
  by_cases h : j < 189
  · exact List.all_eq_true.1 w0x188 j (List.mem_range'_1.2 ⟨by omega, by omega⟩)
  by_cases h : j < 197
  · exact List.all_eq_true.1 w0x189 j (List.mem_range'_1.2 ⟨by omega, by omega⟩)
  by_cases h : j < 198
  · exact List.all_eq_true.1 w0x197 j (List.mem_range'_1.2 ⟨by omega, by omega⟩)
  by_cases h : j < 215
  · exact List.all_eq_true.1 w0x198 j (List.mem_range'_1.2 ⟨by omega, by omega⟩)
  by_cases h : j < 224
  · exact List.all_eq_true.1 w0x215 j (List.mem_range'_1.2 ⟨by omega, by omega⟩)
  by_cases h : j < 225
  · exact List.all_eq_true.1 w0x224 j (List.mem_range'_1.2 ⟨by omega, by omega⟩)
  by_cases h : j < 233
  · exact List.all_eq_true.1 w0x225 j (List.mem_range'_1.2 ⟨by omega, by omega⟩)
  by_cases h : j < 234
  · exact List.all_eq_true.1 w0x233 j (List.mem_range'_1.2 ⟨by omega, by omega⟩)
  by_cases h : j < 242
  · exact List.all_eq_true.1 w0x234 j (List.mem_range'_1.2 ⟨by omega, by omega⟩)
  by_cases h : j < 243
  · exact List.all_eq_true.1 w0x242 j (List.mem_range'_1.2 ⟨by omega, by omega⟩)
  by_cases h : j < 251
  · exact List.all_eq_true.1 w0x243 j (List.mem_range'_1.2 ⟨by omega, by omega⟩)
  by_cases h : j < 252
  · exact List.all_eq_true.1 w0x251 j (List.mem_range'_1.2 ⟨by omega, by omega⟩)
  by_cases h : j < 269
  · exact List.all_eq_true.1 w0x252 j (List.mem_range'_1.2 ⟨by omega, by omega⟩)
  by_cases h : j < 278
  · exact List.all_eq_true.1 w0x269 j (List.mem_range'_1.2 ⟨by omega, by omega⟩)
  by_cases h : j < 279
  · exact List.all_eq_true.1 w0x278 j (List.mem_range'_1.2 ⟨by omega, by omega⟩)
  by_cases h : j < 287
  · exact List.all_eq_true.1 w0x279 j (List.mem_range'_1.2 ⟨by omega, by omega⟩)
  by_cases h : j < 288
  · exact List.all_eq_true.1 w0x287 j (List.mem_range'_1.2 ⟨by omega, by omega⟩)
  by_cases h : j < 296
  · exact List.all_eq_true.1 w0x288 j (List.mem_range'_1.2 ⟨by omega, by omega⟩)
  by_cases h : j < 297
  · exact List.all_eq_true.1 w0x296 j (List.mem_range'_1.2 ⟨by omega, by omega⟩)
  by_cases h : j < 305
  · exact List.all_eq_true.1 w0x297 j (List.mem_range'_1.2 ⟨by omega, by omega⟩)
  by_cases h : j < 306
  · exact List.all_eq_true.1 w0x305 j (List.mem_range'_1.2 ⟨by omega, by omega⟩)
  by_cases h : j < 323
  · exact List.all_eq_true.1 w0x306 j (List.mem_range'_1.2 ⟨by omega, by omega⟩)
  by_cases h : j < 331
  · exact List.all_eq_true.1 w0x323 j (List.mem_range'_1.2 ⟨by omega, by omega⟩)
  by_cases h : j < 335
  · exact List.all_eq_true.1 w0x331 j (List.mem_range'_1.2 ⟨by omega, by omega⟩)
  by_cases h : j < 341
  · exact List.all_eq_true.1 w0x335 j (List.mem_range'_1.2 ⟨by omega, by omega⟩)
  by_cases h : j < 347
  · exact List.all_eq_true.1 w0x341 j (List.mem_range'_1.2 ⟨by omega, by omega⟩)
  by_cases h : j < 353
  · exact List.all_eq_true.1 w0x347 j (List.mem_range'_1.2 ⟨by omega, by omega⟩)
  by_cases h : j < 359
  · exact List.all_eq_true.1 w0x353 j (List.mem_range'_1.2 ⟨by omega, by omega⟩)
  by_cases h : j < 361
  · exact List.all_eq_true.1 w0x359 j (List.mem_range'_1.2 ⟨by omega, by omega⟩)
  by_cases h : j < 366
  · exact List.all_eq_true.1 w0x361 j (List.mem_range'_1.2 ⟨by omega, by omega⟩)
  by_cases h : j < 371
  · exact List.all_eq_true.1 w0x366 j (List.mem_range'_1.2 ⟨by omega, by omega⟩)
  by_cases h : j < 378
  · exact List.all_eq_true.1 w0x371 j (List.mem_range'_1.2 ⟨by omega, by omega⟩)
  by_cases h : j < 384
  · exact List.all_eq_true.1 w0x378 j (List.mem_range'_1.2 ⟨by omega, by omega⟩)
  by_cases h : j < 390
  · exact List.all_eq_true.1 w0x384 j (List.mem_range'_1.2 ⟨by omega, by omega⟩)
  by_cases h : j < 394
  · exact List.all_eq_true.1 w0x390 j (List.mem_range'_1.2 ⟨by omega, by omega⟩)
  by_cases h : j < 398
  · exact List.all_eq_true.1 w0x394 j (List.mem_range'_1.2 ⟨by omega, by omega⟩)
  by_cases h : j < 401
  · exact List.all_eq_true.1 w0x398 j (List.mem_range'_1.2 ⟨by omega, by omega⟩)
  by_cases h : j < 408
  · exact List.all_eq_true.1 w0x401 j (List.mem_range'_1.2 ⟨by omega, by omega⟩)
  by_cases h : j < 414
  · exact List.all_eq_true.1 w0x408 j (List.mem_range'_1.2 ⟨by omega, by omega⟩)
  by_cases h : j < 419
  · exact List.all_eq_true.1 w0x414 j (List.mem_range'_1.2 ⟨by omega, by omega⟩)
  omega
end Go.Proofs.YtmaaibffgoanpaaGreatDoor.tla
/- For the seat: decode.Decode: what it answers at any halfwords. -/
namespace Go.Proofs.YtmaaibffgoanpaaGreatDoor
open Go.Sx Go.ChangeShapes Go.WideShapes Go.RowKit Go.Joins Go.Deep

namespace lng
def and (n : Int) : Tm := .op2 (.and .i64) (.var 0) (.num n)
def longT : Tm := .op2 .band (.op2 .eq (and 57344) (.num 57344)) (.op1 .not (.op2 .eq (and 6144) (.num 0)))
def kn : Kn := ⟨[], [], [], [], [0]⟩
set_option maxRecDepth 100000 in
theorem run : pxIs sg (.bool longT) (callT cx noS (run cx noS 400) 15 [.int .i64 (.var 0)] [] (.bit true)) kn = true := by kernel_rfl
end lng

/-- Does a halfword begin an instruction of two? -/
def longB (a : Int) : Bool := (lng.longT.den (envOf F [.int a])).asBool

set_option maxRecDepth 100000 in
theorem long_ans {a : Int} (ha : kHas .i64 a) : Ans 15 [.int .i64 a] (.bool (longB a)) := by
  have S : Sats (envOf F [.int a]) lng.kn := by
    refine Sats.start (one_vars (s := .int a) ha) _ ?_
    intro i hi
    simp only [List.mem_cons, List.not_mem_nil, or_false] at hi
    subst hi
    exact ⟨_, rfl⟩
  obtain ⟨x', h1, h2⟩ := pxIs_ok (sg_ok' F_signs) _ _ S lng.run
  refine ans_of (call_ok (ρ := envOf F [.int a]) cxok (noS_ok _ _) (noS_body _) rfl h1) (by intro v hv; simp at hv; subst hv; rfl) rfl ?_
  intro ι
  rw [h2]
  rfl

abbrev zeroF : Fields := ⟨0, 0, 0, 0, 0, 0, 0, 0, false⟩
set_option maxRecDepth 100000 in
theorem zeroF_ok : zeroF.Ok := ⟨zero_has, zero_has, zero_has, zero_has, zero_has, zero_has, zero_has, zero_has⟩

/-- An instruction lies in a block. -/
def InsAt (W : World) (b : Nat) (x : Fields) : Prop := (W.cell? ⟨b, 0, none⟩ = some (.int .i64 x.x0) ∧ W.cell? ⟨b, 1, none⟩ = some (.int .i64 x.x1) ∧ W.cell? ⟨b, 2, none⟩ = some (.int .i64 x.x2) ∧ W.cell? ⟨b, 3, none⟩ = some (.int .i64 x.x3) ∧ W.cell? ⟨b, 4, none⟩ = some (.int .i64 x.x4) ∧ W.cell? ⟨b, 5, none⟩ = some (.int .i64 x.x5) ∧ W.cell? ⟨b, 6, none⟩ = some (.int .i64 x.x6) ∧ W.cell? ⟨b, 7, none⟩ = some (.int .i64 x.x7) ∧ W.cell? ⟨b, 8, none⟩ = some (.bool x.b)) ∧ (W.frozen? ⟨b, 0, none⟩ = false ∧ W.frozen? ⟨b, 1, none⟩ = false ∧ W.frozen? ⟨b, 2, none⟩ = false ∧ W.frozen? ⟨b, 3, none⟩ = false ∧ W.frozen? ⟨b, 4, none⟩ = false ∧ W.frozen? ⟨b, 5, none⟩ = false ∧ W.frozen? ⟨b, 6, none⟩ = false ∧ W.frozen? ⟨b, 7, none⟩ = false ∧ W.frozen? ⟨b, 8, none⟩ = false)
abbrev Fields.cells (x : Fields) : Array Value := #[.int .i64 x.x0, .int .i64 x.x1, .int .i64 x.x2, .int .i64 x.x3, .int .i64 x.x4, .int .i64 x.x5, .int .i64 x.x6, .int .i64 x.x7, .bool x.b]
set_option maxRecDepth 100000 in
theorem InsAt.new (W : World) (x : Fields) (t : TypeId) : InsAt (W.alloc (.cells x.cells t)) W.heap.size x := by
  have h : (W.alloc (.cells x.cells t)).heap[W.heap.size]? = some (.cells x.cells t (0, 0)) := heap_alloc_new W _
  have c : ∀ o, (W.alloc (.cells x.cells t)).cell? ⟨W.heap.size, o, none⟩ = x.cells[o]? := fun o => by simp only [World.cell?, h]; rfl
  have f : ∀ o, (W.alloc (.cells x.cells t)).frozen? ⟨W.heap.size, o, none⟩ = false := fun o => by simp only [World.frozen?, h]; simp
  exact ⟨⟨by rw [c]; rfl, by rw [c]; rfl, by rw [c]; rfl, by rw [c]; rfl, by rw [c]; rfl, by rw [c]; rfl, by rw [c]; rfl, by rw [c]; rfl, by rw [c]; rfl⟩, f 0, f 1, f 2, f 3, f 4, f 5, f 6, f 7, f 8⟩
set_option maxRecDepth 100000 in
theorem InsAt.drew {W : World} {b : Nat} {x : Fields} (h : InsAt W b x) : InsAt W.drew b x := h
set_option maxRecDepth 100000 in
theorem InsAt.below {W W' : World} {b B : Nat} {x : Fields} (h : InsAt W b x) (hb : Below B W W') (hB : b < B) : InsAt W' b x := by
  unfold InsAt at h ⊢
  have e := fun o => hb.cell (p := ⟨b, o, none⟩) hB
  have f := fun o => hb.frozen (p := ⟨b, o, none⟩) hB
  simp only [e, f]
  exact h

set_option maxRecDepth 100000 in
/-- Behind an instruction's store other cells are as they were. -/
theorem far9 {W : World} {b g : Nat} (h : b ≠ g) (o : Nat) (v0 v1 v2 v3 v4 v5 v6 v7 v8 : Value) : (((((((((W.setCell ⟨b, 0, none⟩ v0).setCell ⟨b, 1, none⟩ v1).setCell ⟨b, 2, none⟩ v2).setCell ⟨b, 3, none⟩ v3).setCell ⟨b, 4, none⟩ v4).setCell ⟨b, 5, none⟩ v5).setCell ⟨b, 6, none⟩ v6).setCell ⟨b, 7, none⟩ v7).setCell ⟨b, 8, none⟩ v8).cell? ⟨g, o, none⟩ = W.cell? ⟨g, o, none⟩ := by
  have e : ∀ (w : World) (k : Nat) (v : Value), (w.setCell ⟨b, k, none⟩ v).cell? ⟨g, o, none⟩ = w.cell? ⟨g, o, none⟩ := fun w k v => World.cell?_setCell_far w _ _ v h
  rw [e, e, e, e, e, e, e, e, e]

/-- The answer of Decode: the instruction, how many halfwords, the error's number. -/
def RetD (x : Fields) (n e : Int) (en : Ending) (w w' : World) : Prop := en = .returned (.tuple #[x.val, .int .i64 n, .int .i64 e]) ∧ Below w.heap.size w w'

set_option maxRecDepth 100000 in
theorem bcells {W w1 : World} {B : Nat} (hb : Below B W w1) : (∀ b o, b < B → w1.cell? ⟨b, o, none⟩ = W.cell? ⟨b, o, none⟩) ∧ (∀ b o, b < B → w1.frozen? ⟨b, o, none⟩ = W.frozen? ⟨b, o, none⟩) :=
  ⟨fun b o h => hb.cell (p := ⟨b, o, none⟩) h, fun b o h => hb.frozen (p := ⟨b, o, none⟩) h⟩

set_option maxRecDepth 100000 in
theorem dec_nil (A : Option Addr) (cap : Nat) (it : Bool) (w : World) : Calls Tryz.prog 7 #[.slice A 0 cap, .bool it] w fun e w' => RetD zeroF 0 2 e w w' := by
  go_enter Tryz.func7, Tryz.ntmps7
  go_wp2_with fail
  exact bodyPost_ret (v := .tuple #[.agg #[.int .i64 0, .int .i64 0, .int .i64 0, .int .i64 0, .int .i64 0, .int .i64 0, .int .i64 0, .int .i64 0, .bool false], .int .i64 0, .int .i64 2]) (by simp [results, Tryz.results7, go_sem]) rfl ⟨rfl, (Below.refl _ _).alloc (Nat.le_refl _) _⟩

set_option maxRecDepth 100000 in
set_option maxHeartbeats 1000000 in
theorem dec_short (a : Int) (r : List Int) (it : Bool) (A : Option Addr) (cap : Nat) (w : World) (h : IAt w w.heap.size A (a :: r)) (hlen : (a :: r).length ≤ maxLen) (hw : Laid w)
    (hL : Ans 15 [.int .i64 a] (.bool false)) (x0 x1 x2 x3 x4 x5 x6 x7 : Int) (xb ok : Bool)
    (hS : Ans 16 [.int .i64 a, .bool it] (.tuple #[.agg #[.int .i64 x0, .int .i64 x1, .int .i64 x2, .int .i64 x3, .int .i64 x4, .int .i64 x5, .int .i64 x6, .int .i64 x7, .bool xb], .bool ok])) :
    Calls Tryz.prog 7 #[.slice A (a :: r).length cap, .bool it] w fun e w' => RetD (if ok then ⟨x0, x1, x2, x3, x4, x5, x6, x7, xb⟩ else zeroF) (if ok then 1 else 0) (if ok then 0 else 10) e w w' := by
  obtain ⟨g, off, rfl, hg, hc⟩ := h.at_ (k := 0) (by simp)
  simp only [List.getElem_cons_zero, Nat.add_zero] at hc
  unfold maxLen at hlen
  have hn0 : 0 < (a :: r).length := by simp
  clear h
  generalize (a :: r).length = n at *
  have lay : ∀ w1 : World, Below w.heap.size w w1 → Laid w1 := fun w1 hb => laid_below hw hb
  have b0 : Below w.heap.size w (w.alloc (.cells zeroF.cells 23)) := (Below.refl _ _).alloc (Nat.le_refl _) _
  have i0 : InsAt (w.alloc (.cells zeroF.cells 23)) w.heap.size zeroF := InsAt.new _ _ _
  have IZ := Lib.hid i0
  clear i0
  go_enter Tryz.func7, Tryz.ntmps7
  go_wp2_with fail
  ((with_reducible refine (hL.go (lay _ b0)).mono ?_); rintro e w1 ⟨rfl, hb1⟩)
  have c1 := b0.trans (hb1.mono (by simp))
  have i1 : Hid (InsAt w1 w.heap.size zeroF) := Lib.hid (IZ.out.below hb1 (by simp))
  clear IZ
  have hc1 : w1.cell? ⟨g, off, none⟩ = some (.int .i64 a) := (c1.cell (p := ⟨g, off, none⟩) hg).trans hc
  go_wp2_with fail
  ((with_reducible refine (hS.go (lay _ c1)).mono ?_); rintro e w2 ⟨rfl, hb2⟩)
  have c2 := c1.trans (hb2.mono c1.size)
  have z1 : w.heap.size < w1.heap.size := by have := hb1.size; simp at this; omega
  have i2 : Hid (InsAt w2 w.heap.size zeroF) := Lib.hid (i1.out.below hb2 z1)
  clear i1
  have hc2 : w2.cell? ⟨g, off, none⟩ = some (.int .i64 a) := (c2.cell (p := ⟨g, off, none⟩) hg).trans hc
  have hg2 : g < w2.heap.size := Nat.lt_of_lt_of_le hg c2.size
  have z2 : w.heap.size < w2.heap.size := Nat.lt_of_lt_of_le z1 hb2.size
  go_wp2_with fail
  have b3 : Below w.heap.size w (w2.alloc (.cells (Fields.cells ⟨x0, x1, x2, x3, x4, x5, x6, x7, xb⟩) 23)) := c2.alloc c2.size _
  have bb : Below w2.heap.size w2 (w2.alloc (.cells (Fields.cells ⟨x0, x1, x2, x3, x4, x5, x6, x7, xb⟩) 23)) := (Below.refl _ _).alloc (Nat.le_refl _) _
  ((with_reducible refine (hL.go (lay _ b3)).mono ?_); rintro e w3 ⟨rfl, hb3⟩)
  have c3 := b3.trans (hb3.mono b3.size)
  have i3 : InsAt w3 w.heap.size zeroF := (i2.out.below bb z2).below hb3 (by simp; omega)
  have j3 : InsAt w3 w2.heap.size ⟨x0, x1, x2, x3, x4, x5, x6, x7, xb⟩ := (InsAt.new _ _ _).below hb3 (by simp)
  have hz3 : w2.heap.size < w3.heap.size := by have := hb3.size; simp at this; omega
  clear i2 bb b0 hc hc1 hc2 hL hS lay
  obtain ⟨⟨p0, p1, p2, p3, p4, p5, p6, p7, p8⟩, q0, q1, q2, q3, q4, q5, q6, q7, q8⟩ := i3
  obtain ⟨⟨r0, r1, r2, r3, r4, r5, r6, r7, r8⟩, _⟩ := j3
  simp only at p0 p1 p2 p3 p4 p5 p6 p7 p8
  simp only at r0 r1 r2 r3 r4 r5 r6 r7 r8
  have hne : ¬ w.heap.size = w2.heap.size := by omega
  cases ok
  · go_wp2_with fail
    exact bodyPost_ret (v := .tuple #[.agg #[.int .i64 0, .int .i64 0, .int .i64 0, .int .i64 0, .int .i64 0, .int .i64 0, .int .i64 0, .int .i64 0, .bool false], .int .i64 0, .int .i64 10]) (by simp [results, Tryz.results7, go_sem, p0, p1, p2, p3, p4, p5, p6, p7, p8]) rfl ⟨rfl, (((((((((c3).setCell (Nat.le_refl _) _).setCell (Nat.le_refl _) _).setCell (Nat.le_refl _) _).setCell (Nat.le_refl _) _).setCell (Nat.le_refl _) _).setCell (Nat.le_refl _) _).setCell (Nat.le_refl _) _).setCell (Nat.le_refl _) _).setCell (Nat.le_refl _) _⟩
  · go_wp2_with fail
    exact bodyPost_ret (v := .tuple #[.agg #[.int .i64 x0, .int .i64 x1, .int .i64 x2, .int .i64 x3, .int .i64 x4, .int .i64 x5, .int .i64 x6, .int .i64 x7, .bool xb], .int .i64 1, .int .i64 0]) (by simp [results, Tryz.results7, go_sem, p0, p1, p2, p3, p4, p5, p6, p7, p8]) rfl ⟨rfl, (((((((((c3).setCell (Nat.le_refl _) _).setCell (Nat.le_refl _) _).setCell (Nat.le_refl _) _).setCell (Nat.le_refl _) _).setCell (Nat.le_refl _) _).setCell (Nat.le_refl _) _).setCell (Nat.le_refl _) _).setCell (Nat.le_refl _) _).setCell (Nat.le_refl _) _⟩

set_option maxRecDepth 100000 in
set_option maxHeartbeats 1000000 in
theorem dec_end (a : Int) (it : Bool) (A : Option Addr) (cap : Nat) (w : World) (h : IAt w w.heap.size A [a]) (hw : Laid w) (hL : Ans 15 [.int .i64 a] (.bool true)) :
    Calls Tryz.prog 7 #[.slice A 1 cap, .bool it] w fun e w' => RetD zeroF 0 2 e w w' := by
  obtain ⟨g, off, rfl, hg, hc⟩ := h.at_ (k := 0) (by simp)
  simp only [List.getElem_cons_zero, Nat.add_zero] at hc
  clear h
  have b0 : Below w.heap.size w (w.alloc (.cells zeroF.cells 23)) := (Below.refl _ _).alloc (Nat.le_refl _) _
  have i0 : InsAt (w.alloc (.cells zeroF.cells 23)) w.heap.size zeroF := InsAt.new _ _ _
  have IZ := Lib.hid i0
  clear i0
  go_enter Tryz.func7, Tryz.ntmps7
  go_wp2_with fail
  ((with_reducible refine (hL.go (laid_below hw b0)).mono ?_); rintro e w1 ⟨rfl, hb1⟩)
  have c1 := b0.trans (hb1.mono (by simp))
  obtain ⟨⟨p0, p1, p2, p3, p4, p5, p6, p7, p8⟩, q0, q1, q2, q3, q4, q5, q6, q7, q8⟩ := IZ.out.below hb1 (by simp)
  simp only at p0 p1 p2 p3 p4 p5 p6 p7 p8
  clear IZ hL b0
  go_wp2_with fail
  exact bodyPost_ret (v := .tuple #[.agg #[.int .i64 0, .int .i64 0, .int .i64 0, .int .i64 0, .int .i64 0, .int .i64 0, .int .i64 0, .int .i64 0, .bool false], .int .i64 0, .int .i64 2]) (by simp [results, Tryz.results7, go_sem, p0, p1, p2, p3, p4, p5, p6, p7, p8]) rfl ⟨rfl, ((((((((c1.setCell (Nat.le_refl _) _).setCell (Nat.le_refl _) _).setCell (Nat.le_refl _) _).setCell (Nat.le_refl _) _).setCell (Nat.le_refl _) _).setCell (Nat.le_refl _) _).setCell (Nat.le_refl _) _).setCell (Nat.le_refl _) _).setCell (Nat.le_refl _) _⟩

set_option maxRecDepth 100000 in
set_option maxHeartbeats 2000000 in
theorem dec_long (a b : Int) (r : List Int) (it : Bool) (A : Option Addr) (cap : Nat) (w : World) (h : IAt w w.heap.size A (a :: b :: r)) (hlen : (a :: b :: r).length ≤ maxLen) (hw : Laid w)
    (hL : Ans 15 [.int .i64 a] (.bool true)) (x0 x1 x2 x3 x4 x5 x6 x7 : Int) (xb ok : Bool)
    (hS : Ans 16 [.int .i64 a, .bool it] (.tuple #[.agg #[.int .i64 x0, .int .i64 x1, .int .i64 x2, .int .i64 x3, .int .i64 x4, .int .i64 x5, .int .i64 x6, .int .i64 x7, .bool xb], .bool ok]))
    (y0 y1 y2 y3 y4 y5 y6 y7 : Int) (yb : Bool) (yk : Bool)
    (hT : Ans 17 [.int .i64 a, .int .i64 b, .bool it] (.tuple #[.agg #[.int .i64 y0, .int .i64 y1, .int .i64 y2, .int .i64 y3, .int .i64 y4, .int .i64 y5, .int .i64 y6, .int .i64 y7, .bool yb], .bool yk])) :
    Calls Tryz.prog 7 #[.slice A (a :: b :: r).length cap, .bool it] w fun e w' => RetD (if yk then ⟨y0, y1, y2, y3, y4, y5, y6, y7, yb⟩ else zeroF) (if yk then 2 else 0) (if yk then 0 else 10) e w w' := by
  obtain ⟨g, off, rfl, hg, hc⟩ := h.at_ (k := 0) (by simp)
  obtain ⟨g', off', hA, hg', hd⟩ := h.at_ (k := 1) (by simp)
  simp only [Option.some.injEq, Addr.mk.injEq, and_true] at hA
  obtain ⟨rfl, rfl⟩ := hA
  simp only [List.getElem_cons_zero, Nat.add_zero] at hc
  simp only [List.getElem_cons_succ, List.getElem_cons_zero] at hd
  unfold maxLen at hlen
  have hn0 : 2 ≤ (a :: b :: r).length := by simp
  clear h hg'
  generalize (a :: b :: r).length = n at *
  have lay : ∀ w1 : World, Below w.heap.size w w1 → Laid w1 := fun w1 hb => laid_below hw hb
  have b0 : Below w.heap.size w (w.alloc (.cells zeroF.cells 23)) := (Below.refl _ _).alloc (Nat.le_refl _) _
  have i0 : InsAt (w.alloc (.cells zeroF.cells 23)) w.heap.size zeroF := InsAt.new _ _ _
  have IZ := Lib.hid i0
  clear i0
  have hlt2 : decide ((n : Int) < 2) = false := decide_eq_false (by omega)
  have h1n : (1 : Int) < (n : Int) := by omega
  go_enter Tryz.func7, Tryz.ntmps7
  go_wp2_with fail
  ((with_reducible refine (hL.go (lay _ b0)).mono ?_); rintro e w1 ⟨rfl, hb1⟩)
  have c1 := b0.trans (hb1.mono (by simp))
  have i1 : Hid (InsAt w1 w.heap.size zeroF) := Lib.hid (IZ.out.below hb1 (by simp))
  clear IZ
  have hc1 : w1.cell? ⟨g, off, none⟩ = some (.int .i64 a) := (c1.cell (p := ⟨g, off, none⟩) hg).trans hc
  go_wp2_with fail
  ((with_reducible refine (hS.go (lay _ c1)).mono ?_); rintro e w2 ⟨rfl, hb2⟩)
  have c2 := c1.trans (hb2.mono c1.size)
  have z1 : w.heap.size < w1.heap.size := by have := hb1.size; simp at this; omega
  have i2 : Hid (InsAt w2 w.heap.size zeroF) := Lib.hid (i1.out.below hb2 z1)
  clear i1
  have hc2 : w2.cell? ⟨g, off, none⟩ = some (.int .i64 a) := (c2.cell (p := ⟨g, off, none⟩) hg).trans hc
  have hg2 : g < w2.heap.size := Nat.lt_of_lt_of_le hg c2.size
  have z2 : w.heap.size < w2.heap.size := Nat.lt_of_lt_of_le z1 hb2.size
  clear hc1
  go_wp2_with fail
  have b3 : Below w.heap.size w (w2.alloc (.cells (Fields.cells ⟨x0, x1, x2, x3, x4, x5, x6, x7, xb⟩) 23)) := c2.alloc c2.size _
  have bb : Below w2.heap.size w2 (w2.alloc (.cells (Fields.cells ⟨x0, x1, x2, x3, x4, x5, x6, x7, xb⟩) 23)) := (Below.refl _ _).alloc (Nat.le_refl _) _
  ((with_reducible refine (hL.go (lay _ b3)).mono ?_); rintro e w3 ⟨rfl, hb3⟩)
  have c3 := b3.trans (hb3.mono b3.size)
  have i3 : Hid (InsAt w3 w.heap.size zeroF) := Lib.hid ((i2.out.below bb z2).below hb3 (by simp; omega))
  have j3 : Hid (InsAt w3 w2.heap.size ⟨x0, x1, x2, x3, x4, x5, x6, x7, xb⟩) := Lib.hid ((InsAt.new _ _ _).below hb3 (by simp))
  have hz3 : w2.heap.size < w3.heap.size := by have := hb3.size; simp at this; omega
  have hc3 : w3.cell? ⟨g, off, none⟩ = some (.int .i64 a) := (c3.cell (p := ⟨g, off, none⟩) hg).trans hc
  have hd3 : w3.cell? ⟨g, off + 1, none⟩ = some (.int .i64 b) := (c3.cell (p := ⟨g, off + 1, none⟩) hg).trans hd
  clear i2 bb b0 hc2
  go_wp2_with fail
  have hT' := hT.go (lay _ c3.drew)
  have hg3 : g < w3.drew.heap.size := Nat.lt_of_lt_of_le hg c3.size
  have z23 : w2.heap.size < w3.drew.heap.size := hz3
  have z03 : w.heap.size < w3.drew.heap.size := Nat.lt_trans z2 hz3
  have nb : w2.heap.size ≠ g := by omega
  clear hL hS
  go_region_held3 (fun w' => w'.cell? ⟨g, off, none⟩ = some (.int .i64 a) ∧ w'.cell? ⟨g, off + 1, none⟩ = some (.int .i64 b))
    (first
      | (with_reducible exact ⟨hc4, hd4⟩)
      | (with_reducible exact ⟨(far9 nb _ _ _ _ _ _ _ _ _ _).trans hc4, (far9 nb _ _ _ _ _ _ _ _ _ _).trans hd4⟩)
      | go_keep)
    (first
      | (go_at_call 17; refine hT'.mono ?_; rintro e w4 ⟨rfl, hb4⟩; obtain ⟨⟨r0, r1, r2, r3, r4, r5, r6, r7, r8⟩, s0, s1, s2, s3, s4, s5, s6, s7, s8⟩ := j3.out.drew.below hb4 z23; have hc4 := (hb4.cell (p := ⟨g, off, none⟩) hg3).trans hc3; have hd4 := (hb4.cell (p := ⟨g, off + 1, none⟩) hg3).trans hd3))
  obtain ⟨⟨p0, p1, p2, p3, p4, p5, p6, p7, p8⟩, q0, q1, q2, q3, q4, q5, q6, q7, q8⟩ := i3.out.drew.below hb4 z03
  simp only at p0 p1 p2 p3 p4 p5 p6 p7 p8
  have c4 := c3.drew.trans (hb4.mono c3.size)
  have hne : ¬ w.heap.size = w2.heap.size := by omega
  have hne' : ¬ w2.heap.size = w.heap.size := by omega
  clear i3 j3 hc3 hd3 hT hT' b3 hb3 hb2 hb1
  cases yk
  · go_wp2_with fail
    exact bodyPost_ret (v := .tuple #[.agg #[.int .i64 0, .int .i64 0, .int .i64 0, .int .i64 0, .int .i64 0, .int .i64 0, .int .i64 0, .int .i64 0, .bool false], .int .i64 0, .int .i64 10]) (by simp [results, Tryz.results7, go_sem, p0, p1, p2, p3, p4, p5, p6, p7, p8]) rfl ⟨rfl, (((((((((((((((((c4.setCell (Nat.le_of_lt z2) _).setCell (Nat.le_of_lt z2) _).setCell (Nat.le_of_lt z2) _).setCell (Nat.le_of_lt z2) _).setCell (Nat.le_of_lt z2) _).setCell (Nat.le_of_lt z2) _).setCell (Nat.le_of_lt z2) _).setCell (Nat.le_of_lt z2) _).setCell (Nat.le_of_lt z2) _).setCell (Nat.le_refl _) _).setCell (Nat.le_refl _) _).setCell (Nat.le_refl _) _).setCell (Nat.le_refl _) _).setCell (Nat.le_refl _) _).setCell (Nat.le_refl _) _).setCell (Nat.le_refl _) _).setCell (Nat.le_refl _) _).setCell (Nat.le_refl _) _⟩
  · go_wp2_with fail
    exact bodyPost_ret (v := .tuple #[.agg #[.int .i64 y0, .int .i64 y1, .int .i64 y2, .int .i64 y3, .int .i64 y4, .int .i64 y5, .int .i64 y6, .int .i64 y7, .bool yb], .int .i64 2, .int .i64 0]) (by simp [results, Tryz.results7, go_sem, p0, p1, p2, p3, p4, p5, p6, p7, p8]) rfl ⟨rfl, (((((((((((((((((c4.setCell (Nat.le_of_lt z2) _).setCell (Nat.le_of_lt z2) _).setCell (Nat.le_of_lt z2) _).setCell (Nat.le_of_lt z2) _).setCell (Nat.le_of_lt z2) _).setCell (Nat.le_of_lt z2) _).setCell (Nat.le_of_lt z2) _).setCell (Nat.le_of_lt z2) _).setCell (Nat.le_of_lt z2) _).setCell (Nat.le_refl _) _).setCell (Nat.le_refl _) _).setCell (Nat.le_refl _) _).setCell (Nat.le_refl _) _).setCell (Nat.le_refl _) _).setCell (Nat.le_refl _) _).setCell (Nat.le_refl _) _).setCell (Nat.le_refl _) _).setCell (Nat.le_refl _) _⟩

end Go.Proofs.YtmaaibffgoanpaaGreatDoor
/- For the seat: decode.Decode at any halfwords, as a function of them. -/
namespace Go.Proofs.YtmaaibffgoanpaaGreatDoor
open Go.Sx Go.ChangeShapes Go.WideShapes Go.RowKit Go.Joins Go.Deep

set_option maxRecDepth 100000 in
theorem sho_any {a : Int} (ha : kHas .i64 a) (it : Bool) : ∃ p, DecP 16 [.int .i64 a, .bool it] p := sho_dec (fun j hj => sha.all j (by rw [sho.len] at hj; exact hj)) ha it
set_option maxRecDepth 100000 in
theorem tal_any {a b : Int} (ha : kHas .i64 a) (hb : kHas .i64 b) (it : Bool) : ∃ p, DecP 17 [.int .i64 a, .int .i64 b, .bool it] p := tal_dec (fun j hj => tla.all j (by rw [tal.len] at hj; exact hj)) ha hb it

open Classical in
/-- What a halfword is read as. -/
noncomputable def shortOf (a : Int) (it : Bool) : Fields × Bool := if h : ∃ p, DecP 16 [.int .i64 a, .bool it] p then Classical.choose h else (zeroF, false)
open Classical in
/-- What two halfwords are read as. -/
noncomputable def tallOf (a b : Int) (it : Bool) : Fields × Bool := if h : ∃ p, DecP 17 [.int .i64 a, .int .i64 b, .bool it] p then Classical.choose h else (zeroF, false)
set_option maxRecDepth 100000 in
theorem shortOf_ok {a : Int} (ha : kHas .i64 a) (it : Bool) : DecP 16 [.int .i64 a, .bool it] (shortOf a it) := by
  unfold shortOf
  rw [dif_pos (sho_any ha it)]
  exact Classical.choose_spec (sho_any ha it)
set_option maxRecDepth 100000 in
theorem tallOf_ok {a b : Int} (ha : kHas .i64 a) (hb : kHas .i64 b) (it : Bool) : DecP 17 [.int .i64 a, .int .i64 b, .bool it] (tallOf a b it) := by
  unfold tallOf
  rw [dif_pos (tal_any ha hb it)]
  exact Classical.choose_spec (tal_any ha hb it)

def pickD (p : Fields × Bool) (n : Int) : Fields × Int × Int := (if p.2 then p.1 else zeroF, if p.2 then n else 0, if p.2 then 0 else 10)
/-- What halfwords are read as: the first instruction, how many halfwords, the error's number. -/
noncomputable def decOf : List Int → Bool → Fields × Int × Int
  | [], _ => (zeroF, 0, 2)
  | [a], it => if longB a then (zeroF, 0, 2) else pickD (shortOf a it) 1
  | a :: b :: _, it => if longB a then pickD (tallOf a b it) 2 else pickD (shortOf a it) 1

set_option maxRecDepth 100000 in
theorem decOf_one (a : Int) (it : Bool) : decOf [a] it = if longB a then (zeroF, 0, 2) else pickD (shortOf a it) 1 := rfl
set_option maxRecDepth 100000 in
theorem decOf_two (a b : Int) (r : List Int) (it : Bool) : decOf (a :: b :: r) it = if longB a then pickD (tallOf a b it) 2 else pickD (shortOf a it) 1 := rfl

set_option maxRecDepth 100000 in
theorem dec_any (l : List Int) (A : Option Addr) (cap : Nat) (it : Bool) (w : World) (h : IAt w w.heap.size A l) (hl : ∀ a ∈ l, kHas .i64 a) (hlen : l.length ≤ maxLen) (hw : Laid w) :
    Calls Tryz.prog 7 #[.slice A l.length cap, .bool it] w fun e w' => RetD (decOf l it).1 (decOf l it).2.1 (decOf l it).2.2 e w w' := by
  match l, h, hl, hlen with
  | [], _, _, _ => exact dec_nil A cap it w
  | a :: r, h, hl, hlen =>
    have ha := hl a (by simp)
    have hL := long_ans ha
    have hS := (shortOf_ok ha it).ans
    cases hlb : longB a
    · rw [hlb] at hL
      have e : decOf (a :: r) it = pickD (shortOf a it) 1 := by
        cases r
        · rw [decOf_one, hlb]; rfl
        · rw [decOf_two, hlb]; rfl
      rw [e]
      exact dec_short a r it A cap w h hlen hw hL _ _ _ _ _ _ _ _ _ _ hS
    · rw [hlb] at hL
      match r, h, hl, hlen with
      | [], h, _, _ =>
        have e : decOf [a] it = (zeroF, 0, 2) := by rw [decOf_one, hlb]; rfl
        rw [e]
        exact dec_end a it A cap w h hw hL
      | b :: r, h, hl, hlen =>
        have e : decOf (a :: b :: r) it = pickD (tallOf a b it) 2 := by rw [decOf_two, hlb]; rfl
        rw [e]
        exact dec_long a b r it A cap w h hlen hw hL _ _ _ _ _ _ _ _ _ _ hS _ _ _ _ _ _ _ _ _ _ (tallOf_ok ha (hl b (by simp)) it).ans

set_option maxRecDepth 100000 in
theorem pickD_ok {p : Fields × Bool} (n : Int) (h : p.1.Ok) : (pickD p n).1.Ok := by
  unfold pickD
  by_cases hp : p.2 <;> simp only [hp]
  · exact h
  · exact zeroF_ok

set_option maxRecDepth 100000 in
theorem pickD_num {p : Fields × Bool} {n : Int} (h : (pickD p n).2.2 = 0) : (pickD p n).2.1 = n ∧ p.2 = true ∧ (pickD p n).1 = p.1 := by
  unfold pickD at h ⊢
  by_cases hp : p.2 <;> simp [hp] at h ⊢

set_option maxRecDepth 100000 in
/-- An instruction that is read has fields of 64 bits. -/
theorem decOf_ok {l : List Int} (hl : ∀ a ∈ l, kHas .i64 a) (it : Bool) : (decOf l it).1.Ok := by
  match l, hl with
  | [], _ => exact zeroF_ok
  | [a], hl =>
    rw [decOf_one]
    split
    · exact zeroF_ok
    · exact pickD_ok _ (shortOf_ok (hl a (by simp)) it).ok
  | a :: b :: r, hl =>
    rw [decOf_two]
    split
    · exact pickD_ok _ (tallOf_ok (hl a (by simp)) (hl b (by simp)) it).ok
    · exact pickD_ok _ (shortOf_ok (hl a (by simp)) it).ok

set_option maxRecDepth 100000 in
/-- It is of one halfword or two, and there are so many. -/
theorem decOf_num {l : List Int} {it : Bool} (h : (decOf l it).2.2 = 0) : ∃ n : Nat, (decOf l it).2.1 = n ∧ 1 ≤ n ∧ n ≤ l.length ∧ n ≤ 2 := by
  match l with
  | [] => exact absurd (show (2 : Int) = 0 from h) (by decide)
  | [a] =>
    rw [decOf_one] at h ⊢
    split at h
    · exact absurd (show (2 : Int) = 0 from h) (by decide)
    · rename_i hb
      rw [if_neg hb]
      exact ⟨1, (pickD_num h).1, by omega, by simp, by omega⟩
  | a :: b :: r =>
    rw [decOf_two] at h ⊢
    split at h
    · rename_i hb
      rw [if_pos hb]
      exact ⟨2, (pickD_num h).1, by omega, by simp, by omega⟩
    · rename_i hb
      rw [if_neg hb]
      exact ⟨1, (pickD_num h).1, by omega, by simp, by omega⟩

end Go.Proofs.YtmaaibffgoanpaaGreatDoor
/- For the seat: the row of instructions that halfwords are read as; what a round of the range over them keeps. -/
namespace Go.Proofs.YtmaaibffgoanpaaGreatDoor
open Go.Sx Go.ChangeShapes Go.WideShapes Go.RowKit Go.Joins Go.Deep

/-- Is it within a block? -/
def itB (it : Int) : Bool := bits BinOp.and IntKind.i64 it 15 != 0

/-- The instructions from a place on, and their places; fuel: how many halfwords are left at most. -/
noncomputable def strm (l : List Int) : Nat → Nat → Int → List (Nat × Fields)
  | 0, _, _ => []
  | f + 1, k, it => if k < l.length ∧ (decOf (l.drop k) (itB it)).2.2 = 0 then (k, (decOf (l.drop k) (itB it)).1) :: strm l f (k + (decOf (l.drop k) (itB it)).2.1.toNat) (aftI it (decOf (l.drop k) (itB it)).1) else []

set_option maxRecDepth 100000 in
theorem strm_fuel (l : List Int) : ∀ (f g k : Nat) (it : Int), l.length ≤ f + k → l.length ≤ g + k → strm l f k it = strm l g k it
  | 0, 0, _, _, _, _ => rfl
  | 0, g + 1, k, it, h, _ => by simp [strm, show ¬ k < l.length by omega]
  | f + 1, 0, k, it, _, h => by simp [strm, show ¬ k < l.length by omega]
  | f + 1, g + 1, k, it, h, h' => by
    unfold strm
    split
    · rename_i hc
      obtain ⟨n, hn, h1, _⟩ := decOf_num hc.2
      rw [hn, Int.toNat_natCast, strm_fuel l f g (k + n) _ (by omega) (by omega)]
    · rfl

/-- All of them. -/
noncomputable def strmA (l : List Int) (k : Nat) (it : Int) : List (Nat × Fields) := strm l l.length k it
set_option maxRecDepth 100000 in
theorem strmA_stop {l : List Int} {k : Nat} {it : Int} (h : ¬ (k < l.length ∧ (decOf (l.drop k) (itB it)).2.2 = 0)) : strmA l k it = [] := by
  unfold strmA
  cases hl : l.length with
  | zero => rfl
  | succ n => rw [strm, if_neg h]
set_option maxRecDepth 100000 in
theorem strmA_go {l : List Int} {k n : Nat} {it : Int} (h : k < l.length) (he : (decOf (l.drop k) (itB it)).2.2 = 0) (hn : (decOf (l.drop k) (itB it)).2.1 = n) :
    strmA l k it = (k, (decOf (l.drop k) (itB it)).1) :: strmA l (k + n) (aftI it (decOf (l.drop k) (itB it)).1) := by
  unfold strmA
  obtain ⟨m, hm⟩ : ∃ m, l.length = m + 1 := ⟨l.length - 1, by omega⟩
  obtain ⟨n', hn', h1, _⟩ := decOf_num he
  have : n' = n := by rw [hn'] at hn; exact_mod_cast hn
  subst this
  rw [hm, strm, if_pos ⟨h, he⟩, hn, Int.toNat_natCast, strm_fuel l m (m + 1) _ _ (by omega) (by omega)]
set_option maxRecDepth 100000 in
theorem strm_len (l : List Int) : ∀ (f k : Nat) (it : Int), (strm l f k it).length ≤ f
  | 0, _, _ => Nat.le_refl _
  | f + 1, k, it => by
    unfold strm
    split
    · have := strm_len l f (k + (decOf (l.drop k) (itB it)).2.1.toNat) (aftI it (decOf (l.drop k) (itB it)).1)
      simp only [List.length_cons]; omega
    · simp

/-! ### What a round keeps -/

/-- A row of one of two boxes. -/
def RowOf (n₀ : Nat) (W : World) (g : Nat) : Prop := ∃ B v, (B = n₀ ∨ B = n₀ + 1) ∧ W.cell? ⟨B, 0, none⟩ = some v ∧ v.ownBlock = some g
/-- A block that is no row of two instructions or of places. -/
def Small (o : Obj) : Prop := ∃ cs t fz, o = .cells cs t fz ∧ t ≠ 3 ∧ cs.size < 18

structure Kp (n₀ : Nat) (W W' : World) : Prop where
  low : Below n₀ W W'
  keep : ∀ b o, b ≠ n₀ → b ≠ n₀ + 1 → W.heap[b]? = some o → Small o → ¬ RowOf n₀ W b → W'.heap[b]? = some o
  rows : ∀ g, RowOf n₀ W' g → RowOf n₀ W g ∨ W.heap.size ≤ g ∨ g = n₀ ∨ g = n₀ + 1 ∨ ∃ o, W.heap[g]? = some o ∧ ¬ Small o
  lt : (∀ g, RowOf n₀ W g → g < W.heap.size) → ∀ g, RowOf n₀ W' g → g < W'.heap.size

set_option maxRecDepth 100000 in
theorem Kp.trans {n₀ : Nat} {A B C : World} (h : Kp n₀ A B) (k : Kp n₀ B C) : Kp n₀ A C := by
  refine ⟨h.low.trans k.low, ?_, ?_, fun hl => k.lt (h.lt hl)⟩
  · intro b o h0 h1 ho hs hn
    refine k.keep b o h0 h1 (h.keep b o h0 h1 ho hs hn) hs fun hr => ?_
    rcases h.rows b hr with e | e | e | e | ⟨o', e1, e2⟩
    · exact hn e
    · have := (Array.getElem?_eq_some_iff.1 ho).1; omega
    · exact h0 e
    · exact h1 e
    · rw [ho] at e1; cases e1; exact e2 hs
  · intro g hr
    rcases k.rows g hr with e | e | e | e | ⟨o, e1, e2⟩
    · exact h.rows g e
    · exact .inr (.inl (Nat.le_trans h.low.size e))
    · exact .inr (.inr (.inl e))
    · exact .inr (.inr (.inr (.inl e)))
    · by_cases h0 : g = n₀
      · exact .inr (.inr (.inl h0))
      by_cases h1 : g = n₀ + 1
      · exact .inr (.inr (.inr (.inl h1)))
      by_cases hg : g < A.heap.size
      · have ho : A.heap[g]? = some A.heap[g] := Array.getElem?_eq_getElem hg
        by_cases hs : Small A.heap[g]
        · by_cases hR : RowOf n₀ A g
          · exact .inl hR
          · have := h.keep g _ h0 h1 ho hs hR
            rw [e1] at this
            cases this
            exact absurd hs e2
        · exact .inr (.inr (.inr (.inr ⟨_, ho, hs⟩)))
      · exact .inr (.inl (by omega))

set_option maxRecDepth 100000 in
theorem RowOf.same {n₀ : Nat} {W W' : World} (h : ∀ B, B = n₀ ∨ B = n₀ + 1 → W'.cell? ⟨B, 0, none⟩ = W.cell? ⟨B, 0, none⟩) (g : Nat) : RowOf n₀ W' g ↔ RowOf n₀ W g :=
  ⟨fun ⟨B, v, hB, hv, ho⟩ => ⟨B, v, hB, (h B hB).symm.trans hv, ho⟩, fun ⟨B, v, hB, hv, ho⟩ => ⟨B, v, hB, (h B hB).trans hv, ho⟩⟩

/-- All rows are there. -/
def RowsLt (n₀ : Nat) (W : World) : Prop := ∀ g, RowOf n₀ W g → g < W.heap.size

set_option maxRecDepth 100000 in
/-- What leaves all that was there alone. -/
theorem Kp.of_below {n₀ : Nat} {W W' : World} (hn : n₀ + 2 ≤ W.heap.size) (h : Below W.heap.size W W') : Kp n₀ W W' := by
  have same := RowOf.same (n₀ := n₀) (W := W) (W' := W') (fun B hB => h.cell (p := ⟨B, 0, none⟩) (by show B < W.heap.size; rcases hB with rfl | rfl <;> omega))
  refine ⟨h.mono (by omega), ?_, ?_, ?_⟩
  · intro b o _ _ ho _ _
    rw [h.block b (Array.getElem?_eq_some_iff.1 ho).1]
    exact ho
  · intro g hg
    exact .inl ((same g).1 hg)
  · intro hl g hg
    exact Nat.lt_of_lt_of_le (hl g ((same g).1 hg)) h.size

set_option maxRecDepth 100000 in
theorem Kp.rowsLt {n₀ : Nat} {W W' : World} (h : Kp n₀ W W') (hr : RowsLt n₀ W) : RowsLt n₀ W' := h.lt hr

set_option maxRecDepth 100000 in
theorem kp_put {n₀ D : Nat} (hn : n₀ + 2 ≤ D) (W : World) (l : Nat) (o o' : Obj) (hl : D ≤ l) (h : W.heap[l]? = some o) (hc : o.isCells = false) : Kp n₀ W (W.putObj l o') := by
  have hg := grownBy_putObj' W l o'
  have oth : ∀ k, k < W.heap.size → k ≠ l → (W.putObj l o').heap[k]? = W.heap[k]? := fun k hk hne => hg.block k hk (fun e => hne (by cases e; rfl))
  have hll := (Array.getElem?_eq_some_iff.1 h).1
  have same := RowOf.same (n₀ := n₀) (W := W) (W' := W.putObj l o') (fun B hB => World.cell?_of_block (oth B (by show B < W.heap.size; rcases hB with rfl | rfl <;> omega) (by rcases hB with rfl | rfl <;> omega)))
  refine ⟨⟨hg.os, hg.tape, hg.output, hg.size, fun k hk => oth k (by omega) (by omega)⟩, ?_, ?_, ?_⟩
  · intro b ob _ _ hb hs _
    by_cases e : b = l
    · subst e
      rw [h] at hb
      cases hb
      obtain ⟨cs, t, fz, rfl, _⟩ := hs
      simp [Obj.isCells] at hc
    · rw [oth b (Array.getElem?_eq_some_iff.1 hb).1 e]
      exact hb
  · intro g hgr
    exact .inl ((same g).1 hgr)
  · intro hl g hgr
    exact Nat.lt_of_lt_of_le (hl g ((same g).1 hgr)) hg.size

set_option maxRecDepth 100000 in
theorem laid_low {n₀ : Nat} {W W' : World} (h : Laid W) (hb : Below n₀ W W') (hn : 0 < n₀) : Laid W' := by
  obtain ⟨t, fz, hw⟩ := h
  exact ⟨t, fz, by rw [hb.block 0 hn]; exact hw⟩

set_option maxRecDepth 100000 in
theorem InsAt.of_block {W : World} {b : Nat} {x : Fields} {t : TypeId} (h : W.heap[b]? = some (.cells x.cells t (0, 0))) : InsAt W b x := by
  have c : ∀ o, W.cell? ⟨b, o, none⟩ = x.cells[o]? := fun o => by simp only [World.cell?, h]; rfl
  have f : ∀ o, W.frozen? ⟨b, o, none⟩ = false := fun o => by simp only [World.frozen?, h]; simp
  exact ⟨⟨by rw [c]; rfl, by rw [c]; rfl, by rw [c]; rfl, by rw [c]; rfl, by rw [c]; rfl, by rw [c]; rfl, by rw [c]; rfl, by rw [c]; rfl, by rw [c]; rfl⟩, f 0, f 1, f 2, f 3, f 4, f 5, f 6, f 7, f 8⟩

set_option maxRecDepth 100000 in
theorem grown_of_below {W W' : World} (h : Below W.heap.size W W') : W.grownBy W' none := ⟨h.os, h.tape, h.output, h.size, fun k hk _ => h.block k hk⟩

end Go.Proofs.YtmaaibffgoanpaaGreatDoor
/- For the seat: the range over the instructions of halfwords: what the iterator gives. -/
namespace Go.Proofs.YtmaaibffgoanpaaGreatDoor
open Go.Sx Go.ChangeShapes Go.WideShapes Go.RowKit Go.Joins Go.Deep Go.Shelf
attribute [local go_sem] Oper.semAt_some

set_option maxRecDepth 100000 in
set_option maxHeartbeats 1000000 in
theorem all_in (A : Option Addr) (n cap : Nat) (r : Nat) (w : World) :
    CallsIn Fence.wide r Tryz.prog 19 #[.slice A n cap] w fun e w' => e = .returned (.func (.func 39) #[] #[.pointer (some ⟨w.heap.size, 0, none⟩)]) ∧ w' = w.alloc (.cells #[.slice A n cap] 24) := by
  refine callsIn_of_wp Tryz.func19 rfl trivial ?_ rfl
  simp only [Tryz.ntmps19, List.size_toArray, List.length_cons, List.length_nil, Nat.reduceAdd, Nat.reduceSub, Array.replicate_succ, Array.replicate_zero, List.push_toArray, List.append_toArray, List.nil_append, List.cons_append]
  gi_wp2
  go_ret
  exact ⟨rfl, rfl⟩

set_option maxRecDepth 100000 in
set_option maxHeartbeats 4000000 in
theorem all1_in (r l0 n₀ : Nat) (A : Option Addr) (cap : Nat) (l : List Int) (J Jx : List (Nat × Fields) → World → Prop)
    (W : World) (hJ : AbidesFrom W.heap.size J)
    (hY : ∀ pre x W1, J pre W1 → pre.length < l.length → YieldAt Fence.wide r Tryz.prog l0 #[.int .i64 (x.1 : Int), x.2.val] W1 fun e W' =>
      (e = .returned (.bool true) ∧ J (pre ++ [x]) W' ∧ Kp n₀ W1 W') ∨ (e = .returned (.bool false) ∧ Jx (pre ++ [x]) W'))
    (hB : Boxed W (n₀ + 2) 24 (.slice A l.length cap)) (hA : IAt W n₀ A l) (hl : ∀ a ∈ l, kHas .i64 a) (hlen : l.length ≤ maxLen) (hcap : l.length ≤ cap) (hw : Laid W) (hn : 0 < n₀)
    (hno : ∀ g, ¬ RowOf n₀ W g) (h0 : J [] W) :
    CallsIn Fence.wide (r + 1) Tryz.prog 39 #[.func (.yield l0) #[] #[], .pointer (some ⟨n₀ + 2, 0, none⟩)] W fun e W' => (∃ v, e = .returned v) ∧
      ((∃ ys, ys = strmA l 0 0 ∧ J ys W') ∨ (∃ pre, pre <+: strmA l 0 0 ∧ Jx pre W')) := by
  unfold maxLen at hlen
  have hN := hB.lt
  refine callsIn_of_wp Tryz.func39 rfl trivial ?_ rfl
  simp only [Tryz.ntmps39, List.size_toArray, List.length_cons, List.length_nil, Nat.reduceAdd, Nat.reduceSub, Array.replicate_succ, Array.replicate_zero, List.push_toArray, List.append_toArray, List.nil_append, List.cons_append]
  gi_wp2
  gi_loopw [3, 4] (fun i t wr => ∃ (pre : List (Nat × Fields)) (k : Nat) (it : Int), i = .int .i64 it ∧ t = .int .i64 k ∧ Hid (kHas .i64 it) ∧ k ≤ l.length ∧ Hid (strmA l 0 0 = pre ++ strmA l k it) ∧ pre.length ≤ k ∧ J pre wr ∧ Kp n₀ W wr)
    (fun _ t _ => l.length - (intOf t).toNat)
  case atStart => exact ⟨[], 0, 0, rfl, rfl, Lib.hid zero_has, Nat.zero_le _, Lib.hid rfl, Nat.le_refl _, h0, Kp.of_below (by omega) (Below.refl _ _)⟩
  case round =>
    obtain ⟨pre, k, it, rfl, rfl, HI, hk, HP, hpl, hJs, hK⟩ := hrel
    have hbx : wr.heap[n₀ + 2]? = some (.cells #[.slice A l.length cap] 24) := hK.keep (n₀ + 2) _ (by omega) (by omega) hB ⟨_, _, _, rfl, by decide, by simp⟩ (hno _)
    have hbox := (show Boxed wr (n₀ + 2) 24 (.slice A l.length cap) from hbx).cell
    have hlt := hK.low.size
    by_cases hlt : k < l.length
    · obtain ⟨g, off, rfl, hg, _⟩ := hA.at_ hlt
      have hk0 : (0 : Int) ≤ (k : Int) := by omega
      have hkc : (k : Int) ≤ (cap : Int) := by omega
      have hkl : (k : Int) ≤ (l.length : Int) := by omega
      have hne : ¬ cap = k := by omega
      have hlw := laid_low hw hK.low hn
      have hAk : IAt wr wr.heap.size (some ⟨g, off + k, none⟩) (l.drop k) := ((hA.below hK.low (Nat.le_refl _)).drop k).more (by have := hK.low.size; omega)
      have hD := dec_any (l.drop k) _ (cap - k) (itB it) wr hAk (fun a ha => hl a (List.mem_of_mem_drop ha)) (by rw [List.length_drop]; unfold maxLen; omega) hlw
      have hxk := decOf_ok (l := l.drop k) (fun a ha => hl a (List.mem_of_mem_drop ha)) (itB it)
      have hnum := decOf_num (l := l.drop k) (it := itB it)
      have hgo := fun n : Nat => strmA_go (l := l) (k := k) (n := n) (it := it)
      have hst := strmA_stop (l := l) (k := k) (it := it)
      rw [List.length_drop] at hD hnum
      unfold itB at hD hxk hnum hgo hst
      generalize decOf (l.drop k) (bits BinOp.and IntKind.i64 it 15 != 0) = d at *
      obtain ⟨x, n, e⟩ := d
      simp only at hD hxk hnum hgo hst
      by_cases he : e = 0
      · subst he
        obtain ⟨n, rfl, hn1, hn2, hn3⟩ := hnum rfl
        have HG := Lib.hid (hgo n hlt rfl rfl)
        clear hgo hst hnum
        have hx0 := hxk
        obtain ⟨x0, x1, x2, x3, x4, x5, x6, x7, xb⟩ := x
        have hD : Calls Tryz.prog 7 #[.slice (some ⟨g, off + k, none⟩) (l.length - k) (cap - k), .bool (bits BinOp.and IntKind.i64 it 15 != 0)] wr fun e w' => e = .returned (.tuple #[.agg #[.int .i64 x0, .int .i64 x1, .int .i64 x2, .int .i64 x3, .int .i64 x4, .int .i64 x5, .int .i64 x6, .int .i64 x7, .bool xb], .int .i64 n, .int .i64 0]) ∧ Below wr.heap.size wr w' := hD
        have hz2 : n₀ + 2 < wr.heap.size := (show Boxed wr (n₀ + 2) _ _ from hbx).lt
        gi_wp2_with fail
        (refine ⟨trivial, ?_⟩; refine (callsIn_wide.2 hD).mono ?_; rintro e' w1 ⟨rfl, hb1⟩)
        have hz1 : n₀ + 2 < w1.heap.size := Nat.lt_of_lt_of_le hz2 hb1.size
        have hK1 : Kp n₀ W w1 := hK.trans (Kp.of_below (by omega) hb1)
        have hr1 : RowsLt n₀ w1 := hK1.rowsLt (fun g hg => absurd hg (hno g))
        have hJ1 : J pre (w1.alloc (.cells (Fields.cells ⟨x0, x1, x2, x3, x4, x5, x6, x7, xb⟩) 23)) := hJ pre wr _ none hJs (grown_of_below (hb1.alloc hb1.size _)) (by simp)
        have hr2 : ¬ RowOf n₀ (w1.alloc (.cells (Fields.cells ⟨x0, x1, x2, x3, x4, x5, x6, x7, xb⟩) 23)) w1.heap.size := fun hh => by
          have := hr1 _ ((RowOf.same (n₀ := n₀) (fun B hB => World.cell?_alloc_lt _ _ _ (by show B < w1.heap.size; rcases hB with rfl | rfl <;> omega)) _).1 hh)
          omega
        obtain ⟨fn, tmps, assign, body, hy, hR⟩ := hY pre (k, ⟨x0, x1, x2, x3, x4, x5, x6, x7, xb⟩) _ hJ1 (by omega)
        dsimp only [Fields.val] at hy
        gi_wp2_with fail
        refine hR.mono ?_
        rintro e' W3 (⟨rfl, hJ3, hk3⟩ | ⟨rfl, hJx3⟩)
        · have hi3 : W3.heap[w1.heap.size]? = some (.cells (Fields.cells ⟨x0, x1, x2, x3, x4, x5, x6, x7, xb⟩) 23 (0, 0)) := hk3.keep _ _ (by omega) (by omega) (heap_alloc_new w1 _) ⟨_, _, _, rfl, by decide, by simp⟩ hr2
          obtain ⟨⟨p0, p1, p2, p3, p4, p5, p6, p7, p8⟩, _⟩ := InsAt.of_block hi3
          simp only at p0 p1 p2 p3 p4 p5 p6 p7 p8
          have hK2 : Kp n₀ W (w1.alloc (.cells (Fields.cells ⟨x0, x1, x2, x3, x4, x5, x6, x7, xb⟩) 23)) := hK1.trans (Kp.of_below (by omega) ((Below.refl _ _).alloc (Nat.le_refl _) _))
          have hK3 := hK2.trans hk3
          have hl3 := laid_low hw hK3.low hn
          have hAf := (aft_p HI.out hx0).go hl3
          have hz3 : n₀ + 2 ≤ W3.heap.size := by have := hk3.low.size; simp at this; omega
          clear hi3 hR hy hD hb1 hJ1
          gi_wp2_with fail
          (refine ⟨trivial, ?_⟩; refine (callsIn_wide.2 hAf).mono ?_; rintro e' w4 ⟨rfl, hb4⟩)
          have hwrap : IntKind.i64.wrap ((k : Int) + (n : Int)) = ((k + n : Nat) : Int) := by
            rw [IntWalk.i64_in _ (by omega)]; omega
          gi_wp2_with fail
          go_roundw
          case rel => exact ⟨pre ++ [(k, ⟨x0, x1, x2, x3, x4, x5, x6, x7, xb⟩)], k + n, aftI it ⟨x0, x1, x2, x3, x4, x5, x6, x7, xb⟩, rfl, by go_num, Lib.hid (aft_has HI.out hx0), by omega, Lib.hid (by rw [HP.out, HG.out]; simp), by simp; omega, hJ _ W3 _ none hJ3 (grown_of_below hb4) (by simp), hK3.trans (Kp.of_below hz3 hb4)⟩
          case measure => simp [intOf]; omega
        · gi_wp2_with fail
          refine bodyPost_ret (results_none rfl _ _ _) rfl ?_
          exact ⟨⟨_, rfl⟩, .inr ⟨pre ++ [(k, ⟨x0, x1, x2, x3, x4, x5, x6, x7, xb⟩)], ⟨strmA l (k + n) (aftI it ⟨x0, x1, x2, x3, x4, x5, x6, x7, xb⟩), by rw [HP.out, HG.out]; simp⟩, hJx3⟩⟩
      · have he1 : (e == 0) = false := by simpa using he
        have he2 : (e != 0) = true := by simpa using he
        have HS := Lib.hid (hst (fun h => he h.2))
        clear hgo hst hnum
        obtain ⟨x0, x1, x2, x3, x4, x5, x6, x7, xb⟩ := x
        have hD : Calls Tryz.prog 7 #[.slice (some ⟨g, off + k, none⟩) (l.length - k) (cap - k), .bool (bits BinOp.and IntKind.i64 it 15 != 0)] wr fun e' w' => e' = .returned (.tuple #[.agg #[.int .i64 x0, .int .i64 x1, .int .i64 x2, .int .i64 x3, .int .i64 x4, .int .i64 x5, .int .i64 x6, .int .i64 x7, .bool xb], .int .i64 n, .int .i64 e]) ∧ Below wr.heap.size wr w' := hD
        gi_wp2_with fail
        (refine ⟨trivial, ?_⟩; refine (callsIn_wide.2 hD).mono ?_; rintro e' w1 ⟨rfl, hb1⟩)
        gi_wp2_with fail
        refine ⟨fun _ h => (by cases h), ?_⟩
        gi_wp2_with fail
        refine bodyPost_ret (results_none rfl _ _ _) rfl ?_
        refine ⟨⟨_, rfl⟩, .inl ⟨pre, ?_, ?_⟩⟩
        · rw [HP.out, HS.out, List.append_nil]
        · exact hJ pre wr _ none hJs (grown_of_below (hb1.alloc hb1.size _)) (by simp)
    · have e : k = l.length := by omega
      subst e
      have HS := Lib.hid (strmA_stop (l := l) (k := l.length) (it := it) (by omega))
      gi_wp2_with fail
      go_end0
      exact ⟨⟨_, rfl⟩, .inl ⟨pre, by rw [HP.out, HS.out, List.append_nil], hJs⟩⟩
end Go.Proofs.YtmaaibffgoanpaaGreatDoor
/- A region that draws its order, in a round of a range over a function: what holds may hang on what has come up. -/
namespace Go.Two
open Go
section
variable {P : Program} {ops : Array Oper} {Q : Exit → Act → World → Prop} {md : Region.Mode} {S : Array Bool → World → Prop}

/-- Whatever order is picked from here on; behind each operation S holds, which knows what has come up. -/
def anyL (P : Program) (md : Region.Mode) (ops : Array Oper) (Q : Exit → Act → World → Prop) (S : Array Bool → World → Prop) : Nat → Array Bool → Act → World → Prop
  | 0, L, a, w => Region.ready md ops L = [] ∧ Q .normal a w
  | n + 1, L, a, w => (Region.ready md ops L = [] → Q .normal a w) ∧
      ∀ i ∈ Region.ready md ops L, wpOp P ops Q i (fun a' w' => S (L.setIfInBounds i true) w' ∧ anyL P md ops Q S n (L.setIfInBounds i true) a' w') a w

set_option maxRecDepth 100000 in
theorem any_of_L : ∀ (n : Nat) (L : Array Bool) (a : Act) (w : World), anyL P md ops Q S n L a w → wpAny P md ops Q n L a w
  | 0, _, _, _, h => h
  | n + 1, _, _, _, h => ⟨h.1, fun i hi => wpOp_mono (fun a' w' h' => any_of_L n _ a' w' h'.2) (h.2 i hi)⟩

/-- What has come up has all come up for which it waits. -/
def Closed (md : Region.Mode) (ops : Array Oper) (L : Array Bool) : Prop :=
  ∀ (k : Nat) (o : Oper), ops[k]? = some o → L.getD k false = true → ∀ e ∈ o.after, Region.binds md e = true → L.getD e.on false = true

set_option maxRecDepth 100000 in
theorem Closed.set {L : Array Bool} (h : Closed md ops L) {j : Nat} (hj : j ∈ Region.ready md ops L) : Closed md ops (L.setIfInBounds j true) := by
  obtain ⟨_, oj, hoj, hall⟩ := mem_ready.1 hj
  intro k o ho hk e he hb
  by_cases e1 : j = k
  · subst e1
    rw [hoj] at ho
    cases ho
    exact getD_set_true (hall e he hb)
  · rw [getD_set_ne false e1] at hk
    exact getD_set_true (h k o ho hk e he hb)

set_option maxRecDepth 100000 in
/-- An operation is taken first: S0 is what it wants of the worlds in which it has not come up yet. -/
theorem anyL_first {i : Nat} {oi : Oper} {v : Value} {S0 : World → Prop} (hi : ops[i]? = some oi) (hsel : ∀ (j : Nat) (o : Oper) cs b, ops[j]? = some o → o.op ≠ .select cs b)
    (hQ : ∀ c a w, Q (.panic c) (a.put oi.dst v) w → Q (.panic c) a w) (hm : ∀ L w, S (L.setIfInBounds i true) w → S L w)
    (h0 : ∀ L w, Closed md ops L → L.getD i true = false → S L w → S0 w) :
    ∀ (n : Nat) (L : Array Bool) (a : Act) (w : World), Closed md ops L →
      (∀ j oj, ops[j]? = some oj → j ≠ i → L.getD j true = false → (∀ e ∈ oj.after, Region.binds md e = true → e.on ≠ i) → oi.apart ops oj = true) →
      i ∈ Region.ready md ops L → YieldsIf P ops S0 oi v a → S L w →
      anyL P md ops Q S n (L.setIfInBounds i true) (a.put oi.dst v) w → S (L.setIfInBounds i true) w → anyL P md ops Q S (n + 1) L a w := by
  intro n
  induction n with
  | zero =>
    intro L a w hc _ hr hy hS H hS'
    refine ⟨fun h => (by rw [h] at hr; cases hr), fun j hj => ?_⟩
    by_cases hji : j = i
    · subst hji
      exact hy.wpOp hi (h0 L w hc (mem_ready.1 hr).1 hS) ⟨hS', H⟩
    · have := ready_mono hj hji
      rw [H.1] at this
      cases this
  | succ n ih =>
    intro L a w hc hfree hr hy hS H hS'
    refine ⟨fun h => (by rw [h] at hr; cases hr), fun j hj => ?_⟩
    by_cases hji : j = i
    · subst hji
      exact hy.wpOp hi (h0 L w hc (mem_ready.1 hr).1 hS) ⟨hS', H⟩
    · have h1 := H.2 j (ready_mono hj hji)
      obtain ⟨hjun, oj, hoj, hall⟩ := mem_ready.1 hj
      have hun := (mem_ready.1 hr).1
      have hnot : ∀ e ∈ oj.after, Region.binds md e = true → e.on ≠ i := fun e he hb heq => by
        have k := hall e he hb
        rw [heq] at k
        rcases Nat.lt_or_ge i L.size with h' | h'
        · simp [h'] at hun k
          rw [hun] at k
          cases k
        · simp [Array.getElem?_eq_none h'] at k
      have h2 := wpOp_putIf hoj (hfree j oj hoj hji hjun hnot) (fun cs b => hsel i oi cs b hi) (fun cs b => hsel j oj cs b hoj) hQ hy h1
      have hfree' : ∀ k ok, ops[k]? = some ok → k ≠ i → (L.setIfInBounds j true).getD k true = false →
          (∀ e ∈ ok.after, Region.binds md e = true → e.on ≠ i) → oi.apart ops ok = true := fun k ok hk hki hu hno => by
        refine hfree k ok hk hki ?_ hno
        by_cases hjk : j = k
        · subst hjk; exact hjun
        · rw [getD_set_ne true hjk] at hu; exact hu
      refine wpOp_mono (fun a' w' h3 => ?_) h2
      have hsw : (L.setIfInBounds i true).setIfInBounds j true = (L.setIfInBounds j true).setIfInBounds i true := Array.setIfInBounds_comm _ _ (Ne.symm hji)
      have hS3 : S ((L.setIfInBounds j true).setIfInBounds i true) w' := hsw ▸ h3.2.1
      have hSj := hm _ w' hS3
      exact ⟨hSj, ih (L.setIfInBounds j true) a' w' (hc.set hj) hfree' (ready_mono hr (Ne.symm hji)) h3.1 hSj (hsw ▸ h3.2.2) hS3⟩

set_option maxRecDepth 100000 in
theorem anyL_take {i : Nat} {oi : Oper} {v : Value} {S0 : World → Prop} {n : Nat} {L : Array Bool} {a : Act} {w : World} (hi : ops[i]? = some oi)
    (hs : Region.noSelect ops = true) (hf : Region.free md ops L i = true) (hr : (Region.ready md ops L).contains i = true)
    (hQ : ∀ c a w, Q (.panic c) (a.put oi.dst v) w → Q (.panic c) a w) (hm : ∀ L w, S (L.setIfInBounds i true) w → S L w)
    (h0 : ∀ L w, Closed md ops L → L.getD i true = false → S L w → S0 w) (hc : Closed md ops L) (hy : YieldsIf P ops S0 oi v a) (hS : S L w) (hS' : S (L.setIfInBounds i true) w)
    (h : anyL P md ops Q S n (L.setIfInBounds i true) (a.put oi.dst v) w) : anyL P md ops Q S (n + 1) L a w :=
  anyL_first hi (Region.noSelect_spec hs) hQ hm h0 n L a w hc (Region.free_spec hi hf) (by simpa using hr) hy hS h hS'

set_option maxRecDepth 100000 in
theorem anyL_done {L : Array Bool} {a : Act} {w : World} (hr : Region.ready md ops L = []) (h : Q .normal a w) : ∀ n, anyL P md ops Q S n L a w
  | 0 => ⟨hr, h⟩
  | _ + 1 => ⟨fun _ => h, by rw [hr]; simp⟩

/-- Each of these comes up next. -/
def AllL (P : Program) (md : Region.Mode) (ops : Array Oper) (Q : Exit → Act → World → Prop) (S : Array Bool → World → Prop) (n : Nat) (L : Array Bool) (a : Act) (w : World) (rs : List Nat) : Prop :=
  ∀ i ∈ rs, wpOp P ops Q i (fun a' w' => S (L.setIfInBounds i true) w' ∧ anyL P md ops Q S n (L.setIfInBounds i true) a' w') a w
set_option maxRecDepth 100000 in
theorem AllL.nil {n : Nat} {L : Array Bool} {a : Act} {w : World} : AllL P md ops Q S n L a w [] := fun _ h => by cases h
set_option maxRecDepth 100000 in
theorem AllL.cons {n : Nat} {L : Array Bool} {a : Act} {w : World} {i : Nat} {o : Oper} {rs : List Nat} (ho : ops[i]? = some o) (hw : ∀ a : Act, Region.wanted o (yielded ops a.tmps) = true)
    (h : ∀ K' : Act → World → Prop, Shut (∀ a w, S (L.setIfInBounds i true) w → anyL P md ops Q S n (L.setIfInBounds i true) a w → K' a w) → Oper.wp P o a w K' Q)
    (hs : AllL P md ops Q S n L a w rs) : AllL P md ops Q S n L a w (i :: rs) := fun j hj => by
  rcases List.mem_cons.1 hj with rfl | hj
  · refine wpOp_step ho (fun K' hK => ?_)
    rw [if_pos (hw a)]
    exact h K' (fun a w hS hW => hK a w ⟨hS, hW⟩)
  · exact hs j hj
set_option maxRecDepth 100000 in
theorem anyL_ready {rs : List Nat} {n : Nat} {L : Array Bool} {a : Act} {w : World} (hr : Region.ready md ops L = rs) (hne : rs ≠ []) (h : AllL P md ops Q S n L a w rs) : anyL P md ops Q S (n + 1) L a w :=
  ⟨fun h0 => absurd (hr ▸ h0) hne, hr ▸ h⟩

/-! ### Where one operation closes what the loads want -/

/-- i has come up where k has. -/
def reach (md : Region.Mode) (ops : Array Oper) : Nat → Nat → Nat → Bool
  | 0, k, i => k == i
  | f + 1, k, i => k == i || ((ops[k]?).map fun o => o.after.toList.any fun e => Region.binds md e && reach md ops f e.on i).getD false
set_option maxRecDepth 100000 in
theorem Closed.reach {L : Array Bool} (h : Closed md ops L) {i : Nat} : ∀ (f k : Nat), Two.reach md ops f k i = true → L.getD k false = true → L.getD i false = true
  | 0, k, hr, hk => by
    obtain rfl : k = i := by simpa [Two.reach] using hr
    exact hk
  | f + 1, k, hr, hk => by
    unfold Two.reach at hr
    rcases Bool.or_eq_true_iff.1 hr with e | e
    · obtain rfl : k = i := by simpa using e
      exact hk
    · cases ho : ops[k]? with
      | none => simp [ho] at e
      | some o =>
        rw [ho] at e
        simp only [Option.map_some, Option.getD_some, List.any_eq_true, Bool.and_eq_true] at e
        obtain ⟨x, hx, hb, hr'⟩ := e
        exact Closed.reach h f x.on hr' (h k o ho hk x (Array.mem_toList_iff.1 hx) hb)
def closedB (md : Region.Mode) (ops : Array Oper) (L : Array Bool) : Bool :=
  (List.range ops.size).all fun k => !L.getD k false || ((ops[k]?).map fun o => o.after.toList.all fun e => !Region.binds md e || L.getD e.on false).getD true
set_option maxRecDepth 100000 in
theorem closed_of {L : Array Bool} (h : closedB md ops L = true) : Closed md ops L := by
  intro k o ho hk e he hb
  have hlt := (Array.getElem?_eq_some_iff.1 ho).1
  have := (List.all_eq_true.1 h) k (List.mem_range.2 hlt)
  rw [hk, ho] at this
  simp only [Bool.not_true, Bool.false_or, Option.map_some, Option.getD_some] at this
  have := (List.all_eq_true.1 this) e (Array.mem_toList_iff.2 he)
  rw [hb] at this
  simpa using this

/-- Till k has come up, S0. -/
def SK (k : Nat) (S0 : World → Prop) (L : Array Bool) (w : World) : Prop := L.getD k false = false → S0 w

set_option maxRecDepth 100000 in
theorem anyL_takeK {k i : Nat} {oi : Oper} {v : Value} {S0 : World → Prop} {n : Nat} {L : Array Bool} {a : Act} {w : World} (hi : ops[i]? = some oi)
    (hs : Region.noSelect ops = true) (hf : Region.free md ops L i = true) (hr : (Region.ready md ops L).contains i = true)
    (hQ : ∀ c a w, Q (.panic c) (a.put oi.dst v) w → Q (.panic c) a w) (hk : (i != k) = true) (hre : reach md ops 12 k i = true) (hcb : closedB md ops L = true)
    (hy : YieldsIf P ops S0 oi v a) (hS : S0 w) (h : anyL P md ops Q (SK k S0) n (L.setIfInBounds i true) (a.put oi.dst v) w) : anyL P md ops Q (SK k S0) (n + 1) L a w := by
  have hik : i ≠ k := by simpa using hk
  refine anyL_take hi hs hf hr hQ (S0 := S0) (fun L w h h0 => h (by rw [getD_set_ne false hik]; exact h0)) (fun L w hc hu hSL => hSL ?_) (closed_of hcb) hy (fun _ => hS) (fun _ => hS) h
  cases h8 : L.getD k false with
  | false => rfl
  | true =>
    have h9 := hc.reach 12 k hre h8
    rcases Nat.lt_or_ge i L.size with h' | h'
    · simp [h'] at hu h9
      rw [hu] at h9
      cases h9
    · simp [Array.getElem?_eq_none h'] at h9

set_option maxRecDepth 100000 in
/-- A load of one cell, S giving the cell. -/
theorem yieldsIf_load_one {S0 : World → Prop} {op : Oper} {a : Act} {v : Value} (hw : Region.wanted op (yielded ops a.tmps) = true) (ty : TypeId) (x : Operand) (ho : op.op = .load ty x)
    (b o : Nat) (hx : a.eval x = .pointer (some ⟨b, o, none⟩)) (d : TypeDesc) (hS : ∀ w, S0 w → w.cell? ⟨b, o, none⟩ = some v)
    (hu : P.underlying ty = some d) (hd : d.isRow = false) : YieldsIf P ops S0 op v a :=
  .inl ⟨hw, fun w hw' => by
    have hagg : (isAgg ty).run P w = .ok false w := by
      unfold isAgg
      rw [Sem.run_bind, run_underlying hu w]
      cases d <;> simp_all
    have hl : (loadVar ty ⟨b, o, none⟩).run P w = .ok v w := by
      unfold loadVar
      rw [Sem.run_bind, hagg]
      simp [go_sem, hS w hw']
    unfold execOp
    simp only [ho, hx, Instr.loadAt, Instr.sureAddr, Sem.run_bind, Sem.run_pure, Result.andThen_ok, hl]⟩
/-- No operation puts a call off. -/
def noDefer (ops : Array Oper) : Bool := ops.toList.all fun o => match o.op with | .defer _ => false | _ => true
set_option maxRecDepth 100000 in
theorem noDefer_spec (h : noDefer ops = true) (i : Nat) (o : Oper) (ho : ops[i]? = some o) (c) : o.op ≠ .defer c := by
  intro e
  have := (List.all_eq_true.1 h) o (Array.mem_toList_iff.2 (Array.mem_of_getElem? ho))
  rw [e] at this
  cases this

/-! ### Into a round -/

set_option maxRecDepth 100000 in
theorem upon_round {l n : Nat} {o : Oper} {a : Act} {K K' : Act → World → Prop} (hK : ∀ a w, K a w → K' a w) {r : Result Next} (h : o.upon P a K Q r) :
    o.uponIn (Fence.wide.inRound l) n P a K' Q r := by
  cases r with
  | ok x w' =>
    cases x with
    | value v => exact hK _ _ h
    | skip => exact hK _ _ h
    | defer d => exact hK _ _ h
    | enter f args =>
      refine ⟨fun h => (by cases h), ?_⟩
      refine (CallsIn.inRound l (callsIn_wide.2 h)).mono ?_
      intro e w'' he
      cases e with
      | returned v => exact hK _ _ he
      | panicked c => exact he
      | outgrown => exact he
    | row row args =>
      refine ⟨fun h => (by cases h), fun c cs _ => ?_⟩
      obtain ⟨v, w'', r, s⟩ := h c cs
      exact ⟨v, w'', hK _ _ r, stepsIn_wide.2 s⟩
    | _ => exact h.elim
  | halt x w' => cases x <;> exact h

set_option maxRecDepth 100000 in
theorem opsIn_round {l n : Nat} (hQ : ¬ LetsOut Q) (hd : ∀ (i : Nat) (o : Oper), ops[i]? = some o → ∀ c, o.op ≠ .defer c)  :
    ∀ (L : List Nat) (a : Act) (w : World), wpOps P ops Q L a w → wpOpsIn (Fence.wide.inRound l) n P ops Q L a w := by
  intro L
  induction L with
  | nil => exact fun a w h => h
  | cons i rest ih =>
    intro a w h
    unfold wpOps at h
    unfold wpOpsIn
    cases ho : ops[i]? with
    | none => simp only [ho] at h ⊢; exact ih a w h
    | some o =>
      simp only [ho] at h ⊢
      split
      · rename_i hw
        rw [if_pos hw] at h
        rcases h with h | ⟨_, h⟩
        · refine ⟨fun _ _ => trivial, ?_⟩
          rw [show (Fence.wide.inRound l).round = some l from rfl, Oper.semAt_some l a.eval o (hd i o ho)]
          exact upon_round ih h
        · exact absurd h hQ
      · rename_i hw
        rw [if_neg hw] at h
        exact ⟨fun _ _ => trivial, ih _ _ h⟩

set_option maxRecDepth 100000 in
/-- A region of a round's body that draws its order. -/
theorem region_round {id l n : Nat} {a : Act} {w : World} (hmo : P.follows .mixedOrders = true) (hQ : ¬ LetsOut Q) (hd : ∀ (i : Nat) (o : Oper), ops[i]? = some o → ∀ c, o.op ≠ .defer c)
    (h : anyL P .any ops Q S ops.size (Array.replicate ops.size false) a w.drew) : (Code.region id ops true).wpIn (Fence.wide.inRound l) n P Q a w :=
  wpIn_region_draw fun t => opsIn_round hQ hd _ a _ (by
    simp only [Region.schedule, hmo, Bool.true_or, if_true]
    exact wpAny_sound ops.size t _ a _ (any_of_L _ _ _ _ h))

end
end Go.Two
/- For the seat: decode.Stream: all instructions, and their places. -/
namespace Go.Proofs.YtmaaibffgoanpaaGreatDoor
open Go.Sx Go.ChangeShapes Go.WideShapes Go.RowKit Go.Joins Go.Deep Go.Shelf
attribute [local go_sem] Oper.semAt_some

def encF (l : List (Nat × Fields)) : List Value := l.flatMap fun x => x.2.cells.toList
def encP (l : List (Nat × Fields)) : List Value := l.map fun x => .int .i64 (x.1 : Int)
set_option maxRecDepth 100000 in
theorem encF_snoc (l : List (Nat × Fields)) (x : Nat × Fields) : encF (l ++ [x]) = encF l ++ x.2.cells.toList := by simp [encF]
set_option maxRecDepth 100000 in
theorem encP_snoc (l : List (Nat × Fields)) (x : Nat × Fields) : encP (l ++ [x]) = encP l ++ [.int .i64 (x.1 : Int)] := by simp [encP]

/-- What the two rows hold when so many rounds are over. -/
structure StR (n₀ : Nat) (pre : List (Nat × Fields)) (v1 v2 : Value) (W : World) : Prop where
  b1 : Boxed W n₀ 32 v1
  b2 : Boxed W (n₀ + 1) 24 v2
  r1 : W.ownsRow n₀ 23 9 v1 pre.length (encF pre)
  r2 : W.ownsRow n₀ 3 1 v2 pre.length (encP pre)
  e1 : v1 = .slice none 0 0 ↔ pre = []
  e2 : v2 = .slice none 0 0 ↔ pre = []
def StI (n₀ : Nat) (w : World) (pre : List (Nat × Fields)) (W : World) : Prop := (∃ v1 v2, StR n₀ pre v1 v2 W) ∧ Below n₀ w W ∧ n₀ + 3 ≤ W.heap.size

set_option maxRecDepth 100000 in
theorem own_no {W : World} {base : Nat} {e : TypeId} {size : Nat} {v : Value} {n : Nat} {xs : List Value} (h : W.ownsRow base e size v n xs) {row : Option Nat} (hr : ∀ r, row = some r → ∃ o : Obj, W.heap[r]? = some o ∧ o.isCells = false) :
    v.ownBlock = none ∨ v.ownBlock ≠ row := by
  rcases h.2 with ⟨rfl, _⟩ | ⟨g, cap, cur, rfl, _, hh, _⟩
  · exact .inl rfl
  · refine .inr fun e' => ?_
    obtain ⟨o, ho, hc⟩ := hr g e'.symm
    rw [hh] at ho
    cases ho
    simp [Obj.isCells] at hc

set_option maxRecDepth 100000 in
theorem boxed_no {W : World} {B : Nat} {t : TypeId} {v : Value} (h : Boxed W B t v) {row : Option Nat} (hr : ∀ r, row = some r → ∃ o : Obj, W.heap[r]? = some o ∧ o.isCells = false) : some B ≠ row := by
  intro e
  obtain ⟨o, ho, hc⟩ := hr B e.symm
  rw [show W.heap[B]? = _ from h] at ho
  cases ho
  simp [Obj.isCells] at hc

set_option maxRecDepth 100000 in
theorem StR.kept {n₀ : Nat} {pre : List (Nat × Fields)} {v1 v2 : Value} {W W' : World} {row : Option Nat} (h : StR n₀ pre v1 v2 W) (hg : W.grownBy W' row) (hr : ∀ r, row = some r → ∃ o : Obj, W.heap[r]? = some o ∧ o.isCells = false) : StR n₀ pre v1 v2 W' :=
  ⟨h.b1.kept hg (boxed_no h.b1 hr), h.b2.kept hg (boxed_no h.b2 hr), h.r1.kept hg (own_no h.r1 hr), h.r2.kept hg (own_no h.r2 hr), h.e1, h.e2⟩
set_option maxRecDepth 100000 in
theorem StR.alloc {n₀ : Nat} {pre : List (Nat × Fields)} {v1 v2 : Value} {W : World} (h : StR n₀ pre v1 v2 W) (o : Obj) : StR n₀ pre v1 v2 (W.alloc o) := h.kept (World.grownBy_alloc W o none) (by simp)

set_option maxRecDepth 100000 in
theorem stI_own {n₀ D : Nat} {w : World} (hn : n₀ ≤ D) (hw : n₀ ≤ w.heap.size) : OwnFrom D (StI n₀ w) := by
  rintro pre W W' row ⟨⟨v1, v2, h⟩, hb, h3⟩ hg hr
  exact ⟨⟨v1, v2, h.kept hg fun r e => (hr r e).2⟩, hb.grown hg (Nat.le_trans hw hb.size) fun k e => Nat.le_trans hn (hr k e).1, Nat.le_trans h3 hg.size⟩

/-- The frame of a round. -/
def stAct (A : Option Addr) (n cap n₀ Bx : Nat) (x : Nat × Fields) : Act :=
  { tmps := #[.slice A n cap, undef, .slice none 0 0, .slice none 0 0, .pointer (some ⟨n₀, 0, none⟩), .pointer (some ⟨n₀ + 1, 0, none⟩), .int .i64 (x.1 : Int), .pointer (some ⟨Bx, 0, none⟩), .slice A n cap, .func (.func 39) #[] #[.pointer (some ⟨n₀ + 2, 0, none⟩)], .int .i64 (x.1 : Int), x.2.val, undef, undef, undef, undef, undef, undef, undef, undef, undef, undef], defers := [] }
def StA (A : Option Addr) (n cap n₀ D : Nat) (x : Nat × Fields) (a : Act) (W : World) : Prop := ∃ Bx v1, D ≤ Bx ∧ W.heap[Bx]? = some (.cells x.2.cells 23 (0, 0)) ∧ Boxed W n₀ 32 v1 ∧ some Bx ≠ v1.ownBlock ∧ a = stAct A n cap n₀ Bx x

set_option maxRecDepth 100000 in
theorem stA_own {A : Option Addr} {n cap n₀ D : Nat} (x : Nat × Fields) (a : Act) : OwnFrom D (fun (_ : Unit) W => StA A n cap n₀ D x a W) := by
  rintro _ W W' row ⟨Bx, v1, h1, h2, h4, h5, h3⟩ hg hr
  refine ⟨Bx, v1, h1, ?_, h4.kept hg (boxed_no h4 fun r e => (hr r e).2), h5, h3⟩
  rw [hg.block Bx (Array.getElem?_eq_some_iff.1 h2).1 ?_]
  · exact h2
  · intro e
    obtain ⟨_, o, ho, hc⟩ := hr Bx e.symm
    rw [h2] at ho
    cases ho
    simp [Obj.isCells] at hc

set_option maxRecDepth 100000 in
theorem grown_any {W W' : World} (h : W.grownBy W' none) (row : Option Nat) : W.grownBy W' row := ⟨h.os, h.tape, h.output, h.size, fun k hk _ => h.block k hk (by simp)⟩
set_option maxRecDepth 100000 in
theorem grown_drew {W W' : World} {row : Option Nat} (h : W.grownBy W' row) : W.grownBy W'.drew row := ⟨h.os, h.tape, h.output, h.size, h.block⟩
set_option maxRecDepth 100000 in
theorem grown_drew' {W W' : World} {row : Option Nat} (h : W.drew.grownBy W' row) : W.grownBy W' row := ⟨h.os, h.tape, h.output, h.size, h.block⟩
set_option maxRecDepth 100000 in
theorem grown_alloc {W W' : World} {row : Option Nat} (h : W.grownBy W' row) (o : Obj) : W.grownBy (W'.alloc o) row := h.trans (World.grownBy_alloc _ _ _)
set_option maxRecDepth 100000 in
theorem own_base {W : World} {b b' : Nat} {e : TypeId} {size : Nat} {v : Value} {n : Nat} {xs : List Value} (hb : b ≤ b') (h : W.ownsRow b' e size v n xs) : W.ownsRow b e size v n xs := by
  obtain ⟨h1, h2⟩ := h
  refine ⟨h1, ?_⟩
  rcases h2 with h2 | ⟨g, cap, cur, hv, hg, r⟩
  · exact .inl h2
  · exact .inr ⟨g, cap, cur, hv, Nat.le_trans hb hg, r⟩
set_option maxRecDepth 100000 in
/-- Rows of two types are two. -/
theorem own_ne {W : World} {b b' : Nat} {e e' : TypeId} {s s' : Nat} {v v' : Value} {n n' : Nat} {xs xs' : List Value} (he : e ≠ e') (h : W.ownsRow b e s v n xs) (h' : W.ownsRow b' e' s' v' n' xs') : v.ownBlock = none ∨ v.ownBlock ≠ v'.ownBlock := by
  rcases h.2 with ⟨rfl, _⟩ | ⟨g, cap, cur, rfl, _, hg, _⟩
  · exact .inl rfl
  · refine .inr fun e1 => ?_
    rcases h'.2 with ⟨rfl, _⟩ | ⟨g', cap', cur', rfl, _, hg', _⟩
    · cases e1
    · have : g = g' := by simpa [Value.ownBlock] using e1
      subst this
      rw [hg] at hg'
      cases hg'
      exact he rfl
set_option maxRecDepth 100000 in
theorem own_cells {W : World} {b : Nat} {e : TypeId} {s : Nat} {v : Value} {n : Nat} {xs : List Value} (h : W.ownsRow b e s v n xs) {g : Nat} (hg : v.ownBlock = some g) : ∃ cap cur, W.heap[g]? = some (.cells cur e (0, 0)) ∧ n ≤ cap ∧ cur.size = cap * s := by
  rcases h.2 with ⟨rfl, _⟩ | ⟨g', cap, cur, rfl, _, hh, h1, _, h2, _⟩
  · cases hg
  · have : g' = g := by simpa [Value.ownBlock] using hg
    subst this
    exact ⟨cap, cur, hh, h1, h2⟩

set_option maxRecDepth 100000 in
theorem insInfo : (Tryz.prog.info? 23).map (fun i => (i.zero, i.size, i.bytes)) = some (some (.agg #[.int .i64 0, .int .i64 0, .int .i64 0, .int .i64 0, .int .i64 0, .int .i64 0, .int .i64 0, .int .i64 0, .bool false]), 9, 72) := by kernel_rfl

set_option maxRecDepth 100000 in
/-- A round is over: what the law asks of it. -/
theorem body_end {n₀ D : Nat} {w W w5 w6 : World} {pre : List (Nat × Fields)} {x : Nat × Fields} {v1 v2 v1' v2' : Value} (h : StR n₀ pre v1 v2 W) (hb : Below n₀ w W) (h3 : n₀ + 3 ≤ W.heap.size) 
    (hg1 : W.grownBy w5 v1.ownBlock) (hown1 : w5.ownsRow (if pre = [] then W.heap.size else n₀) 23 9 v1' (pre.length + 1) (encF pre ++ x.2.cells.toList))
    (hg2 : w5.grownBy w6 v2.ownBlock) (hown2 : w6.ownsRow (if pre = [] then W.heap.size else n₀) 3 1 v2' (pre.length + 1) (encP pre ++ [.int .i64 (x.1 : Int)])) :
    KeepsFrom D W ((w6.setCell ⟨n₀, 0, none⟩ v1').setCell ⟨n₀ + 1, 0, none⟩ v2') ∧ Kp n₀ W ((w6.setCell ⟨n₀, 0, none⟩ v1').setCell ⟨n₀ + 1, 0, none⟩ v2') ∧
      StI n₀ w (pre ++ [x]) ((w6.setCell ⟨n₀, 0, none⟩ v1').setCell ⟨n₀ + 1, 0, none⟩ v2') := by
  have hh1 := h.r1
  have hh2 := h.r2
  have r2' : w5.ownsRow n₀ 3 1 v2 pre.length (encP pre) := h.r2.kept hg1 (own_ne (by decide) h.r2 h.r1)
  have b1' : Boxed w6 n₀ 32 v1 := (h.b1.kept hg1 (h.b1.not_row (by decide) h.r1)).kept hg2 (h.b1.not_row (by decide) h.r2)
  have b2' : Boxed w6 (n₀ + 1) 24 v2 := (h.b2.kept hg1 (h.b2.not_row (by decide) h.r1)).kept hg2 (h.b2.not_row (by decide) h.r2)
  have B1 := b1'.set v1'
  have B2 := (b2'.other (B' := n₀) (by omega) v1').set v2'
  have B1 := B1.other (B' := n₀ + 1) (by omega) v2'
  have hs8 := grownBy_setCell' w6 n₀ v1'
  have hs9 := grownBy_setCell' (w6.setCell ⟨n₀, 0, none⟩ v1') (n₀ + 1) v2'
  obtain ⟨W', hW'⟩ : ∃ W', (w6.setCell ⟨n₀, 0, none⟩ v1').setCell ⟨n₀ + 1, 0, none⟩ v2' = W' := ⟨_, rfl⟩
  have hz5 := hg1.size
  have hz6 := hg2.size
  have hz8 := hs8.size
  have hz9 := hs9.size
  have same : ∀ b, b < W.heap.size → b ≠ n₀ → b ≠ n₀ + 1 → some b ≠ v1.ownBlock → some b ≠ v2.ownBlock → W'.heap[b]? = W.heap[b]? := fun b hb0 n0 n1 o1 o2 => by
    rw [← hW']
    exact (hs9.block b (by omega) (by simpa using n1)).trans ((hs8.block b (by omega) (by simpa using n0)).trans ((hg2.block b (by omega) o2).trans (hg1.block b hb0 o1)))
  have o1 : w6.ownsRow (if pre = [] then W.heap.size else n₀) 23 9 v1' (pre.length + 1) (encF pre ++ x.2.cells.toList) := hown1.kept hg2 (own_ne (by decide) hown1 r2')
  have R1 : ((w6.setCell ⟨n₀, 0, none⟩ v1').setCell ⟨n₀ + 1, 0, none⟩ v2').ownsRow (if pre = [] then W.heap.size else n₀) 23 9 v1' (pre.length + 1) (encF pre ++ x.2.cells.toList) :=
    (o1.kept hs8 (.inr (b1'.not_row (by decide) o1).symm)).kept hs9 (.inr (b2'.not_row (by decide) o1).symm)
  have R2 : ((w6.setCell ⟨n₀, 0, none⟩ v1').setCell ⟨n₀ + 1, 0, none⟩ v2').ownsRow (if pre = [] then W.heap.size else n₀) 3 1 v2' (pre.length + 1) (encP pre ++ [.int .i64 (x.1 : Int)]) :=
    (hown2.kept hs8 (.inr (b1'.not_row (by decide) hown2).symm)).kept hs9 (.inr (b2'.not_row (by decide) hown2).symm)
  have os : W'.os = W.os ∧ W'.tape = W.tape ∧ W'.output = W.output := by
    rw [← hW']
    exact ⟨hs9.os.trans (hs8.os.trans (hg2.os.trans hg1.os)), hs9.tape.trans (hs8.tape.trans (hg2.tape.trans hg1.tape)), hs9.output.trans (hs8.output.trans (hg2.output.trans hg1.output))⟩
  rw [hW'] at hz9 R1 R2 B1 B2 ⊢
  have hbase : n₀ ≤ (if pre = [] then W.heap.size else n₀) := by split <;> omega
  have low : Below n₀ W W' := ⟨os.1, os.2.1, os.2.2, by omega, fun k hk => same k (by omega) (by omega) (by omega) (fun e => by have := (h.r1.lt k e.symm).1; omega) (fun e => by have := (h.r2.lt k e.symm).1; omega)⟩
  refine ⟨⟨by omega, ?_⟩, ⟨low, ?_, ?_, ?_⟩, ⟨v1', v2', B1, B2, ?_, ?_, ?_, ?_⟩, hb.trans low, by omega⟩
  · intro k o _ hk ho
    rw [same k (Array.getElem?_eq_some_iff.1 hk).1 ?_ ?_ ?_ ?_]
    · exact hk
    · rintro rfl; rw [show W.heap[k]? = _ from h.b1] at hk; cases hk; cases ho
    · rintro rfl; rw [show W.heap[n₀ + 1]? = _ from h.b2] at hk; cases hk; cases ho
    · intro e; obtain ⟨_, _, e1, _⟩ := own_cells h.r1 e.symm; rw [e1] at hk; cases hk; cases ho
    · intro e; obtain ⟨_, _, e1, _⟩ := own_cells h.r2 e.symm; rw [e1] at hk; cases hk; cases ho
  · intro b o n0 n1 ho _ hno
    rw [same b (Array.getElem?_eq_some_iff.1 ho).1 n0 n1 (fun e => hno ⟨n₀, v1, .inl rfl, h.b1.cell, e.symm⟩) (fun e => hno ⟨n₀ + 1, v2, .inr rfl, h.b2.cell, e.symm⟩)]
    exact ho
  · rintro g ⟨B, v, hB, hv, ho⟩
    by_cases hg : W.heap.size ≤ g
    · exact .inr (.inl hg)
    by_cases e1 : some g = v1.ownBlock
    · exact .inl ⟨n₀, v1, .inl rfl, h.b1.cell, e1.symm⟩
    by_cases e2 : some g = v2.ownBlock
    · exact .inl ⟨n₀ + 1, v2, .inr rfl, h.b2.cell, e2.symm⟩
    rcases hB with rfl | rfl
    · rw [B1.cell] at hv
      cases hv
      have hlt := (hown1.lt g ho).1
      by_cases hp : pre = []
      · rw [if_pos hp] at hlt; exact .inr (.inl hlt)
      · obtain ⟨cap, cur, hh, hc, hz⟩ := own_cells hown1 ho
        rw [hg1.block g (by omega) e1] at hh
        have : 1 ≤ pre.length := List.length_pos_iff.2 hp
        refine .inr (.inr (.inr (.inr ⟨_, hh, ?_⟩)))
        rintro ⟨cs, t, fz, e, _, hsm⟩
        cases e
        omega
    · rw [B2.cell] at hv
      cases hv
      obtain ⟨cap, cur, hh, hc, hz⟩ := own_cells hown2 ho
      rw [hg2.block g (by omega) e2, hg1.block g (by omega) e1] at hh
      refine .inr (.inr (.inr (.inr ⟨_, hh, ?_⟩)))
      rintro ⟨cs, t, fz, e, ht, _⟩
      cases e
      exact ht rfl
  · rintro _ g ⟨B, v, hB, hv, ho⟩
    rcases hB with rfl | rfl
    · rw [B1.cell] at hv; cases hv; exact (R1.lt g ho).2
    · rw [B2.cell] at hv; cases hv; exact (R2.lt g ho).2
  · rw [encF_snoc, List.length_append]; exact own_base hbase R1
  · rw [encP_snoc, List.length_append]; exact own_base hbase R2
  · obtain ⟨g, cap, rfl⟩ := ownsRow_succ R1; simp
  · obtain ⟨g, cap, rfl⟩ := ownsRow_succ R2; simp

set_option maxRecDepth 100000 in
set_option maxHeartbeats 4000000 in
theorem stream_in (l : List Int) (A : Option Addr) (cap : Nat) (w : World) (hA : IAt w w.heap.size A l) (hl : ∀ a ∈ l, kHas .i64 a) (hlen : l.length ≤ 4000000000) (hcap : l.length ≤ cap) (hw : Laid w) (hn : 0 < w.heap.size) :
    CallsIn Fence.wide 5 Tryz.prog 10 #[.slice A l.length cap] w fun e w' => ∃ v1 v2, e = .returned (.tuple #[v1, v2]) ∧ StR w.heap.size (strmA l 0 0) v1 v2 w' ∧ Below w.heap.size w w' := by
  refine callsIn_of_wp_marks Tryz.func10 rfl trivial ?_ rfl
  simp only [Tryz.ntmps10, List.size_toArray, List.length_cons, List.length_nil, Nat.reduceAdd, Nat.reduceSub, Array.replicate_succ, Array.replicate_zero, List.push_toArray, List.append_toArray, List.nil_append, List.cons_append]
  gi_wp2_with (refine ⟨trivial, ?_⟩; gi_at_call 19; refine (all_in _ _ _ _ _).mono ?_; rintro e w' ⟨rfl, rfl⟩)
  have bO := ((Boxed.new w 32 (.slice none 0 0)).alloc (.cells #[.slice none 0 0] 24)).alloc (.cells #[.slice A l.length cap] 24)
  have bP := (Boxed.new (w.alloc (.cells #[.slice none 0 0] 32)) 24 (.slice none 0 0)).alloc (.cells #[.slice A l.length cap] 24)
  have bL := Boxed.new ((w.alloc (.cells #[.slice none 0 0] 32)).alloc (.cells #[.slice none 0 0] 24)) 24 (.slice A l.length cap)
  simp only [World.size_alloc] at bP bL
  have hB0 : Below w.heap.size w (((w.alloc (.cells #[.slice none 0 0] 32)).alloc (.cells #[.slice none 0 0] 24)).alloc (.cells #[.slice A l.length cap] 24)) := (((Below.refl _ w).alloc (Nat.le_refl _) _).alloc (by simp) _).alloc (by simp; omega) _
  have hsz : (((w.alloc (.cells #[.slice none 0 0] 32)).alloc (.cells #[.slice none 0 0] 24)).alloc (.cells #[.slice A l.length cap] 24)).heap.size = w.heap.size + 3 := by simp
  obtain ⟨W0, hW0⟩ : ∃ W0, ((w.alloc (.cells #[.slice none 0 0] 32)).alloc (.cells #[.slice none 0 0] 24)).alloc (.cells #[.slice A l.length cap] 24) = W0 := ⟨_, rfl⟩
  rw [hW0] at bO bP bL hB0 hsz ⊢
  clear hW0
  have hno : ∀ W, Below W0.heap.size W0 W → ∀ g, ¬ RowOf w.heap.size W g := by
    rintro W hb g hg
    obtain ⟨B, v, hB, hv, ho⟩ := (RowOf.same (fun B hB => hb.cell (p := ⟨B, 0, none⟩) (by show B < W0.heap.size; rcases hB with rfl | rfl <;> omega)) g).1 hg
    rcases hB with rfl | rfl
    · rw [bO.cell] at hv; cases hv; cases ho
    · rw [bP.cell] at hv; cases hv; cases ho
  have hseq : SeqStopsK Fence.wide (5 - 1) Tryz.prog 39 #[.pointer (some ⟨w.heap.size + 2, 0, none⟩)] (fun x : Nat × Fields => #[.int .i64 (x.1 : Int), x.2.val]) (Kp w.heap.size) (fun ys => ys = strmA l 0 0) (fun pre => pre <+: strmA l 0 0) l.length W0 := by
    intro l0 J Jx W hb hJ hJx hY h0
    exact all1_in 3 l0 w.heap.size A cap l J Jx W hJ hY (bL.kept (grown_of_below hb) (by simp)) ((hA.below hB0 (Nat.le_refl _)).below (hb.mono (by omega)) (Nat.le_refl _)) hl (by unfold maxLen; omega) hcap (laid_low hw (hB0.trans (hb.mono (by omega))) hn) hn (hno W hb) h0
  refine wpIn_rangeFunc_ownH rfl (by decide) (gf := 39) (lb := #[.pointer (some ⟨w.heap.size + 1 + 1, 0, none⟩)]) rfl trivial (enters_of Tryz.func39 (by kernel_rfl) rfl) hseq (fun h k => h.trans k) (fun W l o o' hl h hc _ => kp_put (D := W0.heap.size) (by omega) W l o o' hl h hc) (Below.refl _ _) (fun _ => rfl)
    (StI w.heap.size w) (fun _ _ _ => False) (stI_own (by omega) (Nat.le_refl _)) (fun _ _ _ _ _ hs _ _ => hs)
    ⟨⟨_, _, bO, bP, World.ownsRow_nil _ _ _ _, World.ownsRow_nil _ _ _ _, by simp, by simp⟩, hB0, by omega⟩
    (StA A l.length cap w.heap.size W0.heap.size) stA_own ?assign ?body ?done ?stop
  case assign =>
    rintro l0 pre x W K hi hK
    obtain ⟨k, x0, x1, x2, x3, x4, x5, x6, x7, xb⟩ := x
    simp only [Fields.val]
    gi_wp2
    obtain ⟨⟨v1, v2, h⟩, hb, h3⟩ := hi
    exact hK _ _ ((KeepsOthers.alloc _ _).from _) (Kp.of_below (by omega) ((Below.refl _ W).alloc (Nat.le_refl _) _)) ⟨⟨v1, v2, h.alloc _⟩, hb.alloc hb.size _, by simp; omega⟩ ⟨W.heap.size, v1, by omega, heap_alloc_new W _, h.b1.alloc _, fun e => by have := (h.r1.lt _ e.symm).2; omega, rfl⟩
  case body =>
    rintro l0 pre x a' W hl0 ⟨r, hr⟩ ⟨⟨v1, v2, h⟩, hb, h3⟩ ⟨Bx, u1, hBx, hX, hbx, hne, rfl⟩ hlt
    have e : v1 = u1 := by have := hbx.cell.symm.trans h.b1.cell; cases this; rfl
    subst e
    clear hbx
    obtain ⟨k, x0, x1, x2, x3, x4, x5, x6, x7, xb⟩ := x
    simp only [Fields.val, stAct]
    have hn1 := h.b1.lt
    have hX0 : ∀ W' : World, W'.heap[Bx]? = W.heap[Bx]? → W'.rangeAt Bx 0 [.int .i64 x0, .int .i64 x1, .int .i64 x2, .int .i64 x3, .int .i64 x4, .int .i64 x5, .int .i64 x6, .int .i64 x7, .bool xb] := by
      intro W' hW' j v hv
      simp only [World.cell?, hW', hX, Nat.zero_add]
      simpa [Fields.cells] using hv
    have hS0 : W.drew.cell? ⟨w.heap.size, 0, none⟩ = some v1 ∧ W.drew.cell? ⟨w.heap.size + 1, 0, none⟩ = some v2 ∧ W.drew.rangeAt Bx 0 [.int .i64 x0, .int .i64 x1, .int .i64 x2, .int .i64 x3, .int .i64 x4, .int .i64 x5, .int .i64 x6, .int .i64 x7, .bool xb] := ⟨h.b1.cell, h.b2.cell, hX0 _ rfl⟩
    gi_wp2
    refine Two.region_round (S := Two.SK 8 (fun w' => w'.cell? ⟨w.heap.size, 0, none⟩ = some v1 ∧ w'.cell? ⟨w.heap.size + 1, 0, none⟩ = some v2 ∧ w'.rangeAt Bx 0 [.int .i64 x0, .int .i64 x1, .int .i64 x2, .int .i64 x3, .int .i64 x4, .int .i64 x5, .int .i64 x6, .int .i64 x7, .bool xb]))
      (by kernel_rfl) (fun ⟨_, _, h⟩ => h) (Two.noDefer_spec (by kernel_rfl)) ?_
    have h00 : W.grownBy W.drew none := grown_drew ⟨rfl, rfl, rfl, Nat.le_refl _, fun _ _ _ => rfl⟩
    obtain ⟨Wd, hWd⟩ : ∃ Wd, W.drew = Wd := ⟨_, rfl⟩
    rw [hWd] at hS0 h00 ⊢
    clear hWd
    refine Two.anyL_takeK (i := 0) (v := v1) rfl (by kernel_rfl) (by kernel_rfl) (by kernel_rfl) (fun _ _ _ h => h) rfl (by kernel_rfl) (by kernel_rfl)
      (Two.yieldsIf_load_one rfl _ _ rfl _ _ rfl _ (fun w' hw' => hw'.1) Tryz.underlying32 rfl) hS0 ?_
    refine Two.anyL_takeK (i := 1) (v := .agg #[.int .i64 x0, .int .i64 x1, .int .i64 x2, .int .i64 x3, .int .i64 x4, .int .i64 x5, .int .i64 x6, .int .i64 x7, .bool xb]) rfl (by kernel_rfl) (by kernel_rfl) (by kernel_rfl) (fun _ _ _ h => h) rfl (by kernel_rfl) (by kernel_rfl)
      (yieldsIf_load_mid rfl _ _ rfl _ _ rfl [.int .i64 x0, .int .i64 x1, .int .i64 x2, .int .i64 x3, .int .i64 x4, .int .i64 x5, .int .i64 x6, .int .i64 x7, .bool xb] _ (fun w' hw' => hw'.2.2) Tryz.underlying23 rfl (by kernel_rfl)) hS0 ?_
    refine Two.anyL_takeK (i := 4) (v := v2) rfl (by kernel_rfl) (by kernel_rfl) (by kernel_rfl) (fun _ _ _ h => h) rfl (by kernel_rfl) (by kernel_rfl)
      (Two.yieldsIf_load_one rfl _ _ rfl _ _ rfl _ (fun w' hw' => hw'.2.1) Tryz.underlying24 rfl) hS0 ?_
    refine Two.anyL_takeK (i := 5) (v := .int .i64 (k : Int)) rfl (by kernel_rfl) (by kernel_rfl) (by kernel_rfl) (fun _ _ _ h => h) rfl (by kernel_rfl) (by kernel_rfl)
      (.inl ⟨rfl, fun w' _ => rfl⟩) hS0 ?_
    have mid : ∀ Wc, W.grownBy Wc v1.ownBlock → Wc.cell? ⟨w.heap.size, 0, none⟩ = some v1 ∧ Wc.cell? ⟨w.heap.size + 1, 0, none⟩ = some v2 ∧ Wc.rangeAt Bx 0 [.int .i64 x0, .int .i64 x1, .int .i64 x2, .int .i64 x3, .int .i64 x4, .int .i64 x5, .int .i64 x6, .int .i64 x7, .bool xb] :=
      fun Wc hg => ⟨(h.b1.kept hg (h.b1.not_row (by decide) h.r1)).cell, (h.b2.kept hg (h.b2.not_row (by decide) h.r1)).cell, hX0 _ (hg.block Bx (Array.getElem?_eq_some_iff.1 hX).1 hne)⟩
    have hne2 : some Bx ≠ v2.ownBlock := fun e => by
      obtain ⟨_, _, e1, _⟩ := own_cells h.r2 e.symm
      rw [hX] at e1
      simp at e1
    have hN : pre.length + 1 ≤ 4000000000 := by omega
    have hB1 : (if pre = [] then W.heap.size else w.heap.size) ≤ W.heap.size := by split <;> omega
    have hown1 : W.ownsRow (if pre = [] then W.heap.size else w.heap.size) 23 9 v1 pre.length (encF pre) := by
      by_cases hp : pre = []
      · rw [if_pos hp, h.e1.2 hp, hp]; exact World.ownsRow_nil _ _ _ _
      · rw [if_neg hp]; exact h.r1
    have hown2 : W.ownsRow (if pre = [] then W.heap.size else w.heap.size) 3 1 v2 pre.length (encP pre) := by
      by_cases hp : pre = []
      · rw [if_pos hp, h.e2.2 hp, hp]; exact World.ownsRow_nil _ _ _ _
      · rw [if_neg hp]; exact h.r2
    have no1 : ∀ {r : Option Nat}, r = none → v1.ownBlock = none ∨ v1.ownBlock ≠ r := fun e => by cases h0 : v1.ownBlock <;> simp [e]
    obtain ⟨i0, hi0, hz0, hz1, hz2⟩ := info_parts insInfo
    obtain ⟨i9, hi9, hy0, hy1, hy2⟩ := info_parts intInfo
    have hk1 := h.r1.lt
    generalize hbb : (if pre = [] then W.heap.size else w.heap.size) = bb at hB1 hown1 hown2
    refine Two.anyL_ready (rs := [2, 6]) (by kernel_rfl) (by simp) (Two.AllL.cons rfl (fun _ => rfl) ?_ (Two.AllL.cons rfl (fun _ => rfl) ?_ Two.AllL.nil))
    · intro K' hK
      go_wp2
      have hga := grown_alloc h00 (.cells #[.int .i64 x0, .int .i64 x1, .int .i64 x2, .int .i64 x3, .int .i64 x4, .int .i64 x5, .int .i64 x6, .int .i64 x7, .bool xb] 23)
      have hgn : Wd.grownBy (Wd.alloc (.cells #[.int .i64 x0, .int .i64 x1, .int .i64 x2, .int .i64 x3, .int .i64 x4, .int .i64 x5, .int .i64 x6, .int .i64 x7, .bool xb] 23)) none := World.grownBy_alloc _ _ _
      have hca : (Wd.alloc (.cells #[.int .i64 x0, .int .i64 x1, .int .i64 x2, .int .i64 x3, .int .i64 x4, .int .i64 x5, .int .i64 x6, .int .i64 x7, .bool xb] 23)).heap[Wd.heap.size]? = some (.cells #[.int .i64 x0, .int .i64 x1, .int .i64 x2, .int .i64 x3, .int .i64 x4, .int .i64 x5, .int .i64 x6, .int .i64 x7, .bool xb] 23 (0, 0)) := heap_alloc_new _ _
      have hge := h00.size
      refine hK.out _ _ (fun _ => mid _ (grown_any hga _)) ?_
      clear hK K'
      obtain ⟨Wa, hWn⟩ : ∃ Wa, (Wd.alloc (.cells #[.int .i64 x0, .int .i64 x1, .int .i64 x2, .int .i64 x3, .int .i64 x4, .int .i64 x5, .int .i64 x6, .int .i64 x7, .bool xb] 23)) = Wa := ⟨_, rfl⟩
      rw [hWn] at hga hca hgn ⊢
      clear hWn
      refine Two.anyL_ready (rs := [3, 6]) (by kernel_rfl) (by simp) (Two.AllL.cons rfl (fun _ => rfl) ?_ (Two.AllL.cons rfl (fun _ => rfl) ?_ (Two.AllL.nil)))
      · intro K' hK
        refine wp_append_own _ (.tmp 12) (.tmp 14) 32 rfl bb 23 i0 _ 9 72 Tryz.underlying32 hi0 hz0 hz1 hz2 rfl (by decide) v1 pre.length (encF pre) rfl (hown1.kept hga (no1 rfl)) ⟨Wd.heap.size, 0, none⟩ 1 1 [.int .i64 x0, .int .i64 x1, .int .i64 x2, .int .i64 x3, .int .i64 x4, .int .i64 x5, .int .i64 x6, .int .i64 x7, .bool xb] rfl rfl (World.news_of_block hca)
          (fun u hu => by simp only [List.mem_cons, List.not_mem_nil, or_false] at hu; rcases hu with rfl | rfl | rfl | rfl | rfl | rfl | rfl | rfl | rfl <;> rfl) (by unfold maxLen; omega) (by omega) (Nat.le_trans hB1 hga.size) ?_
        intro v1' w1 hownz hg1 _
        have hgb := (grown_any hga v1.ownBlock).trans hg1
        refine hK.out _ _ (fun _ => mid _ hgb) ?_
        clear hK K'
        refine Two.anyL_ready (rs := [6]) (by kernel_rfl) (by simp) (Two.AllL.cons rfl (fun _ => rfl) ?_ (Two.AllL.nil))
        intro K' hK
        go_wp2
        have hgz := grown_alloc hgb (.cells #[.int .i64 (k : Int)] 3)
        have hgn : w1.grownBy (w1.alloc (.cells #[.int .i64 (k : Int)] 3)) none := World.grownBy_alloc _ _ _
        have hcp : (w1.alloc (.cells #[.int .i64 (k : Int)] 3)).heap[w1.heap.size]? = some (.cells #[.int .i64 (k : Int)] 3 (0, 0)) := heap_alloc_new _ _
        have hge := hgb.size
        refine hK.out _ _ (fun _ => mid _ (hgz)) ?_
        clear hK K'
        obtain ⟨wz, hWn⟩ : ∃ wz, (w1.alloc (.cells #[.int .i64 (k : Int)] 3)) = wz := ⟨_, rfl⟩
        rw [hWn] at hgz hcp hgn ⊢
        clear hWn
        replace hownz := hownz.kept hgn (by cases v1'.ownBlock <;> simp)
        refine Two.anyL_ready (rs := [7]) (by kernel_rfl) (by simp) (Two.AllL.cons rfl (fun _ => rfl) ?_ Two.AllL.nil)
        intro K' hK
        refine wp_append_own _ (.tmp 16) (.tmp 18) 24 rfl bb 3 i9 _ 1 8 Tryz.underlying24 hi9 hy0 hy1 hy2 rfl (by decide) v2 pre.length (encP pre) rfl (hown2.kept hgz (own_ne (by decide) h.r2 h.r1)) ⟨w1.heap.size, 0, none⟩ 1 1 [.int .i64 (k : Int)] rfl rfl (World.news_of_block hcp)
          (fun u hu => by simp at hu; subst hu; rfl) (by unfold maxLen; omega) (by omega) (Nat.le_trans hB1 hgz.size) ?_
        intro v2' w6 hown2' hg2' _
        have hend := body_end (D := W0.heap.size) (w := w) (x := (k, ⟨x0, x1, x2, x3, x4, x5, x6, x7, xb⟩)) h hb h3 hgz (hbb ▸ hownz) hg2' (hbb ▸ hown2')
        have c0 := (h.b1.kept hgz (h.b1.not_row (by decide) h.r1)).kept hg2' (h.b1.not_row (by decide) h.r2)
        have c1 := ((h.b2.kept hgz (h.b2.not_row (by decide) h.r1)).kept hg2' (h.b2.not_row (by decide) h.r2)).other (B' := w.heap.size) (by omega) v1'
        obtain ⟨ga, ca, rfl⟩ := ownsRow_succ hownz
        obtain ⟨gb, cb, rfl⟩ := ownsRow_succ hown2'
        have hr6 : w6.rangeAt Bx 0 [.int .i64 x0, .int .i64 x1, .int .i64 x2, .int .i64 x3, .int .i64 x4, .int .i64 x5, .int .i64 x6, .int .i64 x7, .bool xb] ∧ w6.cell? ⟨w.heap.size, 0, none⟩ = some v1 ∧ w6.cell? ⟨w.heap.size + 1, 0, none⟩ = some v2 := ⟨hX0 _ ((hg2'.block Bx (by have := hgz.size; have := (Array.getElem?_eq_some_iff.1 hX).1; omega) hne2).trans (hgz.block Bx (Array.getElem?_eq_some_iff.1 hX).1 hne)), c0.cell, ((h.b2.kept hgz (h.b2.not_row (by decide) h.r1)).kept hg2' (h.b2.not_row (by decide) h.r2)).cell⟩
        have c0c := c0.cell
        have c0f := c0.frozen
        have c1c := c1.cell
        have c1f := c1.frozen
        clear c0 c1
        refine hK.out _ _ (fun _ => ⟨hr6.2.1, hr6.2.2, hr6.1⟩) ?_
        clear hK K'
        refine Two.anyL_ready (rs := [8]) (by kernel_rfl) (by simp) (Two.AllL.cons rfl (fun _ => rfl) ?_ Two.AllL.nil)
        intro K' hK
        go_wp2
        refine hK.out _ _ (fun h8 => (nomatch (show true = false from h8))) ?_
        clear hK K'
        refine Two.anyL_ready (rs := [9]) (by kernel_rfl) (by simp) (Two.AllL.cons rfl (fun _ => rfl) ?_ Two.AllL.nil)
        intro K' hK
        go_wp2
        refine hK.out _ _ (fun h8 => (nomatch (show true = false from h8))) ?_
        exact Two.anyL_done (by kernel_rfl) hend _
      · intro K' hK
        go_wp2
        have hgb := grown_alloc hga (.cells #[.int .i64 (k : Int)] 3)
        have hgn : Wa.grownBy (Wa.alloc (.cells #[.int .i64 (k : Int)] 3)) none := World.grownBy_alloc _ _ _
        have hcp0 : (Wa.alloc (.cells #[.int .i64 (k : Int)] 3)).heap[Wa.heap.size]? = some (.cells #[.int .i64 (k : Int)] 3 (0, 0)) := heap_alloc_new _ _
        have hge := hga.size
        refine hK.out _ _ (fun _ => mid _ (grown_any hgb _)) ?_
        clear hK K'
        obtain ⟨Wb, hWn⟩ : ∃ Wb, (Wa.alloc (.cells #[.int .i64 (k : Int)] 3)) = Wb := ⟨_, rfl⟩
        rw [hWn] at hgb hcp0 hgn ⊢
        clear hWn
        have hcb : Wb.heap[Wd.heap.size]? = some (.cells #[.int .i64 x0, .int .i64 x1, .int .i64 x2, .int .i64 x3, .int .i64 x4, .int .i64 x5, .int .i64 x6, .int .i64 x7, .bool xb] 23 (0, 0)) := (hgn.block _ (Array.getElem?_eq_some_iff.1 hca).1 (by simp)).trans hca
        refine Two.anyL_ready (rs := [3]) (by kernel_rfl) (by simp) (Two.AllL.cons rfl (fun _ => rfl) ?_ (Two.AllL.nil))
        intro K' hK
        refine wp_append_own _ (.tmp 12) (.tmp 14) 32 rfl bb 23 i0 _ 9 72 Tryz.underlying32 hi0 hz0 hz1 hz2 rfl (by decide) v1 pre.length (encF pre) rfl (hown1.kept hgb (no1 rfl)) ⟨Wd.heap.size, 0, none⟩ 1 1 [.int .i64 x0, .int .i64 x1, .int .i64 x2, .int .i64 x3, .int .i64 x4, .int .i64 x5, .int .i64 x6, .int .i64 x7, .bool xb] rfl rfl (World.news_of_block hcb)
          (fun u hu => by simp only [List.mem_cons, List.not_mem_nil, or_false] at hu; rcases hu with rfl | rfl | rfl | rfl | rfl | rfl | rfl | rfl | rfl <;> rfl) (by unfold maxLen; omega) (by omega) (Nat.le_trans hB1 hgb.size) ?_
        intro v1' wz hownz hg1 _
        have hgz := (grown_any hgb v1.ownBlock).trans hg1
        refine hK.out _ _ (fun _ => mid _ hgz) ?_
        clear hK K'
        have hcp : wz.heap[Wa.heap.size]? = some (.cells #[.int .i64 (k : Int)] 3 (0, 0)) := (hg1.block _ (Array.getElem?_eq_some_iff.1 hcp0).1 (fun e => by have := (h.r1.lt _ e.symm).2; have := hga.size; omega)).trans hcp0
        refine Two.anyL_ready (rs := [7]) (by kernel_rfl) (by simp) (Two.AllL.cons rfl (fun _ => rfl) ?_ Two.AllL.nil)
        intro K' hK
        refine wp_append_own _ (.tmp 16) (.tmp 18) 24 rfl bb 3 i9 _ 1 8 Tryz.underlying24 hi9 hy0 hy1 hy2 rfl (by decide) v2 pre.length (encP pre) rfl (hown2.kept hgz (own_ne (by decide) h.r2 h.r1)) ⟨Wa.heap.size, 0, none⟩ 1 1 [.int .i64 (k : Int)] rfl rfl (World.news_of_block hcp)
          (fun u hu => by simp at hu; subst hu; rfl) (by unfold maxLen; omega) (by omega) (Nat.le_trans hB1 hgz.size) ?_
        intro v2' w6 hown2' hg2' _
        have hend := body_end (D := W0.heap.size) (w := w) (x := (k, ⟨x0, x1, x2, x3, x4, x5, x6, x7, xb⟩)) h hb h3 hgz (hbb ▸ hownz) hg2' (hbb ▸ hown2')
        have c0 := (h.b1.kept hgz (h.b1.not_row (by decide) h.r1)).kept hg2' (h.b1.not_row (by decide) h.r2)
        have c1 := ((h.b2.kept hgz (h.b2.not_row (by decide) h.r1)).kept hg2' (h.b2.not_row (by decide) h.r2)).other (B' := w.heap.size) (by omega) v1'
        obtain ⟨ga, ca, rfl⟩ := ownsRow_succ hownz
        obtain ⟨gb, cb, rfl⟩ := ownsRow_succ hown2'
        have hr6 : w6.rangeAt Bx 0 [.int .i64 x0, .int .i64 x1, .int .i64 x2, .int .i64 x3, .int .i64 x4, .int .i64 x5, .int .i64 x6, .int .i64 x7, .bool xb] ∧ w6.cell? ⟨w.heap.size, 0, none⟩ = some v1 ∧ w6.cell? ⟨w.heap.size + 1, 0, none⟩ = some v2 := ⟨hX0 _ ((hg2'.block Bx (by have := hgz.size; have := (Array.getElem?_eq_some_iff.1 hX).1; omega) hne2).trans (hgz.block Bx (Array.getElem?_eq_some_iff.1 hX).1 hne)), c0.cell, ((h.b2.kept hgz (h.b2.not_row (by decide) h.r1)).kept hg2' (h.b2.not_row (by decide) h.r2)).cell⟩
        have c0c := c0.cell
        have c0f := c0.frozen
        have c1c := c1.cell
        have c1f := c1.frozen
        clear c0 c1
        refine hK.out _ _ (fun _ => ⟨hr6.2.1, hr6.2.2, hr6.1⟩) ?_
        clear hK K'
        refine Two.anyL_ready (rs := [8]) (by kernel_rfl) (by simp) (Two.AllL.cons rfl (fun _ => rfl) ?_ Two.AllL.nil)
        intro K' hK
        go_wp2
        refine hK.out _ _ (fun h8 => (nomatch (show true = false from h8))) ?_
        clear hK K'
        refine Two.anyL_ready (rs := [9]) (by kernel_rfl) (by simp) (Two.AllL.cons rfl (fun _ => rfl) ?_ Two.AllL.nil)
        intro K' hK
        go_wp2
        refine hK.out _ _ (fun h8 => (nomatch (show true = false from h8))) ?_
        exact Two.anyL_done (by kernel_rfl) hend _
    · intro K' hK
      go_wp2
      have hga := grown_alloc h00 (.cells #[.int .i64 (k : Int)] 3)
      have hgn : Wd.grownBy (Wd.alloc (.cells #[.int .i64 (k : Int)] 3)) none := World.grownBy_alloc _ _ _
      have hcp0 : (Wd.alloc (.cells #[.int .i64 (k : Int)] 3)).heap[Wd.heap.size]? = some (.cells #[.int .i64 (k : Int)] 3 (0, 0)) := heap_alloc_new _ _
      have hge := h00.size
      refine hK.out _ _ (fun _ => mid _ (grown_any hga _)) ?_
      clear hK K'
      obtain ⟨Wa, hWn⟩ : ∃ Wa, (Wd.alloc (.cells #[.int .i64 (k : Int)] 3)) = Wa := ⟨_, rfl⟩
      rw [hWn] at hga hcp0 hgn ⊢
      clear hWn
      refine Two.anyL_ready (rs := [2]) (by kernel_rfl) (by simp) (Two.AllL.cons rfl (fun _ => rfl) ?_ (Two.AllL.nil))
      intro K' hK
      go_wp2
      have hgb := grown_alloc hga (.cells #[.int .i64 x0, .int .i64 x1, .int .i64 x2, .int .i64 x3, .int .i64 x4, .int .i64 x5, .int .i64 x6, .int .i64 x7, .bool xb] 23)
      have hgn : Wa.grownBy (Wa.alloc (.cells #[.int .i64 x0, .int .i64 x1, .int .i64 x2, .int .i64 x3, .int .i64 x4, .int .i64 x5, .int .i64 x6, .int .i64 x7, .bool xb] 23)) none := World.grownBy_alloc _ _ _
      have hca : (Wa.alloc (.cells #[.int .i64 x0, .int .i64 x1, .int .i64 x2, .int .i64 x3, .int .i64 x4, .int .i64 x5, .int .i64 x6, .int .i64 x7, .bool xb] 23)).heap[Wa.heap.size]? = some (.cells #[.int .i64 x0, .int .i64 x1, .int .i64 x2, .int .i64 x3, .int .i64 x4, .int .i64 x5, .int .i64 x6, .int .i64 x7, .bool xb] 23 (0, 0)) := heap_alloc_new _ _
      have hge := hga.size
      refine hK.out _ _ (fun _ => mid _ (grown_any hgb _)) ?_
      clear hK K'
      obtain ⟨Wb, hWn⟩ : ∃ Wb, (Wa.alloc (.cells #[.int .i64 x0, .int .i64 x1, .int .i64 x2, .int .i64 x3, .int .i64 x4, .int .i64 x5, .int .i64 x6, .int .i64 x7, .bool xb] 23)) = Wb := ⟨_, rfl⟩
      rw [hWn] at hgb hca hgn ⊢
      clear hWn
      have hcp1 : Wb.heap[Wd.heap.size]? = some (.cells #[.int .i64 (k : Int)] 3 (0, 0)) := (hgn.block _ (Array.getElem?_eq_some_iff.1 hcp0).1 (by simp)).trans hcp0
      refine Two.anyL_ready (rs := [3]) (by kernel_rfl) (by simp) (Two.AllL.cons rfl (fun _ => rfl) ?_ (Two.AllL.nil))
      intro K' hK
      refine wp_append_own _ (.tmp 12) (.tmp 14) 32 rfl bb 23 i0 _ 9 72 Tryz.underlying32 hi0 hz0 hz1 hz2 rfl (by decide) v1 pre.length (encF pre) rfl (hown1.kept hgb (no1 rfl)) ⟨Wa.heap.size, 0, none⟩ 1 1 [.int .i64 x0, .int .i64 x1, .int .i64 x2, .int .i64 x3, .int .i64 x4, .int .i64 x5, .int .i64 x6, .int .i64 x7, .bool xb] rfl rfl (World.news_of_block hca)
        (fun u hu => by simp only [List.mem_cons, List.not_mem_nil, or_false] at hu; rcases hu with rfl | rfl | rfl | rfl | rfl | rfl | rfl | rfl | rfl <;> rfl) (by unfold maxLen; omega) (by omega) (Nat.le_trans hB1 hgb.size) ?_
      intro v1' wz hownz hg1 _
      have hgz := (grown_any hgb v1.ownBlock).trans hg1
      refine hK.out _ _ (fun _ => mid _ hgz) ?_
      clear hK K'
      have hcp : wz.heap[Wd.heap.size]? = some (.cells #[.int .i64 (k : Int)] 3 (0, 0)) := (hg1.block _ (Array.getElem?_eq_some_iff.1 hcp1).1 (fun e => by have := (h.r1.lt _ e.symm).2; have := h00.size; omega)).trans hcp1
      refine Two.anyL_ready (rs := [7]) (by kernel_rfl) (by simp) (Two.AllL.cons rfl (fun _ => rfl) ?_ Two.AllL.nil)
      intro K' hK
      refine wp_append_own _ (.tmp 16) (.tmp 18) 24 rfl bb 3 i9 _ 1 8 Tryz.underlying24 hi9 hy0 hy1 hy2 rfl (by decide) v2 pre.length (encP pre) rfl (hown2.kept hgz (own_ne (by decide) h.r2 h.r1)) ⟨Wd.heap.size, 0, none⟩ 1 1 [.int .i64 (k : Int)] rfl rfl (World.news_of_block hcp)
        (fun u hu => by simp at hu; subst hu; rfl) (by unfold maxLen; omega) (by omega) (Nat.le_trans hB1 hgz.size) ?_
      intro v2' w6 hown2' hg2' _
      have hend := body_end (D := W0.heap.size) (w := w) (x := (k, ⟨x0, x1, x2, x3, x4, x5, x6, x7, xb⟩)) h hb h3 hgz (hbb ▸ hownz) hg2' (hbb ▸ hown2')
      have c0 := (h.b1.kept hgz (h.b1.not_row (by decide) h.r1)).kept hg2' (h.b1.not_row (by decide) h.r2)
      have c1 := ((h.b2.kept hgz (h.b2.not_row (by decide) h.r1)).kept hg2' (h.b2.not_row (by decide) h.r2)).other (B' := w.heap.size) (by omega) v1'
      obtain ⟨ga, ca, rfl⟩ := ownsRow_succ hownz
      obtain ⟨gb, cb, rfl⟩ := ownsRow_succ hown2'
      have hr6 : w6.rangeAt Bx 0 [.int .i64 x0, .int .i64 x1, .int .i64 x2, .int .i64 x3, .int .i64 x4, .int .i64 x5, .int .i64 x6, .int .i64 x7, .bool xb] ∧ w6.cell? ⟨w.heap.size, 0, none⟩ = some v1 ∧ w6.cell? ⟨w.heap.size + 1, 0, none⟩ = some v2 := ⟨hX0 _ ((hg2'.block Bx (by have := hgz.size; have := (Array.getElem?_eq_some_iff.1 hX).1; omega) hne2).trans (hgz.block Bx (Array.getElem?_eq_some_iff.1 hX).1 hne)), c0.cell, ((h.b2.kept hgz (h.b2.not_row (by decide) h.r1)).kept hg2' (h.b2.not_row (by decide) h.r2)).cell⟩
      have c0c := c0.cell
      have c0f := c0.frozen
      have c1c := c1.cell
      have c1f := c1.frozen
      clear c0 c1
      refine hK.out _ _ (fun _ => ⟨hr6.2.1, hr6.2.2, hr6.1⟩) ?_
      clear hK K'
      refine Two.anyL_ready (rs := [8]) (by kernel_rfl) (by simp) (Two.AllL.cons rfl (fun _ => rfl) ?_ Two.AllL.nil)
      intro K' hK
      go_wp2
      refine hK.out _ _ (fun h8 => (nomatch (show true = false from h8))) ?_
      clear hK K'
      refine Two.anyL_ready (rs := [9]) (by kernel_rfl) (by simp) (Two.AllL.cons rfl (fun _ => rfl) ?_ Two.AllL.nil)
      intro K' hK
      go_wp2
      refine hK.out _ _ (fun h8 => (nomatch (show true = false from h8))) ?_
      exact Two.anyL_done (by kernel_rfl) hend _
  case done =>
    rintro D ys W hD rfl ⟨⟨v1, v2, hR⟩, hb, h3⟩ hK
    have c1 := hR.b1.cell
    have c2 := hR.b2.cell
    gi_wp2
    gi_region
    gi_wp2
    refine ⟨by simp, .inl ⟨_, _, rfl, run_takeDeferred (w := W.drew) hK, ?_⟩⟩
    refine ⟨_, results_tmp2 rfl _ _ _, v1, v2, rfl, ?_, ?_⟩
    · exact StR.kept hR (grown_drew' (W := W) (grownBy_putObj' W.drew D _)) (fun r e => by cases e; exact ⟨_, hK, rfl⟩)
    · exact hb.grown (grown_drew' (W := W) (grownBy_putObj' W.drew D _)) hb.size (fun k e => by cases e; omega)
  case stop =>
    rintro D c pre W _ _ h _
    exact h.elim
#print axioms stream_in
end Go.Proofs.YtmaaibffgoanpaaGreatDoor
/- For the seat: what some halfwords are read as: chapter 12's example. -/
namespace Go.Proofs.YtmaaibffgoanpaaGreatDoor
open Go.Sx Go.ChangeShapes Go.WideShapes Go.RowKit Go.Joins Go.Deep

namespace lit
/-- Is the answer this instruction? -/
def litD (x : Fields) (ok : Bool) (r : Res) : Tree Res :=
  match insOf r.v with
  | some (.agg (.cons (.int .i64 a0) (.cons (.int .i64 a1) (.cons (.int .i64 a2) (.cons (.int .i64 a3) (.cons (.int .i64 a4) (.cons (.int .i64 a5) (.cons (.int .i64 a6) (.cons (.int .i64 a7) (.cons (.bool b) .nil))))))))), o) =>
    .leaf ⟨.bool (allT [.op2 .eq a0 (.num x.x0), .op2 .eq a1 (.num x.x1), .op2 .eq a2 (.num x.x2), .op2 .eq a3 (.num x.x3), .op2 .eq a4 (.num x.x4), .op2 .eq a5 (.num x.x5), .op2 .eq a6 (.num x.x6), .op2 .eq a7 (.num x.x7), .op2 .beq b (.bit x.b), .op2 .beq o (.bit ok)]), [], .bit true⟩
  | _ => .fail "no instruction"
noncomputable def litT (D : Nat) (args : List SVal) (x : Fields) (ok : Bool) : Tree Res := (callT cxs' noS (run cxs' noS 3000) D args [] (.bit true)).bind (litD x ok)
def kn : Kn := ⟨[], [], [], [], []⟩
set_option maxRecDepth 100000 in
theorem vars : VarsOk (envOf F2 []) := ⟨fun i => by cases i <;> exact zero_has, F2_has⟩

set_option maxRecDepth 100000 in
theorem ok {D : Nat} {args : List SVal} {x : Fields} {ok : Bool} {l : List Value} (hsc : ∀ u ∈ args, u.sc 0 = true) (ha : args.map (·.conc (envOf F2 []) ι0) = l) (h : pxBoth sg (litT D args x ok) kn = true) : Ans D l (.tuple #[x.val, .bool ok]) := by
  have so := sg_ok' (ρ := envOf F2 []) F2_signs
  have S : Sats (envOf F2 []) kn := Sats.start vars _ (by intro i hi; cases hi)
  obtain ⟨z, b, h1, h2, h3⟩ := pxBoth_ok so _ _ S h
  simp only [litT, Tree.get_bind, Option.bind_eq_some_iff] at h1
  obtain ⟨y, hy, hl⟩ := h1
  have hc := call_ok cxsok' (noS_ok _ _) (noS_body _) rfl hy
  unfold litD at hl
  split at hl
  · rename_i a0 a1 a2 a3 a4 a5 a6 a7 bb o hi
    simp only [Tree.get, Option.some.injEq] at hl
    subst hl
    cases h2
    have hall := allT_den _ _ h3
    have e : ∀ (t : Tm) (n : Int), Tm.op2 .eq t (.num n) ∈ [Tm.op2 .eq a0 (.num x.x0), .op2 .eq a1 (.num x.x1), .op2 .eq a2 (.num x.x2), .op2 .eq a3 (.num x.x3), .op2 .eq a4 (.num x.x4), .op2 .eq a5 (.num x.x5), .op2 .eq a6 (.num x.x6), .op2 .eq a7 (.num x.x7), .op2 .beq bb (.bit x.b), .op2 .beq o (.bit ok)] → (t.den (envOf F2 [])).asInt = n := by
      intro t n hm
      have : ((t.den (envOf F2 [])).asInt == n) = true := hall _ hm
      exact eq_of_beq this
    have f : ∀ (t : Tm) (n : Bool), Tm.op2 .beq t (.bit n) ∈ [Tm.op2 .eq a0 (.num x.x0), .op2 .eq a1 (.num x.x1), .op2 .eq a2 (.num x.x2), .op2 .eq a3 (.num x.x3), .op2 .eq a4 (.num x.x4), .op2 .eq a5 (.num x.x5), .op2 .eq a6 (.num x.x6), .op2 .eq a7 (.num x.x7), .op2 .beq bb (.bit x.b), .op2 .beq o (.bit ok)] → (t.den (envOf F2 [])).asBool = n := by
      intro t n hm
      have : ((t.den (envOf F2 [])).asBool == n) = true := hall _ hm
      exact eq_of_beq this
    refine ans_of hc hsc ha fun ι => ?_
    rw [insOf_conc hi ι, f o ok (by simp)]
    show Value.tuple #[Value.agg #[.int .i64 _, .int .i64 _, .int .i64 _, .int .i64 _, .int .i64 _, .int .i64 _, .int .i64 _, .int .i64 _, .bool _], _] = _
    rw [e a0 x.x0 (by simp), e a1 x.x1 (by simp), e a2 x.x2 (by simp), e a3 x.x3 (by simp), e a4 x.x4 (by simp), e a5 x.x5 (by simp), e a6 x.x6 (by simp), e a7 x.x7 (by simp), f bb x.b (by simp)]
    rfl
  · cases hl

set_option maxRecDepth 100000 in
theorem it1 : pxBoth sg (litT 16 [.int .i64 (.num 48904), .bool (.bit false)] ⟨42, 0, 0, 0, 0, 8, 1, 0, false⟩ true) kn = true := by kernel_rfl
set_option maxRecDepth 100000 in
theorem mv1 : pxBoth sg (litT 16 [.int .i64 (.num 8193), .bool (.bit true)] ⟨10, 0, 0, 0, 0, 1, 1, 0, false⟩ true) kn = true := by kernel_rfl
set_option maxRecDepth 100000 in
theorem ud1 : pxBoth sg (litT 16 [.int .i64 (.num 56832), .bool (.bit false)] ⟨0, 0, 0, 0, 0, 0, 0, 0, false⟩ false) kn = true := by kernel_rfl
set_option maxRecDepth 100000 in
theorem mv2 : pxBoth sg (litT 17 [.int .i64 (.num 61519), .int .i64 (.num 1), .bool (.bit false)] ⟨10, 0, 0, 0, 0, 1, 1, 0, false⟩ true) kn = true := by kernel_rfl
set_option maxRecDepth 100000 in
theorem dec_it : Ans 16 [.int .i64 48904, .bool false] (.tuple #[(⟨42, 0, 0, 0, 0, 8, 1, 0, false⟩ : Fields).val, .bool true]) := ok (by intro u hu; simp at hu; rcases hu with rfl | rfl <;> rfl) rfl it1
set_option maxRecDepth 100000 in
theorem dec_mv1 : Ans 16 [.int .i64 8193, .bool true] (.tuple #[(⟨10, 0, 0, 0, 0, 1, 1, 0, false⟩ : Fields).val, .bool true]) := ok (by intro u hu; simp at hu; rcases hu with rfl | rfl <;> rfl) rfl mv1
set_option maxRecDepth 100000 in
theorem dec_ud : Ans 16 [.int .i64 56832, .bool false] (.tuple #[(⟨0, 0, 0, 0, 0, 0, 0, 0, false⟩ : Fields).val, .bool false]) := ok (by intro u hu; simp at hu; rcases hu with rfl | rfl <;> rfl) rfl ud1
set_option maxRecDepth 100000 in
theorem dec_mv2 : Ans 17 [.int .i64 61519, .int .i64 1, .bool false] (.tuple #[(⟨10, 0, 0, 0, 0, 1, 1, 0, false⟩ : Fields).val, .bool true]) := ok (by intro u hu; simp at hu; rcases hu with rfl | rfl | rfl <;> rfl) rfl mv2
end lit

set_option maxRecDepth 100000 in
theorem pair_inj {x y : Fields} {a b : Bool} (h : Value.tuple #[x.val, .bool a] = Value.tuple #[y.val, .bool b]) : x = y ∧ a = b := by
  simp only [Value.tuple.injEq] at h
  have h := congrArg Array.toList h
  simp only [List.cons.injEq, Value.bool.injEq, and_true] at h
  exact ⟨val_inj h.1, h.2⟩
set_option maxRecDepth 100000 in
theorem shortOf_eq {a : Int} (ha : kHas .i64 a) {it : Bool} {x : Fields} {ok : Bool} (h : Ans 16 [.int .i64 a, .bool it] (.tuple #[x.val, .bool ok])) : shortOf a it = (x, ok) := by
  obtain ⟨h1, h2⟩ := pair_inj (Ans.one (by kernel_rfl) (shortOf_ok ha it).ans h)
  exact Prod.ext h1 h2
set_option maxRecDepth 100000 in
theorem tallOf_eq {a b : Int} (ha : kHas .i64 a) (hb : kHas .i64 b) {it : Bool} {x : Fields} {ok : Bool} (h : Ans 17 [.int .i64 a, .int .i64 b, .bool it] (.tuple #[x.val, .bool ok])) : tallOf a b it = (x, ok) := by
  obtain ⟨h1, h2⟩ := pair_inj (Ans.one (by kernel_rfl) (tallOf_ok ha hb it).ans h)
  exact Prod.ext h1 h2

set_option maxRecDepth 100000 in
theorem has_lit (n : Nat) (h : n < 65536) : kHas .i64 (n : Int) := ⟨by show (-(2:Int)^63) ≤ n; omega, by show (n : Int) < 2 ^ 63; omega⟩

set_option maxRecDepth 100000 in
theorem lit_dec1 (r : List Int) : decOf (48904 :: r) false = (⟨42, 0, 0, 0, 0, 8, 1, 0, false⟩, 1, 0) := by
  have e := shortOf_eq (has_lit 48904 (by decide)) lit.dec_it
  have hb : longB 48904 = false := by kernel_rfl
  cases r with
  | nil => rw [decOf_one, hb, if_neg (by decide)]; erw [e]; rfl
  | cons b r => rw [decOf_two, hb, if_neg (by decide)]; erw [e]; rfl
set_option maxRecDepth 100000 in
theorem lit_dec2 (r : List Int) : decOf (8193 :: r) true = (⟨10, 0, 0, 0, 0, 1, 1, 0, false⟩, 1, 0) := by
  have e := shortOf_eq (has_lit 8193 (by decide)) lit.dec_mv1
  have hb : longB 8193 = false := by kernel_rfl
  cases r with
  | nil => rw [decOf_one, hb, if_neg (by decide)]; erw [e]; rfl
  | cons b r => rw [decOf_two, hb, if_neg (by decide)]; erw [e]; rfl
set_option maxRecDepth 100000 in
theorem lit_dec3 (it : Bool) : decOf [65535] it = (zeroF, 0, 2) := by
  have hb : longB 65535 = true := by kernel_rfl
  rw [decOf_one, hb]; rfl
set_option maxRecDepth 100000 in
theorem lit_dec4 : decOf [61519] false = (zeroF, 0, 2) := by
  have hb : longB 61519 = true := by kernel_rfl
  rw [decOf_one, hb]; rfl
set_option maxRecDepth 100000 in
theorem lit_dec5 : decOf [56832] false = (zeroF, 0, 10) := by
  have e := shortOf_eq (has_lit 56832 (by decide)) lit.dec_ud
  have hb : longB 56832 = false := by kernel_rfl
  rw [decOf_one, hb, if_neg (by decide)]; erw [e]; rfl
set_option maxRecDepth 100000 in
theorem lit_dec6 : decOf [61519, 1] false = (⟨10, 0, 0, 0, 0, 1, 1, 0, false⟩, 2, 0) := by
  have e := tallOf_eq (has_lit 61519 (by decide)) (has_lit 1 (by decide)) lit.dec_mv2
  have hb : longB 61519 = true := by kernel_rfl
  rw [decOf_two, hb, if_pos rfl]; erw [e]; rfl
set_option maxRecDepth 100000 in
theorem lit_aft1 : aftI 0 ⟨42, 0, 0, 0, 0, 8, 1, 0, false⟩ = 8 := by kernel_rfl
set_option maxRecDepth 100000 in
theorem lit_stream : strmA [48904, 8193, 65535] 0 0 = [(0, ⟨42, 0, 0, 0, 0, 8, 1, 0, false⟩), (1, ⟨10, 0, 0, 0, 0, 1, 1, 0, false⟩)] := by
  have b0 : itB 0 = false := by kernel_rfl
  have b8 : itB 8 = true := by kernel_rfl
  have d1 : decOf ([48904, 8193, 65535].drop 0) (itB 0) = (⟨42, 0, 0, 0, 0, 8, 1, 0, false⟩, 1, 0) := by rw [b0]; exact lit_dec1 _
  have d2 : decOf ([48904, 8193, 65535].drop 1) (itB 8) = (⟨10, 0, 0, 0, 0, 1, 1, 0, false⟩, 1, 0) := by rw [b8]; exact lit_dec2 _
  have d3 : ∀ it, decOf ([48904, 8193, 65535].drop 2) it = (zeroF, 0, 2) := lit_dec3
  rw [strmA_go (n := 1) (by decide) (by rw [d1]) (by rw [d1]; rfl), d1]
  simp only [lit_aft1]
  rw [strmA_go (n := 1) (by decide) (by rw [d2]) (by rw [d2]; rfl), d2, strmA_stop]
  rintro ⟨_, h⟩
  rw [show (0 : Nat) + 1 + 1 = 2 from rfl, d3] at h
  exact absurd h (by decide)
end Go.Proofs.YtmaaibffgoanpaaGreatDoor
/- For the seat: two rows of numbers compared; two instructions compared. -/
namespace Go.Proofs.YtmaaibffgoanpaaGreatDoor
open Go.Sx Go.ChangeShapes Go.WideShapes Go.RowKit Go.Joins Go.Deep

instance : DecidableEq Fields := fun x y =>
  decidable_of_iff (x.x0 = y.x0 ∧ x.x1 = y.x1 ∧ x.x2 = y.x2 ∧ x.x3 = y.x3 ∧ x.x4 = y.x4 ∧ x.x5 = y.x5 ∧ x.x6 = y.x6 ∧ x.x7 = y.x7 ∧ x.b = y.b) (by cases x; cases y; simp)
set_option maxRecDepth 100000 in
theorem take_snoc {α : Type} {l m : List α} {i : Nat} (h : l.take i = m.take i) (hl : i < l.length) (hm : i < m.length) (e : l[i] = m[i]) : l.take (i + 1) = m.take (i + 1) := by
  rw [List.take_succ_eq_append_getElem hl, List.take_succ_eq_append_getElem hm, h, e]

set_option maxRecDepth 100000 in
theorem below_drewN {b n : Nat} {w w' : World} (h : Below b w w') : Below b w (w'.drewN n) := ⟨h.os, h.tape, h.output, h.size, h.block⟩

set_option maxRecDepth 100000 in
set_option maxHeartbeats 2000000 in
theorem ints_r (l m : List Int) (A B : Option Addr) (ca cb : Nat) (w : World) (hA : IAt w w.heap.size A l) (hB : IAt w w.heap.size B m) (hl : l.length ≤ 5000000000) (_hca : l.length ≤ ca) (hcb : m.length ≤ cb) (hm : m.length ≤ 5000000000) :
    Calls Tryz.prog 14 #[.slice A l.length ca, .slice B m.length cb] w fun e w' => e = .returned (.bool (decide (l = m))) ∧ Below w.heap.size w w' := by
  go_enter Tryz.func14, Tryz.ntmps14
  by_cases hne : l.length = m.length
  · have h0 : (((l.length : Int) != (m.length : Int))) = false := by rw [hne]; simp
    rw [← hne]
    go_wp2
    go_loopw [5] (fun k wr => ∃ i : Nat, i ≤ l.length ∧ k = .int .i64 i ∧ l.take i = m.take i ∧ Below w.heap.size w wr) (fun k _ => l.length - (intOf k).toNat)
    case atStart => exact ⟨0, by omega, rfl, rfl, Below.refl _ _⟩
    case round =>
      obtain ⟨i, hi, rfl, hp, hbr⟩ := hrel
      by_cases hlt : i < l.length
      · obtain ⟨g, off, rfl, hg, hc⟩ := (hA.below hbr (Nat.le_refl _)).at_ hlt
        obtain ⟨g', off', rfl, hg', hc'⟩ := (hB.below hbr (Nat.le_refl _)).at_ (k := i) (by omega)
        have hk0 : (0 : Int) ≤ (i : Int) := by omega
        have hkl : (i : Int) < (l.length : Int) := by omega
        have hw1 : wr.drew.cell? ⟨g, off + i, none⟩ = some (.int .i64 l[i]) := hc
        have hw2 : wr.drew.cell? ⟨g', off' + i, none⟩ = some (.int .i64 (m[i]'(by omega))) := hc'
        by_cases he : l[i] = m[i]'(by omega)
        · rw [← he] at hc' hw2
          go_wp2
          go_quiet (fail)
          go_wp2
          go_roundw
          case rel => exact ⟨i + 1, by omega, by go_num, take_snoc hp hlt (by omega) he, below_drewN hbr⟩
          case measure => simp [intOf]; omega
        · go_wp2
          go_quiet (fail)
          go_wp2
          refine bodyPost_ret (results_tmp rfl _ _ _) rfl ?_
          have hd : decide (l = m) = false := decide_eq_false (by rintro rfl; exact he rfl)
          rw [hd]
          exact ⟨rfl, below_drewN hbr⟩
      · have e : i = l.length := by omega
        subst e
        go_wp2
        refine bodyPost_ret (results_tmp rfl _ _ _) rfl ?_
        rw [List.take_length] at hp
        have hd : decide (l = m) = true := decide_eq_true (by rw [hp, hne, List.take_length])
        rw [hd]
        exact ⟨rfl, hbr⟩
  · have h0 : ((l.length : Int) != (m.length : Int)) = true := by
      simp only [bne_iff_ne, ne_eq]
      omega
    go_wp2
    refine bodyPost_ret (results_tmp rfl _ _ _) rfl ?_
    have hd : decide (l = m) = false := decide_eq_false (by rintro rfl; exact hne rfl)
    rw [hd]
    exact ⟨rfl, Below.refl _ _⟩

/-- A slice's address, below block B, where such instructions lie. -/
def FAt (w : World) (B : Nat) (A : Option Addr) (l : List Fields) : Prop :=
  l ≠ [] → ∃ g off, A = some ⟨g, off, none⟩ ∧ g < B ∧ ∀ (i : Nat) (x : Fields), l[i]? = some x → ∀ (j : Nat) (v : Value), x.cells[j]? = some v → w.cell? ⟨g, off + i * 9 + j, none⟩ = some v
set_option maxRecDepth 100000 in
theorem FAt.keep {w w' : World} {B : Nat} {A : Option Addr} {l : List Fields} (h : FAt w B A l) (hk : ∀ p : Addr, p.block < B → ∀ v, w.cell? p = some v → w'.cell? p = some v) : FAt w' B A l := by
  intro hn
  obtain ⟨g, off, e, hb, hc⟩ := h hn
  exact ⟨g, off, e, hb, fun i x hx j v hv => hk _ hb _ (hc i x hx j v hv)⟩
set_option maxRecDepth 100000 in
theorem FAt.below {w w' : World} {B B' : Nat} {A : Option Addr} {l : List Fields} (h : FAt w B A l) (hb : Below B' w w') (hB : B ≤ B') : FAt w' B A l := h.keep fun _ hp _ e => (hb.cell (by omega)).trans e
set_option maxRecDepth 100000 in
theorem FAt.more {w : World} {B B' : Nat} {A : Option Addr} {l : List Fields} (h : FAt w B A l) (hB : B ≤ B') : FAt w B' A l := by
  intro hn
  obtain ⟨g, off, e, hb, hc⟩ := h hn
  exact ⟨g, off, e, by omega, hc⟩
set_option maxRecDepth 100000 in
theorem FAt.at_ {w : World} {B : Nat} {A : Option Addr} {l : List Fields} (h : FAt w B A l) {k : Nat} (hk : k < l.length) :
    ∃ g off, A = some ⟨g, off, none⟩ ∧ g < B ∧ ∀ (j : Nat) (v : Value), l[k].cells[j]? = some v → w.cell? ⟨g, off + k * 9 + j, none⟩ = some v := by
  obtain ⟨g, off, e, hb, hc⟩ := h (by intro e; subst e; simp at hk)
  exact ⟨g, off, e, hb, fun j v hv => hc k l[k] (List.getElem?_eq_getElem hk) j v hv⟩

namespace eqi
def X : SVal := .agg (.ofList [.int .i64 (.var 0), .int .i64 (.var 1), .int .i64 (.var 2), .int .i64 (.var 3), .int .i64 (.var 4), .int .i64 (.var 5), .int .i64 (.var 6), .int .i64 (.var 7), .bool (.var 8)])
def Y : SVal := .agg (.ofList [.int .i64 (.var 9), .int .i64 (.var 10), .int .i64 (.var 11), .int .i64 (.var 12), .int .i64 (.var 13), .int .i64 (.var 14), .int .i64 (.var 15), .int .i64 (.var 16), .bool (.var 17)])
def q (i : Nat) : Tm := .op2 .eq (.var i) (.var (i + 9))
def c : Tm := .op2 .band (q 0) (.op2 .band (q 1) (.op2 .band (q 2) (.op2 .band (q 3) (.op2 .band (q 4) (.op2 .band (q 5) (.op2 .band (q 6) (.op2 .band (q 7) (.op2 .beq (.var 8) (.var 17)))))))))
set_option maxRecDepth 100000 in
theorem run : eqT cx 20 23 X Y = some c := by kernel_rfl
end eqi

def eqB (x y : Fields) : Bool := decide (x = y)
set_option maxRecDepth 100000 in
theorem eqB_yes {x y : Fields} (h : x = y) : eqB x y = true := by unfold eqB; exact decide_eq_true h
set_option maxRecDepth 100000 in
theorem eqB_no {x y : Fields} (h : ¬ x = y) : eqB x y = false := by unfold eqB; exact decide_eq_false h
set_option maxRecDepth 100000 in
/-- Two instructions compared. -/
theorem ins_equal (w : World) (x0 x1 x2 x3 x4 x5 x6 x7 : Int) (xb : Bool) (y0 y1 y2 y3 y4 y5 y6 y7 : Int) (yb : Bool) :
    (Op.equalIn 10000 23 (.agg #[.int .i64 x0, .int .i64 x1, .int .i64 x2, .int .i64 x3, .int .i64 x4, .int .i64 x5, .int .i64 x6, .int .i64 x7, .bool xb]) (.agg #[.int .i64 y0, .int .i64 y1, .int .i64 y2, .int .i64 y3, .int .i64 y4, .int .i64 y5, .int .i64 y6, .int .i64 y7, .bool yb])).run Tryz.prog w =
      .ok (eqB ⟨x0, x1, x2, x3, x4, x5, x6, x7, xb⟩ ⟨y0, y1, y2, y3, y4, y5, y6, y7, yb⟩) w := by
  have h := run_eqT (ρ := envOf F2 [.int x0, .int x1, .int x2, .int x3, .int x4, .int x5, .int x6, .int x7, .bool xb, .int y0, .int y1, .int y2, .int y3, .int y4, .int y5, .int y6, .int y7, .bool yb]) (ι := ι0) w cxok 20 10000 (by decide) eqi.run
  refine Eq.trans h ?_
  congr 1
  show ((x0 == y0) && ((x1 == y1) && ((x2 == y2) && ((x3 == y3) && ((x4 == y4) && ((x5 == y5) && ((x6 == y6) && ((x7 == y7) && (xb == yb))))))))) = _
  unfold eqB
  rw [Bool.eq_iff_iff]
  simp only [Bool.and_eq_true, beq_iff_eq, decide_eq_true_eq, Fields.mk.injEq]
set_option maxRecDepth 100000 in
theorem ins_guard (op : BinOp) (x y : Operand) (xs ys : Array Value) (w : World) : (eqGuard op 23 x y (.agg xs) (.agg ys)).run Tryz.prog w = .ok () w := run_eqGuard_agg w op _ x y _ _ (by kernel_rfl)

set_option maxRecDepth 100000 in
theorem iat_new (w : World) (t : TypeId) (l : List Int) : IAt (w.alloc (.cells (encI l).toArray t)) (w.alloc (.cells (encI l).toArray t)).heap.size (some ⟨w.heap.size, 0, none⟩) l := by
  intro _
  refine ⟨_, _, rfl, by simp, fun i a hi => ?_⟩
  have h : (w.alloc (.cells (encI l).toArray t)).heap[w.heap.size]? = some (.cells (encI l).toArray t (0, 0)) := heap_alloc_new w _
  simp only [World.cell?, h, Nat.zero_add]
  simp [encI, hi]
/-- An instruction of a row, at its place. -/
def InsIn (W : World) (g o : Nat) (x : Fields) : Prop := W.cell? ⟨g, o, none⟩ = some (.int .i64 x.x0) ∧ W.cell? ⟨g, o + 1, none⟩ = some (.int .i64 x.x1) ∧ W.cell? ⟨g, o + 2, none⟩ = some (.int .i64 x.x2) ∧ W.cell? ⟨g, o + 3, none⟩ = some (.int .i64 x.x3) ∧ W.cell? ⟨g, o + 4, none⟩ = some (.int .i64 x.x4) ∧ W.cell? ⟨g, o + 5, none⟩ = some (.int .i64 x.x5) ∧ W.cell? ⟨g, o + 6, none⟩ = some (.int .i64 x.x6) ∧ W.cell? ⟨g, o + 7, none⟩ = some (.int .i64 x.x7) ∧ W.cell? ⟨g, o + 8, none⟩ = some (.bool x.b)
set_option maxRecDepth 100000 in
theorem insIn_of {W : World} {g o : Nat} {x : Fields} (h : ∀ (j : Nat) (v : Value), x.cells[j]? = some v → W.cell? ⟨g, o + j, none⟩ = some v) : InsIn W g o x :=
  ⟨h 0 _ rfl, h 1 _ rfl, h 2 _ rfl, h 3 _ rfl, h 4 _ rfl, h 5 _ rfl, h 6 _ rfl, h 7 _ rfl, h 8 _ rfl⟩
set_option maxRecDepth 100000 in
theorem InsIn.below {W W' : World} {B g o : Nat} {x : Fields} (h : InsIn W g o x) (hb : Below B W W') (hg : g < B) : InsIn W' g o x := by
  unfold InsIn at h ⊢
  have e := fun o => hb.cell (p := ⟨g, o, none⟩) hg
  simp only [e]
  exact h
end Go.Proofs.YtmaaibffgoanpaaGreatDoor
/- For the seat: two rows of instructions compared. -/
namespace Go.Proofs.YtmaaibffgoanpaaGreatDoor
open Go.Sx Go.ChangeShapes Go.WideShapes Go.RowKit Go.Joins Go.Deep

attribute [local go_sem ↓] ins_equal ins_guard
set_option maxRecDepth 100000 in
set_option maxHeartbeats 4000000 in
theorem same_r (l m : List Fields) (A B : Option Addr) (ca cb : Nat) (w : World) (hA : FAt w w.heap.size A l) (hB : FAt w w.heap.size B m) (hl : l.length ≤ 5000000000) (_hca : l.length ≤ ca) (hcb : m.length ≤ cb) (hm : m.length ≤ 5000000000) :
    Calls Tryz.prog 11 #[.slice A l.length ca, .slice B m.length cb] w fun e w' => e = .returned (.bool (decide (l = m))) ∧ Below w.heap.size w w' := by
  go_enter Tryz.func11, Tryz.ntmps11
  by_cases hne : l.length = m.length
  · have h0 : (((l.length : Int) != (m.length : Int))) = false := by rw [hne]; simp
    rw [← hne]
    go_wp2
    go_loopw [5] (fun k wr => ∃ i : Nat, i ≤ l.length ∧ k = .int .i64 i ∧ l.take i = m.take i ∧ Below w.heap.size w wr) (fun k _ => l.length - (intOf k).toNat)
    case atStart => exact ⟨0, by omega, rfl, rfl, Below.refl _ _⟩
    case round =>
      obtain ⟨i, hi, rfl, hp, hbr⟩ := hrel
      by_cases hlt : i < l.length
      · obtain ⟨g, off, rfl, hg, hc⟩ := (hA.below hbr (Nat.le_refl _)).at_ hlt
        obtain ⟨g', off', rfl, hg', hc'⟩ := (hB.below hbr (Nat.le_refl _)).at_ (k := i) (by omega)
        have hk0 : (0 : Int) ≤ (i : Int) := by omega
        have hkl : (i : Int) < (l.length : Int) := by omega
        have hx : l[i] = l[i] := rfl
        have hxy : (l[i] = m[i]'(by omega)) ↔ (l[i] = m[i]'(by omega)) := Iff.rfl
        have ht := fun e : l[i] = m[i]'(by omega) => take_snoc hp hlt (by omega) e
        have hf : ¬ (l[i] = m[i]'(by omega)) → decide (l = m) = false := fun he => decide_eq_false (by rintro rfl; exact he rfl)
        generalize l[i] = x at hc ht hf
        generalize m[i]'(by omega) = y at hc' ht hf
        obtain ⟨x0, x1, x2, x3, x4, x5, x6, x7, xb⟩ := x
        obtain ⟨y0, y1, y2, y3, y4, y5, y6, y7, yb⟩ := y
        have a0 : wr.cell? ⟨g, off + i * 9, none⟩ = some (.int .i64 x0) := hc 0 _ rfl
        have a1 : wr.cell? ⟨g, off + i * 9 + 1, none⟩ = some (.int .i64 x1) := hc 1 _ rfl
        have a2 : wr.cell? ⟨g, off + i * 9 + 2, none⟩ = some (.int .i64 x2) := hc 2 _ rfl
        have a3 : wr.cell? ⟨g, off + i * 9 + 3, none⟩ = some (.int .i64 x3) := hc 3 _ rfl
        have a4 : wr.cell? ⟨g, off + i * 9 + 4, none⟩ = some (.int .i64 x4) := hc 4 _ rfl
        have a5 : wr.cell? ⟨g, off + i * 9 + 5, none⟩ = some (.int .i64 x5) := hc 5 _ rfl
        have a6 : wr.cell? ⟨g, off + i * 9 + 6, none⟩ = some (.int .i64 x6) := hc 6 _ rfl
        have a7 : wr.cell? ⟨g, off + i * 9 + 7, none⟩ = some (.int .i64 x7) := hc 7 _ rfl
        have a8 : wr.cell? ⟨g, off + i * 9 + 8, none⟩ = some (.bool xb) := hc 8 _ rfl
        have b0 : wr.cell? ⟨g', off' + i * 9, none⟩ = some (.int .i64 y0) := hc' 0 _ rfl
        have b1 : wr.cell? ⟨g', off' + i * 9 + 1, none⟩ = some (.int .i64 y1) := hc' 1 _ rfl
        have b2 : wr.cell? ⟨g', off' + i * 9 + 2, none⟩ = some (.int .i64 y2) := hc' 2 _ rfl
        have b3 : wr.cell? ⟨g', off' + i * 9 + 3, none⟩ = some (.int .i64 y3) := hc' 3 _ rfl
        have b4 : wr.cell? ⟨g', off' + i * 9 + 4, none⟩ = some (.int .i64 y4) := hc' 4 _ rfl
        have b5 : wr.cell? ⟨g', off' + i * 9 + 5, none⟩ = some (.int .i64 y5) := hc' 5 _ rfl
        have b6 : wr.cell? ⟨g', off' + i * 9 + 6, none⟩ = some (.int .i64 y6) := hc' 6 _ rfl
        have b7 : wr.cell? ⟨g', off' + i * 9 + 7, none⟩ = some (.int .i64 y7) := hc' 7 _ rfl
        have b8 : wr.cell? ⟨g', off' + i * 9 + 8, none⟩ = some (.bool yb) := hc' 8 _ rfl
        clear hc hc' hx hxy
        by_cases he : (⟨x0, x1, x2, x3, x4, x5, x6, x7, xb⟩ : Fields) = ⟨y0, y1, y2, y3, y4, y5, y6, y7, yb⟩
        · have ht := ht he
          have hq := eqB_yes he
          clear hf he
          go_wp2
          go_quiet (fail)
          go_wp2
          go_roundw
          case rel => exact ⟨i + 1, by omega, by go_num, ht, below_drewN hbr⟩
          case measure => simp [intOf]; omega
        · have hf := hf he
          have hq := eqB_no he
          clear ht he
          go_wp2
          go_quiet (fail)
          go_wp2
          refine bodyPost_ret (results_tmp rfl _ _ _) rfl ?_
          rw [hf]
          exact ⟨rfl, below_drewN hbr⟩
      · have e : i = l.length := by omega
        subst e
        go_wp2
        refine bodyPost_ret (results_tmp rfl _ _ _) rfl ?_
        rw [List.take_length] at hp
        have hd : decide (l = m) = true := decide_eq_true (by rw [hp, hne, List.take_length])
        rw [hd]
        exact ⟨rfl, hbr⟩
  · have h0 : ((l.length : Int) != (m.length : Int)) = true := by
      simp only [bne_iff_ne, ne_eq]
      omega
    go_wp2
    refine bodyPost_ret (results_tmp rfl _ _ _) rfl ?_
    have hd : decide (l = m) = false := decide_eq_false (by rintro rfl; exact hne rfl)
    rw [hd]
    exact ⟨rfl, Below.refl _ _⟩
end Go.Proofs.YtmaaibffgoanpaaGreatDoor
