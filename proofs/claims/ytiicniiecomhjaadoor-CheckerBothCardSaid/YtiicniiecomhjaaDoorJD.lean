/- For the seat: texts joined: Tla, DecDef, Dec, StmDef, SamI. -/
import Derived.Test.YtiicniiecomhjaaDoorJC0
import Derived.Deep.RegionHeld3
import Derived.Test.YtiicniiecomhjaaDoorJS5
import Derived.RangeFuncBox
import Derived.RangeFuncNested
import Derived.TacticsInMore
import Derived.LoopNIn
import Derived.Test.YtiicniiecomhjaaDoorJT0
import Derived.Test.YtiicniiecomhjaaDoorJT1
import Derived.Test.YtiicniiecomhjaaDoorJT2
import Derived.Test.YtiicniiecomhjaaDoorJT3
import Derived.Test.YtiicniiecomhjaaDoorJT4
import Derived.Test.YtiicniiecomhjaaDoorJT5
import Derived.Test.YtiicniiecomhjaaDoorJT6
import Derived.Test.YtiicniiecomhjaaDoorJT7
import Derived.Test.YtiicniiecomhjaaDoorJT8
import Derived.Test.YtiicniiecomhjaaDoorJT9
import Derived.Test.YtiicniiecomhjaaDoorJT10
import Derived.Test.YtiicniiecomhjaaDoorJT11
/- Tla: all cases of the input. -/
namespace Go.Proofs.YtiicniiecomhjaaDoor.tla
open Go.Sx
set_option maxRecDepth 100000
theorem all : ∀ j : Nat, j < 419 → tal.at' j = true := by
  intro j hj
  by_cases h : j < 14
  · exact List.all_eq_true.1 w0x0 j (List.mem_range'_1.2 ⟨by omega, by omega⟩)
  by_cases h : j < 15
  · exact List.all_eq_true.1 w0x14 j (List.mem_range'_1.2 ⟨by omega, by omega⟩)
  by_cases h : j < 16
  · exact List.all_eq_true.1 w0x15 j (List.mem_range'_1.2 ⟨by omega, by omega⟩)
  by_cases h : j < 44
  · exact List.all_eq_true.1 w0x16 j (List.mem_range'_1.2 ⟨by omega, by omega⟩)
  by_cases h : j < 45
  · exact List.all_eq_true.1 w0x44 j (List.mem_range'_1.2 ⟨by omega, by omega⟩)
  by_cases h : j < 53
  · exact List.all_eq_true.1 w0x45 j (List.mem_range'_1.2 ⟨by omega, by omega⟩)
  by_cases h : j < 54
  · exact List.all_eq_true.1 w0x53 j (List.mem_range'_1.2 ⟨by omega, by omega⟩)
  by_cases h : j < 62
  · exact List.all_eq_true.1 w0x54 j (List.mem_range'_1.2 ⟨by omega, by omega⟩)
  by_cases h : j < 63
  · exact List.all_eq_true.1 w0x62 j (List.mem_range'_1.2 ⟨by omega, by omega⟩)
  by_cases h : j < 71
  · exact List.all_eq_true.1 w0x63 j (List.mem_range'_1.2 ⟨by omega, by omega⟩)
  by_cases h : j < 72
  · exact List.all_eq_true.1 w0x71 j (List.mem_range'_1.2 ⟨by omega, by omega⟩)
  by_cases h : j < 78
  · exact List.all_eq_true.1 w0x72 j (List.mem_range'_1.2 ⟨by omega, by omega⟩)
  by_cases h : j < 80
  · exact List.all_eq_true.1 w0x78 j (List.mem_range'_1.2 ⟨by omega, by omega⟩)
  by_cases h : j < 81
  · exact List.all_eq_true.1 w0x80 j (List.mem_range'_1.2 ⟨by omega, by omega⟩)
  by_cases h : j < 89
  · exact List.all_eq_true.1 w0x81 j (List.mem_range'_1.2 ⟨by omega, by omega⟩)
  by_cases h : j < 90
  · exact List.all_eq_true.1 w0x89 j (List.mem_range'_1.2 ⟨by omega, by omega⟩)
  by_cases h : j < 107
  · exact List.all_eq_true.1 w0x90 j (List.mem_range'_1.2 ⟨by omega, by omega⟩)
  by_cases h : j < 116
  · exact List.all_eq_true.1 w0x107 j (List.mem_range'_1.2 ⟨by omega, by omega⟩)
  by_cases h : j < 117
  · exact List.all_eq_true.1 w0x116 j (List.mem_range'_1.2 ⟨by omega, by omega⟩)
  by_cases h : j < 125
  · exact List.all_eq_true.1 w0x117 j (List.mem_range'_1.2 ⟨by omega, by omega⟩)
  by_cases h : j < 126
  · exact List.all_eq_true.1 w0x125 j (List.mem_range'_1.2 ⟨by omega, by omega⟩)
  by_cases h : j < 143
  · exact List.all_eq_true.1 w0x126 j (List.mem_range'_1.2 ⟨by omega, by omega⟩)
  by_cases h : j < 160
  · exact List.all_eq_true.1 w0x143 j (List.mem_range'_1.2 ⟨by omega, by omega⟩)
  by_cases h : j < 175
  · exact List.all_eq_true.1 w0x160 j (List.mem_range'_1.2 ⟨by omega, by omega⟩)
  by_cases h : j < 188
  · exact List.all_eq_true.1 w0x175 j (List.mem_range'_1.2 ⟨by omega, by omega⟩)
  by_cases h : j < 189
  · exact List.all_eq_true.1 w0x188 j (List.mem_range'_1.2 ⟨by omega, by omega⟩)
  by_cases h : j < 197
  · exact List.all_eq_true.1 w0x189 j (List.mem_range'_1.2 ⟨by omega, by omega⟩)
  by_cases h : j < 198
  · exact List.all_eq_true.1 w0x197 j (List.mem_range'_1.2 ⟨by omega, by omega⟩)
  by_cases h : j < 215
  · exact List.all_eq_true.1 w0x198 j (List.mem_range'_1.2 ⟨by omega, by omega⟩)
  by_cases h : j < 224
  · exact List.all_eq_true.1 w0x215 j (List.mem_range'_1.2 ⟨by omega, by omega⟩)
  by_cases h : j < 225
  · exact List.all_eq_true.1 w0x224 j (List.mem_range'_1.2 ⟨by omega, by omega⟩)
  by_cases h : j < 233
  · exact List.all_eq_true.1 w0x225 j (List.mem_range'_1.2 ⟨by omega, by omega⟩)
  by_cases h : j < 234
  · exact List.all_eq_true.1 w0x233 j (List.mem_range'_1.2 ⟨by omega, by omega⟩)
  by_cases h : j < 242
  · exact List.all_eq_true.1 w0x234 j (List.mem_range'_1.2 ⟨by omega, by omega⟩)
  by_cases h : j < 243
  · exact List.all_eq_true.1 w0x242 j (List.mem_range'_1.2 ⟨by omega, by omega⟩)
  by_cases h : j < 251
  · exact List.all_eq_true.1 w0x243 j (List.mem_range'_1.2 ⟨by omega, by omega⟩)
  by_cases h : j < 252
  · exact List.all_eq_true.1 w0x251 j (List.mem_range'_1.2 ⟨by omega, by omega⟩)
  by_cases h : j < 269
  · exact List.all_eq_true.1 w0x252 j (List.mem_range'_1.2 ⟨by omega, by omega⟩)
  by_cases h : j < 278
  · exact List.all_eq_true.1 w0x269 j (List.mem_range'_1.2 ⟨by omega, by omega⟩)
  by_cases h : j < 279
  · exact List.all_eq_true.1 w0x278 j (List.mem_range'_1.2 ⟨by omega, by omega⟩)
  by_cases h : j < 287
  · exact List.all_eq_true.1 w0x279 j (List.mem_range'_1.2 ⟨by omega, by omega⟩)
  by_cases h : j < 288
  · exact List.all_eq_true.1 w0x287 j (List.mem_range'_1.2 ⟨by omega, by omega⟩)
  by_cases h : j < 296
  · exact List.all_eq_true.1 w0x288 j (List.mem_range'_1.2 ⟨by omega, by omega⟩)
  by_cases h : j < 297
  · exact List.all_eq_true.1 w0x296 j (List.mem_range'_1.2 ⟨by omega, by omega⟩)
  by_cases h : j < 305
  · exact List.all_eq_true.1 w0x297 j (List.mem_range'_1.2 ⟨by omega, by omega⟩)
  by_cases h : j < 306
  · exact List.all_eq_true.1 w0x305 j (List.mem_range'_1.2 ⟨by omega, by omega⟩)
  by_cases h : j < 323
  · exact List.all_eq_true.1 w0x306 j (List.mem_range'_1.2 ⟨by omega, by omega⟩)
  by_cases h : j < 331
  · exact List.all_eq_true.1 w0x323 j (List.mem_range'_1.2 ⟨by omega, by omega⟩)
  by_cases h : j < 335
  · exact List.all_eq_true.1 w0x331 j (List.mem_range'_1.2 ⟨by omega, by omega⟩)
  by_cases h : j < 341
  · exact List.all_eq_true.1 w0x335 j (List.mem_range'_1.2 ⟨by omega, by omega⟩)
  by_cases h : j < 347
  · exact List.all_eq_true.1 w0x341 j (List.mem_range'_1.2 ⟨by omega, by omega⟩)
  by_cases h : j < 353
  · exact List.all_eq_true.1 w0x347 j (List.mem_range'_1.2 ⟨by omega, by omega⟩)
  by_cases h : j < 359
  · exact List.all_eq_true.1 w0x353 j (List.mem_range'_1.2 ⟨by omega, by omega⟩)
  by_cases h : j < 361
  · exact List.all_eq_true.1 w0x359 j (List.mem_range'_1.2 ⟨by omega, by omega⟩)
  by_cases h : j < 366
  · exact List.all_eq_true.1 w0x361 j (List.mem_range'_1.2 ⟨by omega, by omega⟩)
  by_cases h : j < 371
  · exact List.all_eq_true.1 w0x366 j (List.mem_range'_1.2 ⟨by omega, by omega⟩)
  by_cases h : j < 378
  · exact List.all_eq_true.1 w0x371 j (List.mem_range'_1.2 ⟨by omega, by omega⟩)
  by_cases h : j < 384
  · exact List.all_eq_true.1 w0x378 j (List.mem_range'_1.2 ⟨by omega, by omega⟩)
  by_cases h : j < 390
  · exact List.all_eq_true.1 w0x384 j (List.mem_range'_1.2 ⟨by omega, by omega⟩)
  by_cases h : j < 394
  · exact List.all_eq_true.1 w0x390 j (List.mem_range'_1.2 ⟨by omega, by omega⟩)
  by_cases h : j < 398
  · exact List.all_eq_true.1 w0x394 j (List.mem_range'_1.2 ⟨by omega, by omega⟩)
  by_cases h : j < 401
  · exact List.all_eq_true.1 w0x398 j (List.mem_range'_1.2 ⟨by omega, by omega⟩)
  by_cases h : j < 408
  · exact List.all_eq_true.1 w0x401 j (List.mem_range'_1.2 ⟨by omega, by omega⟩)
  by_cases h : j < 414
  · exact List.all_eq_true.1 w0x408 j (List.mem_range'_1.2 ⟨by omega, by omega⟩)
  by_cases h : j < 419
  · exact List.all_eq_true.1 w0x414 j (List.mem_range'_1.2 ⟨by omega, by omega⟩)
  omega
end Go.Proofs.YtiicniiecomhjaaDoor.tla
/- For the seat: decode.Decode: what it answers at any halfwords. -/
namespace Go.Proofs.YtiicniiecomhjaaDoor
open Go.Sx Go.ChangeShapes Go.WideShapes Go.RowKit Go.Joins Go.Deep

namespace lng
def and (n : Int) : Tm := .op2 (.and .i64) (.var 0) (.num n)
def longT : Tm := .op2 .band (.op2 .eq (and 57344) (.num 57344)) (.op1 .not (.op2 .eq (and 6144) (.num 0)))
def kn : Kn := ⟨[], [], [], [], [0]⟩
set_option maxRecDepth 100000 in
theorem run : pxIs sg (.bool longT) (callT cx noS (run cx noS 400) 21 [.int .i64 (.var 0)] [] (.bit true)) kn = true := by kernel_rfl
end lng

/-- Does a halfword begin an instruction of two? -/
def longB (a : Int) : Bool := (lng.longT.den (envOf F [.int a])).asBool

theorem long_ans {a : Int} (ha : kHas .i64 a) : Ans 21 [.int .i64 a] (.bool (longB a)) := by
  have S : Sats (envOf F [.int a]) lng.kn := by
    refine Sats.start (one_vars (s := .int a) ha) _ ?_
    intro i hi
    simp only [List.mem_cons, List.not_mem_nil, or_false] at hi
    subst hi
    exact ⟨_, rfl⟩
  obtain ⟨x', h1, h2⟩ := pxIs_ok (sg_ok' F_signs) _ _ S lng.run
  refine ans_of (call_ok (ρ := envOf F [.int a]) cxok (noS_ok _ _) (noS_body _) rfl h1) (by intro v hv; simp at hv; subst hv; rfl) rfl ?_
  intro ι
  rw [h2]
  rfl

abbrev zeroF : Fields := ⟨0, 0, 0, 0, 0, 0, 0, 0, false⟩
theorem zeroF_ok : zeroF.Ok := ⟨zero_has, zero_has, zero_has, zero_has, zero_has, zero_has, zero_has, zero_has⟩

/-- An instruction lies in a block. -/
def InsAt (W : World) (b : Nat) (x : Fields) : Prop := (W.cell? ⟨b, 0, none⟩ = some (.int .i64 x.x0) ∧ W.cell? ⟨b, 1, none⟩ = some (.int .i64 x.x1) ∧ W.cell? ⟨b, 2, none⟩ = some (.int .i64 x.x2) ∧ W.cell? ⟨b, 3, none⟩ = some (.int .i64 x.x3) ∧ W.cell? ⟨b, 4, none⟩ = some (.int .i64 x.x4) ∧ W.cell? ⟨b, 5, none⟩ = some (.int .i64 x.x5) ∧ W.cell? ⟨b, 6, none⟩ = some (.int .i64 x.x6) ∧ W.cell? ⟨b, 7, none⟩ = some (.int .i64 x.x7) ∧ W.cell? ⟨b, 8, none⟩ = some (.bool x.b)) ∧ (W.frozen? ⟨b, 0, none⟩ = false ∧ W.frozen? ⟨b, 1, none⟩ = false ∧ W.frozen? ⟨b, 2, none⟩ = false ∧ W.frozen? ⟨b, 3, none⟩ = false ∧ W.frozen? ⟨b, 4, none⟩ = false ∧ W.frozen? ⟨b, 5, none⟩ = false ∧ W.frozen? ⟨b, 6, none⟩ = false ∧ W.frozen? ⟨b, 7, none⟩ = false ∧ W.frozen? ⟨b, 8, none⟩ = false)
abbrev Fields.cells (x : Fields) : Array Value := #[.int .i64 x.x0, .int .i64 x.x1, .int .i64 x.x2, .int .i64 x.x3, .int .i64 x.x4, .int .i64 x.x5, .int .i64 x.x6, .int .i64 x.x7, .bool x.b]
theorem InsAt.new (W : World) (x : Fields) (t : TypeId) : InsAt (W.alloc (.cells x.cells t)) W.heap.size x := by
  have h : (W.alloc (.cells x.cells t)).heap[W.heap.size]? = some (.cells x.cells t (0, 0)) := heap_alloc_new W _
  have c : ∀ o, (W.alloc (.cells x.cells t)).cell? ⟨W.heap.size, o, none⟩ = x.cells[o]? := fun o => by simp only [World.cell?, h]; rfl
  have f : ∀ o, (W.alloc (.cells x.cells t)).frozen? ⟨W.heap.size, o, none⟩ = false := fun o => by simp only [World.frozen?, h]; simp
  exact ⟨⟨by rw [c]; rfl, by rw [c]; rfl, by rw [c]; rfl, by rw [c]; rfl, by rw [c]; rfl, by rw [c]; rfl, by rw [c]; rfl, by rw [c]; rfl, by rw [c]; rfl⟩, f 0, f 1, f 2, f 3, f 4, f 5, f 6, f 7, f 8⟩
theorem InsAt.drew {W : World} {b : Nat} {x : Fields} (h : InsAt W b x) : InsAt W.drew b x := h
theorem InsAt.below {W W' : World} {b B : Nat} {x : Fields} (h : InsAt W b x) (hb : Below B W W') (hB : b < B) : InsAt W' b x := by
  unfold InsAt at h ⊢
  have e := fun o => hb.cell (p := ⟨b, o, none⟩) hB
  have f := fun o => hb.frozen (p := ⟨b, o, none⟩) hB
  simp only [e, f]
  exact h

/-- Behind an instruction's store other cells are as they were. -/
theorem far9 {W : World} {b g : Nat} (h : b ≠ g) (o : Nat) (v0 v1 v2 v3 v4 v5 v6 v7 v8 : Value) : (((((((((W.setCell ⟨b, 0, none⟩ v0).setCell ⟨b, 1, none⟩ v1).setCell ⟨b, 2, none⟩ v2).setCell ⟨b, 3, none⟩ v3).setCell ⟨b, 4, none⟩ v4).setCell ⟨b, 5, none⟩ v5).setCell ⟨b, 6, none⟩ v6).setCell ⟨b, 7, none⟩ v7).setCell ⟨b, 8, none⟩ v8).cell? ⟨g, o, none⟩ = W.cell? ⟨g, o, none⟩ := by
  have e : ∀ (w : World) (k : Nat) (v : Value), (w.setCell ⟨b, k, none⟩ v).cell? ⟨g, o, none⟩ = w.cell? ⟨g, o, none⟩ := fun w k v => World.cell?_setCell_far w _ _ v h
  rw [e, e, e, e, e, e, e, e, e]

/-- The answer of Decode: the instruction, how many halfwords, the error's number. -/
def RetD (x : Fields) (n e : Int) (en : Ending) (w w' : World) : Prop := en = .returned (.tuple #[x.val, .int .i64 n, .int .i64 e]) ∧ Below w.heap.size w w'

theorem bcells {W w1 : World} {B : Nat} (hb : Below B W w1) : (∀ b o, b < B → w1.cell? ⟨b, o, none⟩ = W.cell? ⟨b, o, none⟩) ∧ (∀ b o, b < B → w1.frozen? ⟨b, o, none⟩ = W.frozen? ⟨b, o, none⟩) :=
  ⟨fun b o h => hb.cell (p := ⟨b, o, none⟩) h, fun b o h => hb.frozen (p := ⟨b, o, none⟩) h⟩

set_option maxRecDepth 100000 in
theorem dec_nil (A : Option Addr) (cap : Nat) (it : Bool) (w : World) : Calls Tryd.prog 15 #[.slice A 0 cap, .bool it] w fun e w' => RetD zeroF 0 2 e w w' := by
  go_enter Tryd.func15, Tryd.ntmps15
  go_wp2_with fail
  exact bodyPost_ret (v := .tuple #[.agg #[.int .i64 0, .int .i64 0, .int .i64 0, .int .i64 0, .int .i64 0, .int .i64 0, .int .i64 0, .int .i64 0, .bool false], .int .i64 0, .int .i64 2]) (by simp [results, Tryd.results15, go_sem]) rfl ⟨rfl, (Below.refl _ _).alloc (Nat.le_refl _) _⟩

set_option maxRecDepth 100000 in
set_option maxHeartbeats 1000000 in
theorem dec_short (a : Int) (r : List Int) (it : Bool) (A : Option Addr) (cap : Nat) (w : World) (h : IAt w w.heap.size A (a :: r)) (hlen : (a :: r).length ≤ maxLen) (hw : Laid w)
    (hL : Ans 21 [.int .i64 a] (.bool false)) (x0 x1 x2 x3 x4 x5 x6 x7 : Int) (xb ok : Bool)
    (hS : Ans 22 [.int .i64 a, .bool it] (.tuple #[.agg #[.int .i64 x0, .int .i64 x1, .int .i64 x2, .int .i64 x3, .int .i64 x4, .int .i64 x5, .int .i64 x6, .int .i64 x7, .bool xb], .bool ok])) :
    Calls Tryd.prog 15 #[.slice A (a :: r).length cap, .bool it] w fun e w' => RetD (if ok then ⟨x0, x1, x2, x3, x4, x5, x6, x7, xb⟩ else zeroF) (if ok then 1 else 0) (if ok then 0 else 10) e w w' := by
  obtain ⟨g, off, rfl, hg, hc⟩ := h.at_ (k := 0) (by simp)
  simp only [List.getElem_cons_zero, Nat.add_zero] at hc
  unfold maxLen at hlen
  have hn0 : 0 < (a :: r).length := by simp
  clear h
  generalize (a :: r).length = n at *
  have lay : ∀ w1 : World, Below w.heap.size w w1 → Laid w1 := fun w1 hb => laid_below hw hb
  have b0 : Below w.heap.size w (w.alloc (.cells zeroF.cells 29)) := (Below.refl _ _).alloc (Nat.le_refl _) _
  have i0 : InsAt (w.alloc (.cells zeroF.cells 29)) w.heap.size zeroF := InsAt.new _ _ _
  have IZ := Lib.hid i0
  clear i0
  go_enter Tryd.func15, Tryd.ntmps15
  go_wp2_with fail
  ((with_reducible refine (hL.go (lay _ b0)).mono ?_); rintro e w1 ⟨rfl, hb1⟩)
  have c1 := b0.trans (hb1.mono (by simp))
  have i1 : Hid (InsAt w1 w.heap.size zeroF) := Lib.hid (IZ.out.below hb1 (by simp))
  clear IZ
  have hc1 : w1.cell? ⟨g, off, none⟩ = some (.int .i64 a) := (c1.cell (p := ⟨g, off, none⟩) hg).trans hc
  go_wp2_with fail
  ((with_reducible refine (hS.go (lay _ c1)).mono ?_); rintro e w2 ⟨rfl, hb2⟩)
  have c2 := c1.trans (hb2.mono c1.size)
  have z1 : w.heap.size < w1.heap.size := by have := hb1.size; simp at this; omega
  have i2 : Hid (InsAt w2 w.heap.size zeroF) := Lib.hid (i1.out.below hb2 z1)
  clear i1
  have hc2 : w2.cell? ⟨g, off, none⟩ = some (.int .i64 a) := (c2.cell (p := ⟨g, off, none⟩) hg).trans hc
  have hg2 : g < w2.heap.size := Nat.lt_of_lt_of_le hg c2.size
  have z2 : w.heap.size < w2.heap.size := Nat.lt_of_lt_of_le z1 hb2.size
  go_wp2_with fail
  have b3 : Below w.heap.size w (w2.alloc (.cells (Fields.cells ⟨x0, x1, x2, x3, x4, x5, x6, x7, xb⟩) 29)) := c2.alloc c2.size _
  have bb : Below w2.heap.size w2 (w2.alloc (.cells (Fields.cells ⟨x0, x1, x2, x3, x4, x5, x6, x7, xb⟩) 29)) := (Below.refl _ _).alloc (Nat.le_refl _) _
  ((with_reducible refine (hL.go (lay _ b3)).mono ?_); rintro e w3 ⟨rfl, hb3⟩)
  have c3 := b3.trans (hb3.mono b3.size)
  have i3 : InsAt w3 w.heap.size zeroF := (i2.out.below bb z2).below hb3 (by simp; omega)
  have j3 : InsAt w3 w2.heap.size ⟨x0, x1, x2, x3, x4, x5, x6, x7, xb⟩ := (InsAt.new _ _ _).below hb3 (by simp)
  have hz3 : w2.heap.size < w3.heap.size := by have := hb3.size; simp at this; omega
  clear i2 bb b0 hc hc1 hc2 hL hS lay
  obtain ⟨⟨p0, p1, p2, p3, p4, p5, p6, p7, p8⟩, q0, q1, q2, q3, q4, q5, q6, q7, q8⟩ := i3
  obtain ⟨⟨r0, r1, r2, r3, r4, r5, r6, r7, r8⟩, _⟩ := j3
  simp only at p0 p1 p2 p3 p4 p5 p6 p7 p8
  simp only at r0 r1 r2 r3 r4 r5 r6 r7 r8
  have hne : ¬ w.heap.size = w2.heap.size := by omega
  cases ok
  · go_wp2_with fail
    exact bodyPost_ret (v := .tuple #[.agg #[.int .i64 0, .int .i64 0, .int .i64 0, .int .i64 0, .int .i64 0, .int .i64 0, .int .i64 0, .int .i64 0, .bool false], .int .i64 0, .int .i64 10]) (by simp [results, Tryd.results15, go_sem, p0, p1, p2, p3, p4, p5, p6, p7, p8]) rfl ⟨rfl, (((((((((c3).setCell (Nat.le_refl _) _).setCell (Nat.le_refl _) _).setCell (Nat.le_refl _) _).setCell (Nat.le_refl _) _).setCell (Nat.le_refl _) _).setCell (Nat.le_refl _) _).setCell (Nat.le_refl _) _).setCell (Nat.le_refl _) _).setCell (Nat.le_refl _) _⟩
  · go_wp2_with fail
    exact bodyPost_ret (v := .tuple #[.agg #[.int .i64 x0, .int .i64 x1, .int .i64 x2, .int .i64 x3, .int .i64 x4, .int .i64 x5, .int .i64 x6, .int .i64 x7, .bool xb], .int .i64 1, .int .i64 0]) (by simp [results, Tryd.results15, go_sem, p0, p1, p2, p3, p4, p5, p6, p7, p8]) rfl ⟨rfl, (((((((((c3).setCell (Nat.le_refl _) _).setCell (Nat.le_refl _) _).setCell (Nat.le_refl _) _).setCell (Nat.le_refl _) _).setCell (Nat.le_refl _) _).setCell (Nat.le_refl _) _).setCell (Nat.le_refl _) _).setCell (Nat.le_refl _) _).setCell (Nat.le_refl _) _⟩

set_option maxRecDepth 100000 in
set_option maxHeartbeats 1000000 in
theorem dec_end (a : Int) (it : Bool) (A : Option Addr) (cap : Nat) (w : World) (h : IAt w w.heap.size A [a]) (hw : Laid w) (hL : Ans 21 [.int .i64 a] (.bool true)) :
    Calls Tryd.prog 15 #[.slice A 1 cap, .bool it] w fun e w' => RetD zeroF 0 2 e w w' := by
  obtain ⟨g, off, rfl, hg, hc⟩ := h.at_ (k := 0) (by simp)
  simp only [List.getElem_cons_zero, Nat.add_zero] at hc
  clear h
  have b0 : Below w.heap.size w (w.alloc (.cells zeroF.cells 29)) := (Below.refl _ _).alloc (Nat.le_refl _) _
  have i0 : InsAt (w.alloc (.cells zeroF.cells 29)) w.heap.size zeroF := InsAt.new _ _ _
  have IZ := Lib.hid i0
  clear i0
  go_enter Tryd.func15, Tryd.ntmps15
  go_wp2_with fail
  ((with_reducible refine (hL.go (laid_below hw b0)).mono ?_); rintro e w1 ⟨rfl, hb1⟩)
  have c1 := b0.trans (hb1.mono (by simp))
  obtain ⟨⟨p0, p1, p2, p3, p4, p5, p6, p7, p8⟩, q0, q1, q2, q3, q4, q5, q6, q7, q8⟩ := IZ.out.below hb1 (by simp)
  simp only at p0 p1 p2 p3 p4 p5 p6 p7 p8
  clear IZ hL b0
  go_wp2_with fail
  exact bodyPost_ret (v := .tuple #[.agg #[.int .i64 0, .int .i64 0, .int .i64 0, .int .i64 0, .int .i64 0, .int .i64 0, .int .i64 0, .int .i64 0, .bool false], .int .i64 0, .int .i64 2]) (by simp [results, Tryd.results15, go_sem, p0, p1, p2, p3, p4, p5, p6, p7, p8]) rfl ⟨rfl, ((((((((c1.setCell (Nat.le_refl _) _).setCell (Nat.le_refl _) _).setCell (Nat.le_refl _) _).setCell (Nat.le_refl _) _).setCell (Nat.le_refl _) _).setCell (Nat.le_refl _) _).setCell (Nat.le_refl _) _).setCell (Nat.le_refl _) _).setCell (Nat.le_refl _) _⟩

set_option maxRecDepth 100000 in
set_option maxHeartbeats 2000000 in
theorem dec_long (a b : Int) (r : List Int) (it : Bool) (A : Option Addr) (cap : Nat) (w : World) (h : IAt w w.heap.size A (a :: b :: r)) (hlen : (a :: b :: r).length ≤ maxLen) (hw : Laid w)
    (hL : Ans 21 [.int .i64 a] (.bool true)) (x0 x1 x2 x3 x4 x5 x6 x7 : Int) (xb ok : Bool)
    (hS : Ans 22 [.int .i64 a, .bool it] (.tuple #[.agg #[.int .i64 x0, .int .i64 x1, .int .i64 x2, .int .i64 x3, .int .i64 x4, .int .i64 x5, .int .i64 x6, .int .i64 x7, .bool xb], .bool ok]))
    (y0 y1 y2 y3 y4 y5 y6 y7 : Int) (yb : Bool) (yk : Bool)
    (hT : Ans 23 [.int .i64 a, .int .i64 b, .bool it] (.tuple #[.agg #[.int .i64 y0, .int .i64 y1, .int .i64 y2, .int .i64 y3, .int .i64 y4, .int .i64 y5, .int .i64 y6, .int .i64 y7, .bool yb], .bool yk])) :
    Calls Tryd.prog 15 #[.slice A (a :: b :: r).length cap, .bool it] w fun e w' => RetD (if yk then ⟨y0, y1, y2, y3, y4, y5, y6, y7, yb⟩ else zeroF) (if yk then 2 else 0) (if yk then 0 else 10) e w w' := by
  obtain ⟨g, off, rfl, hg, hc⟩ := h.at_ (k := 0) (by simp)
  obtain ⟨g', off', hA, hg', hd⟩ := h.at_ (k := 1) (by simp)
  simp only [Option.some.injEq, Addr.mk.injEq, and_true] at hA
  obtain ⟨rfl, rfl⟩ := hA
  simp only [List.getElem_cons_zero, Nat.add_zero] at hc
  simp only [List.getElem_cons_succ, List.getElem_cons_zero] at hd
  unfold maxLen at hlen
  have hn0 : 2 ≤ (a :: b :: r).length := by simp
  clear h hg'
  generalize (a :: b :: r).length = n at *
  have lay : ∀ w1 : World, Below w.heap.size w w1 → Laid w1 := fun w1 hb => laid_below hw hb
  have b0 : Below w.heap.size w (w.alloc (.cells zeroF.cells 29)) := (Below.refl _ _).alloc (Nat.le_refl _) _
  have i0 : InsAt (w.alloc (.cells zeroF.cells 29)) w.heap.size zeroF := InsAt.new _ _ _
  have IZ := Lib.hid i0
  clear i0
  have hlt2 : decide ((n : Int) < 2) = false := decide_eq_false (by omega)
  have h1n : (1 : Int) < (n : Int) := by omega
  go_enter Tryd.func15, Tryd.ntmps15
  go_wp2_with fail
  ((with_reducible refine (hL.go (lay _ b0)).mono ?_); rintro e w1 ⟨rfl, hb1⟩)
  have c1 := b0.trans (hb1.mono (by simp))
  have i1 : Hid (InsAt w1 w.heap.size zeroF) := Lib.hid (IZ.out.below hb1 (by simp))
  clear IZ
  have hc1 : w1.cell? ⟨g, off, none⟩ = some (.int .i64 a) := (c1.cell (p := ⟨g, off, none⟩) hg).trans hc
  go_wp2_with fail
  ((with_reducible refine (hS.go (lay _ c1)).mono ?_); rintro e w2 ⟨rfl, hb2⟩)
  have c2 := c1.trans (hb2.mono c1.size)
  have z1 : w.heap.size < w1.heap.size := by have := hb1.size; simp at this; omega
  have i2 : Hid (InsAt w2 w.heap.size zeroF) := Lib.hid (i1.out.below hb2 z1)
  clear i1
  have hc2 : w2.cell? ⟨g, off, none⟩ = some (.int .i64 a) := (c2.cell (p := ⟨g, off, none⟩) hg).trans hc
  have hg2 : g < w2.heap.size := Nat.lt_of_lt_of_le hg c2.size
  have z2 : w.heap.size < w2.heap.size := Nat.lt_of_lt_of_le z1 hb2.size
  clear hc1
  go_wp2_with fail
  have b3 : Below w.heap.size w (w2.alloc (.cells (Fields.cells ⟨x0, x1, x2, x3, x4, x5, x6, x7, xb⟩) 29)) := c2.alloc c2.size _
  have bb : Below w2.heap.size w2 (w2.alloc (.cells (Fields.cells ⟨x0, x1, x2, x3, x4, x5, x6, x7, xb⟩) 29)) := (Below.refl _ _).alloc (Nat.le_refl _) _
  ((with_reducible refine (hL.go (lay _ b3)).mono ?_); rintro e w3 ⟨rfl, hb3⟩)
  have c3 := b3.trans (hb3.mono b3.size)
  have i3 : Hid (InsAt w3 w.heap.size zeroF) := Lib.hid ((i2.out.below bb z2).below hb3 (by simp; omega))
  have j3 : Hid (InsAt w3 w2.heap.size ⟨x0, x1, x2, x3, x4, x5, x6, x7, xb⟩) := Lib.hid ((InsAt.new _ _ _).below hb3 (by simp))
  have hz3 : w2.heap.size < w3.heap.size := by have := hb3.size; simp at this; omega
  have hc3 : w3.cell? ⟨g, off, none⟩ = some (.int .i64 a) := (c3.cell (p := ⟨g, off, none⟩) hg).trans hc
  have hd3 : w3.cell? ⟨g, off + 1, none⟩ = some (.int .i64 b) := (c3.cell (p := ⟨g, off + 1, none⟩) hg).trans hd
  clear i2 bb b0 hc2
  go_wp2_with fail
  have hT' := hT.go (lay _ c3.drew)
  have hg3 : g < w3.drew.heap.size := Nat.lt_of_lt_of_le hg c3.size
  have z23 : w2.heap.size < w3.drew.heap.size := hz3
  have z03 : w.heap.size < w3.drew.heap.size := Nat.lt_trans z2 hz3
  have nb : w2.heap.size ≠ g := by omega
  clear hL hS
  go_region_held3 (fun w' => w'.cell? ⟨g, off, none⟩ = some (.int .i64 a) ∧ w'.cell? ⟨g, off + 1, none⟩ = some (.int .i64 b))
    (first
      | (with_reducible exact ⟨hc4, hd4⟩)
      | (with_reducible exact ⟨(far9 nb _ _ _ _ _ _ _ _ _ _).trans hc4, (far9 nb _ _ _ _ _ _ _ _ _ _).trans hd4⟩)
      | go_keep)
    (first
      | (go_at_call 23; refine hT'.mono ?_; rintro e w4 ⟨rfl, hb4⟩; obtain ⟨⟨r0, r1, r2, r3, r4, r5, r6, r7, r8⟩, s0, s1, s2, s3, s4, s5, s6, s7, s8⟩ := j3.out.drew.below hb4 z23; have hc4 := (hb4.cell (p := ⟨g, off, none⟩) hg3).trans hc3; have hd4 := (hb4.cell (p := ⟨g, off + 1, none⟩) hg3).trans hd3))
  obtain ⟨⟨p0, p1, p2, p3, p4, p5, p6, p7, p8⟩, q0, q1, q2, q3, q4, q5, q6, q7, q8⟩ := i3.out.drew.below hb4 z03
  simp only at p0 p1 p2 p3 p4 p5 p6 p7 p8
  have c4 := c3.drew.trans (hb4.mono c3.size)
  have hne : ¬ w.heap.size = w2.heap.size := by omega
  have hne' : ¬ w2.heap.size = w.heap.size := by omega
  clear i3 j3 hc3 hd3 hT hT' b3 hb3 hb2 hb1
  cases yk
  · go_wp2_with fail
    exact bodyPost_ret (v := .tuple #[.agg #[.int .i64 0, .int .i64 0, .int .i64 0, .int .i64 0, .int .i64 0, .int .i64 0, .int .i64 0, .int .i64 0, .bool false], .int .i64 0, .int .i64 10]) (by simp [results, Tryd.results15, go_sem, p0, p1, p2, p3, p4, p5, p6, p7, p8]) rfl ⟨rfl, (((((((((((((((((c4.setCell (Nat.le_of_lt z2) _).setCell (Nat.le_of_lt z2) _).setCell (Nat.le_of_lt z2) _).setCell (Nat.le_of_lt z2) _).setCell (Nat.le_of_lt z2) _).setCell (Nat.le_of_lt z2) _).setCell (Nat.le_of_lt z2) _).setCell (Nat.le_of_lt z2) _).setCell (Nat.le_of_lt z2) _).setCell (Nat.le_refl _) _).setCell (Nat.le_refl _) _).setCell (Nat.le_refl _) _).setCell (Nat.le_refl _) _).setCell (Nat.le_refl _) _).setCell (Nat.le_refl _) _).setCell (Nat.le_refl _) _).setCell (Nat.le_refl _) _).setCell (Nat.le_refl _) _⟩
  · go_wp2_with fail
    exact bodyPost_ret (v := .tuple #[.agg #[.int .i64 y0, .int .i64 y1, .int .i64 y2, .int .i64 y3, .int .i64 y4, .int .i64 y5, .int .i64 y6, .int .i64 y7, .bool yb], .int .i64 2, .int .i64 0]) (by simp [results, Tryd.results15, go_sem, p0, p1, p2, p3, p4, p5, p6, p7, p8]) rfl ⟨rfl, (((((((((((((((((c4.setCell (Nat.le_of_lt z2) _).setCell (Nat.le_of_lt z2) _).setCell (Nat.le_of_lt z2) _).setCell (Nat.le_of_lt z2) _).setCell (Nat.le_of_lt z2) _).setCell (Nat.le_of_lt z2) _).setCell (Nat.le_of_lt z2) _).setCell (Nat.le_of_lt z2) _).setCell (Nat.le_of_lt z2) _).setCell (Nat.le_refl _) _).setCell (Nat.le_refl _) _).setCell (Nat.le_refl _) _).setCell (Nat.le_refl _) _).setCell (Nat.le_refl _) _).setCell (Nat.le_refl _) _).setCell (Nat.le_refl _) _).setCell (Nat.le_refl _) _).setCell (Nat.le_refl _) _⟩

end Go.Proofs.YtiicniiecomhjaaDoor
/- For the seat: decode.Decode at any halfwords, as a function of them. -/
namespace Go.Proofs.YtiicniiecomhjaaDoor
open Go.Sx Go.ChangeShapes Go.WideShapes Go.RowKit Go.Joins Go.Deep

theorem sho_any {a : Int} (ha : kHas .i64 a) (it : Bool) : ∃ p, DecP 22 [.int .i64 a, .bool it] p := sho_dec (fun j hj => sha.all j (by rw [sho.len] at hj; exact hj)) ha it
theorem tal_any {a b : Int} (ha : kHas .i64 a) (hb : kHas .i64 b) (it : Bool) : ∃ p, DecP 23 [.int .i64 a, .int .i64 b, .bool it] p := tal_dec (fun j hj => tla.all j (by rw [tal.len] at hj; exact hj)) ha hb it

open Classical in
/-- What a halfword is read as. -/
noncomputable def shortOf (a : Int) (it : Bool) : Fields × Bool := if h : ∃ p, DecP 22 [.int .i64 a, .bool it] p then Classical.choose h else (zeroF, false)
open Classical in
/-- What two halfwords are read as. -/
noncomputable def tallOf (a b : Int) (it : Bool) : Fields × Bool := if h : ∃ p, DecP 23 [.int .i64 a, .int .i64 b, .bool it] p then Classical.choose h else (zeroF, false)
theorem shortOf_ok {a : Int} (ha : kHas .i64 a) (it : Bool) : DecP 22 [.int .i64 a, .bool it] (shortOf a it) := by
  unfold shortOf
  rw [dif_pos (sho_any ha it)]
  exact Classical.choose_spec (sho_any ha it)
theorem tallOf_ok {a b : Int} (ha : kHas .i64 a) (hb : kHas .i64 b) (it : Bool) : DecP 23 [.int .i64 a, .int .i64 b, .bool it] (tallOf a b it) := by
  unfold tallOf
  rw [dif_pos (tal_any ha hb it)]
  exact Classical.choose_spec (tal_any ha hb it)

def pickD (p : Fields × Bool) (n : Int) : Fields × Int × Int := (if p.2 then p.1 else zeroF, if p.2 then n else 0, if p.2 then 0 else 10)
/-- What halfwords are read as: the first instruction, how many halfwords, the error's number. -/
noncomputable def decOf : List Int → Bool → Fields × Int × Int
  | [], _ => (zeroF, 0, 2)
  | [a], it => if longB a then (zeroF, 0, 2) else pickD (shortOf a it) 1
  | a :: b :: _, it => if longB a then pickD (tallOf a b it) 2 else pickD (shortOf a it) 1

theorem decOf_one (a : Int) (it : Bool) : decOf [a] it = if longB a then (zeroF, 0, 2) else pickD (shortOf a it) 1 := rfl
theorem decOf_two (a b : Int) (r : List Int) (it : Bool) : decOf (a :: b :: r) it = if longB a then pickD (tallOf a b it) 2 else pickD (shortOf a it) 1 := rfl

theorem dec_any (l : List Int) (A : Option Addr) (cap : Nat) (it : Bool) (w : World) (h : IAt w w.heap.size A l) (hl : ∀ a ∈ l, kHas .i64 a) (hlen : l.length ≤ maxLen) (hw : Laid w) :
    Calls Tryd.prog 15 #[.slice A l.length cap, .bool it] w fun e w' => RetD (decOf l it).1 (decOf l it).2.1 (decOf l it).2.2 e w w' := by
  match l, h, hl, hlen with
  | [], _, _, _ => exact dec_nil A cap it w
  | a :: r, h, hl, hlen =>
    have ha := hl a (by simp)
    have hL := long_ans ha
    have hS := (shortOf_ok ha it).ans
    cases hlb : longB a
    · rw [hlb] at hL
      have e : decOf (a :: r) it = pickD (shortOf a it) 1 := by
        cases r
        · rw [decOf_one, hlb]; rfl
        · rw [decOf_two, hlb]; rfl
      rw [e]
      exact dec_short a r it A cap w h hlen hw hL _ _ _ _ _ _ _ _ _ _ hS
    · rw [hlb] at hL
      match r, h, hl, hlen with
      | [], h, _, _ =>
        have e : decOf [a] it = (zeroF, 0, 2) := by rw [decOf_one, hlb]; rfl
        rw [e]
        exact dec_end a it A cap w h hw hL
      | b :: r, h, hl, hlen =>
        have e : decOf (a :: b :: r) it = pickD (tallOf a b it) 2 := by rw [decOf_two, hlb]; rfl
        rw [e]
        exact dec_long a b r it A cap w h hlen hw hL _ _ _ _ _ _ _ _ _ _ hS _ _ _ _ _ _ _ _ _ _ (tallOf_ok ha (hl b (by simp)) it).ans

theorem pickD_ok {p : Fields × Bool} (n : Int) (h : p.1.Ok) : (pickD p n).1.Ok := by
  unfold pickD
  by_cases hp : p.2 <;> simp only [hp]
  · exact h
  · exact zeroF_ok

theorem pickD_num {p : Fields × Bool} {n : Int} (h : (pickD p n).2.2 = 0) : (pickD p n).2.1 = n ∧ p.2 = true ∧ (pickD p n).1 = p.1 := by
  unfold pickD at h ⊢
  by_cases hp : p.2 <;> simp [hp] at h ⊢

/-- An instruction that is read has fields of 64 bits. -/
theorem decOf_ok {l : List Int} (hl : ∀ a ∈ l, kHas .i64 a) (it : Bool) : (decOf l it).1.Ok := by
  match l, hl with
  | [], _ => exact zeroF_ok
  | [a], hl =>
    rw [decOf_one]
    split
    · exact zeroF_ok
    · exact pickD_ok _ (shortOf_ok (hl a (by simp)) it).ok
  | a :: b :: r, hl =>
    rw [decOf_two]
    split
    · exact pickD_ok _ (tallOf_ok (hl a (by simp)) (hl b (by simp)) it).ok
    · exact pickD_ok _ (shortOf_ok (hl a (by simp)) it).ok

/-- It is of one halfword or two, and there are so many. -/
theorem decOf_num {l : List Int} {it : Bool} (h : (decOf l it).2.2 = 0) : ∃ n : Nat, (decOf l it).2.1 = n ∧ 1 ≤ n ∧ n ≤ l.length ∧ n ≤ 2 := by
  match l with
  | [] => exact absurd (show (2 : Int) = 0 from h) (by decide)
  | [a] =>
    rw [decOf_one] at h ⊢
    split at h
    · exact absurd (show (2 : Int) = 0 from h) (by decide)
    · rename_i hb
      rw [if_neg hb]
      exact ⟨1, (pickD_num h).1, by omega, by simp, by omega⟩
  | a :: b :: r =>
    rw [decOf_two] at h ⊢
    split at h
    · rename_i hb
      rw [if_pos hb]
      exact ⟨2, (pickD_num h).1, by omega, by simp, by omega⟩
    · rename_i hb
      rw [if_neg hb]
      exact ⟨1, (pickD_num h).1, by omega, by simp, by omega⟩

end Go.Proofs.YtiicniiecomhjaaDoor
/- For the seat: the row of instructions that halfwords are read as; what a round of the range over them keeps. -/
namespace Go.Proofs.YtiicniiecomhjaaDoor
open Go.Sx Go.ChangeShapes Go.WideShapes Go.RowKit Go.Joins Go.Deep

/-- Is it within a block? -/
def itB (it : Int) : Bool := bits BinOp.and IntKind.i64 it 15 != 0

/-- The instructions from a place on, and their places; fuel: how many halfwords are left at most. -/
noncomputable def strm (l : List Int) : Nat → Nat → Int → List (Nat × Fields)
  | 0, _, _ => []
  | f + 1, k, it => if k < l.length ∧ (decOf (l.drop k) (itB it)).2.2 = 0 then (k, (decOf (l.drop k) (itB it)).1) :: strm l f (k + (decOf (l.drop k) (itB it)).2.1.toNat) (aftI it (decOf (l.drop k) (itB it)).1) else []

theorem strm_fuel (l : List Int) : ∀ (f g k : Nat) (it : Int), l.length ≤ f + k → l.length ≤ g + k → strm l f k it = strm l g k it
  | 0, 0, _, _, _, _ => rfl
  | 0, g + 1, k, it, h, _ => by simp [strm, show ¬ k < l.length by omega]
  | f + 1, 0, k, it, _, h => by simp [strm, show ¬ k < l.length by omega]
  | f + 1, g + 1, k, it, h, h' => by
    unfold strm
    split
    · rename_i hc
      obtain ⟨n, hn, h1, _⟩ := decOf_num hc.2
      rw [hn, Int.toNat_natCast, strm_fuel l f g (k + n) _ (by omega) (by omega)]
    · rfl

/-- All of them. -/
noncomputable def strmA (l : List Int) (k : Nat) (it : Int) : List (Nat × Fields) := strm l l.length k it
theorem strmA_stop {l : List Int} {k : Nat} {it : Int} (h : ¬ (k < l.length ∧ (decOf (l.drop k) (itB it)).2.2 = 0)) : strmA l k it = [] := by
  unfold strmA
  cases hl : l.length with
  | zero => rfl
  | succ n => rw [strm, if_neg h]
theorem strmA_go {l : List Int} {k n : Nat} {it : Int} (h : k < l.length) (he : (decOf (l.drop k) (itB it)).2.2 = 0) (hn : (decOf (l.drop k) (itB it)).2.1 = n) :
    strmA l k it = (k, (decOf (l.drop k) (itB it)).1) :: strmA l (k + n) (aftI it (decOf (l.drop k) (itB it)).1) := by
  unfold strmA
  obtain ⟨m, hm⟩ : ∃ m, l.length = m + 1 := ⟨l.length - 1, by omega⟩
  obtain ⟨n', hn', h1, _⟩ := decOf_num he
  have : n' = n := by rw [hn'] at hn; exact_mod_cast hn
  subst this
  rw [hm, strm, if_pos ⟨h, he⟩, hn, Int.toNat_natCast, strm_fuel l m (m + 1) _ _ (by omega) (by omega)]
theorem strm_len (l : List Int) : ∀ (f k : Nat) (it : Int), (strm l f k it).length ≤ f
  | 0, _, _ => Nat.le_refl _
  | f + 1, k, it => by
    unfold strm
    split
    · have := strm_len l f (k + (decOf (l.drop k) (itB it)).2.1.toNat) (aftI it (decOf (l.drop k) (itB it)).1)
      simp only [List.length_cons]; omega
    · simp

/-! ### What a round keeps -/

/-- A row of one of two boxes. -/
def RowOf (n₀ : Nat) (W : World) (g : Nat) : Prop := ∃ B v, (B = n₀ ∨ B = n₀ + 1) ∧ W.cell? ⟨B, 0, none⟩ = some v ∧ v.ownBlock = some g
/-- A block that is no row of two instructions or of places. -/
def Small (o : Obj) : Prop := ∃ cs t fz, o = .cells cs t fz ∧ t ≠ 3 ∧ cs.size < 18

structure Kp (n₀ : Nat) (W W' : World) : Prop where
  low : Below n₀ W W'
  keep : ∀ b o, b ≠ n₀ → b ≠ n₀ + 1 → W.heap[b]? = some o → Small o → ¬ RowOf n₀ W b → W'.heap[b]? = some o
  rows : ∀ g, RowOf n₀ W' g → RowOf n₀ W g ∨ W.heap.size ≤ g ∨ g = n₀ ∨ g = n₀ + 1 ∨ ∃ o, W.heap[g]? = some o ∧ ¬ Small o
  lt : (∀ g, RowOf n₀ W g → g < W.heap.size) → ∀ g, RowOf n₀ W' g → g < W'.heap.size

theorem Kp.trans {n₀ : Nat} {A B C : World} (h : Kp n₀ A B) (k : Kp n₀ B C) : Kp n₀ A C := by
  refine ⟨h.low.trans k.low, ?_, ?_, fun hl => k.lt (h.lt hl)⟩
  · intro b o h0 h1 ho hs hn
    refine k.keep b o h0 h1 (h.keep b o h0 h1 ho hs hn) hs fun hr => ?_
    rcases h.rows b hr with e | e | e | e | ⟨o', e1, e2⟩
    · exact hn e
    · have := (Array.getElem?_eq_some_iff.1 ho).1; omega
    · exact h0 e
    · exact h1 e
    · rw [ho] at e1; cases e1; exact e2 hs
  · intro g hr
    rcases k.rows g hr with e | e | e | e | ⟨o, e1, e2⟩
    · exact h.rows g e
    · exact .inr (.inl (Nat.le_trans h.low.size e))
    · exact .inr (.inr (.inl e))
    · exact .inr (.inr (.inr (.inl e)))
    · by_cases h0 : g = n₀
      · exact .inr (.inr (.inl h0))
      by_cases h1 : g = n₀ + 1
      · exact .inr (.inr (.inr (.inl h1)))
      by_cases hg : g < A.heap.size
      · have ho : A.heap[g]? = some A.heap[g] := Array.getElem?_eq_getElem hg
        by_cases hs : Small A.heap[g]
        · by_cases hR : RowOf n₀ A g
          · exact .inl hR
          · have := h.keep g _ h0 h1 ho hs hR
            rw [e1] at this
            cases this
            exact absurd hs e2
        · exact .inr (.inr (.inr (.inr ⟨_, ho, hs⟩)))
      · exact .inr (.inl (by omega))

theorem RowOf.same {n₀ : Nat} {W W' : World} (h : ∀ B, B = n₀ ∨ B = n₀ + 1 → W'.cell? ⟨B, 0, none⟩ = W.cell? ⟨B, 0, none⟩) (g : Nat) : RowOf n₀ W' g ↔ RowOf n₀ W g :=
  ⟨fun ⟨B, v, hB, hv, ho⟩ => ⟨B, v, hB, (h B hB).symm.trans hv, ho⟩, fun ⟨B, v, hB, hv, ho⟩ => ⟨B, v, hB, (h B hB).trans hv, ho⟩⟩

/-- All rows are there. -/
def RowsLt (n₀ : Nat) (W : World) : Prop := ∀ g, RowOf n₀ W g → g < W.heap.size

/-- What leaves all that was there alone. -/
theorem Kp.of_below {n₀ : Nat} {W W' : World} (hn : n₀ + 2 ≤ W.heap.size) (h : Below W.heap.size W W') : Kp n₀ W W' := by
  have same := RowOf.same (n₀ := n₀) (W := W) (W' := W') (fun B hB => h.cell (p := ⟨B, 0, none⟩) (by show B < W.heap.size; rcases hB with rfl | rfl <;> omega))
  refine ⟨h.mono (by omega), ?_, ?_, ?_⟩
  · intro b o _ _ ho _ _
    rw [h.block b (Array.getElem?_eq_some_iff.1 ho).1]
    exact ho
  · intro g hg
    exact .inl ((same g).1 hg)
  · intro hl g hg
    exact Nat.lt_of_lt_of_le (hl g ((same g).1 hg)) h.size

theorem Kp.rowsLt {n₀ : Nat} {W W' : World} (h : Kp n₀ W W') (hr : RowsLt n₀ W) : RowsLt n₀ W' := h.lt hr

theorem kp_put {n₀ D : Nat} (hn : n₀ + 2 ≤ D) (W : World) (l : Nat) (o o' : Obj) (hl : D ≤ l) (h : W.heap[l]? = some o) (hc : o.isCells = false) : Kp n₀ W (W.putObj l o') := by
  have hg := grownBy_putObj' W l o'
  have oth : ∀ k, k < W.heap.size → k ≠ l → (W.putObj l o').heap[k]? = W.heap[k]? := fun k hk hne => hg.block k hk (fun e => hne (by cases e; rfl))
  have hll := (Array.getElem?_eq_some_iff.1 h).1
  have same := RowOf.same (n₀ := n₀) (W := W) (W' := W.putObj l o') (fun B hB => World.cell?_of_block (oth B (by show B < W.heap.size; rcases hB with rfl | rfl <;> omega) (by rcases hB with rfl | rfl <;> omega)))
  refine ⟨⟨hg.os, hg.tape, hg.output, hg.size, fun k hk => oth k (by omega) (by omega)⟩, ?_, ?_, ?_⟩
  · intro b ob _ _ hb hs _
    by_cases e : b = l
    · subst e
      rw [h] at hb
      cases hb
      obtain ⟨cs, t, fz, rfl, _⟩ := hs
      simp [Obj.isCells] at hc
    · rw [oth b (Array.getElem?_eq_some_iff.1 hb).1 e]
      exact hb
  · intro g hgr
    exact .inl ((same g).1 hgr)
  · intro hl g hgr
    exact Nat.lt_of_lt_of_le (hl g ((same g).1 hgr)) hg.size

theorem laid_low {n₀ : Nat} {W W' : World} (h : Laid W) (hb : Below n₀ W W') (hn : 0 < n₀) : Laid W' := by
  obtain ⟨t, fz, hw⟩ := h
  exact ⟨t, fz, by rw [hb.block 0 hn]; exact hw⟩

theorem InsAt.of_block {W : World} {b : Nat} {x : Fields} {t : TypeId} (h : W.heap[b]? = some (.cells x.cells t (0, 0))) : InsAt W b x := by
  have c : ∀ o, W.cell? ⟨b, o, none⟩ = x.cells[o]? := fun o => by simp only [World.cell?, h]; rfl
  have f : ∀ o, W.frozen? ⟨b, o, none⟩ = false := fun o => by simp only [World.frozen?, h]; simp
  exact ⟨⟨by rw [c]; rfl, by rw [c]; rfl, by rw [c]; rfl, by rw [c]; rfl, by rw [c]; rfl, by rw [c]; rfl, by rw [c]; rfl, by rw [c]; rfl, by rw [c]; rfl⟩, f 0, f 1, f 2, f 3, f 4, f 5, f 6, f 7, f 8⟩

theorem grown_of_below {W W' : World} (h : Below W.heap.size W W') : W.grownBy W' none := ⟨h.os, h.tape, h.output, h.size, fun k hk _ => h.block k hk⟩

end Go.Proofs.YtiicniiecomhjaaDoor
/- For the seat: two rows of numbers compared; two instructions compared. -/
namespace Go.Proofs.YtiicniiecomhjaaDoor
open Go.Sx Go.ChangeShapes Go.WideShapes Go.RowKit Go.Joins Go.Deep

instance : DecidableEq Fields := fun x y =>
  decidable_of_iff (x.x0 = y.x0 ∧ x.x1 = y.x1 ∧ x.x2 = y.x2 ∧ x.x3 = y.x3 ∧ x.x4 = y.x4 ∧ x.x5 = y.x5 ∧ x.x6 = y.x6 ∧ x.x7 = y.x7 ∧ x.b = y.b) (by cases x; cases y; simp)
theorem take_snoc {α : Type} {l m : List α} {i : Nat} (h : l.take i = m.take i) (hl : i < l.length) (hm : i < m.length) (e : l[i] = m[i]) : l.take (i + 1) = m.take (i + 1) := by
  rw [List.take_succ_eq_append_getElem hl, List.take_succ_eq_append_getElem hm, h, e]

theorem below_drewN {b n : Nat} {w w' : World} (h : Below b w w') : Below b w (w'.drewN n) := ⟨h.os, h.tape, h.output, h.size, h.block⟩


/-- A slice's address, below block B, where such instructions lie. -/
def FAt (w : World) (B : Nat) (A : Option Addr) (l : List Fields) : Prop :=
  l ≠ [] → ∃ g off, A = some ⟨g, off, none⟩ ∧ g < B ∧ ∀ (i : Nat) (x : Fields), l[i]? = some x → ∀ (j : Nat) (v : Value), x.cells[j]? = some v → w.cell? ⟨g, off + i * 9 + j, none⟩ = some v
theorem FAt.keep {w w' : World} {B : Nat} {A : Option Addr} {l : List Fields} (h : FAt w B A l) (hk : ∀ p : Addr, p.block < B → ∀ v, w.cell? p = some v → w'.cell? p = some v) : FAt w' B A l := by
  intro hn
  obtain ⟨g, off, e, hb, hc⟩ := h hn
  exact ⟨g, off, e, hb, fun i x hx j v hv => hk _ hb _ (hc i x hx j v hv)⟩
theorem FAt.below {w w' : World} {B B' : Nat} {A : Option Addr} {l : List Fields} (h : FAt w B A l) (hb : Below B' w w') (hB : B ≤ B') : FAt w' B A l := h.keep fun _ hp _ e => (hb.cell (by omega)).trans e
theorem FAt.more {w : World} {B B' : Nat} {A : Option Addr} {l : List Fields} (h : FAt w B A l) (hB : B ≤ B') : FAt w B' A l := by
  intro hn
  obtain ⟨g, off, e, hb, hc⟩ := h hn
  exact ⟨g, off, e, by omega, hc⟩
theorem FAt.at_ {w : World} {B : Nat} {A : Option Addr} {l : List Fields} (h : FAt w B A l) {k : Nat} (hk : k < l.length) :
    ∃ g off, A = some ⟨g, off, none⟩ ∧ g < B ∧ ∀ (j : Nat) (v : Value), l[k].cells[j]? = some v → w.cell? ⟨g, off + k * 9 + j, none⟩ = some v := by
  obtain ⟨g, off, e, hb, hc⟩ := h (by intro e; subst e; simp at hk)
  exact ⟨g, off, e, hb, fun j v hv => hc k l[k] (List.getElem?_eq_getElem hk) j v hv⟩

namespace eqi
def X : SVal := .agg (.ofList [.int .i64 (.var 0), .int .i64 (.var 1), .int .i64 (.var 2), .int .i64 (.var 3), .int .i64 (.var 4), .int .i64 (.var 5), .int .i64 (.var 6), .int .i64 (.var 7), .bool (.var 8)])
def Y : SVal := .agg (.ofList [.int .i64 (.var 9), .int .i64 (.var 10), .int .i64 (.var 11), .int .i64 (.var 12), .int .i64 (.var 13), .int .i64 (.var 14), .int .i64 (.var 15), .int .i64 (.var 16), .bool (.var 17)])
def q (i : Nat) : Tm := .op2 .eq (.var i) (.var (i + 9))
def c : Tm := .op2 .band (q 0) (.op2 .band (q 1) (.op2 .band (q 2) (.op2 .band (q 3) (.op2 .band (q 4) (.op2 .band (q 5) (.op2 .band (q 6) (.op2 .band (q 7) (.op2 .beq (.var 8) (.var 17)))))))))
set_option maxRecDepth 100000 in
theorem run : eqT cx 20 29 X Y = some c := by kernel_rfl
end eqi

def eqB (x y : Fields) : Bool := decide (x = y)
theorem eqB_yes {x y : Fields} (h : x = y) : eqB x y = true := by unfold eqB; exact decide_eq_true h
theorem eqB_no {x y : Fields} (h : ¬ x = y) : eqB x y = false := by unfold eqB; exact decide_eq_false h
/-- Two instructions compared. -/
theorem ins_equal (w : World) (x0 x1 x2 x3 x4 x5 x6 x7 : Int) (xb : Bool) (y0 y1 y2 y3 y4 y5 y6 y7 : Int) (yb : Bool) :
    (Op.equalIn 10000 29 (.agg #[.int .i64 x0, .int .i64 x1, .int .i64 x2, .int .i64 x3, .int .i64 x4, .int .i64 x5, .int .i64 x6, .int .i64 x7, .bool xb]) (.agg #[.int .i64 y0, .int .i64 y1, .int .i64 y2, .int .i64 y3, .int .i64 y4, .int .i64 y5, .int .i64 y6, .int .i64 y7, .bool yb])).run Tryd.prog w =
      .ok (eqB ⟨x0, x1, x2, x3, x4, x5, x6, x7, xb⟩ ⟨y0, y1, y2, y3, y4, y5, y6, y7, yb⟩) w := by
  have h := run_eqT (ρ := envOf F2 [.int x0, .int x1, .int x2, .int x3, .int x4, .int x5, .int x6, .int x7, .bool xb, .int y0, .int y1, .int y2, .int y3, .int y4, .int y5, .int y6, .int y7, .bool yb]) (ι := ι0) w cxok 20 10000 (by decide) eqi.run
  refine Eq.trans h ?_
  congr 1
  show ((x0 == y0) && ((x1 == y1) && ((x2 == y2) && ((x3 == y3) && ((x4 == y4) && ((x5 == y5) && ((x6 == y6) && ((x7 == y7) && (xb == yb))))))))) = _
  unfold eqB
  rw [Bool.eq_iff_iff]
  simp only [Bool.and_eq_true, beq_iff_eq, decide_eq_true_eq, Fields.mk.injEq]
theorem ins_guard (op : BinOp) (x y : Operand) (xs ys : Array Value) (w : World) : (eqGuard op 29 x y (.agg xs) (.agg ys)).run Tryd.prog w = .ok () w := run_eqGuard_agg w op _ x y _ _ (by kernel_rfl)

theorem iat_new (w : World) (t : TypeId) (l : List Int) : IAt (w.alloc (.cells (encI l).toArray t)) (w.alloc (.cells (encI l).toArray t)).heap.size (some ⟨w.heap.size, 0, none⟩) l := by
  intro _
  refine ⟨_, _, rfl, by simp, fun i a hi => ?_⟩
  have h : (w.alloc (.cells (encI l).toArray t)).heap[w.heap.size]? = some (.cells (encI l).toArray t (0, 0)) := heap_alloc_new w _
  simp only [World.cell?, h, Nat.zero_add]
  simp [encI, hi]
/-- An instruction of a row, at its place. -/
def InsIn (W : World) (g o : Nat) (x : Fields) : Prop := W.cell? ⟨g, o, none⟩ = some (.int .i64 x.x0) ∧ W.cell? ⟨g, o + 1, none⟩ = some (.int .i64 x.x1) ∧ W.cell? ⟨g, o + 2, none⟩ = some (.int .i64 x.x2) ∧ W.cell? ⟨g, o + 3, none⟩ = some (.int .i64 x.x3) ∧ W.cell? ⟨g, o + 4, none⟩ = some (.int .i64 x.x4) ∧ W.cell? ⟨g, o + 5, none⟩ = some (.int .i64 x.x5) ∧ W.cell? ⟨g, o + 6, none⟩ = some (.int .i64 x.x6) ∧ W.cell? ⟨g, o + 7, none⟩ = some (.int .i64 x.x7) ∧ W.cell? ⟨g, o + 8, none⟩ = some (.bool x.b)
theorem insIn_of {W : World} {g o : Nat} {x : Fields} (h : ∀ (j : Nat) (v : Value), x.cells[j]? = some v → W.cell? ⟨g, o + j, none⟩ = some v) : InsIn W g o x :=
  ⟨h 0 _ rfl, h 1 _ rfl, h 2 _ rfl, h 3 _ rfl, h 4 _ rfl, h 5 _ rfl, h 6 _ rfl, h 7 _ rfl, h 8 _ rfl⟩
theorem InsIn.below {W W' : World} {B g o : Nat} {x : Fields} (h : InsIn W g o x) (hb : Below B W W') (hg : g < B) : InsIn W' g o x := by
  unfold InsIn at h ⊢
  have e := fun o => hb.cell (p := ⟨g, o, none⟩) hg
  simp only [e]
  exact h
end Go.Proofs.YtiicniiecomhjaaDoor
