/- For the seat: texts joined: Sha, Tla, DecDef, Dec, Ins9, Fet, StlDef, Ans15, Stl, Lrun. -/
import Derived.Test.YthbdmlcbdibiiaaGreatDoorJT0
import Derived.Test.YthbdmlcbdibiiaaGreatDoorJT1
import Derived.Test.YthbdmlcbdibiiaaGreatDoorJT2
import Derived.Test.YthbdmlcbdibiiaaGreatDoorJL0x1
import Derived.Test.YthbdmlcbdibiiaaGreatDoorJD0
import Derived.Deep.RegionHeld3
import Derived.Test.YthbdmlcbdibiiaaGreatDoorJL0x0
import Derived.Test.YthbdmlcbdibiiaaGreatDoorJL3x0
/- Sha: all cases of the input. -/
namespace Go.Proofs.YthbdmlcbdibiiaaGreatDoor.sha
open Go.Sx
set_option maxRecDepth 100000
theorem all : ∀ j : Nat, j < 94 → sho.at' j = true := by
  intro j hj
  by_cases h : j < 20
  · exact List.all_eq_true.1 w0x0 j (List.mem_range'_1.2 ⟨by omega, by omega⟩)
  by_cases h : j < 44
  · exact List.all_eq_true.1 w0x20 j (List.mem_range'_1.2 ⟨by omega, by omega⟩)
  by_cases h : j < 64
  · exact List.all_eq_true.1 w0x44 j (List.mem_range'_1.2 ⟨by omega, by omega⟩)
  by_cases h : j < 85
  · exact List.all_eq_true.1 w0x64 j (List.mem_range'_1.2 ⟨by omega, by omega⟩)
  by_cases h : j < 90
  · exact List.all_eq_true.1 w0x85 j (List.mem_range'_1.2 ⟨by omega, by omega⟩)
  by_cases h : j < 94
  · exact List.all_eq_true.1 w0x90 j (List.mem_range'_1.2 ⟨by omega, by omega⟩)
  omega
end Go.Proofs.YthbdmlcbdibiiaaGreatDoor.sha
/- Tla: all cases of the input. -/
namespace Go.Proofs.YthbdmlcbdibiiaaGreatDoor.tla
open Go.Sx
set_option maxRecDepth 100000
theorem all : ∀ j : Nat, j < 419 → tal.at' j = true := by
  intro j hj
  by_cases h : j < 14
  · exact List.all_eq_true.1 w0x0 j (List.mem_range'_1.2 ⟨by omega, by omega⟩)
  by_cases h : j < 15
  · exact List.all_eq_true.1 w0x14 j (List.mem_range'_1.2 ⟨by omega, by omega⟩)
  by_cases h : j < 16
  · exact List.all_eq_true.1 w0x15 j (List.mem_range'_1.2 ⟨by omega, by omega⟩)
  by_cases h : j < 44
  · exact List.all_eq_true.1 w0x16 j (List.mem_range'_1.2 ⟨by omega, by omega⟩)
  by_cases h : j < 45
  · exact List.all_eq_true.1 w0x44 j (List.mem_range'_1.2 ⟨by omega, by omega⟩)
  by_cases h : j < 53
  · exact List.all_eq_true.1 w0x45 j (List.mem_range'_1.2 ⟨by omega, by omega⟩)
  by_cases h : j < 54
  · exact List.all_eq_true.1 w0x53 j (List.mem_range'_1.2 ⟨by omega, by omega⟩)
  by_cases h : j < 62
  · exact List.all_eq_true.1 w0x54 j (List.mem_range'_1.2 ⟨by omega, by omega⟩)
  by_cases h : j < 63
  · exact List.all_eq_true.1 w0x62 j (List.mem_range'_1.2 ⟨by omega, by omega⟩)
  by_cases h : j < 71
  · exact List.all_eq_true.1 w0x63 j (List.mem_range'_1.2 ⟨by omega, by omega⟩)
  by_cases h : j < 72
  · exact List.all_eq_true.1 w0x71 j (List.mem_range'_1.2 ⟨by omega, by omega⟩)
  by_cases h : j < 78
  · exact List.all_eq_true.1 w0x72 j (List.mem_range'_1.2 ⟨by omega, by omega⟩)
  by_cases h : j < 80
  · exact List.all_eq_true.1 w0x78 j (List.mem_range'_1.2 ⟨by omega, by omega⟩)
  by_cases h : j < 81
  · exact List.all_eq_true.1 w0x80 j (List.mem_range'_1.2 ⟨by omega, by omega⟩)
  by_cases h : j < 89
  · exact List.all_eq_true.1 w0x81 j (List.mem_range'_1.2 ⟨by omega, by omega⟩)
  by_cases h : j < 90
  · exact List.all_eq_true.1 w0x89 j (List.mem_range'_1.2 ⟨by omega, by omega⟩)
  by_cases h : j < 107
  · exact List.all_eq_true.1 w0x90 j (List.mem_range'_1.2 ⟨by omega, by omega⟩)
  by_cases h : j < 116
  · exact List.all_eq_true.1 w0x107 j (List.mem_range'_1.2 ⟨by omega, by omega⟩)
  by_cases h : j < 117
  · exact List.all_eq_true.1 w0x116 j (List.mem_range'_1.2 ⟨by omega, by omega⟩)
  by_cases h : j < 125
  · exact List.all_eq_true.1 w0x117 j (List.mem_range'_1.2 ⟨by omega, by omega⟩)
  by_cases h : j < 126
  · exact List.all_eq_true.1 w0x125 j (List.mem_range'_1.2 ⟨by omega, by omega⟩)
  by_cases h : j < 143
  · exact List.all_eq_true.1 w0x126 j (List.mem_range'_1.2 ⟨by omega, by omega⟩)
  by_cases h : j < 160
  · exact List.all_eq_true.1 w0x143 j (List.mem_range'_1.2 ⟨by omega, by omega⟩)
  by_cases h : j < 175
  · exact List.all_eq_true.1 w0x160 j (List.mem_range'_1.2 ⟨by omega, by omega⟩)
  by_cases h : j < 188
  · exact List.all_eq_true.1 w0x175 j (List.mem_range'_1.2 ⟨by omega, by omega⟩)
  by_cases h : j < 189
  · exact List.all_eq_true.1 w0x188 j (List.mem_range'_1.2 ⟨by omega, by omega⟩)
  by_cases h : j < 197
  · exact List.all_eq_true.1 w0x189 j (List.mem_range'_1.2 ⟨by omega, by omega⟩)
  by_cases h : j < 198
  · exact List.all_eq_true.1 w0x197 j (List.mem_range'_1.2 ⟨by omega, by omega⟩)
  by_cases h : j < 215
  · exact List.all_eq_true.1 w0x198 j (List.mem_range'_1.2 ⟨by omega, by omega⟩)
  by_cases h : j < 224
  · exact List.all_eq_true.1 w0x215 j (List.mem_range'_1.2 ⟨by omega, by omega⟩)
  by_cases h : j < 225
  · exact List.all_eq_true.1 w0x224 j (List.mem_range'_1.2 ⟨by omega, by omega⟩)
  by_cases h : j < 233
  · exact List.all_eq_true.1 w0x225 j (List.mem_range'_1.2 ⟨by omega, by omega⟩)
  by_cases h : j < 234
  · exact List.all_eq_true.1 w0x233 j (List.mem_range'_1.2 ⟨by omega, by omega⟩)
  by_cases h : j < 242
  · exact List.all_eq_true.1 w0x234 j (List.mem_range'_1.2 ⟨by omega, by omega⟩)
  by_cases h : j < 243
  · exact List.all_eq_true.1 w0x242 j (List.mem_range'_1.2 ⟨by omega, by omega⟩)
  by_cases h : j < 251
  · exact List.all_eq_true.1 w0x243 j (List.mem_range'_1.2 ⟨by omega, by omega⟩)
  by_cases h : j < 252
  · exact List.all_eq_true.1 w0x251 j (List.mem_range'_1.2 ⟨by omega, by omega⟩)
  by_cases h : j < 269
  · exact List.all_eq_true.1 w0x252 j (List.mem_range'_1.2 ⟨by omega, by omega⟩)
  by_cases h : j < 278
  · exact List.all_eq_true.1 w0x269 j (List.mem_range'_1.2 ⟨by omega, by omega⟩)
  by_cases h : j < 279
  · exact List.all_eq_true.1 w0x278 j (List.mem_range'_1.2 ⟨by omega, by omega⟩)
  by_cases h : j < 287
  · exact List.all_eq_true.1 w0x279 j (List.mem_range'_1.2 ⟨by omega, by omega⟩)
  by_cases h : j < 288
  · exact List.all_eq_true.1 w0x287 j (List.mem_range'_1.2 ⟨by omega, by omega⟩)
  by_cases h : j < 296
  · exact List.all_eq_true.1 w0x288 j (List.mem_range'_1.2 ⟨by omega, by omega⟩)
  by_cases h : j < 297
  · exact List.all_eq_true.1 w0x296 j (List.mem_range'_1.2 ⟨by omega, by omega⟩)
  by_cases h : j < 305
  · exact List.all_eq_true.1 w0x297 j (List.mem_range'_1.2 ⟨by omega, by omega⟩)
  by_cases h : j < 306
  · exact List.all_eq_true.1 w0x305 j (List.mem_range'_1.2 ⟨by omega, by omega⟩)
  by_cases h : j < 323
  · exact List.all_eq_true.1 w0x306 j (List.mem_range'_1.2 ⟨by omega, by omega⟩)
  by_cases h : j < 331
  · exact List.all_eq_true.1 w0x323 j (List.mem_range'_1.2 ⟨by omega, by omega⟩)
  by_cases h : j < 335
  · exact List.all_eq_true.1 w0x331 j (List.mem_range'_1.2 ⟨by omega, by omega⟩)
  by_cases h : j < 341
  · exact List.all_eq_true.1 w0x335 j (List.mem_range'_1.2 ⟨by omega, by omega⟩)
  by_cases h : j < 347
  · exact List.all_eq_true.1 w0x341 j (List.mem_range'_1.2 ⟨by omega, by omega⟩)
  by_cases h : j < 353
  · exact List.all_eq_true.1 w0x347 j (List.mem_range'_1.2 ⟨by omega, by omega⟩)
  by_cases h : j < 359
  · exact List.all_eq_true.1 w0x353 j (List.mem_range'_1.2 ⟨by omega, by omega⟩)
  by_cases h : j < 361
  · exact List.all_eq_true.1 w0x359 j (List.mem_range'_1.2 ⟨by omega, by omega⟩)
  by_cases h : j < 366
  · exact List.all_eq_true.1 w0x361 j (List.mem_range'_1.2 ⟨by omega, by omega⟩)
  by_cases h : j < 371
  · exact List.all_eq_true.1 w0x366 j (List.mem_range'_1.2 ⟨by omega, by omega⟩)
  by_cases h : j < 378
  · exact List.all_eq_true.1 w0x371 j (List.mem_range'_1.2 ⟨by omega, by omega⟩)
  by_cases h : j < 384
  · exact List.all_eq_true.1 w0x378 j (List.mem_range'_1.2 ⟨by omega, by omega⟩)
  by_cases h : j < 390
  · exact List.all_eq_true.1 w0x384 j (List.mem_range'_1.2 ⟨by omega, by omega⟩)
  by_cases h : j < 394
  · exact List.all_eq_true.1 w0x390 j (List.mem_range'_1.2 ⟨by omega, by omega⟩)
  by_cases h : j < 398
  · exact List.all_eq_true.1 w0x394 j (List.mem_range'_1.2 ⟨by omega, by omega⟩)
  by_cases h : j < 401
  · exact List.all_eq_true.1 w0x398 j (List.mem_range'_1.2 ⟨by omega, by omega⟩)
  by_cases h : j < 408
  · exact List.all_eq_true.1 w0x401 j (List.mem_range'_1.2 ⟨by omega, by omega⟩)
  by_cases h : j < 414
  · exact List.all_eq_true.1 w0x408 j (List.mem_range'_1.2 ⟨by omega, by omega⟩)
  by_cases h : j < 419
  · exact List.all_eq_true.1 w0x414 j (List.mem_range'_1.2 ⟨by omega, by omega⟩)
  omega
end Go.Proofs.YthbdmlcbdibiiaaGreatDoor.tla
/- For the seat: decode.Decode: what it answers at any halfwords. -/
namespace Go.Proofs.YthbdmlcbdibiiaaGreatDoor
open Go.Sx Go.ChangeShapes Go.WideShapes Go.RowKit Go.Joins Go.Deep
namespace lng
def and (n : Int) : Tm := .op2 (.and .i64) (.var 0) (.num n)
def longT : Tm := .op2 .band (.op2 .eq (and 57344) (.num 57344)) (.op1 .not (.op2 .eq (and 6144) (.num 0)))
def kn : Kn := ⟨[], [], [], [], [0]⟩
set_option maxRecDepth 100000 in
theorem run : pxIs sg (.bool longT) (callT cx noS (run cx noS 400) 102 [.int .i64 (.var 0)] [] (.bit true)) kn = true := by kernel_rfl
end lng
def longB (a : Int) : Bool := (lng.longT.den (envOf F [.int a])).asBool
set_option maxRecDepth 100000 in
theorem long_ans {a : Int} (ha : kHas .i64 a) : Ans 102 [.int .i64 a] (.bool (longB a)) := by
  have S : Sats (envOf F [.int a]) lng.kn := by
    refine Sats.start (one_vars (s := .int a) ha) _ ?_
    intro i hi
    simp only [List.mem_cons, List.not_mem_nil, or_false] at hi
    subst hi
    exact ⟨_, rfl⟩
  obtain ⟨x', h1, h2⟩ := pxIs_ok (sg_ok' F_signs) _ _ S lng.run
  refine ans_of (call_ok (ρ := envOf F [.int a]) cxok (noS_ok _ _) (noS_body _) rfl h1) (by intro v hv; simp at hv; subst hv; rfl) rfl ?_
  intro ι
  rw [h2]
  rfl
abbrev zeroF : Fields := ⟨0, 0, 0, 0, 0, 0, 0, 0, false⟩
set_option maxRecDepth 100000 in
theorem zeroF_ok : zeroF.Ok := ⟨zero_has, zero_has, zero_has, zero_has, zero_has, zero_has, zero_has, zero_has⟩
def InsAt (W : World) (b : Nat) (x : Fields) : Prop := (W.cell? ⟨b, 0, none⟩ = some (.int .i64 x.x0) ∧ W.cell? ⟨b, 1, none⟩ = some (.int .i64 x.x1) ∧ W.cell? ⟨b, 2, none⟩ = some (.int .i64 x.x2) ∧ W.cell? ⟨b, 3, none⟩ = some (.int .i64 x.x3) ∧ W.cell? ⟨b, 4, none⟩ = some (.int .i64 x.x4) ∧ W.cell? ⟨b, 5, none⟩ = some (.int .i64 x.x5) ∧ W.cell? ⟨b, 6, none⟩ = some (.int .i64 x.x6) ∧ W.cell? ⟨b, 7, none⟩ = some (.int .i64 x.x7) ∧ W.cell? ⟨b, 8, none⟩ = some (.bool x.b)) ∧ (W.frozen? ⟨b, 0, none⟩ = false ∧ W.frozen? ⟨b, 1, none⟩ = false ∧ W.frozen? ⟨b, 2, none⟩ = false ∧ W.frozen? ⟨b, 3, none⟩ = false ∧ W.frozen? ⟨b, 4, none⟩ = false ∧ W.frozen? ⟨b, 5, none⟩ = false ∧ W.frozen? ⟨b, 6, none⟩ = false ∧ W.frozen? ⟨b, 7, none⟩ = false ∧ W.frozen? ⟨b, 8, none⟩ = false)
abbrev Fields.cells (x : Fields) : Array Value := #[.int .i64 x.x0, .int .i64 x.x1, .int .i64 x.x2, .int .i64 x.x3, .int .i64 x.x4, .int .i64 x.x5, .int .i64 x.x6, .int .i64 x.x7, .bool x.b]
set_option maxRecDepth 100000 in
theorem InsAt.new (W : World) (x : Fields) (t : TypeId) : InsAt (W.alloc (.cells x.cells t)) W.heap.size x := by
  have h : (W.alloc (.cells x.cells t)).heap[W.heap.size]? = some (.cells x.cells t (0, 0)) := heap_alloc_new W _
  have c : ∀ o, (W.alloc (.cells x.cells t)).cell? ⟨W.heap.size, o, none⟩ = x.cells[o]? := fun o => by simp only [World.cell?, h]; rfl
  have f : ∀ o, (W.alloc (.cells x.cells t)).frozen? ⟨W.heap.size, o, none⟩ = false := fun o => by simp only [World.frozen?, h]; simp
  exact ⟨⟨by rw [c]; rfl, by rw [c]; rfl, by rw [c]; rfl, by rw [c]; rfl, by rw [c]; rfl, by rw [c]; rfl, by rw [c]; rfl, by rw [c]; rfl, by rw [c]; rfl⟩, f 0, f 1, f 2, f 3, f 4, f 5, f 6, f 7, f 8⟩
set_option maxRecDepth 100000 in
theorem InsAt.drew {W : World} {b : Nat} {x : Fields} (h : InsAt W b x) : InsAt W.drew b x := h
set_option maxRecDepth 100000 in
theorem InsAt.below {W W' : World} {b B : Nat} {x : Fields} (h : InsAt W b x) (hb : Below B W W') (hB : b < B) : InsAt W' b x := by
  unfold InsAt at h ⊢
  have e := fun o => hb.cell (p := ⟨b, o, none⟩) hB
  have f := fun o => hb.frozen (p := ⟨b, o, none⟩) hB
  simp only [e, f]
  exact h
set_option maxRecDepth 100000 in
theorem far9 {W : World} {b g : Nat} (h : b ≠ g) (o : Nat) (v0 v1 v2 v3 v4 v5 v6 v7 v8 : Value) : (((((((((W.setCell ⟨b, 0, none⟩ v0).setCell ⟨b, 1, none⟩ v1).setCell ⟨b, 2, none⟩ v2).setCell ⟨b, 3, none⟩ v3).setCell ⟨b, 4, none⟩ v4).setCell ⟨b, 5, none⟩ v5).setCell ⟨b, 6, none⟩ v6).setCell ⟨b, 7, none⟩ v7).setCell ⟨b, 8, none⟩ v8).cell? ⟨g, o, none⟩ = W.cell? ⟨g, o, none⟩ := by
  have e : ∀ (w : World) (k : Nat) (v : Value), (w.setCell ⟨b, k, none⟩ v).cell? ⟨g, o, none⟩ = w.cell? ⟨g, o, none⟩ := fun w k v => World.cell?_setCell_far w _ _ v h
  rw [e, e, e, e, e, e, e, e, e]
def RetD (x : Fields) (n e : Int) (en : Ending) (w w' : World) : Prop := en = .returned (.tuple #[x.val, .int .i64 n, .int .i64 e]) ∧ Below w.heap.size w w'
set_option maxRecDepth 100000 in
theorem dec_nil (A : Option Addr) (cap : Nat) (it : Bool) (w : World) : Calls Tryz.prog 54 #[.slice A 0 cap, .bool it] w fun e w' => RetD zeroF 0 2 e w w' := by
  go_enter Tryz.func54, Tryz.ntmps54
  go_wp2_with fail
  exact bodyPost_ret (v := .tuple #[.agg #[.int .i64 0, .int .i64 0, .int .i64 0, .int .i64 0, .int .i64 0, .int .i64 0, .int .i64 0, .int .i64 0, .bool false], .int .i64 0, .int .i64 2]) (by simp [results, Tryz.results54, go_sem]) rfl ⟨rfl, (Below.refl _ _).alloc (Nat.le_refl _) _⟩
set_option maxRecDepth 100000 in
set_option maxHeartbeats 1000000 in
theorem dec_short (a : Int) (r : List Int) (it : Bool) (A : Option Addr) (cap : Nat) (w : World) (h : IAt w w.heap.size A (a :: r)) (hlen : (a :: r).length ≤ maxLen) (hw : Laid w)
    (hL : Ans 102 [.int .i64 a] (.bool false)) (x0 x1 x2 x3 x4 x5 x6 x7 : Int) (xb ok : Bool)
    (hS : Ans 103 [.int .i64 a, .bool it] (.tuple #[.agg #[.int .i64 x0, .int .i64 x1, .int .i64 x2, .int .i64 x3, .int .i64 x4, .int .i64 x5, .int .i64 x6, .int .i64 x7, .bool xb], .bool ok])) :
    Calls Tryz.prog 54 #[.slice A (a :: r).length cap, .bool it] w fun e w' => RetD (if ok then ⟨x0, x1, x2, x3, x4, x5, x6, x7, xb⟩ else zeroF) (if ok then 1 else 0) (if ok then 0 else 10) e w w' := by
  obtain ⟨g, off, rfl, hg, hc⟩ := h.at_ (k := 0) (by simp)
  simp only [List.getElem_cons_zero, Nat.add_zero] at hc
  unfold maxLen at hlen
  have hn0 : 0 < (a :: r).length := by simp
  clear h
  generalize (a :: r).length = n at *
  have lay : ∀ w1 : World, Below w.heap.size w w1 → Laid w1 := fun w1 hb => laid_below hw hb
  have b0 : Below w.heap.size w (w.alloc (.cells zeroF.cells 23)) := (Below.refl _ _).alloc (Nat.le_refl _) _
  have i0 : InsAt (w.alloc (.cells zeroF.cells 23)) w.heap.size zeroF := InsAt.new _ _ _
  have IZ := Lib.hid i0
  clear i0
  go_enter Tryz.func54, Tryz.ntmps54
  go_wp2_with fail
  ((with_reducible refine (hL.go (lay _ b0)).mono ?_); rintro e w1 ⟨rfl, hb1⟩)
  have c1 := b0.trans (hb1.mono (by simp))
  have i1 : Hid (InsAt w1 w.heap.size zeroF) := Lib.hid (IZ.out.below hb1 (by simp))
  clear IZ
  have hc1 : w1.cell? ⟨g, off, none⟩ = some (.int .i64 a) := (c1.cell (p := ⟨g, off, none⟩) hg).trans hc
  go_wp2_with fail
  ((with_reducible refine (hS.go (lay _ c1)).mono ?_); rintro e w2 ⟨rfl, hb2⟩)
  have c2 := c1.trans (hb2.mono c1.size)
  have z1 : w.heap.size < w1.heap.size := by have := hb1.size; simp at this; omega
  have i2 : Hid (InsAt w2 w.heap.size zeroF) := Lib.hid (i1.out.below hb2 z1)
  clear i1
  have hc2 : w2.cell? ⟨g, off, none⟩ = some (.int .i64 a) := (c2.cell (p := ⟨g, off, none⟩) hg).trans hc
  have hg2 : g < w2.heap.size := Nat.lt_of_lt_of_le hg c2.size
  have z2 : w.heap.size < w2.heap.size := Nat.lt_of_lt_of_le z1 hb2.size
  go_wp2_with fail
  have b3 : Below w.heap.size w (w2.alloc (.cells (Fields.cells ⟨x0, x1, x2, x3, x4, x5, x6, x7, xb⟩) 23)) := c2.alloc c2.size _
  have bb : Below w2.heap.size w2 (w2.alloc (.cells (Fields.cells ⟨x0, x1, x2, x3, x4, x5, x6, x7, xb⟩) 23)) := (Below.refl _ _).alloc (Nat.le_refl _) _
  ((with_reducible refine (hL.go (lay _ b3)).mono ?_); rintro e w3 ⟨rfl, hb3⟩)
  have c3 := b3.trans (hb3.mono b3.size)
  have i3 : InsAt w3 w.heap.size zeroF := (i2.out.below bb z2).below hb3 (by simp; omega)
  have j3 : InsAt w3 w2.heap.size ⟨x0, x1, x2, x3, x4, x5, x6, x7, xb⟩ := (InsAt.new _ _ _).below hb3 (by simp)
  have hz3 : w2.heap.size < w3.heap.size := by have := hb3.size; simp at this; omega
  clear i2 bb b0 hc hc1 hc2 hL hS lay
  obtain ⟨⟨p0, p1, p2, p3, p4, p5, p6, p7, p8⟩, q0, q1, q2, q3, q4, q5, q6, q7, q8⟩ := i3
  obtain ⟨⟨r0, r1, r2, r3, r4, r5, r6, r7, r8⟩, _⟩ := j3
  simp only at p0 p1 p2 p3 p4 p5 p6 p7 p8
  simp only at r0 r1 r2 r3 r4 r5 r6 r7 r8
  have hne : ¬ w.heap.size = w2.heap.size := by omega
  cases ok
  · go_wp2_with fail
    exact bodyPost_ret (v := .tuple #[.agg #[.int .i64 0, .int .i64 0, .int .i64 0, .int .i64 0, .int .i64 0, .int .i64 0, .int .i64 0, .int .i64 0, .bool false], .int .i64 0, .int .i64 10]) (by simp [results, Tryz.results54, go_sem, p0, p1, p2, p3, p4, p5, p6, p7, p8]) rfl ⟨rfl, (((((((((c3).setCell (Nat.le_refl _) _).setCell (Nat.le_refl _) _).setCell (Nat.le_refl _) _).setCell (Nat.le_refl _) _).setCell (Nat.le_refl _) _).setCell (Nat.le_refl _) _).setCell (Nat.le_refl _) _).setCell (Nat.le_refl _) _).setCell (Nat.le_refl _) _⟩
  · go_wp2_with fail
    exact bodyPost_ret (v := .tuple #[.agg #[.int .i64 x0, .int .i64 x1, .int .i64 x2, .int .i64 x3, .int .i64 x4, .int .i64 x5, .int .i64 x6, .int .i64 x7, .bool xb], .int .i64 1, .int .i64 0]) (by simp [results, Tryz.results54, go_sem, p0, p1, p2, p3, p4, p5, p6, p7, p8]) rfl ⟨rfl, (((((((((c3).setCell (Nat.le_refl _) _).setCell (Nat.le_refl _) _).setCell (Nat.le_refl _) _).setCell (Nat.le_refl _) _).setCell (Nat.le_refl _) _).setCell (Nat.le_refl _) _).setCell (Nat.le_refl _) _).setCell (Nat.le_refl _) _).setCell (Nat.le_refl _) _⟩
set_option maxRecDepth 100000 in
set_option maxHeartbeats 1000000 in
theorem dec_end (a : Int) (it : Bool) (A : Option Addr) (cap : Nat) (w : World) (h : IAt w w.heap.size A [a]) (hw : Laid w) (hL : Ans 102 [.int .i64 a] (.bool true)) :
    Calls Tryz.prog 54 #[.slice A 1 cap, .bool it] w fun e w' => RetD zeroF 0 2 e w w' := by
  obtain ⟨g, off, rfl, hg, hc⟩ := h.at_ (k := 0) (by simp)
  simp only [List.getElem_cons_zero, Nat.add_zero] at hc
  clear h
  have b0 : Below w.heap.size w (w.alloc (.cells zeroF.cells 23)) := (Below.refl _ _).alloc (Nat.le_refl _) _
  have i0 : InsAt (w.alloc (.cells zeroF.cells 23)) w.heap.size zeroF := InsAt.new _ _ _
  have IZ := Lib.hid i0
  clear i0
  go_enter Tryz.func54, Tryz.ntmps54
  go_wp2_with fail
  ((with_reducible refine (hL.go (laid_below hw b0)).mono ?_); rintro e w1 ⟨rfl, hb1⟩)
  have c1 := b0.trans (hb1.mono (by simp))
  obtain ⟨⟨p0, p1, p2, p3, p4, p5, p6, p7, p8⟩, q0, q1, q2, q3, q4, q5, q6, q7, q8⟩ := IZ.out.below hb1 (by simp)
  simp only at p0 p1 p2 p3 p4 p5 p6 p7 p8
  clear IZ hL b0
  go_wp2_with fail
  exact bodyPost_ret (v := .tuple #[.agg #[.int .i64 0, .int .i64 0, .int .i64 0, .int .i64 0, .int .i64 0, .int .i64 0, .int .i64 0, .int .i64 0, .bool false], .int .i64 0, .int .i64 2]) (by simp [results, Tryz.results54, go_sem, p0, p1, p2, p3, p4, p5, p6, p7, p8]) rfl ⟨rfl, ((((((((c1.setCell (Nat.le_refl _) _).setCell (Nat.le_refl _) _).setCell (Nat.le_refl _) _).setCell (Nat.le_refl _) _).setCell (Nat.le_refl _) _).setCell (Nat.le_refl _) _).setCell (Nat.le_refl _) _).setCell (Nat.le_refl _) _).setCell (Nat.le_refl _) _⟩
set_option maxRecDepth 100000 in
set_option maxHeartbeats 2000000 in
theorem dec_long (a b : Int) (r : List Int) (it : Bool) (A : Option Addr) (cap : Nat) (w : World) (h : IAt w w.heap.size A (a :: b :: r)) (hlen : (a :: b :: r).length ≤ maxLen) (hw : Laid w)
    (hL : Ans 102 [.int .i64 a] (.bool true)) (x0 x1 x2 x3 x4 x5 x6 x7 : Int) (xb ok : Bool)
    (hS : Ans 103 [.int .i64 a, .bool it] (.tuple #[.agg #[.int .i64 x0, .int .i64 x1, .int .i64 x2, .int .i64 x3, .int .i64 x4, .int .i64 x5, .int .i64 x6, .int .i64 x7, .bool xb], .bool ok]))
    (y0 y1 y2 y3 y4 y5 y6 y7 : Int) (yb : Bool) (yk : Bool)
    (hT : Ans 104 [.int .i64 a, .int .i64 b, .bool it] (.tuple #[.agg #[.int .i64 y0, .int .i64 y1, .int .i64 y2, .int .i64 y3, .int .i64 y4, .int .i64 y5, .int .i64 y6, .int .i64 y7, .bool yb], .bool yk])) :
    Calls Tryz.prog 54 #[.slice A (a :: b :: r).length cap, .bool it] w fun e w' => RetD (if yk then ⟨y0, y1, y2, y3, y4, y5, y6, y7, yb⟩ else zeroF) (if yk then 2 else 0) (if yk then 0 else 10) e w w' := by
  obtain ⟨g, off, rfl, hg, hc⟩ := h.at_ (k := 0) (by simp)
  obtain ⟨g', off', hA, hg', hd⟩ := h.at_ (k := 1) (by simp)
  simp only [Option.some.injEq, Addr.mk.injEq, and_true] at hA
  obtain ⟨rfl, rfl⟩ := hA
  simp only [List.getElem_cons_zero, Nat.add_zero] at hc
  simp only [List.getElem_cons_succ, List.getElem_cons_zero] at hd
  unfold maxLen at hlen
  have hn0 : 2 ≤ (a :: b :: r).length := by simp
  clear h hg'
  generalize (a :: b :: r).length = n at *
  have lay : ∀ w1 : World, Below w.heap.size w w1 → Laid w1 := fun w1 hb => laid_below hw hb
  have b0 : Below w.heap.size w (w.alloc (.cells zeroF.cells 23)) := (Below.refl _ _).alloc (Nat.le_refl _) _
  have i0 : InsAt (w.alloc (.cells zeroF.cells 23)) w.heap.size zeroF := InsAt.new _ _ _
  have IZ := Lib.hid i0
  clear i0
  have hlt2 : decide ((n : Int) < 2) = false := decide_eq_false (by omega)
  have h1n : (1 : Int) < (n : Int) := by omega
  go_enter Tryz.func54, Tryz.ntmps54
  go_wp2_with fail
  ((with_reducible refine (hL.go (lay _ b0)).mono ?_); rintro e w1 ⟨rfl, hb1⟩)
  have c1 := b0.trans (hb1.mono (by simp))
  have i1 : Hid (InsAt w1 w.heap.size zeroF) := Lib.hid (IZ.out.below hb1 (by simp))
  clear IZ
  have hc1 : w1.cell? ⟨g, off, none⟩ = some (.int .i64 a) := (c1.cell (p := ⟨g, off, none⟩) hg).trans hc
  go_wp2_with fail
  ((with_reducible refine (hS.go (lay _ c1)).mono ?_); rintro e w2 ⟨rfl, hb2⟩)
  have c2 := c1.trans (hb2.mono c1.size)
  have z1 : w.heap.size < w1.heap.size := by have := hb1.size; simp at this; omega
  have i2 : Hid (InsAt w2 w.heap.size zeroF) := Lib.hid (i1.out.below hb2 z1)
  clear i1
  have hc2 : w2.cell? ⟨g, off, none⟩ = some (.int .i64 a) := (c2.cell (p := ⟨g, off, none⟩) hg).trans hc
  have hg2 : g < w2.heap.size := Nat.lt_of_lt_of_le hg c2.size
  have z2 : w.heap.size < w2.heap.size := Nat.lt_of_lt_of_le z1 hb2.size
  clear hc1
  go_wp2_with fail
  have b3 : Below w.heap.size w (w2.alloc (.cells (Fields.cells ⟨x0, x1, x2, x3, x4, x5, x6, x7, xb⟩) 23)) := c2.alloc c2.size _
  have bb : Below w2.heap.size w2 (w2.alloc (.cells (Fields.cells ⟨x0, x1, x2, x3, x4, x5, x6, x7, xb⟩) 23)) := (Below.refl _ _).alloc (Nat.le_refl _) _
  ((with_reducible refine (hL.go (lay _ b3)).mono ?_); rintro e w3 ⟨rfl, hb3⟩)
  have c3 := b3.trans (hb3.mono b3.size)
  have i3 : Hid (InsAt w3 w.heap.size zeroF) := Lib.hid ((i2.out.below bb z2).below hb3 (by simp; omega))
  have j3 : Hid (InsAt w3 w2.heap.size ⟨x0, x1, x2, x3, x4, x5, x6, x7, xb⟩) := Lib.hid ((InsAt.new _ _ _).below hb3 (by simp))
  have hz3 : w2.heap.size < w3.heap.size := by have := hb3.size; simp at this; omega
  have hc3 : w3.cell? ⟨g, off, none⟩ = some (.int .i64 a) := (c3.cell (p := ⟨g, off, none⟩) hg).trans hc
  have hd3 : w3.cell? ⟨g, off + 1, none⟩ = some (.int .i64 b) := (c3.cell (p := ⟨g, off + 1, none⟩) hg).trans hd
  clear i2 bb b0 hc2
  go_wp2_with fail
  have hT' := hT.go (lay _ c3.drew)
  have hg3 : g < w3.drew.heap.size := Nat.lt_of_lt_of_le hg c3.size
  have z23 : w2.heap.size < w3.drew.heap.size := hz3
  have z03 : w.heap.size < w3.drew.heap.size := Nat.lt_trans z2 hz3
  have nb : w2.heap.size ≠ g := by omega
  clear hL hS
  go_region_held3 (fun w' => w'.cell? ⟨g, off, none⟩ = some (.int .i64 a) ∧ w'.cell? ⟨g, off + 1, none⟩ = some (.int .i64 b))
    (first
      | (with_reducible exact ⟨hc4, hd4⟩)
      | (with_reducible exact ⟨(far9 nb _ _ _ _ _ _ _ _ _ _).trans hc4, (far9 nb _ _ _ _ _ _ _ _ _ _).trans hd4⟩)
      | go_keep)
    (first
      | (go_at_call 104; refine hT'.mono ?_; rintro e w4 ⟨rfl, hb4⟩; obtain ⟨⟨r0, r1, r2, r3, r4, r5, r6, r7, r8⟩, s0, s1, s2, s3, s4, s5, s6, s7, s8⟩ := j3.out.drew.below hb4 z23; have hc4 := (hb4.cell (p := ⟨g, off, none⟩) hg3).trans hc3; have hd4 := (hb4.cell (p := ⟨g, off + 1, none⟩) hg3).trans hd3))
  obtain ⟨⟨p0, p1, p2, p3, p4, p5, p6, p7, p8⟩, q0, q1, q2, q3, q4, q5, q6, q7, q8⟩ := i3.out.drew.below hb4 z03
  simp only at p0 p1 p2 p3 p4 p5 p6 p7 p8
  have c4 := c3.drew.trans (hb4.mono c3.size)
  have hne : ¬ w.heap.size = w2.heap.size := by omega
  have hne' : ¬ w2.heap.size = w.heap.size := by omega
  clear i3 j3 hc3 hd3 hT hT' b3 hb3 hb2 hb1
  cases yk
  · go_wp2_with fail
    exact bodyPost_ret (v := .tuple #[.agg #[.int .i64 0, .int .i64 0, .int .i64 0, .int .i64 0, .int .i64 0, .int .i64 0, .int .i64 0, .int .i64 0, .bool false], .int .i64 0, .int .i64 10]) (by simp [results, Tryz.results54, go_sem, p0, p1, p2, p3, p4, p5, p6, p7, p8]) rfl ⟨rfl, (((((((((((((((((c4.setCell (Nat.le_of_lt z2) _).setCell (Nat.le_of_lt z2) _).setCell (Nat.le_of_lt z2) _).setCell (Nat.le_of_lt z2) _).setCell (Nat.le_of_lt z2) _).setCell (Nat.le_of_lt z2) _).setCell (Nat.le_of_lt z2) _).setCell (Nat.le_of_lt z2) _).setCell (Nat.le_of_lt z2) _).setCell (Nat.le_refl _) _).setCell (Nat.le_refl _) _).setCell (Nat.le_refl _) _).setCell (Nat.le_refl _) _).setCell (Nat.le_refl _) _).setCell (Nat.le_refl _) _).setCell (Nat.le_refl _) _).setCell (Nat.le_refl _) _).setCell (Nat.le_refl _) _⟩
  · go_wp2_with fail
    exact bodyPost_ret (v := .tuple #[.agg #[.int .i64 y0, .int .i64 y1, .int .i64 y2, .int .i64 y3, .int .i64 y4, .int .i64 y5, .int .i64 y6, .int .i64 y7, .bool yb], .int .i64 2, .int .i64 0]) (by simp [results, Tryz.results54, go_sem, p0, p1, p2, p3, p4, p5, p6, p7, p8]) rfl ⟨rfl, (((((((((((((((((c4.setCell (Nat.le_of_lt z2) _).setCell (Nat.le_of_lt z2) _).setCell (Nat.le_of_lt z2) _).setCell (Nat.le_of_lt z2) _).setCell (Nat.le_of_lt z2) _).setCell (Nat.le_of_lt z2) _).setCell (Nat.le_of_lt z2) _).setCell (Nat.le_of_lt z2) _).setCell (Nat.le_of_lt z2) _).setCell (Nat.le_refl _) _).setCell (Nat.le_refl _) _).setCell (Nat.le_refl _) _).setCell (Nat.le_refl _) _).setCell (Nat.le_refl _) _).setCell (Nat.le_refl _) _).setCell (Nat.le_refl _) _).setCell (Nat.le_refl _) _).setCell (Nat.le_refl _) _⟩
end Go.Proofs.YthbdmlcbdibiiaaGreatDoor
/- For the seat: decode.Decode at any halfwords, as a function of them. -/
namespace Go.Proofs.YthbdmlcbdibiiaaGreatDoor
open Go.Sx Go.ChangeShapes Go.WideShapes Go.RowKit Go.Joins Go.Deep
set_option maxRecDepth 100000 in
theorem sho_any {a : Int} (ha : kHas .i64 a) (it : Bool) : ∃ p, DecP 103 [.int .i64 a, .bool it] p := sho_dec (fun j hj => sha.all j (by rw [sho.len] at hj; exact hj)) ha it
set_option maxRecDepth 100000 in
theorem tal_any {a b : Int} (ha : kHas .i64 a) (hb : kHas .i64 b) (it : Bool) : ∃ p, DecP 104 [.int .i64 a, .int .i64 b, .bool it] p := tal_dec (fun j hj => tla.all j (by rw [tal.len] at hj; exact hj)) ha hb it
open Classical in
noncomputable def shortOf (a : Int) (it : Bool) : Fields × Bool := if h : ∃ p, DecP 103 [.int .i64 a, .bool it] p then Classical.choose h else (zeroF, false)
open Classical in
noncomputable def tallOf (a b : Int) (it : Bool) : Fields × Bool := if h : ∃ p, DecP 104 [.int .i64 a, .int .i64 b, .bool it] p then Classical.choose h else (zeroF, false)
set_option maxRecDepth 100000 in
theorem shortOf_ok {a : Int} (ha : kHas .i64 a) (it : Bool) : DecP 103 [.int .i64 a, .bool it] (shortOf a it) := by
  unfold shortOf
  rw [dif_pos (sho_any ha it)]
  exact Classical.choose_spec (sho_any ha it)
set_option maxRecDepth 100000 in
theorem tallOf_ok {a b : Int} (ha : kHas .i64 a) (hb : kHas .i64 b) (it : Bool) : DecP 104 [.int .i64 a, .int .i64 b, .bool it] (tallOf a b it) := by
  unfold tallOf
  rw [dif_pos (tal_any ha hb it)]
  exact Classical.choose_spec (tal_any ha hb it)
def pickD (p : Fields × Bool) (n : Int) : Fields × Int × Int := (if p.2 then p.1 else zeroF, if p.2 then n else 0, if p.2 then 0 else 10)
noncomputable def decOf : List Int → Bool → Fields × Int × Int
  | [], _ => (zeroF, 0, 2)
  | [a], it => if longB a then (zeroF, 0, 2) else pickD (shortOf a it) 1
  | a :: b :: _, it => if longB a then pickD (tallOf a b it) 2 else pickD (shortOf a it) 1
set_option maxRecDepth 100000 in
theorem decOf_one (a : Int) (it : Bool) : decOf [a] it = if longB a then (zeroF, 0, 2) else pickD (shortOf a it) 1 := rfl
set_option maxRecDepth 100000 in
theorem decOf_two (a b : Int) (r : List Int) (it : Bool) : decOf (a :: b :: r) it = if longB a then pickD (tallOf a b it) 2 else pickD (shortOf a it) 1 := rfl
set_option maxRecDepth 100000 in
theorem dec_any (l : List Int) (A : Option Addr) (cap : Nat) (it : Bool) (w : World) (h : IAt w w.heap.size A l) (hl : ∀ a ∈ l, kHas .i64 a) (hlen : l.length ≤ maxLen) (hw : Laid w) :
    Calls Tryz.prog 54 #[.slice A l.length cap, .bool it] w fun e w' => RetD (decOf l it).1 (decOf l it).2.1 (decOf l it).2.2 e w w' := by
  match l, h, hl, hlen with
  | [], _, _, _ => exact dec_nil A cap it w
  | a :: r, h, hl, hlen =>
    have ha := hl a (by simp)
    have hL := long_ans ha
    have hS := (shortOf_ok ha it).ans
    cases hlb : longB a
    · rw [hlb] at hL
      have e : decOf (a :: r) it = pickD (shortOf a it) 1 := by
        cases r
        · rw [decOf_one, hlb]; rfl
        · rw [decOf_two, hlb]; rfl
      rw [e]
      exact dec_short a r it A cap w h hlen hw hL _ _ _ _ _ _ _ _ _ _ hS
    · rw [hlb] at hL
      match r, h, hl, hlen with
      | [], h, _, _ =>
        have e : decOf [a] it = (zeroF, 0, 2) := by rw [decOf_one, hlb]; rfl
        rw [e]
        exact dec_end a it A cap w h hw hL
      | b :: r, h, hl, hlen =>
        have e : decOf (a :: b :: r) it = pickD (tallOf a b it) 2 := by rw [decOf_two, hlb]; rfl
        rw [e]
        exact dec_long a b r it A cap w h hlen hw hL _ _ _ _ _ _ _ _ _ _ hS _ _ _ _ _ _ _ _ _ _ (tallOf_ok ha (hl b (by simp)) it).ans
set_option maxRecDepth 100000 in
theorem pickD_ok {p : Fields × Bool} (n : Int) (h : p.1.Ok) : (pickD p n).1.Ok := by
  unfold pickD
  by_cases hp : p.2 <;> simp only [hp]
  · exact h
  · exact zeroF_ok
set_option maxRecDepth 100000 in
theorem decOf_ok {l : List Int} (hl : ∀ a ∈ l, kHas .i64 a) (it : Bool) : (decOf l it).1.Ok := by
  match l, hl with
  | [], _ => exact zeroF_ok
  | [a], hl =>
    rw [decOf_one]
    split
    · exact zeroF_ok
    · exact pickD_ok _ (shortOf_ok (hl a (by simp)) it).ok
  | a :: b :: r, hl =>
    rw [decOf_two]
    split
    · exact pickD_ok _ (tallOf_ok (hl a (by simp)) (hl b (by simp)) it).ok
    · exact pickD_ok _ (shortOf_ok (hl a (by simp)) it).ok
end Go.Proofs.YthbdmlcbdibiiaaGreatDoor
/- For the seat: a store of an instruction's nine cells. -/
namespace Go.Proofs.YthbdmlcbdibiiaaGreatDoor
open Go.Sx Go.ChangeShapes Go.WideShapes Go.RowKit Go.Joins Go.Deep
set_option maxRecDepth 100000 in
theorem below9 {n : Nat} {w W : World} (h : Below n w W) {b : Nat} (hb : n ≤ b) (v0 v1 v2 v3 v4 v5 v6 v7 v8 : Value) : Below n w (((((((((W.setCell ⟨b, 0, none⟩ v0).setCell ⟨b, 1, none⟩ v1).setCell ⟨b, 2, none⟩ v2).setCell ⟨b, 3, none⟩ v3).setCell ⟨b, 4, none⟩ v4).setCell ⟨b, 5, none⟩ v5).setCell ⟨b, 6, none⟩ v6).setCell ⟨b, 7, none⟩ v7).setCell ⟨b, 8, none⟩ v8) :=
  (((((((((h).setCell (p := ⟨b, 0, none⟩) hb _).setCell (p := ⟨b, 1, none⟩) hb _).setCell (p := ⟨b, 2, none⟩) hb _).setCell (p := ⟨b, 3, none⟩) hb _).setCell (p := ⟨b, 4, none⟩) hb _).setCell (p := ⟨b, 5, none⟩) hb _).setCell (p := ⟨b, 6, none⟩) hb _).setCell (p := ⟨b, 7, none⟩) hb _).setCell (p := ⟨b, 8, none⟩) hb _
set_option maxRecDepth 100000 in
theorem st9 {W : World} {b : Nat} {x : Fields} (h : InsAt W b x) (z : Fields) (W3 : World) (h3 : (((((((((W.setCell ⟨b, 0, none⟩ (.int .i64 z.x0)).setCell ⟨b, 1, none⟩ (.int .i64 z.x1)).setCell ⟨b, 2, none⟩ (.int .i64 z.x2)).setCell ⟨b, 3, none⟩ (.int .i64 z.x3)).setCell ⟨b, 4, none⟩ (.int .i64 z.x4)).setCell ⟨b, 5, none⟩ (.int .i64 z.x5)).setCell ⟨b, 6, none⟩ (.int .i64 z.x6)).setCell ⟨b, 7, none⟩ (.int .i64 z.x7)).setCell ⟨b, 8, none⟩ (.bool z.b)) = W3) :
    (W3.cell? ⟨b, 0, none⟩ = some (.int .i64 z.x0) ∧ W3.cell? ⟨b, 1, none⟩ = some (.int .i64 z.x1) ∧ W3.cell? ⟨b, 2, none⟩ = some (.int .i64 z.x2) ∧ W3.cell? ⟨b, 3, none⟩ = some (.int .i64 z.x3) ∧ W3.cell? ⟨b, 4, none⟩ = some (.int .i64 z.x4) ∧ W3.cell? ⟨b, 5, none⟩ = some (.int .i64 z.x5) ∧ W3.cell? ⟨b, 6, none⟩ = some (.int .i64 z.x6) ∧ W3.cell? ⟨b, 7, none⟩ = some (.int .i64 z.x7) ∧ W3.cell? ⟨b, 8, none⟩ = some (.bool z.b)) ∧
    (∀ g o, b ≠ g → W3.cell? ⟨g, o, none⟩ = W.cell? ⟨g, o, none⟩) := by
  subst h3
  obtain ⟨⟨p0, p1, p2, p3, p4, p5, p6, p7, p8⟩, _⟩ := h
  refine ⟨⟨?_, ?_, ?_, ?_, ?_, ?_, ?_, ?_, ?_⟩, fun g o hg => far9 hg o _ _ _ _ _ _ _ _ _⟩ <;> simp [go_sem, p0, p1, p2, p3, p4, p5, p6, p7, p8]
end Go.Proofs.YthbdmlcbdibiiaaGreatDoor
/- The machine's fetch. -/
namespace Go.Proofs.YthbdmlcbdibiiaaGreatDoor
open Go.RowKit Go.Mem Go.Sx Go.Deep
def itT (it : Int) : Bool := bits BinOp.and IntKind.i64 it 15 != 0
def fetchL (C : List UInt8) (pc : Int) : List Int := if pc + 4 ≤ C.length then unpB ((C.drop pc.toNat).take 4) else unpB ((C.drop pc.toNat).take 2)
def standB (C : List UInt8) (pc : Int) : Bool := bits BinOp.and IntKind.u32 pc 1 == 0 && (decide (pc < C.length) && decide ((pc + 1) % 4294967296 < C.length))
noncomputable def fetchF (C : List UInt8) (pc it : Int) : Fields × Int := if standB C pc then ((decOf (fetchL C pc) (itT it)).1, 2 * (decOf (fetchL C pc) (itT it)).2.1) else (zeroF, 0)
set_option maxRecDepth 100000 in
theorem fetchL_has (C : List UInt8) (pc : Int) : ∀ v ∈ fetchL C pc, kHas .i64 v := by
  unfold fetchL
  split <;> exact unpB_has _
set_option maxRecDepth 100000 in
theorem fetchF_ok (C : List UInt8) (pc it : Int) : (fetchF C pc it).1.Ok := by
  unfold fetchF
  split
  · exact decOf_ok (fetchL_has C pc) _
  · exact zeroF_ok
set_option maxRecDepth 100000 in
theorem decOf_two' (l : List Int) (it : Bool) : (decOf l it).2.1 = 0 ∨ (decOf l it).2.1 = 1 ∨ (decOf l it).2.1 = 2 := by
  have hp : ∀ (p : Fields × Bool) (n : Int), (pickD p n).2.1 = 0 ∨ (pickD p n).2.1 = n := by
    intro p n
    unfold pickD
    cases p.2
    · exact .inl rfl
    · exact .inr rfl
  match l with
  | [] => exact .inl rfl
  | [a] =>
    rw [decOf_one]
    split
    · exact .inl rfl
    · rcases hp (shortOf a it) 1 with h | h
      · exact .inl h
      · exact .inr (.inl h)
  | a :: b :: r =>
    rw [decOf_two]
    split
    · rcases hp (tallOf a b it) 2 with h | h
      · exact .inl h
      · exact .inr (.inr h)
    · rcases hp (shortOf a it) 1 with h | h
      · exact .inl h
      · exact .inr (.inl h)
set_option maxRecDepth 100000 in
theorem fetchF_size (C : List UInt8) (pc it : Int) : (fetchF C pc it).2 = 0 ∨ (fetchF C pc it).2 = 2 ∨ (fetchF C pc it).2 = 4 := by
  unfold fetchF
  split
  · have := decOf_two' (fetchL C pc) (itT it)
    simp only
    omega
  · exact .inl rfl
set_option maxRecDepth 100000 in
set_option maxHeartbeats 2000000 in
theorem fetch_no (w : World) (b : Nat) (C : ByteArray) (pc : Int) (hC : C.size ≤ 1000000) (p0 : 0 ≤ pc) (p1 : pc < 4294967296)
    (c15 : w.cell? ⟨b, 15, none⟩ = some (.int .u32 pc)) (c22 : w.cell? ⟨b, 22, none⟩ = some (.string C)) (hs : standB C.data.toList pc = false) :
    Calls Tryz.prog 29 #[.pointer (some ⟨b, 0, none⟩)] w fun e w' => e = .returned (.tuple #[zeroF.val, .int .i64 0]) ∧ Below w.heap.size w w' := by
  have hbl := World.block_lt_of_cell? w _ c22
  have hlen : C.data.toList.length = C.size := rfl
  have w0 : 0 ≤ (pc + 1) % 4294967296 := by omega
  have w1 : (pc + 1) % 4294967296 < 4294967296 := by omega
  have b0 : Below w.heap.size w (w.alloc (.cells zeroF.cells 23)) := (Below.refl _ _).alloc (Nat.le_refl _) _
  have hin := fun (wr : World) (hb : Below w.heap.size w wr) => in_any wr b C pc ((hb.cell (p := ⟨b, 22, none⟩) hbl).trans c22) hC p0 p1
  have hin1 := fun (wr : World) (hb : Below w.heap.size w wr) => in_any wr b C ((pc + 1) % 4294967296) ((hb.cell (p := ⟨b, 22, none⟩) hbl).trans c22) hC w0 w1
  have c15' := (b0.cell (p := ⟨b, 15, none⟩) hbl).trans c15
  unfold standB at hs
  rw [hlen] at hs
  dsimp only [zeroF, Fields.cells] at b0 c15'
  show Calls Tryz.prog 29 #[.pointer (some ⟨b, 0, none⟩)] w fun e w' => e = .returned (.tuple #[.agg #[.int .i64 0, .int .i64 0, .int .i64 0, .int .i64 0, .int .i64 0, .int .i64 0, .int .i64 0, .int .i64 0, .bool false], .int .i64 0]) ∧ Below w.heap.size w w'
  cases h1 : (bits BinOp.and IntKind.u32 pc 1 != 0) with
  | true =>
    clear hs hin hin1
    go_enter Tryz.func29, Tryz.ntmps29
    go_wp2_with fail
    exact bodyPost_ret (v := .tuple #[.agg #[.int .i64 0, .int .i64 0, .int .i64 0, .int .i64 0, .int .i64 0, .int .i64 0, .int .i64 0, .int .i64 0, .bool false], .int .i64 0]) (by simp [results, Tryz.results29, go_sem]) rfl ⟨rfl, b0⟩
  | false =>
    have h1' : (bits BinOp.and IntKind.u32 pc 1 == 0) = true := by
      simpa using h1
    rw [h1', Bool.true_and] at hs
    clear h1'
    have hin := hin _ b0
    have hin1 := hin1 _ b0
    cases h2 : decide (pc < (C.size : Int)) with
    | false =>
      simp only [h2] at hin
      clear hs hin1
      go_enter Tryz.func29, Tryz.ntmps29
      go_wp2_with fail
      ((with_reducible refine hin.mono ?_); rintro e w2 ⟨rfl, rfl⟩)
      go_wp2_with fail
      exact bodyPost_ret (v := .tuple #[.agg #[.int .i64 0, .int .i64 0, .int .i64 0, .int .i64 0, .int .i64 0, .int .i64 0, .int .i64 0, .int .i64 0, .bool false], .int .i64 0]) (by simp [results, Tryz.results29, go_sem]) rfl ⟨rfl, b0⟩
    | true =>
      rw [h2, Bool.true_and] at hs
      simp only [h2] at hin
      simp only [hs] at hin1
      go_enter Tryz.func29, Tryz.ntmps29
      go_wp2_with fail
      ((with_reducible refine hin.mono ?_); rintro e w2 ⟨rfl, rfl⟩)
      go_wp2_with fail
      ((with_reducible refine hin1.mono ?_); rintro e w2 ⟨rfl, rfl⟩)
      go_wp2_with fail
      exact bodyPost_ret (v := .tuple #[.agg #[.int .i64 0, .int .i64 0, .int .i64 0, .int .i64 0, .int .i64 0, .int .i64 0, .int .i64 0, .int .i64 0, .bool false], .int .i64 0]) (by simp [results, Tryz.results29, go_sem]) rfl ⟨rfl, b0⟩
set_option maxRecDepth 100000 in
set_option maxHeartbeats 4000000 in
theorem fetch_yes (w : World) (b : Nat) (C : ByteArray) (pc it : Int) (hw : Laid w) (hC : C.size ≤ 1000000) (p0 : 0 ≤ pc) (p1 : pc < 4294967296)
    (c15 : w.cell? ⟨b, 15, none⟩ = some (.int .u32 pc)) (c20 : w.cell? ⟨b, 20, none⟩ = some (.int .i64 it)) (c22 : w.cell? ⟨b, 22, none⟩ = some (.string C)) (hs : standB C.data.toList pc = true) :
    Calls Tryz.prog 29 #[.pointer (some ⟨b, 0, none⟩)] w fun e w' => e = .returned (.tuple #[(decOf (fetchL C.data.toList pc) (itT it)).1.val, .int .i64 (2 * (decOf (fetchL C.data.toList pc) (itT it)).2.1)]) ∧ Below w.heap.size w w' := by
  have hbl := World.block_lt_of_cell? w _ c22
  have hlen : C.data.toList.length = C.size := rfl
  have w0 : 0 ≤ (pc + 1) % 4294967296 := by omega
  have w1 : (pc + 1) % 4294967296 < 4294967296 := by omega
  have b0 : Below w.heap.size w (w.alloc (.cells zeroF.cells 23)) := (Below.refl _ _).alloc (Nat.le_refl _) _
  have i0 : InsAt (w.alloc (.cells zeroF.cells 23)) w.heap.size zeroF := InsAt.new _ _ _
  have IZ := Lib.hid i0
  clear i0
  have hin := in_any _ b C pc ((b0.cell (p := ⟨b, 22, none⟩) hbl).trans c22) hC p0 p1
  have c15' := (b0.cell (p := ⟨b, 15, none⟩) hbl).trans c15
  have c22' := (b0.cell (p := ⟨b, 22, none⟩) hbl).trans c22
  unfold standB at hs
  rw [hlen] at hs
  simp only [Bool.and_eq_true] at hs
  obtain ⟨h1, h2, h3⟩ := hs
  have h1 : (bits BinOp.and IntKind.u32 pc 1 != 0) = false := by simpa using h1
  simp only [h2] at hin
  have k2 := of_decide_eq_true h2
  have k3 := of_decide_eq_true h3
  have k4 : pc + 1 < C.size := by omega
  have e2 : (pc + 2) % 4294967296 = pc + 2 := by omega
  have hin1 := in_any _ b C (pc + 1) ((b0.cell (p := ⟨b, 22, none⟩) hbl).trans c22) hC (by omega) (by omega)
  have h3 : decide (pc + 1 < (C.size : Int)) = true := decide_eq_true k4
  simp only [h3] at hin1
  clear h2 h3 k3 w0 w1
  have s1 : pc ≤ pc + 2 := by omega
  have s2 : pc + 2 ≤ (C.size : Int) := by omega
  have ex : ∀ n : Int, 0 ≤ n → (C.extract pc.toNat (pc + n).toNat).data.toList = (C.data.toList.drop pc.toNat).take n.toNat := by
    intro n hn
    rw [Lib.extract_data, show (pc + n).toNat - pc.toNat = n.toNat by omega]
  have ez : ∀ n : Int, 0 ≤ n → (C.extract pc.toNat (pc + n).toNat).size ≤ 4000000000 := by
    intro n hn
    have h : (C.extract pc.toNat (pc + n).toNat).data.toList.length = (C.extract pc.toNat (pc + n).toNat).size := rfl
    rw [ex n hn, List.length_take, List.length_drop] at h
    omega
  have hU := fun (n : Int) (hn : 0 ≤ n) (wr : World) => unpack_any (C.extract pc.toNat (pc + n).toNat) wr (ez n hn)
  have hU2 := hU 2 (by omega)
  have hU4 := hU 4 (by omega)
  simp only [ex 2 (by omega), show (2 : Int).toNat = 2 from rfl] at hU2
  simp only [ex 4 (by omega), show (4 : Int).toNat = 4 from rfl] at hU4
  clear hU ex ez
  obtain ⟨L2, hL2⟩ : ∃ L, unpB ((C.data.toList.drop pc.toNat).take 2) = L := ⟨_, rfl⟩
  obtain ⟨L4, hL4⟩ : ∃ L, unpB ((C.data.toList.drop pc.toNat).take 4) = L := ⟨_, rfl⟩
  have hF : fetchL C.data.toList pc = if pc + 4 ≤ (C.size : Int) then L4 else L2 := by
    unfold fetchL
    rw [hlen, hL2, hL4]
  have v2 : ∀ v ∈ L2, kHas .i64 v := by rw [← hL2]; exact unpB_has _
  have v4 : ∀ v ∈ L4, kHas .i64 v := by rw [← hL4]; exact unpB_has _
  have z2 : L2.length ≤ maxLen := by rw [← hL2]; have := unpB_len ((C.data.toList.drop pc.toNat).take 2); rw [List.length_take] at this; unfold maxLen; omega
  have z4 : L4.length ≤ maxLen := by rw [← hL4]; have := unpB_len ((C.data.toList.drop pc.toNat).take 4); rw [List.length_take] at this; unfold maxLen; omega
  rw [hL2] at hU2
  rw [hL4] at hU4
  clear hL2 hL4
  generalize hR : decOf (fetchL C.data.toList pc) (itT it) = R
  have hn := decOf_two' (fetchL C.data.toList pc) (itT it)
  rw [hR] at hn
  obtain ⟨⟨x0, x1, x2, x3, x4, x5, x6, x7, xb⟩, n, er⟩ := R
  have hn2 : wrap64 (2 * n) = 2 * n := IntWalk.wrap64_in _ (by dsimp only at hn; omega)
  dsimp only [Fields.val]
  dsimp only [zeroF, Fields.cells] at b0 c15' c22' hin hin1
  go_enter Tryz.func29, Tryz.ntmps29
  go_wp2_with fail
  ((with_reducible refine hin.mono ?_); rintro e w2 ⟨rfl, rfl⟩)
  go_wp2_with fail
  ((with_reducible refine hin1.mono ?_); rintro e w2 ⟨rfl, rfl⟩)
  go_wp2_with fail
  ((with_reducible refine (hU2 _).mono ?_); rintro e w3 ⟨A1, cap1, rfl, hA1, hcap1, hb1⟩)
  have B1 : Below w.heap.size w w3 := b0.trans (hb1.mono b0.size)
  have k20 := (B1.cell (p := ⟨b, 20, none⟩) hbl).trans c20
  have k22 := (B1.cell (p := ⟨b, 22, none⟩) hbl).trans c22
  have I1 : Hid (InsAt w3 w.heap.size zeroF) := Lib.hid (IZ.out.below hb1 (by simp))
  clear hin hin1 c15' c22' c15 IZ
  by_cases h4 : pc + 4 ≤ (C.size : Int)
  · have d4 : decide (pc + 4 ≤ (C.size : Int)) = true := decide_eq_true h4
    rw [if_pos h4] at hF
    rw [hF] at hR
    have s3 : pc ≤ pc + 4 := by omega
    go_wp2_with fail
    ((with_reducible refine (hU4 _).mono ?_); rintro e w4 ⟨A2, cap2, rfl, hA2, hcap2, hb2⟩)
    have B2 : Below w.heap.size w w4 := B1.trans (hb2.mono B1.size)
    have g20 := (B2.cell (p := ⟨b, 20, none⟩) hbl).trans c20
    have hz := Nat.lt_of_lt_of_le (show w.heap.size < (w.alloc (.cells zeroF.cells 23)).heap.size by simp) hb1.size
    have I2 : Hid (InsAt w4 w.heap.size zeroF) := Lib.hid (I1.out.below hb2 hz)
    have hD := dec_any L4 A2 cap2 (itT it) w4 hA2 v4 z4 (laid_below hw B2)
    rw [hR] at hD
    dsimp only [Fields.val] at hD
    unfold itT at hD
    clear k20 k22 I1 hA1 hcap1 hU2 hU4 hF v2 v4 z2 z4 hR
    go_wp2_with fail
    ((with_reducible refine hD.mono ?_); rintro e w5 ⟨rfl, hb5⟩)
    have B5 : Below w.heap.size w w5 := B2.trans (hb5.mono B2.size)
    have I5 := I2.out.below hb5 (Nat.lt_of_lt_of_le hz hb2.size)
    have hz5 : w.heap.size < w5.heap.size := Nat.lt_of_lt_of_le (Nat.lt_of_lt_of_le hz hb2.size) hb5.size
    have IX := I5
    dsimp only [Fields.val]
    clear hD I2 hb5 hb1 hb2 hC c20 g20
    obtain ⟨⟨p0', p1', p2', p3', p4', p5', p6', p7', p8'⟩, Q0, Q1, Q2, Q3, Q4, Q5, Q6, Q7, Q8⟩ := I5
    go_wp2_with fail
    generalize hW3 : (((((((((w5.setCell ⟨w.heap.size, 0, none⟩ (.int .i64 x0)).setCell ⟨w.heap.size, 1, none⟩ (.int .i64 x1)).setCell ⟨w.heap.size, 2, none⟩ (.int .i64 x2)).setCell ⟨w.heap.size, 3, none⟩ (.int .i64 x3)).setCell ⟨w.heap.size, 4, none⟩ (.int .i64 x4)).setCell ⟨w.heap.size, 5, none⟩ (.int .i64 x5)).setCell ⟨w.heap.size, 6, none⟩ (.int .i64 x6)).setCell ⟨w.heap.size, 7, none⟩ (.int .i64 x7)).setCell ⟨w.heap.size, 8, none⟩ (.bool xb)) = W3
    obtain ⟨⟨q0, q1, q2, q3, q4, q5, q6, q7, q8⟩, _⟩ := st9 IX ⟨x0, x1, x2, x3, x4, x5, x6, x7, xb⟩ W3 hW3
    have BW : Below w.heap.size w W3 := by
      rw [← hW3]
      exact below9 B5 (Nat.le_refl _) _ _ _ _ _ _ _ _ _
    have hlt : w.heap.size < W3.heap.size := by
      have := World.block_lt_of_cell? W3 _ q0
      exact this
    exact bodyPost_ret (v := .tuple #[.agg #[.int .i64 x0, .int .i64 x1, .int .i64 x2, .int .i64 x3, .int .i64 x4, .int .i64 x5, .int .i64 x6, .int .i64 x7, .bool xb], .int .i64 (2 * n)]) (by simp [results, Tryz.results29, go_sem, q0, q1, q2, q3, q4, q5, q6, q7, q8, hlt]) rfl ⟨rfl, BW.alloc BW.size _⟩
  · have d4 : decide (pc + 4 ≤ (C.size : Int)) = false := decide_eq_false h4
    rw [if_neg h4] at hF
    rw [hF] at hR
    have hz := Nat.lt_of_lt_of_le (show w.heap.size < (w.alloc (.cells zeroF.cells 23)).heap.size by simp) hb1.size
    have hD := dec_any L2 A1 cap1 (itT it) w3 hA1 v2 z2 (laid_below hw B1)
    rw [hR] at hD
    dsimp only [Fields.val] at hD
    unfold itT at hD
    clear hA1 hcap1 hU2 hU4 hF v2 v4 z2 z4 hR
    go_wp2_with fail
    ((with_reducible refine hD.mono ?_); rintro e w5 ⟨rfl, hb5⟩)
    have B5 : Below w.heap.size w w5 := B1.trans (hb5.mono B1.size)
    have I5 := I1.out.below hb5 hz
    have hz5 : w.heap.size < w5.heap.size := Nat.lt_of_lt_of_le hz hb5.size
    dsimp only [Fields.val]
    have IX := I5
    clear hD I1 hb5 hb1 hC c20 k20 k22
    obtain ⟨⟨p0', p1', p2', p3', p4', p5', p6', p7', p8'⟩, Q0, Q1, Q2, Q3, Q4, Q5, Q6, Q7, Q8⟩ := I5
    go_wp2_with fail
    generalize hW3 : (((((((((w5.setCell ⟨w.heap.size, 0, none⟩ (.int .i64 x0)).setCell ⟨w.heap.size, 1, none⟩ (.int .i64 x1)).setCell ⟨w.heap.size, 2, none⟩ (.int .i64 x2)).setCell ⟨w.heap.size, 3, none⟩ (.int .i64 x3)).setCell ⟨w.heap.size, 4, none⟩ (.int .i64 x4)).setCell ⟨w.heap.size, 5, none⟩ (.int .i64 x5)).setCell ⟨w.heap.size, 6, none⟩ (.int .i64 x6)).setCell ⟨w.heap.size, 7, none⟩ (.int .i64 x7)).setCell ⟨w.heap.size, 8, none⟩ (.bool xb)) = W3
    obtain ⟨⟨q0, q1, q2, q3, q4, q5, q6, q7, q8⟩, _⟩ := st9 IX ⟨x0, x1, x2, x3, x4, x5, x6, x7, xb⟩ W3 hW3
    have BW : Below w.heap.size w W3 := by
      rw [← hW3]
      exact below9 B5 (Nat.le_refl _) _ _ _ _ _ _ _ _ _
    have hlt : w.heap.size < W3.heap.size := by
      have := World.block_lt_of_cell? W3 _ q0
      exact this
    exact bodyPost_ret (v := .tuple #[.agg #[.int .i64 x0, .int .i64 x1, .int .i64 x2, .int .i64 x3, .int .i64 x4, .int .i64 x5, .int .i64 x6, .int .i64 x7, .bool xb], .int .i64 (2 * n)]) (by simp [results, Tryz.results29, go_sem, q0, q1, q2, q3, q4, q5, q6, q7, q8, hlt]) rfl ⟨rfl, BW.alloc BW.size _⟩
set_option maxRecDepth 100000 in
theorem fetch_any (w : World) (b : Nat) (C : List UInt8) (pc it : Int) (hw : Laid w) (hC : C.length ≤ 1000000) (p0 : 0 ≤ pc) (p1 : pc < 4294967296)
    (c15 : w.cell? ⟨b, 15, none⟩ = some (.int .u32 pc)) (c20 : w.cell? ⟨b, 20, none⟩ = some (.int .i64 it)) (c22 : w.cell? ⟨b, 22, none⟩ = some (.string ⟨C.toArray⟩)) :
    Calls Tryz.prog 29 #[.pointer (some ⟨b, 0, none⟩)] w fun e w' => e = .returned (.tuple #[(fetchF C pc it).1.val, .int .i64 (fetchF C pc it).2]) ∧ Below w.heap.size w w' := by
  unfold fetchF
  cases hs : standB C pc with
  | false => exact fetch_no w b ⟨C.toArray⟩ pc (by simpa [ByteArray.size] using hC) p0 p1 c15 c22 (by simpa using hs)
  | true => simpa using fetch_yes w b ⟨C.toArray⟩ pc it hw (by simpa [ByteArray.size] using hC) p0 p1 c15 c20 c22 (by simpa using hs)
end Go.Proofs.YthbdmlcbdibiiaaGreatDoor
/- The machine's step at any code and core: what is known of the functions that it calls. -/
namespace Go.Proofs.YthbdmlcbdibiiaaGreatDoor
open Go.RowKit Go.Mem Go.Sx
namespace stl
noncomputable def F (g : Nat) (ss : List Sc) : Sc :=
  match g with
  | 850 => .int (fetchF (get ss 22).asStr (get ss 15).asInt (get ss 20).asInt).1.x0
  | 851 => .int (fetchF (get ss 22).asStr (get ss 15).asInt (get ss 20).asInt).1.x1
  | 852 => .int (fetchF (get ss 22).asStr (get ss 15).asInt (get ss 20).asInt).1.x2
  | 853 => .int (fetchF (get ss 22).asStr (get ss 15).asInt (get ss 20).asInt).1.x3
  | 854 => .int (fetchF (get ss 22).asStr (get ss 15).asInt (get ss 20).asInt).1.x4
  | 855 => .int (fetchF (get ss 22).asStr (get ss 15).asInt (get ss 20).asInt).1.x5
  | 856 => .int (fetchF (get ss 22).asStr (get ss 15).asInt (get ss 20).asInt).1.x6
  | 857 => .int (fetchF (get ss 22).asStr (get ss 15).asInt (get ss 20).asInt).1.x7
  | 858 => .bool (fetchF (get ss 22).asStr (get ss 15).asInt (get ss 20).asInt).1.b
  | 859 => .int (fetchF (get ss 22).asStr (get ss 15).asInt (get ss 20).asInt).2
  | g => mF2 g ss
def fetR (c _t : Tm) : SVal := .tup (.cons (.agg (.cons (.int .i64 (.app 850 c)) (.cons (.int .i64 (.app 851 c)) (.cons (.int .i64 (.app 852 c)) (.cons (.int .i64 (.app 853 c)) (.cons (.int .i64 (.app 854 c)) (.cons (.int .i64 (.app 855 c)) (.cons (.int .i64 (.app 856 c)) (.cons (.int .i64 (.app 857 c)) (.cons (.bool (.app 858 c)) .nil)))))))))) (.cons (.int .i64 (.app 859 c)) .nil))
def fetS (k : Nat) : Go.Sx.Spec := specObj 78 (cpsM k) [] fetR
def v (x : Fields) (C : List UInt8) (s : Int) (d d' : CoreD) (o : Int) (i : Nat) : Sc :=
  if i < 100 then vM x C s d i else if i < 116 then .int (d'.R.getD (i - 100) 0) else if i = 116 then .bool d'.n else if i = 117 then .bool d'.z else if i = 118 then .bool d'.c else if i = 119 then .bool d'.v else if i = 120 then .int d'.it else if i = 121 then clSc d'.l else .int o
def regsT : List Tm := (List.range' 10 16).map fun i => .op1 (.conv .u32) (mex.v i)
def cellsT : List Tm := regsT ++ [mex.v 26, mex.v 27, mex.v 28, mex.v 29, mex.v 30, mex.v 31, mex.v 9, .app 700 (.cons (mex.v 31) .nil), .num 0, .bit false]
def c0 : Tm := Tm.ofList cellsT
def argT : List Tm := (List.range' 850 10).map (fun g => Tm.app g c0) ++ [mex.v 9] ++ regsT ++ [mex.v 26, mex.v 27, mex.v 28, mex.v 29, mex.v 30, mex.v 31]
def ansT (i : Nat) : List Tm := (List.range' i 16).map (fun i => Tm.op1 (.conv .u32) (mex.v i)) ++ [mex.v (i + 16), mex.v (i + 17), mex.v (i + 18), mex.v (i + 19), mex.v (i + 20)]
def execS : Go.Sx.Spec := fun args h pc => match args with
  | [.agg i, s, .str c, .agg m] => match decide ((lstS i).length = 9 ∧ (lstS m).length = 22), matchA h (xsPat 1) (lstS i ++ ([s] ++ ([.str c] ++ lstS m))) with
    | true, some ts => match decide (ts = argT) with
      | true => .leaf ⟨.tup (.cons (coreV (ansT 100) h.length) (.cons (.int .i64 (mex.v 122)) .nil)), h ++ [some (absNew 2 (mex.v 121))], pc⟩
      | false => .fail "arguments"
    | _, _ => .fail "arguments"
  | _ => .fail "arguments"
def tab : List (Nat × Go.Sx.Spec) := [(35, newS 100), (29, fetS 1), (10, execS)]
def S : Specs := fun f => findTab f tab
noncomputable def fS : Nat := 15
def want : exe.Got := ⟨(List.range' 100 16).map (fun i => Tm.op1 (.conv .u32) (mex.v i)), mex.v 116, mex.v 117, mex.v 118, mex.v 119, mex.v 120, mex.v 121, mex.v 122⟩
noncomputable def goes : Bool := exe.allLeaf (fun a => decide (exe.got a.h a.v = some want)) (callT (mex.cxm false) S (run (mex.cxm false) S 3000) fS [.str (mex.v 9), mex.core] mex.heap0 (.bit true))
set_option maxRecDepth 100000 in
theorem goes_ok : goes = true := by kernel_rfl
end stl
end Go.Proofs.YthbdmlcbdibiiaaGreatDoor
/- A core that is answered, as the executor's leaf. -/
namespace Go.Proofs.YthbdmlcbdibiiaaGreatDoor
open Go.RowKit Go.Mem Go.Sx
set_option maxRecDepth 100000 in
theorem core_answer {ρ : Env} {B : Nat → Prop} (hab : ρ.ab = mchAbs B) {K : Nat → Prop} {w0 w : World} {ι : Nm} {h : Heap} (H : HR ρ cx.globs K w0 ι h w) {pc : Tm} (hpc : (pc.den ρ).asBool = true) {r : List Tm} (hr : r.length = 21) {t o : Tm} {d' : CoreD}
    (hd' : d' = cdOf (r.map (·.den ρ) ++ [t.den ρ])) (ht : t.den ρ = clSc d'.l) (hI : InR d'.l) (hL : d'.l.length ≤ 4294967296) (hCan : Canon d'.l) {f : Nat} {args : Array Value}
    (hans : Calls Tryz.prog f args w fun e w' => ∃ A' cap', e = .returned (.tuple #[d'.val (.slice A' d'.l.length cap'), .int .i64 (o.den ρ).asInt]) ∧ ClAt w' w'.heap.size A' d'.l ∧ NewA w.heap.size d'.l A' ∧ Below w.heap.size w w') :
    Calls Tryz.prog f args w fun e w' => ∃ ι' : Nm, Nm.Ext h.length ι ι' ∧ h.length ≤ (h ++ [some (absNew 2 t)]).length ∧ HR ρ cx.globs K w0 ι' (h ++ [some (absNew 2 t)]) w' ∧ (SVal.tup (.cons (coreV r h.length) (.cons (.int .i64 o) .nil))).sc (h ++ [some (absNew 2 t)]).length = true ∧
      (pc.den ρ).asBool = true ∧ e = .returned ((SVal.tup (.cons (coreV r h.length) (.cons (.int .i64 o) .nil))).conc ρ ι') := by
  refine Calls.mono (R := _) hans ?_
  rintro e w' ⟨A', cap', rfl, hcl, hnew, hb⟩
  refine ⟨ι.putV h.length ⟨.slice A' d'.l.length cap', rfl⟩ (fun q => d'.l ≠ [] ∧ ∃ a, A' = some a ∧ q = a.block), Nm.ext_putV ι _ _ _, by simp, ?_, ?_, hpc, ?_⟩
  · refine H.newV hb _ _ ?_ ?_
    · rw [hab]
      exact .inl ⟨by omega, d'.l, A', cap', ht, rfl, hcl, hI, ⟨hL, fun _ => hCan⟩, rfl⟩
    · rintro q ⟨hne, a, ha, rfl⟩
      obtain ⟨a', ha', hle⟩ := hnew hne
      rw [ha] at ha'
      simp only [Option.some.injEq] at ha'
      subst ha'
      exact hle
  · have hs : (SVal.cons (coreV r h.length) (.cons (.int .i64 o) .nil)).sc (h.length + 1) = true := by
      simp only [SVal.sc, sc_core, Bool.and_self]
    simpa [SVal.sc] using hs
  · have e3 : ((ι.putV h.length ⟨.slice A' d'.l.length cap', rfl⟩ (fun q => d'.l ≠ [] ∧ ∃ a, A' = some a ∧ q = a.block)).val h.length).v = .slice A' d'.l.length cap' := by simp [Nm.putV]
    simp only [SVal.conc, SVal.concL, coreV_conc ρ _ hr h.length (t.den ρ), e3, ← hd']
set_option maxRecDepth 100000 in
theorem regs_wrap {R : List Int} (hl : R.length = 16) (hR : ∀ r ∈ R, kHas .u32 r) : (List.range 16).map (fun i => IntKind.u32.wrap (R.getD i 0)) = R := by
  match R, hl, hR with
  | [r0, r1, r2, r3, r4, r5, r6, r7, r8, r9, r10, r11, r12, r13, r14, r15], _, hR =>
    have e : ∀ r ∈ [r0, r1, r2, r3, r4, r5, r6, r7, r8, r9, r10, r11, r12, r13, r14, r15], IntKind.u32.wrap r = r := by
      intro r hr
      have := u32_of (hR r hr)
      show r % 4294967296 = r
      omega
    simp only [List.mem_cons, List.not_mem_nil, or_false, forall_eq_or_imp, forall_eq] at e
    obtain ⟨e0, e1, e2, e3, e4, e5, e6, e7, e8, e9, e10, e11, e12, e13, e14, e15⟩ := e
    show [IntKind.u32.wrap r0, IntKind.u32.wrap r1, IntKind.u32.wrap r2, IntKind.u32.wrap r3, IntKind.u32.wrap r4, IntKind.u32.wrap r5, IntKind.u32.wrap r6, IntKind.u32.wrap r7, IntKind.u32.wrap r8, IntKind.u32.wrap r9, IntKind.u32.wrap r10, IntKind.u32.wrap r11, IntKind.u32.wrap r12, IntKind.u32.wrap r13, IntKind.u32.wrap r14, IntKind.u32.wrap r15] = _
    rw [e0, e1, e2, e3, e4, e5, e6, e7, e8, e9, e10, e11, e12, e13, e14, e15]
end Go.Proofs.YthbdmlcbdibiiaaGreatDoor
/- The machine's step at any code and core: it answers a core and an outcome. -/
namespace Go.Proofs.YthbdmlcbdibiiaaGreatDoor
open Go.RowKit Go.Mem Go.Sx
set_option maxRecDepth 100000 in
theorem r15_wrap {d : CoreD} (hd : d.Ok) : IntKind.u32.wrap (d.R.getD 15 0) = d.R.getD 15 0 ∧ 0 ≤ d.R.getD 15 0 ∧ d.R.getD 15 0 < 4294967296 := by
  have hl := hd.len
  have := u32_of (hd.R (d.R.getD 15 0) (by rw [List.getD_eq_getElem?_getD, List.getElem?_eq_getElem (show 15 < d.R.length by omega)]; exact List.getElem_mem _))
  refine ⟨?_, this.1, this.2⟩
  show d.R.getD 15 0 % 4294967296 = d.R.getD 15 0
  omega
noncomputable def fetchD (C : List UInt8) (d : CoreD) : Fields × Int := fetchF C (d.R.getD 15 0) d.it
set_option maxRecDepth 100000 in
theorem fet_has {p : Fields × Int} (h2 : p.2 = 0 ∨ p.2 = 2 ∨ p.2 = 4) : kHas .i64 p.2 := by
  show -2 ^ 63 ≤ p.2 ∧ p.2 < 2 ^ 63
  omega
set_option maxRecDepth 100000 in
theorem stlF_has (g : Nat) (ss : List Sc) : kHas .i64 (stl.F g ss).asInt := by
  have h := fetchF_ok (get ss 22).asStr (get ss 15).asInt (get ss 20).asInt
  have h2 := fetchF_size (get ss 22).asStr (get ss 15).asInt (get ss 20).asInt
  unfold stl.F
  split
  · exact h.1
  · exact h.2
  · exact h.3
  · exact h.4
  · exact h.5
  · exact h.6
  · exact h.7
  · exact h.8
  · exact zero_has
  · exact fet_has h2
  · exact mF2_has _ _
noncomputable def envS (x : Fields) (C : List UInt8) (s : Int) (d d' : CoreD) (o : Int) (w : World) : Env := ⟨stl.v x C s d d' o, stl.F, fun _ => undef, mchAbs (ownK w)⟩
section
variable {x : Fields} {C : List UInt8} {s : Int} {d d' : CoreD} {o : Int}
set_option maxRecDepth 100000 in
theorem stlv_has (hx : x.Ok) (hC : C.length ≤ 10000) (hs : kHas .i64 s) (hd : d.Ok) (hd' : d'.Ok) (ho : o = 0 ∨ o = 1 ∨ o = 2) (w : World) (i : Nat) : kHas .i64 (stl.v x C s d d' o i).asInt ∧ (stl.v x C s d d' o i).asStr.length ≤ 1000000 := by
  have M := menv hx hC hs hd w
  unfold stl.v
  split
  · exact ⟨M.v i, M.str i⟩
  · split
    · refine ⟨?_, by simp [Sc.asStr]⟩
      rw [List.getD_eq_getElem?_getD]
      cases h : d'.R[i - 100]? with
      | none => exact zero_has
      | some r =>
        have := u32_of (hd'.R r (List.mem_of_getElem? h))
        exact small_has this.1 this.2
    · split
      · exact ⟨zero_has, Nat.zero_le _⟩
      · split
        · exact ⟨zero_has, Nat.zero_le _⟩
        · split
          · exact ⟨zero_has, Nat.zero_le _⟩
          · split
            · exact ⟨zero_has, Nat.zero_le _⟩
            · split
              · exact ⟨hd'.it, Nat.zero_le _⟩
              · split
                · exact ⟨zero_has, Nat.zero_le _⟩
                · refine ⟨?_, Nat.zero_le _⟩
                  show -2 ^ 63 ≤ o ∧ o < 2 ^ 63
                  omega
set_option maxRecDepth 100000 in
theorem envS_vars (hx : x.Ok) (hC : C.length ≤ 10000) (hs : kHas .i64 s) (hd : d.Ok) (hd' : d'.Ok) (ho : o = 0 ∨ o = 1 ∨ o = 2) (w : World) : VarsOk (envS x C s d d' o w) ∧ NilOk (envS x C s d d' o w) :=
  ⟨⟨fun i => (stlv_has hx hC hs hd hd' ho w i).1, stlF_has⟩, mch_nil _ (ownK w) rfl fun i => (stlv_has hx hC hs hd hd' ho w i).2⟩
set_option maxRecDepth 100000 in
theorem fet_spec {w0 : World} (V : VarsOk (envS x C s d d' o w0)) (N : NilOk (envS x C s d d' o w0)) (k : Nat) : SpecOk (envS x C s d d' o w0) 29 (stl.fetS k) := by
  intro args h pc y hpc hy
  unfold stl.fetS specObj at hy
  split at hy
  · rename_i a r
    split at hy
    · rename_i b blk cs ts ho hts
      simp only [Tree.get, Option.some.injEq] at hy
      subst hy
      intro K w1 ι w H hsc
      obtain ⟨rfl, hb, _, _, _, hw, hc⟩ := objT_ok V N H ho
      have hA := matchA_ok V N H hts
      have hr : r.map (·.conc (envS x C s d d' o w0) ι) = [] := (allOk_nil hA).2
      obtain ⟨s15, v15, a1, a2, rfl, k15⟩ := allOk_at (i := 15) (p := .int .u32) hc rfl
      obtain ⟨s20, v20, b1, b2, rfl, k20⟩ := allOk_at (i := 20) (p := .int .i64) hc rfl
      obtain ⟨s22, v22, c1, c2, rfl, k22⟩ := allOk_at (i := 22) (p := .svar) hc rfl
      have h15 := u32_of k15
      have hcall := fetch_any w (ι.blk b) s22.asStr s15.asInt s20.asInt (laid_hr H) k22 h15.1 h15.2 (cell_us hw a2) (cell_us hw b2) (cell_us hw c2)
      simp only [List.map_cons, SVal.conc, hr]
      refine Calls.mono (R := _) hcall ?_
      rintro e w' ⟨rfl, hbl⟩
      refine ⟨ι, Nm.Ext.refl _ _, Nat.le_refl _, H.under hbl, rfl, hpc, ?_⟩
      have hden : ((Tm.ofList cs).den (envS x C s d d' o w0)).asList = cs.map (·.den (envS x C s d d' o w0)) := Tm.ofList_den _ cs
      have g15 : get (((Tm.ofList cs).den (envS x C s d d' o w0)).asList) 15 = s15 := by rw [hden]; exact getD_of a1
      have g20 : get (((Tm.ofList cs).den (envS x C s d d' o w0)).asList) 20 = s20 := by rw [hden]; exact getD_of b1
      have g22 : get (((Tm.ofList cs).den (envS x C s d d' o w0)).asList) 22 = s22 := by rw [hden]; exact getD_of c1
      show Ending.returned (Value.tuple #[(fetchF s22.asStr s15.asInt s20.asInt).1.val, .int .i64 (fetchF s22.asStr s15.asInt s20.asInt).2]) = Ending.returned (Value.tuple #[Fields.val ⟨
        (fetchF (get (((Tm.ofList cs).den (envS x C s d d' o w0)).asList) 22).asStr (get (((Tm.ofList cs).den (envS x C s d d' o w0)).asList) 15).asInt (get (((Tm.ofList cs).den (envS x C s d d' o w0)).asList) 20).asInt).1.x0,
        (fetchF (get (((Tm.ofList cs).den (envS x C s d d' o w0)).asList) 22).asStr (get (((Tm.ofList cs).den (envS x C s d d' o w0)).asList) 15).asInt (get (((Tm.ofList cs).den (envS x C s d d' o w0)).asList) 20).asInt).1.x1,
        (fetchF (get (((Tm.ofList cs).den (envS x C s d d' o w0)).asList) 22).asStr (get (((Tm.ofList cs).den (envS x C s d d' o w0)).asList) 15).asInt (get (((Tm.ofList cs).den (envS x C s d d' o w0)).asList) 20).asInt).1.x2,
        (fetchF (get (((Tm.ofList cs).den (envS x C s d d' o w0)).asList) 22).asStr (get (((Tm.ofList cs).den (envS x C s d d' o w0)).asList) 15).asInt (get (((Tm.ofList cs).den (envS x C s d d' o w0)).asList) 20).asInt).1.x3,
        (fetchF (get (((Tm.ofList cs).den (envS x C s d d' o w0)).asList) 22).asStr (get (((Tm.ofList cs).den (envS x C s d d' o w0)).asList) 15).asInt (get (((Tm.ofList cs).den (envS x C s d d' o w0)).asList) 20).asInt).1.x4,
        (fetchF (get (((Tm.ofList cs).den (envS x C s d d' o w0)).asList) 22).asStr (get (((Tm.ofList cs).den (envS x C s d d' o w0)).asList) 15).asInt (get (((Tm.ofList cs).den (envS x C s d d' o w0)).asList) 20).asInt).1.x5,
        (fetchF (get (((Tm.ofList cs).den (envS x C s d d' o w0)).asList) 22).asStr (get (((Tm.ofList cs).den (envS x C s d d' o w0)).asList) 15).asInt (get (((Tm.ofList cs).den (envS x C s d d' o w0)).asList) 20).asInt).1.x6,
        (fetchF (get (((Tm.ofList cs).den (envS x C s d d' o w0)).asList) 22).asStr (get (((Tm.ofList cs).den (envS x C s d d' o w0)).asList) 15).asInt (get (((Tm.ofList cs).den (envS x C s d d' o w0)).asList) 20).asInt).1.x7,
        (fetchF (get (((Tm.ofList cs).den (envS x C s d d' o w0)).asList) 22).asStr (get (((Tm.ofList cs).den (envS x C s d d' o w0)).asList) 15).asInt (get (((Tm.ofList cs).den (envS x C s d d' o w0)).asList) 20).asInt).1.b⟩,
        .int .i64 (fetchF (get (((Tm.ofList cs).den (envS x C s d d' o w0)).asList) 22).asStr (get (((Tm.ofList cs).den (envS x C s d d' o w0)).asList) 15).asInt (get (((Tm.ofList cs).den (envS x C s d d' o w0)).asList) 20).asInt).2])
      rw [g15, g20, g22]
    · simp [Tree.get] at hy
  · simp [Tree.get] at hy
set_option maxRecDepth 100000 in
theorem exec_spec {w0 : World} (V : VarsOk (envS x C s d d' o w0)) (N : NilOk (envS x C s d d' o w0)) (hd : d.Ok) (hx : (fetchD C d) = (x, s)) (hO : Outcome x s C d d' o) : SpecOk (envS x C s d d' o w0) 10 stl.execS := by
  intro args h pc y hpc hy
  unfold stl.execS at hy
  split at hy
  · rename_i i sz c m
    split at hy
    · rename_i ts hdec hts
      split at hy
      · rename_i hta
        simp only [Tree.get, Option.some.injEq] at hy
        subst hy
        have hta := of_decide_eq_true hta
        have hdec := of_decide_eq_true hdec
        intro K w1 ι w H hsc
        have hA := matchA_ok V N H hts
        obtain ⟨a, sz', C', D, mem, mv, ha, hsz, hR16, hRk, hit, ⟨F, hP⟩, hdl, eX, eS, eC, eD, iv', cv, li, lc, hvs, hiv, hcv⟩ := xs_flat hA
        subst hta
        have hR := regs_wrap hd.len hd.R
        have h15 := (r15_wrap hd).1
        unfold fetchD at hx
        have hX : xsX (stl.argT.map (·.den (envS x C s d d' o w0))) = x := by
          show (⟨(fetchF C (IntKind.u32.wrap (d.R.getD 15 0)) d.it).1.x0, (fetchF C (IntKind.u32.wrap (d.R.getD 15 0)) d.it).1.x1, (fetchF C (IntKind.u32.wrap (d.R.getD 15 0)) d.it).1.x2, (fetchF C (IntKind.u32.wrap (d.R.getD 15 0)) d.it).1.x3, (fetchF C (IntKind.u32.wrap (d.R.getD 15 0)) d.it).1.x4, (fetchF C (IntKind.u32.wrap (d.R.getD 15 0)) d.it).1.x5,
            (fetchF C (IntKind.u32.wrap (d.R.getD 15 0)) d.it).1.x6, (fetchF C (IntKind.u32.wrap (d.R.getD 15 0)) d.it).1.x7, (fetchF C (IntKind.u32.wrap (d.R.getD 15 0)) d.it).1.b⟩ : Fields) = x
          rw [h15, hx]
        have hS : sz' = s := by
          rw [← eS]
          show (fetchF C (IntKind.u32.wrap (d.R.getD 15 0)) d.it).2 = s
          rw [h15, hx]
        have hC : C'.asStr = C := by rw [← eC]; rfl
        have hD : xsD (stl.argT.map (·.den (envS x C s d d' o w0))) = d := by
          unfold xsD
          have e1 : (((stl.argT.map (·.den (envS x C s d d' o w0))).drop 11).take 16).map Sc.asInt = (List.range 16).map (fun i => IntKind.u32.wrap (d.R.getD i 0)) := rfl
          have e2 : get (stl.argT.map (·.den (envS x C s d d' o w0))) 32 = clSc d.l := rfl
          rw [e1, e2, scCl_cl, hR]
          rfl
        have hXa : a = x := eX.symm.trans hX
        have hDa : D = d := eD.symm.trans hD
        subst hXa; subst hS; subst hDa
        rcases hP with ⟨_, l, A, cap, h1, h2, h3, h4, h5, _⟩ | ⟨hk2, _⟩
        · have hl : D.l = l := by rw [hdl, h1, scCl_cl]
          simp only [List.map_append, List.map_cons, List.map_nil] at hvs
          obtain ⟨q1, q2⟩ := List.append_inj hvs (by rw [List.length_map, hdec.1, li])
          simp only [List.cons_append, List.nil_append, List.cons.injEq] at q2
          obtain ⟨q2, q3, q4⟩ := q2
          rw [hC] at q3
          have E := hO.e w (laid_hr H) A cap (by rw [hl]; exact h3)
          have hargs : ([SVal.agg i, sz, .str c, .agg m].map (·.conc (envS a C sz' D d' o w0) ι)).toArray = #[a.val, .int .i64 sz', .string ⟨C.toArray⟩, D.val (.slice A D.l.length cap)] := by
            have e1 : (SVal.agg i).conc (envS a C sz' D d' o w0) ι = a.val := by rw [← hiv, ← q1]; simp only [SVal.conc, lstS_conc]
            have e2 : (SVal.agg m).conc (envS a C sz' D d' o w0) ι = D.val (.slice A D.l.length cap) := by rw [hl, ← h2, ← hcv, ← q4]; simp only [SVal.conc, lstS_conc]
            simp only [List.map_cons, List.map_nil, e1, e2, q2, q3]
          rw [hargs]
          refine core_answer (d' := d') rfl H hpc rfl ?_ rfl hO.ok.l hO.len hO.canon E
          have hR' := regs_wrap hO.ok.len hO.ok.R
          have e : cdOf ((stl.ansT 100).map (·.den (envS a C sz' D d' o w0)) ++ [(mex.v 121).den (envS a C sz' D d' o w0)]) = ⟨(List.range 16).map (fun i => IntKind.u32.wrap (d'.R.getD i 0)), d'.n, d'.z, d'.c, d'.v, d'.it, scCl (clSc d'.l)⟩ := rfl
          rw [e, hR', scCl_cl]
        · omega
      · simp [Tree.get] at hy
    · simp [Tree.get] at hy
  · simp [Tree.get] at hy
set_option maxRecDepth 100000 in
theorem heap0_hrV (v : Nat → Sc) (f : Nat → List Sc → Sc) {d : CoreD} (h31 : v 31 = clSc d.l) (hd : d.Ok) {w : World} (hw : Laid w) {A : Option Addr} {cap : Nat} (hA : ClAt w w.heap.size A d.l) (hl : d.l.length ≤ 4294967296) :
    HR ⟨v, f, fun _ => undef, mchAbs (ownK w)⟩ cx.globs (ownK w) w (ιM ⟨.slice A d.l.length cap, rfl⟩) mex.heap0 w := by
  have H0 := start ⟨v, f, fun _ => undef, mchAbs (ownK w)⟩ hw (fun q h => h)
  refine ⟨rfl, rfl, rfl, Nat.le_refl _, fun _ _ => rfl, fun _ h => h, fun q h => h, ?_, ?_, fun g cs hg => ?_⟩
  · intro n b hb
    have hn : n = 0 := by
      have := (List.getElem?_eq_some_iff.1 hb).1
      simp [mex.heap0] at this
      exact this
    subst hn
    simp only [mex.heap0, List.getElem?_cons_zero, Option.some.injEq] at hb
    subst hb
    refine ⟨fun q hq => hq.elim, ?_, rfl⟩
    unfold Blk.Ok
    refine ⟨rfl, fun q hq => hq, fun q => d.l ≠ [] ∧ ∃ a, A = some a ∧ q = a.block, .inl ⟨by omega, d.l, A, cap, h31, rfl, hA, hd.l, ⟨hl, fun h => by omega⟩, rfl⟩, ?_⟩
    rintro q ⟨h0, a, ha, rfl⟩
    obtain ⟨g, off, e, hg, _⟩ := hA h0
    rw [ha] at e
    simp only [Option.some.injEq] at e
    subst e
    exact hg
  · intro n m b c hb hc q hq
    exact hq.elim
  · obtain ⟨h1, h2, arr, t, fz, h3, h4⟩ := H0.globs g cs hg
    exact ⟨h1, h2, arr, t, fz, h3, by rw [h4]; exact (SVal.conc_ext (n := 0) (fun m hm => by omega) cs h2).2.symm⟩
set_option maxRecDepth 100000 in
theorem stl_body : ∀ f, stl.S f ≠ none → ∃ fn c, cx.P.funcs[f]? = some fn ∧ fn.body = some c := by
  have hB : (stl.tab.map Prod.fst).all mBody = true := by kernel_rfl
  intro f h
  match hs : stl.S f with
  | none => exact (h hs).elim
  | some s =>
    have hm := findTab_mem hs
    have hb := List.all_eq_true.1 hB f (List.mem_map.2 ⟨_, hm, rfl⟩)
    unfold mBody at hb
    split at hb
    · rename_i fn hfn
      exact ⟨fn, _, hfn, (Option.some_get hb).symm⟩
    · cases hb
set_option maxRecDepth 100000 in
theorem step_ans (hx : x.Ok) (hC : C.length ≤ 10000) (hs : kHas .i64 s) (hd : d.Ok) (hl : d.l.length ≤ 4294967296) (hxs : fetchD C d = (x, s)) (hO : Outcome x s C d d' o) : StAns stl.fS C d [] d' [o] := by
  intro w hw A cap hA
  obtain ⟨V, N⟩ := envS_vars hx hC hs hd hO.ok hO.out w
  have hg := stl.goes_ok
  unfold stl.goes at hg
  obtain ⟨y, hy, hp⟩ := allLeaf_get (envS x C s d d' o w) _ hg
  have hp := of_decide_eq_true hp
  have mn : ∀ k, k < 100 → SpecOk (envS x C s d d' o w) 35 (specNew [.dat k] 100 (fun t => .app 700 t)) := fun k hk => specNew_ok V N (fun ss vs w' h => mnew_spec rfl (fun _ => rfl) k hk ss vs w' h)
  have hS : stl.S.Ok (envS x C s d d' o w) (mex.cxm false) := by
    intro f sp h
    have hm := findTab_mem h
    simp only [stl.tab, List.mem_cons, List.not_mem_nil, or_false, Prod.mk.injEq] at hm
    rcases hm with ⟨rfl, rfl⟩ | ⟨rfl, rfl⟩ | ⟨rfl, rfl⟩
    · exact orS_ok (mn 1 (by omega)) (mn 2 (by omega))
    · exact fet_spec V N 1
    · exact exec_spec V N hd hxs hO
  have hc := call_ok (cxm_ok false) hS stl_body rfl hy
  have H := heap0_hrV (stl.v x C s d d' o) stl.F (d := d) rfl hd hw (cap := cap) hA hl
  have hsc : ∀ v ∈ [SVal.str (mex.v 9), mex.core], v.sc mex.heap0.length = true := by
    intro v hv
    simp only [List.mem_cons, List.not_mem_nil, or_false] at hv
    rcases hv with rfl | rfl <;> rfl
  have := hc (ownK w) w _ w H hsc
  have e1 : [SVal.str (mex.v 9), mex.core].map (·.conc (envS x C s d d' o w) (ιM ⟨.slice A d.l.length cap, rfl⟩)) = [.string ⟨C.toArray⟩, d.val (.slice A d.l.length cap)] := by
    have e : mex.core.conc (envS x C s d d' o w) (ιM ⟨.slice A d.l.length cap, rfl⟩) = d.val (.slice A d.l.length cap) := core_concG x C s hd stl.F (mchAbs (ownK w)) _
    simp only [List.map_cons, List.map_nil, e]
    rfl
  rw [e1] at this
  refine Calls.mono (R := _) this ?_
  rintro e w' ⟨ι', _, _, H', _, _, rfl⟩
  obtain ⟨_, _, _, _, A', cap', e1, e2, e3⟩ := got_conc (ρ := envS x C s d d' o w) rfl H' hp
  have eD : gotD (envS x C s d d' o w) stl.want = d' := by
    have e : gotD (envS x C s d d' o w) stl.want = ⟨(List.range 16).map (fun i => IntKind.u32.wrap (d'.R.getD i 0)), d'.n, d'.z, d'.c, d'.v, d'.it, scCl (clSc d'.l)⟩ := rfl
    rw [e, regs_wrap hO.ok.len hO.ok.R, scCl_cl]
  rw [eD] at e1 e2 e3
  refine ⟨A', cap', by rw [e1]; rfl, e2, fun hne => ?_, H'.grown⟩
  obtain ⟨a, h1, h2⟩ := e3 hne
  exact ⟨a, h1, Nat.le_of_not_lt h2⟩
end
structure Stepped (C : List UInt8) (d d' : CoreD) (o : Int) : Prop where
  ok : d'.Ok
  len : d'.l.length ≤ 4294967296
  canon : Canon d'.l
  ans : StAns stl.fS C d [] d' [o]
  out : o = 0 ∨ o = 1 ∨ o = 2
  was : o ≠ 0 → d' = { d with l := newL d.l }
  even : o = 0 → d'.R.getD 15 0 % 2 = 0
end Go.Proofs.YthbdmlcbdibiiaaGreatDoor
/- A law of the machine's chapter, run by the executor: it answers true. -/
namespace Go.Proofs.YthbdmlcbdibiiaaGreatDoor
open Go.RowKit Go.Mem Go.Sx
namespace lrun
noncomputable def goes (S : Specs) (f : Nat) (args : List SVal) (l : List Tm) : Bool := isTT (callT (mex.cxm false) S (run (mex.cxm false) S 3000) f args mex.heap0 (l.foldr mkAnd (.bit true)))
end lrun
set_option maxRecDepth 100000 in
theorem tab_body {tab : List (Nat × Go.Sx.Spec)} (hB : (tab.map Prod.fst).all mBody = true) : ∀ f, (fun f => findTab f tab : Specs) f ≠ none → ∃ fn c, cx.P.funcs[f]? = some fn ∧ fn.body = some c := by
  intro f h
  match hs : findTab f tab with
  | none => exact (h hs).elim
  | some s =>
    have hm := findTab_mem hs
    have hb := List.all_eq_true.1 hB f (List.mem_map.2 ⟨_, hm, rfl⟩)
    unfold mBody at hb
    split at hb
    · rename_i fn hfn
      exact ⟨fn, _, hfn, (Option.some_get hb).symm⟩
    · cases hb
end Go.Proofs.YthbdmlcbdibiiaaGreatDoor
