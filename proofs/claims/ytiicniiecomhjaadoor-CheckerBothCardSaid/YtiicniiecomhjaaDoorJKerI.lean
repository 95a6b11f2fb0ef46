/- For the seat: texts joined: KerI. -/
import Derived.Test.YtiicniiecomhjaaDoorJKerS
import Derived.Test.YtiicniiecomhjaaDoorJKerU
import Derived.Deep.RegionHeld3
import Derived.Deep.MidRow
import Derived.WalkSpells
/- For the seat: an instruction of an image that is looked at. -/
namespace Go.Proofs.YtiicniiecomhjaaDoor
open Go.Sx Go.ChangeShapes Go.WideShapes Go.RowKit Go.Joins Go.Deep
attribute [local go_sem ↓] ins_equal ins_guard

/-- An instruction's store into a block that was not there. -/
theorem below9 {n : Nat} {w W : World} (h : Below n w W) {b : Nat} (hb : n ≤ b) (v0 v1 v2 v3 v4 v5 v6 v7 v8 : Value) : Below n w (((((((((W.setCell ⟨b, 0, none⟩ v0).setCell ⟨b, 1, none⟩ v1).setCell ⟨b, 2, none⟩ v2).setCell ⟨b, 3, none⟩ v3).setCell ⟨b, 4, none⟩ v4).setCell ⟨b, 5, none⟩ v5).setCell ⟨b, 6, none⟩ v6).setCell ⟨b, 7, none⟩ v7).setCell ⟨b, 8, none⟩ v8) :=
  (((((((((h).setCell (p := ⟨b, 0, none⟩) hb _).setCell (p := ⟨b, 1, none⟩) hb _).setCell (p := ⟨b, 2, none⟩) hb _).setCell (p := ⟨b, 3, none⟩) hb _).setCell (p := ⟨b, 4, none⟩) hb _).setCell (p := ⟨b, 5, none⟩) hb _).setCell (p := ⟨b, 6, none⟩) hb _).setCell (p := ⟨b, 7, none⟩) hb _).setCell (p := ⟨b, 8, none⟩) hb _

/-- Behind an instruction's store its cells are such, and others are as they were. -/
theorem st9 {W : World} {b : Nat} {x : Fields} (h : InsAt W b x) (z : Fields) (W3 : World) (h3 : (((((((((W.setCell ⟨b, 0, none⟩ (.int .i64 z.x0)).setCell ⟨b, 1, none⟩ (.int .i64 z.x1)).setCell ⟨b, 2, none⟩ (.int .i64 z.x2)).setCell ⟨b, 3, none⟩ (.int .i64 z.x3)).setCell ⟨b, 4, none⟩ (.int .i64 z.x4)).setCell ⟨b, 5, none⟩ (.int .i64 z.x5)).setCell ⟨b, 6, none⟩ (.int .i64 z.x6)).setCell ⟨b, 7, none⟩ (.int .i64 z.x7)).setCell ⟨b, 8, none⟩ (.bool z.b)) = W3) :
    (W3.cell? ⟨b, 0, none⟩ = some (.int .i64 z.x0) ∧ W3.cell? ⟨b, 1, none⟩ = some (.int .i64 z.x1) ∧ W3.cell? ⟨b, 2, none⟩ = some (.int .i64 z.x2) ∧ W3.cell? ⟨b, 3, none⟩ = some (.int .i64 z.x3) ∧ W3.cell? ⟨b, 4, none⟩ = some (.int .i64 z.x4) ∧ W3.cell? ⟨b, 5, none⟩ = some (.int .i64 z.x5) ∧ W3.cell? ⟨b, 6, none⟩ = some (.int .i64 z.x6) ∧ W3.cell? ⟨b, 7, none⟩ = some (.int .i64 z.x7) ∧ W3.cell? ⟨b, 8, none⟩ = some (.bool z.b)) ∧
    (∀ g o, b ≠ g → W3.cell? ⟨g, o, none⟩ = W.cell? ⟨g, o, none⟩) := by
  subst h3
  obtain ⟨⟨p0, p1, p2, p3, p4, p5, p6, p7, p8⟩, _⟩ := h
  refine ⟨⟨?_, ?_, ?_, ?_, ?_, ?_, ?_, ?_, ?_⟩, fun g o hg => far9 hg o _ _ _ _ _ _ _ _ _⟩ <;> simp [go_sem, p0, p1, p2, p3, p4, p5, p6, p7, p8]

/-- What ends in a region. -/
def endsR (n : Nat) : Code → Bool
  | .region i _ _ => i == n
  | .seq _ b => endsR n b
  | _ => false
/-- The code behind a region. -/
def behindR (n : Nat) : Code → Option Code
  | .seq a b => match endsR n a with
    | true => some b
    | false => match behindR n a with
      | some a' => some (.seq a' b)
      | none => behindR n b
  | _ => none
noncomputable def restI : Code := ((Tryd.f11.body.bind (behindR 1)).getD .skip)

set_option maxRecDepth 100000 in
set_option maxHeartbeats 4000000 in
theorem ins_rest (s : ByteArray) (l : List Itm) (A : Option Addr) (cap : Nat) (k a sz f ln x0 x1 x2 x3 x4 x5 x6 x7 : Int) (xb : Bool) (V : Option Addr) (vc : Nat) (vs : List Int) (p : ByteArray) (it : Int) (w : World) (hA : ItAt w w.heap.size A l) (hl : l.length ≤ maxLen)
    (z0 z1 z2 z3 z4 z5 z6 z7 : Int) (zb : Bool) (m er : Int) (ql : Nat) (hql : ql ≤ 4000000000) (hdk : er = 0 → ∃ n : Nat, m = n ∧ 1 ≤ n ∧ n ≤ ql) (R : Bool)
    (HR0 : (if er = 0 ∧ (⟨z0, z1, z2, z3, z4, z5, z6, z7, zb⟩ : Fields) = ⟨x0, x1, x2, x3, x4, x5, x6, x7, xb⟩ ∧ 2 * m = sz ∧ bits BinOp.and IntKind.i64 a 1 = 0 then
      if (leadsP ⟨k, a, sz, f, ln, ⟨x0, x1, x2, x3, x4, x5, x6, x7, xb⟩, V, vc, vs⟩).2 = true then
        if x0 = 40 ∨ x0 = 41 then decide (0 ≤ (leadsP ⟨k, a, sz, f, ln, ⟨x0, x1, x2, x3, x4, x5, x6, x7, xb⟩, V, vc, vs⟩).1 ∧ (leadsP ⟨k, a, sz, f, ln, ⟨x0, x1, x2, x3, x4, x5, x6, x7, xb⟩, V, vc, vs⟩).1 ≤ (s.size : Int)) else standsB s.size l (leadsP ⟨k, a, sz, f, ln, ⟨x0, x1, x2, x3, x4, x5, x6, x7, xb⟩, V, vc, vs⟩).1
      else true
    else false) = R)
    (X : Nat) (W3 : World) (BW : Below w.heap.size w W3) (C3 : ∀ o, W3.cell? ⟨w.heap.size, o, none⟩ = #[.string s, .slice A l.length cap, .int .i64 k, .int .i64 a, .int .i64 sz, .int .i64 f, .int .i64 ln, .int .i64 x0, .int .i64 x1, .int .i64 x2, .int .i64 x3, .int .i64 x4, .int .i64 x5, .int .i64 x6, .int .i64 x7, .bool xb, .slice V vs.length vc, .string p, .int .i64 it][o]?) (_nX : X ≠ w.heap.size)
    (p0 : W3.cell? ⟨X, 0, none⟩ = some (.int .i64 z0)) (p1 : W3.cell? ⟨X, 1, none⟩ = some (.int .i64 z1)) (p2 : W3.cell? ⟨X, 2, none⟩ = some (.int .i64 z2)) (p3 : W3.cell? ⟨X, 3, none⟩ = some (.int .i64 z3)) (p4 : W3.cell? ⟨X, 4, none⟩ = some (.int .i64 z4)) (p5 : W3.cell? ⟨X, 5, none⟩ = some (.int .i64 z5)) (p6 : W3.cell? ⟨X, 6, none⟩ = some (.int .i64 z6)) (p7 : W3.cell? ⟨X, 7, none⟩ = some (.int .i64 z7)) (p8 : W3.cell? ⟨X, 8, none⟩ = some (.bool zb))
    (c8 c9 c10 c11 c12 c13 c14 c15 c16 c17 c18 c19 : Value) :
    Code.wp Tryd.prog restI (bodyPost Tryd.prog Tryd.f11 fun e w' => e = .returned (.bool R) ∧ Below w.heap.size w w') ⟨#[.agg #[.string s, .slice A l.length cap, .int .i64 k, .int .i64 a, .int .i64 sz, .int .i64 f, .int .i64 ln, .int .i64 x0, .int .i64 x1, .int .i64 x2, .int .i64 x3, .int .i64 x4, .int .i64 x5, .int .i64 x6, .int .i64 x7, .bool xb, .slice V vs.length vc, .string p, .int .i64 it], .pointer (some ⟨w.heap.size, 0, none⟩), .bool false, .pointer (some ⟨X, 0, none⟩), .int .i64 m, .int .i64 er, undef, undef, c8, c9, c10, c11, c12, c13, c14, c15, c16, c17, c18, c19, undef, undef, undef, undef, undef, undef, undef, undef, undef, undef, undef, undef, undef, undef, undef, undef, undef, undef, undef, undef, undef, undef, undef, undef, undef, undef, undef, undef, undef, undef, undef, undef, undef, undef, undef, undef, undef, undef, undef, undef, undef, undef, undef, undef, undef, undef, undef, undef, undef, undef, undef, undef, undef], []⟩ W3 := by
  have HR := Lib.hid HR0
  clear HR0
  conv => arg 2; whnf
  have hLd := leads_any ⟨k, a, sz, f, ln, ⟨x0, x1, x2, x3, x4, x5, x6, x7, xb⟩, V, vc, vs⟩ W3
  have hSt := fun (q' : Int) (W : World) (hW' : Below w.heap.size w W) => stands_any s l A cap ⟨k, a, sz, f, ln, ⟨x0, x1, x2, x3, x4, x5, x6, x7, xb⟩, V, vc, vs⟩ p it q' W ((hA.below hW' (Nat.le_refl _)).more hW'.size) hl
  dsimp only [imgV, Itm.val, Itm.cells] at hLd hSt
  generalize leadsP ⟨k, a, sz, f, ln, ⟨x0, x1, x2, x3, x4, x5, x6, x7, xb⟩, V, vc, vs⟩ = lp at hLd HR
  obtain ⟨to, ok⟩ := lp
  dsimp only at hLd HR
  have hX3 : X < W3.heap.size := World.block_lt_of_cell? W3 _ p0
  have i0 : W3.cell? ⟨w.heap.size, 0, none⟩ = some (.string s) := C3 0
  have i1 : W3.cell? ⟨w.heap.size, 1, none⟩ = some (.slice A l.length cap) := C3 1
  have i2 : W3.cell? ⟨w.heap.size, 2, none⟩ = some (.int .i64 k) := C3 2
  have i3 : W3.cell? ⟨w.heap.size, 3, none⟩ = some (.int .i64 a) := C3 3
  have i4 : W3.cell? ⟨w.heap.size, 4, none⟩ = some (.int .i64 sz) := C3 4
  have i5 : W3.cell? ⟨w.heap.size, 5, none⟩ = some (.int .i64 f) := C3 5
  have i6 : W3.cell? ⟨w.heap.size, 6, none⟩ = some (.int .i64 ln) := C3 6
  have i7 : W3.cell? ⟨w.heap.size, 7, none⟩ = some (.int .i64 x0) := C3 7
  have i8 : W3.cell? ⟨w.heap.size, 8, none⟩ = some (.int .i64 x1) := C3 8
  have i9 : W3.cell? ⟨w.heap.size, 9, none⟩ = some (.int .i64 x2) := C3 9
  have i10 : W3.cell? ⟨w.heap.size, 10, none⟩ = some (.int .i64 x3) := C3 10
  have i11 : W3.cell? ⟨w.heap.size, 11, none⟩ = some (.int .i64 x4) := C3 11
  have i12 : W3.cell? ⟨w.heap.size, 12, none⟩ = some (.int .i64 x5) := C3 12
  have i13 : W3.cell? ⟨w.heap.size, 13, none⟩ = some (.int .i64 x6) := C3 13
  have i14 : W3.cell? ⟨w.heap.size, 14, none⟩ = some (.int .i64 x7) := C3 14
  have i15 : W3.cell? ⟨w.heap.size, 15, none⟩ = some (.bool xb) := C3 15
  have i16 : W3.cell? ⟨w.heap.size, 16, none⟩ = some (.slice V vs.length vc) := C3 16
  have i17 : W3.cell? ⟨w.heap.size, 17, none⟩ = some (.string p) := C3 17
  have i18 : W3.cell? ⟨w.heap.size, 18, none⟩ = some (.int .i64 it) := C3 18
  by_cases he : er = 0
  · subst he
    have e1 : ((0 : Int) != 0) = false := rfl
    by_cases hz : (⟨z0, z1, z2, z3, z4, z5, z6, z7, zb⟩ : Fields) = ⟨x0, x1, x2, x3, x4, x5, x6, x7, xb⟩
    · simp only [Fields.mk.injEq] at hz
      obtain ⟨rfl, rfl, rfl, rfl, rfl, rfl, rfl, rfl, rfl⟩ := hz
      have hq := eqB_yes (rfl : (⟨z0, z1, z2, z3, z4, z5, z6, z7, zb⟩ : Fields) = ⟨z0, z1, z2, z3, z4, z5, z6, z7, zb⟩)
      obtain ⟨nn, rfl, hn1, hn2⟩ := hdk rfl
      have hm2 : IntKind.i64.wrap (2 * (nn : Int)) = 2 * (nn : Int) := IntWalk.i64_in _ (by omega)
      clear hdk
      by_cases hs2 : 2 * (nn : Int) = sz
      · have e2 : (2 * (nn : Int) != sz) = false := by rw [hs2]; simp
        by_cases ha : bits BinOp.and IntKind.i64 a 1 = 0
        · have e3 : (bits BinOp.and IntKind.i64 a 1 != 0) = false := by rw [ha]; rfl
          have hR := HR.out
          rw [if_pos ⟨rfl, rfl, hs2, ha⟩] at hR
          replace HR := Lib.hid hR
          clear hR
          clear hs2 ha
          go_wp2_with fail
          ((with_reducible refine hLd.mono ?_); rintro e w4 ⟨rfl, hb4⟩)
          have BW4 := BW.trans (hb4.mono BW.size)
          have r0 : w4.cell? ⟨X, 0, none⟩ = some (.int .i64 z0) := (hb4.cell (p := ⟨X, 0, none⟩) hX3).trans p0
          have D4 : ∀ o, w4.cell? ⟨w.heap.size, o, none⟩ = W3.cell? ⟨w.heap.size, o, none⟩ := fun o => hb4.cell (p := ⟨w.heap.size, o, none⟩) (by show w.heap.size < W3.heap.size; exact World.block_lt_of_cell? W3 _ i0)
          have hrg : w4.rangeAt w.heap.size 0 [.string s, .slice A l.length cap, .int .i64 k, .int .i64 a, .int .i64 sz, .int .i64 f, .int .i64 ln, .int .i64 z0, .int .i64 z1, .int .i64 z2, .int .i64 z3, .int .i64 z4, .int .i64 z5, .int .i64 z6, .int .i64 z7, .bool zb, .slice V vs.length vc, .string p, .int .i64 it] := fun j v hv => by
            rw [Nat.zero_add]
            exact (D4 j).trans ((C3 j).trans (by rw [List.getElem?_toArray]; exact hv))
          clear C3
          have j0 : w4.cell? ⟨w.heap.size, 0, none⟩ = some (.string s) := (D4 0).trans i0
          clear D4 hLd i0 i1 i2 i3 i4 i5 i6 i7 i8 i9 i10 i11 i12 i13 i14 i15 i16 i17 i18 p0 p1 p2 p3 p4 p5 p6 p7 p8
          have hSt4 := hSt to w4 BW4
          cases ok
          · have hR := HR.out
            rw [if_neg (by decide)] at hR
            replace HR := Lib.hid hR
            clear hR
            go_wp2_with fail
            exact bodyPost_ret (results_tmp rfl _ _ _) rfl ⟨by rw [← HR.out]; rfl, BW4⟩
          · have hR := HR.out
            rw [if_pos rfl] at hR
            replace HR := Lib.hid hR
            clear hR
            by_cases h40 : z0 = 40
            · have q40 : (z0 == 40) = true := by rw [h40]; rfl
              have hR := HR.out
              rw [if_pos (.inl h40)] at hR
              replace HR := Lib.hid hR
              clear hR
              clear h40 hSt hSt4
              by_cases t0 : 0 ≤ to
              · have u0 : decide (0 ≤ to) = true := decide_eq_true t0
                by_cases t1 : to ≤ (s.size : Int)
                · have u1 : decide (to ≤ (s.size : Int)) = true := decide_eq_true t1
                  have hR := HR.out
                  rw [decide_eq_true (And.intro t0 t1)] at hR
                  replace HR := Lib.hid hR
                  clear hR
                  go_wp2_with fail
                  exact bodyPost_ret (results_tmp rfl _ _ _) rfl ⟨by rw [← HR.out]; rfl, BW4⟩
                · have u1 : decide (to ≤ (s.size : Int)) = false := decide_eq_false t1
                  have hR := HR.out
                  rw [decide_eq_false (fun h : 0 ≤ to ∧ to ≤ (s.size : Int) => t1 h.2)] at hR
                  replace HR := Lib.hid hR
                  clear hR
                  go_wp2_with fail
                  exact bodyPost_ret (results_tmp rfl _ _ _) rfl ⟨by rw [← HR.out]; rfl, BW4⟩
              · have u0 : decide (0 ≤ to) = false := decide_eq_false t0
                have hR := HR.out
                rw [decide_eq_false (fun h : 0 ≤ to ∧ to ≤ (s.size : Int) => t0 h.1)] at hR
                replace HR := Lib.hid hR
                clear hR
                go_wp2_with fail
                exact bodyPost_ret (results_tmp rfl _ _ _) rfl ⟨by rw [← HR.out]; rfl, BW4⟩
            · have q40 : (z0 == 40) = false := by simpa using h40
              by_cases h41 : z0 = 41
              · have q41 : (z0 == 41) = true := by rw [h41]; rfl
                have hR := HR.out
                rw [if_pos (.inr h41)] at hR
                replace HR := Lib.hid hR
                clear hR
                clear h40 h41 hSt hSt4
                by_cases t0 : 0 ≤ to
                · have u0 : decide (0 ≤ to) = true := decide_eq_true t0
                  by_cases t1 : to ≤ (s.size : Int)
                  · have u1 : decide (to ≤ (s.size : Int)) = true := decide_eq_true t1
                    have hR := HR.out
                    rw [decide_eq_true (And.intro t0 t1)] at hR
                    replace HR := Lib.hid hR
                    clear hR
                    go_wp2_with fail
                    exact bodyPost_ret (results_tmp rfl _ _ _) rfl ⟨by rw [← HR.out]; rfl, BW4⟩
                  · have u1 : decide (to ≤ (s.size : Int)) = false := decide_eq_false t1
                    have hR := HR.out
                    rw [decide_eq_false (fun h : 0 ≤ to ∧ to ≤ (s.size : Int) => t1 h.2)] at hR
                    replace HR := Lib.hid hR
                    clear hR
                    go_wp2_with fail
                    exact bodyPost_ret (results_tmp rfl _ _ _) rfl ⟨by rw [← HR.out]; rfl, BW4⟩
                · have u0 : decide (0 ≤ to) = false := decide_eq_false t0
                  have hR := HR.out
                  rw [decide_eq_false (fun h : 0 ≤ to ∧ to ≤ (s.size : Int) => t0 h.1)] at hR
                  replace HR := Lib.hid hR
                  clear hR
                  go_wp2_with fail
                  exact bodyPost_ret (results_tmp rfl _ _ _) rfl ⟨by rw [← HR.out]; rfl, BW4⟩
              · have q41 : (z0 == 41) = false := by simpa using h41
                have hR := HR.out
                rw [if_neg (by rintro (h | h) <;> contradiction)] at hR
                replace HR := Lib.hid hR
                clear hR
                clear h40 h41 hSt
                generalize standsB s.size l to = sb at hSt4 HR
                go_wp2_with (refine wpList_load_mid rfl 35 (.tmp 1) rfl w.heap.size 0 rfl _ _ hrg Tryd.underlying35 rfl (by kernel_rfl) ?_)
                dsimp only [List.toArray]
                ((with_reducible refine hSt4.mono ?_); rintro e w5 ⟨rfl, hb5⟩)
                go_wp2_with fail
                exact bodyPost_ret (results_tmp rfl _ _ _) rfl ⟨by rw [← HR.out]; rfl, BW4.trans (hb5.mono BW4.size)⟩
        · have e3 : (bits BinOp.and IntKind.i64 a 1 != 0) = true := by simpa using ha
          have hR := HR.out
          rw [if_neg (fun h => ha h.2.2.2)] at hR
          replace HR := Lib.hid hR
          clear hR ha hs2
          go_wp2_with fail
          exact bodyPost_ret (results_tmp rfl _ _ _) rfl ⟨by rw [← HR.out]; rfl, BW⟩
      · have e2 : (2 * (nn : Int) != sz) = true := by simpa using hs2
        have hR := HR.out
        rw [if_neg (fun h => hs2 h.2.2.1)] at hR
        replace HR := Lib.hid hR
        clear hR
        clear hs2
        go_wp2_with fail
        exact bodyPost_ret (results_tmp rfl _ _ _) rfl ⟨by rw [← HR.out]; rfl, BW⟩
    · have hq := eqB_no hz
      have hR := HR.out
      rw [if_neg (fun h => hz h.2.1)] at hR
      replace HR := Lib.hid hR
      clear hR
      clear hz
      go_wp2_with fail
      exact bodyPost_ret (results_tmp rfl _ _ _) rfl ⟨by rw [← HR.out]; rfl, BW⟩
  · have e1 : (er != 0) = true := by simpa using he
    have hR := HR.out
    rw [if_neg (fun h => he h.1)] at hR
    replace HR := Lib.hid hR
    clear hR
    clear he
    go_wp2_with fail
    exact bodyPost_ret (results_tmp rfl _ _ _) rfl ⟨by rw [← HR.out]; rfl, BW⟩

set_option maxRecDepth 100000 in
set_option maxHeartbeats 4000000 in
theorem insi_any (s : ByteArray) (l : List Itm) (A : Option Addr) (cap : Nat) (y : Itm) (p : ByteArray) (it : Int) (w : World) (hA : ItAt w w.heap.size A l) (hl : l.length ≤ maxLen) (hy : y.Ok) (hp : p.size ≤ 4000000000) (hw : Laid w) :
    Calls Tryd.prog 11 #[imgV s A l.length cap y p it] w fun e w' => e = .returned (.bool (insB s.size l y p.data.toList it)) ∧ Below w.heap.size w w' := by
  generalize hR0 : insB s.size l y p.data.toList it = R
  unfold insB at hR0
  have hU := fun w1 => unpack_any p w1 hp
  have hU2 := unpB_len p.data.toList
  have hU3 := unpB_has p.data.toList
  have hps : p.data.toList.length = p.size := rfl
  generalize unpB p.data.toList = q at hU hU2 hU3 hR0
  have hD := fun (A1 : Option Addr) (cap1 : Nat) (w1 : World) (h : IAt w1 w1.heap.size A1 q) (hw1 : Laid w1) => dec_any q A1 cap1 (itB it) w1 h hU3 (by unfold maxLen; omega) hw1
  have hdk := decOf_num (l := q) (it := itB it)
  unfold itB at hD hdk hR0
  generalize decOf q (bits BinOp.and IntKind.i64 it 15 != 0) = d at hD hdk hR0
  obtain ⟨z, m, er⟩ := d
  obtain ⟨k, a, sz, f, ln, x, V, vc, vs⟩ := y
  obtain ⟨x0, x1, x2, x3, x4, x5, x6, x7, xb⟩ := x
  obtain ⟨z0, z1, z2, z3, z4, z5, z6, z7, zb⟩ := z
  dsimp only [imgV] at *
  have HR := Lib.hid hR0
  clear hR0
  have b0 := (Below.refl w.heap.size w).alloc (Nat.le_refl _) (.cells #[.string s, .slice A l.length cap, .int .i64 k, .int .i64 a, .int .i64 sz, .int .i64 f, .int .i64 ln, .int .i64 x0, .int .i64 x1, .int .i64 x2, .int .i64 x3, .int .i64 x4, .int .i64 x5, .int .i64 x6, .int .i64 x7, .bool xb, .slice V vs.length vc, .string p, .int .i64 it] 35)
  have cN := cell_allocN w #[.string s, .slice A l.length cap, .int .i64 k, .int .i64 a, .int .i64 sz, .int .i64 f, .int .i64 ln, .int .i64 x0, .int .i64 x1, .int .i64 x2, .int .i64 x3, .int .i64 x4, .int .i64 x5, .int .i64 x6, .int .i64 x7, .bool xb, .slice V vs.length vc, .string p, .int .i64 it] 35
  have hsz : (w.alloc (.cells #[.string s, .slice A l.length cap, .int .i64 k, .int .i64 a, .int .i64 sz, .int .i64 f, .int .i64 ln, .int .i64 x0, .int .i64 x1, .int .i64 x2, .int .i64 x3, .int .i64 x4, .int .i64 x5, .int .i64 x6, .int .i64 x7, .bool xb, .slice V vs.length vc, .string p, .int .i64 it] 35)).heap.size = w.heap.size + 1 := by simp
  generalize hW : w.alloc (.cells #[.string s, .slice A l.length cap, .int .i64 k, .int .i64 a, .int .i64 sz, .int .i64 f, .int .i64 ln, .int .i64 x0, .int .i64 x1, .int .i64 x2, .int .i64 x3, .int .i64 x4, .int .i64 x5, .int .i64 x6, .int .i64 x7, .bool xb, .slice V vs.length vc, .string p, .int .i64 it] 35) = W0 at b0 cN hsz
  have c17 : W0.cell? ⟨w.heap.size, 17, none⟩ = some (.string p) := cN 17
  have c18 : W0.cell? ⟨w.heap.size, 18, none⟩ = some (.int .i64 it) := cN 18
  go_enter Tryd.func11, Tryd.ntmps11
  go_wp2_with fail
  have lw : ∀ X : World, Below W0.heap.size W0.drew X → w.heap.size < X.heap.size := fun X h => by have := h.size; show w.heap.size < X.heap.size; have : W0.heap.size ≤ X.heap.size := this; omega
  have k17 : ∀ X : World, Below W0.heap.size W0.drew X → X.cell? ⟨w.heap.size, 17, none⟩ = some (.string p) := fun X h => (h.cell (p := ⟨w.heap.size, 17, none⟩) (by show w.heap.size < W0.heap.size; omega)).trans c17
  have k18 : ∀ X : World, Below W0.heap.size W0.drew X → X.cell? ⟨w.heap.size, 18, none⟩ = some (.int .i64 it) := fun X h => (h.cell (p := ⟨w.heap.size, 18, none⟩) (by show w.heap.size < W0.heap.size; omega)).trans c18
  have lay : ∀ X : World, Below W0.heap.size W0.drew X → Laid X := fun X h => laid_below hw (b0.drew.trans (h.mono (by show w.heap.size ≤ W0.heap.size; omega)))
  rename_i Qx Kx hx
  go_region_held3 (fun w' => w'.cell? ⟨w.heap.size, 17, none⟩ = some (.string p) ∧ w'.cell? ⟨w.heap.size, 18, none⟩ = some (.int .i64 it))
    (first
      | (with_reducible exact ⟨f17, f18⟩)
      | (with_reducible exact ⟨d17, d18⟩)
      | (with_reducible exact ⟨(far9 nb _ _ _ _ _ _ _ _ _ _).trans f17, (far9 nb _ _ _ _ _ _ _ _ _ _).trans f18⟩)
      | (with_reducible exact ⟨k17 _ ((Below.refl _ _).alloc (Nat.le_refl _) _), k18 _ ((Below.refl _ _).alloc (Nat.le_refl _) _)⟩)
      | (with_reducible exact ⟨k17 _ (B1.alloc B1.size _), k18 _ (B1.alloc B1.size _)⟩)
      | (with_reducible exact ⟨k17 _ (B2.alloc B2.size _), k18 _ (B2.alloc B2.size _)⟩)
      | go_keep)
    (first
      | (go_at_call 16; refine (hU W0.drew).mono ?_; rintro e w1 ⟨A1, cap1, rfl, hA1, hcap1, hb1⟩; have B1 : Below W0.heap.size W0.drew w1 := hb1; have d17 := k17 _ B1; have d18 := k18 _ B1)
      | (go_at_call 16; refine (hU (W0.drew.alloc (.cells (Fields.cells zeroF) 29))).mono ?_; rintro e w1 ⟨A1, cap1, rfl, hA1, hcap1, hb1⟩; have B1 : Below W0.heap.size W0.drew w1 := ((Below.refl _ _).alloc (Nat.le_refl _) _).trans (hb1.mono (by simp)); have d17 := k17 _ B1; have d18 := k18 _ B1; have IZ : InsAt w1 (w.heap.size + 1) zeroF := (hsz ▸ (InsAt.new W0.drew zeroF 29).below hb1 (by simp)); have hX : w.heap.size + 1 < w1.heap.size := by (have := hb1.size; simp at this; omega))
      | (go_at_call 15; refine (hD A1 cap1 w1 hA1 (lay _ B1)).mono ?_; rintro e w2 ⟨rfl, hb2⟩; dsimp only [Fields.val]; have B2 := B1.trans (hb2.mono B1.size); have f17 := k17 _ B2; have f18 := k18 _ B2; have nb : w.heap.size + 1 ≠ w.heap.size := (by omega); obtain ⟨⟨P0, P1, P2, P3, P4, P5, P6, P7, P8⟩, Q0, Q1, Q2, Q3, Q4, Q5, Q6, Q7, Q8⟩ := IZ.below hb2 hX)
      | (go_at_call 15; refine (hD A1 cap1 w1 hA1 (lay _ B1)).mono ?_; rintro e w2 ⟨rfl, hb2⟩; dsimp only [Fields.val]; have B2 := B1.trans (hb2.mono B1.size); have f17 := k17 _ B2; have f18 := k18 _ B2)
      | (go_at_call 15; refine (hD A1 cap1 (w1.alloc (.cells (Fields.cells zeroF) 29)) ((hA1.below ((Below.refl w1.heap.size w1).alloc (Nat.le_refl _) (.cells (Fields.cells zeroF) 29)) (Nat.le_refl _)).more (by simp)) (lay _ (B1.alloc B1.size _))).mono ?_; rintro e w2 ⟨rfl, hb2⟩; dsimp only [Fields.val]; have B2 := (B1.alloc B1.size (.cells (Fields.cells zeroF) 29)).trans (hb2.mono (B1.alloc B1.size (.cells (Fields.cells zeroF) 29)).size); have f17 := k17 _ B2; have f18 := k18 _ B2; have nb : w1.heap.size ≠ w.heap.size := Nat.ne_of_gt (lw _ B1); obtain ⟨⟨P0, P1, P2, P3, P4, P5, P6, P7, P8⟩, Q0, Q1, Q2, Q3, Q4, Q5, Q6, Q7, Q8⟩ := (InsAt.new w1 zeroF 29).below hb2 (by simp)))
  · generalize hW3 : w2.alloc (.cells #[.int .i64 z0, .int .i64 z1, .int .i64 z2, .int .i64 z3, .int .i64 z4, .int .i64 z5, .int .i64 z6, .int .i64 z7, .bool zb] 29) = W3
    have BW := b0.drew.trans ((B2.alloc B2.size (.cells #[.int .i64 z0, .int .i64 z1, .int .i64 z2, .int .i64 z3, .int .i64 z4, .int .i64 z5, .int .i64 z6, .int .i64 z7, .bool zb] 29)).mono (by show w.heap.size ≤ W0.heap.size; omega))
    have C3 : ∀ o, W3.cell? ⟨w.heap.size, o, none⟩ = W0.cell? ⟨w.heap.size, o, none⟩ := fun o => by
      rw [← hW3]
      exact (B2.alloc B2.size _).cell (p := ⟨w.heap.size, o, none⟩) (by show w.heap.size < W0.heap.size; omega)
    have J := InsAt.new w2 ⟨z0, z1, z2, z3, z4, z5, z6, z7, zb⟩ 29
    dsimp only [Fields.cells] at J
    rw [hW3] at BW J
    obtain ⟨⟨p0, p1, p2, p3, p4, p5, p6, p7, p8⟩, _⟩ := J
    have nX : w2.heap.size ≠ w.heap.size := Nat.ne_of_gt (lw _ B2)
    generalize w2.heap.size = X at *
    exact hx _ _ (ins_rest s l A cap k a sz f ln x0 x1 x2 x3 x4 x5 x6 x7 xb V vc vs p it w hA hl z0 z1 z2 z3 z4 z5 z6 z7 zb m er q.length (by omega) (fun h => by obtain ⟨n, h1, h2, h3, _⟩ := hdk h; exact ⟨n, h1, h2, h3⟩) R HR.out X W3 BW (fun o => (C3 o).trans (cN o)) nX p0 p1 p2 p3 p4 p5 p6 p7 p8 _ _ _ _ _ _ _ _ _ _ _ _)
  · generalize hW3 : (((((((((w2.setCell ⟨w1.heap.size, 0, none⟩ (.int .i64 z0)).setCell ⟨w1.heap.size, 1, none⟩ (.int .i64 z1)).setCell ⟨w1.heap.size, 2, none⟩ (.int .i64 z2)).setCell ⟨w1.heap.size, 3, none⟩ (.int .i64 z3)).setCell ⟨w1.heap.size, 4, none⟩ (.int .i64 z4)).setCell ⟨w1.heap.size, 5, none⟩ (.int .i64 z5)).setCell ⟨w1.heap.size, 6, none⟩ (.int .i64 z6)).setCell ⟨w1.heap.size, 7, none⟩ (.int .i64 z7)).setCell ⟨w1.heap.size, 8, none⟩ (.bool zb)) = W3
    have hXle : w.heap.size ≤ w1.heap.size := Nat.le_of_lt (lw _ B1)
    have hIX : InsAt w2 w1.heap.size zeroF := ⟨⟨P0, P1, P2, P3, P4, P5, P6, P7, P8⟩, Q0, Q1, Q2, Q3, Q4, Q5, Q6, Q7, Q8⟩
    clear P0 P1 P2 P3 P4 P5 P6 P7 P8 Q0 Q1 Q2 Q3 Q4 Q5 Q6 Q7 Q8
    obtain ⟨⟨p0, p1, p2, p3, p4, p5, p6, p7, p8⟩, FA⟩ := st9 hIX ⟨z0, z1, z2, z3, z4, z5, z6, z7, zb⟩ W3 hW3
    have nX : w1.heap.size ≠ w.heap.size := nb
    have C3 : ∀ o, W3.cell? ⟨w.heap.size, o, none⟩ = W0.cell? ⟨w.heap.size, o, none⟩ := fun o => (FA _ o nX).trans (B2.cell (p := ⟨w.heap.size, o, none⟩) (by show w.heap.size < W0.heap.size; omega))
    have BW : Below w.heap.size w W3 := by
      rw [← hW3]
      exact below9 (b0.drew.trans (B2.mono (by show w.heap.size ≤ W0.heap.size; omega))) (Nat.le_of_lt (by have : w.heap.size ≠ w1.heap.size := nX.symm; have : w.heap.size ≤ w1.heap.size := hXle; omega)) _ _ _ _ _ _ _ _ _
    clear FA
    simp only at p0 p1 p2 p3 p4 p5 p6 p7 p8
    generalize hXX : w1.heap.size = X at *
    exact hx _ _ (ins_rest s l A cap k a sz f ln x0 x1 x2 x3 x4 x5 x6 x7 xb V vc vs p it w hA hl z0 z1 z2 z3 z4 z5 z6 z7 zb m er q.length (by omega) (fun h => by obtain ⟨n, h1, h2, h3, _⟩ := hdk h; exact ⟨n, h1, h2, h3⟩) R HR.out X W3 BW (fun o => (C3 o).trans (cN o)) nX p0 p1 p2 p3 p4 p5 p6 p7 p8 _ _ _ _ _ _ _ _ _ _ _ _)
  · generalize hW3 : (((((((((w2.setCell ⟨w.heap.size + 1, 0, none⟩ (.int .i64 z0)).setCell ⟨w.heap.size + 1, 1, none⟩ (.int .i64 z1)).setCell ⟨w.heap.size + 1, 2, none⟩ (.int .i64 z2)).setCell ⟨w.heap.size + 1, 3, none⟩ (.int .i64 z3)).setCell ⟨w.heap.size + 1, 4, none⟩ (.int .i64 z4)).setCell ⟨w.heap.size + 1, 5, none⟩ (.int .i64 z5)).setCell ⟨w.heap.size + 1, 6, none⟩ (.int .i64 z6)).setCell ⟨w.heap.size + 1, 7, none⟩ (.int .i64 z7)).setCell ⟨w.heap.size + 1, 8, none⟩ (.bool zb)) = W3
    have hXle : w.heap.size ≤ w.heap.size + 1 := Nat.le_succ _
    have hIX : InsAt w2 (w.heap.size + 1) zeroF := ⟨⟨P0, P1, P2, P3, P4, P5, P6, P7, P8⟩, Q0, Q1, Q2, Q3, Q4, Q5, Q6, Q7, Q8⟩
    clear P0 P1 P2 P3 P4 P5 P6 P7 P8 Q0 Q1 Q2 Q3 Q4 Q5 Q6 Q7 Q8
    obtain ⟨⟨p0, p1, p2, p3, p4, p5, p6, p7, p8⟩, FA⟩ := st9 hIX ⟨z0, z1, z2, z3, z4, z5, z6, z7, zb⟩ W3 hW3
    have nX : w.heap.size + 1 ≠ w.heap.size := nb
    have C3 : ∀ o, W3.cell? ⟨w.heap.size, o, none⟩ = W0.cell? ⟨w.heap.size, o, none⟩ := fun o => (FA _ o nX).trans (B2.cell (p := ⟨w.heap.size, o, none⟩) (by show w.heap.size < W0.heap.size; omega))
    have BW : Below w.heap.size w W3 := by
      rw [← hW3]
      exact below9 (b0.drew.trans (B2.mono (by show w.heap.size ≤ W0.heap.size; omega))) (Nat.le_of_lt (by have : w.heap.size ≠ w.heap.size + 1 := nX.symm; have : w.heap.size ≤ w.heap.size + 1 := hXle; omega)) _ _ _ _ _ _ _ _ _
    clear FA
    simp only at p0 p1 p2 p3 p4 p5 p6 p7 p8
    generalize hXX : w.heap.size + 1 = X at *
    exact hx _ _ (ins_rest s l A cap k a sz f ln x0 x1 x2 x3 x4 x5 x6 x7 xb V vc vs p it w hA hl z0 z1 z2 z3 z4 z5 z6 z7 zb m er q.length (by omega) (fun h => by obtain ⟨n, h1, h2, h3, _⟩ := hdk h; exact ⟨n, h1, h2, h3⟩) R HR.out X W3 BW (fun o => (C3 o).trans (cN o)) nX p0 p1 p2 p3 p4 p5 p6 p7 p8 _ _ _ _ _ _ _ _ _ _ _ _)
#print axioms insi_any
end Go.Proofs.YtiicniiecomhjaaDoor
