/- For the seat: texts joined: KerI, KerP, KerR, KerW, KrDef, KrA. -/
import Derived.Test.YtnpfihlaocpcfaaGreatDoorJL1a
import Derived.Test.YtnpfihlaocpcfaaGreatDoorJL2a
import Derived.Test.YtnpfihlaocpcfaaGreatDoorJL0a
import Derived.Deep.RegionHeld3
import Derived.Deep.MidRow
import Derived.WalkSpells
import Derived.Lib.Strings
import Derived.WalkLawsBesides
/- For the seat: an instruction of an image that is looked at. -/
namespace Go.Proofs.YtnpfihlaocpcfaaGreatDoor
open Go.Sx Go.ChangeShapes Go.WideShapes Go.RowKit Go.Joins Go.Deep
attribute [local go_sem ↓] ins_equal ins_guard

/-- What ends in a region. -/
def endsR (n : Nat) : Code → Bool
  | .region i _ _ => i == n
  | .seq _ b => endsR n b
  | _ => false
/-- The code behind a region. -/
def behindR (n : Nat) : Code → Option Code
  | .seq a b => match endsR n a with
    | true => some b
    | false => match behindR n a with
      | some a' => some (.seq a' b)
      | none => behindR n b
  | _ => none
noncomputable def restI : Code := ((Tryz.f15.body.bind (behindR 1)).getD .skip)

set_option maxRecDepth 100000 in
set_option maxHeartbeats 4000000 in
theorem ins_rest (s : ByteArray) (l : List Itm) (A : Option Addr) (cap : Nat) (k a sz f ln x0 x1 x2 x3 x4 x5 x6 x7 : Int) (xb : Bool) (V : Option Addr) (vc : Nat) (vs : List Int) (p : ByteArray) (it : Int) (w : World) (hA : ItAt w w.heap.size A l) (hl : l.length ≤ maxLen)
    (z0 z1 z2 z3 z4 z5 z6 z7 : Int) (zb : Bool) (m er : Int) (ql : Nat) (hql : ql ≤ 4000000000) (hdk : er = 0 → ∃ n : Nat, m = n ∧ 1 ≤ n ∧ n ≤ ql) (R : Bool)
    (HR0 : (if er = 0 ∧ (⟨z0, z1, z2, z3, z4, z5, z6, z7, zb⟩ : Fields) = ⟨x0, x1, x2, x3, x4, x5, x6, x7, xb⟩ ∧ 2 * m = sz ∧ bits BinOp.and IntKind.i64 a 1 = 0 then
      if (leadsP ⟨k, a, sz, f, ln, ⟨x0, x1, x2, x3, x4, x5, x6, x7, xb⟩, V, vc, vs⟩).2 = true then
        if x0 = 40 ∨ x0 = 41 then decide (0 ≤ (leadsP ⟨k, a, sz, f, ln, ⟨x0, x1, x2, x3, x4, x5, x6, x7, xb⟩, V, vc, vs⟩).1 ∧ (leadsP ⟨k, a, sz, f, ln, ⟨x0, x1, x2, x3, x4, x5, x6, x7, xb⟩, V, vc, vs⟩).1 ≤ (s.size : Int)) else standsB s.size l (leadsP ⟨k, a, sz, f, ln, ⟨x0, x1, x2, x3, x4, x5, x6, x7, xb⟩, V, vc, vs⟩).1
      else true
    else false) = R)
    (X : Nat) (W3 : World) (BW : Below w.heap.size w W3) (C3 : ∀ o, W3.cell? ⟨w.heap.size, o, none⟩ = #[.string s, .slice A l.length cap, .int .i64 k, .int .i64 a, .int .i64 sz, .int .i64 f, .int .i64 ln, .int .i64 x0, .int .i64 x1, .int .i64 x2, .int .i64 x3, .int .i64 x4, .int .i64 x5, .int .i64 x6, .int .i64 x7, .bool xb, .slice V vs.length vc, .string p, .int .i64 it][o]?) (_nX : X ≠ w.heap.size)
    (p0 : W3.cell? ⟨X, 0, none⟩ = some (.int .i64 z0)) (p1 : W3.cell? ⟨X, 1, none⟩ = some (.int .i64 z1)) (p2 : W3.cell? ⟨X, 2, none⟩ = some (.int .i64 z2)) (p3 : W3.cell? ⟨X, 3, none⟩ = some (.int .i64 z3)) (p4 : W3.cell? ⟨X, 4, none⟩ = some (.int .i64 z4)) (p5 : W3.cell? ⟨X, 5, none⟩ = some (.int .i64 z5)) (p6 : W3.cell? ⟨X, 6, none⟩ = some (.int .i64 z6)) (p7 : W3.cell? ⟨X, 7, none⟩ = some (.int .i64 z7)) (p8 : W3.cell? ⟨X, 8, none⟩ = some (.bool zb))
    (c8 c9 c10 c11 c12 c13 c14 c15 c16 c17 c18 c19 : Value) :
    Code.wp Tryz.prog restI (bodyPost Tryz.prog Tryz.f15 fun e w' => e = .returned (.bool R) ∧ Below w.heap.size w w') ⟨#[.agg #[.string s, .slice A l.length cap, .int .i64 k, .int .i64 a, .int .i64 sz, .int .i64 f, .int .i64 ln, .int .i64 x0, .int .i64 x1, .int .i64 x2, .int .i64 x3, .int .i64 x4, .int .i64 x5, .int .i64 x6, .int .i64 x7, .bool xb, .slice V vs.length vc, .string p, .int .i64 it], .pointer (some ⟨w.heap.size, 0, none⟩), .bool false, .pointer (some ⟨X, 0, none⟩), .int .i64 m, .int .i64 er, undef, undef, c8, c9, c10, c11, c12, c13, c14, c15, c16, c17, c18, c19, undef, undef, undef, undef, undef, undef, undef, undef, undef, undef, undef, undef, undef, undef, undef, undef, undef, undef, undef, undef, undef, undef, undef, undef, undef, undef, undef, undef, undef, undef, undef, undef, undef, undef, undef, undef, undef, undef, undef, undef, undef, undef, undef, undef, undef, undef, undef, undef, undef, undef, undef, undef, undef], []⟩ W3 := by
  have HR := Lib.hid HR0
  clear HR0
  conv => arg 2; whnf
  have hLd := leads_any ⟨k, a, sz, f, ln, ⟨x0, x1, x2, x3, x4, x5, x6, x7, xb⟩, V, vc, vs⟩ W3
  have hSt := fun (q' : Int) (W : World) (hW' : Below w.heap.size w W) => stands_any s l A cap ⟨k, a, sz, f, ln, ⟨x0, x1, x2, x3, x4, x5, x6, x7, xb⟩, V, vc, vs⟩ p it q' W ((hA.below hW' (Nat.le_refl _)).more hW'.size) hl
  dsimp only [imgV, Itm.val, Itm.cells] at hLd hSt
  generalize leadsP ⟨k, a, sz, f, ln, ⟨x0, x1, x2, x3, x4, x5, x6, x7, xb⟩, V, vc, vs⟩ = lp at hLd HR
  obtain ⟨to, ok⟩ := lp
  dsimp only at hLd HR
  have hX3 : X < W3.heap.size := World.block_lt_of_cell? W3 _ p0
  have i0 : W3.cell? ⟨w.heap.size, 0, none⟩ = some (.string s) := C3 0
  have i1 : W3.cell? ⟨w.heap.size, 1, none⟩ = some (.slice A l.length cap) := C3 1
  have i2 : W3.cell? ⟨w.heap.size, 2, none⟩ = some (.int .i64 k) := C3 2
  have i3 : W3.cell? ⟨w.heap.size, 3, none⟩ = some (.int .i64 a) := C3 3
  have i4 : W3.cell? ⟨w.heap.size, 4, none⟩ = some (.int .i64 sz) := C3 4
  have i5 : W3.cell? ⟨w.heap.size, 5, none⟩ = some (.int .i64 f) := C3 5
  have i6 : W3.cell? ⟨w.heap.size, 6, none⟩ = some (.int .i64 ln) := C3 6
  have i7 : W3.cell? ⟨w.heap.size, 7, none⟩ = some (.int .i64 x0) := C3 7
  have i8 : W3.cell? ⟨w.heap.size, 8, none⟩ = some (.int .i64 x1) := C3 8
  have i9 : W3.cell? ⟨w.heap.size, 9, none⟩ = some (.int .i64 x2) := C3 9
  have i10 : W3.cell? ⟨w.heap.size, 10, none⟩ = some (.int .i64 x3) := C3 10
  have i11 : W3.cell? ⟨w.heap.size, 11, none⟩ = some (.int .i64 x4) := C3 11
  have i12 : W3.cell? ⟨w.heap.size, 12, none⟩ = some (.int .i64 x5) := C3 12
  have i13 : W3.cell? ⟨w.heap.size, 13, none⟩ = some (.int .i64 x6) := C3 13
  have i14 : W3.cell? ⟨w.heap.size, 14, none⟩ = some (.int .i64 x7) := C3 14
  have i15 : W3.cell? ⟨w.heap.size, 15, none⟩ = some (.bool xb) := C3 15
  have i16 : W3.cell? ⟨w.heap.size, 16, none⟩ = some (.slice V vs.length vc) := C3 16
  have i17 : W3.cell? ⟨w.heap.size, 17, none⟩ = some (.string p) := C3 17
  have i18 : W3.cell? ⟨w.heap.size, 18, none⟩ = some (.int .i64 it) := C3 18
  by_cases he : er = 0
  · subst he
    have e1 : ((0 : Int) != 0) = false := rfl
    by_cases hz : (⟨z0, z1, z2, z3, z4, z5, z6, z7, zb⟩ : Fields) = ⟨x0, x1, x2, x3, x4, x5, x6, x7, xb⟩
    · simp only [Fields.mk.injEq] at hz
      obtain ⟨rfl, rfl, rfl, rfl, rfl, rfl, rfl, rfl, rfl⟩ := hz
      have hq := eqB_yes (rfl : (⟨z0, z1, z2, z3, z4, z5, z6, z7, zb⟩ : Fields) = ⟨z0, z1, z2, z3, z4, z5, z6, z7, zb⟩)
      obtain ⟨nn, rfl, hn1, hn2⟩ := hdk rfl
      have hm2 : IntKind.i64.wrap (2 * (nn : Int)) = 2 * (nn : Int) := IntWalk.i64_in _ (by omega)
      clear hdk
      by_cases hs2 : 2 * (nn : Int) = sz
      · have e2 : (2 * (nn : Int) != sz) = false := by rw [hs2]; simp
        by_cases ha : bits BinOp.and IntKind.i64 a 1 = 0
        · have e3 : (bits BinOp.and IntKind.i64 a 1 != 0) = false := by rw [ha]; rfl
          have hR := HR.out
          rw [if_pos ⟨rfl, rfl, hs2, ha⟩] at hR
          replace HR := Lib.hid hR
          clear hR
          clear hs2 ha
          go_wp2_with fail
          ((with_reducible refine hLd.mono ?_); rintro e w4 ⟨rfl, hb4⟩)
          have BW4 := BW.trans (hb4.mono BW.size)
          have r0 : w4.cell? ⟨X, 0, none⟩ = some (.int .i64 z0) := (hb4.cell (p := ⟨X, 0, none⟩) hX3).trans p0
          have D4 : ∀ o, w4.cell? ⟨w.heap.size, o, none⟩ = W3.cell? ⟨w.heap.size, o, none⟩ := fun o => hb4.cell (p := ⟨w.heap.size, o, none⟩) (by show w.heap.size < W3.heap.size; exact World.block_lt_of_cell? W3 _ i0)
          have hrg : w4.rangeAt w.heap.size 0 [.string s, .slice A l.length cap, .int .i64 k, .int .i64 a, .int .i64 sz, .int .i64 f, .int .i64 ln, .int .i64 z0, .int .i64 z1, .int .i64 z2, .int .i64 z3, .int .i64 z4, .int .i64 z5, .int .i64 z6, .int .i64 z7, .bool zb, .slice V vs.length vc, .string p, .int .i64 it] := fun j v hv => by
            rw [Nat.zero_add]
            exact (D4 j).trans ((C3 j).trans (by rw [List.getElem?_toArray]; exact hv))
          clear C3
          have j0 : w4.cell? ⟨w.heap.size, 0, none⟩ = some (.string s) := (D4 0).trans i0
          clear D4 hLd i0 i1 i2 i3 i4 i5 i6 i7 i8 i9 i10 i11 i12 i13 i14 i15 i16 i17 i18 p0 p1 p2 p3 p4 p5 p6 p7 p8
          have hSt4 := hSt to w4 BW4
          cases ok
          · have hR := HR.out
            rw [if_neg (by decide)] at hR
            replace HR := Lib.hid hR
            clear hR
            go_wp2_with fail
            exact bodyPost_ret (results_tmp rfl _ _ _) rfl ⟨by rw [← HR.out]; rfl, BW4⟩
          · have hR := HR.out
            rw [if_pos rfl] at hR
            replace HR := Lib.hid hR
            clear hR
            by_cases h40 : z0 = 40
            · have q40 : (z0 == 40) = true := by rw [h40]; rfl
              have hR := HR.out
              rw [if_pos (.inl h40)] at hR
              replace HR := Lib.hid hR
              clear hR
              clear h40 hSt hSt4
              by_cases t0 : 0 ≤ to
              · have u0 : decide (0 ≤ to) = true := decide_eq_true t0
                by_cases t1 : to ≤ (s.size : Int)
                · have u1 : decide (to ≤ (s.size : Int)) = true := decide_eq_true t1
                  have hR := HR.out
                  rw [decide_eq_true (And.intro t0 t1)] at hR
                  replace HR := Lib.hid hR
                  clear hR
                  go_wp2_with fail
                  exact bodyPost_ret (results_tmp rfl _ _ _) rfl ⟨by rw [← HR.out]; rfl, BW4⟩
                · have u1 : decide (to ≤ (s.size : Int)) = false := decide_eq_false t1
                  have hR := HR.out
                  rw [decide_eq_false (fun h : 0 ≤ to ∧ to ≤ (s.size : Int) => t1 h.2)] at hR
                  replace HR := Lib.hid hR
                  clear hR
                  go_wp2_with fail
                  exact bodyPost_ret (results_tmp rfl _ _ _) rfl ⟨by rw [← HR.out]; rfl, BW4⟩
              · have u0 : decide (0 ≤ to) = false := decide_eq_false t0
                have hR := HR.out
                rw [decide_eq_false (fun h : 0 ≤ to ∧ to ≤ (s.size : Int) => t0 h.1)] at hR
                replace HR := Lib.hid hR
                clear hR
                go_wp2_with fail
                exact bodyPost_ret (results_tmp rfl _ _ _) rfl ⟨by rw [← HR.out]; rfl, BW4⟩
            · have q40 : (z0 == 40) = false := by simpa using h40
              by_cases h41 : z0 = 41
              · have q41 : (z0 == 41) = true := by rw [h41]; rfl
                have hR := HR.out
                rw [if_pos (.inr h41)] at hR
                replace HR := Lib.hid hR
                clear hR
                clear h40 h41 hSt hSt4
                by_cases t0 : 0 ≤ to
                · have u0 : decide (0 ≤ to) = true := decide_eq_true t0
                  by_cases t1 : to ≤ (s.size : Int)
                  · have u1 : decide (to ≤ (s.size : Int)) = true := decide_eq_true t1
                    have hR := HR.out
                    rw [decide_eq_true (And.intro t0 t1)] at hR
                    replace HR := Lib.hid hR
                    clear hR
                    go_wp2_with fail
                    exact bodyPost_ret (results_tmp rfl _ _ _) rfl ⟨by rw [← HR.out]; rfl, BW4⟩
                  · have u1 : decide (to ≤ (s.size : Int)) = false := decide_eq_false t1
                    have hR := HR.out
                    rw [decide_eq_false (fun h : 0 ≤ to ∧ to ≤ (s.size : Int) => t1 h.2)] at hR
                    replace HR := Lib.hid hR
                    clear hR
                    go_wp2_with fail
                    exact bodyPost_ret (results_tmp rfl _ _ _) rfl ⟨by rw [← HR.out]; rfl, BW4⟩
                · have u0 : decide (0 ≤ to) = false := decide_eq_false t0
                  have hR := HR.out
                  rw [decide_eq_false (fun h : 0 ≤ to ∧ to ≤ (s.size : Int) => t0 h.1)] at hR
                  replace HR := Lib.hid hR
                  clear hR
                  go_wp2_with fail
                  exact bodyPost_ret (results_tmp rfl _ _ _) rfl ⟨by rw [← HR.out]; rfl, BW4⟩
              · have q41 : (z0 == 41) = false := by simpa using h41
                have hR := HR.out
                rw [if_neg (by rintro (h | h) <;> contradiction)] at hR
                replace HR := Lib.hid hR
                clear hR
                clear h40 h41 hSt
                generalize standsB s.size l to = sb at hSt4 HR
                go_wp2_with (refine wpList_load_mid rfl 42 (.tmp 1) rfl w.heap.size 0 rfl _ _ hrg Tryz.underlying42 rfl (by kernel_rfl) ?_)
                dsimp only [List.toArray]
                ((with_reducible refine hSt4.mono ?_); rintro e w5 ⟨rfl, hb5⟩)
                go_wp2_with fail
                exact bodyPost_ret (results_tmp rfl _ _ _) rfl ⟨by rw [← HR.out]; rfl, BW4.trans (hb5.mono BW4.size)⟩
        · have e3 : (bits BinOp.and IntKind.i64 a 1 != 0) = true := by simpa using ha
          have hR := HR.out
          rw [if_neg (fun h => ha h.2.2.2)] at hR
          replace HR := Lib.hid hR
          clear hR ha hs2
          go_wp2_with fail
          exact bodyPost_ret (results_tmp rfl _ _ _) rfl ⟨by rw [← HR.out]; rfl, BW⟩
      · have e2 : (2 * (nn : Int) != sz) = true := by simpa using hs2
        have hR := HR.out
        rw [if_neg (fun h => hs2 h.2.2.1)] at hR
        replace HR := Lib.hid hR
        clear hR
        clear hs2
        go_wp2_with fail
        exact bodyPost_ret (results_tmp rfl _ _ _) rfl ⟨by rw [← HR.out]; rfl, BW⟩
    · have hq := eqB_no hz
      have hR := HR.out
      rw [if_neg (fun h => hz h.2.1)] at hR
      replace HR := Lib.hid hR
      clear hR
      clear hz
      go_wp2_with fail
      exact bodyPost_ret (results_tmp rfl _ _ _) rfl ⟨by rw [← HR.out]; rfl, BW⟩
  · have e1 : (er != 0) = true := by simpa using he
    have hR := HR.out
    rw [if_neg (fun h => he h.1)] at hR
    replace HR := Lib.hid hR
    clear hR
    clear he
    go_wp2_with fail
    exact bodyPost_ret (results_tmp rfl _ _ _) rfl ⟨by rw [← HR.out]; rfl, BW⟩

set_option maxRecDepth 100000 in
set_option maxHeartbeats 4000000 in
theorem insi_any (s : ByteArray) (l : List Itm) (A : Option Addr) (cap : Nat) (y : Itm) (p : ByteArray) (it : Int) (w : World) (hA : ItAt w w.heap.size A l) (hl : l.length ≤ maxLen) (hy : y.Ok) (hp : p.size ≤ 4000000000) (hw : Laid w) :
    Calls Tryz.prog 15 #[imgV s A l.length cap y p it] w fun e w' => e = .returned (.bool (insB s.size l y p.data.toList it)) ∧ Below w.heap.size w w' := by
  generalize hR0 : insB s.size l y p.data.toList it = R
  unfold insB at hR0
  have hU := fun w1 => unpack_any p w1 hp
  have hU2 := unpB_len p.data.toList
  have hU3 := unpB_hw p.data.toList
  have hps : p.data.toList.length = p.size := rfl
  generalize unpB p.data.toList = q at hU hU2 hU3 hR0
  have hD := fun (A1 : Option Addr) (cap1 : Nat) (w1 : World) (h : IAt w1 w1.heap.size A1 q) (hw1 : Laid w1) => dec_any q A1 cap1 (itB it) w1 h hU3 (by unfold maxLen; omega) hw1
  have hdk := decOf_num (l := q) (it := itB it)
  unfold itB at hD hdk hR0
  generalize decOf q (bits BinOp.and IntKind.i64 it 15 != 0) = d at hD hdk hR0
  obtain ⟨z, m, er⟩ := d
  obtain ⟨k, a, sz, f, ln, x, V, vc, vs⟩ := y
  obtain ⟨x0, x1, x2, x3, x4, x5, x6, x7, xb⟩ := x
  obtain ⟨z0, z1, z2, z3, z4, z5, z6, z7, zb⟩ := z
  dsimp only [imgV] at *
  have HR := Lib.hid hR0
  clear hR0
  have b0 := (Below.refl w.heap.size w).alloc (Nat.le_refl _) (.cells #[.string s, .slice A l.length cap, .int .i64 k, .int .i64 a, .int .i64 sz, .int .i64 f, .int .i64 ln, .int .i64 x0, .int .i64 x1, .int .i64 x2, .int .i64 x3, .int .i64 x4, .int .i64 x5, .int .i64 x6, .int .i64 x7, .bool xb, .slice V vs.length vc, .string p, .int .i64 it] 42)
  have cN := cell_allocN w #[.string s, .slice A l.length cap, .int .i64 k, .int .i64 a, .int .i64 sz, .int .i64 f, .int .i64 ln, .int .i64 x0, .int .i64 x1, .int .i64 x2, .int .i64 x3, .int .i64 x4, .int .i64 x5, .int .i64 x6, .int .i64 x7, .bool xb, .slice V vs.length vc, .string p, .int .i64 it] 42
  have hsz : (w.alloc (.cells #[.string s, .slice A l.length cap, .int .i64 k, .int .i64 a, .int .i64 sz, .int .i64 f, .int .i64 ln, .int .i64 x0, .int .i64 x1, .int .i64 x2, .int .i64 x3, .int .i64 x4, .int .i64 x5, .int .i64 x6, .int .i64 x7, .bool xb, .slice V vs.length vc, .string p, .int .i64 it] 42)).heap.size = w.heap.size + 1 := by simp
  generalize hW : w.alloc (.cells #[.string s, .slice A l.length cap, .int .i64 k, .int .i64 a, .int .i64 sz, .int .i64 f, .int .i64 ln, .int .i64 x0, .int .i64 x1, .int .i64 x2, .int .i64 x3, .int .i64 x4, .int .i64 x5, .int .i64 x6, .int .i64 x7, .bool xb, .slice V vs.length vc, .string p, .int .i64 it] 42) = W0 at b0 cN hsz
  have c17 : W0.cell? ⟨w.heap.size, 17, none⟩ = some (.string p) := cN 17
  have c18 : W0.cell? ⟨w.heap.size, 18, none⟩ = some (.int .i64 it) := cN 18
  go_enter Tryz.func15, Tryz.ntmps15
  go_wp2_with fail
  have lw : ∀ X : World, Below W0.heap.size W0.drew X → w.heap.size < X.heap.size := fun X h => by have := h.size; show w.heap.size < X.heap.size; have : W0.heap.size ≤ X.heap.size := this; omega
  have k17 : ∀ X : World, Below W0.heap.size W0.drew X → X.cell? ⟨w.heap.size, 17, none⟩ = some (.string p) := fun X h => (h.cell (p := ⟨w.heap.size, 17, none⟩) (by show w.heap.size < W0.heap.size; omega)).trans c17
  have k18 : ∀ X : World, Below W0.heap.size W0.drew X → X.cell? ⟨w.heap.size, 18, none⟩ = some (.int .i64 it) := fun X h => (h.cell (p := ⟨w.heap.size, 18, none⟩) (by show w.heap.size < W0.heap.size; omega)).trans c18
  have lay : ∀ X : World, Below W0.heap.size W0.drew X → Laid X := fun X h => laid_below hw (b0.drew.trans (h.mono (by show w.heap.size ≤ W0.heap.size; omega)))
  rename_i Qx Kx hx
  go_region_held3 (fun w' => w'.cell? ⟨w.heap.size, 17, none⟩ = some (.string p) ∧ w'.cell? ⟨w.heap.size, 18, none⟩ = some (.int .i64 it))
    (first
      | (with_reducible exact ⟨f17, f18⟩)
      | (with_reducible exact ⟨d17, d18⟩)
      | (with_reducible exact ⟨(far9 nb _ _ _ _ _ _ _ _ _ _).trans f17, (far9 nb _ _ _ _ _ _ _ _ _ _).trans f18⟩)
      | (with_reducible exact ⟨k17 _ ((Below.refl _ _).alloc (Nat.le_refl _) _), k18 _ ((Below.refl _ _).alloc (Nat.le_refl _) _)⟩)
      | (with_reducible exact ⟨k17 _ (B1.alloc B1.size _), k18 _ (B1.alloc B1.size _)⟩)
      | (with_reducible exact ⟨k17 _ (B2.alloc B2.size _), k18 _ (B2.alloc B2.size _)⟩)
      | go_keep)
    (first
      | (go_at_call 27; refine (hU W0.drew).mono ?_; rintro e w1 ⟨A1, cap1, rfl, hA1, hcap1, hb1⟩; have B1 : Below W0.heap.size W0.drew w1 := hb1; have d17 := k17 _ B1; have d18 := k18 _ B1)
      | (go_at_call 27; refine (hU (W0.drew.alloc (.cells (Fields.cells zeroF) 30))).mono ?_; rintro e w1 ⟨A1, cap1, rfl, hA1, hcap1, hb1⟩; have B1 : Below W0.heap.size W0.drew w1 := ((Below.refl _ _).alloc (Nat.le_refl _) _).trans (hb1.mono (by simp)); have d17 := k17 _ B1; have d18 := k18 _ B1; have IZ : InsAt w1 (w.heap.size + 1) zeroF := (hsz ▸ (InsAt.new W0.drew zeroF 30).below hb1 (by simp)); have hX : w.heap.size + 1 < w1.heap.size := by (have := hb1.size; simp at this; omega))
      | (go_at_call 26; refine (hD A1 cap1 w1 hA1 (lay _ B1)).mono ?_; rintro e w2 ⟨rfl, hb2⟩; dsimp only [Fields.val]; have B2 := B1.trans (hb2.mono B1.size); have f17 := k17 _ B2; have f18 := k18 _ B2; have nb : w.heap.size + 1 ≠ w.heap.size := (by omega); obtain ⟨⟨P0, P1, P2, P3, P4, P5, P6, P7, P8⟩, Q0, Q1, Q2, Q3, Q4, Q5, Q6, Q7, Q8⟩ := IZ.below hb2 hX)
      | (go_at_call 26; refine (hD A1 cap1 w1 hA1 (lay _ B1)).mono ?_; rintro e w2 ⟨rfl, hb2⟩; dsimp only [Fields.val]; have B2 := B1.trans (hb2.mono B1.size); have f17 := k17 _ B2; have f18 := k18 _ B2)
      | (go_at_call 26; refine (hD A1 cap1 (w1.alloc (.cells (Fields.cells zeroF) 30)) ((hA1.below ((Below.refl w1.heap.size w1).alloc (Nat.le_refl _) (.cells (Fields.cells zeroF) 30)) (Nat.le_refl _)).more (by simp)) (lay _ (B1.alloc B1.size _))).mono ?_; rintro e w2 ⟨rfl, hb2⟩; dsimp only [Fields.val]; have B2 := (B1.alloc B1.size (.cells (Fields.cells zeroF) 30)).trans (hb2.mono (B1.alloc B1.size (.cells (Fields.cells zeroF) 30)).size); have f17 := k17 _ B2; have f18 := k18 _ B2; have nb : w1.heap.size ≠ w.heap.size := Nat.ne_of_gt (lw _ B1); obtain ⟨⟨P0, P1, P2, P3, P4, P5, P6, P7, P8⟩, Q0, Q1, Q2, Q3, Q4, Q5, Q6, Q7, Q8⟩ := (InsAt.new w1 zeroF 30).below hb2 (by simp)))
  · generalize hW3 : w2.alloc (.cells #[.int .i64 z0, .int .i64 z1, .int .i64 z2, .int .i64 z3, .int .i64 z4, .int .i64 z5, .int .i64 z6, .int .i64 z7, .bool zb] 30) = W3
    have BW := b0.drew.trans ((B2.alloc B2.size (.cells #[.int .i64 z0, .int .i64 z1, .int .i64 z2, .int .i64 z3, .int .i64 z4, .int .i64 z5, .int .i64 z6, .int .i64 z7, .bool zb] 30)).mono (by show w.heap.size ≤ W0.heap.size; omega))
    have C3 : ∀ o, W3.cell? ⟨w.heap.size, o, none⟩ = W0.cell? ⟨w.heap.size, o, none⟩ := fun o => by
      rw [← hW3]
      exact (B2.alloc B2.size _).cell (p := ⟨w.heap.size, o, none⟩) (by show w.heap.size < W0.heap.size; omega)
    have J := InsAt.new w2 ⟨z0, z1, z2, z3, z4, z5, z6, z7, zb⟩ 30
    dsimp only [Fields.cells] at J
    rw [hW3] at BW J
    obtain ⟨⟨p0, p1, p2, p3, p4, p5, p6, p7, p8⟩, _⟩ := J
    have nX : w2.heap.size ≠ w.heap.size := Nat.ne_of_gt (lw _ B2)
    generalize w2.heap.size = X at *
    exact hx _ _ (ins_rest s l A cap k a sz f ln x0 x1 x2 x3 x4 x5 x6 x7 xb V vc vs p it w hA hl z0 z1 z2 z3 z4 z5 z6 z7 zb m er q.length (by omega) (fun h => by obtain ⟨n, h1, h2, h3, _⟩ := hdk h; exact ⟨n, h1, h2, h3⟩) R HR.out X W3 BW (fun o => (C3 o).trans (cN o)) nX p0 p1 p2 p3 p4 p5 p6 p7 p8 _ _ _ _ _ _ _ _ _ _ _ _)
  · generalize hW3 : (((((((((w2.setCell ⟨w1.heap.size, 0, none⟩ (.int .i64 z0)).setCell ⟨w1.heap.size, 1, none⟩ (.int .i64 z1)).setCell ⟨w1.heap.size, 2, none⟩ (.int .i64 z2)).setCell ⟨w1.heap.size, 3, none⟩ (.int .i64 z3)).setCell ⟨w1.heap.size, 4, none⟩ (.int .i64 z4)).setCell ⟨w1.heap.size, 5, none⟩ (.int .i64 z5)).setCell ⟨w1.heap.size, 6, none⟩ (.int .i64 z6)).setCell ⟨w1.heap.size, 7, none⟩ (.int .i64 z7)).setCell ⟨w1.heap.size, 8, none⟩ (.bool zb)) = W3
    have hXle : w.heap.size ≤ w1.heap.size := Nat.le_of_lt (lw _ B1)
    have hIX : InsAt w2 w1.heap.size zeroF := ⟨⟨P0, P1, P2, P3, P4, P5, P6, P7, P8⟩, Q0, Q1, Q2, Q3, Q4, Q5, Q6, Q7, Q8⟩
    clear P0 P1 P2 P3 P4 P5 P6 P7 P8 Q0 Q1 Q2 Q3 Q4 Q5 Q6 Q7 Q8
    obtain ⟨⟨p0, p1, p2, p3, p4, p5, p6, p7, p8⟩, FA⟩ := st9 hIX ⟨z0, z1, z2, z3, z4, z5, z6, z7, zb⟩ W3 hW3
    have nX : w1.heap.size ≠ w.heap.size := nb
    have C3 : ∀ o, W3.cell? ⟨w.heap.size, o, none⟩ = W0.cell? ⟨w.heap.size, o, none⟩ := fun o => (FA _ o nX).trans (B2.cell (p := ⟨w.heap.size, o, none⟩) (by show w.heap.size < W0.heap.size; omega))
    have BW : Below w.heap.size w W3 := by
      rw [← hW3]
      exact below9 (b0.drew.trans (B2.mono (by show w.heap.size ≤ W0.heap.size; omega))) (Nat.le_of_lt (by have : w.heap.size ≠ w1.heap.size := nX.symm; have : w.heap.size ≤ w1.heap.size := hXle; omega)) _ _ _ _ _ _ _ _ _
    clear FA
    simp only at p0 p1 p2 p3 p4 p5 p6 p7 p8
    generalize hXX : w1.heap.size = X at *
    exact hx _ _ (ins_rest s l A cap k a sz f ln x0 x1 x2 x3 x4 x5 x6 x7 xb V vc vs p it w hA hl z0 z1 z2 z3 z4 z5 z6 z7 zb m er q.length (by omega) (fun h => by obtain ⟨n, h1, h2, h3, _⟩ := hdk h; exact ⟨n, h1, h2, h3⟩) R HR.out X W3 BW (fun o => (C3 o).trans (cN o)) nX p0 p1 p2 p3 p4 p5 p6 p7 p8 _ _ _ _ _ _ _ _ _ _ _ _)
  · generalize hW3 : (((((((((w2.setCell ⟨w.heap.size + 1, 0, none⟩ (.int .i64 z0)).setCell ⟨w.heap.size + 1, 1, none⟩ (.int .i64 z1)).setCell ⟨w.heap.size + 1, 2, none⟩ (.int .i64 z2)).setCell ⟨w.heap.size + 1, 3, none⟩ (.int .i64 z3)).setCell ⟨w.heap.size + 1, 4, none⟩ (.int .i64 z4)).setCell ⟨w.heap.size + 1, 5, none⟩ (.int .i64 z5)).setCell ⟨w.heap.size + 1, 6, none⟩ (.int .i64 z6)).setCell ⟨w.heap.size + 1, 7, none⟩ (.int .i64 z7)).setCell ⟨w.heap.size + 1, 8, none⟩ (.bool zb)) = W3
    have hXle : w.heap.size ≤ w.heap.size + 1 := Nat.le_succ _
    have hIX : InsAt w2 (w.heap.size + 1) zeroF := ⟨⟨P0, P1, P2, P3, P4, P5, P6, P7, P8⟩, Q0, Q1, Q2, Q3, Q4, Q5, Q6, Q7, Q8⟩
    clear P0 P1 P2 P3 P4 P5 P6 P7 P8 Q0 Q1 Q2 Q3 Q4 Q5 Q6 Q7 Q8
    obtain ⟨⟨p0, p1, p2, p3, p4, p5, p6, p7, p8⟩, FA⟩ := st9 hIX ⟨z0, z1, z2, z3, z4, z5, z6, z7, zb⟩ W3 hW3
    have nX : w.heap.size + 1 ≠ w.heap.size := nb
    have C3 : ∀ o, W3.cell? ⟨w.heap.size, o, none⟩ = W0.cell? ⟨w.heap.size, o, none⟩ := fun o => (FA _ o nX).trans (B2.cell (p := ⟨w.heap.size, o, none⟩) (by show w.heap.size < W0.heap.size; omega))
    have BW : Below w.heap.size w W3 := by
      rw [← hW3]
      exact below9 (b0.drew.trans (B2.mono (by show w.heap.size ≤ W0.heap.size; omega))) (Nat.le_of_lt (by have : w.heap.size ≠ w.heap.size + 1 := nX.symm; have : w.heap.size ≤ w.heap.size + 1 := hXle; omega)) _ _ _ _ _ _ _ _ _
    clear FA
    simp only at p0 p1 p2 p3 p4 p5 p6 p7 p8
    generalize hXX : w.heap.size + 1 = X at *
    exact hx _ _ (ins_rest s l A cap k a sz f ln x0 x1 x2 x3 x4 x5 x6 x7 xb V vc vs p it w hA hl z0 z1 z2 z3 z4 z5 z6 z7 zb m er q.length (by omega) (fun h => by obtain ⟨n, h1, h2, h3, _⟩ := hdk h; exact ⟨n, h1, h2, h3⟩) R HR.out X W3 BW (fun o => (C3 o).trans (cN o)) nX p0 p1 p2 p3 p4 p5 p6 p7 p8 _ _ _ _ _ _ _ _ _ _ _ _)
#print axioms insi_any
end Go.Proofs.YtnpfihlaocpcfaaGreatDoor
/- For the seat: a pool that is looked at. -/
namespace Go.Proofs.YtnpfihlaocpcfaaGreatDoor
open Go.Sx Go.ChangeShapes Go.WideShapes Go.RowKit Go.Joins Go.Deep

set_option maxRecDepth 100000 in
theorem poolG_cons (vs : List Int) (s : List UInt8) (i : Nat) (v : Int) (r : List Int) : poolG vs s i (v :: r) = if v = wordB ((s.drop (4 * i)).take 4) ∧ indexI vs v = i then poolG vs s (i + 1) r else false := rfl

set_option maxRecDepth 100000 in
/-- Four bytes are two halfwords. -/
theorem unpB_four {l : List UInt8} (h : l.length = 4) : ∃ a b, unpB l = [a, b] := by
  match l, h with
  | [a, b, c, d], _ => exact ⟨_, _, rfl⟩

set_option maxRecDepth 100000 in
set_option maxHeartbeats 2000000 in
theorem pool_any (s : ByteArray) (A : Option Addr) (n cap : Nat) (y : Itm) (p : ByteArray) (it : Int) (w : World) (hy : y.Ok) (hV : IAt w w.heap.size y.V y.vs) (hvb : y.vs.length ≤ 1000000000) (hp : p.size ≤ 4000000000) (hps : (p.size : Int) = y.s) :
    Calls Tryz.prog 16 #[imgV s A n cap y p it] w fun e w' => e = .returned (.bool (poolB y p.data.toList)) ∧ Below w.heap.size w w' := by
  unfold poolB
  have hvl := hy.len
  unfold maxLen at hvl
  obtain ⟨k, a, sz, f, ln, x, V, vc, vs⟩ := y
  obtain ⟨x0, x1, x2, x3, x4, x5, x6, x7, xb⟩ := x
  dsimp only [imgV] at *
  clear hy
  have b0 := (Below.refl w.heap.size w).alloc (Nat.le_refl _) (.cells #[.string s, .slice A n cap, .int .i64 k, .int .i64 a, .int .i64 sz, .int .i64 f, .int .i64 ln, .int .i64 x0, .int .i64 x1, .int .i64 x2, .int .i64 x3, .int .i64 x4, .int .i64 x5, .int .i64 x6, .int .i64 x7, .bool xb, .slice V vs.length vc, .string p, .int .i64 it] 42)
  have cN := cell_allocN w #[.string s, .slice A n cap, .int .i64 k, .int .i64 a, .int .i64 sz, .int .i64 f, .int .i64 ln, .int .i64 x0, .int .i64 x1, .int .i64 x2, .int .i64 x3, .int .i64 x4, .int .i64 x5, .int .i64 x6, .int .i64 x7, .bool xb, .slice V vs.length vc, .string p, .int .i64 it] 42
  have c3 := cN 3
  have c4 := cN 4
  have c16 := cN 16
  have c17 := cN 17
  have hsz : (w.alloc (.cells #[.string s, .slice A n cap, .int .i64 k, .int .i64 a, .int .i64 sz, .int .i64 f, .int .i64 ln, .int .i64 x0, .int .i64 x1, .int .i64 x2, .int .i64 x3, .int .i64 x4, .int .i64 x5, .int .i64 x6, .int .i64 x7, .bool xb, .slice V vs.length vc, .string p, .int .i64 it] 42)).heap.size = w.heap.size + 1 := by simp
  change _ = some (Value.int .i64 a) at c3
  change _ = some (Value.int .i64 sz) at c4
  change _ = some (Value.slice V vs.length vc) at c16
  change _ = some (Value.string p) at c17
  clear cN
  generalize hW : w.alloc (.cells #[.string s, .slice A n cap, .int .i64 k, .int .i64 a, .int .i64 sz, .int .i64 f, .int .i64 ln, .int .i64 x0, .int .i64 x1, .int .i64 x2, .int .i64 x3, .int .i64 x4, .int .i64 x5, .int .i64 x6, .int .i64 x7, .bool xb, .slice V vs.length vc, .string p, .int .i64 it] 42) = W0 at b0 c3 c4 c16 c17 hsz
  have hV0 : IAt W0 w.heap.size V vs := hV.below b0 (Nat.le_refl _)
  clear hV
  by_cases h1 : bits BinOp.and IntKind.i64 a 3 = 0
  · have e1 : (bits BinOp.and IntKind.i64 a 3 != 0) = false := by rw [h1]; rfl
    by_cases h2 : sz = 4 * (vs.length : Int)
    · rw [if_pos ⟨h1, h2⟩]
      have hm' : IntKind.i64.wrap (4 * (vs.length : Int)) = 4 * (vs.length : Int) := IntWalk.i64_in _ (by omega)
      have e2 : (sz != 4 * (vs.length : Int)) = false := by rw [h2]; simp
      have hpv : p.size = 4 * vs.length := by omega
      clear h2 hps
      go_enter Tryz.func16, Tryz.ntmps16
      go_wp2
      go_loopw [26] (fun c wr => ∃ i : Nat, i ≤ vs.length ∧ c = .int .i64 i ∧ poolG vs p.data.toList 0 vs = poolG vs p.data.toList i (vs.drop i) ∧ Below W0.heap.size W0 wr) (fun c _ => vs.length - (intOf c).toNat)
      case atStart => exact ⟨0, by omega, rfl, rfl, Below.refl _ _⟩
      case round =>
        obtain ⟨i, hi, rfl, hg, hbr⟩ := hrel
        have keep : ∀ w', Below W0.heap.size W0 w' → w'.cell? ⟨w.heap.size, 16, none⟩ = some (.slice V vs.length vc) ∧ w'.cell? ⟨w.heap.size, 17, none⟩ = some (.string p) := fun w' h => ⟨(h.cell (p := ⟨w.heap.size, 16, none⟩) (by show w.heap.size < W0.heap.size; omega)).trans c16, (h.cell (p := ⟨w.heap.size, 17, none⟩) (by show w.heap.size < W0.heap.size; omega)).trans c17⟩
        have hbw : Below w.heap.size w wr := b0.trans (hbr.mono (by omega))
        obtain ⟨d16, d17⟩ := keep wr hbr
        by_cases hlt : i < vs.length
        · obtain ⟨g, off, rfl, hgb, hc⟩ := (hV0.below hbr (by omega)).at_ hlt
          have hk0 : (0 : Int) ≤ (i : Int) := by omega
          have hkl : (i : Int) < (vs.length : Int) := by omega
          rw [List.drop_eq_getElem_cons hlt, poolG_cons] at hg
          generalize hv : vs[i] = v at hg hc
          have h4 : ((p.data.toList.drop (4 * i)).take 4).length = 4 := by
            have : p.data.toList.length = p.size := rfl
            rw [List.length_take, List.length_drop]
            omega
          obtain ⟨q0, q1, hq⟩ := unpB_four h4
          have hU := unpack_any (p.extract (4 * i) (4 * i + 4)) wr (by
            have : (p.extract (4 * i) (4 * i + 4)).data.toList.length = (p.extract (4 * i) (4 * i + 4)).size := rfl
            rw [Lib.extract_data, show 4 * i + 4 - 4 * i = 4 by omega, h4] at this
            omega)
          rw [Lib.extract_data, show 4 * i + 4 - 4 * i = 4 by omega, hq] at hU
          unfold wordB at hg
          rw [hq] at hg
          simp only [List.getD_cons_zero, List.getD_cons_succ, List.length_cons, List.length_nil] at hg hU
          have HG := Lib.hid hg
          clear hg
          have s0 : (0 : Int) ≤ 4 * (i : Int) := by omega
          have s1 : 4 * (i : Int) ≤ 4 * (i : Int) + 4 := by omega
          have s2 : 4 * (i : Int) + 4 ≤ (p.size : Int) := by omega
          have s3 : (4 * (i : Int)).toNat = 4 * i := by omega
          have s4 : (4 * (i : Int) + 4).toNat = 4 * i + 4 := by omega
          go_wp2_with fail
          ((with_reducible refine hU.mono ?_); rintro e w1 ⟨A1, cap1, rfl, hA1, hcap1, hb1⟩)
          obtain ⟨g1, o1, rfl, hg1, hc0⟩ := hA1.at_ (k := 0) (by simp)
          obtain ⟨g2, o2, hA2, hg2, hc1⟩ := hA1.at_ (k := 1) (by simp)
          simp only [Option.some.injEq, Addr.mk.injEq, and_true] at hA2
          obtain ⟨rfl, rfl⟩ := hA2
          simp only [List.getElem_cons_zero, List.getElem_cons_succ, Nat.add_zero] at hc0 hc1
          have hbr1 : Below W0.heap.size W0 w1 := hbr.trans (hb1.mono hbr.size)
          obtain ⟨f16, f17⟩ := keep w1 hbr1
          have hI := fun q => index_any vs (some ⟨g, off, none⟩) vc v (w1.drewN q) ((hV0.below hbr1 (by omega)).more (by have := hbr1.size; show w.heap.size ≤ w1.heap.size; omega)) (by unfold maxLen; omega)
          have hbw1 : Below w.heap.size w w1 := b0.trans (hbr1.mono (by omega))
          clear hU hA1 d16 d17 keep
          by_cases hv : v = bits BinOp.or IntKind.i64 q0 (IntKind.i64.wrap (q1 * 65536))
          · have e3 : (v != bits BinOp.or IntKind.i64 q0 (IntKind.i64.wrap (q1 * 65536))) = false := by rw [← hv]; simp
            by_cases hx : indexI vs v = i
            · have e4 : (indexI vs v != (i : Int)) = false := by rw [hx]; simp
              have hn := HG.out
              rw [if_pos ⟨hv, hx⟩] at hn
              have HN := Lib.hid hn
              clear hn HG hx hv
              go_wp2_with fail
              go_quiet (first | (go_at_call 30; exact Calls.quiet_of_same (hI _)))
              go_wp2_with fail
              go_roundw
              case rel => exact ⟨i + 1, by omega, by go_num, HN.out, below_drewN hbr1⟩
              case measure => simp [intOf]; omega
            · have e4 : (indexI vs v != (i : Int)) = true := by simpa using hx
              have hn := HG.out
              rw [if_neg (fun h => hx h.2)] at hn
              have HN := Lib.hid hn
              clear hn HG hx hv
              go_wp2_with fail
              go_quiet (first | (go_at_call 30; exact Calls.quiet_of_same (hI _)))
              go_wp2_with fail
              exact bodyPost_ret (results_tmp rfl _ _ _) rfl ⟨by rw [HN.out]; rfl, below_drewN hbw1⟩
          · have e3 : (v != bits BinOp.or IntKind.i64 q0 (IntKind.i64.wrap (q1 * 65536))) = true := by simpa using hv
            have hn := HG.out
            rw [if_neg (fun h => hv h.1)] at hn
            have HN := Lib.hid hn
            clear hn HG hv hI
            go_wp2_with fail
            go_quiet (fail)
            go_wp2_with fail
            exact bodyPost_ret (results_tmp rfl _ _ _) rfl ⟨by rw [HN.out]; rfl, below_drewN hbw1⟩
        · have e : i = vs.length := by omega
          subst e
          rw [List.drop_length] at hg
          go_wp2_with fail
          exact bodyPost_ret (results_tmp rfl _ _ _) rfl ⟨by rw [hg]; rfl, hbw⟩
    · rw [if_neg (fun h => h2 h.2)]
      have hm' : IntKind.i64.wrap (4 * (vs.length : Int)) = 4 * (vs.length : Int) := IntWalk.i64_in _ (by omega)
      have e2 : (sz != 4 * (vs.length : Int)) = true := by simpa using h2
      go_enter Tryz.func16, Tryz.ntmps16
      go_wp2
      exact bodyPost_ret (results_tmp rfl _ _ _) rfl ⟨rfl, b0⟩
  · rw [if_neg (fun h => h1 h.1)]
    have e1 : (bits BinOp.and IntKind.i64 a 3 != 0) = true := by simpa using h1
    go_enter Tryz.func16, Tryz.ntmps16
    go_wp2
    exact bodyPost_ret (results_tmp rfl _ _ _) rfl ⟨rfl, b0⟩
#print axioms pool_any
end Go.Proofs.YtnpfihlaocpcfaaGreatDoor
/- For the seat: Ranges: each item as it should be. -/
namespace Go.Proofs.YtnpfihlaocpcfaaGreatDoor
open Go.Sx Go.ChangeShapes Go.WideShapes Go.RowKit Go.Joins Go.Deep

set_option maxRecDepth 100000 in
theorem rangB_cons (s : List UInt8) (l : List Itm) (it : Int) (y : Itm) (r : List Itm) : rangB s l it (y :: r) =
    if 0 ≤ y.a ∧ y.a ≤ (s.length : Int) ∧ 0 ≤ y.s ∧ y.s ≤ (s.length : Int) - y.a then
      if oneB s.length l y ((s.drop y.a.toNat).take y.s.toNat) it = true then rangB s l (if y.k = 1 then aftI it y.x else it) r else false
    else false := rfl

set_option maxRecDepth 100000 in
set_option maxHeartbeats 4000000 in
theorem rang_any (s : ByteArray) (l : List Itm) (A : Option Addr) (cap : Nat) (w : World) (hA : ItAt w w.heap.size A l) (hl : l.length ≤ maxLen) (hs : s.size ≤ 4000000000) (hk : ∀ y ∈ l, y.Ok) (hvb : ∀ y ∈ l, y.vs.length ≤ 1000000000) (hw : Laid w) :
    Calls Tryz.prog 11 #[.agg #[.string s, .slice A l.length cap]] w fun e w' => e = .returned (.bool (rangB s.data.toList l 0 l)) ∧ Below w.heap.size w w' := by
  have hl0 := hl
  unfold maxLen at hl
  have hsl : s.data.toList.length = s.size := rfl
  have b0 : Below w.heap.size w (w.alloc (.cells #[.string s, .slice A l.length cap] 24)) := (Below.refl _ _).alloc (Nat.le_refl _) _
  have c0 : (w.alloc (.cells #[.string s, .slice A l.length cap] 24)).cell? ⟨w.heap.size, 0, none⟩ = some (.string s) := cell_allocN _ _ _ 0
  have c01 : (w.alloc (.cells #[.string s, .slice A l.length cap] 24)).cell? ⟨w.heap.size, 1, none⟩ = some (.slice A l.length cap) := cell_allocN _ _ _ 1
  have hsz : (w.alloc (.cells #[.string s, .slice A l.length cap] 24)).heap.size = w.heap.size + 1 := by simp
  generalize hW : w.alloc (.cells #[.string s, .slice A l.length cap] 24) = W0 at b0 c0 c01 hsz
  go_enter Tryz.func11, Tryz.ntmps11
  go_wp2
  go_loopw [3, 10] (fun p c wr => ∃ (i : Nat) (q : Int), i ≤ l.length ∧ c = .int .i64 i ∧ p = .int .i64 q ∧ Hid (kHas .i64 q ∧ rangB s.data.toList l 0 l = rangB s.data.toList l q (l.drop i)) ∧ Below W0.heap.size W0 wr) (fun _ c _ => l.length - (intOf c).toNat)
  case atStart => exact ⟨0, 0, by omega, rfl, rfl, Lib.hid ⟨zero_has, rfl⟩, Below.refl _ _⟩
  case round =>
    obtain ⟨i, q, hi, rfl, rfl, HD, hbr⟩ := hrel
    have c1 : wr.cell? ⟨w.heap.size, 0, none⟩ = some (.string s) := (hbr.cell (p := ⟨w.heap.size, 0, none⟩) (by show w.heap.size < W0.heap.size; omega)).trans c0
    have c2 : wr.cell? ⟨w.heap.size, 1, none⟩ = some (.slice A l.length cap) := (hbr.cell (p := ⟨w.heap.size, 1, none⟩) (by show w.heap.size < W0.heap.size; omega)).trans c01
    have hbw : Below w.heap.size w wr := b0.trans (hbr.mono (by omega))
    have hwz : w.heap.size < wr.heap.size := by have := hbr.size; omega
    by_cases hlt : i < l.length
    · obtain ⟨g, off, rfl, hg, hc⟩ := (hA.below hbw (Nat.le_refl _)).at_ hlt
      have hk0 : (0 : Int) ≤ (i : Int) := by omega
      have hkl : (i : Int) < (l.length : Int) := by omega
      have IN := itIn_of hc
      have hd := HD.out.2
      rw [List.drop_eq_getElem_cons hlt, rangB_cons] at hd
      have hq0 := HD.out.1
      have hy := hk l[i] (List.getElem_mem hlt)
      have hyv := hvb l[i] (List.getElem_mem hlt)
      have hyA := hA.2 l[i] (List.getElem_mem hlt)
      generalize l[i] = y at hd IN hy hyv hyA
      clear hc HD
      obtain ⟨k, a, sz, f, ln, x, V, vc, vs⟩ := y
      obtain ⟨x0, x1, x2, x3, x4, x5, x6, x7, xb⟩ := x
      obtain ⟨p0, p1, p2, p3, p4, p5, p6, p7, p8, p9, p10, p11, p12, p13, p14⟩ := IN
      dsimp only at hd hyv hyA p0 p1 p2 p3 p4 p5 p6 p7 p8 p9 p10 p11 p12 p13 p14
      rw [hsl] at hd
      have hfin : ∀ o, Below w.heap.size w (wr.alloc o) := fun o => hbw.alloc hbw.size o
      by_cases h1 : a < 0
      · have hr : rangB s.data.toList l 0 l = false := by rw [hd, if_neg (by omega)]
        have e1 : decide (a < 0) = true := decide_eq_true h1
        have HR := Lib.hid hr
        clear hd hr
        go_wp2
        exact bodyPost_ret (results_tmp rfl _ _ _) rfl ⟨by rw [HR.out]; rfl, hfin _⟩
      have e1 : decide (a < 0) = false := decide_eq_false h1
      by_cases h2 : (s.size : Int) < a
      · have hr : rangB s.data.toList l 0 l = false := by rw [hd, if_neg (by omega)]
        have e2 : decide ((s.size : Int) < a) = true := decide_eq_true h2
        have HR := Lib.hid hr
        clear hd hr
        go_wp2
        exact bodyPost_ret (results_tmp rfl _ _ _) rfl ⟨by rw [HR.out]; rfl, hfin _⟩
      have e2 : decide ((s.size : Int) < a) = false := decide_eq_false h2
      by_cases h3 : sz < 0
      · have hr : rangB s.data.toList l 0 l = false := by rw [hd, if_neg (by omega)]
        have e3 : decide (sz < 0) = true := decide_eq_true h3
        have HR := Lib.hid hr
        clear hd hr
        go_wp2
        exact bodyPost_ret (results_tmp rfl _ _ _) rfl ⟨by rw [HR.out]; rfl, hfin _⟩
      have e3 : decide (sz < 0) = false := decide_eq_false h3
      have hsub : IntKind.i64.wrap ((s.size : Int) - a) = (s.size : Int) - a := IntWalk.i64_in _ (by omega)
      by_cases h4 : (s.size : Int) - a < sz
      · have hr : rangB s.data.toList l 0 l = false := by rw [hd, if_neg (by omega)]
        have e4 : decide ((s.size : Int) - a < sz) = true := decide_eq_true h4
        have HR := Lib.hid hr
        clear hd hr
        go_wp2
        exact bodyPost_ret (results_tmp rfl _ _ _) rfl ⟨by rw [HR.out]; rfl, hfin _⟩
      have e4 : decide ((s.size : Int) - a < sz) = false := decide_eq_false h4
      have hadd : IntKind.i64.wrap (a + sz) = a + sz := IntWalk.i64_in _ (by omega)
      have s0 : (0 : Int) ≤ a := by omega
      have s1 : a ≤ a + sz := by omega
      have s2 : a + sz ≤ (s.size : Int) := by omega
      rw [if_pos ⟨by omega, by omega, by omega, by omega⟩] at hd
      have hex : (s.extract a.toNat (a + sz).toNat).data.toList = (s.data.toList.drop a.toNat).take sz.toNat := by
        rw [Lib.extract_data, show (a + sz).toNat - a.toNat = sz.toNat by omega]
      have hps : ((s.extract a.toNat (a + sz).toNat).size : Int) = sz := by
        have h : (s.extract a.toNat (a + sz).toNat).data.toList.length = (s.extract a.toNat (a + sz).toNat).size := rfl
        rw [hex, List.length_take, List.length_drop, hsl] at h
        omega
      rw [← hex] at hd
      have hpl : (s.extract a.toNat (a + sz).toNat).size ≤ 4000000000 := by omega
      have haf := fun (W : World) (hW : Laid W) => (aft_p hq0 hy.x).go (w := W) hW
      have hah := aft_has hq0 hy.x
      have CI := fun (W : World) (h : Below w.heap.size w W) => insi_any s l (some ⟨g, off, none⟩) cap ⟨k, a, sz, f, ln, ⟨x0, x1, x2, x3, x4, x5, x6, x7, xb⟩, V, vc, vs⟩ (s.extract a.toNat (a + sz).toNat) q W ((hA.below h (Nat.le_refl _)).more h.size) hl0 hy hpl (laid_below hw h)
      have CP := fun (W : World) (h : Below w.heap.size w W) => pool_any s (some ⟨g, off, none⟩) l.length cap ⟨k, a, sz, f, ln, ⟨x0, x1, x2, x3, x4, x5, x6, x7, xb⟩, V, vc, vs⟩ (s.extract a.toNat (a + sz).toNat) q W hy ((hyA.below h (Nat.le_refl _)).more h.size) hyv hpl hps
      have CA := fun (W : World) => pad_any s (some ⟨g, off, none⟩) l.length cap ⟨k, a, sz, f, ln, ⟨x0, x1, x2, x3, x4, x5, x6, x7, xb⟩, V, vc, vs⟩ (s.extract a.toNat (a + sz).toNat) q W (by unfold maxLen; omega)
      have CN := fun (W : World) => anyi_any s (some ⟨g, off, none⟩) l.length cap ⟨k, a, sz, f, ln, ⟨x0, x1, x2, x3, x4, x5, x6, x7, xb⟩, V, vc, vs⟩ (s.extract a.toNat (a + sz).toNat) q W
      dsimp only [imgV] at CI CP CA CN
      unfold oneB at hd
      dsimp only at hd
      generalize insB s.size l ⟨k, a, sz, f, ln, ⟨x0, x1, x2, x3, x4, x5, x6, x7, xb⟩, V, vc, vs⟩ (s.extract a.toNat (a + sz).toNat).data.toList q = rI at CI hd
      generalize poolB ⟨k, a, sz, f, ln, ⟨x0, x1, x2, x3, x4, x5, x6, x7, xb⟩, V, vc, vs⟩ (s.extract a.toNat (a + sz).toNat).data.toList = rP at CP hd
      generalize ((s.extract a.toNat (a + sz).toNat).data.toList.all fun x => x == 0) = rA at CA hd
      generalize hPP : s.extract a.toNat (a + sz).toNat = P at *
      clear hex hps hpl hsl hy hyA hyv hk hvb h1 h2 h3 h4
      have BX : Below W0.heap.size W0 (wr.alloc (.cells #[.int .i64 k, .int .i64 a, .int .i64 sz, .int .i64 f, .int .i64 ln, .int .i64 x0, .int .i64 x1, .int .i64 x2, .int .i64 x3, .int .i64 x4, .int .i64 x5, .int .i64 x6, .int .i64 x7, .bool xb, .slice V vs.length vc] 33)) := hbr.alloc hbr.size _
      have BXw : Below w.heap.size w (wr.alloc (.cells #[.int .i64 k, .int .i64 a, .int .i64 sz, .int .i64 f, .int .i64 ln, .int .i64 x0, .int .i64 x1, .int .i64 x2, .int .i64 x3, .int .i64 x4, .int .i64 x5, .int .i64 x6, .int .i64 x7, .bool xb, .slice V vs.length vc] 33)) := hfin _
      have hZ : (wr.alloc (.cells #[.int .i64 k, .int .i64 a, .int .i64 sz, .int .i64 f, .int .i64 ln, .int .i64 x0, .int .i64 x1, .int .i64 x2, .int .i64 x3, .int .i64 x4, .int .i64 x5, .int .i64 x6, .int .i64 x7, .bool xb, .slice V vs.length vc] 33)).heap.size = wr.heap.size + 1 := by simp
      have kN := cell_allocN wr #[.int .i64 k, .int .i64 a, .int .i64 sz, .int .i64 f, .int .i64 ln, .int .i64 x0, .int .i64 x1, .int .i64 x2, .int .i64 x3, .int .i64 x4, .int .i64 x5, .int .i64 x6, .int .i64 x7, .bool xb, .slice V vs.length vc] 33
      have kc0 : (wr.alloc (.cells #[.int .i64 k, .int .i64 a, .int .i64 sz, .int .i64 f, .int .i64 ln, .int .i64 x0, .int .i64 x1, .int .i64 x2, .int .i64 x3, .int .i64 x4, .int .i64 x5, .int .i64 x6, .int .i64 x7, .bool xb, .slice V vs.length vc] 33)).cell? ⟨w.heap.size, 0, none⟩ = some (.string s) := (BX.cell (p := ⟨w.heap.size, 0, none⟩) (by show w.heap.size < W0.heap.size; omega)).trans c0
      have kc1 : (wr.alloc (.cells #[.int .i64 k, .int .i64 a, .int .i64 sz, .int .i64 f, .int .i64 ln, .int .i64 x0, .int .i64 x1, .int .i64 x2, .int .i64 x3, .int .i64 x4, .int .i64 x5, .int .i64 x6, .int .i64 x7, .bool xb, .slice V vs.length vc] 33)).cell? ⟨w.heap.size, 1, none⟩ = some (.slice (some ⟨g, off, none⟩) l.length cap) := (BX.cell (p := ⟨w.heap.size, 1, none⟩) (by show w.heap.size < W0.heap.size; omega)).trans c01
      have kS : ∀ w' : World, Below (wr.alloc (.cells #[.int .i64 k, .int .i64 a, .int .i64 sz, .int .i64 f, .int .i64 ln, .int .i64 x0, .int .i64 x1, .int .i64 x2, .int .i64 x3, .int .i64 x4, .int .i64 x5, .int .i64 x6, .int .i64 x7, .bool xb, .slice V vs.length vc] 33)).drew.heap.size (wr.alloc (.cells #[.int .i64 k, .int .i64 a, .int .i64 sz, .int .i64 f, .int .i64 ln, .int .i64 x0, .int .i64 x1, .int .i64 x2, .int .i64 x3, .int .i64 x4, .int .i64 x5, .int .i64 x6, .int .i64 x7, .bool xb, .slice V vs.length vc] 33)).drew w' → (w'.cell? ⟨w.heap.size, 0, none⟩ = some (.string s) ∧ w'.cell? ⟨w.heap.size, 1, none⟩ = some (.slice (some ⟨g, off, none⟩) l.length cap) ∧ w'.cell? ⟨wr.heap.size, 0, none⟩ = some (.int .i64 k) ∧ w'.cell? ⟨wr.heap.size, 1, none⟩ = some (.int .i64 a) ∧ w'.cell? ⟨wr.heap.size, 2, none⟩ = some (.int .i64 sz) ∧ w'.cell? ⟨wr.heap.size, 3, none⟩ = some (.int .i64 f) ∧ w'.cell? ⟨wr.heap.size, 4, none⟩ = some (.int .i64 ln) ∧ w'.cell? ⟨wr.heap.size, 5, none⟩ = some (.int .i64 x0) ∧ w'.cell? ⟨wr.heap.size, 6, none⟩ = some (.int .i64 x1) ∧ w'.cell? ⟨wr.heap.size, 7, none⟩ = some (.int .i64 x2) ∧ w'.cell? ⟨wr.heap.size, 8, none⟩ = some (.int .i64 x3) ∧ w'.cell? ⟨wr.heap.size, 9, none⟩ = some (.int .i64 x4) ∧ w'.cell? ⟨wr.heap.size, 10, none⟩ = some (.int .i64 x5) ∧ w'.cell? ⟨wr.heap.size, 11, none⟩ = some (.int .i64 x6) ∧ w'.cell? ⟨wr.heap.size, 12, none⟩ = some (.int .i64 x7) ∧ w'.cell? ⟨wr.heap.size, 13, none⟩ = some (.bool xb) ∧ w'.cell? ⟨wr.heap.size, 14, none⟩ = some (.slice V vs.length vc)) := fun w' h =>
        have e := fun o => h.cell (p := ⟨wr.heap.size, o, none⟩) (show wr.heap.size < (wr.alloc (.cells #[.int .i64 k, .int .i64 a, .int .i64 sz, .int .i64 f, .int .i64 ln, .int .i64 x0, .int .i64 x1, .int .i64 x2, .int .i64 x3, .int .i64 x4, .int .i64 x5, .int .i64 x6, .int .i64 x7, .bool xb, .slice V vs.length vc] 33)).heap.size by rw [hZ]; omega)
        have e' := fun o => h.cell (p := ⟨w.heap.size, o, none⟩) (show w.heap.size < (wr.alloc (.cells #[.int .i64 k, .int .i64 a, .int .i64 sz, .int .i64 f, .int .i64 ln, .int .i64 x0, .int .i64 x1, .int .i64 x2, .int .i64 x3, .int .i64 x4, .int .i64 x5, .int .i64 x6, .int .i64 x7, .bool xb, .slice V vs.length vc] 33)).heap.size by rw [hZ]; omega)
        ⟨(e' 0).trans kc0, (e' 1).trans kc1, (e 0).trans (kN 0), (e 1).trans (kN 1), (e 2).trans (kN 2), (e 3).trans (kN 3), (e 4).trans (kN 4), (e 5).trans (kN 5), (e 6).trans (kN 6), (e 7).trans (kN 7), (e 8).trans (kN 8), (e 9).trans (kN 9), (e 10).trans (kN 10), (e 11).trans (kN 11), (e 12).trans (kN 12), (e 13).trans (kN 13), (e 14).trans (kN 14)⟩
      have HD := Lib.hid hd
      clear hd kN kc0 kc1
      by_cases k1 : k = 1
      · have q1 : (k == 1) = true := by rw [k1]; rfl
        cases rI
        · have hd := HD.out
          rw [if_pos k1, if_neg (by decide)] at hd
          replace HD := Lib.hid hd
          clear hd k1
          go_wp2_with fail
          go_region_held3 (fun w' => w'.cell? ⟨w.heap.size, 0, none⟩ = some (.string s) ∧ w'.cell? ⟨w.heap.size, 1, none⟩ = some (.slice (some ⟨g, off, none⟩) l.length cap) ∧ w'.cell? ⟨wr.heap.size, 0, none⟩ = some (.int .i64 k) ∧ w'.cell? ⟨wr.heap.size, 1, none⟩ = some (.int .i64 a) ∧ w'.cell? ⟨wr.heap.size, 2, none⟩ = some (.int .i64 sz) ∧ w'.cell? ⟨wr.heap.size, 3, none⟩ = some (.int .i64 f) ∧ w'.cell? ⟨wr.heap.size, 4, none⟩ = some (.int .i64 ln) ∧ w'.cell? ⟨wr.heap.size, 5, none⟩ = some (.int .i64 x0) ∧ w'.cell? ⟨wr.heap.size, 6, none⟩ = some (.int .i64 x1) ∧ w'.cell? ⟨wr.heap.size, 7, none⟩ = some (.int .i64 x2) ∧ w'.cell? ⟨wr.heap.size, 8, none⟩ = some (.int .i64 x3) ∧ w'.cell? ⟨wr.heap.size, 9, none⟩ = some (.int .i64 x4) ∧ w'.cell? ⟨wr.heap.size, 10, none⟩ = some (.int .i64 x5) ∧ w'.cell? ⟨wr.heap.size, 11, none⟩ = some (.int .i64 x6) ∧ w'.cell? ⟨wr.heap.size, 12, none⟩ = some (.int .i64 x7) ∧ w'.cell? ⟨wr.heap.size, 13, none⟩ = some (.bool xb) ∧ w'.cell? ⟨wr.heap.size, 14, none⟩ = some (.slice V vs.length vc))
            (first
              | (with_reducible exact kS _ hb4)
              | go_keep)
            (first
              | (go_at_call 15; refine (CI _ BXw.drew).mono ?_; rintro e w4 ⟨rfl, hb4⟩))
          have hB4 : Below W0.heap.size W0 w4 := BX.drew.trans (hb4.mono BX.size)
          obtain ⟨-, -, m0, -, -, -, -, m5, m6, m7, m8, m9, m10, m11, m12, m13, -⟩ := kS _ hb4
          clear kS
          go_wp2_with fail
          exact bodyPost_ret (results_tmp rfl _ _ _) rfl ⟨by rw [HD.out]; rfl, b0.trans (hB4.mono (by omega))⟩
        · have hd := HD.out
          rw [if_pos k1, if_pos rfl, if_pos k1] at hd
          have HN := Lib.hid (And.intro hah hd)
          clear hd k1 HD
          go_wp2_with fail
          go_region_held3 (fun w' => w'.cell? ⟨w.heap.size, 0, none⟩ = some (.string s) ∧ w'.cell? ⟨w.heap.size, 1, none⟩ = some (.slice (some ⟨g, off, none⟩) l.length cap) ∧ w'.cell? ⟨wr.heap.size, 0, none⟩ = some (.int .i64 k) ∧ w'.cell? ⟨wr.heap.size, 1, none⟩ = some (.int .i64 a) ∧ w'.cell? ⟨wr.heap.size, 2, none⟩ = some (.int .i64 sz) ∧ w'.cell? ⟨wr.heap.size, 3, none⟩ = some (.int .i64 f) ∧ w'.cell? ⟨wr.heap.size, 4, none⟩ = some (.int .i64 ln) ∧ w'.cell? ⟨wr.heap.size, 5, none⟩ = some (.int .i64 x0) ∧ w'.cell? ⟨wr.heap.size, 6, none⟩ = some (.int .i64 x1) ∧ w'.cell? ⟨wr.heap.size, 7, none⟩ = some (.int .i64 x2) ∧ w'.cell? ⟨wr.heap.size, 8, none⟩ = some (.int .i64 x3) ∧ w'.cell? ⟨wr.heap.size, 9, none⟩ = some (.int .i64 x4) ∧ w'.cell? ⟨wr.heap.size, 10, none⟩ = some (.int .i64 x5) ∧ w'.cell? ⟨wr.heap.size, 11, none⟩ = some (.int .i64 x6) ∧ w'.cell? ⟨wr.heap.size, 12, none⟩ = some (.int .i64 x7) ∧ w'.cell? ⟨wr.heap.size, 13, none⟩ = some (.bool xb) ∧ w'.cell? ⟨wr.heap.size, 14, none⟩ = some (.slice V vs.length vc))
            (first
              | (with_reducible exact kS _ hb4)
              | go_keep)
            (first
              | (go_at_call 15; refine (CI _ BXw.drew).mono ?_; rintro e w4 ⟨rfl, hb4⟩))
          have hB4 : Below W0.heap.size W0 w4 := BX.drew.trans (hb4.mono BX.size)
          obtain ⟨-, -, m0, -, -, -, -, m5, m6, m7, m8, m9, m10, m11, m12, m13, -⟩ := kS _ hb4
          clear kS
          have haf4 := haf w4 (laid_below hw (b0.trans (hB4.mono (by omega))))
          dsimp only [Fields.val] at haf4
          clear haf
          go_wp2_with fail
          ((with_reducible refine haf4.mono ?_); rintro e w5 ⟨rfl, hb5⟩)
          go_wp2_with fail
          go_roundw
          case rel => exact ⟨i + 1, _, by omega, by go_num, rfl, HN, hB4.trans (hb5.mono hB4.size)⟩
          case measure => simp [intOf]; omega
      · have q1 : (k == 1) = false := by simpa using k1
        by_cases k4 : k = 4
        · have q4 : (k == 4) = true := by rw [k4]; rfl
          cases rP
          · have hd := HD.out
            rw [if_neg k1, if_pos k4, if_neg (by decide)] at hd
            replace HD := Lib.hid hd
            clear hd k1 k4
            go_wp2_with fail
            go_region_held3 (fun w' => w'.cell? ⟨w.heap.size, 0, none⟩ = some (.string s) ∧ w'.cell? ⟨w.heap.size, 1, none⟩ = some (.slice (some ⟨g, off, none⟩) l.length cap) ∧ w'.cell? ⟨wr.heap.size, 0, none⟩ = some (.int .i64 k) ∧ w'.cell? ⟨wr.heap.size, 1, none⟩ = some (.int .i64 a) ∧ w'.cell? ⟨wr.heap.size, 2, none⟩ = some (.int .i64 sz) ∧ w'.cell? ⟨wr.heap.size, 3, none⟩ = some (.int .i64 f) ∧ w'.cell? ⟨wr.heap.size, 4, none⟩ = some (.int .i64 ln) ∧ w'.cell? ⟨wr.heap.size, 5, none⟩ = some (.int .i64 x0) ∧ w'.cell? ⟨wr.heap.size, 6, none⟩ = some (.int .i64 x1) ∧ w'.cell? ⟨wr.heap.size, 7, none⟩ = some (.int .i64 x2) ∧ w'.cell? ⟨wr.heap.size, 8, none⟩ = some (.int .i64 x3) ∧ w'.cell? ⟨wr.heap.size, 9, none⟩ = some (.int .i64 x4) ∧ w'.cell? ⟨wr.heap.size, 10, none⟩ = some (.int .i64 x5) ∧ w'.cell? ⟨wr.heap.size, 11, none⟩ = some (.int .i64 x6) ∧ w'.cell? ⟨wr.heap.size, 12, none⟩ = some (.int .i64 x7) ∧ w'.cell? ⟨wr.heap.size, 13, none⟩ = some (.bool xb) ∧ w'.cell? ⟨wr.heap.size, 14, none⟩ = some (.slice V vs.length vc))
              (first
                | (with_reducible exact kS _ hb4)
                | go_keep)
              (first
                | (go_at_call 16; refine (CP _ BXw.drew).mono ?_; rintro e w4 ⟨rfl, hb4⟩))
            have hB4 : Below W0.heap.size W0 w4 := BX.drew.trans (hb4.mono BX.size)
            obtain ⟨-, -, m0, -, -, -, -, m5, m6, m7, m8, m9, m10, m11, m12, m13, -⟩ := kS _ hb4
            clear kS
            go_wp2_with fail
            exact bodyPost_ret (results_tmp rfl _ _ _) rfl ⟨by rw [HD.out]; rfl, b0.trans (hB4.mono (by omega))⟩
          · have hd := HD.out
            rw [if_neg k1, if_pos k4, if_pos rfl, if_neg k1] at hd
            have HN := Lib.hid (And.intro hq0 hd)
            clear hd k1 k4 HD
            go_wp2_with fail
            go_region_held3 (fun w' => w'.cell? ⟨w.heap.size, 0, none⟩ = some (.string s) ∧ w'.cell? ⟨w.heap.size, 1, none⟩ = some (.slice (some ⟨g, off, none⟩) l.length cap) ∧ w'.cell? ⟨wr.heap.size, 0, none⟩ = some (.int .i64 k) ∧ w'.cell? ⟨wr.heap.size, 1, none⟩ = some (.int .i64 a) ∧ w'.cell? ⟨wr.heap.size, 2, none⟩ = some (.int .i64 sz) ∧ w'.cell? ⟨wr.heap.size, 3, none⟩ = some (.int .i64 f) ∧ w'.cell? ⟨wr.heap.size, 4, none⟩ = some (.int .i64 ln) ∧ w'.cell? ⟨wr.heap.size, 5, none⟩ = some (.int .i64 x0) ∧ w'.cell? ⟨wr.heap.size, 6, none⟩ = some (.int .i64 x1) ∧ w'.cell? ⟨wr.heap.size, 7, none⟩ = some (.int .i64 x2) ∧ w'.cell? ⟨wr.heap.size, 8, none⟩ = some (.int .i64 x3) ∧ w'.cell? ⟨wr.heap.size, 9, none⟩ = some (.int .i64 x4) ∧ w'.cell? ⟨wr.heap.size, 10, none⟩ = some (.int .i64 x5) ∧ w'.cell? ⟨wr.heap.size, 11, none⟩ = some (.int .i64 x6) ∧ w'.cell? ⟨wr.heap.size, 12, none⟩ = some (.int .i64 x7) ∧ w'.cell? ⟨wr.heap.size, 13, none⟩ = some (.bool xb) ∧ w'.cell? ⟨wr.heap.size, 14, none⟩ = some (.slice V vs.length vc))
              (first
                | (with_reducible exact kS _ hb4)
                | go_keep)
              (first
                | (go_at_call 16; refine (CP _ BXw.drew).mono ?_; rintro e w4 ⟨rfl, hb4⟩))
            have hB4 : Below W0.heap.size W0 w4 := BX.drew.trans (hb4.mono BX.size)
            obtain ⟨-, -, m0, -, -, -, -, m5, m6, m7, m8, m9, m10, m11, m12, m13, -⟩ := kS _ hb4
            clear kS
            go_wp2_with fail
            go_roundw
            case rel => exact ⟨i + 1, q, by omega, by go_num, rfl, HN, hB4⟩
            case measure => simp [intOf]; omega
        · have q4 : (k == 4) = false := by simpa using k4
          by_cases k3 : k = 3
          · have q3 : (k == 3) = true := by rw [k3]; rfl
            cases rA
            · have hd := HD.out
              rw [if_neg k1, if_neg k4, if_pos k3, if_neg (by decide)] at hd
              replace HD := Lib.hid hd
              clear hd k1 k4 k3
              go_wp2_with fail
              go_region_held3 (fun w' => w'.cell? ⟨w.heap.size, 0, none⟩ = some (.string s) ∧ w'.cell? ⟨w.heap.size, 1, none⟩ = some (.slice (some ⟨g, off, none⟩) l.length cap) ∧ w'.cell? ⟨wr.heap.size, 0, none⟩ = some (.int .i64 k) ∧ w'.cell? ⟨wr.heap.size, 1, none⟩ = some (.int .i64 a) ∧ w'.cell? ⟨wr.heap.size, 2, none⟩ = some (.int .i64 sz) ∧ w'.cell? ⟨wr.heap.size, 3, none⟩ = some (.int .i64 f) ∧ w'.cell? ⟨wr.heap.size, 4, none⟩ = some (.int .i64 ln) ∧ w'.cell? ⟨wr.heap.size, 5, none⟩ = some (.int .i64 x0) ∧ w'.cell? ⟨wr.heap.size, 6, none⟩ = some (.int .i64 x1) ∧ w'.cell? ⟨wr.heap.size, 7, none⟩ = some (.int .i64 x2) ∧ w'.cell? ⟨wr.heap.size, 8, none⟩ = some (.int .i64 x3) ∧ w'.cell? ⟨wr.heap.size, 9, none⟩ = some (.int .i64 x4) ∧ w'.cell? ⟨wr.heap.size, 10, none⟩ = some (.int .i64 x5) ∧ w'.cell? ⟨wr.heap.size, 11, none⟩ = some (.int .i64 x6) ∧ w'.cell? ⟨wr.heap.size, 12, none⟩ = some (.int .i64 x7) ∧ w'.cell? ⟨wr.heap.size, 13, none⟩ = some (.bool xb) ∧ w'.cell? ⟨wr.heap.size, 14, none⟩ = some (.slice V vs.length vc))
                (first
                  | (with_reducible exact kS _ hb4)
                  | go_keep)
                (first
                  | (go_at_call 17; refine (CA _).mono ?_; rintro e w4 ⟨rfl, hb4⟩))
              have hB4 : Below W0.heap.size W0 w4 := BX.drew.trans (hb4.mono BX.size)
              obtain ⟨-, -, m0, -, -, -, -, m5, m6, m7, m8, m9, m10, m11, m12, m13, -⟩ := kS _ hb4
              clear kS
              go_wp2_with fail
              exact bodyPost_ret (results_tmp rfl _ _ _) rfl ⟨by rw [HD.out]; rfl, b0.trans (hB4.mono (by omega))⟩
            · have hd := HD.out
              rw [if_neg k1, if_neg k4, if_pos k3, if_pos rfl, if_neg k1] at hd
              have HN := Lib.hid (And.intro hq0 hd)
              clear hd k1 k4 k3 HD
              go_wp2_with fail
              go_region_held3 (fun w' => w'.cell? ⟨w.heap.size, 0, none⟩ = some (.string s) ∧ w'.cell? ⟨w.heap.size, 1, none⟩ = some (.slice (some ⟨g, off, none⟩) l.length cap) ∧ w'.cell? ⟨wr.heap.size, 0, none⟩ = some (.int .i64 k) ∧ w'.cell? ⟨wr.heap.size, 1, none⟩ = some (.int .i64 a) ∧ w'.cell? ⟨wr.heap.size, 2, none⟩ = some (.int .i64 sz) ∧ w'.cell? ⟨wr.heap.size, 3, none⟩ = some (.int .i64 f) ∧ w'.cell? ⟨wr.heap.size, 4, none⟩ = some (.int .i64 ln) ∧ w'.cell? ⟨wr.heap.size, 5, none⟩ = some (.int .i64 x0) ∧ w'.cell? ⟨wr.heap.size, 6, none⟩ = some (.int .i64 x1) ∧ w'.cell? ⟨wr.heap.size, 7, none⟩ = some (.int .i64 x2) ∧ w'.cell? ⟨wr.heap.size, 8, none⟩ = some (.int .i64 x3) ∧ w'.cell? ⟨wr.heap.size, 9, none⟩ = some (.int .i64 x4) ∧ w'.cell? ⟨wr.heap.size, 10, none⟩ = some (.int .i64 x5) ∧ w'.cell? ⟨wr.heap.size, 11, none⟩ = some (.int .i64 x6) ∧ w'.cell? ⟨wr.heap.size, 12, none⟩ = some (.int .i64 x7) ∧ w'.cell? ⟨wr.heap.size, 13, none⟩ = some (.bool xb) ∧ w'.cell? ⟨wr.heap.size, 14, none⟩ = some (.slice V vs.length vc))
                (first
                  | (with_reducible exact kS _ hb4)
                  | go_keep)
                (first
                  | (go_at_call 17; refine (CA _).mono ?_; rintro e w4 ⟨rfl, hb4⟩))
              have hB4 : Below W0.heap.size W0 w4 := BX.drew.trans (hb4.mono BX.size)
              obtain ⟨-, -, m0, -, -, -, -, m5, m6, m7, m8, m9, m10, m11, m12, m13, -⟩ := kS _ hb4
              clear kS
              go_wp2_with fail
              go_roundw
              case rel => exact ⟨i + 1, q, by omega, by go_num, rfl, HN, hB4⟩
              case measure => simp [intOf]; omega
          · have q3 : (k == 3) = false := by simpa using k3
            have hd := HD.out
            rw [if_neg k1, if_neg k4, if_neg k3, if_pos rfl, if_neg k1] at hd
            have HN := Lib.hid (And.intro hq0 hd)
            clear hd k1 k3 k4 HD
            go_wp2_with fail
            go_region_held3 (fun w' => w'.cell? ⟨w.heap.size, 0, none⟩ = some (.string s) ∧ w'.cell? ⟨w.heap.size, 1, none⟩ = some (.slice (some ⟨g, off, none⟩) l.length cap) ∧ w'.cell? ⟨wr.heap.size, 0, none⟩ = some (.int .i64 k) ∧ w'.cell? ⟨wr.heap.size, 1, none⟩ = some (.int .i64 a) ∧ w'.cell? ⟨wr.heap.size, 2, none⟩ = some (.int .i64 sz) ∧ w'.cell? ⟨wr.heap.size, 3, none⟩ = some (.int .i64 f) ∧ w'.cell? ⟨wr.heap.size, 4, none⟩ = some (.int .i64 ln) ∧ w'.cell? ⟨wr.heap.size, 5, none⟩ = some (.int .i64 x0) ∧ w'.cell? ⟨wr.heap.size, 6, none⟩ = some (.int .i64 x1) ∧ w'.cell? ⟨wr.heap.size, 7, none⟩ = some (.int .i64 x2) ∧ w'.cell? ⟨wr.heap.size, 8, none⟩ = some (.int .i64 x3) ∧ w'.cell? ⟨wr.heap.size, 9, none⟩ = some (.int .i64 x4) ∧ w'.cell? ⟨wr.heap.size, 10, none⟩ = some (.int .i64 x5) ∧ w'.cell? ⟨wr.heap.size, 11, none⟩ = some (.int .i64 x6) ∧ w'.cell? ⟨wr.heap.size, 12, none⟩ = some (.int .i64 x7) ∧ w'.cell? ⟨wr.heap.size, 13, none⟩ = some (.bool xb) ∧ w'.cell? ⟨wr.heap.size, 14, none⟩ = some (.slice V vs.length vc))
              (first
                | (with_reducible exact kS _ hb4)
                | go_keep)
              (first
                | (go_at_call 14; refine (CN _).mono ?_; rintro e w4 ⟨rfl, hb4⟩))
            have hB4 : Below W0.heap.size W0 w4 := BX.drew.trans (hb4.mono BX.size)
            obtain ⟨-, -, m0, -, -, -, -, m5, m6, m7, m8, m9, m10, m11, m12, m13, -⟩ := kS _ hb4
            clear kS
            go_wp2_with fail
            go_roundw
            case rel => exact ⟨i + 1, q, by omega, by go_num, rfl, HN, hB4⟩
            case measure => simp [intOf]; omega
    · have e : i = l.length := by omega
      subst e
      have hd := HD.out.2
      rw [List.drop_length] at hd
      go_wp2
      exact bodyPost_ret (results_tmp rfl _ _ _) rfl ⟨by rw [hd]; rfl, hbw⟩
#print axioms rang_any
end Go.Proofs.YtnpfihlaocpcfaaGreatDoor
/- For the seat: chapter 25's example; Few, Check. -/
namespace Go.Proofs.YtnpfihlaocpcfaaGreatDoor
open Go.Sx Go.ChangeShapes Go.WideShapes Go.RowKit Go.Joins Go.Deep

/-- Is an image not too large? -/
def fewI (n : Nat) (l : List Itm) : Int := if n ≤ 3145728 ∧ l.length ≤ 300 then (if (l.all fun y => decide (y.vs.length ≤ 300)) = true then 1 else 0) else 0

set_option maxRecDepth 100000 in
set_option maxHeartbeats 1000000 in
theorem few_any (s : ByteArray) (l : List Itm) (A : Option Addr) (cap : Nat) (w : World) (hA : ItAt w w.heap.size A l) (hl : l.length ≤ maxLen) :
    Calls Tryz.prog 4 #[.agg #[.string s, .slice A l.length cap]] w fun e w' => e = .returned (.int .i64 (fewI s.size l)) ∧ Below w.heap.size w w' := by
  unfold maxLen at hl
  have b0 : Below w.heap.size w (w.alloc (.cells #[.string s, .slice A l.length cap] 24)) := (Below.refl _ _).alloc (Nat.le_refl _) _
  have c0 : (w.alloc (.cells #[.string s, .slice A l.length cap] 24)).cell? ⟨w.heap.size, 0, none⟩ = some (.string s) := cell_allocN _ _ _ 0
  have c01 : (w.alloc (.cells #[.string s, .slice A l.length cap] 24)).cell? ⟨w.heap.size, 1, none⟩ = some (.slice A l.length cap) := cell_allocN _ _ _ 1
  have hsz : (w.alloc (.cells #[.string s, .slice A l.length cap] 24)).heap.size = w.heap.size + 1 := by simp
  generalize hW : w.alloc (.cells #[.string s, .slice A l.length cap] 24) = W0 at b0 c0 c01 hsz
  generalize hR : fewI s.size l = R
  unfold fewI at hR
  go_enter Tryz.func4, Tryz.ntmps4
  by_cases h1 : s.size ≤ 3145728
  · have e1 : decide ((3145728 : Int) < (s.size : Int)) = false := decide_eq_false (by omega)
    by_cases h2 : l.length ≤ 300
    · have e2 : decide ((300 : Int) < (l.length : Int)) = false := decide_eq_false (by omega)
      rw [if_pos ⟨h1, h2⟩] at hR
      have HR := Lib.hid hR
      clear hR
      go_wp2
      go_loopw [3] (fun c wr => ∃ i : Nat, i ≤ l.length ∧ c = .int .i64 i ∧ Hid ((l.all fun y => decide (y.vs.length ≤ 300)) = ((l.drop i).all fun y => decide (y.vs.length ≤ 300))) ∧ Below W0.heap.size W0 wr) (fun c _ => l.length - (intOf c).toNat)
      case atStart => exact ⟨0, by omega, rfl, Lib.hid rfl, Below.refl _ _⟩
      case round =>
        obtain ⟨i, hi, rfl, HD, hbr⟩ := hrel
        have c1 : wr.cell? ⟨w.heap.size, 0, none⟩ = some (.string s) := (hbr.cell (p := ⟨w.heap.size, 0, none⟩) (by show w.heap.size < W0.heap.size; omega)).trans c0
        have c2 : wr.cell? ⟨w.heap.size, 1, none⟩ = some (.slice A l.length cap) := (hbr.cell (p := ⟨w.heap.size, 1, none⟩) (by show w.heap.size < W0.heap.size; omega)).trans c01
        have hbw : Below w.heap.size w wr := b0.trans (hbr.mono (by omega))
        by_cases hlt : i < l.length
        · obtain ⟨g, off, rfl, hg, hc⟩ := (hA.below hbw (Nat.le_refl _)).at_ hlt
          have hk0 : (0 : Int) ≤ (i : Int) := by omega
          have hkl : (i : Int) < (l.length : Int) := by omega
          have p14 : wr.cell? ⟨g, off + i * 15 + 14, none⟩ = some (.slice l[i].V l[i].vs.length l[i].vc) := hc 14 _ rfl
          have hd := HD.out
          rw [List.drop_eq_getElem_cons hlt, List.all_cons] at hd
          generalize l[i] = y at p14 hd
          clear hc HD
          by_cases h3 : y.vs.length ≤ 300
          · have e3 : decide ((300 : Int) < (y.vs.length : Int)) = false := decide_eq_false (by omega)
            rw [decide_eq_true h3, Bool.true_and] at hd
            have HD := Lib.hid hd
            clear hd h3
            go_wp2
            go_roundw
            case rel => exact ⟨i + 1, by omega, by go_num, HD, hbr⟩
            case measure => simp [intOf]; omega
          · have e3 : decide ((300 : Int) < (y.vs.length : Int)) = true := decide_eq_true (by omega)
            rw [decide_eq_false h3, Bool.false_and] at hd
            have hr := HR.out
            rw [hd] at hr
            have HR2 := Lib.hid hr
            clear hd h3 hr HR
            go_wp2
            exact bodyPost_ret (results_tmp rfl _ _ _) rfl ⟨by rw [← HR2.out]; rfl, hbw⟩
        · have e : i = l.length := by omega
          subst e
          have hd := HD.out
          rw [List.drop_length] at hd
          have hr := HR.out
          rw [hd] at hr
          have HR2 := Lib.hid hr
          clear hd hr HR HD
          go_wp2
          exact bodyPost_ret (results_tmp rfl _ _ _) rfl ⟨by rw [← HR2.out]; rfl, hbw⟩
    · have e2 : decide ((300 : Int) < (l.length : Int)) = true := decide_eq_true (by omega)
      rw [if_neg (fun h => h2 h.2)] at hR
      have HR := Lib.hid hR
      clear hR
      go_wp2
      exact bodyPost_ret (results_tmp rfl _ _ _) rfl ⟨by rw [← HR.out]; rfl, b0⟩
  · have e1 : decide ((3145728 : Int) < (s.size : Int)) = true := decide_eq_true (by omega)
    rw [if_neg (fun h => h1 h.1)] at hR
    have HR := Lib.hid hR
    clear hR
    go_wp2
    exact bodyPost_ret (results_tmp rfl _ _ _) rfl ⟨by rw [← HR.out]; rfl, b0⟩

/-- An image that is not too large. -/
structure Img (s : ByteArray) (l : List Itm) : Prop where
  hs : s.size ≤ 3145729
  hl : l.length ≤ 300
  ok : ∀ y ∈ l, y.Ok
  vs : ∀ y ∈ l, y.vs.length ≤ 300
set_option maxRecDepth 100000 in
theorem Img.of_few {s : ByteArray} {l : List Itm} (hk : ∀ y ∈ l, y.Ok) (h : fewI s.size l ≠ 0) : Img s l := by
  unfold fewI at h
  split at h
  · rename_i hc
    split at h
    · rename_i ha
      refine ⟨by omega, hc.2, hk, fun y hy => ?_⟩
      have := List.all_eq_true.1 ha y hy
      simpa using this
    · exact absurd rfl h
  · exact absurd rfl h

set_option maxRecDepth 100000 in
theorem disj_img {s : ByteArray} {l : List Itm} (I : Img s l) (A : Option Addr) (cap : Nat) (w : World) (hA : ItAt w w.heap.size A l) :
    Calls Tryz.prog 10 #[.agg #[.string s, .slice A l.length cap]] w fun e w' => e = .returned (.bool (disjB s.size 0 l)) ∧ Below w.heap.size w w' :=
  disj_any s l A cap w hA (by have := I.hl; unfold maxLen; omega) (by have := I.hs; unfold maxLen; omega) I.ok
set_option maxRecDepth 100000 in
theorem rang_img {s : ByteArray} {l : List Itm} (I : Img s l) (A : Option Addr) (cap : Nat) (w : World) (hA : ItAt w w.heap.size A l) (hw : Laid w) :
    Calls Tryz.prog 11 #[.agg #[.string s, .slice A l.length cap]] w fun e w' => e = .returned (.bool (rangB s.data.toList l 0 l)) ∧ Below w.heap.size w w' :=
  rang_any s l A cap w hA (by have := I.hl; unfold maxLen; omega) (by have := I.hs; omega) I.ok (fun y hy => by have := I.vs y hy; omega) hw

/-- May an image be? -/
noncomputable def chkB (s : ByteArray) (l : List Itm) : Bool := disjB s.size 0 l && rangB s.data.toList l 0 l

set_option maxRecDepth 100000 in
set_option maxHeartbeats 1000000 in
theorem check_img {s : ByteArray} {l : List Itm} (I : Img s l) (A : Option Addr) (cap : Nat) (w : World) (hA : ItAt w w.heap.size A l) (hw : Laid w) :
    Calls Tryz.prog 7 #[.agg #[.string s, .slice A l.length cap]] w fun e w' => e = .returned (.bool (chkB s l)) ∧ Below w.heap.size w w' := by
  have b0 : Below w.heap.size w (w.alloc (.cells #[.string s, .slice A l.length cap] 24)) := (Below.refl _ _).alloc (Nat.le_refl _) _
  have c0 : (w.alloc (.cells #[.string s, .slice A l.length cap] 24)).cell? ⟨w.heap.size, 0, none⟩ = some (.string s) := cell_allocN _ _ _ 0
  have c01 : (w.alloc (.cells #[.string s, .slice A l.length cap] 24)).cell? ⟨w.heap.size, 1, none⟩ = some (.slice A l.length cap) := cell_allocN _ _ _ 1
  have hsz : (w.alloc (.cells #[.string s, .slice A l.length cap] 24)).heap.size = w.heap.size + 1 := by simp
  generalize hW : w.alloc (.cells #[.string s, .slice A l.length cap] 24) = W0 at b0 c0 c01 hsz
  have hD := disj_img I A cap W0 ((hA.below b0 (Nat.le_refl _)).more (by omega))
  have hR := fun (W : World) (h : Below w.heap.size w W) => rang_img I A cap W ((hA.below h (Nat.le_refl _)).more h.size) (laid_below hw h)
  unfold chkB
  generalize disjB s.size 0 l = dB at hD ⊢
  generalize rangB s.data.toList l 0 l = rB at hR ⊢
  go_enter Tryz.func7, Tryz.ntmps7
  go_wp2_with fail
  ((with_reducible refine hD.mono ?_); rintro e w1 ⟨rfl, hb1⟩)
  have h1 : Below w.heap.size w w1 := b0.trans (hb1.mono (by omega))
  have d0 : w1.cell? ⟨w.heap.size, 0, none⟩ = some (.string s) := (hb1.cell (p := ⟨w.heap.size, 0, none⟩) (by show w.heap.size < W0.heap.size; omega)).trans c0
  have d1 : w1.cell? ⟨w.heap.size, 1, none⟩ = some (.slice A l.length cap) := (hb1.cell (p := ⟨w.heap.size, 1, none⟩) (by show w.heap.size < W0.heap.size; omega)).trans c01
  have hR1 := hR w1 h1
  clear hR hD
  cases dB
  · go_wp2_with fail
    exact bodyPost_ret (results_tmp rfl _ _ _) rfl ⟨rfl, h1⟩
  · go_wp2_with fail
    ((with_reducible refine hR1.mono ?_); rintro e w2 ⟨rfl, hb2⟩)
    go_wp2_with fail
    exact bodyPost_ret (results_tmp rfl _ _ _) rfl ⟨by cases rB <;> rfl, h1.trans (hb2.mono h1.size)⟩
#print axioms check_img
end Go.Proofs.YtnpfihlaocpcfaaGreatDoor
/- For the seat: images, as the reference looks at them: plain. -/
namespace Go.Proofs.YtnpfihlaocpcfaaGreatDoor
open Go.Sx Go.ChangeShapes Go.WideShapes Go.RowKit Go.Joins Go.Deep

/-- The place that an item leads to, and whether it does, as the reference has it. -/
def leadsR (y : Itm) : Int × Bool :=
  if y.k = 1 then
    if y.x.x0 = 35 ∨ y.x.x0 = 36 ∨ y.x.x0 = 37 ∨ y.x.x0 = 38 then (wrap64 (wrap64 (y.a + 4) + y.x.x5), true)
    else if y.x.x0 = 40 ∨ y.x.x0 = 41 then (wrap64 (wrap64 (wrap64 ((wrap64 (y.a + 4)).tdiv 4) * 4) + y.x.x5), true)
    else (0, false)
  else (0, false)

/-- Does a place of an image that an item leads to stand there? -/
def ledB (n : Nat) (l : List Itm) (y : Itm) : Bool :=
  if (leadsR y).2 = true then
    if y.x.x0 = 40 ∨ y.x.x0 = 41 then decide (0 ≤ (leadsR y).1 ∧ (leadsR y).1 ≤ (n : Int)) else standsB n l (leadsR y).1
  else true
end Go.Proofs.YtnpfihlaocpcfaaGreatDoor
/- For the seat: the reference's Leads, Disjoint, stands, part: what they answer. -/
namespace Go.Proofs.YtnpfihlaocpcfaaGreatDoor
open Go.Sx Go.ChangeShapes Go.WideShapes Go.RowKit Go.Joins Go.Deep

set_option maxRecDepth 100000 in
set_option maxHeartbeats 1000000 in
theorem leadsR_any (y : Itm) (w : World) : Calls Tryz.prog 22 #[y.val] w fun e w' => e = .returned (.tuple #[.int .i64 (leadsR y).1, .bool (leadsR y).2]) ∧ Below w.heap.size w w' := by
  obtain ⟨k, a, s, f, l, x, V, vc, vs⟩ := y
  obtain ⟨x0, x1, x2, x3, x4, x5, x6, x7, xb⟩ := x
  unfold leadsR
  dsimp only
  go_enter Tryz.func22, Tryz.ntmps22
  have hb : Below w.heap.size w (w.alloc (.cells (Itm.cells ⟨k, a, s, f, l, ⟨x0, x1, x2, x3, x4, x5, x6, x7, xb⟩, V, vc, vs⟩) 33)) := (Below.refl _ _).alloc (Nat.le_refl _) _
  by_cases h1 : k = 1
  · subst h1
    rw [if_pos rfl]
    by_cases h35 : x0 = 35
    · subst h35
      rw [if_pos (.inl rfl)]
      go_wp2
      exact bodyPost_ret (by simp [results, Tryz.results22, go_sem]) rfl ⟨rfl, hb⟩
    have q35 : (x0 == 35) = false := by simpa using h35
    by_cases h36 : x0 = 36
    · subst h36
      rw [if_pos (.inr (.inl rfl))]
      go_wp2
      exact bodyPost_ret (by simp [results, Tryz.results22, go_sem]) rfl ⟨rfl, hb⟩
    have q36 : (x0 == 36) = false := by simpa using h36
    by_cases h37 : x0 = 37
    · subst h37
      rw [if_pos (.inr (.inr (.inl rfl)))]
      go_wp2
      exact bodyPost_ret (by simp [results, Tryz.results22, go_sem]) rfl ⟨rfl, hb⟩
    have q37 : (x0 == 37) = false := by simpa using h37
    by_cases h38 : x0 = 38
    · subst h38
      rw [if_pos (.inr (.inr (.inr rfl)))]
      go_wp2
      exact bodyPost_ret (by simp [results, Tryz.results22, go_sem]) rfl ⟨rfl, hb⟩
    have q38 : (x0 == 38) = false := by simpa using h38
    rw [if_neg (by rintro (h | h | h | h) <;> contradiction)]
    by_cases h40 : x0 = 40
    · subst h40
      rw [if_pos (.inl rfl)]
      go_wp2
      exact bodyPost_ret (by simp [results, Tryz.results22, go_sem]) rfl ⟨rfl, hb⟩
    have q40 : (x0 == 40) = false := by simpa using h40
    by_cases h41 : x0 = 41
    · subst h41
      rw [if_pos (.inr rfl)]
      go_wp2
      exact bodyPost_ret (by simp [results, Tryz.results22, go_sem]) rfl ⟨rfl, hb⟩
    have q41 : (x0 == 41) = false := by simpa using h41
    rw [if_neg (by rintro (h | h) <;> contradiction)]
    go_wp2
    exact bodyPost_ret (by simp [results, Tryz.results22, go_sem]) rfl ⟨rfl, hb⟩
  · rw [if_neg h1]
    have q1 : (k != 1) = true := by simpa using h1
    go_wp2
    exact bodyPost_ret (by simp [results, Tryz.results22, go_sem]) rfl ⟨rfl, hb⟩

set_option maxRecDepth 100000 in
set_option maxHeartbeats 2000000 in
theorem disjR_any (s : ByteArray) (l : List Itm) (A : Option Addr) (cap : Nat) (w : World) (hA : ItAt w w.heap.size A l) (hl : l.length ≤ maxLen) (hs : s.size ≤ maxLen) (hk : ∀ y ∈ l, y.Ok) :
    Calls Tryz.prog 8 #[.agg #[.string s, .slice A l.length cap]] w fun e w' => e = .returned (.bool (disjB s.size 0 l)) ∧ Below w.heap.size w w' := by
  unfold maxLen at hl hs
  have b0 : Below w.heap.size w (w.alloc (.cells #[.string s, .slice A l.length cap] 24)) := (Below.refl _ _).alloc (Nat.le_refl _) _
  have c0 : (w.alloc (.cells #[.string s, .slice A l.length cap] 24)).cell? ⟨w.heap.size, 0, none⟩ = some (.string s) := cell_allocN _ _ _ 0
  have c01 : (w.alloc (.cells #[.string s, .slice A l.length cap] 24)).cell? ⟨w.heap.size, 1, none⟩ = some (.slice A l.length cap) := cell_allocN _ _ _ 1
  generalize hW : w.alloc (.cells #[.string s, .slice A l.length cap] 24) = W0 at b0 c0 c01
  have hsz : W0.heap.size = w.heap.size + 1 := by rw [← hW]; simp
  go_enter Tryz.func8, Tryz.ntmps8
  go_wp2
  go_loopw [3, 4] (fun p k wr => ∃ (i : Nat) (q : Int), i ≤ l.length ∧ k = .int .i64 i ∧ p = .int .i64 q ∧ 0 ≤ q ∧ q ≤ s.size ∧ disjB s.size 0 l = disjB s.size q (l.drop i) ∧ Below W0.heap.size W0 wr) (fun _ k _ => l.length - (intOf k).toNat)
  case atStart => exact ⟨0, 0, by omega, rfl, rfl, by omega, by omega, rfl, Below.refl _ _⟩
  case round =>
    obtain ⟨i, q, hi, rfl, rfl, hq0, hqs, hd, hbr⟩ := hrel
    have c1 : wr.cell? ⟨w.heap.size, 0, none⟩ = some (.string s) := (hbr.cell (p := ⟨w.heap.size, 0, none⟩) (by show w.heap.size < W0.heap.size; omega)).trans c0
    have c2 : wr.cell? ⟨w.heap.size, 1, none⟩ = some (.slice A l.length cap) := (hbr.cell (p := ⟨w.heap.size, 1, none⟩) (by show w.heap.size < W0.heap.size; omega)).trans c01
    have hbw : Below w.heap.size w wr := b0.trans (hbr.mono (by omega))
    have hwz : w.heap.size < wr.heap.size := by have := hbr.size; omega
    by_cases hlt : i < l.length
    · obtain ⟨g, off, rfl, hg, hc⟩ := (hA.below hbw (Nat.le_refl _)).at_ hlt
      have hk0 : (0 : Int) ≤ (i : Int) := by omega
      have hkl : (i : Int) < (l.length : Int) := by omega
      have IN := itIn_of hc
      rw [List.drop_eq_getElem_cons hlt] at hd
      have hy := hk l[i] (List.getElem_mem hlt)
      generalize l[i] = y at hd IN hy
      clear hc
      obtain ⟨k, a, sz, f, ln, x, V, vc, vs⟩ := y
      obtain ⟨x0, x1, x2, x3, x4, x5, x6, x7, xb⟩ := x
      obtain ⟨p0, p1, p2, p3, p4, p5, p6, p7, p8, p9, p10, p11, p12, p13, p14⟩ := IN
      have hys := hy.s
      rw [disjB_cons] at hd
      dsimp only at hd hys p0 p1 p2 p3 p4 p5 p6 p7 p8 p9 p10 p11 p12 p13 p14
      have HD := Lib.hid hd
      clear hd hy
      have hg' : g < wr.heap.size := by omega
      have hfin : ∀ o, Below w.heap.size w (wr.alloc o) := fun o => hbw.alloc hbw.size o
      have hfin2 : ∀ o, Below W0.heap.size W0 (wr.alloc o) := fun o => hbr.alloc hbr.size o
      have hsub : IntKind.i64.wrap ((s.size : Int) - q) = (s.size : Int) - q := IntWalk.i64_in _ (by omega)
      by_cases h1 : a = q
      · subst h1
        have e1 : (a != a) = false := by simp
        by_cases h2 : sz < 1
        · have hr : disjB s.size 0 l = false := by rw [HD.out, if_neg (by omega)]
          have e2 : decide (sz < 1) = true := decide_eq_true h2
          go_wp2
          exact bodyPost_ret (results_tmp rfl _ _ _) rfl ⟨by first | rfl | (rw [hr]; rfl), hfin _⟩
        · have e2 : decide (sz < 1) = false := decide_eq_false h2
          by_cases h3 : (s.size : Int) - a < sz
          · have hr : disjB s.size 0 l = false := by rw [HD.out, if_neg (by omega)]
            have e3 : decide ((s.size : Int) - a < sz) = true := decide_eq_true h3
            go_wp2
            exact bodyPost_ret (results_tmp rfl _ _ _) rfl ⟨by first | rfl | (rw [hr]; rfl), hfin _⟩
          · have e3 : decide ((s.size : Int) - a < sz) = false := decide_eq_false h3
            have hr : disjB s.size 0 l = disjB s.size (a + sz) (l.drop (i + 1)) := by rw [HD.out, if_pos ⟨rfl, by omega, by omega⟩]
            have hadd : IntKind.i64.wrap (a + sz) = a + sz := IntWalk.i64_in _ (by omega)
            go_wp2
            go_roundw
            case rel => exact ⟨i + 1, a + sz, by omega, by go_num, rfl, by omega, by omega, hr, hfin2 _⟩
            case measure => simp [intOf]; omega
      · have hr : disjB s.size 0 l = false := by rw [HD.out, if_neg (by omega)]
        have e1 : (a != q) = true := by simpa using h1
        go_wp2
        exact bodyPost_ret (results_tmp rfl _ _ _) rfl ⟨by first | rfl | (rw [hr]; rfl), hfin _⟩
    · have e : i = l.length := by omega
      subst e
      rw [List.drop_length] at hd
      go_wp2
      refine bodyPost_ret (results_tmp rfl _ _ _) rfl ⟨by rw [hd]; rfl, hbw⟩

set_option maxRecDepth 100000 in
set_option maxHeartbeats 1000000 in
theorem standsR_any (s : ByteArray) (l : List Itm) (A : Option Addr) (cap : Nat) (q : Int) (w : World) (hA : ItAt w w.heap.size A l) (hl : l.length ≤ maxLen) :
    Calls Tryz.prog 23 #[.agg #[.string s, .slice A l.length cap], .int .i64 q] w fun e w' => e = .returned (.bool (standsB s.size l q)) ∧ Below w.heap.size w w' := by
  unfold maxLen at hl
  unfold standsB
  have b0 : Below w.heap.size w (w.alloc (.cells #[.string s, .slice A l.length cap] 24)) := (Below.refl _ _).alloc (Nat.le_refl _) _
  have c0 : (w.alloc (.cells #[.string s, .slice A l.length cap] 24)).cell? ⟨w.heap.size, 0, none⟩ = some (.string s) := cell_allocN _ _ _ 0
  have c01 : (w.alloc (.cells #[.string s, .slice A l.length cap] 24)).cell? ⟨w.heap.size, 1, none⟩ = some (.slice A l.length cap) := cell_allocN _ _ _ 1
  generalize hW : w.alloc (.cells #[.string s, .slice A l.length cap] 24) = W0 at b0 c0 c01
  have hsz : W0.heap.size = w.heap.size + 1 := by rw [← hW]; simp
  by_cases h : q = (s.size : Int)
  · subst h
    go_enter Tryz.func23, Tryz.ntmps23
    go_wp2
    exact bodyPost_ret (results_tmp rfl _ _ _) rfl ⟨by simp, b0⟩
  · have e : (q == (s.size : Int)) = false := by simpa using h
    rw [e, Bool.false_or]
    go_enter Tryz.func23, Tryz.ntmps23
    go_wp2
    go_loopw [5] (fun k wr => ∃ i : Nat, i ≤ l.length ∧ k = .int .i64 i ∧ (∀ j y, j < i → l[j]? = some y → (y.a == q) = false) ∧ wr = W0) (fun k _ => l.length - (intOf k).toNat)
    case atStart => exact ⟨0, by omega, rfl, fun j y hj => by omega, rfl⟩
    case round =>
      obtain ⟨i, hi, rfl, hp, rfl⟩ := hrel
      by_cases hlt : i < l.length
      · obtain ⟨g, off, rfl, hg, hc⟩ := (hA.below b0 (Nat.le_refl _)).at_ hlt
        have hk0 : (0 : Int) ≤ (i : Int) := by omega
        have hkl : (i : Int) < (l.length : Int) := by omega
        have p1 := hc 1 (.int .i64 l[i].a) rfl
        have hyes : (l[i].a == q) = true → (l.any fun y => y.a == q) = true := fun h => List.any_eq_true.2 ⟨l[i], List.getElem_mem hlt, h⟩
        have hno : (l[i].a == q) = false → ∀ j y, j < i + 1 → l[j]? = some y → (y.a == q) = false := fun h j y hj hy => by
          by_cases e : j = i
          · subst e; rw [List.getElem?_eq_getElem hlt] at hy; cases hy; exact h
          · exact hp j y (by omega) hy
        clear hc
        generalize l[i].a = a at p1 hyes hno
        have HY := Lib.hid hyes
        have HN := Lib.hid hno
        clear hyes hno hp
        cases hq : (a == q)
        · have hn := HN.out hq
          go_wp2
          go_roundw
          case rel => exact ⟨i + 1, by omega, by go_num, hn, trivial⟩
          case measure => simp [intOf]; omega
        · have hn := HY.out hq
          go_wp2
          exact bodyPost_ret (results_tmp rfl _ _ _) rfl ⟨by rw [hn]; rfl, b0⟩
      · have e : i = l.length := by omega
        subst e
        have hn := any_take hp (Nat.le_refl _)
        go_wp2
        exact bodyPost_ret (results_tmp rfl _ _ _) rfl ⟨by rw [hn]; rfl, b0⟩

/-- An item's bytes are there. -/
def partB (n : Nat) (y : Itm) : Bool := decide (0 ≤ y.a ∧ y.a ≤ (n : Int) ∧ 0 ≤ y.s ∧ y.s ≤ (n : Int) - y.a)

set_option maxRecDepth 100000 in
set_option maxHeartbeats 1000000 in
theorem partR_any (s : ByteArray) (V0 : Value) (y : Itm) (w : World) (hs : s.size ≤ 4000000000) (hy : y.Ok) :
    Calls Tryz.prog 19 #[.agg #[.string s, V0], y.val] w fun e w' => e = .returned (.tuple #[.string (if partB s.size y then s.extract y.a.toNat (y.a + y.s).toNat else ⟨#[]⟩), .bool (partB s.size y)]) ∧ Below w.heap.size w w' := by
  have hya := hy.a
  have hys := hy.s
  unfold partB
  obtain ⟨k, a, sz, f, ln, x, V, vc, vs⟩ := y
  obtain ⟨x0, x1, x2, x3, x4, x5, x6, x7, xb⟩ := x
  dsimp only at hya hys ⊢
  clear hy
  have b0 : ∀ o1 o2, Below w.heap.size w ((w.alloc o1).alloc o2) := fun o1 o2 => ((Below.refl _ _).alloc (Nat.le_refl _) o1).alloc (by simp) o2
  by_cases h1 : a < 0
  · have e1 : decide (a < 0) = true := decide_eq_true h1
    have hr : decide (0 ≤ a ∧ a ≤ (s.size : Int) ∧ 0 ≤ sz ∧ sz ≤ (s.size : Int) - a) = false := decide_eq_false (by omega)
    rw [hr]
    go_enter Tryz.func19, Tryz.ntmps19
    go_wp2
    exact bodyPost_ret (by simp [results, Tryz.results19, go_sem]) rfl ⟨rfl, b0 _ _⟩
  have e1 : decide (a < 0) = false := decide_eq_false h1
  by_cases h2 : (s.size : Int) < a
  · have e2 : decide ((s.size : Int) < a) = true := decide_eq_true h2
    have hr : decide (0 ≤ a ∧ a ≤ (s.size : Int) ∧ 0 ≤ sz ∧ sz ≤ (s.size : Int) - a) = false := decide_eq_false (by omega)
    rw [hr]
    go_enter Tryz.func19, Tryz.ntmps19
    go_wp2
    exact bodyPost_ret (by simp [results, Tryz.results19, go_sem]) rfl ⟨rfl, b0 _ _⟩
  have e2 : decide ((s.size : Int) < a) = false := decide_eq_false h2
  by_cases h3 : sz < 0
  · have e3 : decide (sz < 0) = true := decide_eq_true h3
    have hr : decide (0 ≤ a ∧ a ≤ (s.size : Int) ∧ 0 ≤ sz ∧ sz ≤ (s.size : Int) - a) = false := decide_eq_false (by omega)
    rw [hr]
    go_enter Tryz.func19, Tryz.ntmps19
    go_wp2
    exact bodyPost_ret (by simp [results, Tryz.results19, go_sem]) rfl ⟨rfl, b0 _ _⟩
  have e3 : decide (sz < 0) = false := decide_eq_false h3
  have hsub : IntKind.i64.wrap ((s.size : Int) - a) = (s.size : Int) - a := IntWalk.i64_in _ (by omega)
  by_cases h4 : (s.size : Int) - a < sz
  · have e4 : decide ((s.size : Int) - a < sz) = true := decide_eq_true h4
    have hr : decide (0 ≤ a ∧ a ≤ (s.size : Int) ∧ 0 ≤ sz ∧ sz ≤ (s.size : Int) - a) = false := decide_eq_false (by omega)
    rw [hr]
    go_enter Tryz.func19, Tryz.ntmps19
    go_wp2
    exact bodyPost_ret (by simp [results, Tryz.results19, go_sem]) rfl ⟨rfl, b0 _ _⟩
  have e4 : decide ((s.size : Int) - a < sz) = false := decide_eq_false h4
  have hadd : IntKind.i64.wrap (a + sz) = a + sz := IntWalk.i64_in _ (by omega)
  have s0 : (0 : Int) ≤ a := by omega
  have s1 : a ≤ a + sz := by omega
  have s2 : a + sz ≤ (s.size : Int) := by omega
  have hr : decide (0 ≤ a ∧ a ≤ (s.size : Int) ∧ 0 ≤ sz ∧ sz ≤ (s.size : Int) - a) = true := decide_eq_true (by omega)
  rw [hr]
  go_enter Tryz.func19, Tryz.ntmps19
  go_wp2
  exact bodyPost_ret (by simp [results, Tryz.results19, go_sem]) rfl ⟨rfl, b0 _ _⟩
end Go.Proofs.YtnpfihlaocpcfaaGreatDoor
