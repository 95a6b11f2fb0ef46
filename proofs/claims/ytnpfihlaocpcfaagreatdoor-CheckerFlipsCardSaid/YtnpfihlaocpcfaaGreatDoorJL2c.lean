/- For the seat: texts joined: KrP, Srd. -/
import Derived.Test.YtnpfihlaocpcfaaGreatDoorJL2b
import Derived.Test.YtnpfihlaocpcfaaGreatDoorJHSrdP0
/- For the seat: the reference looks at a pool: it answers. -/
namespace Go.Proofs.YtnpfihlaocpcfaaGreatDoor
open Go.Sx Go.ChangeShapes Go.WideShapes Go.RowKit Go.Joins Go.Deep

set_option maxRecDepth 100000 in
set_option maxHeartbeats 1000000 in
theorem findR_any (l : List Int) (A : Option Addr) (cap : Nat) (v : Int) (w : World) (hA : IAt w w.heap.size A l) (hl : l.length ≤ maxLen) :
    Calls Tryz.prog 35 #[.slice A l.length cap, .int .i64 v] w fun e w' => e = .returned (.int .i64 (indexI l v)) ∧ w' = w := by
  unfold maxLen at hl
  go_enter Tryz.func35, Tryz.ntmps35
  go_wp2
  go_loopw [5] (fun k wr => ∃ i : Nat, i ≤ l.length ∧ k = .int .i64 i ∧ (∀ j, j < i → l[j]? ≠ some v) ∧ wr = w) (fun k _ => l.length - (intOf k).toNat)
  case atStart => exact ⟨0, by omega, rfl, fun j hj => by omega, rfl⟩
  case round =>
    obtain ⟨i, hi, rfl, hp, rfl⟩ := hrel
    by_cases hlt : i < l.length
    · obtain ⟨g, off, rfl, hg, hc⟩ := hA.at_ hlt
      have hk0 : (0 : Int) ≤ (i : Int) := by omega
      have hkl : (i : Int) < (l.length : Int) := by omega
      by_cases he : l[i] = v
      · have hr := indexI_at hlt hp he
        rw [he] at hc
        have hq : (v == v) = true := by simp
        go_wp2
        refine bodyPost_ret (results_tmp rfl _ _ _) rfl ⟨by rw [hr]; rfl, rfl⟩
      · have hq : (l[i] == v) = false := by simpa using he
        have hp' : ∀ j, j < i + 1 → l[j]? ≠ some v := fun j hj => by
          by_cases e : j = i
          · subst e; rw [List.getElem?_eq_getElem hlt]; simpa using fun e => he e
          · exact hp j (by omega)
        go_wp2
        go_roundw
        case rel => exact ⟨i + 1, by omega, by go_num, hp', trivial⟩
        case measure => simp [intOf]; omega
    · have e : i = l.length := by omega
      subst e
      have hr := indexI_none hp
      go_wp2
      refine bodyPost_ret (results_tmp rfl _ _ _) rfl ⟨by rw [hr]; rfl, rfl⟩

set_option maxRecDepth 100000 in
set_option maxHeartbeats 2000000 in
theorem poolR_any (y : Itm) (p : ByteArray) (w : World) (hV : IAt w w.heap.size y.V y.vs) (hvb : y.vs.length ≤ 1000000000) (hp : p.size ≤ 4000000000) :
    Calls Tryz.prog 24 #[y.val, .string p] w fun e w' => (∃ r, e = .returned (.bool r)) ∧ Below w.heap.size w w' := by
  obtain ⟨k, a, sz, f, ln, x, V, vc, vs⟩ := y
  obtain ⟨x0, x1, x2, x3, x4, x5, x6, x7, xb⟩ := x
  dsimp only at hV hvb
  have b0 := (Below.refl w.heap.size w).alloc (Nat.le_refl _) (.cells (Itm.cells ⟨k, a, sz, f, ln, ⟨x0, x1, x2, x3, x4, x5, x6, x7, xb⟩, V, vc, vs⟩) 33)
  have c1 : (w.alloc (.cells (Itm.cells ⟨k, a, sz, f, ln, ⟨x0, x1, x2, x3, x4, x5, x6, x7, xb⟩, V, vc, vs⟩) 33)).cell? ⟨w.heap.size, 1, none⟩ = some (.int .i64 a) := cell_allocN _ _ _ 1
  have c14 : (w.alloc (.cells (Itm.cells ⟨k, a, sz, f, ln, ⟨x0, x1, x2, x3, x4, x5, x6, x7, xb⟩, V, vc, vs⟩) 33)).cell? ⟨w.heap.size, 14, none⟩ = some (.slice V vs.length vc) := cell_allocN _ _ _ 14
  have hsz : (w.alloc (.cells (Itm.cells ⟨k, a, sz, f, ln, ⟨x0, x1, x2, x3, x4, x5, x6, x7, xb⟩, V, vc, vs⟩) 33)).heap.size = w.heap.size + 1 := by simp
  dsimp only [Itm.val, Itm.cells] at b0 c1 c14 hsz ⊢
  generalize hW : w.alloc (.cells #[.int .i64 k, .int .i64 a, .int .i64 sz, .int .i64 f, .int .i64 ln, .int .i64 x0, .int .i64 x1, .int .i64 x2, .int .i64 x3, .int .i64 x4, .int .i64 x5, .int .i64 x6, .int .i64 x7, .bool xb, .slice V vs.length vc] 33) = W0 at b0 c1 c14 hsz
  have hV0 : IAt W0 w.heap.size V vs := hV.below b0 (Nat.le_refl _)
  clear hV
  have hm : IntKind.i64.wrap (4 * (vs.length : Int)) = 4 * (vs.length : Int) := IntWalk.i64_in _ (by omega)
  go_enter Tryz.func24, Tryz.ntmps24
  go_wp2
  · exact bodyPost_ret (results_tmp rfl _ _ _) rfl ⟨⟨false, rfl⟩, b0⟩
  rotate_left
  · exact bodyPost_ret (results_tmp rfl _ _ _) rfl ⟨⟨false, rfl⟩, b0⟩
  have hne := ‹((p.size : Int) != 4 * (vs.length : Int)) = false›
  have hpv : p.size = 4 * vs.length := by
    have hne' := hne
    simp only [bne_eq_false_iff_eq] at hne'
    omega
  rw [hne]
  have HPV := Lib.hid hpv
  clear hne hpv
  go_loopw [5] (fun c wr => ∃ i : Nat, i ≤ vs.length ∧ c = .int .i64 i ∧ Below W0.heap.size W0 wr) (fun c _ => vs.length - (intOf c).toNat)
  case atStart => exact ⟨0, by omega, rfl, Below.refl _ _⟩
  case round =>
    obtain ⟨i, hi, rfl, hbr⟩ := hrel
    have keep : ∀ w', Below W0.heap.size W0 w' → w'.cell? ⟨w.heap.size, 14, none⟩ = some (.slice V vs.length vc) := fun w' h => (h.cell (p := ⟨w.heap.size, 14, none⟩) (by show w.heap.size < W0.heap.size; omega)).trans c14
    have hbw : Below w.heap.size w wr := b0.trans (hbr.mono (by omega))
    have d14 := keep wr hbr
    by_cases hlt : i < vs.length
    · have hpv := HPV.out
      obtain ⟨g, off, rfl, hgb, hc⟩ := (hV0.below hbr (by omega)).at_ hlt
      have hk0 : (0 : Int) ≤ (i : Int) := by omega
      have hkl : (i : Int) < (vs.length : Int) := by omega
      have m0 : IntKind.i64.wrap (4 * (i : Int)) = 4 * (i : Int) := IntWalk.i64_in _ (by omega)
      have m1 : IntKind.i64.wrap (4 * (i : Int) + 1) = 4 * (i : Int) + 1 := IntWalk.i64_in _ (by omega)
      have m2 : IntKind.i64.wrap (4 * (i : Int) + 2) = 4 * (i : Int) + 2 := IntWalk.i64_in _ (by omega)
      have m3 : IntKind.i64.wrap (4 * (i : Int) + 3) = 4 * (i : Int) + 3 := IntWalk.i64_in _ (by omega)
      have s0 : (0 : Int) ≤ 4 * (i : Int) := by omega
      have s1 : (0 : Int) ≤ 4 * (i : Int) + 1 := by omega
      have s2 : (0 : Int) ≤ 4 * (i : Int) + 2 := by omega
      have s3 : (0 : Int) ≤ 4 * (i : Int) + 3 := by omega
      have t0 : 4 * (i : Int) < (p.size : Int) := by omega
      have t1 : 4 * (i : Int) + 1 < (p.size : Int) := by omega
      have t2 : 4 * (i : Int) + 2 < (p.size : Int) := by omega
      have t3 : 4 * (i : Int) + 3 < (p.size : Int) := by omega
      have u0 : (4 * (i : Int)).toNat = 4 * i := by omega
      have u1 : (4 * (i : Int) + 1).toNat = 4 * i + 1 := by omega
      have u2 : (4 * (i : Int) + 2).toNat = 4 * i + 2 := by omega
      have u3 : (4 * (i : Int) + 3).toNat = 4 * i + 3 := by omega
      have hI := fun n q => findR_any vs (some ⟨g, off, none⟩) vc q (wr.drewN n) ((hV0.below hbr (by omega)).more (by have := hbr.size; show w.heap.size ≤ wr.heap.size; omega)) (by unfold maxLen; omega)
      generalize vs[i] = v at hc
      have y0 : 4 * i < p.size := by omega
      have y1 : 4 * i + 1 < p.size := by omega
      have y2 : 4 * i + 2 < p.size := by omega
      have y3 : 4 * i + 3 < p.size := by omega
      clear hpv
      go_wp2_with fail
      go_quiet (fail)
      generalize p[4 * i] = q0
      generalize p[4 * i + 1] = q1
      generalize p[4 * i + 2] = q2
      generalize p[4 * i + 3] = q3
      generalize wrap64 (q0.toNat : Int) = a0
      generalize wrap64 (q1.toNat : Int) = a1
      generalize wrap64 (q2.toNat : Int) = a2
      generalize wrap64 (q3.toNat : Int) = a3
      generalize wrap64 (a1 * 256) = b1
      generalize wrap64 (a2 * 65536) = b2
      generalize wrap64 (a3 * 16777216) = b3
      generalize wrap64 (a0 + b1) = e1
      generalize wrap64 (e1 + b2) = e2
      generalize wrap64 (e2 + b3) = e3
      generalize (q0.toNat : Int) = f0
      generalize (q1.toNat : Int) = f1
      generalize (q2.toNat : Int) = f2
      generalize (q3.toNat : Int) = f3
      clear y0 y1 y2 y3 m0 m1 m2 m3 s0 s1 s2 s3 t0 t1 t2 t3 u0 u1 u2 u3 hm HPV
      generalize 4 * (i : Int) + 1 = j1
      generalize 4 * (i : Int) + 2 = j2
      generalize 4 * (i : Int) + 3 = j3
      generalize 4 * (i : Int) = j0
      cases hx : (e3 != v)
      · go_wp2_with fail
        ((with_reducible refine (hI _ _).mono ?_); rintro e w4 ⟨rfl, rfl⟩)
        generalize indexI vs e3 = ix at *
        cases hy : (ix != (i : Int))
        · go_wp2_with fail
          go_roundw
          case rel => exact ⟨i + 1, by omega, by go_num, below_drewN hbr⟩
          case measure => simp [intOf]; omega
        · go_wp2_with fail
          exact bodyPost_ret (results_tmp rfl _ _ _) rfl ⟨⟨false, rfl⟩, below_drewN hbw⟩
      · go_wp2_with fail
        exact bodyPost_ret (results_tmp rfl _ _ _) rfl ⟨⟨false, rfl⟩, below_drewN hbw⟩
    · have e : i = vs.length := by omega
      subst e
      go_wp2_with fail
      exact bodyPost_ret (results_tmp rfl _ _ _) rfl ⟨⟨true, rfl⟩, hbw⟩
end Go.Proofs.YtnpfihlaocpcfaaGreatDoor
/- Srd: all cases of the input. -/
namespace Go.Proofs.YtnpfihlaocpcfaaGreatDoor.srd
open Go.Sx
set_option maxRecDepth 100000
theorem pc {P : Nat → Bool} {X E a n : Nat} (w : ((List.range' a n).all fun j => P j) = true) (rest : ∀ j : Nat, a + n ≤ j → j < E → j ≠ X → P j = true) : ∀ j : Nat, a ≤ j → j < E → j ≠ X → P j = true := fun j h1 h2 h3 => by
  rcases Nat.lt_or_ge j (a + n) with h | h
  · exact List.all_eq_true.1 w j (List.mem_range'_1.2 ⟨h1, h⟩)
  · exact rest j h h2 h3
set_option maxRecDepth 100000 in
theorem pcg {P : Nat → Bool} {E a n : Nat} (w : ((List.range' a n).all fun j => P j) = true) (rest : ∀ j : Nat, a + n + 1 ≤ j → j < E → j ≠ a + n → P j = true) : ∀ j : Nat, a ≤ j → j < E → j ≠ a + n → P j = true := fun j h1 h2 h3 => by
  rcases Nat.lt_or_ge j (a + n) with h | h
  · exact List.all_eq_true.1 w j (List.mem_range'_1.2 ⟨h1, h⟩)
  · exact rest j (by omega) h2 h3
set_option maxRecDepth 100000 in
set_option maxHeartbeats 4000000 in
theorem all' : ∀ j : Nat, 0 ≤ j → j < 94 → j ≠ 94 → sho.atRP j = true := by
  refine pc w0x0 ?_
  refine pc w0x8 ?_
  refine pc w0x16 ?_
  refine pc w0x24 ?_
  refine pc w0x32 ?_
  refine pc w0x40 ?_
  refine pc w0x48 ?_
  refine pc w0x56 ?_
  refine pc w0x64 ?_
  refine pc w0x72 ?_
  refine pc w0x80 ?_
  refine pc w0x88 ?_
  intro j h1 h2 _
  exact absurd h2 (Nat.not_lt.2 h1)
set_option maxRecDepth 100000 in
theorem all : ∀ j : Nat, j < 94 → sho.atRP j = true := fun j h => all' j (Nat.zero_le _) h (Nat.ne_of_lt h)
end Go.Proofs.YtnpfihlaocpcfaaGreatDoor.srd
