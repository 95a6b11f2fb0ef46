/- For the seat: texts joined: KrI, KrR, FlB, FlD, Lit, KerL. -/
import Derived.Test.YtnpfihlaocpcfaaGreatDoorJL2b
import Derived.Test.YtnpfihlaocpcfaaGreatDoorJL2c
import Derived.Test.YtnpfihlaocpcfaaGreatDoorJL2d
import Derived.Test.YtnpfihlaocpcfaaGreatDoorJL1a
import Derived.Deep.MidRow
import Derived.Test.YtnpfihlaocpcfaaGreatDoorJL2a
/- For the seat: the reference looks at an item: what is so where it says yes. -/
namespace Go.Proofs.YtnpfihlaocpcfaaGreatDoor
open Go.Sx Go.ChangeShapes Go.WideShapes Go.RowKit Go.Joins Go.Deep
attribute [local go_sem ↓] ins_equal ins_guard

/-- An item is as the reference asks: its bytes are there; an instruction is read there, and leads somewhere. -/
def oneP (s : ByteArray) (l : List Itm) (y : Itm) : Prop :=
  partB s.size y = true ∧ (y.k = 1 → ∃ b, (decR (unpR ((s.data.toList.drop y.a.toNat).take y.s.toNat)) b).2.2 = 0 ∧ (decR (unpR ((s.data.toList.drop y.a.toNat).take y.s.toNat)) b).1 = y.x ∧ 2 * (decR (unpR ((s.data.toList.drop y.a.toNat).take y.s.toNat)) b).2.1 = y.s ∧ ledB s.size l y = true)

set_option maxRecDepth 100000 in
set_option maxHeartbeats 4000000 in
theorem oneR_any (s : ByteArray) (l : List Itm) (A : Option Addr) (cap : Nat) (y : Itm) (it : Int) (w : World) (hA : ItAt w w.heap.size A l) (hl : l.length ≤ maxLen) (hs : s.size ≤ 4000000000) (hy : y.Ok) (hV : IAt w w.heap.size y.V y.vs) (hvb : y.vs.length ≤ 1000000000) (hw : Laid w) :
    Calls Tryz.prog 12 #[.agg #[.string s, .slice A l.length cap], y.val, .int .i64 it] w fun e w' => ∃ r, e = .returned (.bool r) ∧ (r = true → oneP s l y) ∧ Below w.heap.size w w' := by
  have hP := fun W : World => partR_any s (.slice A l.length cap) y W hs hy
  have hPool := fun (p : ByteArray) (hp : p.size ≤ 4000000000) (W : World) (h : Below w.heap.size w W) => poolR_any y p W ((hV.below h (Nat.le_refl _)).more h.size) hvb hp
  have hLd := fun W : World => leadsR_any y W
  have hSt := fun (q : Int) (W : World) (h : Below w.heap.size w W) => standsR_any s l A cap q W ((hA.below h (Nat.le_refl _)).more h.size) hl
  have hO : ∀ b, partB s.size y = true → (y.k = 1 → (decR (unpR ((s.data.toList.drop y.a.toNat).take y.s.toNat)) b).2.2 = 0 ∧ (decR (unpR ((s.data.toList.drop y.a.toNat).take y.s.toNat)) b).1 = y.x ∧ 2 * (decR (unpR ((s.data.toList.drop y.a.toNat).take y.s.toNat)) b).2.1 = y.s ∧ ledB s.size l y = true) → oneP s l y := fun b h1 h2 => ⟨h1, fun hk => ⟨b, h2 hk⟩⟩
  have hex : partB s.size y = true → (s.extract y.a.toNat (y.a + y.s).toNat).data.toList = (s.data.toList.drop y.a.toNat).take y.s.toNat := fun h => by
    have h := of_decide_eq_true h
    rw [Lib.extract_data, show (y.a + y.s).toNat - y.a.toNat = y.s.toNat by omega]
  have hpl : (s.extract y.a.toNat (y.a + y.s).toNat).size ≤ 4000000000 := by
    rw [ByteArray.size_extract]
    omega
  generalize s.extract y.a.toNat (y.a + y.s).toNat = p at hP hex hpl
  generalize (s.data.toList.drop y.a.toNat).take y.s.toNat = pl at hO hex
  generalize oneP s l y = O at hO ⊢
  unfold ledB at hO
  generalize leadsR y = ld at hLd hO
  obtain ⟨to, ok⟩ := ld
  generalize partB s.size y = pb at hP hO hex
  obtain ⟨k, a, sz, f, ln, x, V, vc, vs⟩ := y
  obtain ⟨x0, x1, x2, x3, x4, x5, x6, x7, xb⟩ := x
  dsimp only [Itm.val, Itm.cells] at hP hPool hLd hO hV hvb ⊢
  have b0 := (Below.refl w.heap.size w).alloc (Nat.le_refl _) (.cells #[.string s, .slice A l.length cap] 24)
  have cC0 : (w.alloc (.cells #[.string s, .slice A l.length cap] 24)).cell? ⟨w.heap.size, 0, none⟩ = some (.string s) := cell_allocN _ _ _ 0
  have cC1 : (w.alloc (.cells #[.string s, .slice A l.length cap] 24)).cell? ⟨w.heap.size, 1, none⟩ = some (.slice A l.length cap) := cell_allocN _ _ _ 1
  have z0 : (w.alloc (.cells #[.string s, .slice A l.length cap] 24)).heap.size = w.heap.size + 1 := by simp
  generalize hW0 : w.alloc (.cells #[.string s, .slice A l.length cap] 24) = W0 at b0 cC0 cC1 z0
  have b1 := (Below.refl W0.heap.size W0).alloc (Nat.le_refl _) (.cells #[.int .i64 k, .int .i64 a, .int .i64 sz, .int .i64 f, .int .i64 ln, .int .i64 x0, .int .i64 x1, .int .i64 x2, .int .i64 x3, .int .i64 x4, .int .i64 x5, .int .i64 x6, .int .i64 x7, .bool xb, .slice V vs.length vc] 33)
  have cX := cell_allocN W0 #[.int .i64 k, .int .i64 a, .int .i64 sz, .int .i64 f, .int .i64 ln, .int .i64 x0, .int .i64 x1, .int .i64 x2, .int .i64 x3, .int .i64 x4, .int .i64 x5, .int .i64 x6, .int .i64 x7, .bool xb, .slice V vs.length vc] 33
  rw [z0] at cX
  have z1 : (W0.alloc (.cells #[.int .i64 k, .int .i64 a, .int .i64 sz, .int .i64 f, .int .i64 ln, .int .i64 x0, .int .i64 x1, .int .i64 x2, .int .i64 x3, .int .i64 x4, .int .i64 x5, .int .i64 x6, .int .i64 x7, .bool xb, .slice V vs.length vc] 33)).heap.size = w.heap.size + 2 := by simp [z0]
  generalize hW1 : W0.alloc (.cells #[.int .i64 k, .int .i64 a, .int .i64 sz, .int .i64 f, .int .i64 ln, .int .i64 x0, .int .i64 x1, .int .i64 x2, .int .i64 x3, .int .i64 x4, .int .i64 x5, .int .i64 x6, .int .i64 x7, .bool xb, .slice V vs.length vc] 33) = W1 at b1 cX z1
  have bw1 : Below w.heap.size w W1 := b0.trans (b1.mono (by omega))
  have kf : ∀ X : World, Below W1.heap.size W1 X → X.cell? ⟨w.heap.size, 0, none⟩ = some (.string s) ∧ X.cell? ⟨w.heap.size, 1, none⟩ = some (.slice A l.length cap) ∧ X.cell? ⟨w.heap.size + 1, 0, none⟩ = some (.int .i64 k) ∧ X.cell? ⟨w.heap.size + 1, 1, none⟩ = some (.int .i64 a) ∧ X.cell? ⟨w.heap.size + 1, 2, none⟩ = some (.int .i64 sz) ∧ X.cell? ⟨w.heap.size + 1, 3, none⟩ = some (.int .i64 f) ∧ X.cell? ⟨w.heap.size + 1, 4, none⟩ = some (.int .i64 ln) ∧ X.cell? ⟨w.heap.size + 1, 5, none⟩ = some (.int .i64 x0) ∧ X.cell? ⟨w.heap.size + 1, 6, none⟩ = some (.int .i64 x1) ∧ X.cell? ⟨w.heap.size + 1, 7, none⟩ = some (.int .i64 x2) ∧ X.cell? ⟨w.heap.size + 1, 8, none⟩ = some (.int .i64 x3) ∧ X.cell? ⟨w.heap.size + 1, 9, none⟩ = some (.int .i64 x4) ∧ X.cell? ⟨w.heap.size + 1, 10, none⟩ = some (.int .i64 x5) ∧ X.cell? ⟨w.heap.size + 1, 11, none⟩ = some (.int .i64 x6) ∧ X.cell? ⟨w.heap.size + 1, 12, none⟩ = some (.int .i64 x7) ∧ X.cell? ⟨w.heap.size + 1, 13, none⟩ = some (.bool xb) ∧ X.cell? ⟨w.heap.size + 1, 14, none⟩ = some (.slice V vs.length vc) := fun X h => by
    have e := fun o => h.cell (p := ⟨w.heap.size + 1, o, none⟩) (show w.heap.size + 1 < W1.heap.size by omega)
    have e' := fun o => (h.cell (p := ⟨w.heap.size, o, none⟩) (show w.heap.size < W1.heap.size by omega)).trans (b1.cell (p := ⟨w.heap.size, o, none⟩) (show w.heap.size < W0.heap.size by omega))
    exact ⟨(e' 0).trans cC0, (e' 1).trans cC1, (e 0).trans (cX 0), (e 1).trans (cX 1), (e 2).trans (cX 2), (e 3).trans (cX 3), (e 4).trans (cX 4), (e 5).trans (cX 5), (e 6).trans (cX 6), (e 7).trans (cX 7), (e 8).trans (cX 8), (e 9).trans (cX 9), (e 10).trans (cX 10), (e 11).trans (cX 11), (e 12).trans (cX 12), (e 13).trans (cX 13), (e 14).trans (cX 14)⟩
  have kX : ∀ X : World, Below W1.heap.size W1 X → X.rangeAt (w.heap.size + 1) 0 [.int .i64 k, .int .i64 a, .int .i64 sz, .int .i64 f, .int .i64 ln, .int .i64 x0, .int .i64 x1, .int .i64 x2, .int .i64 x3, .int .i64 x4, .int .i64 x5, .int .i64 x6, .int .i64 x7, .bool xb, .slice V vs.length vc] := fun X h j v hv => by
    rw [Nat.zero_add]
    exact (h.cell (p := ⟨w.heap.size + 1, j, none⟩) (show w.heap.size + 1 < W1.heap.size by omega)).trans ((cX j).trans (by rw [List.getElem?_toArray]; exact hv))
  have bw : ∀ X : World, Below W1.heap.size W1 X → Below w.heap.size w X := fun X h => bw1.trans (h.mono (by omega))
  have r1 := Below.refl W1.heap.size W1
  obtain ⟨c0, c1, d0, d1, d2, d3, d4, d5, d6, d7, d8, d9, d10, d11, d12, d13, d14⟩ := kf W1 r1
  clear cX cC0 cC1 b0 b1
  go_enter Tryz.func12, Tryz.ntmps12
  go_wp2_with fail
  ((refine (hP W1).mono ?_); rintro e w2 ⟨rfl, hb2⟩)
  clear c0 c1 d0 d1 d2 d3 d4 d5 d6 d7 d8 d9 d10 d11 d12 d13 d14
  obtain ⟨c0, c1, d0, d1, d2, d3, d4, d5, d6, d7, d8, d9, d10, d11, d12, d13, d14⟩ := kf w2 hb2
  cases pb
  · go_wp2_with fail
    exact bodyPost_ret (results_tmp rfl _ _ _) rfl ⟨false, rfl, (fun h => by cases h), bw _ hb2⟩
  simp only [if_true] at hP
  have hex := hex rfl
  by_cases k1 : k = 1
  · have q1 : (k == 1) = true := by rw [k1]; rfl
    have hO1 : ∀ b, _ → O := fun b h => hO b rfl (fun _ => h)
    rw [← hex] at hO1
    have hU := unpackR_any p w2 hpl
    have hU2 := unpR_len p.data.toList
    have hU3 : ∀ v ∈ unpR p.data.toList, Hw v := fun v hv => unpR_has _ v hv
    have hps : p.data.toList.length = p.size := rfl
    rw [hps] at hU2
    clear hex hO hps k1
    generalize unpR p.data.toList = q at hO1 hU hU2 hU3
    go_wp2_with fail
    ((with_reducible refine hU.mono ?_); rintro e w3 ⟨A1, cap1, rfl, hA1, hcap1, hb3⟩)
    have B3 := hb2.trans (hb3.mono hb2.size)
    have hD := decR_any q A1 cap1 (it.tmod 16 != 0) w3 hA1 hU3 (by unfold maxLen; omega) (laid_below hw (bw _ B3))
    have hnum := decR_num (l := q) (it := (it.tmod 16 != 0))
    replace hO1 := hO1 (it.tmod 16 != 0)
    generalize decR q (it.tmod 16 != 0) = d at hD hO1 hnum
    obtain ⟨⟨z0, z1, z2, z3, z4, z5, z6, z7, zb⟩, m, er⟩ := d
    unfold RetD at hD
    dsimp only [Fields.val] at hD hO1 hnum
    clear c0 c1 d0 d1 d2 d3 d4 d5 d6 d7 d8 d9 d10 d11 d12 d13 d14 hU
    go_wp2_with fail
    ((with_reducible refine hD.mono ?_); rintro e w4 ⟨rfl, hb4⟩)
    have B4 := B3.trans (hb4.mono B3.size)
    obtain ⟨c0, c1, d0, d1, d2, d3, d4, d5, d6, d7, d8, d9, d10, d11, d12, d13, d14⟩ := kf w4 B4
    clear hD hU3
    have B5 : Below W1.heap.size W1 (w4.alloc (.cells #[.int .i64 z0, .int .i64 z1, .int .i64 z2, .int .i64 z3, .int .i64 z4, .int .i64 z5, .int .i64 z6, .int .i64 z7, .bool zb] 30)) := B4.alloc B4.size _
    have hlt4 : w.heap.size + 1 < w4.heap.size := by have := B4.size; omega
    have hnX : ¬ w.heap.size + 1 = w4.heap.size := by omega
    have hnX' : ¬ w4.heap.size = w.heap.size + 1 := by omega
    have hnC : ¬ w.heap.size = w4.heap.size := by omega
    by_cases he : er = 0
    · subst he
      have e1 : ((0 : Int) != 0) = false := rfl
      obtain ⟨nn, rfl, hn1, hn2, _⟩ := hnum rfl
      have hm2 : IntKind.i64.wrap (2 * (nn : Int)) = 2 * (nn : Int) := IntWalk.i64_in _ (by omega)
      by_cases hz : (⟨z0, z1, z2, z3, z4, z5, z6, z7, zb⟩ : Fields) = ⟨x0, x1, x2, x3, x4, x5, x6, x7, xb⟩
      · simp only [Fields.mk.injEq] at hz
        obtain ⟨rfl, rfl, rfl, rfl, rfl, rfl, rfl, rfl, rfl⟩ := hz
        have hq := eqB_yes (rfl : (⟨z0, z1, z2, z3, z4, z5, z6, z7, zb⟩ : Fields) = ⟨z0, z1, z2, z3, z4, z5, z6, z7, zb⟩)
        by_cases hs2 : 2 * (nn : Int) = sz
        · have e2 : (2 * (nn : Int) != sz) = false := by rw [hs2]; simp
          have hOf : (if ok = true then (if z0 = 40 ∨ z0 = 41 then decide (0 ≤ to ∧ to ≤ (s.size : Int)) else standsB s.size l to) else true) = true → O := fun h => hO1 ⟨by first | rfl | trivial, by first | rfl | trivial, hs2, h⟩
          clear hs2 hnum hO1
          by_cases ha : a.tmod 2 = 0
          · have e3 : (a.tmod 2 != 0) = false := by rw [ha]; rfl
            clear ha
            have hrg := kX _ B5
            go_wp2_with (refine wpList_load_mid rfl 33 (.tmp 4) rfl (w.heap.size + 1) 0 rfl _ _ hrg Tryz.underlying33 rfl (by kernel_rfl) ?_)
            dsimp only [List.toArray]
            ((with_reducible refine (hLd _).mono ?_); rintro e w6 ⟨rfl, hb6⟩)
            have B6 := B5.trans (hb6.mono B5.size)
            obtain ⟨⟨r0, r1, r2, r3, r4, r5, r6, r7, r8⟩, _⟩ := (InsAt.new w4 ⟨z0, z1, z2, z3, z4, z5, z6, z7, zb⟩ 30).below hb6 (by simp)
            simp only at r0 r1 r2 r3 r4 r5 r6 r7 r8
            clear c0 c1 d0 d1 d2 d3 d4 d5 d6 d7 d8 d9 d10 d11 d12 d13 d14 r1 r2 r3 r4 r5 r6 r7 r8 e1 e2 e3 hq hm2
            obtain ⟨c0, c1, -⟩ := kf w6 B6
            cases ok
            · have hr : O := hOf rfl
              go_wp2_with fail
              exact bodyPost_ret (results_tmp rfl _ _ _) rfl ⟨true, rfl, fun _ => hr, bw _ B6⟩
            by_cases h40 : z0 = 40
            · have q40 : (z0 == 40) = true := by rw [h40]; rfl
              by_cases t0 : 0 ≤ to
              · have u0 : decide (0 ≤ to) = true := decide_eq_true t0
                by_cases t1 : to ≤ (s.size : Int)
                · have u1 : decide (to ≤ (s.size : Int)) = true := decide_eq_true t1
                  have hr : O := hOf (by rw [if_pos rfl, if_pos (.inl h40)]; exact decide_eq_true ⟨t0, t1⟩)
                  clear h40
                  go_wp2_with fail
                  exact bodyPost_ret (results_tmp rfl _ _ _) rfl ⟨true, rfl, fun _ => hr, bw _ B6⟩
                · have u1 : decide (to ≤ (s.size : Int)) = false := decide_eq_false t1
                  clear h40
                  go_wp2_with fail
                  exact bodyPost_ret (results_tmp rfl _ _ _) rfl ⟨false, rfl, (fun h => by cases h), bw _ B6⟩
              · have u0 : decide (0 ≤ to) = false := decide_eq_false t0
                clear h40
                go_wp2_with fail
                exact bodyPost_ret (results_tmp rfl _ _ _) rfl ⟨false, rfl, (fun h => by cases h), bw _ B6⟩
            have q40 : (z0 == 40) = false := by simpa using h40
            by_cases h41 : z0 = 41
            · have q41 : (z0 == 41) = true := by rw [h41]; rfl
              by_cases t0 : 0 ≤ to
              · have u0 : decide (0 ≤ to) = true := decide_eq_true t0
                by_cases t1 : to ≤ (s.size : Int)
                · have u1 : decide (to ≤ (s.size : Int)) = true := decide_eq_true t1
                  have hr : O := hOf (by rw [if_pos rfl, if_pos (.inr h41)]; exact decide_eq_true ⟨t0, t1⟩)
                  clear h40 h41
                  go_wp2_with fail
                  exact bodyPost_ret (results_tmp rfl _ _ _) rfl ⟨true, rfl, fun _ => hr, bw _ B6⟩
                · have u1 : decide (to ≤ (s.size : Int)) = false := decide_eq_false t1
                  clear h40 h41
                  go_wp2_with fail
                  exact bodyPost_ret (results_tmp rfl _ _ _) rfl ⟨false, rfl, (fun h => by cases h), bw _ B6⟩
              · have u0 : decide (0 ≤ to) = false := decide_eq_false t0
                clear h40 h41
                go_wp2_with fail
                exact bodyPost_ret (results_tmp rfl _ _ _) rfl ⟨false, rfl, (fun h => by cases h), bw _ B6⟩
            have q41 : (z0 == 41) = false := by simpa using h41
            have hr : standsB s.size l to = true → O := fun h => hOf (by rw [if_pos rfl, if_neg (by rintro (h | h) <;> contradiction)]; exact h)
            have hS := hSt to w6 (bw _ B6)
            generalize standsB s.size l to = sb at hr hS
            clear h40 h41
            go_wp2_with fail
            ((with_reducible refine hS.mono ?_); rintro e w7 ⟨rfl, hb7⟩)
            go_wp2_with fail
            exact bodyPost_ret (results_tmp rfl _ _ _) rfl ⟨sb, rfl, hr, bw _ (B6.trans (hb7.mono B6.size))⟩
          · have e3 : (a.tmod 2 != 0) = true := by simpa using ha
            clear ha
            go_wp2_with fail
            exact bodyPost_ret (results_tmp rfl _ _ _) rfl ⟨false, rfl, (fun h => by cases h), bw _ B5⟩
        · have e2 : (2 * (nn : Int) != sz) = true := by simpa using hs2
          clear hs2
          go_wp2_with fail
          exact bodyPost_ret (results_tmp rfl _ _ _) rfl ⟨false, rfl, (fun h => by cases h), bw _ B5⟩
      · have hq := eqB_no hz
        clear hz
        go_wp2_with fail
        exact bodyPost_ret (results_tmp rfl _ _ _) rfl ⟨false, rfl, (fun h => by cases h), bw _ B5⟩
    · have e1 : (er != 0) = true := by simpa using he
      clear he
      go_wp2_with fail
      exact bodyPost_ret (results_tmp rfl _ _ _) rfl ⟨false, rfl, (fun h => by cases h), bw _ B5⟩
  have q1 : (k == 1) = false := by simpa using k1
  have hOk : O := hO true rfl (fun h => absurd h k1)
  by_cases k4 : k = 4
  · have q4 : (k == 4) = true := by rw [k4]; rfl
    clear k4 k1
    go_wp2_with fail
    ((with_reducible refine (hPool p hpl w2 (bw _ hb2)).mono ?_); rintro e w3 ⟨⟨r, rfl⟩, hb3⟩)
    go_wp2_with fail
    exact bodyPost_ret (results_tmp rfl _ _ _) rfl ⟨r, rfl, fun _ => hOk, bw _ (hb2.trans (hb3.mono hb2.size))⟩
  have q4 : (k == 4) = false := by simpa using k4
  by_cases k3 : k = 3
  · have q3 : (k == 3) = true := by rw [k3]; rfl
    clear k3 k4 k1
    go_wp2_with fail
    go_loopw [14] (fun c wr => ∃ i : Nat, i ≤ p.size ∧ c = .int .i64 i ∧ wr = w2) (fun c _ => p.size - (intOf c).toNat)
    case atStart => exact ⟨0, by omega, rfl, rfl⟩
    case round =>
      obtain ⟨i, hi, rfl, rfl⟩ := hrel
      by_cases hlt : i < p.size
      · have hk0 : (0 : Int) ≤ (i : Int) := by omega
        have hkl : (i : Int) < (p.size : Int) := by omega
        cases he : ((p[i].toNat : Int) != 0)
        · go_wp2_with fail
          go_roundw
          case rel => exact ⟨i + 1, by omega, by go_num, trivial⟩
          case measure => simp [intOf]; omega
        · go_wp2_with fail
          exact bodyPost_ret (results_tmp rfl _ _ _) rfl ⟨false, rfl, (fun h => by cases h), bw _ hb2⟩
      · have e : i = p.size := by omega
        subst e
        go_wp2_with fail
        exact bodyPost_ret (results_tmp rfl _ _ _) rfl ⟨true, rfl, fun _ => hOk, bw _ hb2⟩
  have q3 : (k == 3) = false := by simpa using k3
  go_wp2_with fail
  exact bodyPost_ret (results_tmp rfl _ _ _) rfl ⟨true, rfl, fun _ => hOk, bw _ hb2⟩
end Go.Proofs.YtnpfihlaocpcfaaGreatDoor
/- For the seat: the reference's Ranges and Check: what is so where they say yes. -/
namespace Go.Proofs.YtnpfihlaocpcfaaGreatDoor
open Go.Sx Go.ChangeShapes Go.WideShapes Go.RowKit Go.Joins Go.Deep

set_option maxRecDepth 100000 in
set_option maxHeartbeats 4000000 in
theorem rangR_any (s : ByteArray) (l : List Itm) (A : Option Addr) (cap : Nat) (w : World) (hA : ItAt w w.heap.size A l) (hl : l.length ≤ maxLen) (hs : s.size ≤ 4000000000) (hk : ∀ y ∈ l, y.Ok) (hvb : ∀ y ∈ l, y.vs.length ≤ 1000000000) (hw : Laid w) :
    Calls Tryz.prog 9 #[.agg #[.string s, .slice A l.length cap]] w fun e w' => ∃ r, e = .returned (.bool r) ∧ (r = true → ∀ y ∈ l, oneP s l y) ∧ Below w.heap.size w w' := by
  have hl0 := hl
  unfold maxLen at hl
  have b0 : Below w.heap.size w (w.alloc (.cells #[.string s, .slice A l.length cap] 24)) := (Below.refl _ _).alloc (Nat.le_refl _) _
  have c0 : (w.alloc (.cells #[.string s, .slice A l.length cap] 24)).cell? ⟨w.heap.size, 0, none⟩ = some (.string s) := cell_allocN _ _ _ 0
  have c01 : (w.alloc (.cells #[.string s, .slice A l.length cap] 24)).cell? ⟨w.heap.size, 1, none⟩ = some (.slice A l.length cap) := cell_allocN _ _ _ 1
  have hsz : (w.alloc (.cells #[.string s, .slice A l.length cap] 24)).heap.size = w.heap.size + 1 := by simp
  generalize hW : w.alloc (.cells #[.string s, .slice A l.length cap] 24) = W0 at b0 c0 c01 hsz
  go_enter Tryz.func9, Tryz.ntmps9
  go_wp2
  go_loopw [3, 4] (fun p c wr => ∃ (i : Nat) (q : Int), i ≤ l.length ∧ c = .int .i64 i ∧ p = .int .i64 q ∧ Hid (kHas .i64 q ∧ ∀ y ∈ l.take i, oneP s l y) ∧ Below W0.heap.size W0 wr) (fun _ c _ => l.length - (intOf c).toNat)
  case atStart => exact ⟨0, 0, by omega, rfl, rfl, Lib.hid ⟨zero_has, fun y hy => by simp at hy⟩, Below.refl _ _⟩
  case round =>
    obtain ⟨i, q, hi, rfl, rfl, HD, hbr⟩ := hrel
    have kc : ∀ X : World, Below W0.heap.size W0 X → X.cell? ⟨w.heap.size, 0, none⟩ = some (.string s) ∧ X.cell? ⟨w.heap.size, 1, none⟩ = some (.slice A l.length cap) := fun X h => ⟨(h.cell (p := ⟨w.heap.size, 0, none⟩) (by show w.heap.size < W0.heap.size; omega)).trans c0, (h.cell (p := ⟨w.heap.size, 1, none⟩) (by show w.heap.size < W0.heap.size; omega)).trans c01⟩
    have hbw : Below w.heap.size w wr := b0.trans (hbr.mono (by omega))
    have hwz : w.heap.size < wr.heap.size := by have := hbr.size; omega
    by_cases hlt : i < l.length
    · obtain ⟨g, off, rfl, hg, hc⟩ := (hA.below hbw (Nat.le_refl _)).at_ hlt
      have hk0 : (0 : Int) ≤ (i : Int) := by omega
      have hkl : (i : Int) < (l.length : Int) := by omega
      have IN := itIn_of hc
      have hy := hk l[i] (List.getElem_mem hlt)
      have hone : ∀ W : World, Below w.heap.size w W → _ := fun W h => oneR_any s l (some ⟨g, off, none⟩) cap l[i] q W ((hA.below h (Nat.le_refl _)).more h.size) hl0 hs hy (((hA.2 l[i] (List.getElem_mem hlt)).below h (Nat.le_refl _)).more h.size) (hvb l[i] (List.getElem_mem hlt)) (laid_below hw h)
      have hpre := HD.out.2
      have hnext : ∀ q', kHas .i64 q' → oneP s l l[i] → Hid (kHas .i64 q' ∧ ∀ y ∈ l.take (i + 1), oneP s l y) := fun q' h' ho => Lib.hid ⟨h', fun y hy => by
        rw [List.take_succ_eq_append_getElem hlt] at hy
        rcases List.mem_append.1 hy with hy | hy
        · exact hpre y hy
        · simp only [List.mem_cons, List.not_mem_nil, or_false] at hy
          subst hy
          exact ho⟩
      have haf := fun (W : World) (hW : Laid W) => (aft_r HD.out.1 hy.x).go (w := W) hW
      have hah := aft_has HD.out.1 hy.x
      have hq0 := HD.out.1
      clear hc hpre HD
      generalize oneP s l l[i] = O at hone hnext
      generalize l[i] = y at IN hy hone hnext haf hah
      obtain ⟨k, a, sz, f, ln, x, V, vc, vs⟩ := y
      obtain ⟨x0, x1, x2, x3, x4, x5, x6, x7, xb⟩ := x
      have kS : ∀ w' : World, Below wr.drew.heap.size wr.drew w' → (w'.cell? ⟨w.heap.size, 0, none⟩ = some (.string s) ∧ w'.cell? ⟨w.heap.size, 1, none⟩ = some (.slice (some ⟨g, off, none⟩) l.length cap) ∧ w'.cell? ⟨g, off + i * 15, none⟩ = some (.int .i64 k) ∧ w'.cell? ⟨g, off + i * 15 + 1, none⟩ = some (.int .i64 a) ∧ w'.cell? ⟨g, off + i * 15 + 2, none⟩ = some (.int .i64 sz) ∧ w'.cell? ⟨g, off + i * 15 + 3, none⟩ = some (.int .i64 f) ∧ w'.cell? ⟨g, off + i * 15 + 4, none⟩ = some (.int .i64 ln) ∧ w'.cell? ⟨g, off + i * 15 + 5, none⟩ = some (.int .i64 x0) ∧ w'.cell? ⟨g, off + i * 15 + 6, none⟩ = some (.int .i64 x1) ∧ w'.cell? ⟨g, off + i * 15 + 7, none⟩ = some (.int .i64 x2) ∧ w'.cell? ⟨g, off + i * 15 + 8, none⟩ = some (.int .i64 x3) ∧ w'.cell? ⟨g, off + i * 15 + 9, none⟩ = some (.int .i64 x4) ∧ w'.cell? ⟨g, off + i * 15 + 10, none⟩ = some (.int .i64 x5) ∧ w'.cell? ⟨g, off + i * 15 + 11, none⟩ = some (.int .i64 x6) ∧ w'.cell? ⟨g, off + i * 15 + 12, none⟩ = some (.int .i64 x7) ∧ w'.cell? ⟨g, off + i * 15 + 13, none⟩ = some (.bool xb) ∧ w'.cell? ⟨g, off + i * 15 + 14, none⟩ = some (.slice V vs.length vc)) := fun w' h => by
        obtain ⟨a1, a2⟩ := kc w' (hbr.drew.trans (h.mono hbr.size))
        have h2 : Below wr.heap.size wr w' := (Below.refl wr.heap.size wr).drew.trans h
        exact ⟨a1, a2, IN.below h2 (Nat.lt_of_lt_of_le hg hbw.size)⟩
      obtain ⟨c1, c2⟩ := kc wr hbr
      obtain ⟨p0, p1, p2, p3, p4, p5, p6, p7, p8, p9, p10, p11, p12, p13, p14⟩ := IN
      dsimp only at p0 p1 p2 p3 p4 p5 p6 p7 p8 p9 p10 p11 p12 p13 p14
      dsimp only [Itm.val, Itm.cells] at hone haf hah
      go_wp2_with fail
      go_region_held3 (fun w' => w'.cell? ⟨w.heap.size, 0, none⟩ = some (.string s) ∧ w'.cell? ⟨w.heap.size, 1, none⟩ = some (.slice (some ⟨g, off, none⟩) l.length cap) ∧ w'.cell? ⟨g, off + i * 15, none⟩ = some (.int .i64 k) ∧ w'.cell? ⟨g, off + i * 15 + 1, none⟩ = some (.int .i64 a) ∧ w'.cell? ⟨g, off + i * 15 + 2, none⟩ = some (.int .i64 sz) ∧ w'.cell? ⟨g, off + i * 15 + 3, none⟩ = some (.int .i64 f) ∧ w'.cell? ⟨g, off + i * 15 + 4, none⟩ = some (.int .i64 ln) ∧ w'.cell? ⟨g, off + i * 15 + 5, none⟩ = some (.int .i64 x0) ∧ w'.cell? ⟨g, off + i * 15 + 6, none⟩ = some (.int .i64 x1) ∧ w'.cell? ⟨g, off + i * 15 + 7, none⟩ = some (.int .i64 x2) ∧ w'.cell? ⟨g, off + i * 15 + 8, none⟩ = some (.int .i64 x3) ∧ w'.cell? ⟨g, off + i * 15 + 9, none⟩ = some (.int .i64 x4) ∧ w'.cell? ⟨g, off + i * 15 + 10, none⟩ = some (.int .i64 x5) ∧ w'.cell? ⟨g, off + i * 15 + 11, none⟩ = some (.int .i64 x6) ∧ w'.cell? ⟨g, off + i * 15 + 12, none⟩ = some (.int .i64 x7) ∧ w'.cell? ⟨g, off + i * 15 + 13, none⟩ = some (.bool xb) ∧ w'.cell? ⟨g, off + i * 15 + 14, none⟩ = some (.slice V vs.length vc))
        (first
          | (with_reducible exact kS _ hb4)
          | go_keep)
        (first
          | (go_at_call 12; refine (hone _ hbw.drew).mono ?_; rintro e w4 ⟨r4, rfl, hr4, hb4⟩))
      have hB4 : Below W0.heap.size W0 w4 := hbr.drew.trans (hb4.mono hbr.size)
      have hBw : Below w.heap.size w w4 := b0.trans (hB4.mono (by omega))
      clear c1 c2 p0 p1 p2 p3 p4 p5 p6 p7 p8 p9 p10 p11 p12 p13 p14
      obtain ⟨c1, c2, p0, p1, p2, p3, p4, p5, p6, p7, p8, p9, p10, p11, p12, p13, p14⟩ := kS w4 hb4
      cases r4
      · go_wp2_with fail
        exact bodyPost_ret (results_tmp rfl _ _ _) rfl ⟨false, rfl, (fun h => by cases h), hBw⟩
      · have ho := hr4 rfl
        by_cases k1 : k = 1
        · have q1 : (k == 1) = true := by rw [k1]; rfl
          have HN := hnext _ hah ho
          have haf4 := haf w4 (laid_below hw hBw)
          clear k1 hnext ho hah haf hr4 hone kc hq0
          generalize aftI q ⟨x0, x1, x2, x3, x4, x5, x6, x7, xb⟩ = q' at haf4 HN
          dsimp only [Fields.val] at haf4
          go_wp2_with fail
          ((with_reducible refine haf4.mono ?_); rintro e w5 ⟨rfl, hb5⟩)
          have hB5 := hB4.trans (hb5.mono hB4.size)
          go_wp2_with fail
          go_roundw
          case rel => exact ⟨i + 1, q', by omega, by go_num, rfl, HN, hB5⟩
          case measure => simp [intOf]; omega
        · have q1 : (k == 1) = false := by simpa using k1
          have HN := hnext q hq0 ho
          clear k1 hnext ho hah haf hr4 hone kc
          go_wp2_with fail
          go_roundw
          case rel => exact ⟨i + 1, q, by omega, by go_num, rfl, HN, hB4⟩
          case measure => simp [intOf]; omega
    · have e : i = l.length := by omega
      obtain ⟨c1, c2⟩ := kc wr hbr
      subst e
      have hd := HD.out.2
      rw [List.take_length] at hd
      go_wp2
      exact bodyPost_ret (results_tmp rfl _ _ _) rfl ⟨true, rfl, fun _ => hd, hbw⟩

/-- An image is as the reference asks. -/
def goodR (s : ByteArray) (l : List Itm) : Prop := disjB s.size 0 l = true ∧ ∀ y ∈ l, oneP s l y

set_option maxRecDepth 100000 in
set_option maxHeartbeats 1000000 in
theorem checkR_any (s : ByteArray) (l : List Itm) (A : Option Addr) (cap : Nat) (w : World) (hA : ItAt w w.heap.size A l) (hl : l.length ≤ maxLen) (hs : s.size ≤ 4000000000) (hk : ∀ y ∈ l, y.Ok) (hvb : ∀ y ∈ l, y.vs.length ≤ 1000000000) (hw : Laid w) :
    Calls Tryz.prog 5 #[.agg #[.string s, .slice A l.length cap]] w fun e w' => ∃ r, e = .returned (.bool r) ∧ (r = true → goodR s l) ∧ Below w.heap.size w w' := by
  have hD := fun (W : World) (h : Below w.heap.size w W) => disjR_any s l A cap W ((hA.below h (Nat.le_refl _)).more h.size) hl (by unfold maxLen; omega) hk
  have hR := fun (W : World) (h : Below w.heap.size w W) => rangR_any s l A cap W ((hA.below h (Nat.le_refl _)).more h.size) hl hs hk hvb (laid_below hw h)
  have hO : disjB s.size 0 l = true → (∀ y ∈ l, oneP s l y) → goodR s l := fun h1 h2 => ⟨h1, h2⟩
  generalize goodR s l = O at hO ⊢
  generalize (∀ y ∈ l, oneP s l y) = R at hR hO
  generalize disjB s.size 0 l = d at hD hO
  have b0 := (Below.refl w.heap.size w).alloc (Nat.le_refl _) (.cells #[.string s, .slice A l.length cap] 24)
  have c0 : (w.alloc (.cells #[.string s, .slice A l.length cap] 24)).cell? ⟨w.heap.size, 0, none⟩ = some (.string s) := cell_allocN _ _ _ 0
  have c1 : (w.alloc (.cells #[.string s, .slice A l.length cap] 24)).cell? ⟨w.heap.size, 1, none⟩ = some (.slice A l.length cap) := cell_allocN _ _ _ 1
  have hsz : (w.alloc (.cells #[.string s, .slice A l.length cap] 24)).heap.size = w.heap.size + 1 := by simp
  generalize hW : w.alloc (.cells #[.string s, .slice A l.length cap] 24) = W0 at b0 c0 c1 hsz
  go_enter Tryz.func5, Tryz.ntmps5
  go_wp2_with fail
  ((with_reducible refine (hD W0 b0).mono ?_); rintro e w1 ⟨rfl, hb1⟩)
  have B1 := b0.trans (hb1.mono b0.size)
  have d0 := (hb1.cell (p := ⟨w.heap.size, 0, none⟩) (by show w.heap.size < W0.heap.size; omega)).trans c0
  have d1 := (hb1.cell (p := ⟨w.heap.size, 1, none⟩) (by show w.heap.size < W0.heap.size; omega)).trans c1
  cases d
  · go_wp2_with fail
    exact bodyPost_ret (results_tmp rfl _ _ _) rfl ⟨false, rfl, (fun h => by cases h), B1⟩
  · go_wp2_with fail
    ((with_reducible refine (hR w1 B1).mono ?_); rintro e w2 ⟨r, rfl, hr, hb2⟩)
    have hf : r = true → O := fun h => hO (by first | rfl | trivial) (hr h)
    go_wp2_with fail
    exact bodyPost_ret (results_tmp rfl _ _ _) rfl ⟨r, rfl, hf, B1.trans (hb2.mono B1.size)⟩
end Go.Proofs.YtnpfihlaocpcfaaGreatDoor
/- For the seat: an image in which one bit of an instruction is turned is not as it should be: plain. -/
namespace Go.Proofs.YtnpfihlaocpcfaaGreatDoor
open Go.Sx Go.ChangeShapes Go.WideShapes Go.RowKit Go.Joins Go.Deep

/-! ### Twelve bits tell one number each -/
namespace fl
/-- The twelve bits of a number. -/
def inv (x : Nat) : Nat :=
  if x < 256 then x
  else if x % 65536 = x / 65536 ∧ x % 65536 < 256 then 256 + x % 256
  else if x % 256 = 0 ∧ x / 256 % 256 = x / 16777216 ∧ x / 65536 % 256 = 0 then 512 + x / 16777216
  else if x % 256 = x / 16777216 ∧ x / 256 % 256 = x / 16777216 ∧ x / 65536 % 256 = x / 16777216 then 768 + x / 16777216
  else (39 - x.log2) * 128 + x / 2 ^ (x.log2 - 7) % 128
def one (n : Nat) : Bool := match (ex.valT.den (envOf F [.int n])).asBool with
  | true => Nat.beq (inv (ex.expT.den (envOf F [.int n])).asInt.toNat) n
  | false => true
set_option maxRecDepth 1000000 in
theorem all : ((List.range 4096).all one) = true := by kernel_rfl
end fl

set_option maxRecDepth 100000 in
theorem exp_inj (n m : Int) (hn : (F2 921 [.int n]).asBool = true) (hm : (F2 921 [.int m]).asBool = true) (h : (F2 920 [.int n]).asInt = (F2 920 [.int m]).asInt) : n = m := by
  have key : ∀ k : Int, (F2 921 [.int k]).asBool = true → ∃ j : Nat, k = j ∧ j = fl.inv (F2 920 [.int k]).asInt.toNat := by
    intro k hk
    have hv : (ex.valT.den (envOf F [.int k])).asBool = true := hk
    have h0 : 0 ≤ k ∧ k < 4096 := by
      have hv' := hv
      unfold ex.valT at hv'
      simp only [Tm.den, Op2.ev, Sc.asBool_bool, Bool.and_eq_true] at hv'
      have g0 : 0 ≤ k := of_decide_eq_true hv'.1
      have g1 : k < 4096 := of_decide_eq_true hv'.2.1
      exact ⟨g0, g1⟩
    obtain ⟨j, rfl⟩ := Int.eq_ofNat_of_zero_le h0.1
    refine ⟨j, rfl, ?_⟩
    have := List.all_eq_true.1 fl.all j (List.mem_range.2 (by omega))
    unfold fl.one at this
    rw [hv] at this
    exact (Nat.eq_of_beq_eq_true this).symm
  obtain ⟨i, rfl, hi⟩ := key n hn
  obtain ⟨j, rfl, hj⟩ := key m hm
  rw [h] at hi
  rw [hi, ← hj]

/-! ### Bits of halfwords -/
def flipB (b : UInt8) (k : Nat) : UInt8 := UInt8.ofNat (b.toNat ^^^ 2 ^ k)
set_option maxRecDepth 100000 in
theorem flip_nat (b : UInt8) {k : Nat} (hk : k < 8) : (flipB b k).toNat = b.toNat ^^^ 2 ^ k := by
  have h1 : b.toNat < 2 ^ 8 := b.toNat_lt
  have h2 : 2 ^ k < 2 ^ 8 := Nat.pow_lt_pow_right (by omega) hk
  have h3 := Nat.xor_lt_two_pow h1 h2
  unfold flipB
  rw [UInt8.toNat_ofNat']
  omega
set_option maxRecDepth 100000 in
theorem flip_bit (b : UInt8) {k : Nat} (hk : k < 8) (i : Nat) : (flipB b k).toNat.testBit i = (b.toNat.testBit i ^^ decide (k = i)) := by
  rw [flip_nat b hk, Nat.testBit_xor, Nat.testBit_two_pow]

set_option maxRecDepth 100000 in
theorem blt_no {i n : Nat} (h : ¬ i < n) : Nat.blt i n = false := by
  cases hb : Nat.blt i n
  · rfl
  · exact absurd (by simpa [Nat.blt_eq] using hb) h

/-- A bit of bytes. -/
def bitL (l : List UInt8) (i : Nat) : Bool := (l.getD (i / 8) 0).toNat.testBit (i % 8)

set_option maxRecDepth 100000 in
theorem half_bit (a b : UInt8) {i : Nat} (_hi : i < 16) : bitI ((a.toNat : Int) + 256 * (b.toNat : Int)) i = (match Nat.blt i 8 with | true => a.toNat.testBit i | false => b.toNat.testBit (i - 8)) := by
  have e : ((a.toNat : Int) + 256 * (b.toNat : Int)) = ((2 ^ 8 * b.toNat + a.toNat : Nat) : Int) := by omega
  rw [e, bitI_nat, Nat.testBit_two_pow_mul_add _ a.toNat_lt]
  cases h : Nat.blt i 8
  · have : ¬ i < 8 := fun h' => by rw [show Nat.blt i 8 = true by simpa [Nat.blt_eq] using h'] at h; cases h
    rw [if_neg this]
  · have : i < 8 := by simpa [Nat.blt_eq] using h
    rw [if_pos this]

set_option maxRecDepth 100000 in
theorem bits2 (a b : UInt8) {i : Nat} (hi : i < 16) : bitI ((a.toNat : Int) + 256 * (b.toNat : Int)) i = bitL [a, b] i := by
  rw [half_bit a b hi]
  unfold bitL
  match i, hi with
  | 0, _ | 1, _ | 2, _ | 3, _ | 4, _ | 5, _ | 6, _ | 7, _ => rfl
  | 8, _ | 9, _ | 10, _ | 11, _ | 12, _ | 13, _ | 14, _ | 15, _ => rfl
  | n + 16, h => omega
set_option maxRecDepth 100000 in
theorem bits4 (a b c d : UInt8) {i : Nat} (hi : i < 32) : Rd.bit32 ((a.toNat : Int) + 256 * (b.toNat : Int)) ((c.toNat : Int) + 256 * (d.toNat : Int)) i = bitL [a, b, c, d] i := by
  unfold Rd.bit32
  by_cases h : i < 16
  · rw [show Nat.blt i 16 = true by simpa [Nat.blt_eq] using h]
    show bitI _ i = _
    rw [bits2 a b h]
    unfold bitL
    have : i / 8 < 2 := by omega
    match hq : i / 8, this with
    | 0, _ => rfl
    | 1, _ => rfl
  · rw [blt_no h]
    show bitI _ (i - 16) = _
    rw [bits2 c d (i := i - 16) (by omega)]
    unfold bitL
    rw [show (i - 16) % 8 = i % 8 by omega]
    have h2 : (i - 16) / 8 = i / 8 - 2 := by omega
    have : 2 ≤ i / 8 ∧ i / 8 < 4 := by omega
    rw [h2]
    match hq : i / 8, this with
    | 2, _ => rfl
    | 3, _ => rfl
set_option maxRecDepth 100000 in
theorem bits3 (a b : UInt8) {i : Nat} (hi : i < 32) : Rd.bit32 ((a.toNat : Int) + 256 * (b.toNat : Int)) 0 i = bitL [a, b] i := by
  unfold Rd.bit32
  by_cases h : i < 16
  · rw [show Nat.blt i 16 = true by simpa [Nat.blt_eq] using h]
    exact bits2 a b h
  · rw [blt_no h]
    show bitI _ (i - 16) = _
    have e0 : bitI 0 (i - 16) = false := by
      unfold bitI
      simp
    rw [e0]
    unfold bitL
    have : 2 ≤ i / 8 := by omega
    rw [List.getD_eq_getElem?_getD, List.getElem?_eq_none (by simpa using this)]
    simp

set_option maxRecDepth 100000 in
/-- One bit turned, of a byte of some bytes. -/
theorem set_bit (l : List UInt8) {j k : Nat} (hj : j < l.length) (hk : k < 8) (i : Nat) : bitL (l.set j (flipB (l.getD j 0) k)) i = (bitL l i ^^ decide (8 * j + k = i)) := by
  unfold bitL
  by_cases h : i / 8 = j
  · rw [h, List.getD_eq_getElem?_getD, List.getElem?_set_self (by omega), Option.getD_some, flip_bit _ hk]
    congr 1
    rw [decide_eq_decide]
    omega
  · rw [List.getD_eq_getElem?_getD, List.getElem?_set_ne (by omega), ← List.getD_eq_getElem?_getD]
    rw [show decide (8 * j + k = i) = false from decide_eq_false (by omega), Bool.xor_false]
end Go.Proofs.YtnpfihlaocpcfaaGreatDoor
/- For the seat: an image in which one bit of an instruction is turned is not as it should be: plain. -/
namespace Go.Proofs.YtnpfihlaocpcfaaGreatDoor
open Go.Sx Go.ChangeShapes Go.WideShapes Go.RowKit Go.Joins Go.Deep

/-! ### Images -/
set_option maxRecDepth 100000 in
theorem rang_mem {s : List UInt8} {l : List Itm} : ∀ {r : List Itm} {it : Int}, rangB s l it r = true → ∀ y ∈ r, y.k = 1 → ∃ it', insB s.length l y ((s.drop y.a.toNat).take y.s.toNat) it' = true
  | [], _, _, y, hy, _ => by simp at hy
  | z :: r, it, h, y, hy, hk => by
    rw [rangB_cons] at h
    split at h
    · split at h
      · rename_i h1
        rcases List.mem_cons.1 hy with rfl | hy
        · unfold oneB at h1
          rw [if_pos hk] at h1
          exact ⟨it, h1⟩
        · exact rang_mem h y hy hk
      · cases h
    · cases h

set_option maxRecDepth 100000 in
/-- What is read of so many bytes comes from halfwords of the instruction: the reference. -/
theorem reads_r {P : List UInt8} {b : Bool} {x : Fields} (h0 : (decR (unpR P) b).2.2 = 0) (h1 : (decR (unpR P) b).1 = x) (h2 : 2 * (decR (unpR P) b).2.1 = (P.length : Int)) :
    (∃ a c, P = [a, c] ∧ Rd.Reads F2 Rd.narT x.scs ((a.toNat : Int) + 256 * (c.toNat : Int)) 0) ∨ (∃ a c d e, P = [a, c, d, e] ∧ Rd.Reads F2 Rd.widT x.scs ((a.toNat : Int) + 256 * (c.toNat : Int)) ((d.toNat : Int) + 256 * (e.toNat : Int))) := by
  have hw : ∀ a c : UInt8, HwR ((a.toNat : Int) + 256 * (c.toNat : Int)) := fun a c => by
    have := byte_lt a
    have := byte_lt c
    exact ⟨by omega, by omega⟩
  obtain ⟨n, hn, hn1, _, hn2⟩ := decR_num h0
  rw [hn] at h2
  match P, h0, h1, h2, hn with
  | [], _, _, h2, _ => simp at h2; omega
  | [a], _, _, h2, _ => simp at h2; omega
  | [a, c], h0, h1, h2, hn =>
    refine .inl ⟨a, c, rfl, ?_⟩
    have e : unpR [a, c] = [(a.toNat : Int) + 256 * (c.toNat : Int)] := rfl
    rw [e, decR_one] at h0 h1
    split at h0
    · exact absurd h0 (by decide)
    · rename_i hb
      rw [if_neg hb] at h1
      obtain ⟨_, p2, p3⟩ := pickR_num h0
      rw [← h1, p3]
      exact (shortR_all (hw a c) b).2 p2
  | [a, c, d], _, _, h2, _ => simp at h2; omega
  | [a, c, d, e], h0, h1, h2, hn =>
    refine .inr ⟨a, c, d, e, rfl, ?_⟩
    have e1 : unpR [a, c, d, e] = [(a.toNat : Int) + 256 * (c.toNat : Int), (d.toNat : Int) + 256 * (e.toNat : Int)] := rfl
    rw [e1, decR_two] at h0 h1 hn
    have hn' : n = 2 := by simp at h2; omega
    split at h0
    · rename_i hb
      rw [if_pos hb] at h1
      obtain ⟨_, p2, p3⟩ := pickR_num h0
      rw [← h1, p3]
      exact (tallR_all (hw a c) (hw d e) b).2 p2
    · rename_i hb
      rw [if_neg hb] at hn
      rw [(pickR_num h0).1] at hn
      omega
  | a :: c :: d :: e :: f :: r, _, _, h2, _ => simp at h2; omega

set_option maxRecDepth 100000 in
/-- The like for the program. -/
theorem reads_p {P : List UInt8} {b : Bool} {x : Fields} (h0 : (decOf (unpB P) b).2.2 = 0) (h1 : (decOf (unpB P) b).1 = x) (h2 : 2 * (decOf (unpB P) b).2.1 = (P.length : Int)) :
    (∃ a c, P = [a, c] ∧ Rd.Reads F2 Rd.narT x.scs ((a.toNat : Int) + 256 * (c.toNat : Int)) 0) ∨ (∃ a c d e, P = [a, c, d, e] ∧ Rd.Reads F2 Rd.widT x.scs ((a.toNat : Int) + 256 * (c.toNat : Int)) ((d.toNat : Int) + 256 * (e.toNat : Int))) := by
  have hw : ∀ a c : UInt8, HwD ((a.toNat : Int) + 256 * (c.toNat : Int)) := fun a c => by
    have := byte_lt a
    have := byte_lt c
    exact ⟨by omega, by omega⟩
  rw [unpB_eq] at h0 h1 h2
  obtain ⟨n, hn, hn1, _, hn2⟩ := decOf_num h0
  rw [hn] at h2
  match P, h0, h1, h2, hn with
  | [], _, _, h2, _ => simp at h2; omega
  | [a], _, _, h2, _ => simp at h2; omega
  | [a, c], h0, h1, h2, hn =>
    refine .inl ⟨a, c, rfl, ?_⟩
    have e : unpR [a, c] = [(a.toNat : Int) + 256 * (c.toNat : Int)] := rfl
    rw [e, decOf_one] at h0 h1
    split at h0
    · exact absurd h0 (by decide)
    · rename_i hb
      rw [if_neg hb] at h1
      obtain ⟨_, p2, p3⟩ := pickD_num h0
      rw [← h1, p3]
      exact (shortOf_all (hw a c) b).2 p2
  | [a, c, d], _, _, h2, _ => simp at h2; omega
  | [a, c, d, e], h0, h1, h2, hn =>
    refine .inr ⟨a, c, d, e, rfl, ?_⟩
    have e1 : unpR [a, c, d, e] = [(a.toNat : Int) + 256 * (c.toNat : Int), (d.toNat : Int) + 256 * (e.toNat : Int)] := rfl
    rw [e1, decOf_two] at h0 h1 hn
    have hn' : n = 2 := by simp at h2; omega
    split at h0
    · rename_i hb
      rw [if_pos hb] at h1
      obtain ⟨_, p2, p3⟩ := pickD_num h0
      rw [← h1, p3]
      exact (tallOf_all (hw a c) (hw d e) b).2 p2
    · rename_i hb
      rw [if_neg hb] at hn
      rw [(pickD_num h0).1] at hn
      omega
  | a :: c :: d :: e :: f :: r, _, _, h2, _ => simp at h2; omega

set_option maxRecDepth 100000 in
theorem far_nar (k : Nat) : Rd.farL (Rd.narT k) = true := by
  by_cases h : k < 46
  · exact List.all_eq_true.1 Rd.farN k (List.mem_range.2 h)
  · have : Rd.narT k = [] := by
      obtain ⟨n, rfl⟩ : ∃ n, k = n + 46 := ⟨k - 46, by omega⟩
      rfl
    rw [this]; rfl
set_option maxRecDepth 100000 in
theorem far_wid (k : Nat) : Rd.farL (Rd.widT k) = true := by
  by_cases h : k < 46
  · exact List.all_eq_true.1 Rd.farW k (List.mem_range.2 h)
  · have : Rd.widT k = [] := by
      obtain ⟨n, rfl⟩ : ∃ n, k = n + 46 := ⟨k - 46, by omega⟩
      rfl
    rw [this]; rfl

set_option maxRecDepth 100000 in
theorem turned {s s' : ByteArray} {l : List Itm} {y : Itm} (hg : goodR s l) (hy : y ∈ l) (hk : y.k = 1) {j k : Nat} (hj : (j : Int) < y.s) (hk8 : k < 8)
    (hs : s'.data.toList = s.data.toList.set (y.a.toNat + j) (flipB (s.data.toList.getD (y.a.toNat + j) 0) k)) : chkB s' l = false := by
  cases hc : chkB s' l
  · rfl
  · exfalso
    unfold chkB at hc
    rw [Bool.and_eq_true] at hc
    obtain ⟨it', hi⟩ := rang_mem hc.2 y hy hk
    obtain ⟨hp, hr⟩ := hg.2 y hy
    obtain ⟨b, r0, r1, r2, _⟩ := hr hk
    have hp := of_decide_eq_true hp
    have hsl : s.data.toList.length = s.size := rfl
    obtain ⟨P, hP⟩ : ∃ P, (s.data.toList.drop y.a.toNat).take y.s.toNat = P := ⟨_, rfl⟩
    have hPl : P.length = y.s.toNat := by
      rw [← hP, List.length_take, List.length_drop, hsl]
      omega
    have hg0 : s.data.toList.getD (y.a.toNat + j) 0 = P.getD j 0 := by
      rw [← hP, List.getD_eq_getElem?_getD, List.getD_eq_getElem?_getD, List.getElem?_take_of_lt (by omega), List.getElem?_drop]
    have hP' : (s'.data.toList.drop y.a.toNat).take y.s.toNat = P.set j (flipB (P.getD j 0) k) := by
      rw [hs, hg0, List.drop_set, if_neg (by omega), show y.a.toNat + j - y.a.toNat = j by omega, List.take_set, hP]
    have hjP : j < P.length := by omega
    unfold insB at hi
    rw [hP'] at hi
    split at hi
    · rename_i hh
      obtain ⟨i0, i1, i2, _⟩ := hh
      rw [hP] at r0 r1 r2
      have q2 : 2 * (decR (unpR P) b).2.1 = (P.length : Int) := by rw [r2, hPl]; omega
      have q2' : 2 * (decOf (unpB (P.set j (flipB (P.getD j 0) k))) (itB it')).2.1 = ((P.set j (flipB (P.getD j 0) k)).length : Int) := by rw [i2, List.length_set, hPl]; omega
      have hb := fun i => set_bit P hjP hk8 i
      have R := reads_r r0 r1 q2
      have Q := reads_p i0 i1 q2'
      generalize hPP : P.set j (flipB (P.getD j 0) k) = P' at hb Q
      have hlen : P'.length = P.length := by rw [← hPP, List.length_set]
      rcases R with ⟨a, c, rfl, R⟩ | ⟨a, c, d, e, rfl, R⟩
      · rcases Q with ⟨a', c', rfl, Q⟩ | ⟨a', c', d', e', rfl, Q⟩
        · refine Rd.flip_no (p := 8 * j + k) rfl exp_inj far_nar R Q ?_ ?_
          · have h32 : 8 * j + k < 32 := by simp at hjP; omega
            rw [bits3 a c h32, bits3 a' c' h32, hb]
            simp
          · intro i hi hne
            rw [bits3 a c hi, bits3 a' c' hi, hb, show decide (8 * j + k = i) = false from decide_eq_false (by omega), Bool.xor_false]
        · simp at hlen
      · rcases Q with ⟨a', c', rfl, Q⟩ | ⟨a', c', d', e', rfl, Q⟩
        · simp at hlen
        · refine Rd.flip_no (p := 8 * j + k) rfl exp_inj far_wid R Q ?_ ?_
          · have h32 : 8 * j + k < 32 := by simp at hjP; omega
            rw [bits4 a c d e h32, bits4 a' c' d' e' h32, hb]
            simp
          · intro i hi hne
            rw [bits4 a c d e hi, bits4 a' c' d' e' hi, hb, show decide (8 * j + k = i) = false from decide_eq_false (by omega), Bool.xor_false]
    · cases hi
end Go.Proofs.YtnpfihlaocpcfaaGreatDoor
/- For the seat: what some halfwords are read as: chapter 12's example. -/
namespace Go.Proofs.YtnpfihlaocpcfaaGreatDoor
open Go.Sx Go.ChangeShapes Go.WideShapes Go.RowKit Go.Joins Go.Deep

namespace lit
/-- Is the answer this instruction? -/
def litD (x : Fields) (ok : Bool) (r : Res) : Tree Res :=
  match insOf r.v with
  | some (.agg (.cons (.int .i64 a0) (.cons (.int .i64 a1) (.cons (.int .i64 a2) (.cons (.int .i64 a3) (.cons (.int .i64 a4) (.cons (.int .i64 a5) (.cons (.int .i64 a6) (.cons (.int .i64 a7) (.cons (.bool b) .nil))))))))), o) =>
    .leaf ⟨.bool (allT [.op2 .eq a0 (.num x.x0), .op2 .eq a1 (.num x.x1), .op2 .eq a2 (.num x.x2), .op2 .eq a3 (.num x.x3), .op2 .eq a4 (.num x.x4), .op2 .eq a5 (.num x.x5), .op2 .eq a6 (.num x.x6), .op2 .eq a7 (.num x.x7), .op2 .beq b (.bit x.b), .op2 .beq o (.bit ok)]), [], .bit true⟩
  | _ => .fail "no instruction"
noncomputable def litT (D : Nat) (args : List SVal) (x : Fields) (ok : Bool) : Tree Res := (callT cxs' noS (run cxs' noS 3000) D args [] (.bit true)).bind (litD x ok)
def kn : Kn := ⟨[], [], [], [], []⟩
set_option maxRecDepth 100000 in
theorem vars : VarsOk (envOf F2 []) := ⟨fun i => by cases i <;> exact zero_has, F2_has⟩

set_option maxRecDepth 100000 in
theorem ok {D : Nat} {args : List SVal} {x : Fields} {ok : Bool} {l : List Value} (hsc : ∀ u ∈ args, u.sc 0 = true) (ha : args.map (·.conc (envOf F2 []) ι0) = l) (h : pxBoth sg (litT D args x ok) kn = true) : Ans D l (.tuple #[x.val, .bool ok]) := by
  have so := sg_ok' (ρ := envOf F2 []) F2_signs
  have S : Sats (envOf F2 []) kn := Sats.start vars _ (by intro i hi; cases hi)
  obtain ⟨z, b, h1, h2, h3⟩ := pxBoth_ok so _ _ S h
  simp only [litT, Tree.get_bind, Option.bind_eq_some_iff] at h1
  obtain ⟨y, hy, hl⟩ := h1
  have hc := call_ok cxsok' (noS_ok _ _) (noS_body _) rfl hy
  unfold litD at hl
  split at hl
  · rename_i a0 a1 a2 a3 a4 a5 a6 a7 bb o hi
    simp only [Tree.get, Option.some.injEq] at hl
    subst hl
    cases h2
    have hall := allT_den _ _ h3
    have e : ∀ (t : Tm) (n : Int), Tm.op2 .eq t (.num n) ∈ [Tm.op2 .eq a0 (.num x.x0), .op2 .eq a1 (.num x.x1), .op2 .eq a2 (.num x.x2), .op2 .eq a3 (.num x.x3), .op2 .eq a4 (.num x.x4), .op2 .eq a5 (.num x.x5), .op2 .eq a6 (.num x.x6), .op2 .eq a7 (.num x.x7), .op2 .beq bb (.bit x.b), .op2 .beq o (.bit ok)] → (t.den (envOf F2 [])).asInt = n := by
      intro t n hm
      have : ((t.den (envOf F2 [])).asInt == n) = true := hall _ hm
      exact eq_of_beq this
    have f : ∀ (t : Tm) (n : Bool), Tm.op2 .beq t (.bit n) ∈ [Tm.op2 .eq a0 (.num x.x0), .op2 .eq a1 (.num x.x1), .op2 .eq a2 (.num x.x2), .op2 .eq a3 (.num x.x3), .op2 .eq a4 (.num x.x4), .op2 .eq a5 (.num x.x5), .op2 .eq a6 (.num x.x6), .op2 .eq a7 (.num x.x7), .op2 .beq bb (.bit x.b), .op2 .beq o (.bit ok)] → (t.den (envOf F2 [])).asBool = n := by
      intro t n hm
      have : ((t.den (envOf F2 [])).asBool == n) = true := hall _ hm
      exact eq_of_beq this
    refine ans_of hc hsc ha fun ι => ?_
    rw [insOf_conc hi ι, f o ok (by simp)]
    show Value.tuple #[Value.agg #[.int .i64 _, .int .i64 _, .int .i64 _, .int .i64 _, .int .i64 _, .int .i64 _, .int .i64 _, .int .i64 _, .bool _], _] = _
    rw [e a0 x.x0 (by simp), e a1 x.x1 (by simp), e a2 x.x2 (by simp), e a3 x.x3 (by simp), e a4 x.x4 (by simp), e a5 x.x5 (by simp), e a6 x.x6 (by simp), e a7 x.x7 (by simp), f bb x.b (by simp)]
    rfl
  · cases hl

set_option maxRecDepth 100000 in
theorem it1 : pxBoth sg (litT 37 [.int .i64 (.num 48904), .bool (.bit false)] ⟨42, 0, 0, 0, 0, 8, 1, 0, false⟩ true) kn = true := by kernel_rfl
set_option maxRecDepth 100000 in
theorem mv1 : pxBoth sg (litT 37 [.int .i64 (.num 8193), .bool (.bit true)] ⟨10, 0, 0, 0, 0, 1, 1, 0, false⟩ true) kn = true := by kernel_rfl
set_option maxRecDepth 100000 in
theorem ud1 : pxBoth sg (litT 37 [.int .i64 (.num 56832), .bool (.bit false)] ⟨0, 0, 0, 0, 0, 0, 0, 0, false⟩ false) kn = true := by kernel_rfl
set_option maxRecDepth 100000 in
theorem mv2 : pxBoth sg (litT 38 [.int .i64 (.num 61519), .int .i64 (.num 1), .bool (.bit false)] ⟨10, 0, 0, 0, 0, 1, 1, 0, false⟩ true) kn = true := by kernel_rfl
set_option maxRecDepth 100000 in
theorem dec_it : Ans 37 [.int .i64 48904, .bool false] (.tuple #[(⟨42, 0, 0, 0, 0, 8, 1, 0, false⟩ : Fields).val, .bool true]) := ok (by intro u hu; simp at hu; rcases hu with rfl | rfl <;> rfl) rfl it1
set_option maxRecDepth 100000 in
theorem dec_mv1 : Ans 37 [.int .i64 8193, .bool true] (.tuple #[(⟨10, 0, 0, 0, 0, 1, 1, 0, false⟩ : Fields).val, .bool true]) := ok (by intro u hu; simp at hu; rcases hu with rfl | rfl <;> rfl) rfl mv1
set_option maxRecDepth 100000 in
theorem dec_ud : Ans 37 [.int .i64 56832, .bool false] (.tuple #[(⟨0, 0, 0, 0, 0, 0, 0, 0, false⟩ : Fields).val, .bool false]) := ok (by intro u hu; simp at hu; rcases hu with rfl | rfl <;> rfl) rfl ud1
set_option maxRecDepth 100000 in
theorem dec_mv2 : Ans 38 [.int .i64 61519, .int .i64 1, .bool false] (.tuple #[(⟨10, 0, 0, 0, 0, 1, 1, 0, false⟩ : Fields).val, .bool true]) := ok (by intro u hu; simp at hu; rcases hu with rfl | rfl | rfl <;> rfl) rfl mv2
end lit

set_option maxRecDepth 100000 in
theorem pair_inj {x y : Fields} {a b : Bool} (h : Value.tuple #[x.val, .bool a] = Value.tuple #[y.val, .bool b]) : x = y ∧ a = b := by
  simp only [Value.tuple.injEq] at h
  have h := congrArg Array.toList h
  simp only [List.cons.injEq, Value.bool.injEq, and_true] at h
  exact ⟨val_inj h.1, h.2⟩
set_option maxRecDepth 100000 in
theorem shortOf_eq {a : Int} (ha : HwD a) {it : Bool} {x : Fields} {ok : Bool} (h : Ans 37 [.int .i64 a, .bool it] (.tuple #[x.val, .bool ok])) : shortOf a it = (x, ok) := by
  obtain ⟨h1, h2⟩ := pair_inj (Ans.one (by kernel_rfl) (shortOf_ok ha it).ans h)
  exact Prod.ext h1 h2
set_option maxRecDepth 100000 in
theorem tallOf_eq {a b : Int} (ha : HwD a) (hb : HwD b) {it : Bool} {x : Fields} {ok : Bool} (h : Ans 38 [.int .i64 a, .int .i64 b, .bool it] (.tuple #[x.val, .bool ok])) : tallOf a b it = (x, ok) := by
  obtain ⟨h1, h2⟩ := pair_inj (Ans.one (by kernel_rfl) (tallOf_ok ha hb it).ans h)
  exact Prod.ext h1 h2

set_option maxRecDepth 100000 in
theorem has_lit (n : Nat) (h : n < 65536) : HwD (n : Int) := ⟨by omega, by omega⟩

set_option maxRecDepth 100000 in
theorem lit_dec1 (r : List Int) : decOf (48904 :: r) false = (⟨42, 0, 0, 0, 0, 8, 1, 0, false⟩, 1, 0) := by
  have e := shortOf_eq (has_lit 48904 (by decide)) lit.dec_it
  have hb : longB 48904 = false := by kernel_rfl
  cases r with
  | nil => rw [decOf_one, hb, if_neg (by decide)]; erw [e]; rfl
  | cons b r => rw [decOf_two, hb, if_neg (by decide)]; erw [e]; rfl
set_option maxRecDepth 100000 in
theorem lit_dec2 (r : List Int) : decOf (8193 :: r) true = (⟨10, 0, 0, 0, 0, 1, 1, 0, false⟩, 1, 0) := by
  have e := shortOf_eq (has_lit 8193 (by decide)) lit.dec_mv1
  have hb : longB 8193 = false := by kernel_rfl
  cases r with
  | nil => rw [decOf_one, hb, if_neg (by decide)]; erw [e]; rfl
  | cons b r => rw [decOf_two, hb, if_neg (by decide)]; erw [e]; rfl
set_option maxRecDepth 100000 in
theorem lit_dec3 (it : Bool) : decOf [65535] it = (zeroF, 0, 2) := by
  have hb : longB 65535 = true := by kernel_rfl
  rw [decOf_one, hb]; rfl
set_option maxRecDepth 100000 in
theorem lit_dec4 : decOf [61519] false = (zeroF, 0, 2) := by
  have hb : longB 61519 = true := by kernel_rfl
  rw [decOf_one, hb]; rfl
set_option maxRecDepth 100000 in
theorem lit_dec5 : decOf [56832] false = (zeroF, 0, 10) := by
  have e := shortOf_eq (has_lit 56832 (by decide)) lit.dec_ud
  have hb : longB 56832 = false := by kernel_rfl
  rw [decOf_one, hb, if_neg (by decide)]; erw [e]; rfl
set_option maxRecDepth 100000 in
theorem lit_dec6 : decOf [61519, 1] false = (⟨10, 0, 0, 0, 0, 1, 1, 0, false⟩, 2, 0) := by
  have e := tallOf_eq (has_lit 61519 (by decide)) (has_lit 1 (by decide)) lit.dec_mv2
  have hb : longB 61519 = true := by kernel_rfl
  rw [decOf_two, hb, if_pos rfl]; erw [e]; rfl
set_option maxRecDepth 100000 in
theorem lit_aft1 : aftI 0 ⟨42, 0, 0, 0, 0, 8, 1, 0, false⟩ = 8 := by kernel_rfl
set_option maxRecDepth 100000 in
theorem lit_stream : strmA [48904, 8193, 65535] 0 0 = [(0, ⟨42, 0, 0, 0, 0, 8, 1, 0, false⟩), (1, ⟨10, 0, 0, 0, 0, 1, 1, 0, false⟩)] := by
  have b0 : itB 0 = false := by kernel_rfl
  have b8 : itB 8 = true := by kernel_rfl
  have d1 : decOf ([48904, 8193, 65535].drop 0) (itB 0) = (⟨42, 0, 0, 0, 0, 8, 1, 0, false⟩, 1, 0) := by rw [b0]; exact lit_dec1 _
  have d2 : decOf ([48904, 8193, 65535].drop 1) (itB 8) = (⟨10, 0, 0, 0, 0, 1, 1, 0, false⟩, 1, 0) := by rw [b8]; exact lit_dec2 _
  have d3 : ∀ it, decOf ([48904, 8193, 65535].drop 2) it = (zeroF, 0, 2) := lit_dec3
  rw [strmA_go (n := 1) (by decide) (by rw [d1]) (by rw [d1]; rfl), d1]
  simp only [lit_aft1]
  rw [strmA_go (n := 1) (by decide) (by rw [d2]) (by rw [d2]; rfl), d2, strmA_stop]
  rintro ⟨_, h⟩
  rw [show (0 : Nat) + 1 + 1 = 2 from rfl, d3] at h
  exact absurd h (by decide)
end Go.Proofs.YtnpfihlaocpcfaaGreatDoor
/- For the seat: chapter 25's example holds. -/
namespace Go.Proofs.YtnpfihlaocpcfaaGreatDoor
open Go.Sx Go.ChangeShapes Go.WideShapes Go.RowKit Go.Joins Go.Deep

namespace ker
set_option maxRecDepth 100000 in
theorem mvA : pxBoth sg (lit.litT 37 [.int .i64 (.num 8193), .bool (.bit false)] ⟨10, 0, 0, 0, 0, 1, 1, 0, true⟩ true) lit.kn = true := by kernel_rfl
set_option maxRecDepth 100000 in
theorem mvB : pxBoth sg (lit.litT 37 [.int .i64 (.num 8194), .bool (.bit false)] ⟨10, 0, 0, 0, 0, 2, 1, 0, true⟩ true) lit.kn = true := by kernel_rfl
set_option maxRecDepth 100000 in
theorem decA : Ans 37 [.int .i64 8193, .bool false] (.tuple #[(⟨10, 0, 0, 0, 0, 1, 1, 0, true⟩ : Fields).val, .bool true]) := lit.ok (by intro u hu; simp at hu; rcases hu with rfl | rfl <;> rfl) rfl mvA
set_option maxRecDepth 100000 in
theorem decB : Ans 37 [.int .i64 8194, .bool false] (.tuple #[(⟨10, 0, 0, 0, 0, 2, 1, 0, true⟩ : Fields).val, .bool true]) := lit.ok (by intro u hu; simp at hu; rcases hu with rfl | rfl <;> rfl) rfl mvB
end ker

set_option maxRecDepth 100000 in
theorem ker_unA : unpB [1, 32] = [8193] := by kernel_rfl
set_option maxRecDepth 100000 in
theorem ker_unB : unpB [2, 32] = [8194] := by kernel_rfl
set_option maxRecDepth 100000 in
theorem ker_it0 : itB 0 = false := by kernel_rfl
set_option maxRecDepth 100000 in
theorem ker_decA : decOf [8193] false = (⟨10, 0, 0, 0, 0, 1, 1, 0, true⟩, 1, 0) := by
  have e := shortOf_eq (has_lit 8193 (by decide)) ker.decA
  have hb : longB 8193 = false := by kernel_rfl
  rw [decOf_one, hb, if_neg (by decide)]; erw [e]; rfl
set_option maxRecDepth 100000 in
theorem ker_decB : decOf [8194] false = (⟨10, 0, 0, 0, 0, 2, 1, 0, true⟩, 1, 0) := by
  have e := shortOf_eq (has_lit 8194 (by decide)) ker.decB
  have hb : longB 8194 = false := by kernel_rfl
  rw [decOf_one, hb, if_neg (by decide)]; erw [e]; rfl

/-- The example's item. -/
abbrev kerI : Itm := ⟨1, 0, 2, 0, 1, ⟨10, 0, 0, 0, 0, 1, 1, 0, true⟩, none, 0, []⟩
def kerS (l : List UInt8) : ByteArray := ⟨l.toArray⟩
set_option maxRecDepth 100000 in
theorem kerS_list (l : List UInt8) : (kerS l).data.toList = l := rfl

set_option maxRecDepth 100000 in
theorem kerI_ok : kerI.Ok := by
  have h : ∀ n : Nat, n < 65536 → kHas .i64 (n : Int) := fun n hn => hwD_has (has_lit n hn)
  exact ⟨h 1 (by decide), h 0 (by decide), h 2 (by decide), h 0 (by decide), h 1 (by decide), ⟨h 10 (by decide), h 0 (by decide), h 0 (by decide), h 0 (by decide), h 0 (by decide), h 1 (by decide), h 1 (by decide), h 0 (by decide)⟩, fun v hv => by simp at hv, by decide, by decide⟩

set_option maxRecDepth 100000 in
theorem ker_one (n : Nat) (l : List Itm) : oneB n l kerI [1, 32] 0 = true := by
  unfold oneB insB
  rw [if_pos rfl, ker_unA, ker_it0, ker_decA]
  rw [if_pos ⟨rfl, rfl, rfl, by kernel_rfl⟩, if_neg (by decide)]
set_option maxRecDepth 100000 in
theorem ker_oneB (n : Nat) (l : List Itm) : oneB n l kerI [2, 32] 0 = false := by
  unfold oneB insB
  rw [if_pos rfl, ker_unB, ker_it0, ker_decB]
  rw [if_neg (fun h => absurd h.2.1 (by decide))]
set_option maxRecDepth 100000 in
theorem ker_rA (x : List UInt8) : rangB (1 :: 32 :: x) [kerI] 0 [kerI] = true := by
  rw [rangB_cons, if_pos ⟨by decide, by simp; omega, by decide, by simp; omega⟩]
  rw [show ((1 :: 32 :: x : List UInt8).drop (kerI.a).toNat).take (kerI.s).toNat = [1, 32] from rfl, ker_one, if_pos rfl]
  rfl
set_option maxRecDepth 100000 in
theorem ker_rB : rangB [2, 32] [kerI] 0 [kerI] = false := by
  rw [rangB_cons, if_pos (by decide)]
  rw [show (([2, 32] : List UInt8).drop (kerI.a).toNat).take (kerI.s).toNat = [2, 32] from rfl, ker_oneB, if_neg (by decide)]

set_option maxRecDepth 100000 in
theorem ker_img (s : List UInt8) (h : s.length ≤ 3) : Img (kerS s) [kerI] :=
  ⟨by show s.toArray.size ≤ _; simp; omega, by decide, fun y hy => by simp at hy; subst hy; exact kerI_ok, fun y hy => by simp at hy; subst hy; decide⟩
set_option maxRecDepth 100000 in
theorem nil_img : Img (kerS []) [] := ⟨by decide, by decide, fun y hy => by simp at hy, fun y hy => by simp at hy⟩

set_option maxRecDepth 100000 in
theorem itAt_one {W : World} {g : Nat} {y : Itm} (hv : y.vs = []) (hg : g < W.heap.size) (h : ItIn W g 0 y) : ItAt W W.heap.size (some ⟨g, 0, none⟩) [y] := by
  refine ⟨fun _ => ⟨g, 0, rfl, hg, fun i x hx j v hj => ?_⟩, fun x hx => ?_⟩
  · match i, hx with
    | 0, hx =>
      simp only [List.getElem?_cons_zero, Option.some.injEq] at hx
      subst hx
      obtain ⟨a0, a1, a2, a3, a4, a5, a6, a7, a8, a9, a10, a11, a12, a13, a14⟩ := h
      rw [Nat.zero_mul, Nat.zero_add]
      match j, hj with
      | 0, hj => cases hj; exact a0
      | 1, hj => cases hj; exact a1
      | 2, hj => cases hj; exact a2
      | 3, hj => cases hj; exact a3
      | 4, hj => cases hj; exact a4
      | 5, hj => cases hj; exact a5
      | 6, hj => cases hj; exact a6
      | 7, hj => cases hj; exact a7
      | 8, hj => cases hj; exact a8
      | 9, hj => cases hj; exact a9
      | 10, hj => cases hj; exact a10
      | 11, hj => cases hj; exact a11
      | 12, hj => cases hj; exact a12
      | 13, hj => cases hj; exact a13
      | 14, hj => cases hj; exact a14
      | n + 15, hj => simp at hj
    | i + 1, hx => simp at hx
  · simp at hx
    subst hx
    rw [hv]
    exact IAt.nil _ _ _

set_option maxRecDepth 100000 in
theorem cell_old (W : World) (o : Obj) (b j : Nat) (h : b < W.heap.size) : (W.alloc o).cell? ⟨b, j, none⟩ = W.cell? ⟨b, j, none⟩ := ((Below.refl W.heap.size W).alloc (Nat.le_refl _) o).cell (p := ⟨b, j, none⟩) h

set_option maxRecDepth 100000 in
set_option maxHeartbeats 4000000 in
theorem awake_ok (w : World) (hw : Laid w) : Calls Tryz.prog 6 #[] w fun e w' => e = .returned (.bool true) ∧ Below w.heap.size w w' := by
  have C0 : ∀ (W : World), Laid W → Calls Tryz.prog 7 #[.agg #[.string ⟨#[]⟩, .slice none 0 0]] W (fun e w' => e = .returned (.bool true) ∧ Below W.heap.size W w') := fun W h => by
    have h0 := check_img nil_img none 0 W ⟨fun hn => absurd rfl hn, fun y hy => by simp at hy⟩ h
    rw [show chkB (kerS []) [] = true from rfl] at h0
    exact h0
  have C1 : ∀ (g : Nat) (W : World), ItAt W W.heap.size (some ⟨g, 0, none⟩) [kerI] → Laid W → Calls Tryz.prog 7 #[.agg #[.string ⟨#[1, 32]⟩, .slice (some ⟨g, 0, none⟩) 1 1]] W (fun e w' => e = .returned (.bool true) ∧ Below W.heap.size W w') := fun g W hI h => by
    have h0 := check_img (ker_img [1, 32] (by decide)) (some ⟨g, 0, none⟩) 1 W hI h
    rw [show chkB (kerS [1, 32]) [kerI] = true by unfold chkB; rw [kerS_list, ker_rA]; rfl] at h0
    exact h0
  have D2 : ∀ (g : Nat) (W : World), ItAt W W.heap.size (some ⟨g, 0, none⟩) [kerI] → Calls Tryz.prog 10 #[.agg #[.string ⟨#[2, 32]⟩, .slice (some ⟨g, 0, none⟩) 1 1]] W (fun e w' => e = .returned (.bool true) ∧ Below W.heap.size W w') := fun g W hI => by
    have h0 := disj_img (ker_img [2, 32] (by decide)) (some ⟨g, 0, none⟩) 1 W hI
    rw [show disjB (kerS [2, 32]).size 0 [kerI] = true by decide] at h0
    exact h0
  have R2 : ∀ (g : Nat) (W : World), ItAt W W.heap.size (some ⟨g, 0, none⟩) [kerI] → Laid W → Calls Tryz.prog 11 #[.agg #[.string ⟨#[2, 32]⟩, .slice (some ⟨g, 0, none⟩) 1 1]] W (fun e w' => e = .returned (.bool false) ∧ Below W.heap.size W w') := fun g W hI h => by
    have h0 := rang_img (ker_img [2, 32] (by decide)) (some ⟨g, 0, none⟩) 1 W hI h
    rw [kerS_list, ker_rB] at h0
    exact h0
  have D3 : ∀ (g : Nat) (W : World), ItAt W W.heap.size (some ⟨g, 0, none⟩) [kerI] → Calls Tryz.prog 10 #[.agg #[.string ⟨#[1, 32, 0]⟩, .slice (some ⟨g, 0, none⟩) 1 1]] W (fun e w' => e = .returned (.bool false) ∧ Below W.heap.size W w') := fun g W hI => by
    have h0 := disj_img (ker_img [1, 32, 0] (by decide)) (some ⟨g, 0, none⟩) 1 W hI
    rw [show disjB (kerS [1, 32, 0]).size 0 [kerI] = false by decide] at h0
    exact h0
  have R3 : ∀ (g : Nat) (W : World), ItAt W W.heap.size (some ⟨g, 0, none⟩) [kerI] → Laid W → Calls Tryz.prog 11 #[.agg #[.string ⟨#[1, 32, 0]⟩, .slice (some ⟨g, 0, none⟩) 1 1]] W (fun e w' => e = .returned (.bool true) ∧ Below W.heap.size W w') := fun g W hI h => by
    have h0 := rang_img (ker_img [1, 32, 0] (by decide)) (some ⟨g, 0, none⟩) 1 W hI h
    rw [kerS_list, ker_rA] at h0
    exact h0
  have B0 : Below w.heap.size w w := Below.refl _ _
  obtain ⟨W1, h1⟩ : ∃ W, w.alloc (.cells #[.int .i64 10, .int .i64 0, .int .i64 0, .int .i64 0, .int .i64 0, .int .i64 1, .int .i64 1, .int .i64 0, .bool true] 30) = W := ⟨_, rfl⟩
  have z1 : W1.heap.size = w.heap.size + 1 := by rw [← h1]; simp
  have B1 : Below w.heap.size w W1 := by rw [← h1]; exact B0.alloc B0.size _
  obtain ⟨W2, h2⟩ : ∃ W, W1.alloc (.cells #[.int .i64 1, .int .i64 0, .int .i64 2, .int .i64 0, .int .i64 1, .int .i64 10, .int .i64 0, .int .i64 0, .int .i64 0, .int .i64 0, .int .i64 1, .int .i64 1, .int .i64 0, .bool true, .slice none 0 0] 33) = W := ⟨_, rfl⟩
  have z2 : W2.heap.size = w.heap.size + 1 + 1 := by rw [← h2]; simp [z1]
  have B2 : Below w.heap.size w W2 := by rw [← h2]; exact B1.alloc B1.size _
  have I2 : ItIn W2 (w.heap.size + 1) 0 kerI := by rw [← h2]; exact itIn_new W1 kerI 33 _ z1.symm
  obtain ⟨W3, h3⟩ : ∃ W, W2.alloc (.cells #[.string ⟨#[1, 32]⟩, .slice (some ⟨w.heap.size + 1, 0, none⟩) 1 1] 24) = W := ⟨_, rfl⟩
  have z3 : W3.heap.size = w.heap.size + 1 + 1 + 1 := by rw [← h3]; simp [z2]
  have B3 : Below w.heap.size w W3 := by rw [← h3]; exact B2.alloc B2.size _
  have I3 : ItIn W3 (w.heap.size + 1) 0 kerI := by rw [← h3]; exact I2.below ((Below.refl W2.heap.size W2).alloc (Nat.le_refl _) _) (by rw [z2]; omega)
  have a3_3 : W3.cell? ⟨w.heap.size + 1 + 1, 0, none⟩ = some (.string ⟨#[1, 32]⟩) := by rw [← h3, ← z2]; exact cell_allocN _ _ _ 0
  have b3_3 : W3.cell? ⟨w.heap.size + 1 + 1, 1, none⟩ = some (.slice (some ⟨w.heap.size + 1, 0, none⟩) 1 1) := by rw [← h3, ← z2]; exact cell_allocN _ _ _ 1
  obtain ⟨W4, h4⟩ : ∃ W, W3.alloc (.cells #[.string ⟨#[2, 32]⟩, .slice (some ⟨w.heap.size + 1, 0, none⟩) 1 1] 24) = W := ⟨_, rfl⟩
  have z4 : W4.heap.size = w.heap.size + 1 + 1 + 1 + 1 := by rw [← h4]; simp [z3]
  have B4 : Below w.heap.size w W4 := by rw [← h4]; exact B3.alloc B3.size _
  have I4 : ItIn W4 (w.heap.size + 1) 0 kerI := by rw [← h4]; exact I3.below ((Below.refl W3.heap.size W3).alloc (Nat.le_refl _) _) (by rw [z3]; omega)
  have a4_4 : W4.cell? ⟨w.heap.size + 1 + 1 + 1, 0, none⟩ = some (.string ⟨#[2, 32]⟩) := by rw [← h4, ← z3]; exact cell_allocN _ _ _ 0
  have b4_4 : W4.cell? ⟨w.heap.size + 1 + 1 + 1, 1, none⟩ = some (.slice (some ⟨w.heap.size + 1, 0, none⟩) 1 1) := by rw [← h4, ← z3]; exact cell_allocN _ _ _ 1
  have a3_4 := (show W4.cell? ⟨w.heap.size + 1 + 1, 0, none⟩ = W3.cell? ⟨w.heap.size + 1 + 1, 0, none⟩ by rw [← h4]; exact cell_old _ _ _ _ (by rw [z3]; omega)).trans a3_3
  have b3_4 := (show W4.cell? ⟨w.heap.size + 1 + 1, 1, none⟩ = W3.cell? ⟨w.heap.size + 1 + 1, 1, none⟩ by rw [← h4]; exact cell_old _ _ _ _ (by rw [z3]; omega)).trans b3_3
  obtain ⟨W5, h5⟩ : ∃ W, W4.alloc (.cells #[.string ⟨#[1, 32, 0]⟩, .slice (some ⟨w.heap.size + 1, 0, none⟩) 1 1] 24) = W := ⟨_, rfl⟩
  have z5 : W5.heap.size = w.heap.size + 1 + 1 + 1 + 1 + 1 := by rw [← h5]; simp [z4]
  have B5 : Below w.heap.size w W5 := by rw [← h5]; exact B4.alloc B4.size _
  have I5 : ItIn W5 (w.heap.size + 1) 0 kerI := by rw [← h5]; exact I4.below ((Below.refl W4.heap.size W4).alloc (Nat.le_refl _) _) (by rw [z4]; omega)
  have a5_5 : W5.cell? ⟨w.heap.size + 1 + 1 + 1 + 1, 0, none⟩ = some (.string ⟨#[1, 32, 0]⟩) := by rw [← h5, ← z4]; exact cell_allocN _ _ _ 0
  have b5_5 : W5.cell? ⟨w.heap.size + 1 + 1 + 1 + 1, 1, none⟩ = some (.slice (some ⟨w.heap.size + 1, 0, none⟩) 1 1) := by rw [← h5, ← z4]; exact cell_allocN _ _ _ 1
  have a3_5 := (show W5.cell? ⟨w.heap.size + 1 + 1, 0, none⟩ = W4.cell? ⟨w.heap.size + 1 + 1, 0, none⟩ by rw [← h5]; exact cell_old _ _ _ _ (by rw [z4]; omega)).trans a3_4
  have b3_5 := (show W5.cell? ⟨w.heap.size + 1 + 1, 1, none⟩ = W4.cell? ⟨w.heap.size + 1 + 1, 1, none⟩ by rw [← h5]; exact cell_old _ _ _ _ (by rw [z4]; omega)).trans b3_4
  have a4_5 := (show W5.cell? ⟨w.heap.size + 1 + 1 + 1, 0, none⟩ = W4.cell? ⟨w.heap.size + 1 + 1 + 1, 0, none⟩ by rw [← h5]; exact cell_old _ _ _ _ (by rw [z4]; omega)).trans a4_4
  have b4_5 := (show W5.cell? ⟨w.heap.size + 1 + 1 + 1, 1, none⟩ = W4.cell? ⟨w.heap.size + 1 + 1 + 1, 1, none⟩ by rw [← h5]; exact cell_old _ _ _ _ (by rw [z4]; omega)).trans b4_4
  have LI : ∀ W : World, Below W5.heap.size W5 W → ItAt W W.heap.size (some ⟨w.heap.size + 1, 0, none⟩) [kerI] := fun W h => itAt_one rfl (by have := h.size; rw [z5] at this; omega) (I5.below h (by rw [z5]; omega))
  have LL : ∀ W : World, Below W5.heap.size W5 W → Laid W := fun W h => laid_below hw (B5.trans (h.mono (by rw [z5]; omega)))
  have Ka3 : ∀ W : World, Below W5.heap.size W5 W → W.cell? ⟨w.heap.size + 1 + 1, 0, none⟩ = some (.string ⟨#[1, 32]⟩) := fun W h => (h.cell (p := ⟨w.heap.size + 1 + 1, 0, none⟩) (by show w.heap.size + 1 + 1 < W5.heap.size; rw [z5]; omega)).trans a3_5
  have Kb3 : ∀ W : World, Below W5.heap.size W5 W → W.cell? ⟨w.heap.size + 1 + 1, 1, none⟩ = some (.slice (some ⟨w.heap.size + 1, 0, none⟩) 1 1) := fun W h => (h.cell (p := ⟨w.heap.size + 1 + 1, 1, none⟩) (by show w.heap.size + 1 + 1 < W5.heap.size; rw [z5]; omega)).trans b3_5
  have Ka4 : ∀ W : World, Below W5.heap.size W5 W → W.cell? ⟨w.heap.size + 1 + 1 + 1, 0, none⟩ = some (.string ⟨#[2, 32]⟩) := fun W h => (h.cell (p := ⟨w.heap.size + 1 + 1 + 1, 0, none⟩) (by show w.heap.size + 1 + 1 + 1 < W5.heap.size; rw [z5]; omega)).trans a4_5
  have Kb4 : ∀ W : World, Below W5.heap.size W5 W → W.cell? ⟨w.heap.size + 1 + 1 + 1, 1, none⟩ = some (.slice (some ⟨w.heap.size + 1, 0, none⟩) 1 1) := fun W h => (h.cell (p := ⟨w.heap.size + 1 + 1 + 1, 1, none⟩) (by show w.heap.size + 1 + 1 + 1 < W5.heap.size; rw [z5]; omega)).trans b4_5
  have Ka5 : ∀ W : World, Below W5.heap.size W5 W → W.cell? ⟨w.heap.size + 1 + 1 + 1 + 1, 0, none⟩ = some (.string ⟨#[1, 32, 0]⟩) := fun W h => (h.cell (p := ⟨w.heap.size + 1 + 1 + 1 + 1, 0, none⟩) (by show w.heap.size + 1 + 1 + 1 + 1 < W5.heap.size; rw [z5]; omega)).trans a5_5
  have Kb5 : ∀ W : World, Below W5.heap.size W5 W → W.cell? ⟨w.heap.size + 1 + 1 + 1 + 1, 1, none⟩ = some (.slice (some ⟨w.heap.size + 1, 0, none⟩) 1 1) := fun W h => (h.cell (p := ⟨w.heap.size + 1 + 1 + 1 + 1, 1, none⟩) (by show w.heap.size + 1 + 1 + 1 + 1 < W5.heap.size; rw [z5]; omega)).trans b5_5
  have J1 : InsAt W1 w.heap.size ⟨10, 0, 0, 0, 0, 1, 1, 0, true⟩ := by rw [← h1]; exact InsAt.new w ⟨10, 0, 0, 0, 0, 1, 1, 0, true⟩ 30
  obtain ⟨⟨q0, q1, q2, q3, q4, q5, q6, q7, q8⟩, _⟩ := J1
  simp only at q0 q1 q2 q3 q4 q5 q6 q7 q8
  clear I2 I3 I4 I5 a3_5 b3_5 a4_4 b4_4 a4_5 b4_5 a5_5 b5_5
  go_enter Tryz.func6, Tryz.ntmps6
  go_wp2_with fail
  clear q0 q1 q2 q3 q4 q5 q6 q7 q8 a3_3 b3_3 a3_4 b3_4
  (refine (C0 W5 (LL _ (Below.refl _ _))).mono ?_; rintro e w1 ⟨rfl, hb1⟩)
  have X1 : Below W5.heap.size W5 w1 := hb1
  have m1 := Ka3 _ X1
  have m2 := Kb3 _ X1
  go_wp2_with fail
  (refine (C1 _ w1 (LI _ X1) (LL _ X1)).mono ?_; rintro e w2 ⟨rfl, hb2⟩)
  have X2 : Below W5.heap.size W5 w2 := X1.trans (hb2.mono X1.size)
  clear m1 m2 hb1 hb2
  have m1 := Ka4 _ X2
  have m2 := Kb4 _ X2
  go_wp2_with fail
  (refine (D2 _ w2 (LI _ X2)).mono ?_; rintro e w3 ⟨rfl, hb3⟩)
  have X3 : Below W5.heap.size W5 w3 := X2.trans (hb3.mono X2.size)
  clear m1 m2 hb3
  have m1 := Ka4 _ X3
  have m2 := Kb4 _ X3
  go_wp2_with fail
  (refine (R2 _ w3 (LI _ X3) (LL _ X3)).mono ?_; rintro e w4 ⟨rfl, hb4⟩)
  have X4 : Below W5.heap.size W5 w4 := X3.trans (hb4.mono X3.size)
  clear m1 m2 hb4
  have m1 := Ka5 _ X4
  have m2 := Kb5 _ X4
  go_wp2_with fail
  (refine (D3 _ w4 (LI _ X4)).mono ?_; rintro e w5 ⟨rfl, hb5⟩)
  have X5 : Below W5.heap.size W5 w5 := X4.trans (hb5.mono X4.size)
  clear m1 m2 hb5
  have m1 := Ka5 _ X5
  have m2 := Kb5 _ X5
  go_wp2_with fail
  (refine (R3 _ w5 (LI _ X5) (LL _ X5)).mono ?_; rintro e w6 ⟨rfl, hb6⟩)
  have X6 : Below W5.heap.size W5 w6 := X5.trans (hb6.mono X5.size)
  go_wp2_with fail
  exact bodyPost_ret (results_tmp rfl _ _ _) rfl ⟨rfl, B5.trans (X6.mono (by rw [z5]; omega))⟩
#print axioms awake_ok
end Go.Proofs.YtnpfihlaocpcfaaGreatDoor
