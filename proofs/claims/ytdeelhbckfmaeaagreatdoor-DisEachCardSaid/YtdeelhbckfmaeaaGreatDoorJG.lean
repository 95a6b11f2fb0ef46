/- For the seat: texts joined: KrI, KrR, KrL. -/
import Derived.Test.YtdeelhbckfmaeaaGreatDoorJE
import Derived.Test.YtdeelhbckfmaeaaGreatDoorJD
import Derived.Deep.MidRow
import Derived.Laws.BitsAllLaws
/- For the seat: the reference looks at an item: what is so where it says yes. -/
namespace Go.Proofs.YtdeelhbckfmaeaaGreatDoor
open Go.Sx Go.ChangeShapes Go.WideShapes Go.RowKit Go.Joins Go.Deep
attribute [local go_sem ↓] ins_equal ins_guard

/-- An item is as the reference asks: its bytes are there; an instruction is read there, and leads somewhere. -/
def oneP (s : ByteArray) (l : List Itm) (y : Itm) : Prop :=
  partB s.size y = true ∧ (y.k = 1 → ∃ b, (decR (unpR ((s.data.toList.drop y.a.toNat).take y.s.toNat)) b).2.2 = 0 ∧ (decR (unpR ((s.data.toList.drop y.a.toNat).take y.s.toNat)) b).1 = y.x ∧ 2 * (decR (unpR ((s.data.toList.drop y.a.toNat).take y.s.toNat)) b).2.1 = y.s ∧ ledB s.size l y = true)

set_option maxRecDepth 100000 in
set_option maxHeartbeats 4000000 in
theorem oneR_any (s : ByteArray) (l : List Itm) (A : Option Addr) (cap : Nat) (y : Itm) (it : Int) (w : World) (hA : ItAt w w.heap.size A l) (hl : l.length ≤ maxLen) (hs : s.size ≤ 4000000000) (hy : y.Ok) (hV : IAt w w.heap.size y.V y.vs) (hvb : y.vs.length ≤ 1000000000) (hw : Laid w) :
    Calls Tryz.prog 29 #[.agg #[.string s, .slice A l.length cap], y.val, .int .i64 it] w fun e w' => ∃ r, e = .returned (.bool r) ∧ (r = true → oneP s l y) ∧ Below w.heap.size w w' := by
  have hP := fun W : World => partR_any s (.slice A l.length cap) y W hs hy
  have hPool := fun (p : ByteArray) (hp : p.size ≤ 4000000000) (W : World) (h : Below w.heap.size w W) => poolR_any y p W ((hV.below h (Nat.le_refl _)).more h.size) hvb hp
  have hLd := fun W : World => leadsR_any y W
  have hSt := fun (q : Int) (W : World) (h : Below w.heap.size w W) => standsR_any s l A cap q W ((hA.below h (Nat.le_refl _)).more h.size) hl
  have hO : ∀ b, partB s.size y = true → (y.k = 1 → (decR (unpR ((s.data.toList.drop y.a.toNat).take y.s.toNat)) b).2.2 = 0 ∧ (decR (unpR ((s.data.toList.drop y.a.toNat).take y.s.toNat)) b).1 = y.x ∧ 2 * (decR (unpR ((s.data.toList.drop y.a.toNat).take y.s.toNat)) b).2.1 = y.s ∧ ledB s.size l y = true) → oneP s l y := fun b h1 h2 => ⟨h1, fun hk => ⟨b, h2 hk⟩⟩
  have hex : partB s.size y = true → (s.extract y.a.toNat (y.a + y.s).toNat).data.toList = (s.data.toList.drop y.a.toNat).take y.s.toNat := fun h => by
    have h := of_decide_eq_true h
    rw [Lib.extract_data, show (y.a + y.s).toNat - y.a.toNat = y.s.toNat by omega]
  have hpl : (s.extract y.a.toNat (y.a + y.s).toNat).size ≤ 4000000000 := by
    rw [ByteArray.size_extract]
    omega
  generalize s.extract y.a.toNat (y.a + y.s).toNat = p at hP hex hpl
  generalize (s.data.toList.drop y.a.toNat).take y.s.toNat = pl at hO hex
  generalize oneP s l y = O at hO ⊢
  unfold ledB at hO
  generalize leadsR y = ld at hLd hO
  obtain ⟨to, ok⟩ := ld
  generalize partB s.size y = pb at hP hO hex
  obtain ⟨k, a, sz, f, ln, x, V, vc, vs⟩ := y
  obtain ⟨x0, x1, x2, x3, x4, x5, x6, x7, xb⟩ := x
  dsimp only [Itm.val, Itm.cells] at hP hPool hLd hO hV hvb ⊢
  have b0 := (Below.refl w.heap.size w).alloc (Nat.le_refl _) (.cells #[.string s, .slice A l.length cap] 24)
  have cC0 : (w.alloc (.cells #[.string s, .slice A l.length cap] 24)).cell? ⟨w.heap.size, 0, none⟩ = some (.string s) := cell_allocN _ _ _ 0
  have cC1 : (w.alloc (.cells #[.string s, .slice A l.length cap] 24)).cell? ⟨w.heap.size, 1, none⟩ = some (.slice A l.length cap) := cell_allocN _ _ _ 1
  have z0 : (w.alloc (.cells #[.string s, .slice A l.length cap] 24)).heap.size = w.heap.size + 1 := by simp
  generalize hW0 : w.alloc (.cells #[.string s, .slice A l.length cap] 24) = W0 at b0 cC0 cC1 z0
  have b1 := (Below.refl W0.heap.size W0).alloc (Nat.le_refl _) (.cells #[.int .i64 k, .int .i64 a, .int .i64 sz, .int .i64 f, .int .i64 ln, .int .i64 x0, .int .i64 x1, .int .i64 x2, .int .i64 x3, .int .i64 x4, .int .i64 x5, .int .i64 x6, .int .i64 x7, .bool xb, .slice V vs.length vc] 33)
  have cX := cell_allocN W0 #[.int .i64 k, .int .i64 a, .int .i64 sz, .int .i64 f, .int .i64 ln, .int .i64 x0, .int .i64 x1, .int .i64 x2, .int .i64 x3, .int .i64 x4, .int .i64 x5, .int .i64 x6, .int .i64 x7, .bool xb, .slice V vs.length vc] 33
  rw [z0] at cX
  have z1 : (W0.alloc (.cells #[.int .i64 k, .int .i64 a, .int .i64 sz, .int .i64 f, .int .i64 ln, .int .i64 x0, .int .i64 x1, .int .i64 x2, .int .i64 x3, .int .i64 x4, .int .i64 x5, .int .i64 x6, .int .i64 x7, .bool xb, .slice V vs.length vc] 33)).heap.size = w.heap.size + 2 := by simp [z0]
  generalize hW1 : W0.alloc (.cells #[.int .i64 k, .int .i64 a, .int .i64 sz, .int .i64 f, .int .i64 ln, .int .i64 x0, .int .i64 x1, .int .i64 x2, .int .i64 x3, .int .i64 x4, .int .i64 x5, .int .i64 x6, .int .i64 x7, .bool xb, .slice V vs.length vc] 33) = W1 at b1 cX z1
  have bw1 : Below w.heap.size w W1 := b0.trans (b1.mono (by omega))
  have kf : ∀ X : World, Below W1.heap.size W1 X → X.cell? ⟨w.heap.size, 0, none⟩ = some (.string s) ∧ X.cell? ⟨w.heap.size, 1, none⟩ = some (.slice A l.length cap) ∧ X.cell? ⟨w.heap.size + 1, 0, none⟩ = some (.int .i64 k) ∧ X.cell? ⟨w.heap.size + 1, 1, none⟩ = some (.int .i64 a) ∧ X.cell? ⟨w.heap.size + 1, 2, none⟩ = some (.int .i64 sz) ∧ X.cell? ⟨w.heap.size + 1, 3, none⟩ = some (.int .i64 f) ∧ X.cell? ⟨w.heap.size + 1, 4, none⟩ = some (.int .i64 ln) ∧ X.cell? ⟨w.heap.size + 1, 5, none⟩ = some (.int .i64 x0) ∧ X.cell? ⟨w.heap.size + 1, 6, none⟩ = some (.int .i64 x1) ∧ X.cell? ⟨w.heap.size + 1, 7, none⟩ = some (.int .i64 x2) ∧ X.cell? ⟨w.heap.size + 1, 8, none⟩ = some (.int .i64 x3) ∧ X.cell? ⟨w.heap.size + 1, 9, none⟩ = some (.int .i64 x4) ∧ X.cell? ⟨w.heap.size + 1, 10, none⟩ = some (.int .i64 x5) ∧ X.cell? ⟨w.heap.size + 1, 11, none⟩ = some (.int .i64 x6) ∧ X.cell? ⟨w.heap.size + 1, 12, none⟩ = some (.int .i64 x7) ∧ X.cell? ⟨w.heap.size + 1, 13, none⟩ = some (.bool xb) ∧ X.cell? ⟨w.heap.size + 1, 14, none⟩ = some (.slice V vs.length vc) := fun X h => by
    have e := fun o => h.cell (p := ⟨w.heap.size + 1, o, none⟩) (show w.heap.size + 1 < W1.heap.size by omega)
    have e' := fun o => (h.cell (p := ⟨w.heap.size, o, none⟩) (show w.heap.size < W1.heap.size by omega)).trans (b1.cell (p := ⟨w.heap.size, o, none⟩) (show w.heap.size < W0.heap.size by omega))
    exact ⟨(e' 0).trans cC0, (e' 1).trans cC1, (e 0).trans (cX 0), (e 1).trans (cX 1), (e 2).trans (cX 2), (e 3).trans (cX 3), (e 4).trans (cX 4), (e 5).trans (cX 5), (e 6).trans (cX 6), (e 7).trans (cX 7), (e 8).trans (cX 8), (e 9).trans (cX 9), (e 10).trans (cX 10), (e 11).trans (cX 11), (e 12).trans (cX 12), (e 13).trans (cX 13), (e 14).trans (cX 14)⟩
  have kX : ∀ X : World, Below W1.heap.size W1 X → X.rangeAt (w.heap.size + 1) 0 [.int .i64 k, .int .i64 a, .int .i64 sz, .int .i64 f, .int .i64 ln, .int .i64 x0, .int .i64 x1, .int .i64 x2, .int .i64 x3, .int .i64 x4, .int .i64 x5, .int .i64 x6, .int .i64 x7, .bool xb, .slice V vs.length vc] := fun X h j v hv => by
    rw [Nat.zero_add]
    exact (h.cell (p := ⟨w.heap.size + 1, j, none⟩) (show w.heap.size + 1 < W1.heap.size by omega)).trans ((cX j).trans (by rw [List.getElem?_toArray]; exact hv))
  have bw : ∀ X : World, Below W1.heap.size W1 X → Below w.heap.size w X := fun X h => bw1.trans (h.mono (by omega))
  have r1 := Below.refl W1.heap.size W1
  obtain ⟨c0, c1, d0, d1, d2, d3, d4, d5, d6, d7, d8, d9, d10, d11, d12, d13, d14⟩ := kf W1 r1
  clear cX cC0 cC1 b0 b1
  go_enter Tryz.func29, Tryz.ntmps29
  go_wp2_with fail
  ((refine (hP W1).mono ?_); rintro e w2 ⟨rfl, hb2⟩)
  clear c0 c1 d0 d1 d2 d3 d4 d5 d6 d7 d8 d9 d10 d11 d12 d13 d14
  obtain ⟨c0, c1, d0, d1, d2, d3, d4, d5, d6, d7, d8, d9, d10, d11, d12, d13, d14⟩ := kf w2 hb2
  cases pb
  · go_wp2_with fail
    exact bodyPost_ret (results_tmp rfl _ _ _) rfl ⟨false, rfl, (fun h => by cases h), bw _ hb2⟩
  simp only [if_true] at hP
  have hex := hex rfl
  by_cases k1 : k = 1
  · have q1 : (k == 1) = true := by rw [k1]; rfl
    have hO1 : ∀ b, _ → O := fun b h => hO b rfl (fun _ => h)
    rw [← hex] at hO1
    have hU := unpackR_any p w2 hpl
    have hU2 := unpR_len p.data.toList
    have hU3 : ∀ v ∈ unpR p.data.toList, kHas .i64 v := fun v hv => by
      have := unpR_has _ v hv
      show -2 ^ 63 ≤ v ∧ v < 2 ^ 63
      omega
    have hps : p.data.toList.length = p.size := rfl
    rw [hps] at hU2
    clear hex hO hps k1
    generalize unpR p.data.toList = q at hO1 hU hU2 hU3
    go_wp2_with fail
    ((with_reducible refine hU.mono ?_); rintro e w3 ⟨A1, cap1, rfl, hA1, hcap1, hb3⟩)
    have B3 := hb2.trans (hb3.mono hb2.size)
    have hD := decR_any q A1 cap1 (it.tmod 16 != 0) w3 hA1 hU3 (by unfold maxLen; omega) (laid_below hw (bw _ B3))
    have hnum := decR_num (l := q) (it := (it.tmod 16 != 0))
    replace hO1 := hO1 (it.tmod 16 != 0)
    generalize decR q (it.tmod 16 != 0) = d at hD hO1 hnum
    obtain ⟨⟨z0, z1, z2, z3, z4, z5, z6, z7, zb⟩, m, er⟩ := d
    unfold RetD at hD
    dsimp only [Fields.val] at hD hO1 hnum
    clear c0 c1 d0 d1 d2 d3 d4 d5 d6 d7 d8 d9 d10 d11 d12 d13 d14 hU
    go_wp2_with fail
    ((with_reducible refine hD.mono ?_); rintro e w4 ⟨rfl, hb4⟩)
    have B4 := B3.trans (hb4.mono B3.size)
    obtain ⟨c0, c1, d0, d1, d2, d3, d4, d5, d6, d7, d8, d9, d10, d11, d12, d13, d14⟩ := kf w4 B4
    clear hD hU3
    have B5 : Below W1.heap.size W1 (w4.alloc (.cells #[.int .i64 z0, .int .i64 z1, .int .i64 z2, .int .i64 z3, .int .i64 z4, .int .i64 z5, .int .i64 z6, .int .i64 z7, .bool zb] 30)) := B4.alloc B4.size _
    have hlt4 : w.heap.size + 1 < w4.heap.size := by have := B4.size; omega
    have hnX : ¬ w.heap.size + 1 = w4.heap.size := by omega
    have hnX' : ¬ w4.heap.size = w.heap.size + 1 := by omega
    have hnC : ¬ w.heap.size = w4.heap.size := by omega
    by_cases he : er = 0
    · subst he
      have e1 : ((0 : Int) != 0) = false := rfl
      obtain ⟨nn, rfl, hn1, hn2, _⟩ := hnum rfl
      have hm2 : IntKind.i64.wrap (2 * (nn : Int)) = 2 * (nn : Int) := IntWalk.i64_in _ (by omega)
      by_cases hz : (⟨z0, z1, z2, z3, z4, z5, z6, z7, zb⟩ : Fields) = ⟨x0, x1, x2, x3, x4, x5, x6, x7, xb⟩
      · simp only [Fields.mk.injEq] at hz
        obtain ⟨rfl, rfl, rfl, rfl, rfl, rfl, rfl, rfl, rfl⟩ := hz
        have hq := eqB_yes (rfl : (⟨z0, z1, z2, z3, z4, z5, z6, z7, zb⟩ : Fields) = ⟨z0, z1, z2, z3, z4, z5, z6, z7, zb⟩)
        by_cases hs2 : 2 * (nn : Int) = sz
        · have e2 : (2 * (nn : Int) != sz) = false := by rw [hs2]; simp
          have hOf : (if ok = true then (if z0 = 40 ∨ z0 = 41 then decide (0 ≤ to ∧ to ≤ (s.size : Int)) else standsB s.size l to) else true) = true → O := fun h => hO1 ⟨by first | rfl | trivial, by first | rfl | trivial, hs2, h⟩
          clear hs2 hnum hO1
          by_cases ha : a.tmod 2 = 0
          · have e3 : (a.tmod 2 != 0) = false := by rw [ha]; rfl
            clear ha
            have hrg := kX _ B5
            go_wp2_with (refine wpList_load_mid rfl 33 (.tmp 4) rfl (w.heap.size + 1) 0 rfl _ _ hrg Tryz.underlying33 rfl (by kernel_rfl) ?_)
            dsimp only [List.toArray]
            ((with_reducible refine (hLd _).mono ?_); rintro e w6 ⟨rfl, hb6⟩)
            have B6 := B5.trans (hb6.mono B5.size)
            obtain ⟨⟨r0, r1, r2, r3, r4, r5, r6, r7, r8⟩, _⟩ := (InsAt.new w4 ⟨z0, z1, z2, z3, z4, z5, z6, z7, zb⟩ 30).below hb6 (by simp)
            simp only at r0 r1 r2 r3 r4 r5 r6 r7 r8
            clear c0 c1 d0 d1 d2 d3 d4 d5 d6 d7 d8 d9 d10 d11 d12 d13 d14 r1 r2 r3 r4 r5 r6 r7 r8 e1 e2 e3 hq hm2
            obtain ⟨c0, c1, -⟩ := kf w6 B6
            cases ok
            · have hr : O := hOf rfl
              go_wp2_with fail
              exact bodyPost_ret (results_tmp rfl _ _ _) rfl ⟨true, rfl, fun _ => hr, bw _ B6⟩
            by_cases h40 : z0 = 40
            · have q40 : (z0 == 40) = true := by rw [h40]; rfl
              by_cases t0 : 0 ≤ to
              · have u0 : decide (0 ≤ to) = true := decide_eq_true t0
                by_cases t1 : to ≤ (s.size : Int)
                · have u1 : decide (to ≤ (s.size : Int)) = true := decide_eq_true t1
                  have hr : O := hOf (by rw [if_pos rfl, if_pos (.inl h40)]; exact decide_eq_true ⟨t0, t1⟩)
                  clear h40
                  go_wp2_with fail
                  exact bodyPost_ret (results_tmp rfl _ _ _) rfl ⟨true, rfl, fun _ => hr, bw _ B6⟩
                · have u1 : decide (to ≤ (s.size : Int)) = false := decide_eq_false t1
                  clear h40
                  go_wp2_with fail
                  exact bodyPost_ret (results_tmp rfl _ _ _) rfl ⟨false, rfl, (fun h => by cases h), bw _ B6⟩
              · have u0 : decide (0 ≤ to) = false := decide_eq_false t0
                clear h40
                go_wp2_with fail
                exact bodyPost_ret (results_tmp rfl _ _ _) rfl ⟨false, rfl, (fun h => by cases h), bw _ B6⟩
            have q40 : (z0 == 40) = false := by simpa using h40
            by_cases h41 : z0 = 41
            · have q41 : (z0 == 41) = true := by rw [h41]; rfl
              by_cases t0 : 0 ≤ to
              · have u0 : decide (0 ≤ to) = true := decide_eq_true t0
                by_cases t1 : to ≤ (s.size : Int)
                · have u1 : decide (to ≤ (s.size : Int)) = true := decide_eq_true t1
                  have hr : O := hOf (by rw [if_pos rfl, if_pos (.inr h41)]; exact decide_eq_true ⟨t0, t1⟩)
                  clear h40 h41
                  go_wp2_with fail
                  exact bodyPost_ret (results_tmp rfl _ _ _) rfl ⟨true, rfl, fun _ => hr, bw _ B6⟩
                · have u1 : decide (to ≤ (s.size : Int)) = false := decide_eq_false t1
                  clear h40 h41
                  go_wp2_with fail
                  exact bodyPost_ret (results_tmp rfl _ _ _) rfl ⟨false, rfl, (fun h => by cases h), bw _ B6⟩
              · have u0 : decide (0 ≤ to) = false := decide_eq_false t0
                clear h40 h41
                go_wp2_with fail
                exact bodyPost_ret (results_tmp rfl _ _ _) rfl ⟨false, rfl, (fun h => by cases h), bw _ B6⟩
            have q41 : (z0 == 41) = false := by simpa using h41
            have hr : standsB s.size l to = true → O := fun h => hOf (by rw [if_pos rfl, if_neg (by rintro (h | h) <;> contradiction)]; exact h)
            have hS := hSt to w6 (bw _ B6)
            generalize standsB s.size l to = sb at hr hS
            clear h40 h41
            go_wp2_with fail
            ((with_reducible refine hS.mono ?_); rintro e w7 ⟨rfl, hb7⟩)
            go_wp2_with fail
            exact bodyPost_ret (results_tmp rfl _ _ _) rfl ⟨sb, rfl, hr, bw _ (B6.trans (hb7.mono B6.size))⟩
          · have e3 : (a.tmod 2 != 0) = true := by simpa using ha
            clear ha
            go_wp2_with fail
            exact bodyPost_ret (results_tmp rfl _ _ _) rfl ⟨false, rfl, (fun h => by cases h), bw _ B5⟩
        · have e2 : (2 * (nn : Int) != sz) = true := by simpa using hs2
          clear hs2
          go_wp2_with fail
          exact bodyPost_ret (results_tmp rfl _ _ _) rfl ⟨false, rfl, (fun h => by cases h), bw _ B5⟩
      · have hq := eqB_no hz
        clear hz
        go_wp2_with fail
        exact bodyPost_ret (results_tmp rfl _ _ _) rfl ⟨false, rfl, (fun h => by cases h), bw _ B5⟩
    · have e1 : (er != 0) = true := by simpa using he
      clear he
      go_wp2_with fail
      exact bodyPost_ret (results_tmp rfl _ _ _) rfl ⟨false, rfl, (fun h => by cases h), bw _ B5⟩
  have q1 : (k == 1) = false := by simpa using k1
  have hOk : O := hO true rfl (fun h => absurd h k1)
  by_cases k4 : k = 4
  · have q4 : (k == 4) = true := by rw [k4]; rfl
    clear k4 k1
    go_wp2_with fail
    ((with_reducible refine (hPool p hpl w2 (bw _ hb2)).mono ?_); rintro e w3 ⟨⟨r, rfl⟩, hb3⟩)
    go_wp2_with fail
    exact bodyPost_ret (results_tmp rfl _ _ _) rfl ⟨r, rfl, fun _ => hOk, bw _ (hb2.trans (hb3.mono hb2.size))⟩
  have q4 : (k == 4) = false := by simpa using k4
  by_cases k3 : k = 3
  · have q3 : (k == 3) = true := by rw [k3]; rfl
    clear k3 k4 k1
    go_wp2_with fail
    go_loopw [14] (fun c wr => ∃ i : Nat, i ≤ p.size ∧ c = .int .i64 i ∧ wr = w2) (fun c _ => p.size - (intOf c).toNat)
    case atStart => exact ⟨0, by omega, rfl, rfl⟩
    case round =>
      obtain ⟨i, hi, rfl, rfl⟩ := hrel
      by_cases hlt : i < p.size
      · have hk0 : (0 : Int) ≤ (i : Int) := by omega
        have hkl : (i : Int) < (p.size : Int) := by omega
        cases he : ((p[i].toNat : Int) != 0)
        · go_wp2_with fail
          go_roundw
          case rel => exact ⟨i + 1, by omega, by go_num, trivial⟩
          case measure => simp [intOf]; omega
        · go_wp2_with fail
          exact bodyPost_ret (results_tmp rfl _ _ _) rfl ⟨false, rfl, (fun h => by cases h), bw _ hb2⟩
      · have e : i = p.size := by omega
        subst e
        go_wp2_with fail
        exact bodyPost_ret (results_tmp rfl _ _ _) rfl ⟨true, rfl, fun _ => hOk, bw _ hb2⟩
  have q3 : (k == 3) = false := by simpa using k3
  go_wp2_with fail
  exact bodyPost_ret (results_tmp rfl _ _ _) rfl ⟨true, rfl, fun _ => hOk, bw _ hb2⟩
end Go.Proofs.YtdeelhbckfmaeaaGreatDoor
/- For the seat: the reference's Ranges and Check: what is so where they say yes. -/
namespace Go.Proofs.YtdeelhbckfmaeaaGreatDoor
open Go.Sx Go.ChangeShapes Go.WideShapes Go.RowKit Go.Joins Go.Deep

set_option maxRecDepth 100000 in
set_option maxHeartbeats 4000000 in
theorem rangR_any (s : ByteArray) (l : List Itm) (A : Option Addr) (cap : Nat) (w : World) (hA : ItAt w w.heap.size A l) (hl : l.length ≤ maxLen) (hs : s.size ≤ 4000000000) (hk : ∀ y ∈ l, y.Ok) (hvb : ∀ y ∈ l, y.vs.length ≤ 1000000000) (hw : Laid w) :
    Calls Tryz.prog 16 #[.agg #[.string s, .slice A l.length cap]] w fun e w' => ∃ r, e = .returned (.bool r) ∧ (r = true → ∀ y ∈ l, oneP s l y) ∧ Below w.heap.size w w' := by
  have hl0 := hl
  unfold maxLen at hl
  have b0 : Below w.heap.size w (w.alloc (.cells #[.string s, .slice A l.length cap] 24)) := (Below.refl _ _).alloc (Nat.le_refl _) _
  have c0 : (w.alloc (.cells #[.string s, .slice A l.length cap] 24)).cell? ⟨w.heap.size, 0, none⟩ = some (.string s) := cell_allocN _ _ _ 0
  have c01 : (w.alloc (.cells #[.string s, .slice A l.length cap] 24)).cell? ⟨w.heap.size, 1, none⟩ = some (.slice A l.length cap) := cell_allocN _ _ _ 1
  have hsz : (w.alloc (.cells #[.string s, .slice A l.length cap] 24)).heap.size = w.heap.size + 1 := by simp
  generalize hW : w.alloc (.cells #[.string s, .slice A l.length cap] 24) = W0 at b0 c0 c01 hsz
  go_enter Tryz.func16, Tryz.ntmps16
  go_wp2
  go_loopw [3, 4] (fun p c wr => ∃ (i : Nat) (q : Int), i ≤ l.length ∧ c = .int .i64 i ∧ p = .int .i64 q ∧ Hid (kHas .i64 q ∧ ∀ y ∈ l.take i, oneP s l y) ∧ Below W0.heap.size W0 wr) (fun _ c _ => l.length - (intOf c).toNat)
  case atStart => exact ⟨0, 0, by omega, rfl, rfl, Lib.hid ⟨zero_has, fun y hy => by simp at hy⟩, Below.refl _ _⟩
  case round =>
    obtain ⟨i, q, hi, rfl, rfl, HD, hbr⟩ := hrel
    have kc : ∀ X : World, Below W0.heap.size W0 X → X.cell? ⟨w.heap.size, 0, none⟩ = some (.string s) ∧ X.cell? ⟨w.heap.size, 1, none⟩ = some (.slice A l.length cap) := fun X h => ⟨(h.cell (p := ⟨w.heap.size, 0, none⟩) (by show w.heap.size < W0.heap.size; omega)).trans c0, (h.cell (p := ⟨w.heap.size, 1, none⟩) (by show w.heap.size < W0.heap.size; omega)).trans c01⟩
    have hbw : Below w.heap.size w wr := b0.trans (hbr.mono (by omega))
    have hwz : w.heap.size < wr.heap.size := by have := hbr.size; omega
    by_cases hlt : i < l.length
    · obtain ⟨g, off, rfl, hg, hc⟩ := (hA.below hbw (Nat.le_refl _)).at_ hlt
      have hk0 : (0 : Int) ≤ (i : Int) := by omega
      have hkl : (i : Int) < (l.length : Int) := by omega
      have IN := itIn_of hc
      have hy := hk l[i] (List.getElem_mem hlt)
      have hone : ∀ W : World, Below w.heap.size w W → _ := fun W h => oneR_any s l (some ⟨g, off, none⟩) cap l[i] q W ((hA.below h (Nat.le_refl _)).more h.size) hl0 hs hy (((hA.2 l[i] (List.getElem_mem hlt)).below h (Nat.le_refl _)).more h.size) (hvb l[i] (List.getElem_mem hlt)) (laid_below hw h)
      have hpre := HD.out.2
      have hnext : ∀ q', kHas .i64 q' → oneP s l l[i] → Hid (kHas .i64 q' ∧ ∀ y ∈ l.take (i + 1), oneP s l y) := fun q' h' ho => Lib.hid ⟨h', fun y hy => by
        rw [List.take_succ_eq_append_getElem hlt] at hy
        rcases List.mem_append.1 hy with hy | hy
        · exact hpre y hy
        · simp only [List.mem_cons, List.not_mem_nil, or_false] at hy
          subst hy
          exact ho⟩
      have haf := fun (W : World) (hW : Laid W) => (aft_r HD.out.1 hy.x).go (w := W) hW
      have hah := aft_has HD.out.1 hy.x
      have hq0 := HD.out.1
      clear hc hpre HD
      generalize oneP s l l[i] = O at hone hnext
      generalize l[i] = y at IN hy hone hnext haf hah
      obtain ⟨k, a, sz, f, ln, x, V, vc, vs⟩ := y
      obtain ⟨x0, x1, x2, x3, x4, x5, x6, x7, xb⟩ := x
      have kS : ∀ w' : World, Below wr.drew.heap.size wr.drew w' → (w'.cell? ⟨w.heap.size, 0, none⟩ = some (.string s) ∧ w'.cell? ⟨w.heap.size, 1, none⟩ = some (.slice (some ⟨g, off, none⟩) l.length cap) ∧ w'.cell? ⟨g, off + i * 15, none⟩ = some (.int .i64 k) ∧ w'.cell? ⟨g, off + i * 15 + 1, none⟩ = some (.int .i64 a) ∧ w'.cell? ⟨g, off + i * 15 + 2, none⟩ = some (.int .i64 sz) ∧ w'.cell? ⟨g, off + i * 15 + 3, none⟩ = some (.int .i64 f) ∧ w'.cell? ⟨g, off + i * 15 + 4, none⟩ = some (.int .i64 ln) ∧ w'.cell? ⟨g, off + i * 15 + 5, none⟩ = some (.int .i64 x0) ∧ w'.cell? ⟨g, off + i * 15 + 6, none⟩ = some (.int .i64 x1) ∧ w'.cell? ⟨g, off + i * 15 + 7, none⟩ = some (.int .i64 x2) ∧ w'.cell? ⟨g, off + i * 15 + 8, none⟩ = some (.int .i64 x3) ∧ w'.cell? ⟨g, off + i * 15 + 9, none⟩ = some (.int .i64 x4) ∧ w'.cell? ⟨g, off + i * 15 + 10, none⟩ = some (.int .i64 x5) ∧ w'.cell? ⟨g, off + i * 15 + 11, none⟩ = some (.int .i64 x6) ∧ w'.cell? ⟨g, off + i * 15 + 12, none⟩ = some (.int .i64 x7) ∧ w'.cell? ⟨g, off + i * 15 + 13, none⟩ = some (.bool xb) ∧ w'.cell? ⟨g, off + i * 15 + 14, none⟩ = some (.slice V vs.length vc)) := fun w' h => by
        obtain ⟨a1, a2⟩ := kc w' (hbr.drew.trans (h.mono hbr.size))
        have h2 : Below wr.heap.size wr w' := (Below.refl wr.heap.size wr).drew.trans h
        exact ⟨a1, a2, IN.below h2 (Nat.lt_of_lt_of_le hg hbw.size)⟩
      obtain ⟨c1, c2⟩ := kc wr hbr
      obtain ⟨p0, p1, p2, p3, p4, p5, p6, p7, p8, p9, p10, p11, p12, p13, p14⟩ := IN
      dsimp only at p0 p1 p2 p3 p4 p5 p6 p7 p8 p9 p10 p11 p12 p13 p14
      dsimp only [Itm.val, Itm.cells] at hone haf hah
      go_wp2_with fail
      go_region_held3 (fun w' => w'.cell? ⟨w.heap.size, 0, none⟩ = some (.string s) ∧ w'.cell? ⟨w.heap.size, 1, none⟩ = some (.slice (some ⟨g, off, none⟩) l.length cap) ∧ w'.cell? ⟨g, off + i * 15, none⟩ = some (.int .i64 k) ∧ w'.cell? ⟨g, off + i * 15 + 1, none⟩ = some (.int .i64 a) ∧ w'.cell? ⟨g, off + i * 15 + 2, none⟩ = some (.int .i64 sz) ∧ w'.cell? ⟨g, off + i * 15 + 3, none⟩ = some (.int .i64 f) ∧ w'.cell? ⟨g, off + i * 15 + 4, none⟩ = some (.int .i64 ln) ∧ w'.cell? ⟨g, off + i * 15 + 5, none⟩ = some (.int .i64 x0) ∧ w'.cell? ⟨g, off + i * 15 + 6, none⟩ = some (.int .i64 x1) ∧ w'.cell? ⟨g, off + i * 15 + 7, none⟩ = some (.int .i64 x2) ∧ w'.cell? ⟨g, off + i * 15 + 8, none⟩ = some (.int .i64 x3) ∧ w'.cell? ⟨g, off + i * 15 + 9, none⟩ = some (.int .i64 x4) ∧ w'.cell? ⟨g, off + i * 15 + 10, none⟩ = some (.int .i64 x5) ∧ w'.cell? ⟨g, off + i * 15 + 11, none⟩ = some (.int .i64 x6) ∧ w'.cell? ⟨g, off + i * 15 + 12, none⟩ = some (.int .i64 x7) ∧ w'.cell? ⟨g, off + i * 15 + 13, none⟩ = some (.bool xb) ∧ w'.cell? ⟨g, off + i * 15 + 14, none⟩ = some (.slice V vs.length vc))
        (first
          | (with_reducible exact kS _ hb4)
          | go_keep)
        (first
          | (go_at_call 29; refine (hone _ hbw.drew).mono ?_; rintro e w4 ⟨r4, rfl, hr4, hb4⟩))
      have hB4 : Below W0.heap.size W0 w4 := hbr.drew.trans (hb4.mono hbr.size)
      have hBw : Below w.heap.size w w4 := b0.trans (hB4.mono (by omega))
      clear c1 c2 p0 p1 p2 p3 p4 p5 p6 p7 p8 p9 p10 p11 p12 p13 p14
      obtain ⟨c1, c2, p0, p1, p2, p3, p4, p5, p6, p7, p8, p9, p10, p11, p12, p13, p14⟩ := kS w4 hb4
      cases r4
      · go_wp2_with fail
        exact bodyPost_ret (results_tmp rfl _ _ _) rfl ⟨false, rfl, (fun h => by cases h), hBw⟩
      · have ho := hr4 rfl
        by_cases k1 : k = 1
        · have q1 : (k == 1) = true := by rw [k1]; rfl
          have HN := hnext _ hah ho
          have haf4 := haf w4 (laid_below hw hBw)
          clear k1 hnext ho hah haf hr4 hone kc hq0
          generalize aftI q ⟨x0, x1, x2, x3, x4, x5, x6, x7, xb⟩ = q' at haf4 HN
          dsimp only [Fields.val] at haf4
          go_wp2_with fail
          ((with_reducible refine haf4.mono ?_); rintro e w5 ⟨rfl, hb5⟩)
          have hB5 := hB4.trans (hb5.mono hB4.size)
          go_wp2_with fail
          go_roundw
          case rel => exact ⟨i + 1, q', by omega, by go_num, rfl, HN, hB5⟩
          case measure => simp [intOf]; omega
        · have q1 : (k == 1) = false := by simpa using k1
          have HN := hnext q hq0 ho
          clear k1 hnext ho hah haf hr4 hone kc
          go_wp2_with fail
          go_roundw
          case rel => exact ⟨i + 1, q, by omega, by go_num, rfl, HN, hB4⟩
          case measure => simp [intOf]; omega
    · have e : i = l.length := by omega
      obtain ⟨c1, c2⟩ := kc wr hbr
      subst e
      have hd := HD.out.2
      rw [List.take_length] at hd
      go_wp2
      exact bodyPost_ret (results_tmp rfl _ _ _) rfl ⟨true, rfl, fun _ => hd, hbw⟩

/-- An image is as the reference asks. -/
def goodR (s : ByteArray) (l : List Itm) : Prop := disjB s.size 0 l = true ∧ ∀ y ∈ l, oneP s l y

set_option maxRecDepth 100000 in
set_option maxHeartbeats 1000000 in
theorem checkR_any (s : ByteArray) (l : List Itm) (A : Option Addr) (cap : Nat) (w : World) (hA : ItAt w w.heap.size A l) (hl : l.length ≤ maxLen) (hs : s.size ≤ 4000000000) (hk : ∀ y ∈ l, y.Ok) (hvb : ∀ y ∈ l, y.vs.length ≤ 1000000000) (hw : Laid w) :
    Calls Tryz.prog 7 #[.agg #[.string s, .slice A l.length cap]] w fun e w' => ∃ r, e = .returned (.bool r) ∧ (r = true → goodR s l) ∧ Below w.heap.size w w' := by
  have hD := fun (W : World) (h : Below w.heap.size w W) => disjR_any s l A cap W ((hA.below h (Nat.le_refl _)).more h.size) hl (by unfold maxLen; omega) hk
  have hR := fun (W : World) (h : Below w.heap.size w W) => rangR_any s l A cap W ((hA.below h (Nat.le_refl _)).more h.size) hl hs hk hvb (laid_below hw h)
  have hO : disjB s.size 0 l = true → (∀ y ∈ l, oneP s l y) → goodR s l := fun h1 h2 => ⟨h1, h2⟩
  generalize goodR s l = O at hO ⊢
  generalize (∀ y ∈ l, oneP s l y) = R at hR hO
  generalize disjB s.size 0 l = d at hD hO
  have b0 := (Below.refl w.heap.size w).alloc (Nat.le_refl _) (.cells #[.string s, .slice A l.length cap] 24)
  have c0 : (w.alloc (.cells #[.string s, .slice A l.length cap] 24)).cell? ⟨w.heap.size, 0, none⟩ = some (.string s) := cell_allocN _ _ _ 0
  have c1 : (w.alloc (.cells #[.string s, .slice A l.length cap] 24)).cell? ⟨w.heap.size, 1, none⟩ = some (.slice A l.length cap) := cell_allocN _ _ _ 1
  have hsz : (w.alloc (.cells #[.string s, .slice A l.length cap] 24)).heap.size = w.heap.size + 1 := by simp
  generalize hW : w.alloc (.cells #[.string s, .slice A l.length cap] 24) = W0 at b0 c0 c1 hsz
  go_enter Tryz.func7, Tryz.ntmps7
  go_wp2_with fail
  ((with_reducible refine (hD W0 b0).mono ?_); rintro e w1 ⟨rfl, hb1⟩)
  have B1 := b0.trans (hb1.mono b0.size)
  have d0 := (hb1.cell (p := ⟨w.heap.size, 0, none⟩) (by show w.heap.size < W0.heap.size; omega)).trans c0
  have d1 := (hb1.cell (p := ⟨w.heap.size, 1, none⟩) (by show w.heap.size < W0.heap.size; omega)).trans c1
  cases d
  · go_wp2_with fail
    exact bodyPost_ret (results_tmp rfl _ _ _) rfl ⟨false, rfl, (fun h => by cases h), B1⟩
  · go_wp2_with fail
    ((with_reducible refine (hR w1 B1).mono ?_); rintro e w2 ⟨r, rfl, hr, hb2⟩)
    have hf : r = true → O := fun h => hO (by first | rfl | trivial) (hr h)
    go_wp2_with fail
    exact bodyPost_ret (results_tmp rfl _ _ _) rfl ⟨r, rfl, hf, B1.trans (hb2.mono B1.size)⟩
end Go.Proofs.YtdeelhbckfmaeaaGreatDoor
/- For the seat: both ways to say the place that an item leads to are one, where items stand within an image. -/
namespace Go.Proofs.YtdeelhbckfmaeaaGreatDoor
open Go.Sx Go.ChangeShapes Go.WideShapes Go.RowKit Go.Joins Go.Deep

set_option maxRecDepth 100000 in
theorem and_fours (x : Nat) (hx : x < 4294967296) : x &&& 18446744073709551612 = x - x % 4 := by
  apply Nat.eq_of_testBit_eq
  intro i
  rw [Nat.testBit_and]
  match i with
  | 0 =>
    have h1 : Nat.testBit 18446744073709551612 0 = false := by decide
    have h2 : (x - x % 4).testBit 0 = false := by
      rw [Nat.testBit_zero]
      have : (x - x % 4) % 2 = 0 := by omega
      simp [this]
    rw [h1, h2, Bool.and_false]
  | 1 =>
    have h1 : Nat.testBit 18446744073709551612 1 = false := by decide
    have h2 : (x - x % 4).testBit 1 = false := by
      rw [show (1 : Nat) = 0 + 1 from rfl, Nat.testBit_succ, Nat.testBit_zero]
      have : (x - x % 4) / 2 % 2 = 0 := by omega
      simp [this]
    rw [h1, h2, Bool.and_false]
  | i + 2 =>
    have h1 : Nat.testBit 18446744073709551612 (i + 2) = decide (i < 62) := by
      rw [show i + 2 = i + 1 + 1 from rfl, Nat.testBit_succ, Nat.testBit_succ, show 18446744073709551612 / 2 / 2 = 2 ^ 62 - 1 by decide, Nat.testBit_two_pow_sub_one]
    have h2 : (x - x % 4).testBit (i + 2) = x.testBit (i + 2) := by
      rw [show i + 2 = i + 1 + 1 from rfl, Nat.testBit_succ, Nat.testBit_succ, Nat.testBit_succ, Nat.testBit_succ, show (x - x % 4) / 2 / 2 = x / 2 / 2 by omega]
    rw [h1, h2]
    by_cases hi : i < 62
    · simp [hi]
    · have : x.testBit (i + 2) = false := Nat.testBit_lt_two_pow (Nat.lt_of_lt_of_le hx (by
        have : 2 ^ 32 ≤ 2 ^ (i + 2) := Nat.pow_le_pow_right (by omega) (by omega)
        simpa using this))
      simp [hi, this]

set_option maxRecDepth 100000 in
theorem i64_andNot3 (x : Nat) (hx : x < 4294967296) : bits .andNot .i64 (x : Int) 3 = ((x - x % 4 : Nat) : Int) := by
  show IntKind.i64.wrap ((BitVec.ofInt 64 (x : Int) &&& ~~~BitVec.ofInt 64 3).toNat : Int) = _
  have h1 : (BitVec.ofInt 64 3).toNat = 3 := by decide
  have h2 : (BitVec.ofInt 64 (x : Int)).toNat = x := by
    rw [BitVec.toNat_ofInt]
    omega
  rw [BitVec.toNat_and, BitVec.toNat_not, h2, h1, show 2 ^ 64 - 1 - 3 = 18446744073709551612 by decide, and_fours x hx]
  exact IntWalk.i64_in _ (by omega)

set_option maxRecDepth 100000 in
theorem leadsR_eq {y : Itm} (h0 : 0 ≤ y.a) (h1 : y.a ≤ 4000000000) : leadsR y = leadsP y := by
  unfold leadsR leadsP
  by_cases hk : y.k = 1
  · rw [if_pos hk, if_pos hk]
    by_cases h : y.x.x0 = 35 ∨ y.x.x0 = 36 ∨ y.x.x0 = 37 ∨ y.x.x0 = 38
    · rw [if_pos h, if_neg (by omega), if_pos h]
    · rw [if_neg h]
      by_cases h4 : y.x.x0 = 40 ∨ y.x.x0 = 41
      · rw [if_pos h4, if_pos h4]
        obtain ⟨n, hn⟩ := Int.eq_ofNat_of_zero_le h0
        have e1 : wrap64 (y.a + 4) = ((n + 4 : Nat) : Int) := by
          rw [← IntWalk.i64_left, hn]
          exact IntWalk.i64_in _ (by omega)
        have e2 : wrap64 ((((n + 4 : Nat) : Int)).tdiv 4) = (((n + 4) / 4 : Nat) : Int) := by
          rw [← IntWalk.i64_left, IntWalk.i64_in _ (by rw [Int.tdiv_eq_ediv_of_nonneg (by omega)]; omega), Int.tdiv_eq_ediv_of_nonneg (by omega)]
          rfl
        have e3 : wrap64 ((((n + 4) / 4 : Nat) : Int) * 4) = ((n + 4 - (n + 4) % 4 : Nat) : Int) := by
          rw [← IntWalk.i64_left, IntWalk.i64_in _ (by omega)]
          omega
        rw [e1, e2, e3, i64_andNot3 (n + 4) (by omega)]
      · rw [if_neg h4, if_neg h4, if_neg h]
  · rw [if_neg hk, if_neg hk]

set_option maxRecDepth 100000 in
/-- What items lead to stands within the image. -/
theorem led_in {s : ByteArray} {l : List Itm} (hg : goodR s l) (hs : s.size ≤ 4000000000) {y : Itm} (hy : y ∈ l) (h2 : (leadsP y).2 = true) : leadsR y = leadsP y ∧ 0 ≤ (leadsP y).1 ∧ (leadsP y).1 ≤ (s.size : Int) := by
  have place : ∀ z ∈ l, 0 ≤ z.a ∧ z.a ≤ (s.size : Int) := fun z hz => by
    have h := of_decide_eq_true ((hg.2 z hz).1)
    omega
  have he : leadsR y = leadsP y := leadsR_eq (place y hy).1 (by have := (place y hy).2; omega)
  refine ⟨he, ?_⟩
  have hk : y.k = 1 := by
    by_cases hk : y.k = 1
    · exact hk
    · unfold leadsP at h2
      rw [if_neg hk] at h2
      cases h2
  obtain ⟨b, _, _, _, hl⟩ := (hg.2 y hy).2 hk
  unfold ledB at hl
  rw [he, if_pos h2] at hl
  split at hl
  · exact of_decide_eq_true hl
  · unfold standsB at hl
    rcases Bool.or_eq_true_iff.1 hl with h | h
    · have := eq_of_beq h
      omega
    · obtain ⟨z, hz, hza⟩ := List.any_eq_true.1 h
      have := eq_of_beq hza
      have := place z hz
      omega
end Go.Proofs.YtdeelhbckfmaeaaGreatDoor
