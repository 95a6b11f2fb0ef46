/- For the seat: texts joined: RqLi. -/
import Derived.Test.YtpdkpkabdkefcaaGreatDoorJAj
import Derived.Test.YtpdkpkabdkefcaaGreatDoorJAq
set_option maxRecDepth 100000
namespace Go.Proofs.YtpdkpkabdkefcaaGreatDoor
open Go.Sx Go.ChangeShapes Go.WideShapes Go.RowKit Go.Joins Go.Deep Go.Rp
set_option maxHeartbeats 8000000 in
theorem dirC (T : List Tok) (hT : T.length ≤ 900000) (hT2 : ∀ t ∈ T, t.t.length ≤ 1000000000000) (hne : T ≠ []) (A : Option Addr) (cap : Nat) (w : World) (hA : RAt tokE w w.heap.size A T)(hw : ¬ 0 < sizeP (tokA T 0).t ∧ (tokA T 0).t = [46, 101, 113, 117]) :
    Calls Tryz.prog 77 #[.slice A T.length cap] w (DirPost (dirP T) w) := by
  have hR0 : dirP T = (if (equT T).e = 0 then finD T (stTerm T (equT T, { lw0 with k := 6, ref := nameV T ⟨1, 0⟩ })) else (lw0, true, 3)) := by
    unfold dirP
    rw [if_neg hw.1, if_neg (by rw [hw.2]; decide), if_pos hw.2]
  generalize dirP T = R at hR0
  have HR0 := Lib.hid hR0
  clear hR0
  obtain ⟨t0, T1, hTc⟩ : ∃ t0 T1, T = t0 :: T1 := by cases T with | nil => exact absurd rfl hne | cons a l => exact ⟨a, l, rfl⟩
  have ht0 : tokA T 0 = t0 := by rw [hTc]; rfl
  have hlen : 1 ≤ T.length := by rw [hTc]; simp
  obtain ⟨g0, off, rfl, hg0, hc0⟩ := hA.at_ (k := 0) (by omega)
  have cw : w.cell? ⟨g0, off + 2, none⟩ = some (.string (tx t0.t)) := by
    have h := hc0 2 (.string (tx t0.t)) (by have : T[0]'(by omega) = t0 := by simp only [hTc]; rfl
                                            rw [this]; rfl)
    simpa using h
  clear hc0 hTc T1
  rw [ht0] at hw
  try rw [ht0] at HR0
  clear ht0
  generalize t0.t = s at cw hw HR0
  clear t0
  have HW := Lib.hid hw
  clear hw
  obtain ⟨W1, hW1⟩ : ∃ W1, Hid (W1 = w.alloc (.cells lwZ 49)) := ⟨_, Lib.hid rfl⟩
  have b1 : Below w.heap.size w W1 := by rw [hW1.out]; exact (Below.refl _ _).alloc (Nat.le_refl _) _
  have hz1 : W1.heap[w.heap.size]? = some (.cells lwZ 49 (0, 0)) := by rw [hW1.out]; exact heap_alloc_new w _
  have hs1 : W1.heap.size = w.heap.size + 1 := by rw [hW1.out]; simp
  have cw1 : W1.cell? ⟨g0, off + 2, none⟩ = some (.string (tx s)) := (b1.cell (p := ⟨g0, off + 2, none⟩) hg0).trans cw
  have hs2 : (W1.alloc (.cells #[.slice (some ⟨g0, off, none⟩) T.length cap, .int .i64 1, .int .i64 0] 117)).heap.size = w.heap.size + 2 := by simp [hs1]
  have hn3 := heap_alloc_new (W1.alloc (.cells #[.slice (some ⟨g0, off, none⟩) T.length cap, .int .i64 1, .int .i64 0] 117)) (.cells lwZ 49)
  rw [hs2] at hn3
  have hth := there_of hn3
  obtain ⟨V, hV⟩ : ∃ V, Hid (V = ((W1.alloc (.cells #[.slice (some ⟨g0, off, none⟩) T.length cap, .int .i64 1, .int .i64 0] 117)).alloc (.cells lwZ 49)).setCells (w.heap.size + 2) 0 lwZ.toList) := ⟨_, Lib.hid rfl⟩
  have b2 : Below W1.heap.size W1 V := by rw [hV.out]; exact below_setCells (((Below.refl _ _).alloc (Nat.le_refl _) _).alloc (by simp) _) (by omega) _
  have bV : Below w.heap.size w V := b1.trans (b2.mono b1.size)
  have hzV : V.heap[w.heap.size]? = some (.cells lwZ 49 (0, 0)) := (b2.block _ (by omega)).trans hz1
  have hsV : V.heap.size = w.heap.size + 3 := by rw [hV.out, (setCells_heap _ _ _ _).2.1]; simp [hs1]
  have hbg : w.heap.size + 1 < w.heap.size + 2 := by omega
  have F0 : Fill T (w.heap.size + 1) (w.heap.size + 2) (some ⟨g0, off, none⟩) cap V V (⟨1, 0⟩, lw0) := by
    refine ⟨⟨?_, (hA.below bV (Nat.le_refl _)).more (by omega)⟩, ⟨_, _, _, _, ?_, exAt0 _ _⟩, hlen, Stay2.refl _ _ _⟩
    · rw [hV.out, (setCells_heap _ _ _ _).1 _ (by omega)]
      have h := alloc_blk (heap_alloc_new W1 (.cells #[.slice (some ⟨g0, off, none⟩) T.length cap, .int .i64 1, .int .i64 0] 117)) (.cells lwZ 49)
      rw [hs1] at h
      exact h
    · rw [hV.out]; exact setCells_all hn3 lwZ.toList rfl
  clear hz1 b2
  go_enter Tryz.func77, Tryz.ntmps77
  go_wp2_with (first
    | (refine wpList_allocW rfl (.cells lwZ 49) w.heap.size rfl (alloc_line _ _ _ _ _ _) ?_; rw [← hW1.out])
    | (refine wpList_allocW rfl (.cells lwZ 49) (w.heap.size + 2) hs2 (alloc_line _ _ _ _ _ _) ?_; refine wpList_store_mid rfl 49 (.tmp 7) (.tmp 17) rfl (w.heap.size + 2) 0 lwZ (by rfl) (by rfl) hth (by kernel_rfl) (lwC_one _ _ _ _ _ _ _) ?_; rw [← hV.out]))
  clear hn3 hth hs2 hV hW1 cw1 hs1 b1
  have hw := HW.out
  clear HW
  have z1 : decide (0 < sizeP s) = false := decide_eq_false (by have := hw.1; omega)
  have z2 : (s == [46, 108, 116, 111, 114, 103]) = false := by rw [hw.2]; decide
  have z3 : (s == [46, 101, 113, 117]) = true := by rw [hw.2]; decide
  clear hw
  obtain ⟨a1, a2, a3, a4, a5, a6, a7, a8, a9, a10⟩ := F0.ci
  obtain ⟨a12, a14⟩ := F0.ln.c1214
  have zz := fun j => F0.ln.fz j
  have F1 := F0.setK hbg 6
  ((with_reducible refine (size19 _ _).mono ?_); rintro e w1 ⟨rfl, hw1⟩); rw [hw1]; clear hw1 w1
  generalize sizeP s = z at z1 ⊢
  have hE : equT T = (if (nameT T ⟨1, 0⟩).e = 0 ∧ isS (tokA T (nameT T ⟨1, 0⟩).i) [44] = false then ⟨(nameT T ⟨1, 0⟩).i + 1, 3⟩ else ⟨(nameT T ⟨1, 0⟩).i + 1, (nameT T ⟨1, 0⟩).e⟩ : Rs) := rfl
  have hN3 : (nameT T ⟨1, 0⟩).e = 0 ∨ (nameT T ⟨1, 0⟩).e = 3 := by
    unfold nameT badS
    split
    · exact .inl rfl
    · exact .inr rfl
  have hnm : Calls Tryz.prog 107 #[.pointer (some ⟨w.heap.size + 1, 0, none⟩)] (V.setCell ⟨w.heap.size + 2, 1, none⟩ (.int .i64 6)) (FillV T (w.heap.size + 1) (w.heap.size + 2) (some ⟨g0, off, none⟩) cap V (.string (tx (nameV T ⟨1, 0⟩))) (nameT T ⟨1, 0⟩, { lw0 with k := 6 })) := F1.name hbg hT hT2
  unfold FillV at hnm
  generalize equT T = E at hE HR0
  generalize nameV T ⟨1, 0⟩ = nv at hnm HR0
  generalize nameT T ⟨1, 0⟩ = σ at hnm hE hN3
  obtain ⟨i, er⟩ := σ
  dsimp only at hE hN3
  have HE := Lib.hid hE
  clear hE
  go_wp2_with (fail)
  ((with_reducible refine hnm.mono ?_); rintro e w2 ⟨rfl, F2⟩)
  clear a1 a2 a3 a4 a5 a6 a7 a8 a9 a10 a12 a14 zz hnm F0 F1
  obtain ⟨a12, a14⟩ := F2.ln.c1214
  have zz := fun j => F2.ln.fz j
  have F3 : Fill T (w.heap.size + 1) (w.heap.size + 2) (some ⟨g0, off, none⟩) cap V (w2.setCell ⟨w.heap.size + 2, 12, none⟩ (.string (tx nv))) (⟨i, er⟩, { lw0 with k := 6, ref := nv }) := F2.set hbg 12 _ rfl fun _ _ _ _ => rfl
  obtain ⟨X, hX⟩ : ∃ X, Hid (X = w2.setCell ⟨w.heap.size + 2, 12, none⟩ (.string (tx nv))) := ⟨_, Lib.hid rfl⟩
  rw [← hX.out] at F3
  have c1 : X.cell? ⟨w.heap.size + 1, 1, none⟩ = some (.int .i64 i) := F3.rd.c1
  have c2 : X.cell? ⟨w.heap.size + 1, 2, none⟩ = some (.int .i64 er) := F3.rd.c2
  have rz := fun j => F3.rd.fz j
  have hin : i ≤ T.length := F3.inn
  cases e0 : (er == 0)
  · obtain rfl : er = 3 := hN3.resolve_left (ne_of_beq_false e0)
    clear hN3
    have hEv : E = ⟨i + 1, 3⟩ := by have := HE.out; rw [this]; exact if_neg (fun h => absurd h.1 (by decide))
    subst hEv
    have HR1 := Lib.hid (HR0.out.trans (if_neg (show ¬ (3 : Int) = 0 by decide)))
    clear HR0 HE
    have hR := HR1.out
    subst hR
    clear HR1
    have FE := F3.toE
    have FE1 := FE.setAt hbg ((i : Int) + 1)
    have ht := term18e FE1 (show (3 : Int) ≠ 0 by decide) hbg
    go_wp2_with (first | rw [← hX.out] | fail)
    ((with_reducible refine ht.mono ?_); rintro e w5 ⟨rfl, FE2⟩)
    clear ht FE FE1
    obtain ⟨_, _, _, _, d15, d16, d17, d18⟩ := FE2.x4
    have z5 := fun j => FE2.fz j
    have FE3 := FE2.set4 hbg (.int .i64 0) (.int .i64 0) (.string (tx [])) (.slice none 0 0)
    have e3' : ((3 : Int) != 0) = true := rfl
    have e3 : ((3 : Int) == 0) = false := rfl
    have c2 := FE3.rd.c2
    try dsimp only at c2
    go_wp2_with (first | rw [← hX.out] | fail)
    generalize hX2 : ((((w5.setCell ⟨w.heap.size + 2, 15, none⟩ (.int .i64 0)).setCell ⟨w.heap.size + 2, 16, none⟩ (.int .i64 0)).setCell ⟨w.heap.size + 2, 17, none⟩ (.string (tx []))).setCell ⟨w.heap.size + 2, 18, none⟩ (.slice none 0 0)) = X2 at FE3 c2 ⊢
    clear hX2
    have hz6 : X2.heap[w.heap.size]? = some (.cells lwZ 49 (0, 0)) := (FE3.st.block _ (by omega) (by omega) (by omega)).trans hzV
    have hb6 := (FE3).out bV (by omega) (by omega)
    have hth6 := there_of (w := (X2).drew) hz6
    have hc7 : ((X2).drew.setCells w.heap.size 0 lwZ.toList).cell? ⟨w.heap.size + 1, 2, none⟩ = some (.int .i64 3) := (World.cell?_of_block ((setCells_heap w.heap.size lwZ.toList 0 (X2).drew).1 _ (by simp))).trans c2
    refine wp_region_held_drew (S := (fun w' => w'.cell? ⟨(w.heap.size + 1), 2, none⟩ = some (.int .i64 3))) (by kernel_rfl) c2 (fun hHeld => ?_)
    refine wpAnyH_take (i := 0) (oi := ⟨some 156, .build 49 #[], 49, _, _, none⟩) (v := .agg lwZ) rfl (by kernel_rfl) (by kernel_rfl) (by kernel_rfl) (fun _ _ _ h => h) (Or.inl ⟨by rfl, fun _ _ => by kernel_rfl⟩) (by assumption) ?_
    simp only [Act.put, List.setIfInBounds_toArray, List.set_cons_zero, List.set_cons_succ]
    refine wpAnyH_take (i := 1) (oi := ⟨some 157, .move (.tmp 6), _, _, _, none⟩) (v := .pointer (some ⟨(w.heap.size + 1), 0, none⟩)) rfl (by kernel_rfl) (by kernel_rfl) (by kernel_rfl) (fun _ _ _ h => h) (Or.inl ⟨by rfl, fun _ _ => by kernel_rfl⟩) (by assumption) ?_
    simp only [Act.put, List.setIfInBounds_toArray, List.set_cons_zero, List.set_cons_succ]
    refine wpAnyH_take (i := 2) (oi := ⟨some 158, .nilCheck (.tmp 157), _, _, _, none⟩) (v := .pointer (some ⟨(w.heap.size + 1), 0, none⟩)) rfl (by kernel_rfl) (by kernel_rfl) (by kernel_rfl) (fun _ _ _ h => h) (Or.inl ⟨by rfl, fun _ _ => by kernel_rfl⟩) (by assumption) ?_
    simp only [Act.put, List.setIfInBounds_toArray, List.set_cons_zero, List.set_cons_succ]
    refine wpAnyH_take (i := 3) (oi := ⟨some 159, .fieldAddr 117 (.tmp 158) 2, _, _, _, none⟩) (v := .pointer (some ⟨(w.heap.size + 1), 2, none⟩)) rfl (by kernel_rfl) (by kernel_rfl) (by kernel_rfl) (fun _ _ _ h => h) (Or.inl ⟨by rfl, fun _ _ => by kernel_rfl⟩) (by assumption) ?_
    simp only [Act.put, List.setIfInBounds_toArray, List.set_cons_zero, List.set_cons_succ]
    refine wpAnyH_take (i := 4) (oi := ⟨some 160, .load _ (.tmp 159), _, _, _, none⟩) (v := .int .i64 3) rfl (by kernel_rfl) (by kernel_rfl) (by kernel_rfl) (fun _ _ _ h => h) (Or.inl ⟨by rfl, fun w' h => by go_simp⟩) (by assumption) ?_
    simp only [Act.put, List.setIfInBounds_toArray, List.set_cons_zero, List.set_cons_succ]
    refine ready_one (i := 5) (o := ⟨none, .store 49 (.tmp 2) (.tmp 156), _, _, _, none⟩) (by kernel_rfl) rfl rfl (fun K hK => ?_)
    refine wp_store_mid 49 (.tmp 2) (.tmp 156) rfl w.heap.size 0 lwZ rfl rfl hth6 (by kernel_rfl) (lwC_one _ _ _ _ _ _ _) ?_
    refine hK.out _ _ hc7 (fun hHeld => ?_)
    refine wpAnyH_take (i := 6) (oi := ⟨some 3, .assign (.const (.bool true)), _, _, _, none⟩) (v := .bool true) rfl (by kernel_rfl) (by kernel_rfl) (by kernel_rfl) (fun _ _ _ h => h) (Or.inl ⟨by rfl, fun _ _ => by kernel_rfl⟩) (by assumption) ?_
    simp only [Act.put, List.setIfInBounds_toArray, List.set_cons_zero, List.set_cons_succ]
    refine wpAnyH_take (i := 7) (oi := ⟨some 4, .assign (.tmp 160), _, _, _, none⟩) (v := .int .i64 3) rfl (by kernel_rfl) (by kernel_rfl) (by kernel_rfl) (fun _ _ _ h => h) (Or.inl ⟨by rfl, fun _ _ => by kernel_rfl⟩) (by assumption) ?_
    simp only [Act.put, List.setIfInBounds_toArray, List.set_cons_zero, List.set_cons_succ]
    refine wpAnyH_done (by kernel_rfl) ?_ _
    go_wp2_with (fail)
    have hb7 := below_setCells hb6.drew (Nat.le_refl _) lwZ.toList
    have hz7 := setCells_all (w := (X2).drew) hz6 lwZ.toList rfl
    generalize hW7 : World.setCells _ _ _ _ = W7
    have hz8 : W7.heap[w.heap.size]? = some (.cells lwZ 49 (0, 0)) := by rw [← hW7]; exact hz7
    have hb8 : Below w.heap.size w W7 := by rw [← hW7]; exact hb7
    exact bodyPost_ret (results_cell_row3d rfl _ _ w.heap.size 49 _ (0, 0) _ rfl hz8 Tryz.underlying49 rfl (by kernel_rfl)) rfl ⟨_, _, _, _, rfl, exAt0 _ _, hb8⟩
  obtain rfl := eq_of_beq e0
  clear hN3
  cases q1 : decide ((T.length : Int) ≤ (i : Int))
  rotate_left
  · have hge := of_decide_eq_true q1
    have hS : isS (tokA T i) [44] = false := by
      have : tokA T i = tok0 := by unfold tokA; rw [List.getD_eq_getElem?_getD, List.getElem?_eq_none (by omega)]; rfl
      rw [this]; rfl
    have hEv : E = ⟨i + 1, 3⟩ := by have := HE.out; rw [this]; exact if_pos ⟨rfl, hS⟩
    subst hEv
    have HR1 := Lib.hid (HR0.out.trans (if_neg (show ¬ (3 : Int) = 0 by decide)))
    clear HR0 HE
    have hR := HR1.out
    subst hR
    clear HR1
    have FE := F3.toE.setErr hbg 3
    have FE1 := FE.setAt hbg ((i : Int) + 1)
    have ht := term18e FE1 (show (3 : Int) ≠ 0 by decide) hbg
    go_wp2_with (first | rw [← hX.out] | fail)
    ((with_reducible refine ht.mono ?_); rintro e w5 ⟨rfl, FE2⟩)
    clear ht FE FE1
    obtain ⟨_, _, _, _, d15, d16, d17, d18⟩ := FE2.x4
    have z5 := fun j => FE2.fz j
    have FE3 := FE2.set4 hbg (.int .i64 0) (.int .i64 0) (.string (tx [])) (.slice none 0 0)
    have e3' : ((3 : Int) != 0) = true := rfl
    have e3 : ((3 : Int) == 0) = false := rfl
    have c2 := FE3.rd.c2
    try dsimp only at c2
    go_wp2_with (first | rw [← hX.out] | fail)
    generalize hX2 : ((((w5.setCell ⟨w.heap.size + 2, 15, none⟩ (.int .i64 0)).setCell ⟨w.heap.size + 2, 16, none⟩ (.int .i64 0)).setCell ⟨w.heap.size + 2, 17, none⟩ (.string (tx []))).setCell ⟨w.heap.size + 2, 18, none⟩ (.slice none 0 0)) = X2 at FE3 c2 ⊢
    clear hX2
    have hz6 : X2.heap[w.heap.size]? = some (.cells lwZ 49 (0, 0)) := (FE3.st.block _ (by omega) (by omega) (by omega)).trans hzV
    have hb6 := (FE3).out bV (by omega) (by omega)
    have hth6 := there_of (w := (X2).drew) hz6
    have hc7 : ((X2).drew.setCells w.heap.size 0 lwZ.toList).cell? ⟨w.heap.size + 1, 2, none⟩ = some (.int .i64 3) := (World.cell?_of_block ((setCells_heap w.heap.size lwZ.toList 0 (X2).drew).1 _ (by simp))).trans c2
    refine wp_region_held_drew (S := (fun w' => w'.cell? ⟨(w.heap.size + 1), 2, none⟩ = some (.int .i64 3))) (by kernel_rfl) c2 (fun hHeld => ?_)
    refine wpAnyH_take (i := 0) (oi := ⟨some 156, .build 49 #[], 49, _, _, none⟩) (v := .agg lwZ) rfl (by kernel_rfl) (by kernel_rfl) (by kernel_rfl) (fun _ _ _ h => h) (Or.inl ⟨by rfl, fun _ _ => by kernel_rfl⟩) (by assumption) ?_
    simp only [Act.put, List.setIfInBounds_toArray, List.set_cons_zero, List.set_cons_succ]
    refine wpAnyH_take (i := 1) (oi := ⟨some 157, .move (.tmp 6), _, _, _, none⟩) (v := .pointer (some ⟨(w.heap.size + 1), 0, none⟩)) rfl (by kernel_rfl) (by kernel_rfl) (by kernel_rfl) (fun _ _ _ h => h) (Or.inl ⟨by rfl, fun _ _ => by kernel_rfl⟩) (by assumption) ?_
    simp only [Act.put, List.setIfInBounds_toArray, List.set_cons_zero, List.set_cons_succ]
    refine wpAnyH_take (i := 2) (oi := ⟨some 158, .nilCheck (.tmp 157), _, _, _, none⟩) (v := .pointer (some ⟨(w.heap.size + 1), 0, none⟩)) rfl (by kernel_rfl) (by kernel_rfl) (by kernel_rfl) (fun _ _ _ h => h) (Or.inl ⟨by rfl, fun _ _ => by kernel_rfl⟩) (by assumption) ?_
    simp only [Act.put, List.setIfInBounds_toArray, List.set_cons_zero, List.set_cons_succ]
    refine wpAnyH_take (i := 3) (oi := ⟨some 159, .fieldAddr 117 (.tmp 158) 2, _, _, _, none⟩) (v := .pointer (some ⟨(w.heap.size + 1), 2, none⟩)) rfl (by kernel_rfl) (by kernel_rfl) (by kernel_rfl) (fun _ _ _ h => h) (Or.inl ⟨by rfl, fun _ _ => by kernel_rfl⟩) (by assumption) ?_
    simp only [Act.put, List.setIfInBounds_toArray, List.set_cons_zero, List.set_cons_succ]
    refine wpAnyH_take (i := 4) (oi := ⟨some 160, .load _ (.tmp 159), _, _, _, none⟩) (v := .int .i64 3) rfl (by kernel_rfl) (by kernel_rfl) (by kernel_rfl) (fun _ _ _ h => h) (Or.inl ⟨by rfl, fun w' h => by go_simp⟩) (by assumption) ?_
    simp only [Act.put, List.setIfInBounds_toArray, List.set_cons_zero, List.set_cons_succ]
    refine ready_one (i := 5) (o := ⟨none, .store 49 (.tmp 2) (.tmp 156), _, _, _, none⟩) (by kernel_rfl) rfl rfl (fun K hK => ?_)
    refine wp_store_mid 49 (.tmp 2) (.tmp 156) rfl w.heap.size 0 lwZ rfl rfl hth6 (by kernel_rfl) (lwC_one _ _ _ _ _ _ _) ?_
    refine hK.out _ _ hc7 (fun hHeld => ?_)
    refine wpAnyH_take (i := 6) (oi := ⟨some 3, .assign (.const (.bool true)), _, _, _, none⟩) (v := .bool true) rfl (by kernel_rfl) (by kernel_rfl) (by kernel_rfl) (fun _ _ _ h => h) (Or.inl ⟨by rfl, fun _ _ => by kernel_rfl⟩) (by assumption) ?_
    simp only [Act.put, List.setIfInBounds_toArray, List.set_cons_zero, List.set_cons_succ]
    refine wpAnyH_take (i := 7) (oi := ⟨some 4, .assign (.tmp 160), _, _, _, none⟩) (v := .int .i64 3) rfl (by kernel_rfl) (by kernel_rfl) (by kernel_rfl) (fun _ _ _ h => h) (Or.inl ⟨by rfl, fun _ _ => by kernel_rfl⟩) (by assumption) ?_
    simp only [Act.put, List.setIfInBounds_toArray, List.set_cons_zero, List.set_cons_succ]
    refine wpAnyH_done (by kernel_rfl) ?_ _
    go_wp2_with (fail)
    have hb7 := below_setCells hb6.drew (Nat.le_refl _) lwZ.toList
    have hz7 := setCells_all (w := (X2).drew) hz6 lwZ.toList rfl
    generalize hW7 : World.setCells _ _ _ _ = W7
    have hz8 : W7.heap[w.heap.size]? = some (.cells lwZ 49 (0, 0)) := by rw [← hW7]; exact hz7
    have hb8 : Below w.heap.size w W7 := by rw [← hW7]; exact hb7
    exact bodyPost_ret (results_cell_row3d rfl _ _ w.heap.size 49 _ (0, 0) _ rfl hz8 Tryz.underlying49 rfl (by kernel_rfl)) rfl ⟨_, _, _, _, rfl, exAt0 _ _, hb8⟩
  have hlt : i < T.length := by have := of_decide_eq_false q1; omega
  obtain ⟨g1, off1, hA1, _, hc1⟩ := hA.at_ (k := i) hlt
  simp only [Option.some.injEq, Addr.mk.injEq, and_true] at hA1
  obtain ⟨rfl, rfl⟩ := hA1
  have ht1 : tokA T i = T[i] := by unfold tokA; rw [List.getD_eq_getElem?_getD, List.getElem?_eq_getElem hlt]; rfl
  have bX := F3.out bV (by omega) (by omega)
  have c3 : X.cell? ⟨g0, off + i * 3, none⟩ = some (.int .i64 (tokA T i).k) := by
    rw [ht1]
    exact (bX.cell (p := ⟨g0, off + i * tokE.z + 0, none⟩) hg0).trans (hc1 0 (.int .i64 (T[i]).k) rfl)
  have c5 : X.cell? ⟨g0, off + i * 3 + 2, none⟩ = some (.string (tx (tokA T i).t)) := by
    rw [ht1]
    exact (bX.cell (p := ⟨g0, off + i * tokE.z + 2, none⟩) hg0).trans (hc1 2 (.string (tx (T[i]).t)) rfl)
  clear hc1 ht1
  generalize tokA T i = y1 at c3 c5 HE
  obtain ⟨k1, m1, t1⟩ := y1
  dsimp only at c3 c5 HE
  cases q2 : (k1 == 3)
  · have q2' : (k1 != 3) = true := by simpa using ne_of_beq_false q2
    have hS : isS ⟨k1, m1, t1⟩ [44] = false := by unfold isS; rw [show ((⟨k1, m1, t1⟩ : Tok).k == 3) = false from q2]; rfl
    have hEv : E = ⟨i + 1, 3⟩ := by have := HE.out; rw [this]; exact if_pos ⟨rfl, hS⟩
    subst hEv
    have HR1 := Lib.hid (HR0.out.trans (if_neg (show ¬ (3 : Int) = 0 by decide)))
    clear HR0 HE
    have hR := HR1.out
    subst hR
    clear HR1
    have FE := F3.toE.setErr hbg 3
    have FE1 := FE.setAt hbg ((i : Int) + 1)
    have ht := term18e FE1 (show (3 : Int) ≠ 0 by decide) hbg
    go_wp2_with (first | rw [← hX.out] | fail)
    ((with_reducible refine ht.mono ?_); rintro e w5 ⟨rfl, FE2⟩)
    clear ht FE FE1
    obtain ⟨_, _, _, _, d15, d16, d17, d18⟩ := FE2.x4
    have z5 := fun j => FE2.fz j
    have FE3 := FE2.set4 hbg (.int .i64 0) (.int .i64 0) (.string (tx [])) (.slice none 0 0)
    have e3' : ((3 : Int) != 0) = true := rfl
    have e3 : ((3 : Int) == 0) = false := rfl
    have c2 := FE3.rd.c2
    try dsimp only at c2
    go_wp2_with (first | rw [← hX.out] | fail)
    generalize hX2 : ((((w5.setCell ⟨w.heap.size + 2, 15, none⟩ (.int .i64 0)).setCell ⟨w.heap.size + 2, 16, none⟩ (.int .i64 0)).setCell ⟨w.heap.size + 2, 17, none⟩ (.string (tx []))).setCell ⟨w.heap.size + 2, 18, none⟩ (.slice none 0 0)) = X2 at FE3 c2 ⊢
    clear hX2
    have hz6 : X2.heap[w.heap.size]? = some (.cells lwZ 49 (0, 0)) := (FE3.st.block _ (by omega) (by omega) (by omega)).trans hzV
    have hb6 := (FE3).out bV (by omega) (by omega)
    have hth6 := there_of (w := (X2).drew) hz6
    have hc7 : ((X2).drew.setCells w.heap.size 0 lwZ.toList).cell? ⟨w.heap.size + 1, 2, none⟩ = some (.int .i64 3) := (World.cell?_of_block ((setCells_heap w.heap.size lwZ.toList 0 (X2).drew).1 _ (by simp))).trans c2
    refine wp_region_held_drew (S := (fun w' => w'.cell? ⟨(w.heap.size + 1), 2, none⟩ = some (.int .i64 3))) (by kernel_rfl) c2 (fun hHeld => ?_)
    refine wpAnyH_take (i := 0) (oi := ⟨some 156, .build 49 #[], 49, _, _, none⟩) (v := .agg lwZ) rfl (by kernel_rfl) (by kernel_rfl) (by kernel_rfl) (fun _ _ _ h => h) (Or.inl ⟨by rfl, fun _ _ => by kernel_rfl⟩) (by assumption) ?_
    simp only [Act.put, List.setIfInBounds_toArray, List.set_cons_zero, List.set_cons_succ]
    refine wpAnyH_take (i := 1) (oi := ⟨some 157, .move (.tmp 6), _, _, _, none⟩) (v := .pointer (some ⟨(w.heap.size + 1), 0, none⟩)) rfl (by kernel_rfl) (by kernel_rfl) (by kernel_rfl) (fun _ _ _ h => h) (Or.inl ⟨by rfl, fun _ _ => by kernel_rfl⟩) (by assumption) ?_
    simp only [Act.put, List.setIfInBounds_toArray, List.set_cons_zero, List.set_cons_succ]
    refine wpAnyH_take (i := 2) (oi := ⟨some 158, .nilCheck (.tmp 157), _, _, _, none⟩) (v := .pointer (some ⟨(w.heap.size + 1), 0, none⟩)) rfl (by kernel_rfl) (by kernel_rfl) (by kernel_rfl) (fun _ _ _ h => h) (Or.inl ⟨by rfl, fun _ _ => by kernel_rfl⟩) (by assumption) ?_
    simp only [Act.put, List.setIfInBounds_toArray, List.set_cons_zero, List.set_cons_succ]
    refine wpAnyH_take (i := 3) (oi := ⟨some 159, .fieldAddr 117 (.tmp 158) 2, _, _, _, none⟩) (v := .pointer (some ⟨(w.heap.size + 1), 2, none⟩)) rfl (by kernel_rfl) (by kernel_rfl) (by kernel_rfl) (fun _ _ _ h => h) (Or.inl ⟨by rfl, fun _ _ => by kernel_rfl⟩) (by assumption) ?_
    simp only [Act.put, List.setIfInBounds_toArray, List.set_cons_zero, List.set_cons_succ]
    refine wpAnyH_take (i := 4) (oi := ⟨some 160, .load _ (.tmp 159), _, _, _, none⟩) (v := .int .i64 3) rfl (by kernel_rfl) (by kernel_rfl) (by kernel_rfl) (fun _ _ _ h => h) (Or.inl ⟨by rfl, fun w' h => by go_simp⟩) (by assumption) ?_
    simp only [Act.put, List.setIfInBounds_toArray, List.set_cons_zero, List.set_cons_succ]
    refine ready_one (i := 5) (o := ⟨none, .store 49 (.tmp 2) (.tmp 156), _, _, _, none⟩) (by kernel_rfl) rfl rfl (fun K hK => ?_)
    refine wp_store_mid 49 (.tmp 2) (.tmp 156) rfl w.heap.size 0 lwZ rfl rfl hth6 (by kernel_rfl) (lwC_one _ _ _ _ _ _ _) ?_
    refine hK.out _ _ hc7 (fun hHeld => ?_)
    refine wpAnyH_take (i := 6) (oi := ⟨some 3, .assign (.const (.bool true)), _, _, _, none⟩) (v := .bool true) rfl (by kernel_rfl) (by kernel_rfl) (by kernel_rfl) (fun _ _ _ h => h) (Or.inl ⟨by rfl, fun _ _ => by kernel_rfl⟩) (by assumption) ?_
    simp only [Act.put, List.setIfInBounds_toArray, List.set_cons_zero, List.set_cons_succ]
    refine wpAnyH_take (i := 7) (oi := ⟨some 4, .assign (.tmp 160), _, _, _, none⟩) (v := .int .i64 3) rfl (by kernel_rfl) (by kernel_rfl) (by kernel_rfl) (fun _ _ _ h => h) (Or.inl ⟨by rfl, fun _ _ => by kernel_rfl⟩) (by assumption) ?_
    simp only [Act.put, List.setIfInBounds_toArray, List.set_cons_zero, List.set_cons_succ]
    refine wpAnyH_done (by kernel_rfl) ?_ _
    go_wp2_with (fail)
    have hb7 := below_setCells hb6.drew (Nat.le_refl _) lwZ.toList
    have hz7 := setCells_all (w := (X2).drew) hz6 lwZ.toList rfl
    generalize hW7 : World.setCells _ _ _ _ = W7
    have hz8 : W7.heap[w.heap.size]? = some (.cells lwZ 49 (0, 0)) := by rw [← hW7]; exact hz7
    have hb8 : Below w.heap.size w W7 := by rw [← hW7]; exact hb7
    exact bodyPost_ret (results_cell_row3d rfl _ _ w.heap.size 49 _ (0, 0) _ rfl hz8 Tryz.underlying49 rfl (by kernel_rfl)) rfl ⟨_, _, _, _, rfl, exAt0 _ _, hb8⟩
  have q2' : (k1 != 3) = false := by simpa using eq_of_beq q2
  cases q3 : (t1 == [44])
  · skip
    have hS : isS ⟨k1, m1, t1⟩ [44] = false := by unfold isS; rw [show ((⟨k1, m1, t1⟩ : Tok).t == [44]) = false from q3, Bool.and_false]
    have hEv : E = ⟨i + 1, 3⟩ := by have := HE.out; rw [this]; exact if_pos ⟨rfl, hS⟩
    subst hEv
    have HR1 := Lib.hid (HR0.out.trans (if_neg (show ¬ (3 : Int) = 0 by decide)))
    clear HR0 HE
    have hR := HR1.out
    subst hR
    clear HR1
    have FE := F3.toE.setErr hbg 3
    have FE1 := FE.setAt hbg ((i : Int) + 1)
    have ht := term18e FE1 (show (3 : Int) ≠ 0 by decide) hbg
    go_wp2_with (first | rw [← hX.out] | fail)
    ((with_reducible refine ht.mono ?_); rintro e w5 ⟨rfl, FE2⟩)
    clear ht FE FE1
    obtain ⟨_, _, _, _, d15, d16, d17, d18⟩ := FE2.x4
    have z5 := fun j => FE2.fz j
    have FE3 := FE2.set4 hbg (.int .i64 0) (.int .i64 0) (.string (tx [])) (.slice none 0 0)
    have e3' : ((3 : Int) != 0) = true := rfl
    have e3 : ((3 : Int) == 0) = false := rfl
    have c2 := FE3.rd.c2
    try dsimp only at c2
    go_wp2_with (first | rw [← hX.out] | fail)
    generalize hX2 : ((((w5.setCell ⟨w.heap.size + 2, 15, none⟩ (.int .i64 0)).setCell ⟨w.heap.size + 2, 16, none⟩ (.int .i64 0)).setCell ⟨w.heap.size + 2, 17, none⟩ (.string (tx []))).setCell ⟨w.heap.size + 2, 18, none⟩ (.slice none 0 0)) = X2 at FE3 c2 ⊢
    clear hX2
    have hz6 : X2.heap[w.heap.size]? = some (.cells lwZ 49 (0, 0)) := (FE3.st.block _ (by omega) (by omega) (by omega)).trans hzV
    have hb6 := (FE3).out bV (by omega) (by omega)
    have hth6 := there_of (w := (X2).drew) hz6
    have hc7 : ((X2).drew.setCells w.heap.size 0 lwZ.toList).cell? ⟨w.heap.size + 1, 2, none⟩ = some (.int .i64 3) := (World.cell?_of_block ((setCells_heap w.heap.size lwZ.toList 0 (X2).drew).1 _ (by simp))).trans c2
    refine wp_region_held_drew (S := (fun w' => w'.cell? ⟨(w.heap.size + 1), 2, none⟩ = some (.int .i64 3))) (by kernel_rfl) c2 (fun hHeld => ?_)
    refine wpAnyH_take (i := 0) (oi := ⟨some 156, .build 49 #[], 49, _, _, none⟩) (v := .agg lwZ) rfl (by kernel_rfl) (by kernel_rfl) (by kernel_rfl) (fun _ _ _ h => h) (Or.inl ⟨by rfl, fun _ _ => by kernel_rfl⟩) (by assumption) ?_
    simp only [Act.put, List.setIfInBounds_toArray, List.set_cons_zero, List.set_cons_succ]
    refine wpAnyH_take (i := 1) (oi := ⟨some 157, .move (.tmp 6), _, _, _, none⟩) (v := .pointer (some ⟨(w.heap.size + 1), 0, none⟩)) rfl (by kernel_rfl) (by kernel_rfl) (by kernel_rfl) (fun _ _ _ h => h) (Or.inl ⟨by rfl, fun _ _ => by kernel_rfl⟩) (by assumption) ?_
    simp only [Act.put, List.setIfInBounds_toArray, List.set_cons_zero, List.set_cons_succ]
    refine wpAnyH_take (i := 2) (oi := ⟨some 158, .nilCheck (.tmp 157), _, _, _, none⟩) (v := .pointer (some ⟨(w.heap.size + 1), 0, none⟩)) rfl (by kernel_rfl) (by kernel_rfl) (by kernel_rfl) (fun _ _ _ h => h) (Or.inl ⟨by rfl, fun _ _ => by kernel_rfl⟩) (by assumption) ?_
    simp only [Act.put, List.setIfInBounds_toArray, List.set_cons_zero, List.set_cons_succ]
    refine wpAnyH_take (i := 3) (oi := ⟨some 159, .fieldAddr 117 (.tmp 158) 2, _, _, _, none⟩) (v := .pointer (some ⟨(w.heap.size + 1), 2, none⟩)) rfl (by kernel_rfl) (by kernel_rfl) (by kernel_rfl) (fun _ _ _ h => h) (Or.inl ⟨by rfl, fun _ _ => by kernel_rfl⟩) (by assumption) ?_
    simp only [Act.put, List.setIfInBounds_toArray, List.set_cons_zero, List.set_cons_succ]
    refine wpAnyH_take (i := 4) (oi := ⟨some 160, .load _ (.tmp 159), _, _, _, none⟩) (v := .int .i64 3) rfl (by kernel_rfl) (by kernel_rfl) (by kernel_rfl) (fun _ _ _ h => h) (Or.inl ⟨by rfl, fun w' h => by go_simp⟩) (by assumption) ?_
    simp only [Act.put, List.setIfInBounds_toArray, List.set_cons_zero, List.set_cons_succ]
    refine ready_one (i := 5) (o := ⟨none, .store 49 (.tmp 2) (.tmp 156), _, _, _, none⟩) (by kernel_rfl) rfl rfl (fun K hK => ?_)
    refine wp_store_mid 49 (.tmp 2) (.tmp 156) rfl w.heap.size 0 lwZ rfl rfl hth6 (by kernel_rfl) (lwC_one _ _ _ _ _ _ _) ?_
    refine hK.out _ _ hc7 (fun hHeld => ?_)
    refine wpAnyH_take (i := 6) (oi := ⟨some 3, .assign (.const (.bool true)), _, _, _, none⟩) (v := .bool true) rfl (by kernel_rfl) (by kernel_rfl) (by kernel_rfl) (fun _ _ _ h => h) (Or.inl ⟨by rfl, fun _ _ => by kernel_rfl⟩) (by assumption) ?_
    simp only [Act.put, List.setIfInBounds_toArray, List.set_cons_zero, List.set_cons_succ]
    refine wpAnyH_take (i := 7) (oi := ⟨some 4, .assign (.tmp 160), _, _, _, none⟩) (v := .int .i64 3) rfl (by kernel_rfl) (by kernel_rfl) (by kernel_rfl) (fun _ _ _ h => h) (Or.inl ⟨by rfl, fun _ _ => by kernel_rfl⟩) (by assumption) ?_
    simp only [Act.put, List.setIfInBounds_toArray, List.set_cons_zero, List.set_cons_succ]
    refine wpAnyH_done (by kernel_rfl) ?_ _
    go_wp2_with (fail)
    have hb7 := below_setCells hb6.drew (Nat.le_refl _) lwZ.toList
    have hz7 := setCells_all (w := (X2).drew) hz6 lwZ.toList rfl
    generalize hW7 : World.setCells _ _ _ _ = W7
    have hz8 : W7.heap[w.heap.size]? = some (.cells lwZ 49 (0, 0)) := by rw [← hW7]; exact hz7
    have hb8 : Below w.heap.size w W7 := by rw [← hW7]; exact hb7
    exact bodyPost_ret (results_cell_row3d rfl _ _ w.heap.size 49 _ (0, 0) _ rfl hz8 Tryz.underlying49 rfl (by kernel_rfl)) rfl ⟨_, _, _, _, rfl, exAt0 _ _, hb8⟩
  have hS : isS ⟨k1, m1, t1⟩ [44] = true := by unfold isS; rw [show ((⟨k1, m1, t1⟩ : Tok).k == 3) = true from q2, show ((⟨k1, m1, t1⟩ : Tok).t == [44]) = true from q3]; rfl
  have hEv : E = ⟨i + 1, 0⟩ := by have := HE.out; rw [this, hS]; exact if_neg (fun h => by cases h.2)
  subst hEv
  have HR1 := Lib.hid (HR0.out.trans (if_pos rfl))
  clear HR0 HE
  have F4 : Fill T (w.heap.size + 1) (w.heap.size + 2) (some ⟨g0, off, none⟩) cap V (X.setCell ⟨w.heap.size + 1, 1, none⟩ (.int .i64 ((i : Int) + 1))) (⟨i + 1, 0⟩, { lw0 with k := 6, ref := nv }) := F3.setAt hbg (i + 1) hlt
  go_wp2_with (first | rw [← hX.out] | fail)
  ((with_reducible refine (F4.term hbg hT hT2).mono ?_); rintro e w5 ⟨o, m, s', A', k, cap', rfl, F5, hx⟩)
  obtain ⟨_, _, _, _, d15, d16, d17, d18⟩ := F5.ln.x4
  have z5 := fun j => F5.ln.fz j
  have F6 := F5.sEx hbg hx F4.ln.lt
  clear hX a12 a14 zz c1 c2 rz c3 c5 F2 F3
  have F7 : Fill T (w.heap.size + 1) (w.heap.size + 2) (some ⟨g0, off, none⟩) cap V (((((w5.setCell ⟨w.heap.size + 2, 15, none⟩ (.int .i64 o)).setCell ⟨w.heap.size + 2, 16, none⟩ (.int .i64 m)).setCell ⟨w.heap.size + 2, 17, none⟩ (.string (tx s'))).setCell ⟨w.heap.size + 2, 18, none⟩ (.slice A' k cap'))) (stTerm T (⟨i + 1, 0⟩, { lw0 with k := 6, ref := nv })) := F6
  clear F5 F6 hx
  generalize hp : stTerm T (⟨i + 1, 0⟩, { lw0 with k := 6, ref := nv }) = p at F7 HR1
  clear hlt hin q1
  obtain ⟨⟨i, er⟩, y⟩ := p
  clear hp
  have HR := HR1
  clear HR1
  obtain ⟨X, hX⟩ : ∃ X, Hid (X = ((((w5.setCell ⟨w.heap.size + 2, 15, none⟩ (.int .i64 o)).setCell ⟨w.heap.size + 2, 16, none⟩ (.int .i64 m)).setCell ⟨w.heap.size + 2, 17, none⟩ (.string (tx s'))).setCell ⟨w.heap.size + 2, 18, none⟩ (.slice A' k cap'))) := ⟨_, Lib.hid rfl⟩
  rw [← hX.out] at F7
  have c1 := F7.rd.c1
  have c2' := F7.rd.c2
  dsimp only at c1 c2'
  have hR := HR.out
  clear HR
  cases e0 : (er == 0)
  · skip
    have e0' : (er != 0) = true := by simpa using ne_of_beq_false e0
    rw [finD_bad (ne_of_beq_false e0)] at hR
    subst hR
    clear c1 c2'
    have c2 := F7.rd.c2
    try dsimp only at c2
    go_wp2_with (first | rw [← hX.out] | fail)
    have hz6 : X.heap[w.heap.size]? = some (.cells lwZ 49 (0, 0)) := (F7.st.block _ (by omega) (by omega) (by omega)).trans hzV
    have hb6 := (F7).out bV (by omega) (by omega)
    have hth6 := there_of (w := (X).drew) hz6
    have hc7 : ((X).drew.setCells w.heap.size 0 lwZ.toList).cell? ⟨w.heap.size + 1, 2, none⟩ = some (.int .i64 er) := (World.cell?_of_block ((setCells_heap w.heap.size lwZ.toList 0 (X).drew).1 _ (by simp))).trans c2
    refine wp_region_held_drew (S := (fun w' => w'.cell? ⟨(w.heap.size + 1), 2, none⟩ = some (.int .i64 er))) (by kernel_rfl) c2 (fun hHeld => ?_)
    refine wpAnyH_take (i := 0) (oi := ⟨some 156, .build 49 #[], 49, _, _, none⟩) (v := .agg lwZ) rfl (by kernel_rfl) (by kernel_rfl) (by kernel_rfl) (fun _ _ _ h => h) (Or.inl ⟨by rfl, fun _ _ => by kernel_rfl⟩) (by assumption) ?_
    simp only [Act.put, List.setIfInBounds_toArray, List.set_cons_zero, List.set_cons_succ]
    refine wpAnyH_take (i := 1) (oi := ⟨some 157, .move (.tmp 6), _, _, _, none⟩) (v := .pointer (some ⟨(w.heap.size + 1), 0, none⟩)) rfl (by kernel_rfl) (by kernel_rfl) (by kernel_rfl) (fun _ _ _ h => h) (Or.inl ⟨by rfl, fun _ _ => by kernel_rfl⟩) (by assumption) ?_
    simp only [Act.put, List.setIfInBounds_toArray, List.set_cons_zero, List.set_cons_succ]
    refine wpAnyH_take (i := 2) (oi := ⟨some 158, .nilCheck (.tmp 157), _, _, _, none⟩) (v := .pointer (some ⟨(w.heap.size + 1), 0, none⟩)) rfl (by kernel_rfl) (by kernel_rfl) (by kernel_rfl) (fun _ _ _ h => h) (Or.inl ⟨by rfl, fun _ _ => by kernel_rfl⟩) (by assumption) ?_
    simp only [Act.put, List.setIfInBounds_toArray, List.set_cons_zero, List.set_cons_succ]
    refine wpAnyH_take (i := 3) (oi := ⟨some 159, .fieldAddr 117 (.tmp 158) 2, _, _, _, none⟩) (v := .pointer (some ⟨(w.heap.size + 1), 2, none⟩)) rfl (by kernel_rfl) (by kernel_rfl) (by kernel_rfl) (fun _ _ _ h => h) (Or.inl ⟨by rfl, fun _ _ => by kernel_rfl⟩) (by assumption) ?_
    simp only [Act.put, List.setIfInBounds_toArray, List.set_cons_zero, List.set_cons_succ]
    refine wpAnyH_take (i := 4) (oi := ⟨some 160, .load _ (.tmp 159), _, _, _, none⟩) (v := .int .i64 er) rfl (by kernel_rfl) (by kernel_rfl) (by kernel_rfl) (fun _ _ _ h => h) (Or.inl ⟨by rfl, fun w' h => by go_simp⟩) (by assumption) ?_
    simp only [Act.put, List.setIfInBounds_toArray, List.set_cons_zero, List.set_cons_succ]
    refine ready_one (i := 5) (o := ⟨none, .store 49 (.tmp 2) (.tmp 156), _, _, _, none⟩) (by kernel_rfl) rfl rfl (fun K hK => ?_)
    refine wp_store_mid 49 (.tmp 2) (.tmp 156) rfl w.heap.size 0 lwZ rfl rfl hth6 (by kernel_rfl) (lwC_one _ _ _ _ _ _ _) ?_
    refine hK.out _ _ hc7 (fun hHeld => ?_)
    refine wpAnyH_take (i := 6) (oi := ⟨some 3, .assign (.const (.bool true)), _, _, _, none⟩) (v := .bool true) rfl (by kernel_rfl) (by kernel_rfl) (by kernel_rfl) (fun _ _ _ h => h) (Or.inl ⟨by rfl, fun _ _ => by kernel_rfl⟩) (by assumption) ?_
    simp only [Act.put, List.setIfInBounds_toArray, List.set_cons_zero, List.set_cons_succ]
    refine wpAnyH_take (i := 7) (oi := ⟨some 4, .assign (.tmp 160), _, _, _, none⟩) (v := .int .i64 er) rfl (by kernel_rfl) (by kernel_rfl) (by kernel_rfl) (fun _ _ _ h => h) (Or.inl ⟨by rfl, fun _ _ => by kernel_rfl⟩) (by assumption) ?_
    simp only [Act.put, List.setIfInBounds_toArray, List.set_cons_zero, List.set_cons_succ]
    refine wpAnyH_done (by kernel_rfl) ?_ _
    go_wp2_with (fail)
    have hb7 := below_setCells hb6.drew (Nat.le_refl _) lwZ.toList
    have hz7 := setCells_all (w := (X).drew) hz6 lwZ.toList rfl
    generalize hW7 : World.setCells _ _ _ _ = W7
    have hz8 : W7.heap[w.heap.size]? = some (.cells lwZ 49 (0, 0)) := by rw [← hW7]; exact hz7
    have hb8 : Below w.heap.size w W7 := by rw [← hW7]; exact hb7
    exact bodyPost_ret (results_cell_row3d rfl _ _ w.heap.size 49 _ (0, 0) _ rfl hz8 Tryz.underlying49 rfl (by kernel_rfl)) rfl ⟨_, _, _, _, rfl, exAt0 _ _, hb8⟩
  obtain rfl := eq_of_beq e0
  have e0' : ((0 : Int) != 0) = false := rfl
  cases e9 : ((i : Int) == (T.length : Int))
  · skip
    have e9' : ((i : Int) != (T.length : Int)) = true := by simpa using ne_of_beq_false e9
    rw [finD_end (by have := ne_of_beq_false e9; omega)] at hR
    subst hR
    have f2 := F7.rd.fz 2
    have FE := F7.setErr hbg 3
    have e3' : ((3 : Int) != 0) = true := rfl
    have c2 := FE.rd.c2
    try dsimp only at c2
    go_wp2_with (first | rw [← hX.out] | fail)
    generalize hX2 : (X.setCell ⟨w.heap.size + 1, 2, none⟩ (.int .i64 3)) = X2 at FE c2 ⊢
    clear hX2
    have hz6 : X2.heap[w.heap.size]? = some (.cells lwZ 49 (0, 0)) := (FE.st.block _ (by omega) (by omega) (by omega)).trans hzV
    have hb6 := (FE).out bV (by omega) (by omega)
    have hth6 := there_of (w := (X2).drew) hz6
    have hc7 : ((X2).drew.setCells w.heap.size 0 lwZ.toList).cell? ⟨w.heap.size + 1, 2, none⟩ = some (.int .i64 3) := (World.cell?_of_block ((setCells_heap w.heap.size lwZ.toList 0 (X2).drew).1 _ (by simp))).trans c2
    refine wp_region_held_drew (S := (fun w' => w'.cell? ⟨(w.heap.size + 1), 2, none⟩ = some (.int .i64 3))) (by kernel_rfl) c2 (fun hHeld => ?_)
    refine wpAnyH_take (i := 0) (oi := ⟨some 156, .build 49 #[], 49, _, _, none⟩) (v := .agg lwZ) rfl (by kernel_rfl) (by kernel_rfl) (by kernel_rfl) (fun _ _ _ h => h) (Or.inl ⟨by rfl, fun _ _ => by kernel_rfl⟩) (by assumption) ?_
    simp only [Act.put, List.setIfInBounds_toArray, List.set_cons_zero, List.set_cons_succ]
    refine wpAnyH_take (i := 1) (oi := ⟨some 157, .move (.tmp 6), _, _, _, none⟩) (v := .pointer (some ⟨(w.heap.size + 1), 0, none⟩)) rfl (by kernel_rfl) (by kernel_rfl) (by kernel_rfl) (fun _ _ _ h => h) (Or.inl ⟨by rfl, fun _ _ => by kernel_rfl⟩) (by assumption) ?_
    simp only [Act.put, List.setIfInBounds_toArray, List.set_cons_zero, List.set_cons_succ]
    refine wpAnyH_take (i := 2) (oi := ⟨some 158, .nilCheck (.tmp 157), _, _, _, none⟩) (v := .pointer (some ⟨(w.heap.size + 1), 0, none⟩)) rfl (by kernel_rfl) (by kernel_rfl) (by kernel_rfl) (fun _ _ _ h => h) (Or.inl ⟨by rfl, fun _ _ => by kernel_rfl⟩) (by assumption) ?_
    simp only [Act.put, List.setIfInBounds_toArray, List.set_cons_zero, List.set_cons_succ]
    refine wpAnyH_take (i := 3) (oi := ⟨some 159, .fieldAddr 117 (.tmp 158) 2, _, _, _, none⟩) (v := .pointer (some ⟨(w.heap.size + 1), 2, none⟩)) rfl (by kernel_rfl) (by kernel_rfl) (by kernel_rfl) (fun _ _ _ h => h) (Or.inl ⟨by rfl, fun _ _ => by kernel_rfl⟩) (by assumption) ?_
    simp only [Act.put, List.setIfInBounds_toArray, List.set_cons_zero, List.set_cons_succ]
    refine wpAnyH_take (i := 4) (oi := ⟨some 160, .load _ (.tmp 159), _, _, _, none⟩) (v := .int .i64 3) rfl (by kernel_rfl) (by kernel_rfl) (by kernel_rfl) (fun _ _ _ h => h) (Or.inl ⟨by rfl, fun w' h => by go_simp⟩) (by assumption) ?_
    simp only [Act.put, List.setIfInBounds_toArray, List.set_cons_zero, List.set_cons_succ]
    refine ready_one (i := 5) (o := ⟨none, .store 49 (.tmp 2) (.tmp 156), _, _, _, none⟩) (by kernel_rfl) rfl rfl (fun K hK => ?_)
    refine wp_store_mid 49 (.tmp 2) (.tmp 156) rfl w.heap.size 0 lwZ rfl rfl hth6 (by kernel_rfl) (lwC_one _ _ _ _ _ _ _) ?_
    refine hK.out _ _ hc7 (fun hHeld => ?_)
    refine wpAnyH_take (i := 6) (oi := ⟨some 3, .assign (.const (.bool true)), _, _, _, none⟩) (v := .bool true) rfl (by kernel_rfl) (by kernel_rfl) (by kernel_rfl) (fun _ _ _ h => h) (Or.inl ⟨by rfl, fun _ _ => by kernel_rfl⟩) (by assumption) ?_
    simp only [Act.put, List.setIfInBounds_toArray, List.set_cons_zero, List.set_cons_succ]
    refine wpAnyH_take (i := 7) (oi := ⟨some 4, .assign (.tmp 160), _, _, _, none⟩) (v := .int .i64 3) rfl (by kernel_rfl) (by kernel_rfl) (by kernel_rfl) (fun _ _ _ h => h) (Or.inl ⟨by rfl, fun _ _ => by kernel_rfl⟩) (by assumption) ?_
    simp only [Act.put, List.setIfInBounds_toArray, List.set_cons_zero, List.set_cons_succ]
    refine wpAnyH_done (by kernel_rfl) ?_ _
    go_wp2_with (fail)
    have hb7 := below_setCells hb6.drew (Nat.le_refl _) lwZ.toList
    have hz7 := setCells_all (w := (X2).drew) hz6 lwZ.toList rfl
    generalize hW7 : World.setCells _ _ _ _ = W7
    have hz8 : W7.heap[w.heap.size]? = some (.cells lwZ 49 (0, 0)) := by rw [← hW7]; exact hz7
    have hb8 : Below w.heap.size w W7 := by rw [← hW7]; exact hb7
    exact bodyPost_ret (results_cell_row3d rfl _ _ w.heap.size 49 _ (0, 0) _ rfl hz8 Tryz.underlying49 rfl (by kernel_rfl)) rfl ⟨_, _, _, _, rfl, exAt0 _ _, hb8⟩
  · skip
    have e9' : ((i : Int) != (T.length : Int)) = false := by simpa using eq_of_beq e9
    obtain rfl : i = T.length := by have := eq_of_beq e9; omega
    rw [finD_ok] at hR
    subst hR
    have hz6 : X.heap[w.heap.size]? = some (.cells lwZ 49 (0, 0)) := (F7.st.block _ (by omega) (by omega) (by omega)).trans hzV
    have hb6 := (F7).out bV (by omega) (by omega)
    obtain ⟨x0, x1, x2, x3, hl6, hx6⟩ := F7.ln
    obtain ⟨o, k, s', A', q, c', hC⟩ := hx6.cells
    obtain ⟨rfl, rfl, rfl, rfl⟩ := agg4 hC
    clear hC
    go_wp2_with (first
      | rw [← hX.out]
      | (refine wpList_load_blk rfl 49 (.tmp 7) rfl (w.heap.size + 2) (by rfl) _ hl6 _ Tryz.underlying49 rfl (by kernel_rfl) ?_)
      | (refine wpList_store_blk rfl 49 (.tmp 2) (.tmp 163) rfl w.heap.size (lwC y (.int .i64 o) (.int .i64 k) (.string (tx s')) (.slice A' q c')) (by rfl) (by rfl) hz6 rfl (by kernel_rfl) (lwC_one _ _ _ _ _ _ _) ?_))
    have hz7 := setCells_all hz6 (lwC y (.int .i64 o) (.int .i64 k) (.string (tx s')) (.slice A' q c')).toList rfl
    have hb7 := below_setCells hb6 (Nat.le_refl _) (lwC y (.int .i64 o) (.int .i64 k) (.string (tx s')) (.slice A' q c')).toList
    have hx7 : ExAt ((X).setCells w.heap.size 0 (lwC y (.int .i64 o) (.int .i64 k) (.string (tx s')) (.slice A' q c')).toList) (fun j => w.heap.size ≤ j ∧ j < ((X).setCells w.heap.size 0 (lwC y (.int .i64 o) (.int .i64 k) (.string (tx s')) (.slice A' q c')).toList).heap.size) y.ex (.agg #[.int .i64 o, .int .i64 k, .string (tx s'), .slice A' q c']) := ExAt.keep (fun q hq => ⟨by omega, by rw [(setCells_heap _ _ _ _).2.1]; exact hq.2⟩) (fun q hq => (setCells_heap _ _ _ _).1 q (by omega)) _ _ hx6
    generalize hW7 : World.setCells _ _ _ _ = W7
    have hz8 : W7.heap[w.heap.size]? = some (.cells (lwC y (.int .i64 o) (.int .i64 k) (.string (tx s')) (.slice A' q c')) 49 (0, 0)) := by rw [← hW7]; exact hz7
    have hb8 : Below w.heap.size w W7 := by rw [← hW7]; exact hb7
    have e7 : W7 = (X).setCells w.heap.size 0 (lwC y (.int .i64 o) (.int .i64 k) (.string (tx s')) (.slice A' q c')).toList := hW7.symm
    subst e7
    exact bodyPost_ret (results_cell_row3d rfl _ _ w.heap.size 49 _ (0, 0) _ rfl hz8 Tryz.underlying49 rfl (by kernel_rfl)) rfl ⟨_, _, _, _, rfl, hx7, hb8⟩
end Go.Proofs.YtpdkpkabdkefcaaGreatDoor
