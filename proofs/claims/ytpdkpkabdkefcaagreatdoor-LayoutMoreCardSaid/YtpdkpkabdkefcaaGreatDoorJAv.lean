/- For the seat: texts joined: RqLa, RqLe, RqLh. -/
import Derived.Test.YtpdkpkabdkefcaaGreatDoorJAj
import Derived.Test.YtpdkpkabdkefcaaGreatDoorJAq
set_option maxRecDepth 100000
namespace Go.Proofs.YtpdkpkabdkefcaaGreatDoor
open Go.Sx Go.ChangeShapes Go.WideShapes Go.RowKit Go.Joins Go.Deep Go.Rp
set_option maxHeartbeats 8000000 in
theorem dirB (T : List Tok) (hT : T.length ≤ 900000) (hT2 : ∀ t ∈ T, t.t.length ≤ 1000000000000) (hne : T ≠ []) (A : Option Addr) (cap : Nat) (w : World) (hA : RAt tokE w w.heap.size A T)(hw : (tokA T 0).t = [46, 108, 116, 111, 114, 103]) :
    Calls Tryz.prog 77 #[.slice A T.length cap] w (DirPost (dirP T) w) := by
  have hR0 : dirP T = finD T (⟨1, 0⟩, { lw0 with k := 5 }) := by
    unfold dirP
    rw [hw, if_neg (by decide), if_pos rfl]
  generalize dirP T = R at hR0
  have HR0 := Lib.hid hR0
  clear hR0
  obtain ⟨t0, T1, hTc⟩ : ∃ t0 T1, T = t0 :: T1 := by cases T with | nil => exact absurd rfl hne | cons a l => exact ⟨a, l, rfl⟩
  have ht0 : tokA T 0 = t0 := by rw [hTc]; rfl
  have hlen : 1 ≤ T.length := by rw [hTc]; simp
  obtain ⟨g0, off, rfl, hg0, hc0⟩ := hA.at_ (k := 0) (by omega)
  have cw : w.cell? ⟨g0, off + 2, none⟩ = some (.string (tx t0.t)) := by
    have h := hc0 2 (.string (tx t0.t)) (by have : T[0]'(by omega) = t0 := by simp only [hTc]; rfl
                                            rw [this]; rfl)
    simpa using h
  clear hc0 hTc T1
  rw [ht0] at hw
  try rw [ht0] at HR0
  clear ht0
  generalize t0.t = s at cw hw HR0
  clear t0
  have HW := Lib.hid hw
  clear hw
  obtain ⟨W1, hW1⟩ : ∃ W1, Hid (W1 = w.alloc (.cells lwZ 49)) := ⟨_, Lib.hid rfl⟩
  have b1 : Below w.heap.size w W1 := by rw [hW1.out]; exact (Below.refl _ _).alloc (Nat.le_refl _) _
  have hz1 : W1.heap[w.heap.size]? = some (.cells lwZ 49 (0, 0)) := by rw [hW1.out]; exact heap_alloc_new w _
  have hs1 : W1.heap.size = w.heap.size + 1 := by rw [hW1.out]; simp
  have cw1 : W1.cell? ⟨g0, off + 2, none⟩ = some (.string (tx s)) := (b1.cell (p := ⟨g0, off + 2, none⟩) hg0).trans cw
  have hs2 : (W1.alloc (.cells #[.slice (some ⟨g0, off, none⟩) T.length cap, .int .i64 1, .int .i64 0] 117)).heap.size = w.heap.size + 2 := by simp [hs1]
  have hn3 := heap_alloc_new (W1.alloc (.cells #[.slice (some ⟨g0, off, none⟩) T.length cap, .int .i64 1, .int .i64 0] 117)) (.cells lwZ 49)
  rw [hs2] at hn3
  have hth := there_of hn3
  obtain ⟨V, hV⟩ : ∃ V, Hid (V = ((W1.alloc (.cells #[.slice (some ⟨g0, off, none⟩) T.length cap, .int .i64 1, .int .i64 0] 117)).alloc (.cells lwZ 49)).setCells (w.heap.size + 2) 0 lwZ.toList) := ⟨_, Lib.hid rfl⟩
  have b2 : Below W1.heap.size W1 V := by rw [hV.out]; exact below_setCells (((Below.refl _ _).alloc (Nat.le_refl _) _).alloc (by simp) _) (by omega) _
  have bV : Below w.heap.size w V := b1.trans (b2.mono b1.size)
  have hzV : V.heap[w.heap.size]? = some (.cells lwZ 49 (0, 0)) := (b2.block _ (by omega)).trans hz1
  have hsV : V.heap.size = w.heap.size + 3 := by rw [hV.out, (setCells_heap _ _ _ _).2.1]; simp [hs1]
  have hbg : w.heap.size + 1 < w.heap.size + 2 := by omega
  have F0 : Fill T (w.heap.size + 1) (w.heap.size + 2) (some ⟨g0, off, none⟩) cap V V (⟨1, 0⟩, lw0) := by
    refine ⟨⟨?_, (hA.below bV (Nat.le_refl _)).more (by omega)⟩, ⟨_, _, _, _, ?_, exAt0 _ _⟩, hlen, Stay2.refl _ _ _⟩
    · rw [hV.out, (setCells_heap _ _ _ _).1 _ (by omega)]
      have h := alloc_blk (heap_alloc_new W1 (.cells #[.slice (some ⟨g0, off, none⟩) T.length cap, .int .i64 1, .int .i64 0] 117)) (.cells lwZ 49)
      rw [hs1] at h
      exact h
    · rw [hV.out]; exact setCells_all hn3 lwZ.toList rfl
  clear hz1 b2
  go_enter Tryz.func77, Tryz.ntmps77
  go_wp2_with (first
    | (refine wpList_allocW rfl (.cells lwZ 49) w.heap.size rfl (alloc_line _ _ _ _ _ _) ?_; rw [← hW1.out])
    | (refine wpList_allocW rfl (.cells lwZ 49) (w.heap.size + 2) hs2 (alloc_line _ _ _ _ _ _) ?_; refine wpList_store_mid rfl 49 (.tmp 7) (.tmp 17) rfl (w.heap.size + 2) 0 lwZ (by rfl) (by rfl) hth (by kernel_rfl) (lwC_one _ _ _ _ _ _ _) ?_; rw [← hV.out]))
  clear hn3 hth hs2 hV hW1 cw1 hs1 b1
  have hw := HW.out
  clear HW
  have z1 : decide (0 < sizeP s) = false := by rw [hw]; decide
  have z2 : (s == [46, 108, 116, 111, 114, 103]) = true := by rw [hw]; decide
  clear hw
  try unfold stTerm at HR0
  obtain ⟨a1, a2, a3, a4, a5, a6, a7, a8, a9, a10⟩ := F0.ci
  have zz := fun j => F0.ln.fz j
  ((with_reducible refine (size19 _ _).mono ?_); rintro e w1 ⟨rfl, hw1⟩); rw [hw1]; clear hw1 w1
  have F2 : Fill T (w.heap.size + 1) (w.heap.size + 2) (some ⟨g0, off, none⟩) cap V (V.setCell ⟨w.heap.size + 2, 1, none⟩ (.int .i64 5)) ((⟨1, 0⟩, { lw0 with k := 5 })) := F0.setK hbg 5
  generalize hp : (((⟨1, 0⟩, { lw0 with k := 5 })) : Fs) = p at F2 HR0
  obtain ⟨⟨i, er⟩, y⟩ := p
  clear hp
  have HR := HR0
  clear HR0
  obtain ⟨X, hX⟩ : ∃ X, Hid (X = (V.setCell ⟨w.heap.size + 2, 1, none⟩ (.int .i64 5))) := ⟨_, Lib.hid rfl⟩
  rw [← hX.out] at F2
  have c1 := F2.rd.c1
  have c2' := F2.rd.c2
  dsimp only at c1 c2'
  have hR := HR.out
  clear HR
  cases e0 : (er == 0)
  · skip
    have e0' : (er != 0) = true := by simpa using ne_of_beq_false e0
    rw [finD_bad (ne_of_beq_false e0)] at hR
    subst hR
    clear c1 c2'
    have c2 := F2.rd.c2
    dsimp only at c2
    go_wp2_with (first | rw [← hX.out] | fail)
    have hz6 : X.heap[w.heap.size]? = some (.cells lwZ 49 (0, 0)) := (F2.st.block _ (by omega) (by omega) (by omega)).trans hzV
    have hb6 := Fill.out F2 bV (by omega) (by omega)
    have hth6 := there_of (w := (X).drew) hz6
    have hc7 : ((X).drew.setCells w.heap.size 0 lwZ.toList).cell? ⟨w.heap.size + 1, 2, none⟩ = some (.int .i64 er) := (World.cell?_of_block ((setCells_heap w.heap.size lwZ.toList 0 (X).drew).1 _ (by simp))).trans c2
    refine wp_region_held_drew (S := (fun w' => w'.cell? ⟨(w.heap.size + 1), 2, none⟩ = some (.int .i64 er))) (by kernel_rfl) c2 (fun hHeld => ?_)
    refine wpAnyH_take (i := 0) (oi := ⟨some 156, .build 49 #[], 49, _, _, none⟩) (v := .agg lwZ) rfl (by kernel_rfl) (by kernel_rfl) (by kernel_rfl) (fun _ _ _ h => h) (Or.inl ⟨by rfl, fun _ _ => by kernel_rfl⟩) (by assumption) ?_
    simp only [Act.put, List.setIfInBounds_toArray, List.set_cons_zero, List.set_cons_succ]
    refine wpAnyH_take (i := 1) (oi := ⟨some 157, .move (.tmp 6), _, _, _, none⟩) (v := .pointer (some ⟨(w.heap.size + 1), 0, none⟩)) rfl (by kernel_rfl) (by kernel_rfl) (by kernel_rfl) (fun _ _ _ h => h) (Or.inl ⟨by rfl, fun _ _ => by kernel_rfl⟩) (by assumption) ?_
    simp only [Act.put, List.setIfInBounds_toArray, List.set_cons_zero, List.set_cons_succ]
    refine wpAnyH_take (i := 2) (oi := ⟨some 158, .nilCheck (.tmp 157), _, _, _, none⟩) (v := .pointer (some ⟨(w.heap.size + 1), 0, none⟩)) rfl (by kernel_rfl) (by kernel_rfl) (by kernel_rfl) (fun _ _ _ h => h) (Or.inl ⟨by rfl, fun _ _ => by kernel_rfl⟩) (by assumption) ?_
    simp only [Act.put, List.setIfInBounds_toArray, List.set_cons_zero, List.set_cons_succ]
    refine wpAnyH_take (i := 3) (oi := ⟨some 159, .fieldAddr 117 (.tmp 158) 2, _, _, _, none⟩) (v := .pointer (some ⟨(w.heap.size + 1), 2, none⟩)) rfl (by kernel_rfl) (by kernel_rfl) (by kernel_rfl) (fun _ _ _ h => h) (Or.inl ⟨by rfl, fun _ _ => by kernel_rfl⟩) (by assumption) ?_
    simp only [Act.put, List.setIfInBounds_toArray, List.set_cons_zero, List.set_cons_succ]
    refine wpAnyH_take (i := 4) (oi := ⟨some 160, .load _ (.tmp 159), _, _, _, none⟩) (v := .int .i64 er) rfl (by kernel_rfl) (by kernel_rfl) (by kernel_rfl) (fun _ _ _ h => h) (Or.inl ⟨by rfl, fun w' h => by go_simp⟩) (by assumption) ?_
    simp only [Act.put, List.setIfInBounds_toArray, List.set_cons_zero, List.set_cons_succ]
    refine ready_one (i := 5) (o := ⟨none, .store 49 (.tmp 2) (.tmp 156), _, _, _, none⟩) (by kernel_rfl) rfl rfl (fun K hK => ?_)
    refine wp_store_mid 49 (.tmp 2) (.tmp 156) rfl w.heap.size 0 lwZ rfl rfl hth6 (by kernel_rfl) (lwC_one _ _ _ _ _ _ _) ?_
    refine hK.out _ _ hc7 (fun hHeld => ?_)
    refine wpAnyH_take (i := 6) (oi := ⟨some 3, .assign (.const (.bool true)), _, _, _, none⟩) (v := .bool true) rfl (by kernel_rfl) (by kernel_rfl) (by kernel_rfl) (fun _ _ _ h => h) (Or.inl ⟨by rfl, fun _ _ => by kernel_rfl⟩) (by assumption) ?_
    simp only [Act.put, List.setIfInBounds_toArray, List.set_cons_zero, List.set_cons_succ]
    refine wpAnyH_take (i := 7) (oi := ⟨some 4, .assign (.tmp 160), _, _, _, none⟩) (v := .int .i64 er) rfl (by kernel_rfl) (by kernel_rfl) (by kernel_rfl) (fun _ _ _ h => h) (Or.inl ⟨by rfl, fun _ _ => by kernel_rfl⟩) (by assumption) ?_
    simp only [Act.put, List.setIfInBounds_toArray, List.set_cons_zero, List.set_cons_succ]
    refine wpAnyH_done (by kernel_rfl) ?_ _
    go_wp2_with (fail)
    have hb7 := below_setCells hb6.drew (Nat.le_refl _) lwZ.toList
    have hz7 := setCells_all (w := (X).drew) hz6 lwZ.toList rfl
    generalize hW7 : World.setCells _ _ _ _ = W7
    have hz8 : W7.heap[w.heap.size]? = some (.cells lwZ 49 (0, 0)) := by rw [← hW7]; exact hz7
    have hb8 : Below w.heap.size w W7 := by rw [← hW7]; exact hb7
    exact bodyPost_ret (results_cell_row3d rfl _ _ w.heap.size 49 _ (0, 0) _ rfl hz8 Tryz.underlying49 rfl (by kernel_rfl)) rfl ⟨_, _, _, _, rfl, exAt0 _ _, hb8⟩
  obtain rfl := eq_of_beq e0
  have e0' : ((0 : Int) != 0) = false := rfl
  cases e9 : ((i : Int) == (T.length : Int))
  · skip
    have e9' : ((i : Int) != (T.length : Int)) = true := by simpa using ne_of_beq_false e9
    rw [finD_end (by have := ne_of_beq_false e9; omega)] at hR
    subst hR
    have f2 := F2.rd.fz 2
    have FE := F2.setErr hbg 3
    have e3' : ((3 : Int) != 0) = true := rfl
    have c2 := FE.rd.c2
    dsimp only at c2
    go_wp2_with (first | rw [← hX.out] | fail)
    generalize hX2 : (X.setCell ⟨w.heap.size + 1, 2, none⟩ (.int .i64 3)) = X2 at FE c2 ⊢
    clear hX2
    have hz6 : X2.heap[w.heap.size]? = some (.cells lwZ 49 (0, 0)) := (FE.st.block _ (by omega) (by omega) (by omega)).trans hzV
    have hb6 := Fill.out FE bV (by omega) (by omega)
    have hth6 := there_of (w := (X2).drew) hz6
    have hc7 : ((X2).drew.setCells w.heap.size 0 lwZ.toList).cell? ⟨w.heap.size + 1, 2, none⟩ = some (.int .i64 3) := (World.cell?_of_block ((setCells_heap w.heap.size lwZ.toList 0 (X2).drew).1 _ (by simp))).trans c2
    refine wp_region_held_drew (S := (fun w' => w'.cell? ⟨(w.heap.size + 1), 2, none⟩ = some (.int .i64 3))) (by kernel_rfl) c2 (fun hHeld => ?_)
    refine wpAnyH_take (i := 0) (oi := ⟨some 156, .build 49 #[], 49, _, _, none⟩) (v := .agg lwZ) rfl (by kernel_rfl) (by kernel_rfl) (by kernel_rfl) (fun _ _ _ h => h) (Or.inl ⟨by rfl, fun _ _ => by kernel_rfl⟩) (by assumption) ?_
    simp only [Act.put, List.setIfInBounds_toArray, List.set_cons_zero, List.set_cons_succ]
    refine wpAnyH_take (i := 1) (oi := ⟨some 157, .move (.tmp 6), _, _, _, none⟩) (v := .pointer (some ⟨(w.heap.size + 1), 0, none⟩)) rfl (by kernel_rfl) (by kernel_rfl) (by kernel_rfl) (fun _ _ _ h => h) (Or.inl ⟨by rfl, fun _ _ => by kernel_rfl⟩) (by assumption) ?_
    simp only [Act.put, List.setIfInBounds_toArray, List.set_cons_zero, List.set_cons_succ]
    refine wpAnyH_take (i := 2) (oi := ⟨some 158, .nilCheck (.tmp 157), _, _, _, none⟩) (v := .pointer (some ⟨(w.heap.size + 1), 0, none⟩)) rfl (by kernel_rfl) (by kernel_rfl) (by kernel_rfl) (fun _ _ _ h => h) (Or.inl ⟨by rfl, fun _ _ => by kernel_rfl⟩) (by assumption) ?_
    simp only [Act.put, List.setIfInBounds_toArray, List.set_cons_zero, List.set_cons_succ]
    refine wpAnyH_take (i := 3) (oi := ⟨some 159, .fieldAddr 117 (.tmp 158) 2, _, _, _, none⟩) (v := .pointer (some ⟨(w.heap.size + 1), 2, none⟩)) rfl (by kernel_rfl) (by kernel_rfl) (by kernel_rfl) (fun _ _ _ h => h) (Or.inl ⟨by rfl, fun _ _ => by kernel_rfl⟩) (by assumption) ?_
    simp only [Act.put, List.setIfInBounds_toArray, List.set_cons_zero, List.set_cons_succ]
    refine wpAnyH_take (i := 4) (oi := ⟨some 160, .load _ (.tmp 159), _, _, _, none⟩) (v := .int .i64 3) rfl (by kernel_rfl) (by kernel_rfl) (by kernel_rfl) (fun _ _ _ h => h) (Or.inl ⟨by rfl, fun w' h => by go_simp⟩) (by assumption) ?_
    simp only [Act.put, List.setIfInBounds_toArray, List.set_cons_zero, List.set_cons_succ]
    refine ready_one (i := 5) (o := ⟨none, .store 49 (.tmp 2) (.tmp 156), _, _, _, none⟩) (by kernel_rfl) rfl rfl (fun K hK => ?_)
    refine wp_store_mid 49 (.tmp 2) (.tmp 156) rfl w.heap.size 0 lwZ rfl rfl hth6 (by kernel_rfl) (lwC_one _ _ _ _ _ _ _) ?_
    refine hK.out _ _ hc7 (fun hHeld => ?_)
    refine wpAnyH_take (i := 6) (oi := ⟨some 3, .assign (.const (.bool true)), _, _, _, none⟩) (v := .bool true) rfl (by kernel_rfl) (by kernel_rfl) (by kernel_rfl) (fun _ _ _ h => h) (Or.inl ⟨by rfl, fun _ _ => by kernel_rfl⟩) (by assumption) ?_
    simp only [Act.put, List.setIfInBounds_toArray, List.set_cons_zero, List.set_cons_succ]
    refine wpAnyH_take (i := 7) (oi := ⟨some 4, .assign (.tmp 160), _, _, _, none⟩) (v := .int .i64 3) rfl (by kernel_rfl) (by kernel_rfl) (by kernel_rfl) (fun _ _ _ h => h) (Or.inl ⟨by rfl, fun _ _ => by kernel_rfl⟩) (by assumption) ?_
    simp only [Act.put, List.setIfInBounds_toArray, List.set_cons_zero, List.set_cons_succ]
    refine wpAnyH_done (by kernel_rfl) ?_ _
    go_wp2_with (fail)
    have hb7 := below_setCells hb6.drew (Nat.le_refl _) lwZ.toList
    have hz7 := setCells_all (w := (X2).drew) hz6 lwZ.toList rfl
    generalize hW7 : World.setCells _ _ _ _ = W7
    have hz8 : W7.heap[w.heap.size]? = some (.cells lwZ 49 (0, 0)) := by rw [← hW7]; exact hz7
    have hb8 : Below w.heap.size w W7 := by rw [← hW7]; exact hb7
    exact bodyPost_ret (results_cell_row3d rfl _ _ w.heap.size 49 _ (0, 0) _ rfl hz8 Tryz.underlying49 rfl (by kernel_rfl)) rfl ⟨_, _, _, _, rfl, exAt0 _ _, hb8⟩
  · skip
    have e9' : ((i : Int) != (T.length : Int)) = false := by simpa using eq_of_beq e9
    obtain rfl : i = T.length := by have := eq_of_beq e9; omega
    rw [finD_ok] at hR
    subst hR
    have hz6 : X.heap[w.heap.size]? = some (.cells lwZ 49 (0, 0)) := (F2.st.block _ (by omega) (by omega) (by omega)).trans hzV
    have hb6 := Fill.out F2 bV (by omega) (by omega)
    obtain ⟨x0, x1, x2, x3, hl6, hx6⟩ := F2.ln
    obtain ⟨o, k, s', A', q, c', hC⟩ := hx6.cells
    obtain ⟨rfl, rfl, rfl, rfl⟩ := agg4 hC
    clear hC
    go_wp2_with (first
      | rw [← hX.out]
      | (refine wpList_load_blk rfl 49 (.tmp 7) rfl (w.heap.size + 2) (by rfl) _ hl6 _ Tryz.underlying49 rfl (by kernel_rfl) ?_)
      | (refine wpList_store_blk rfl 49 (.tmp 2) (.tmp 163) rfl w.heap.size (lwC y (.int .i64 o) (.int .i64 k) (.string (tx s')) (.slice A' q c')) (by rfl) (by rfl) hz6 rfl (by kernel_rfl) (lwC_one _ _ _ _ _ _ _) ?_))
    have hz7 := setCells_all hz6 (lwC y (.int .i64 o) (.int .i64 k) (.string (tx s')) (.slice A' q c')).toList rfl
    have hb7 := below_setCells hb6 (Nat.le_refl _) (lwC y (.int .i64 o) (.int .i64 k) (.string (tx s')) (.slice A' q c')).toList
    have hx7 : ExAt ((X).setCells w.heap.size 0 (lwC y (.int .i64 o) (.int .i64 k) (.string (tx s')) (.slice A' q c')).toList) (fun j => w.heap.size ≤ j ∧ j < ((X).setCells w.heap.size 0 (lwC y (.int .i64 o) (.int .i64 k) (.string (tx s')) (.slice A' q c')).toList).heap.size) y.ex (.agg #[.int .i64 o, .int .i64 k, .string (tx s'), .slice A' q c']) := ExAt.keep (fun q hq => ⟨by omega, by rw [(setCells_heap _ _ _ _).2.1]; exact hq.2⟩) (fun q hq => (setCells_heap _ _ _ _).1 q (by omega)) _ _ hx6
    generalize hW7 : World.setCells _ _ _ _ = W7
    have hz8 : W7.heap[w.heap.size]? = some (.cells (lwC y (.int .i64 o) (.int .i64 k) (.string (tx s')) (.slice A' q c')) 49 (0, 0)) := by rw [← hW7]; exact hz7
    have hb8 : Below w.heap.size w W7 := by rw [← hW7]; exact hb7
    have e7 : W7 = (X).setCells w.heap.size 0 (lwC y (.int .i64 o) (.int .i64 k) (.string (tx s')) (.slice A' q c')).toList := hW7.symm
    subst e7
    exact bodyPost_ret (results_cell_row3d rfl _ _ w.heap.size 49 _ (0, 0) _ rfl hz8 Tryz.underlying49 rfl (by kernel_rfl)) rfl ⟨_, _, _, _, rfl, hx7, hb8⟩
end Go.Proofs.YtpdkpkabdkefcaaGreatDoor
namespace Go.Proofs.YtpdkpkabdkefcaaGreatDoor
open Go.Sx Go.ChangeShapes Go.WideShapes Go.RowKit Go.Joins Go.Deep Go.Rp
set_option maxHeartbeats 8000000 in
theorem dirE (T : List Tok) (hT : T.length ≤ 900000) (hT2 : ∀ t ∈ T, t.t.length ≤ 1000000000000) (hne : T ≠ []) (A : Option Addr) (cap : Nat) (w : World) (hA : RAt tokE w w.heap.size A T)(hw : ¬ 0 < sizeP (tokA T 0).t ∧ (tokA T 0).t ≠ [46, 108, 116, 111, 114, 103] ∧ (tokA T 0).t ≠ [46, 101, 113, 117] ∧ ((tokA T 0).t = [46, 97, 108, 105, 103, 110] ∨ (tokA T 0).t = [46, 115, 112, 97, 99, 101]) ∧ T.length = 2 ∧ (tokA T 1).k ≠ 2) :
    Calls Tryz.prog 77 #[.slice A T.length cap] w (DirPost (dirP T) w) := by
  have hR0 : dirP T = (lw0, true, 3) := by
    unfold dirP
    rw [if_neg hw.1, if_neg hw.2.1, if_neg hw.2.2.1, if_pos hw.2.2.2.1, if_pos (.inr hw.2.2.2.2.2)]
  generalize dirP T = R at hR0
  have HR0 := Lib.hid hR0
  clear hR0
  obtain ⟨t0, T1, hTc⟩ : ∃ t0 T1, T = t0 :: T1 := by cases T with | nil => exact absurd rfl hne | cons a l => exact ⟨a, l, rfl⟩
  have ht0 : tokA T 0 = t0 := by rw [hTc]; rfl
  have hlen : 1 ≤ T.length := by rw [hTc]; simp
  obtain ⟨g0, off, rfl, hg0, hc0⟩ := hA.at_ (k := 0) (by omega)
  have cw : w.cell? ⟨g0, off + 2, none⟩ = some (.string (tx t0.t)) := by
    have h := hc0 2 (.string (tx t0.t)) (by have : T[0]'(by omega) = t0 := by simp only [hTc]; rfl
                                            rw [this]; rfl)
    simpa using h
  clear hc0 hTc T1
  rw [ht0] at hw
  try rw [ht0] at HR0
  clear ht0
  generalize t0.t = s at cw hw HR0
  clear t0
  have HW := Lib.hid hw
  clear hw
  obtain ⟨W1, hW1⟩ : ∃ W1, Hid (W1 = w.alloc (.cells lwZ 49)) := ⟨_, Lib.hid rfl⟩
  have b1 : Below w.heap.size w W1 := by rw [hW1.out]; exact (Below.refl _ _).alloc (Nat.le_refl _) _
  have hz1 : W1.heap[w.heap.size]? = some (.cells lwZ 49 (0, 0)) := by rw [hW1.out]; exact heap_alloc_new w _
  have hs1 : W1.heap.size = w.heap.size + 1 := by rw [hW1.out]; simp
  have cw1 : W1.cell? ⟨g0, off + 2, none⟩ = some (.string (tx s)) := (b1.cell (p := ⟨g0, off + 2, none⟩) hg0).trans cw
  have hs2 : (W1.alloc (.cells #[.slice (some ⟨g0, off, none⟩) T.length cap, .int .i64 1, .int .i64 0] 117)).heap.size = w.heap.size + 2 := by simp [hs1]
  have hn3 := heap_alloc_new (W1.alloc (.cells #[.slice (some ⟨g0, off, none⟩) T.length cap, .int .i64 1, .int .i64 0] 117)) (.cells lwZ 49)
  rw [hs2] at hn3
  have hth := there_of hn3
  obtain ⟨V, hV⟩ : ∃ V, Hid (V = ((W1.alloc (.cells #[.slice (some ⟨g0, off, none⟩) T.length cap, .int .i64 1, .int .i64 0] 117)).alloc (.cells lwZ 49)).setCells (w.heap.size + 2) 0 lwZ.toList) := ⟨_, Lib.hid rfl⟩
  have b2 : Below W1.heap.size W1 V := by rw [hV.out]; exact below_setCells (((Below.refl _ _).alloc (Nat.le_refl _) _).alloc (by simp) _) (by omega) _
  have bV : Below w.heap.size w V := b1.trans (b2.mono b1.size)
  have hzV : V.heap[w.heap.size]? = some (.cells lwZ 49 (0, 0)) := (b2.block _ (by omega)).trans hz1
  have hsV : V.heap.size = w.heap.size + 3 := by rw [hV.out, (setCells_heap _ _ _ _).2.1]; simp [hs1]
  have hbg : w.heap.size + 1 < w.heap.size + 2 := by omega
  have F0 : Fill T (w.heap.size + 1) (w.heap.size + 2) (some ⟨g0, off, none⟩) cap V V (⟨1, 0⟩, lw0) := by
    refine ⟨⟨?_, (hA.below bV (Nat.le_refl _)).more (by omega)⟩, ⟨_, _, _, _, ?_, exAt0 _ _⟩, hlen, Stay2.refl _ _ _⟩
    · rw [hV.out, (setCells_heap _ _ _ _).1 _ (by omega)]
      have h := alloc_blk (heap_alloc_new W1 (.cells #[.slice (some ⟨g0, off, none⟩) T.length cap, .int .i64 1, .int .i64 0] 117)) (.cells lwZ 49)
      rw [hs1] at h
      exact h
    · rw [hV.out]; exact setCells_all hn3 lwZ.toList rfl
  clear hz1 b2
  go_enter Tryz.func77, Tryz.ntmps77
  go_wp2_with (first
    | (refine wpList_allocW rfl (.cells lwZ 49) w.heap.size rfl (alloc_line _ _ _ _ _ _) ?_; rw [← hW1.out])
    | (refine wpList_allocW rfl (.cells lwZ 49) (w.heap.size + 2) hs2 (alloc_line _ _ _ _ _ _) ?_; refine wpList_store_mid rfl 49 (.tmp 7) (.tmp 17) rfl (w.heap.size + 2) 0 lwZ (by rfl) (by rfl) hth (by kernel_rfl) (lwC_one _ _ _ _ _ _ _) ?_; rw [← hV.out]))
  clear hn3 hth hs2 hV hW1 cw1 hs1 b1
  have hw := HW.out
  clear HW
  have z1 : decide (0 < sizeP s) = false := decide_eq_false (by have := hw.1; omega)
  have z2 : (s == [46, 108, 116, 111, 114, 103]) = false := by simpa using hw.2.1
  have z3 : (s == [46, 101, 113, 117]) = false := by simpa using hw.2.2.1
  have hl : ((T.length : Int) != 2) = false := by have := hw.2.2.2.2.1; simp; omega
  have h2 : 2 ≤ T.length := by have := hw.2.2.2.2.1; omega
  obtain ⟨g1, off1, hA1, _, hc1⟩ := hA.at_ (k := 1) (by omega)
  simp only [Option.some.injEq, Addr.mk.injEq, and_true] at hA1
  obtain ⟨rfl, rfl⟩ := hA1
  have ht1 : tokA T 1 = T[1]'(by omega) := by unfold tokA; rw [List.getD_eq_getElem?_getD, List.getElem?_eq_getElem (by omega)]; rfl
  have c3 : V.cell? ⟨g0, off + 3, none⟩ = some (.int .i64 (tokA T 1).k) := by
    rw [ht1]
    have h := (bV.cell (p := ⟨g0, off + 1 * tokE.z + 0, none⟩) hg0).trans (hc1 0 (.int .i64 (T[1]'(by omega)).k) rfl)
    exact h
  have c4 : V.cell? ⟨g0, off + 3 + 1, none⟩ = some (.int .i64 (tokA T 1).n) := by
    rw [ht1]
    have h := (bV.cell (p := ⟨g0, off + 1 * tokE.z + 1, none⟩) hg0).trans (hc1 1 (.int .i64 (T[1]'(by omega)).n) rfl)
    exact h
  clear hc1 ht1
  have z6 : ((tokA T 1).k != 2) = true := by have := hw.2.2.2.2.2; simpa using this
  cases z4 : (s == [46, 97, 108, 105, 103, 110])
  · have z5 : (s == [46, 115, 112, 97, 99, 101]) = true := by simpa using hw.2.2.2.1.resolve_left (by simpa using z4)
    clear hw
    generalize (tokA T 1).k = k1 at c3 z6
    clear c4
    ((with_reducible refine (size19 _ _).mono ?_); rintro e w1 ⟨rfl, hw1⟩); rw [hw1]; clear hw1 w1
    generalize sizeP s = z at z1 ⊢
    have hR := HR0.out
    subst hR
    clear HR0
    have hth := there_of hzV
    go_wp2_with (first | (refine wpList_store_mid rfl 49 (.tmp 2) (.tmp 107) rfl w.heap.size 0 lwZ (by rfl) (by rfl) hth (by kernel_rfl) (lwC_one _ _ _ _ _ _ _) ?_) | fail)
    have hb7 := below_setCells bV (Nat.le_refl _) lwZ.toList
    have hz7 := setCells_all hzV lwZ.toList rfl
    generalize hW7 : World.setCells _ _ _ _ = W7
    have hz8 : W7.heap[w.heap.size]? = some (.cells lwZ 49 (0, 0)) := by rw [← hW7]; exact hz7
    have hb8 : Below w.heap.size w W7 := by rw [← hW7]; exact hb7
    exact bodyPost_ret (results_cell_row3d rfl _ _ w.heap.size 49 _ (0, 0) _ rfl hz8 Tryz.underlying49 rfl (by kernel_rfl)) rfl ⟨_, _, _, _, rfl, exAt0 _ _, hb8⟩
  · skip
    clear hw
    generalize (tokA T 1).k = k1 at c3 z6
    clear c4
    ((with_reducible refine (size19 _ _).mono ?_); rintro e w1 ⟨rfl, hw1⟩); rw [hw1]; clear hw1 w1
    generalize sizeP s = z at z1 ⊢
    have hR := HR0.out
    subst hR
    clear HR0
    have hth := there_of hzV
    go_wp2_with (first | (refine wpList_store_mid rfl 49 (.tmp 2) (.tmp 107) rfl w.heap.size 0 lwZ (by rfl) (by rfl) hth (by kernel_rfl) (lwC_one _ _ _ _ _ _ _) ?_) | fail)
    have hb7 := below_setCells bV (Nat.le_refl _) lwZ.toList
    have hz7 := setCells_all hzV lwZ.toList rfl
    generalize hW7 : World.setCells _ _ _ _ = W7
    have hz8 : W7.heap[w.heap.size]? = some (.cells lwZ 49 (0, 0)) := by rw [← hW7]; exact hz7
    have hb8 : Below w.heap.size w W7 := by rw [← hW7]; exact hb7
    exact bodyPost_ret (results_cell_row3d rfl _ _ w.heap.size 49 _ (0, 0) _ rfl hz8 Tryz.underlying49 rfl (by kernel_rfl)) rfl ⟨_, _, _, _, rfl, exAt0 _ _, hb8⟩
end Go.Proofs.YtpdkpkabdkefcaaGreatDoor
namespace Go.Proofs.YtpdkpkabdkefcaaGreatDoor
open Go.Sx Go.ChangeShapes Go.WideShapes Go.RowKit Go.Joins Go.Deep Go.Rp
set_option maxHeartbeats 8000000 in
theorem dirH (T : List Tok) (hT : T.length ≤ 900000) (hT2 : ∀ t ∈ T, t.t.length ≤ 1000000000000) (hne : T ≠ []) (A : Option Addr) (cap : Nat) (w : World) (hA : RAt tokE w w.heap.size A T)(hn1 : 0 ≤ (tokA T 1).n ∧ (tokA T 1).n < 4294967296) (hw : ¬ 0 < sizeP (tokA T 0).t ∧ (tokA T 0).t ≠ [46, 108, 116, 111, 114, 103] ∧ (tokA T 0).t ≠ [46, 101, 113, 117] ∧ (tokA T 0).t = [46, 115, 112, 97, 99, 101] ∧ T.length = 2 ∧ (tokA T 1).k = 2) :
    Calls Tryz.prog 77 #[.slice A T.length cap] w (DirPost (dirP T) w) := by
  have hR0 : dirP T = (if 1048576 < (tokA T 1).n then (lw0, true, 2) else ({ lw0 with k := 7, sz := (tokA T 1).n }, true, 0)) := by
    unfold dirP
    rw [if_neg hw.1, if_neg hw.2.1, if_neg hw.2.2.1, if_pos (.inr hw.2.2.2.1), if_neg (by rintro (h | h); exact h hw.2.2.2.2.1; exact h hw.2.2.2.2.2), if_neg (by rw [hw.2.2.2.1]; decide)]
  generalize dirP T = R at hR0
  have HR0 := Lib.hid hR0
  clear hR0
  obtain ⟨t0, T1, hTc⟩ : ∃ t0 T1, T = t0 :: T1 := by cases T with | nil => exact absurd rfl hne | cons a l => exact ⟨a, l, rfl⟩
  have ht0 : tokA T 0 = t0 := by rw [hTc]; rfl
  have hlen : 1 ≤ T.length := by rw [hTc]; simp
  obtain ⟨g0, off, rfl, hg0, hc0⟩ := hA.at_ (k := 0) (by omega)
  have cw : w.cell? ⟨g0, off + 2, none⟩ = some (.string (tx t0.t)) := by
    have h := hc0 2 (.string (tx t0.t)) (by have : T[0]'(by omega) = t0 := by simp only [hTc]; rfl
                                            rw [this]; rfl)
    simpa using h
  clear hc0 hTc T1
  rw [ht0] at hw
  try rw [ht0] at HR0
  clear ht0
  generalize t0.t = s at cw hw HR0
  clear t0
  have HW := Lib.hid hw
  clear hw
  obtain ⟨W1, hW1⟩ : ∃ W1, Hid (W1 = w.alloc (.cells lwZ 49)) := ⟨_, Lib.hid rfl⟩
  have b1 : Below w.heap.size w W1 := by rw [hW1.out]; exact (Below.refl _ _).alloc (Nat.le_refl _) _
  have hz1 : W1.heap[w.heap.size]? = some (.cells lwZ 49 (0, 0)) := by rw [hW1.out]; exact heap_alloc_new w _
  have hs1 : W1.heap.size = w.heap.size + 1 := by rw [hW1.out]; simp
  have cw1 : W1.cell? ⟨g0, off + 2, none⟩ = some (.string (tx s)) := (b1.cell (p := ⟨g0, off + 2, none⟩) hg0).trans cw
  have hs2 : (W1.alloc (.cells #[.slice (some ⟨g0, off, none⟩) T.length cap, .int .i64 1, .int .i64 0] 117)).heap.size = w.heap.size + 2 := by simp [hs1]
  have hn3 := heap_alloc_new (W1.alloc (.cells #[.slice (some ⟨g0, off, none⟩) T.length cap, .int .i64 1, .int .i64 0] 117)) (.cells lwZ 49)
  rw [hs2] at hn3
  have hth := there_of hn3
  obtain ⟨V, hV⟩ : ∃ V, Hid (V = ((W1.alloc (.cells #[.slice (some ⟨g0, off, none⟩) T.length cap, .int .i64 1, .int .i64 0] 117)).alloc (.cells lwZ 49)).setCells (w.heap.size + 2) 0 lwZ.toList) := ⟨_, Lib.hid rfl⟩
  have b2 : Below W1.heap.size W1 V := by rw [hV.out]; exact below_setCells (((Below.refl _ _).alloc (Nat.le_refl _) _).alloc (by simp) _) (by omega) _
  have bV : Below w.heap.size w V := b1.trans (b2.mono b1.size)
  have hzV : V.heap[w.heap.size]? = some (.cells lwZ 49 (0, 0)) := (b2.block _ (by omega)).trans hz1
  have hsV : V.heap.size = w.heap.size + 3 := by rw [hV.out, (setCells_heap _ _ _ _).2.1]; simp [hs1]
  have hbg : w.heap.size + 1 < w.heap.size + 2 := by omega
  have F0 : Fill T (w.heap.size + 1) (w.heap.size + 2) (some ⟨g0, off, none⟩) cap V V (⟨1, 0⟩, lw0) := by
    refine ⟨⟨?_, (hA.below bV (Nat.le_refl _)).more (by omega)⟩, ⟨_, _, _, _, ?_, exAt0 _ _⟩, hlen, Stay2.refl _ _ _⟩
    · rw [hV.out, (setCells_heap _ _ _ _).1 _ (by omega)]
      have h := alloc_blk (heap_alloc_new W1 (.cells #[.slice (some ⟨g0, off, none⟩) T.length cap, .int .i64 1, .int .i64 0] 117)) (.cells lwZ 49)
      rw [hs1] at h
      exact h
    · rw [hV.out]; exact setCells_all hn3 lwZ.toList rfl
  clear hz1 b2
  go_enter Tryz.func77, Tryz.ntmps77
  go_wp2_with (first
    | (refine wpList_allocW rfl (.cells lwZ 49) w.heap.size rfl (alloc_line _ _ _ _ _ _) ?_; rw [← hW1.out])
    | (refine wpList_allocW rfl (.cells lwZ 49) (w.heap.size + 2) hs2 (alloc_line _ _ _ _ _ _) ?_; refine wpList_store_mid rfl 49 (.tmp 7) (.tmp 17) rfl (w.heap.size + 2) 0 lwZ (by rfl) (by rfl) hth (by kernel_rfl) (lwC_one _ _ _ _ _ _ _) ?_; rw [← hV.out]))
  clear hn3 hth hs2 hV hW1 cw1 hs1 b1
  have hw := HW.out
  clear HW
  have z1 : decide (0 < sizeP s) = false := decide_eq_false (by have := hw.1; omega)
  have z2 : (s == [46, 108, 116, 111, 114, 103]) = false := by simpa using hw.2.1
  have z3 : (s == [46, 101, 113, 117]) = false := by simpa using hw.2.2.1
  have hl : ((T.length : Int) != 2) = false := by have := hw.2.2.2.2.1; simp; omega
  have h2 : 2 ≤ T.length := by have := hw.2.2.2.2.1; omega
  have HL2 := Lib.hid hw.2.2.2.2.1
  obtain ⟨g1, off1, hA1, _, hc1⟩ := hA.at_ (k := 1) (by omega)
  simp only [Option.some.injEq, Addr.mk.injEq, and_true] at hA1
  obtain ⟨rfl, rfl⟩ := hA1
  have ht1 : tokA T 1 = T[1]'(by omega) := by unfold tokA; rw [List.getD_eq_getElem?_getD, List.getElem?_eq_getElem (by omega)]; rfl
  have c3 : V.cell? ⟨g0, off + 3, none⟩ = some (.int .i64 (tokA T 1).k) := by
    rw [ht1]
    have h := (bV.cell (p := ⟨g0, off + 1 * tokE.z + 0, none⟩) hg0).trans (hc1 0 (.int .i64 (T[1]'(by omega)).k) rfl)
    exact h
  have c4 : V.cell? ⟨g0, off + 3 + 1, none⟩ = some (.int .i64 (tokA T 1).n) := by
    rw [ht1]
    have h := (bV.cell (p := ⟨g0, off + 1 * tokE.z + 1, none⟩) hg0).trans (hc1 1 (.int .i64 (T[1]'(by omega)).n) rfl)
    exact h
  clear hc1 ht1
  have z6 : ((tokA T 1).k != 2) = false := by have := hw.2.2.2.2.2; simpa using this
  have z4 : (s == [46, 97, 108, 105, 103, 110]) = false := by rw [hw.2.2.2.1]; decide
  have z5 : (s == [46, 115, 112, 97, 99, 101]) = true := by rw [hw.2.2.2.1]; decide
  have hnn := hn1
  clear hw
  generalize (tokA T 1).k = k1 at c3 z6
  generalize (tokA T 1).n = n at c4 hnn HR0
  obtain ⟨a1, a2, a3, a4, a5, a6, a7, a8, a9, a10⟩ := F0.ci
  obtain ⟨a12, a14⟩ := F0.ln.c1214
  have zz := fun j => F0.ln.fz j
  have r1 := F0.rd.c1
  have r2 := F0.rd.c2
  have rz := fun j => F0.rd.fz j
  have F1 : Fill T (w.heap.size + 1) (w.heap.size + 2) (some ⟨g0, off, none⟩) cap V (V.setCell ⟨w.heap.size + 1, 1, none⟩ (.int .i64 2)) (⟨2, 0⟩, lw0) := F0.setAt hbg 2 h2
  have F2 := F1.setK hbg 7
  have F3 : Fill T (w.heap.size + 1) (w.heap.size + 2) (some ⟨g0, off, none⟩) cap V (((V.setCell ⟨w.heap.size + 1, 1, none⟩ (.int .i64 2)).setCell ⟨w.heap.size + 2, 1, none⟩ (.int .i64 7)).setCell ⟨w.heap.size + 2, 14, none⟩ (.int .i64 n)) (⟨2, 0⟩, { lw0 with k := 7, sz := n }) := F2.set hbg 14 _ rfl fun _ _ _ _ => rfl
  have hh : n < 4294967296 := hnn.2
  obtain ⟨X, hX⟩ : ∃ X, Hid (X = ((V.setCell ⟨w.heap.size + 1, 1, none⟩ (.int .i64 2)).setCell ⟨w.heap.size + 2, 1, none⟩ (.int .i64 7)).setCell ⟨w.heap.size + 2, 14, none⟩ (.int .i64 n)) := ⟨_, Lib.hid rfl⟩
  rw [← hX.out] at F3
  have c1 : X.cell? ⟨w.heap.size + 1, 1, none⟩ = some (.int .i64 2) := F3.rd.c1
  have c2 : X.cell? ⟨w.heap.size + 1, 2, none⟩ = some (.int .i64 0) := F3.rd.c2
  have e9 : ((2 : Int) != (T.length : Int)) = false := by have := HL2.out; simp; omega
  ((with_reducible refine (size19 _ _).mono ?_); rintro e w1 ⟨rfl, hw1⟩); rw [hw1]; clear hw1 w1
  generalize sizeP s = z at z1 ⊢
  have hzX : X.heap[w.heap.size]? = some (.cells lwZ 49 (0, 0)) := (F3.st.block _ (by omega) (by omega) (by omega)).trans hzV
  have hb6 := Fill.out F3 bV (by omega) (by omega)
  have hth := there_of hzX
  cases q1 : decide (1048576 < n)
  rotate_left
  · skip
    have hR := HR0.out
    rw [if_pos (of_decide_eq_true q1)] at hR
    subst hR
    clear HR0
    go_wp2_with (first | rw [← hX.out] | (refine wpList_store_mid rfl 49 (.tmp 2) (.tmp 162) rfl w.heap.size 0 lwZ (by rfl) (by rfl) hth (by kernel_rfl) (lwC_one _ _ _ _ _ _ _) ?_) | fail)
    have hb7 := below_setCells hb6 (Nat.le_refl _) lwZ.toList
    have hz7 := setCells_all hzX lwZ.toList rfl
    generalize hW7 : World.setCells _ _ _ _ = W7
    have hz8 : W7.heap[w.heap.size]? = some (.cells lwZ 49 (0, 0)) := by rw [← hW7]; exact hz7
    have hb8 : Below w.heap.size w W7 := by rw [← hW7]; exact hb7
    exact bodyPost_ret (results_cell_row3d rfl _ _ w.heap.size 49 _ (0, 0) _ rfl hz8 Tryz.underlying49 rfl (by kernel_rfl)) rfl ⟨_, _, _, _, rfl, exAt0 _ _, hb8⟩
  have hR := HR0.out
  rw [if_neg (of_decide_eq_false q1)] at hR
  have HR := Lib.hid hR
  clear hR HR0 hth hzX hb6
  generalize hy : ({ lw0 with k := 7, sz := n } : Lw) = y at F3 HR
  clear hy
  have hR := HR.out
  subst hR
  clear HR
  have hz6 : X.heap[w.heap.size]? = some (.cells lwZ 49 (0, 0)) := (F3.st.block _ (by omega) (by omega) (by omega)).trans hzV
  have hb6 := Fill.out F3 bV (by omega) (by omega)
  obtain ⟨x0, x1, x2, x3, hl6, hx6⟩ := F3.ln
  obtain ⟨o, k, s', A', q, c', hC⟩ := hx6.cells
  obtain ⟨rfl, rfl, rfl, rfl⟩ := agg4 hC
  clear hC
  go_wp2_with (first
    | rw [← hX.out]
    | (refine wpList_load_blk rfl 49 (.tmp 7) rfl (w.heap.size + 2) (by rfl) _ hl6 _ Tryz.underlying49 rfl (by kernel_rfl) ?_)
    | (refine wpList_store_blk rfl 49 (.tmp 2) (.tmp 163) rfl w.heap.size (lwC y (.int .i64 o) (.int .i64 k) (.string (tx s')) (.slice A' q c')) (by rfl) (by rfl) hz6 rfl (by kernel_rfl) (lwC_one _ _ _ _ _ _ _) ?_))
  have hz7 := setCells_all hz6 (lwC y (.int .i64 o) (.int .i64 k) (.string (tx s')) (.slice A' q c')).toList rfl
  have hb7 := below_setCells hb6 (Nat.le_refl _) (lwC y (.int .i64 o) (.int .i64 k) (.string (tx s')) (.slice A' q c')).toList
  have hx7 : ExAt ((X).setCells w.heap.size 0 (lwC y (.int .i64 o) (.int .i64 k) (.string (tx s')) (.slice A' q c')).toList) (fun j => w.heap.size ≤ j ∧ j < ((X).setCells w.heap.size 0 (lwC y (.int .i64 o) (.int .i64 k) (.string (tx s')) (.slice A' q c')).toList).heap.size) y.ex (.agg #[.int .i64 o, .int .i64 k, .string (tx s'), .slice A' q c']) := ExAt.keep (fun q hq => ⟨by omega, by rw [(setCells_heap _ _ _ _).2.1]; exact hq.2⟩) (fun q hq => (setCells_heap _ _ _ _).1 q (by omega)) _ _ hx6
  generalize hW7 : World.setCells _ _ _ _ = W7
  have hz8 : W7.heap[w.heap.size]? = some (.cells (lwC y (.int .i64 o) (.int .i64 k) (.string (tx s')) (.slice A' q c')) 49 (0, 0)) := by rw [← hW7]; exact hz7
  have hb8 : Below w.heap.size w W7 := by rw [← hW7]; exact hb7
  have e7 : W7 = (X).setCells w.heap.size 0 (lwC y (.int .i64 o) (.int .i64 k) (.string (tx s')) (.slice A' q c')).toList := hW7.symm
  subst e7
  exact bodyPost_ret (results_cell_row3d rfl _ _ w.heap.size 49 _ (0, 0) _ rfl hz8 Tryz.underlying49 rfl (by kernel_rfl)) rfl ⟨_, _, _, _, rfl, hx7, hb8⟩
end Go.Proofs.YtpdkpkabdkefcaaGreatDoor
