/- For the seat: texts joined: RqO4. -/
import Derived.Test.YtpdkpkabdkefcaaGreatDoorJAw
import Derived.Test.YtpdkpkabdkefcaaGreatDoorJAo
set_option maxRecDepth 100000
namespace Go.Proofs.YtpdkpkabdkefcaaGreatDoor
open Go.Sx Go.ChangeShapes Go.WideShapes Go.RowKit Go.Joins Go.Deep Go.Rp
set_option maxHeartbeats 8000000 in
theorem one4 (s : Bs) (hs : s.length ≤ 1000000000000) (T : List Rp.Tok) (hL : lineL s = some T) (hw : 1 < T.length) (hq : ((tokA T 0).k == 1) = true ∧ ((tokA T 1).k == 3) = true ∧ ((tokA T 1).t == [58]) = false) (w : World) : Calls Tryz.prog 50 #[.string (tx s)] w (LinePost (oneX s) w) := by
  have hR0 : oneX s = oneT T [] := by
    unfold oneX; rw [hL]; show oneT (labT T) (labX T) = _; have : labB T = false := by unfold labB; rw [hq.1, hq.2.1, hq.2.2]; simp
    unfold labT labX; rw [this]; rfl
  generalize oneX s = R at hR0
  have HR0 := Lib.hid hR0
  clear hR0
  have hn := line16 s hs
  rw [hL] at hn
  obtain ⟨W1, hW1⟩ : ∃ W1, Hid (W1 = w.alloc (.cells lwZ 49)) := ⟨_, Lib.hid rfl⟩
  have b1 : Below w.heap.size w W1 := by rw [hW1.out]; exact (Below.refl _ _).alloc (Nat.le_refl _) _
  have hz1 : W1.heap[w.heap.size]? = some (.cells lwZ 49 (0, 0)) := by rw [hW1.out]; exact heap_alloc_new w _
  have hs1 : W1.heap.size = w.heap.size + 1 := by rw [hW1.out]; simp
  go_enter Tryz.func50, Tryz.ntmps50
  go_wp2_with (first
    | (refine wpList_allocW rfl (.cells lwZ 49) w.heap.size rfl (alloc_line _ _ _ _ _ _) ?_; rw [← hW1.out])
    | fail)
  ((with_reducible refine (hn _).mono ?_); rintro e w2 ⟨hret, hb2⟩)
  have bV : Below w.heap.size w w2 := b1.trans (hb2.mono b1.size)
  have hzV : w2.heap[w.heap.size]? = some (.cells lwZ 49 (0, 0)) := (hb2.block _ (by omega)).trans hz1
  have hsV : w.heap.size < w2.heap.size := by have := hb2.size; omega
  clear hn b1 hz1 hs1 hW1 hb2 hs
  unfold TokRet at hret
  obtain ⟨A, cap, rfl, hsl, hA⟩ := hret
  obtain ⟨hl256, hU2⟩ := lineL_len hL
  clear hL
  have hl1 : 1 < T.length := hw
  obtain ⟨g0, o0, hA0, hg0, hc0⟩ := hA.at_ (k := 0) (by omega)
  subst hA0
  obtain ⟨g1, o1, hA1, hg1, hc1⟩ := hA.at_ (k := 1) (by omega)
  simp only [Option.some.injEq, Addr.mk.injEq, and_true] at hA1
  obtain ⟨rfl, rfl⟩ := hA1
  have t0e : tokA T 0 = T[0]'(by omega) := by unfold tokA; rw [List.getD_eq_getElem?_getD, List.getElem?_eq_getElem (by omega)]; rfl
  have t1e : tokA T 1 = T[1]'(by omega) := by unfold tokA; rw [List.getD_eq_getElem?_getD, List.getElem?_eq_getElem (by omega)]; rfl
  have c00 : w2.cell? ⟨g0, o0, none⟩ = some (.int .i64 (tokA T 0).k) := by rw [t0e]; simpa using hc0 0 (.int .i64 (T[0]'(by omega)).k) rfl
  have c02 : w2.cell? ⟨g0, o0 + 2, none⟩ = some (.string (tx (tokA T 0).t)) := by rw [t0e]; simpa using hc0 2 (.string (tx (T[0]'(by omega)).t)) rfl
  have c10 : w2.cell? ⟨g0, o0 + 3, none⟩ = some (.int .i64 (tokA T 1).k) := by rw [t1e]; exact hc1 0 (.int .i64 (T[1]'(by omega)).k) rfl
  have c12 : w2.cell? ⟨g0, o0 + 3 + 2, none⟩ = some (.string (tx (tokA T 1).t)) := by rw [t1e]; exact hc1 2 (.string (tx (T[1]'(by omega)).t)) rfl
  have hm0 : (tokA T 0).t.length ≤ 256 := by rw [t0e]; exact (hU2 _ (List.getElem_mem _)).1
  clear hc0 hc1 t0e t1e
  have l2 : decide (1 < (T.length : Int)) = true := decide_eq_true (by omega)
  have hA2 := hA
  have q1 := hq.1
  have q2 := hq.2.1
  have q3 := hq.2.2
  clear hq
  generalize (tokA T 1).k = k1 at c10 q2
  generalize (tokA T 1).t = t1 at c12 q3
  have hne : T ≠ [] := by intro h; rw [h] at hw; simp at hw
  have HR1 : Hid (R = if (tokA T 0).k ≠ 1 then (lw0, 3) else if (dirP T).2.1 = true then (if (dirP T).2.2 = 0 then ({ (dirP T).1 with lab := [] }, 0) else (lw0, (dirP T).2.2)) else if (readLn T 0).2 = 0 then ({ (readLn T 0).1 with lab := [] }, 0) else (lw0, (readLn T 0).2)) := Lib.hid (HR0.out.trans (if_neg hne))
  clear HR0
  have l0 : (((T.length : Nat) : Int) == 0) = false := by simp; omega
  generalize hk0 : (tokA T 0).k = k0 at c00 q1 HR1
  have q9 := q1
  clear hk0
  have q9' : (k0 != 1) = false := by simpa using eq_of_beq q9
  have HR2 := Lib.hid (HR1.out.trans (if_neg (fun h => h (eq_of_beq q9))))
  clear HR1
  have hd := dir19 T (by omega) (fun t ht => by have := (hU2 t ht).1; omega) (fun t ht => (hU2 t ht).2) hne (some ⟨g0, o0, none⟩) cap w2 hA2
  have hrd0 := fun W hb => read18 T (by omega) (fun t ht => by have := (hU2 t ht).1; omega) (some ⟨g0, o0, none⟩) cap 0 (Nat.zero_le _) W ((hA2.below (w' := W) hb (Nat.le_refl _)).more (by have := hb.size; omega))
  unfold DirPost at hd
  generalize dirP T = d at hd HR2
  generalize readLn T 0 = rl at hrd0 HR2
  obtain ⟨ld, isd, ed⟩ := d
  obtain ⟨lr, er⟩ := rl
  dsimp only at hd HR2
  go_wp2_with (fail)
  ((with_reducible refine hd.mono ?_); rintro e w3 ⟨e0, e1, e2, e3, rfl, hx3, hb3⟩)
  obtain ⟨o3, k3, s3, A3, n3, c3, hC⟩ := hx3.cells
  obtain ⟨rfl, rfl, rfl, rfl⟩ := agg4 hC
  clear hC hd
  have bW3 := bV.trans (hb3.mono bV.size)
  have hz3 := (hb3.block w.heap.size (by omega)).trans hzV
  have hs3 : w2.heap.size ≤ w3.heap.size := hb3.size
  have hn4 := heap_alloc_new w3 (.cells lwZ 49)
  have hth4 := there_of hn4
  obtain ⟨W4, hW4⟩ : ∃ W4, Hid (W4 = (w3.alloc (.cells lwZ 49)).setCells w3.heap.size 0 (lwC ld (.int .i64 o3) (.int .i64 k3) (.string (tx s3)) (.slice A3 n3 c3)).toList) := ⟨_, Lib.hid rfl⟩
  have b4 : Below w3.heap.size w3 W4 := by rw [hW4.out]; exact below_setCells ((Below.refl _ _).alloc (Nat.le_refl _) _) (Nat.le_refl _) _
  have h4 : W4.heap[w3.heap.size]? = some (.cells (lwC ld (.int .i64 o3) (.int .i64 k3) (.string (tx s3)) (.slice A3 n3 c3)) 49 (0, 0)) := by rw [hW4.out]; exact setCells_all hn4 (lwC ld (.int .i64 o3) (.int .i64 k3) (.string (tx s3)) (.slice A3 n3 c3)).toList rfl
  have hz4 := (b4.block w.heap.size (by omega)).trans hz3
  have bW4 := bW3.trans (b4.mono bW3.size)
  have hs4 : w3.heap.size < W4.heap.size := (Array.getElem?_eq_some_iff.1 h4).1
  clear hn4
  cases isd
  rotate_left
  · skip
    have HR3 := Lib.hid (HR2.out.trans (if_pos rfl))
    clear HR2 hrd0
    cases u : (ed == 0)
    · have u' : (ed != 0) = true := by simpa using ne_of_beq_false u
      have hR := HR3.out.trans (if_neg (ne_of_beq_false u))
      clear HR3
      subst hR
      have hth := there_of hz4
      go_wp2_with (first
        | (refine wpList_allocW rfl (.cells lwZ 49) w3.heap.size rfl (alloc_line _ _ _ _ _ _) ?_; refine wpList_store_mid rfl 49 (.tmp 7) (.tmp 69) rfl w3.heap.size 0 (lwC ld (.int .i64 o3) (.int .i64 k3) (.string (tx s3)) (.slice A3 n3 c3)) (by rfl) (by rfl) hth4 (by kernel_rfl) (lwC_one _ _ _ _ _ _ _) ?_; rw [← hW4.out])
        | (refine wpList_store_mid rfl 49 (.tmp 2) (.tmp 81) rfl w.heap.size 0 lwZ (by rfl) (by rfl) hth (by kernel_rfl) (lwC_one _ _ _ _ _ _ _) ?_)
        | fail)
      have hb7 := below_setCells bW4 (Nat.le_refl _) (lwZ).toList
      have hz7 := setCells_all hz4 (lwZ).toList rfl
      generalize hW7 : World.setCells _ _ _ _ = W7
      have hz8 : W7.heap[w.heap.size]? = some (.cells (lwZ) 49 (0, 0)) := by rw [← hW7]; exact hz7
      have hb8 : Below w.heap.size w W7 := by rw [← hW7]; exact hb7
      exact bodyPost_ret (results_cell_row2 rfl _ _ w.heap.size 49 _ (0, 0) _ rfl hz8 Tryz.underlying49 rfl (by kernel_rfl)) rfl ⟨_, _, _, _, rfl, exAt0 _ _, hb8⟩
    have u' : (ed != 0) = false := by simpa using eq_of_beq u
    have hR := HR3.out.trans (if_pos (eq_of_beq u))
    clear HR3
    subst hR
    have q0 : W4.cell? ⟨w3.heap.size, 0, none⟩ = some (.string (tx ld.lab)) := by simp [World.cell?, h4]
    have qz : W4.frozen? ⟨w3.heap.size, 0, none⟩ = false := by simp [World.frozen?, h4]
    obtain ⟨X, hX⟩ : ∃ X, Hid (X = W4.setCell ⟨w3.heap.size, 0, none⟩ (.string (tx []))) := ⟨_, Lib.hid rfl⟩
    have hlX : X.heap[w3.heap.size]? = some (.cells (lwC { ld with lab := [] } (.int .i64 o3) (.int .i64 k3) (.string (tx s3)) (.slice A3 n3 c3)) 49 (0, 0)) := by rw [hX.out]; exact setCell_at h4 _
    have hzX : X.heap[w.heap.size]? = some (.cells lwZ 49 (0, 0)) := by rw [hX.out]; exact set_blk hz4 (by omega) 0 _
    have bX : Below w.heap.size w X := by rw [hX.out]; exact bW4.setCell (by show w.heap.size ≤ w3.heap.size; omega) _
    have hsX : X.heap.size = W4.heap.size := by rw [hX.out]; simp [World.setCell]
    have hxX : ExAt X (fun j => w2.heap.size ≤ j ∧ j < w3.heap.size) ld.ex (.agg #[.int .i64 o3, .int .i64 k3, .string (tx s3), .slice A3 n3 c3]) := ExAt.keep (fun j hj => hj) (fun j hj => by rw [hX.out, Below.heap_setCell _ _ _ _ (by show j ≠ w3.heap.size; omega)]; exact b4.block j hj.2) _ _ hx3
    go_wp2_with (first
      | rw [← hX.out]
      | (refine wpList_allocW rfl (.cells lwZ 49) w3.heap.size rfl (alloc_line _ _ _ _ _ _) ?_; refine wpList_store_mid rfl 49 (.tmp 7) (.tmp 69) rfl w3.heap.size 0 (lwC ld (.int .i64 o3) (.int .i64 k3) (.string (tx s3)) (.slice A3 n3 c3)) (by rfl) (by rfl) hth4 (by kernel_rfl) (lwC_one _ _ _ _ _ _ _) ?_; rw [← hW4.out])
      | (refine wpList_load_blk rfl 49 (.tmp 7) rfl w3.heap.size (by rfl) _ hlX _ Tryz.underlying49 rfl (by kernel_rfl) ?_)
      | (refine wpList_store_blk rfl 49 (.tmp 2) (.tmp 85) rfl w.heap.size (lwC { ld with lab := [] } (.int .i64 o3) (.int .i64 k3) (.string (tx s3)) (.slice A3 n3 c3)) (by rfl) (by rfl) hzX rfl (by kernel_rfl) (lwC_one _ _ _ _ _ _ _) ?_)
      | fail)
    have hx7 : ExAt (X.setCells w.heap.size 0 (lwC { ld with lab := [] } (.int .i64 o3) (.int .i64 k3) (.string (tx s3)) (.slice A3 n3 c3)).toList) (fun j => w.heap.size ≤ j ∧ j < (X.setCells w.heap.size 0 (lwC { ld with lab := [] } (.int .i64 o3) (.int .i64 k3) (.string (tx s3)) (.slice A3 n3 c3)).toList).heap.size) ld.ex (.agg #[.int .i64 o3, .int .i64 k3, .string (tx s3), .slice A3 n3 c3]) := ExAt.keep (fun j hj => ⟨by omega, by rw [(setCells_heap _ _ _ _).2.1, hsX]; omega⟩) (fun j hj => (setCells_heap _ _ _ _).1 j (by omega)) _ _ hxX
    have hb7 := below_setCells bX (Nat.le_refl _) (lwC { ld with lab := [] } (.int .i64 o3) (.int .i64 k3) (.string (tx s3)) (.slice A3 n3 c3)).toList
    have hz7 := setCells_all hzX (lwC { ld with lab := [] } (.int .i64 o3) (.int .i64 k3) (.string (tx s3)) (.slice A3 n3 c3)).toList rfl
    generalize hW7 : World.setCells _ _ _ _ = W7
    have hz8 : W7.heap[w.heap.size]? = some (.cells (lwC { ld with lab := [] } (.int .i64 o3) (.int .i64 k3) (.string (tx s3)) (.slice A3 n3 c3)) 49 (0, 0)) := by rw [← hW7]; exact hz7
    have hb8 : Below w.heap.size w W7 := by rw [← hW7]; exact hb7
    have e7 : W7 = X.setCells w.heap.size 0 (lwC { ld with lab := [] } (.int .i64 o3) (.int .i64 k3) (.string (tx s3)) (.slice A3 n3 c3)).toList := hW7.symm
    subst e7
    exact bodyPost_ret (results_cell_row2 rfl _ _ w.heap.size 49 _ (0, 0) _ rfl hz8 Tryz.underlying49 rfl (by kernel_rfl)) rfl ⟨_, _, _, _, rfl, hx7, hb8⟩
  · skip
    have HR3 := Lib.hid (HR2.out.trans (if_neg (by decide)))
    clear HR2
    have hrd := hrd0 W4 (hb3.trans (b4.mono hb3.size))
    unfold LinePost at hrd
    have z0 : ((0 : Nat) : Int) = 0 := rfl
    rw [z0] at hrd
    dsimp only [lwC] at hrd
    clear hrd0 z0
    go_wp2_with (first
      | (refine wpList_allocW rfl (.cells lwZ 49) w3.heap.size rfl (alloc_line _ _ _ _ _ _) ?_; refine wpList_store_mid rfl 49 (.tmp 7) (.tmp 69) rfl w3.heap.size 0 (lwC ld (.int .i64 o3) (.int .i64 k3) (.string (tx s3)) (.slice A3 n3 c3)) (by rfl) (by rfl) hth4 (by kernel_rfl) (lwC_one _ _ _ _ _ _ _) ?_; rw [← hW4.out])
      | fail)
    ((with_reducible refine hrd.mono ?_); rintro e w5 ⟨f0, f1, f2, f3, rfl, hx5, hb5⟩)
    obtain ⟨o5, k5, s5, A5, n5, c5, hC⟩ := hx5.cells
    obtain ⟨rfl, rfl, rfl, rfl⟩ := agg4 hC
    clear hC hrd hW4 hth4
    have bW5 := bW4.trans (hb5.mono bW4.size)
    have hz5 := (hb5.block w.heap.size (by omega)).trans hz4
    have h5 := (hb5.block w3.heap.size hs4).trans h4
    have hs5 : W4.heap.size ≤ w5.heap.size := hb5.size
    have hth5 := there_of h5
    obtain ⟨W6, hW6⟩ : ∃ W6, Hid (W6 = w5.setCells w3.heap.size 0 (lwC lr (.int .i64 o5) (.int .i64 k5) (.string (tx s5)) (.slice A5 n5 c5)).toList) := ⟨_, Lib.hid rfl⟩
    have h6 : W6.heap[w3.heap.size]? = some (.cells (lwC lr (.int .i64 o5) (.int .i64 k5) (.string (tx s5)) (.slice A5 n5 c5)) 49 (0, 0)) := by rw [hW6.out]; exact setCells_all h5 (lwC lr (.int .i64 o5) (.int .i64 k5) (.string (tx s5)) (.slice A5 n5 c5)).toList rfl
    have hz6 : W6.heap[w.heap.size]? = some (.cells lwZ 49 (0, 0)) := by rw [hW6.out, (setCells_heap _ _ _ _).1 _ (by omega)]; exact hz5
    have bW6 : Below w.heap.size w W6 := by rw [hW6.out]; exact below_setCells bW5 (by omega) _
    have hs6 : W6.heap.size = w5.heap.size := by rw [hW6.out, (setCells_heap _ _ _ _).2.1]
    have hk6 : ∀ j, j ≠ w3.heap.size → W6.heap[j]? = w5.heap[j]? := fun j hj => by rw [hW6.out]; exact (setCells_heap _ _ _ _).1 j hj
    clear h5 hz5 bW5
    cases u : (er == 0)
    · have u' : (er != 0) = true := by simpa using ne_of_beq_false u
      have hR := HR3.out.trans (if_neg (ne_of_beq_false u))
      clear HR3
      subst hR
      have hth := there_of hz6
      go_wp2_with (first
        | (refine wpList_store_mid rfl 49 (.tmp 7) (.tmp 77) rfl w3.heap.size 0 (lwC lr (.int .i64 o5) (.int .i64 k5) (.string (tx s5)) (.slice A5 n5 c5)) (by rfl) (by rfl) hth5 (by kernel_rfl) (lwC_one _ _ _ _ _ _ _) ?_; rw [← hW6.out])
        | (refine wpList_store_mid rfl 49 (.tmp 2) (.tmp 81) rfl w.heap.size 0 lwZ (by rfl) (by rfl) hth (by kernel_rfl) (lwC_one _ _ _ _ _ _ _) ?_)
        | fail)
      have hb7 := below_setCells bW6 (Nat.le_refl _) (lwZ).toList
      have hz7 := setCells_all hz6 (lwZ).toList rfl
      generalize hW7 : World.setCells _ _ _ _ = W7
      have hz8 : W7.heap[w.heap.size]? = some (.cells (lwZ) 49 (0, 0)) := by rw [← hW7]; exact hz7
      have hb8 : Below w.heap.size w W7 := by rw [← hW7]; exact hb7
      exact bodyPost_ret (results_cell_row2 rfl _ _ w.heap.size 49 _ (0, 0) _ rfl hz8 Tryz.underlying49 rfl (by kernel_rfl)) rfl ⟨_, _, _, _, rfl, exAt0 _ _, hb8⟩
    have u' : (er != 0) = false := by simpa using eq_of_beq u
    have hR := HR3.out.trans (if_pos (eq_of_beq u))
    clear HR3
    subst hR
    have q0 : W6.cell? ⟨w3.heap.size, 0, none⟩ = some (.string (tx lr.lab)) := by simp [World.cell?, h6]
    have qz : W6.frozen? ⟨w3.heap.size, 0, none⟩ = false := by simp [World.frozen?, h6]
    obtain ⟨X, hX⟩ : ∃ X, Hid (X = W6.setCell ⟨w3.heap.size, 0, none⟩ (.string (tx []))) := ⟨_, Lib.hid rfl⟩
    have hlX : X.heap[w3.heap.size]? = some (.cells (lwC { lr with lab := [] } (.int .i64 o5) (.int .i64 k5) (.string (tx s5)) (.slice A5 n5 c5)) 49 (0, 0)) := by rw [hX.out]; exact setCell_at h6 _
    have hzX : X.heap[w.heap.size]? = some (.cells lwZ 49 (0, 0)) := by rw [hX.out]; exact set_blk hz6 (by omega) 0 _
    have bX : Below w.heap.size w X := by rw [hX.out]; exact bW6.setCell (by show w.heap.size ≤ w3.heap.size; omega) _
    have hsX : X.heap.size = W6.heap.size := by rw [hX.out]; simp [World.setCell]
    have hxX : ExAt X (fun j => W4.heap.size ≤ j ∧ j < w5.heap.size) lr.ex (.agg #[.int .i64 o5, .int .i64 k5, .string (tx s5), .slice A5 n5 c5]) := ExAt.keep (fun j hj => hj) (fun j hj => by rw [hX.out, Below.heap_setCell _ _ _ _ (by show j ≠ w3.heap.size; omega)]; exact hk6 j (by omega)) _ _ hx5
    go_wp2_with (first
      | rw [← hX.out]
      | (refine wpList_store_mid rfl 49 (.tmp 7) (.tmp 77) rfl w3.heap.size 0 (lwC lr (.int .i64 o5) (.int .i64 k5) (.string (tx s5)) (.slice A5 n5 c5)) (by rfl) (by rfl) hth5 (by kernel_rfl) (lwC_one _ _ _ _ _ _ _) ?_; rw [← hW6.out])
      | (refine wpList_load_blk rfl 49 (.tmp 7) rfl w3.heap.size (by rfl) _ hlX _ Tryz.underlying49 rfl (by kernel_rfl) ?_)
      | (refine wpList_store_blk rfl 49 (.tmp 2) (.tmp 85) rfl w.heap.size (lwC { lr with lab := [] } (.int .i64 o5) (.int .i64 k5) (.string (tx s5)) (.slice A5 n5 c5)) (by rfl) (by rfl) hzX rfl (by kernel_rfl) (lwC_one _ _ _ _ _ _ _) ?_)
      | fail)
    have hx7 : ExAt (X.setCells w.heap.size 0 (lwC { lr with lab := [] } (.int .i64 o5) (.int .i64 k5) (.string (tx s5)) (.slice A5 n5 c5)).toList) (fun j => w.heap.size ≤ j ∧ j < (X.setCells w.heap.size 0 (lwC { lr with lab := [] } (.int .i64 o5) (.int .i64 k5) (.string (tx s5)) (.slice A5 n5 c5)).toList).heap.size) lr.ex (.agg #[.int .i64 o5, .int .i64 k5, .string (tx s5), .slice A5 n5 c5]) := ExAt.keep (fun j hj => ⟨by omega, by rw [(setCells_heap _ _ _ _).2.1, hsX]; omega⟩) (fun j hj => (setCells_heap _ _ _ _).1 j (by omega)) _ _ hxX
    have hb7 := below_setCells bX (Nat.le_refl _) (lwC { lr with lab := [] } (.int .i64 o5) (.int .i64 k5) (.string (tx s5)) (.slice A5 n5 c5)).toList
    have hz7 := setCells_all hzX (lwC { lr with lab := [] } (.int .i64 o5) (.int .i64 k5) (.string (tx s5)) (.slice A5 n5 c5)).toList rfl
    generalize hW7 : World.setCells _ _ _ _ = W7
    have hz8 : W7.heap[w.heap.size]? = some (.cells (lwC { lr with lab := [] } (.int .i64 o5) (.int .i64 k5) (.string (tx s5)) (.slice A5 n5 c5)) 49 (0, 0)) := by rw [← hW7]; exact hz7
    have hb8 : Below w.heap.size w W7 := by rw [← hW7]; exact hb7
    have e7 : W7 = X.setCells w.heap.size 0 (lwC { lr with lab := [] } (.int .i64 o5) (.int .i64 k5) (.string (tx s5)) (.slice A5 n5 c5)).toList := hW7.symm
    subst e7
    exact bodyPost_ret (results_cell_row2 rfl _ _ w.heap.size 49 _ (0, 0) _ rfl hz8 Tryz.underlying49 rfl (by kernel_rfl)) rfl ⟨_, _, _, _, rfl, hx7, hb8⟩
end Go.Proofs.YtpdkpkabdkefcaaGreatDoor
