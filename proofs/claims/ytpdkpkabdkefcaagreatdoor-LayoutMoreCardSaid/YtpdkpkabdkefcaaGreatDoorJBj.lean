/- For the seat: texts joined: IsK. -/
import Derived.Test.YtpdkpkabdkefcaaGreatDoorJBh
import Derived.Deep.Cut
set_option maxRecDepth 100000
namespace Go.Proofs.YtpdkpkabdkefcaaGreatDoor
open Go.Sx Go.ChangeShapes Go.WideShapes Go.RowKit Go.Joins Go.Deep Go.Rp
set_option maxHeartbeats 8000000 in
theorem rest_n (x : Lk) (it : Bool) (w : World) (hw : Laid w) : Calls Tryz.prog 124 #[.agg (inC x), .bool it] w fun e w' => (∃ r : Int, e = .returned (.agg #[.int .i64 r, .bool (x.resB it)])) ∧ Below w.heap.size w w' := by
  obtain ⟨W0, hW0⟩ : ∃ W, Hid (W = (w.alloc (.cells (inC x) 44)).alloc (.cells #[.int .i64 0, .bool false] 100)) := ⟨_, Lib.hid rfl⟩
  have hs1 : (w.alloc (.cells (inC x) 44)).heap.size = w.heap.size + 1 := by simp
  have hz0 : W0.heap[w.heap.size]? = some (.cells (inC x) 44 (0, 0)) := by rw [hW0.out]; exact (Below.heap_alloc _ _ _ (by omega)).trans (heap_alloc_new w _)
  have hz1 : W0.heap[w.heap.size + 1]? = some (.cells #[.int .i64 0, .bool false] 100 (0, 0)) := by rw [hW0.out]; exact alloc_at hs1.symm
  have b0 : Below w.heap.size w W0 := by rw [hW0.out]; exact bal (bal (Below.refl _ _) _) _
  obtain ⟨q0, q1, q2, q3, q4, q5, q6, q7, q8⟩ := in_cells hz0
  have p1 := lowp1 x.rd
  have hP : x.plcB = (lowB x.rd && (decide (0 ≤ x.im) && (decide (x.im ≤ 1020) && (x.im.tmod 4 == 0)))) := rfl
  generalize lowB x.rd = l1 at p1 hP
  have hR : x.resB it = if x.op = 20 then it && ((x.rd == x.rm) && low2 x.rd x.rn) else if x.op = 32 ∨ x.op = 31 then lowB x.rn && (x.ls == bits BinOp.and IntKind.i64 x.ls 255)
    else if x.op = 33 then bits BinOp.andNot IntKind.i64 x.ls 16639 == 0 else if x.op = 34 then bits BinOp.andNot IntKind.i64 x.ls 33023 == 0
    else if x.op = 35 then (if x.ic = 14 then fitK 2 x.im else !it && fitK 1 x.im) else if x.op = 37 ∨ x.op = 38 then !it && fitK 5 x.im
    else if x.op = 39 ∨ x.op = 43 ∨ x.op = 44 then true else if x.op = 40 ∨ x.op = 41 then x.plcB else if x.op = 42 then !it else false := rfl
  generalize x.resB it = R at hR
  have HR := Lib.hid hR
  clear hR
  have HP := Lib.hid hP
  have HZ0 := Lib.hid hz0
  have HZ1 := Lib.hid hz1
  have HW := Lib.hid hw
  clear hz0 hz1 hs1 hP hw
  go_enter Tryz.func124, Tryz.ntmps124
  go_upto_region 2 with (first | rw [← hW0.out] | fail)
  go_cut [6] from 7 (fun v wx => v = .bool x.plcB ∧ wx = W0.alloc (.cells #[.int .i64 x.rd] 3))
  case first =>
    have hR := HP.out
    have k5 := (World.cell?_alloc_some W0 ⟨w.heap.size, 5, none⟩ (.cells #[.int .i64 x.rd] 3) (by rw [q5]; rfl)).trans q5
    cases l1
    · have HQ := Lib.hid hR
      clear hR
      go_wp2_with (fail)
      ((with_reducible refine (p1 _ _ (by first | exact alloc_at (by first | rfl | simp) | exact alloc_atd (by first | rfl | simp))).mono ?_); rintro e w7 ⟨rfl, rfl⟩)
      go_wp2_with (fail)
      go_meet
      exact ⟨congrArg Value.bool HQ.out.symm, rfl⟩
    · cases c1 : decide (0 ≤ x.im)
      · rw [c1] at hR
        have HQ := Lib.hid hR
        clear hR
        go_wp2_with (fail)
        ((with_reducible refine (p1 _ _ (by first | exact alloc_at (by first | rfl | simp) | exact alloc_atd (by first | rfl | simp))).mono ?_); rintro e w7 ⟨rfl, rfl⟩)
        go_wp2_with (fail)
        go_meet
        exact ⟨congrArg Value.bool HQ.out.symm, rfl⟩
      · rw [c1] at hR
        cases c2 : decide (x.im ≤ 1020)
        · rw [c2] at hR
          have HQ := Lib.hid hR
          clear hR
          go_wp2_with (fail)
          ((with_reducible refine (p1 _ _ (by first | exact alloc_at (by first | rfl | simp) | exact alloc_atd (by first | rfl | simp))).mono ?_); rintro e w7 ⟨rfl, rfl⟩)
          go_wp2_with (fail)
          go_meet
          exact ⟨congrArg Value.bool HQ.out.symm, rfl⟩
        · rw [c2] at hR
          have HQ := Lib.hid hR
          clear hR
          go_wp2_with (fail)
          ((with_reducible refine (p1 _ _ (by first | exact alloc_at (by first | rfl | simp) | exact alloc_atd (by first | rfl | simp))).mono ?_); rintro e w7 ⟨rfl, rfl⟩)
          go_wp2_with (fail)
          go_meet
          exact ⟨congrArg Value.bool HQ.out.symm, rfl⟩
  case rest =>
    obtain ⟨rfl, hwc⟩ := hcut
    have bW : Below w.heap.size w wc := by rw [hwc]; exact bal b0 _
    have h0 : wc.heap[w.heap.size]? = some (.cells (inC x) 44 (0, 0)) := by rw [hwc]; exact alloc_blk HZ0.out _
    have h1 : wc.heap[w.heap.size + 1]? = some (.cells #[.int .i64 0, .bool false] 100 (0, 0)) := by rw [hwc]; exact alloc_blk HZ1.out _
    have hwl := laid_lw HW.out bW
    clear hwc b0 q0 q1 q2 q3 q4 q5 q6 q7 q8 hW0 p1 HZ0 HZ1 HW HP
    obtain ⟨r0, r1, r2, r3, r4, r5, r6, r7, r8⟩ := in_cells h0
    obtain ⟨s0, s1⟩ : wc.cell? ⟨w.heap.size + 1, 0, none⟩ = some (.int .i64 0) ∧ wc.cell? ⟨w.heap.size + 1, 1, none⟩ = some (.bool false) := by simp [World.cell?, h1]
    have fz := froz h1
    have hlt : w.heap.size + 1 < wc.heap.size := (Array.getElem?_eq_some_iff.1 h1).1
    have hX : ∀ V, Below wc.heap.size wc V → V.heap[w.heap.size + 1]? = some (.cells #[.int .i64 0, .bool false] 100 (0, 0)) := fun V h => (h.block _ hlt).trans h1
    have hB : ∀ V, Below wc.heap.size wc V → ∀ u v, Below w.heap.size w ((V.setCell ⟨w.heap.size + 1, 0, none⟩ u).setCell ⟨w.heap.size + 1, 1, none⟩ v) := fun V h u v => ((bW.trans (h.mono (by omega))).setCell (p := ⟨w.heap.size + 1, 0, none⟩) (Nat.le_succ _) u).setCell (p := ⟨w.heap.size + 1, 1, none⟩) (Nat.le_succ _) v
    have HX := Lib.hid hX
    have HB := Lib.hid hB
    have HH := Lib.hid h1
    have HLd := Lib.hid hwl
    clear hX hB h0 h1 hlt hwl
    have hR := HR.out
    clear HR
    generalize x.plcB = pl at hR ⊢
    cases a20 : (x.op == 20)
    rotate_left
    · rw [if_pos (eq_of_beq a20)] at hR
      have p2 := lowp2 x.rd x.rn
      generalize low2 x.rd x.rn = l2 at hR p2
      cases it
      · subst hR
        go_wp2_with (fail)
        refine wpN_start (S := fun w' => (w'.cell? ⟨w.heap.size, 2, none⟩ = some (.int .i64 x.rd) ∧ w'.cell? ⟨w.heap.size, 3, none⟩ = some (.int .i64 x.rn) ∧ w'.cell? ⟨w.heap.size, 4, none⟩ = some (.int .i64 x.rm)) ∧ ∃ u v, w'.heap[w.heap.size + 1]? = some (.cells #[u, v] 100 (0, 0))) (by kernel_rfl) ⟨⟨r2, r3, r4⟩, _, _, HH.out⟩ (fun hHeld => ?_)
        repeat (refine nx ?_; (try simp only [Act.put, List.setIfInBounds_toArray, List.set_cons_zero, List.set_cons_succ]))
        refine cl (fun K hK => ?_)
        obtain ⟨u, v, hf⟩ := hHeld.2
        have g0 := cell_list hf 0
        have g1 := cell_list hf 1
        have gf := froz hf
        simp only [World.cell?_drew, World.frozen?_drew, List.getElem?_toArray, List.getElem?_cons_zero, List.getElem?_cons_succ] at g0 g1 gf
        have gf0 := gf 0
        have gf1 := gf 1
        go_simp
        refine hK.out _ _ ⟨by first | assumption | go_keep | (simp [World.cell?_setCell_far, *]; done), _, _, setCell_at (setCell_at hf _) _⟩ (fun hHeld => ?_)
        clear hK K
        refine wpN_nil ?_
        go_wp2_with (fail)
        exact bodyPost_ret (results_cell_row rfl _ _ (w.heap.size + 1) 100 _ (0, 0) _ rfl (setCell_at (setCell_at (HX.out _ ((Below.refl _ _).drew)) _) _) Tryz.underlying100 rfl (by kernel_rfl)) rfl ⟨⟨_, rfl⟩, HB.out _ ((Below.refl _ _).drew) _ _⟩
      · cases c1 : (x.rd == x.rm)
        · rw [c1] at hR
          subst hR
          go_wp2_with (fail)
          refine wpN_start (S := fun w' => (w'.cell? ⟨w.heap.size, 2, none⟩ = some (.int .i64 x.rd) ∧ w'.cell? ⟨w.heap.size, 3, none⟩ = some (.int .i64 x.rn) ∧ w'.cell? ⟨w.heap.size, 4, none⟩ = some (.int .i64 x.rm)) ∧ ∃ u v, w'.heap[w.heap.size + 1]? = some (.cells #[u, v] 100 (0, 0))) (by kernel_rfl) ⟨⟨r2, r3, r4⟩, _, _, HH.out⟩ (fun hHeld => ?_)
          repeat (refine nx ?_; (try simp only [Act.put, List.setIfInBounds_toArray, List.set_cons_zero, List.set_cons_succ]))
          refine cl (fun K hK => ?_)
          obtain ⟨u, v, hf⟩ := hHeld.2
          have g0 := cell_list hf 0
          have g1 := cell_list hf 1
          have gf := froz hf
          simp only [World.cell?_drew, World.frozen?_drew, List.getElem?_toArray, List.getElem?_cons_zero, List.getElem?_cons_succ] at g0 g1 gf
          have gf0 := gf 0
          have gf1 := gf 1
          go_simp
          refine hK.out _ _ ⟨by first | assumption | go_keep | (simp [World.cell?_setCell_far, *]; done), _, _, setCell_at (setCell_at hf _) _⟩ (fun hHeld => ?_)
          clear hK K
          refine wpN_nil ?_
          go_wp2_with (fail)
          exact bodyPost_ret (results_cell_row rfl _ _ (w.heap.size + 1) 100 _ (0, 0) _ rfl (setCell_at (setCell_at (HX.out _ ((Below.refl _ _).drew)) _) _) Tryz.underlying100 rfl (by kernel_rfl)) rfl ⟨⟨_, rfl⟩, HB.out _ ((Below.refl _ _).drew) _ _⟩
        · rw [c1] at hR
          subst hR
          go_wp2_with (fail)
          refine wpN_start (S := fun w' => (w'.cell? ⟨w.heap.size, 2, none⟩ = some (.int .i64 x.rd) ∧ w'.cell? ⟨w.heap.size, 3, none⟩ = some (.int .i64 x.rn) ∧ w'.cell? ⟨w.heap.size, 4, none⟩ = some (.int .i64 x.rm)) ∧ ∃ u v, w'.heap[w.heap.size + 1]? = some (.cells #[u, v] 100 (0, 0))) (by kernel_rfl) ⟨⟨r2, r3, r4⟩, _, _, HH.out⟩ (fun hHeld => ?_)
          repeat (refine nx ?_; (try simp only [Act.put, List.setIfInBounds_toArray, List.set_cons_zero, List.set_cons_succ]))
          refine cl (fun K hK => ?_)
          obtain ⟨u, v, hf⟩ := hHeld.2
          replace hHeld := hHeld.1
          go_simp
          refine hK.out _ _ ⟨by first | assumption | go_keep, u, v, by first | exact hf | exact alloc_blk hf _⟩ (fun hHeld => ?_)
          clear hK K hf
          refine cl (fun K hK => ?_)
          obtain ⟨u, v, hf⟩ := hHeld.2
          replace hHeld := hHeld.1
          go_simp
          ((with_reducible refine (p2 _ _ (by first | exact alloc_at (by first | rfl | simp) | exact alloc_atd (by first | rfl | simp))).mono ?_); rintro e w7 ⟨rfl, rfl⟩)
          refine hK.out _ _ ⟨by first | assumption | go_keep, u, v, by first | exact hf | exact alloc_blk hf _⟩ (fun hHeld => ?_)
          clear hK K hf
          repeat (refine nx ?_; (try simp only [Act.put, List.setIfInBounds_toArray, List.set_cons_zero, List.set_cons_succ]))
          refine cl (fun K hK => ?_)
          obtain ⟨u, v, hf⟩ := hHeld.2
          have g0 := cell_list hf 0
          have g1 := cell_list hf 1
          have gf := froz hf
          simp only [World.cell?_drew, World.frozen?_drew, List.getElem?_toArray, List.getElem?_cons_zero, List.getElem?_cons_succ] at g0 g1 gf
          have gf0 := gf 0
          have gf1 := gf 1
          go_simp
          refine hK.out _ _ ⟨by first | assumption | go_keep | (simp [World.cell?_setCell_far, *]; done), _, _, setCell_at (setCell_at hf _) _⟩ (fun hHeld => ?_)
          clear hK K
          refine wpN_nil ?_
          go_wp2_with (fail)
          exact bodyPost_ret (results_cell_row rfl _ _ (w.heap.size + 1) 100 _ (0, 0) _ rfl (setCell_at (setCell_at (HX.out _ (bal (Below.refl _ _) _)) _) _) Tryz.underlying100 rfl (by kernel_rfl)) rfl ⟨⟨_, rfl⟩, (HB.out _ (bal (Below.refl _ _) _) _ _).drew⟩
    rw [if_neg (ne_of_beq_false a20)] at hR
    by_cases a32 : x.op = 32 ∨ x.op = 31
    · rw [if_pos a32] at hR
      have p2 := lowp1 x.rn
      generalize lowB x.rn = l2 at hR p2
      subst hR
      rcases a32 with ho | ho
      all_goals
        rw [ho] at r0
        clear ho
        cases l2
        · skip
          go_wp2_with (fail)
          refine wpN_start (S := fun w' => (w'.cell? ⟨w.heap.size, 3, none⟩ = some (.int .i64 x.rn) ∧ w'.cell? ⟨w.heap.size, 7, none⟩ = some (.int .i64 x.ls)) ∧ ∃ u v, w'.heap[w.heap.size + 1]? = some (.cells #[u, v] 100 (0, 0))) (by kernel_rfl) ⟨⟨r3, r7⟩, _, _, HH.out⟩ (fun hHeld => ?_)
          repeat (refine nx ?_; (try simp only [Act.put, List.setIfInBounds_toArray, List.set_cons_zero, List.set_cons_succ]))
          refine cl (fun K hK => ?_)
          obtain ⟨u, v, hf⟩ := hHeld.2
          replace hHeld := hHeld.1
          go_simp
          refine hK.out _ _ ⟨by first | assumption | go_keep, u, v, by first | exact hf | exact alloc_blk hf _⟩ (fun hHeld => ?_)
          clear hK K hf
          refine cl (fun K hK => ?_)
          obtain ⟨u, v, hf⟩ := hHeld.2
          replace hHeld := hHeld.1
          go_simp
          ((with_reducible refine (p2 _ _ (by first | exact alloc_at (by first | rfl | simp) | exact alloc_atd (by first | rfl | simp))).mono ?_); rintro e w7 ⟨rfl, rfl⟩)
          refine hK.out _ _ ⟨by first | assumption | go_keep, u, v, by first | exact hf | exact alloc_blk hf _⟩ (fun hHeld => ?_)
          clear hK K hf
          repeat (refine nx ?_; (try simp only [Act.put, List.setIfInBounds_toArray, List.set_cons_zero, List.set_cons_succ]))
          refine cl (fun K hK => ?_)
          obtain ⟨u, v, hf⟩ := hHeld.2
          have g0 := cell_list hf 0
          have g1 := cell_list hf 1
          have gf := froz hf
          simp only [World.cell?_drew, World.frozen?_drew, List.getElem?_toArray, List.getElem?_cons_zero, List.getElem?_cons_succ] at g0 g1 gf
          have gf0 := gf 0
          have gf1 := gf 1
          go_simp
          refine hK.out _ _ ⟨by first | assumption | go_keep | (simp [World.cell?_setCell_far, *]; done), _, _, setCell_at (setCell_at hf _) _⟩ (fun hHeld => ?_)
          clear hK K
          refine wpN_nil ?_
          go_wp2_with (fail)
          exact bodyPost_ret (results_cell_row rfl _ _ (w.heap.size + 1) 100 _ (0, 0) _ rfl (setCell_at (setCell_at (HX.out _ (bal (Below.refl _ _) _)) _) _) Tryz.underlying100 rfl (by kernel_rfl)) rfl ⟨⟨_, rfl⟩, (HB.out _ (bal (Below.refl _ _) _) _ _).drew⟩
        · skip
          go_wp2_with (fail)
          refine wpN_start (S := fun w' => (w'.cell? ⟨w.heap.size, 3, none⟩ = some (.int .i64 x.rn) ∧ w'.cell? ⟨w.heap.size, 7, none⟩ = some (.int .i64 x.ls)) ∧ ∃ u v, w'.heap[w.heap.size + 1]? = some (.cells #[u, v] 100 (0, 0))) (by kernel_rfl) ⟨⟨r3, r7⟩, _, _, HH.out⟩ (fun hHeld => ?_)
          repeat (refine nx ?_; (try simp only [Act.put, List.setIfInBounds_toArray, List.set_cons_zero, List.set_cons_succ]))
          refine cl (fun K hK => ?_)
          obtain ⟨u, v, hf⟩ := hHeld.2
          replace hHeld := hHeld.1
          go_simp
          refine hK.out _ _ ⟨by first | assumption | go_keep, u, v, by first | exact hf | exact alloc_blk hf _⟩ (fun hHeld => ?_)
          clear hK K hf
          refine cl (fun K hK => ?_)
          obtain ⟨u, v, hf⟩ := hHeld.2
          replace hHeld := hHeld.1
          go_simp
          ((with_reducible refine (p2 _ _ (by first | exact alloc_at (by first | rfl | simp) | exact alloc_atd (by first | rfl | simp))).mono ?_); rintro e w7 ⟨rfl, rfl⟩)
          refine hK.out _ _ ⟨by first | assumption | go_keep, u, v, by first | exact hf | exact alloc_blk hf _⟩ (fun hHeld => ?_)
          clear hK K hf
          repeat (refine nx ?_; (try simp only [Act.put, List.setIfInBounds_toArray, List.set_cons_zero, List.set_cons_succ]))
          refine cl (fun K hK => ?_)
          obtain ⟨u, v, hf⟩ := hHeld.2
          have g0 := cell_list hf 0
          have g1 := cell_list hf 1
          have gf := froz hf
          simp only [World.cell?_drew, World.frozen?_drew, List.getElem?_toArray, List.getElem?_cons_zero, List.getElem?_cons_succ] at g0 g1 gf
          have gf0 := gf 0
          have gf1 := gf 1
          go_simp
          refine hK.out _ _ ⟨by first | assumption | go_keep | (simp [World.cell?_setCell_far, *]; done), _, _, setCell_at (setCell_at hf _) _⟩ (fun hHeld => ?_)
          clear hK K
          refine wpN_nil ?_
          go_wp2_with (fail)
          exact bodyPost_ret (results_cell_row rfl _ _ (w.heap.size + 1) 100 _ (0, 0) _ rfl (setCell_at (setCell_at (HX.out _ (bal (Below.refl _ _) _)) _) _) Tryz.underlying100 rfl (by kernel_rfl)) rfl ⟨⟨_, rfl⟩, (HB.out _ (bal (Below.refl _ _) _) _ _).drew⟩
    rw [if_neg a32] at hR
    obtain ⟨e32, e31⟩ : (x.op == 32) = false ∧ (x.op == 31) = false := by simp; omega
    clear a32
    cases a33 : (x.op == 33)
    rotate_left
    · rw [if_pos (eq_of_beq a33)] at hR
      subst hR
      go_wp2_with (fail)
      exact bodyPost_ret (results_cell_row rfl _ _ (w.heap.size + 1) 100 _ (0, 0) _ rfl (setCell_at (setCell_at (HX.out _ (Below.refl _ _)) _) _) Tryz.underlying100 rfl (by kernel_rfl)) rfl ⟨⟨_, rfl⟩, HB.out _ (Below.refl _ _) _ _⟩
    rw [if_neg (ne_of_beq_false a33)] at hR
    cases a34 : (x.op == 34)
    rotate_left
    · rw [if_pos (eq_of_beq a34)] at hR
      subst hR
      go_wp2_with (fail)
      exact bodyPost_ret (results_cell_row rfl _ _ (w.heap.size + 1) 100 _ (0, 0) _ rfl (setCell_at (setCell_at (HX.out _ (Below.refl _ _)) _) _) Tryz.underlying100 rfl (by kernel_rfl)) rfl ⟨⟨_, rfl⟩, HB.out _ (Below.refl _ _) _ _⟩
    rw [if_neg (ne_of_beq_false a34)] at hR
    cases a35 : (x.op == 35)
    rotate_left
    · rw [if_pos (eq_of_beq a35)] at hR
      cases c1 : (x.ic == 14)
      · rw [if_neg (ne_of_beq_false c1)] at hR
        subst hR
        obtain ⟨r, hr⟩ := near_n (bits BinOp.or IntKind.i64 53248 (wrap64 (x.ic * 256))) 1 x.im (by decide) (!it)
        have hn := hr _ HLd.out
        clear hr
        have fz0 := fz 0
        have fz1 := fz 1
        go_wp2_with (fail)
        ((with_reducible refine hn.mono ?_); rintro e w7 ⟨rfl, b7⟩)
        have h7 := HX.out _ b7
        have g0 := cell_list h7 0
        have g1 := cell_list h7 1
        have gf := froz h7
        go_wp2_with (fail)
        exact bodyPost_ret (results_cell_row rfl _ _ (w.heap.size + 1) 100 _ (0, 0) _ rfl (setCell_at (setCell_at (HX.out _ (b7)) _) _) Tryz.underlying100 rfl (by kernel_rfl)) rfl ⟨⟨_, rfl⟩, HB.out _ (b7) _ _⟩
      · rw [if_pos (eq_of_beq c1)] at hR
        subst hR
        obtain ⟨r, hr⟩ := near_n (57344) 2 x.im (by decide) (true)
        have hn := hr _ HLd.out
        clear hr
        have fz0 := fz 0
        have fz1 := fz 1
        go_wp2_with (fail)
        ((with_reducible refine hn.mono ?_); rintro e w7 ⟨rfl, b7⟩)
        have h7 := HX.out _ b7
        have g0 := cell_list h7 0
        have g1 := cell_list h7 1
        have gf := froz h7
        go_wp2_with (fail)
        exact bodyPost_ret (results_cell_row rfl _ _ (w.heap.size + 1) 100 _ (0, 0) _ rfl (setCell_at (setCell_at (HX.out _ (b7)) _) _) Tryz.underlying100 rfl (by kernel_rfl)) rfl ⟨⟨_, rfl⟩, HB.out _ (b7) _ _⟩
    rw [if_neg (ne_of_beq_false a35)] at hR
    by_cases a37 : x.op = 37 ∨ x.op = 38
    · rw [if_pos a37] at hR
      subst hR
      rcases a37 with ho | ho
      · rw [ho] at r0
        clear ho
        obtain ⟨r, hr⟩ := near_n (bits BinOp.or IntKind.i64 45312 x.rn) 5 x.im (by decide) (!it)
        have hn := hr _ HLd.out
        clear hr
        have fz0 := fz 0
        have fz1 := fz 1
        go_wp2_with (fail)
        ((with_reducible refine hn.mono ?_); rintro e w7 ⟨rfl, b7⟩)
        have h7 := HX.out _ b7
        have g0 := cell_list h7 0
        have g1 := cell_list h7 1
        have gf := froz h7
        go_wp2_with (fail)
        exact bodyPost_ret (results_cell_row rfl _ _ (w.heap.size + 1) 100 _ (0, 0) _ rfl (setCell_at (setCell_at (HX.out _ (b7)) _) _) Tryz.underlying100 rfl (by kernel_rfl)) rfl ⟨⟨_, rfl⟩, HB.out _ (b7) _ _⟩
      · rw [ho] at r0
        clear ho
        obtain ⟨r, hr⟩ := near_n (bits BinOp.or IntKind.i64 47360 x.rn) 5 x.im (by decide) (!it)
        have hn := hr _ HLd.out
        clear hr
        have fz0 := fz 0
        have fz1 := fz 1
        go_wp2_with (fail)
        ((with_reducible refine hn.mono ?_); rintro e w7 ⟨rfl, b7⟩)
        have h7 := HX.out _ b7
        have g0 := cell_list h7 0
        have g1 := cell_list h7 1
        have gf := froz h7
        go_wp2_with (fail)
        exact bodyPost_ret (results_cell_row rfl _ _ (w.heap.size + 1) 100 _ (0, 0) _ rfl (setCell_at (setCell_at (HX.out _ (b7)) _) _) Tryz.underlying100 rfl (by kernel_rfl)) rfl ⟨⟨_, rfl⟩, HB.out _ (b7) _ _⟩
    rw [if_neg a37] at hR
    obtain ⟨e37, e38⟩ : (x.op == 37) = false ∧ (x.op == 38) = false := by simp; omega
    clear a37
    by_cases a39 : x.op = 39 ∨ x.op = 43 ∨ x.op = 44
    · rw [if_pos a39] at hR
      subst hR
      rcases a39 with ho | ho | ho
      all_goals
        rw [ho] at r0
        clear ho
        go_wp2_with (fail)
        exact bodyPost_ret (results_cell_row rfl _ _ (w.heap.size + 1) 100 _ (0, 0) _ rfl (setCell_at (setCell_at (HX.out _ (Below.refl _ _)) _) _) Tryz.underlying100 rfl (by kernel_rfl)) rfl ⟨⟨_, rfl⟩, HB.out _ (Below.refl _ _) _ _⟩
    rw [if_neg a39] at hR
    obtain ⟨e39, e43, e44⟩ : (x.op == 39) = false ∧ (x.op == 43) = false ∧ (x.op == 44) = false := by simp; omega
    clear a39
    by_cases a40 : x.op = 40 ∨ x.op = 41
    · rw [if_pos a40] at hR
      subst hR
      rcases a40 with ho | ho
      all_goals
        rw [ho] at r0
        clear ho
        go_wp2_with (fail)
        exact bodyPost_ret (results_cell_row rfl _ _ (w.heap.size + 1) 100 _ (0, 0) _ rfl (setCell_at (setCell_at (HX.out _ (Below.refl _ _)) _) _) Tryz.underlying100 rfl (by kernel_rfl)) rfl ⟨⟨_, rfl⟩, HB.out _ (Below.refl _ _) _ _⟩
    rw [if_neg a40] at hR
    obtain ⟨e40, e41⟩ : (x.op == 40) = false ∧ (x.op == 41) = false := by simp; omega
    clear a40
    cases a42 : (x.op == 42)
    rotate_left
    · rw [if_pos (eq_of_beq a42)] at hR
      subst hR
      go_wp2_with (fail)
      exact bodyPost_ret (results_cell_row rfl _ _ (w.heap.size + 1) 100 _ (0, 0) _ rfl (setCell_at (setCell_at (HX.out _ (Below.refl _ _)) _) _) Tryz.underlying100 rfl (by kernel_rfl)) rfl ⟨⟨_, rfl⟩, HB.out _ (Below.refl _ _) _ _⟩
    rw [if_neg (ne_of_beq_false a42)] at hR
    subst hR
    go_wp2_with (fail)
    exact bodyPost_ret (results_cell_row rfl _ _ (w.heap.size + 1) 100 _ (0, 0) _ rfl (setCell_at (setCell_at (HX.out _ (Below.refl _ _)) _) _) Tryz.underlying100 rfl (by kernel_rfl)) rfl ⟨⟨_, rfl⟩, HB.out _ (Below.refl _ _) _ _⟩
end Go.Proofs.YtpdkpkabdkefcaaGreatDoor
