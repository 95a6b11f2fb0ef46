/- For the seat: texts joined: IsJ. -/
import Derived.Test.YtpdkpkabdkefcaaGreatDoorJBh
set_option maxRecDepth 100000
namespace Go.Proofs.YtpdkpkabdkefcaaGreatDoor
open Go.Sx Go.ChangeShapes Go.WideShapes Go.RowKit Go.Joins Go.Deep Go.Rp
set_option maxHeartbeats 4000000 in
theorem nums_n (x : Lk) (it : Bool) (w : World) : Calls Tryz.prog 122 #[.agg (inC x), .bool it] w fun e w' => FmRet (x.numB it) e w' ∧ Below w.heap.size w w' := by
  obtain ⟨W0, hW0⟩ : ∃ W, Hid (W = w.alloc (.cells (inC x) 44)) := ⟨_, Lib.hid rfl⟩
  have hz0 : W0.heap[w.heap.size]? = some (.cells (inC x) 44 (0, 0)) := by rw [hW0.out]; exact heap_alloc_new w _
  have b0 : Below w.heap.size w W0 := by rw [hW0.out]; exact bal (Below.refl _ _) _
  obtain ⟨q0, q1, q2, q3, q4, q5, q6, q7, q8⟩ := in_cells hz0
  obtain ⟨r0, r1, r2, r3, r4, r5, r6, r7, r8⟩ := in_cells (show W0.drew.heap[w.heap.size]? = _ from hz0)
  have bd : Below w.heap.size w W0.drew := b0.drew
  have hR : x.numB it = if x.op = 9 then [(x.im == 0) && ((!(x.s == it)) && low2 x.rd x.rn)] else if x.op = 12 then [decide (x.im ≤ 255) && lowB x.rn] else if x.op = 10 then [decide (x.im ≤ 255) && ((!(x.s == it)) && lowB x.rd)]
    else if x.op = 16 ∨ x.op = 17 ∨ x.op = 18 then [(!(x.s == it)) && low2 x.rd x.rn]
    else if x.op = 7 ∨ x.op = 5 then [decide (x.im ≤ 7) && ((!(x.s == it)) && low2 x.rd x.rn), decide (x.im ≤ 255) && ((x.rd == x.rn) && ((!(x.s == it)) && lowB x.rd))] else [] := rfl
  generalize x.numB it = R at hR
  go_enter Tryz.func122, Tryz.ntmps122
  go_wp2_with (first | rw [← hW0.out] | fail)
  refine wpN_start (S := fun w' => w'.cell? ⟨w.heap.size, 2, none⟩ = some (.int .i64 x.rd) ∧ w'.cell? ⟨w.heap.size, 3, none⟩ = some (.int .i64 x.rn) ∧ w'.cell? ⟨w.heap.size, 5, none⟩ = some (.int .i64 x.im)) (by kernel_rfl) ⟨r2, r3, r5⟩ (fun hHeld => ?_)
  repeat (refine nx ?_; (try simp only [Act.put, List.setIfInBounds_toArray, List.set_cons_zero, List.set_cons_succ]))
  refine wpN_nil ?_
  clear hHeld q0 q1 q2 q3 q4 q5 q6 q7 q8 hz0 b0 hW0
  generalize W0.drew = W at r0 r1 r2 r3 r4 r5 r6 r7 r8 bd ⊢
  generalize (!(x.s == it)) = sx at hR ⊢
  cases a9 : (x.op == 9)
  rotate_left
  · rw [if_pos (eq_of_beq a9)] at hR
    have p1 := lowp2 x.rd x.rn
    generalize low2 x.rd x.rn = l1 at hR p1
    cases cxim0 : (x.im == 0)
    · rw [cxim0] at hR
      subst hR
      go_wp2_with (fail)
      exact bodyPost_ret (results_tmp rfl _ _ _) rfl ⟨fm_end1 _ _ _ (by first | rfl | simp), bal bd _⟩
    · rw [cxim0] at hR
      cases sx
      · skip
        subst hR
        go_wp2_with (fail)
        exact bodyPost_ret (results_tmp rfl _ _ _) rfl ⟨fm_end1 _ _ _ (by first | rfl | simp), bal bd _⟩
      · skip
        subst hR
        go_wp2_with (fail)
        ((with_reducible refine (p1 _ _ (by first | exact alloc_at (by first | rfl | simp) | exact alloc_atd (by first | rfl | simp))).mono ?_); rintro e w7 ⟨rfl, rfl⟩)
        go_wp2_with (fail)
        exact bodyPost_ret (results_tmp rfl _ _ _) rfl ⟨fm_end1 _ _ _ (by first | rfl | simp), bal (bal bd _) _⟩
  rw [if_neg (ne_of_beq_false a9)] at hR
  cases a12 : (x.op == 12)
  rotate_left
  · rw [if_pos (eq_of_beq a12)] at hR
    have p1 := lowp1 x.rn
    generalize lowB x.rn = l1 at hR p1
    cases cdecidexim255 : decide (x.im ≤ 255)
    · rw [cdecidexim255] at hR
      subst hR
      go_wp2_with (fail)
      exact bodyPost_ret (results_tmp rfl _ _ _) rfl ⟨fm_end1 _ _ _ (by first | rfl | simp), bal bd _⟩
    · rw [cdecidexim255] at hR
      subst hR
      go_wp2_with (fail)
      ((with_reducible refine (p1 _ _ (by first | exact alloc_at (by first | rfl | simp) | exact alloc_atd (by first | rfl | simp))).mono ?_); rintro e w7 ⟨rfl, rfl⟩)
      go_wp2_with (fail)
      exact bodyPost_ret (results_tmp rfl _ _ _) rfl ⟨fm_end1 _ _ _ (by first | rfl | simp), bal (bal bd _) _⟩
  rw [if_neg (ne_of_beq_false a12)] at hR
  cases a10 : (x.op == 10)
  rotate_left
  · rw [if_pos (eq_of_beq a10)] at hR
    have p1 := lowp1 x.rd
    generalize lowB x.rd = l1 at hR p1
    cases cdecidexim255 : decide (x.im ≤ 255)
    · rw [cdecidexim255] at hR
      subst hR
      go_wp2_with (fail)
      exact bodyPost_ret (results_tmp rfl _ _ _) rfl ⟨fm_end1 _ _ _ (by first | rfl | simp), bal bd _⟩
    · rw [cdecidexim255] at hR
      cases sx
      · skip
        subst hR
        go_wp2_with (fail)
        exact bodyPost_ret (results_tmp rfl _ _ _) rfl ⟨fm_end1 _ _ _ (by first | rfl | simp), bal bd _⟩
      · skip
        subst hR
        go_wp2_with (fail)
        ((with_reducible refine (p1 _ _ (by first | exact alloc_at (by first | rfl | simp) | exact alloc_atd (by first | rfl | simp))).mono ?_); rintro e w7 ⟨rfl, rfl⟩)
        go_wp2_with (fail)
        exact bodyPost_ret (results_tmp rfl _ _ _) rfl ⟨fm_end1 _ _ _ (by first | rfl | simp), bal (bal bd _) _⟩
  rw [if_neg (ne_of_beq_false a10)] at hR
  by_cases a16 : x.op = 16 ∨ x.op = 17 ∨ x.op = 18
  · rw [if_pos a16] at hR
    have p1 := lowp2 x.rd x.rn
    generalize low2 x.rd x.rn = l1 at hR p1
    rcases a16 with ho | ho | ho
    all_goals
      rw [ho] at r0
      clear ho
      cases sx
      · subst hR
        go_wp2_with (fail)
        refine wpN_start (S := fun w' => w'.cell? ⟨w.heap.size, 0, none⟩ = some (.int .i64 _)) (by kernel_rfl) r0 (fun hHeld => ?_)
        repeat (refine nx ?_; (try simp only [Act.put, List.setIfInBounds_toArray, List.set_cons_zero, List.set_cons_succ]))
        refine cl (fun K hK => ?_)
        go_simp
        refine hK.out _ _ (by first | assumption | go_keep) (fun hHeld => ?_)
        clear hK K
        repeat (refine nx ?_; (try simp only [Act.put, List.setIfInBounds_toArray, List.set_cons_zero, List.set_cons_succ]))
        refine wpN_nil ?_
        go_wp2_with (fail)
        exact bodyPost_ret (results_tmp rfl _ _ _) rfl ⟨fm_end1 _ _ _ (by first | rfl | simp), bal bd.drew _⟩
      · subst hR
        go_wp2_with (fail)
        refine wpN_start (S := fun w' => w'.cell? ⟨w.heap.size, 0, none⟩ = some (.int .i64 _)) (by kernel_rfl) r0 (fun hHeld => ?_)
        repeat (refine nx ?_; (try simp only [Act.put, List.setIfInBounds_toArray, List.set_cons_zero, List.set_cons_succ]))
        refine cl (fun K hK => ?_)
        go_simp
        refine hK.out _ _ (by first | assumption | go_keep) (fun hHeld => ?_)
        clear hK K
        refine cl (fun K hK => ?_)
        go_simp
        ((with_reducible refine (p1 _ _ (by first | exact alloc_at (by first | rfl | simp) | exact alloc_atd (by first | rfl | simp))).mono ?_); rintro e w7 ⟨rfl, rfl⟩)
        refine hK.out _ _ (by first | assumption | go_keep) (fun hHeld => ?_)
        clear hK K
        repeat (refine nx ?_; (try simp only [Act.put, List.setIfInBounds_toArray, List.set_cons_zero, List.set_cons_succ]))
        refine cl (fun K hK => ?_)
        go_simp
        refine hK.out _ _ (by first | assumption | go_keep) (fun hHeld => ?_)
        clear hK K
        repeat (refine nx ?_; (try simp only [Act.put, List.setIfInBounds_toArray, List.set_cons_zero, List.set_cons_succ]))
        refine wpN_nil ?_
        go_wp2_with (fail)
        exact bodyPost_ret (results_tmp rfl _ _ _) rfl ⟨fm_end1 _ _ _ (by first | rfl | simp), bal (bal bd.drew _) _⟩
  rw [if_neg a16] at hR
  obtain ⟨e16, e17, e18⟩ : (x.op == 16) = false ∧ (x.op == 17) = false ∧ (x.op == 18) = false := by simp; omega
  clear a16
  by_cases a7 : x.op = 7 ∨ x.op = 5
  · rw [if_pos a7] at hR
    have p1 := lowp2 x.rd x.rn
    generalize low2 x.rd x.rn = l1 at hR p1
    have p2 := lowp1 x.rd
    generalize lowB x.rd = l2 at hR p2
    rcases a7 with ho | ho
    all_goals
      rw [ho] at r0
      clear ho
      cases cdecidexim7 : decide (x.im ≤ 7)
      · rw [cdecidexim7] at hR
        cases cdecidexim255 : decide (x.im ≤ 255)
        · rw [cdecidexim255] at hR
          subst hR
          go_wp2_with (fail)
          exact bodyPost_ret (results_tmp rfl _ _ _) rfl ⟨fm_end2 _ _ _ _ _ (by first | rfl | simp), bal bd _⟩
        · rw [cdecidexim255] at hR
          cases cxrdxrn : (x.rd == x.rn)
          · rw [cxrdxrn] at hR
            subst hR
            go_wp2_with (fail)
            exact bodyPost_ret (results_tmp rfl _ _ _) rfl ⟨fm_end2 _ _ _ _ _ (by first | rfl | simp), bal bd _⟩
          · rw [cxrdxrn] at hR
            cases sx
            · skip
              subst hR
              go_wp2_with (fail)
              exact bodyPost_ret (results_tmp rfl _ _ _) rfl ⟨fm_end2 _ _ _ _ _ (by first | rfl | simp), bal bd _⟩
            · skip
              subst hR
              go_wp2_with (fail)
              ((with_reducible refine (p2 _ _ (by first | exact alloc_at (by first | rfl | simp) | exact alloc_atd (by first | rfl | simp))).mono ?_); rintro e w7 ⟨rfl, rfl⟩)
              go_wp2_with (fail)
              exact bodyPost_ret (results_tmp rfl _ _ _) rfl ⟨fm_end2 _ _ _ _ _ (by first | rfl | simp), bal (bal bd _) _⟩
      · rw [cdecidexim7] at hR
        cases sx
        · cases cdecidexim255 : decide (x.im ≤ 255)
          · rw [cdecidexim255] at hR
            subst hR
            go_wp2_with (fail)
            exact bodyPost_ret (results_tmp rfl _ _ _) rfl ⟨fm_end2 _ _ _ _ _ (by first | rfl | simp), bal bd _⟩
          · rw [cdecidexim255] at hR
            cases cxrdxrn : (x.rd == x.rn)
            · rw [cxrdxrn] at hR
              subst hR
              go_wp2_with (fail)
              exact bodyPost_ret (results_tmp rfl _ _ _) rfl ⟨fm_end2 _ _ _ _ _ (by first | rfl | simp), bal bd _⟩
            · rw [cxrdxrn] at hR
              subst hR
              go_wp2_with (fail)
              exact bodyPost_ret (results_tmp rfl _ _ _) rfl ⟨fm_end2 _ _ _ _ _ (by first | rfl | simp), bal bd _⟩
        · cases cdecidexim255 : decide (x.im ≤ 255)
          · rw [cdecidexim255] at hR
            subst hR
            go_wp2_with (fail)
            ((with_reducible refine (p1 _ _ (by first | exact alloc_at (by first | rfl | simp) | exact alloc_atd (by first | rfl | simp))).mono ?_); rintro e w7 ⟨rfl, rfl⟩)
            go_wp2_with (fail)
            exact bodyPost_ret (results_tmp rfl _ _ _) rfl ⟨fm_end2 _ _ _ _ _ (by first | rfl | simp), bal (bal bd _) _⟩
          · rw [cdecidexim255] at hR
            cases cxrdxrn : (x.rd == x.rn)
            · rw [cxrdxrn] at hR
              subst hR
              go_wp2_with (fail)
              ((with_reducible refine (p1 _ _ (by first | exact alloc_at (by first | rfl | simp) | exact alloc_atd (by first | rfl | simp))).mono ?_); rintro e w7 ⟨rfl, rfl⟩)
              go_wp2_with (fail)
              exact bodyPost_ret (results_tmp rfl _ _ _) rfl ⟨fm_end2 _ _ _ _ _ (by first | rfl | simp), bal (bal bd _) _⟩
            · rw [cxrdxrn] at hR
              subst hR
              go_wp2_with (fail)
              ((with_reducible refine (p1 _ _ (by first | exact alloc_at (by first | rfl | simp) | exact alloc_atd (by first | rfl | simp))).mono ?_); rintro e w7 ⟨rfl, rfl⟩)
              go_wp2_with (fail)
              ((with_reducible refine (p2 _ _ (by first | exact alloc_at (by first | rfl | simp) | exact alloc_atd (by first | rfl | simp))).mono ?_); rintro e w7 ⟨rfl, rfl⟩)
              go_wp2_with (fail)
              exact bodyPost_ret (results_tmp rfl _ _ _) rfl ⟨fm_end2 _ _ _ _ _ (by first | rfl | simp), bal (bal (bal bd _) _) _⟩
  rw [if_neg a7] at hR
  obtain ⟨e7, e5⟩ : (x.op == 7) = false ∧ (x.op == 5) = false := by simp; omega
  clear a7
  subst hR
  go_wp2_with (fail)
  exact bodyPost_ret (results_tmp rfl _ _ _) rfl ⟨⟨none, 0, [], rfl, rfl, RAt.nil _ _ _⟩, bd⟩
end Go.Proofs.YtpdkpkabdkefcaaGreatDoor
