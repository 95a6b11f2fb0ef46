/- For the seat: texts joined: IsL. -/
import Derived.Test.YtpdkpkabdkefcaaGreatDoorJBh
import Derived.Test.YtpdkpkabdkefcaaGreatDoorJAp
import Derived.Deep.Cut
set_option maxRecDepth 100000
namespace Go.Proofs.YtpdkpkabdkefcaaGreatDoor
open Go.Sx Go.ChangeShapes Go.WideShapes Go.RowKit Go.Joins Go.Deep Go.Rp
set_option maxHeartbeats 4000000 in
theorem data_n (x : Lk) (it : Bool) (w : World) : Calls Tryz.prog 121 #[.agg (inC x), .bool it] w fun e w' => FmRet (x.datB it) e w' ∧ Below w.heap.size w w' := by
  obtain ⟨W0, hW0⟩ : ∃ W, Hid (W = w.alloc (.cells (inC x) 44)) := ⟨_, Lib.hid rfl⟩
  have hz0 : W0.heap[w.heap.size]? = some (.cells (inC x) 44 (0, 0)) := by rw [hW0.out]; exact heap_alloc_new w _
  have b0 : Below w.heap.size w W0 := by rw [hW0.out]; exact bal (Below.refl _ _) _
  obtain ⟨q0, q1, q2, q3, q4, q5, q6, q7, q8⟩ := in_cells hz0
  obtain ⟨r0, r1, r2, r3, r4, r5, r6, r7, r8⟩ := in_cells (show W0.drew.heap[w.heap.size]? = _ from hz0)
  have bd : Below w.heap.size w W0.drew := b0.drew
  have hR : x.datB it = (pairB x.op && ((x.rd == x.rn) && ((!(x.s == it)) && low2 x.rd x.rm))) ::
    (if x.op = 11 then [(!(x.s == it)) && low2 x.rd x.rm] else if x.op = 14 ∨ x.op = 13 then [low2 x.rn x.rm] else if x.op = 12 then [low2 x.rn x.rm, true]
    else if x.op = 10 then [x.s && (!it && low2 x.rd x.rm), !x.s] else if x.op = 5 then [(!(x.s == it)) && low3 x.rd x.rn x.rm, (x.rd == x.rn) && !x.s]
    else if x.op = 7 then [(!(x.s == it)) && low3 x.rd x.rn x.rm] else []) := rfl
  generalize x.datB it = R at hR
  have HR := Lib.hid hR
  have HI : Hid (W0.drew.heap[w.heap.size]? = some (.cells (inC x) 44 (0, 0))) := Lib.hid hz0
  have hsz : w.heap.size + 1 ≤ W0.drew.heap.size := by rw [hW0.out]; simp [World.drew]
  clear hR
  go_enter Tryz.func121, Tryz.ntmps121
  go_wp2_with (first | rw [← hW0.out] | fail)
  refine wpN_start (S := fun w' => w'.cell? ⟨w.heap.size, 2, none⟩ = some (.int .i64 x.rd) ∧ w'.cell? ⟨w.heap.size, 3, none⟩ = some (.int .i64 x.rn) ∧ w'.cell? ⟨w.heap.size, 4, none⟩ = some (.int .i64 x.rm)) (by kernel_rfl) ⟨r2, r3, r4⟩ (fun hHeld => ?_)
  repeat (refine nx ?_; (try simp only [Act.put, List.setIfInBounds_toArray, List.set_cons_zero, List.set_cons_succ]))
  refine wpN_nil ?_
  clear hHeld q0 q1 q2 q3 q4 q5 q6 q7 q8 hz0 b0 hW0
  generalize W0.drew = W at r0 r1 r2 r3 r4 r5 r6 r7 r8 bd HI hsz ⊢
  obtain ⟨ph, hpair⟩ := pair_n x.op
  have hp := hpair W
  have hR := HR.out
  clear hpair HR
  generalize (!(x.s == it)) = sx at hR ⊢
  obtain ⟨B, hB⟩ : ∃ B, B = (pairB x.op && ((x.rd == x.rn) && (sx && low2 x.rd x.rm))) := ⟨_, rfl⟩
  rw [← hB] at hR
  generalize pairB x.op = pb at hB hp
  have h7 := h7_n x.rd
  have h7n := h7_n x.rn
  go_wp2_with (fail)
  ((with_reducible refine hp.mono ?_); rintro e w7 ⟨rfl, rfl⟩)
  clear hp
  go_upto_region 4 with fail
  go_cut [11] from 28 (fun v wx => OwnF (w.heap.size + 1) [B] v wx ∧ Below (w.heap.size + 1) w7 wx)
  case first =>
    have p1 := lowp2 x.rd x.rm
    generalize low2 x.rd x.rm = l1 at p1 hB
    clear hR
    cases pb
    · skip
      have hB2 := Lib.hid hB
      clear hB
      go_wp2_with (fail)
      go_meet
      exact ⟨by rw [hB2.out]; exact own1 _ hsz _ _ (by first | rfl | simp), (Below.refl _ _).alloc hsz _⟩
    cases c1 : (x.rd == x.rn)
    · rw [c1] at hB
      have hB2 := Lib.hid hB
      clear hB
      go_wp2_with (fail)
      go_meet
      exact ⟨by rw [hB2.out]; exact own1 _ hsz _ _ (by first | rfl | simp), (Below.refl _ _).alloc hsz _⟩
    rw [c1] at hB
    cases sx
    · skip
      have hB2 := Lib.hid hB
      clear hB
      go_wp2_with (fail)
      go_meet
      exact ⟨by rw [hB2.out]; exact own1 _ hsz _ _ (by first | rfl | simp), (Below.refl _ _).alloc hsz _⟩
    · skip
      have hB2 := Lib.hid hB
      clear hB
      go_wp2_with (fail)
      ((with_reducible refine (p1 _ _ (by first | exact alloc_at (by first | rfl | simp) | exact alloc_atd (by first | rfl | simp))).mono ?_); rintro e w7 ⟨rfl, rfl⟩)
      go_wp2_with (fail)
      go_meet
      exact ⟨by rw [hB2.out]; exact own1 _ (by simp; omega) _ _ (by first | rfl | simp), (((Below.refl _ _)).alloc hsz _).alloc (by simp; omega) _⟩
  case rest =>
    obtain ⟨hown, bW⟩ := hcut
    have h0 : wc.heap[w.heap.size]? = some (.cells (inC x) 44 (0, 0)) := (bW.block _ (Nat.lt_succ_self _)).trans HI.out
    have hsc : w.heap.size + 1 ≤ wc.heap.size := Nat.le_trans hsz bW.size
    have hE : ∀ V V', Below wc.heap.size wc V → Below (w.heap.size + 1) V V' → Below w.heap.size w V' := fun V V' h h' => bd.trans ((bW.mono (Nat.le_succ _)).trans ((h.mono (by omega)).trans (h'.mono (Nat.le_succ _))))
    have HE := Lib.hid hE
    have HO := Lib.hid hown
    clear hB hE hown r0 r1 r2 r3 r4 r5 r6 r7 r8
    obtain ⟨r0, r1, r2, r3, r4, r5, r6, r7, r8⟩ := in_cells h0
    clear h0 bd bW
    cases a11 : (x.op == 11)
    rotate_left
    · rw [if_pos (eq_of_beq a11)] at hR
      have p1 := lowp2 x.rd x.rm
      generalize low2 x.rd x.rm = l1 at hR p1
      cases sx
      · skip
        subst hR
        go_wp2_with (first | (with_reducible show wpList _ _ _ (_ :: _) _ _; refine wpList_stop 70 rfl ?_))
        refine Lib.hid ?_
        refine wpList_plain rfl fun K hK => ?_
        refine app1 _ _ _ rfl (w.heap.size + 1) (by first | exact hsc | (simp; omega)) _ rfl (HO.out) (by simp) _ rfl (by first | rfl | simp) _ _ fun v2 w2 hown2 hb2 => hK _ _ ?_
        clear hK K
        go_wp2_with (fail)
        exact bodyPost_ret (results_tmp rfl _ _ _) rfl ⟨own_ret hown2, HE.out _ _ (Below.refl _ _) hb2⟩
      · skip
        subst hR
        go_wp2_with (first | (go_at_call 159; ((with_reducible refine (p1 _ _ (by first | exact alloc_at (by first | rfl | simp) | exact alloc_atd (by first | rfl | simp))).mono ?_); rintro e w7 ⟨rfl, rfl⟩)) | (with_reducible show wpList _ _ _ (_ :: _) _ _; refine wpList_stop 70 rfl ?_))
        refine Lib.hid ?_
        refine wpList_plain rfl fun K hK => ?_
        refine app1 _ _ _ rfl (w.heap.size + 1) (by first | exact hsc | (simp; omega)) _ rfl (own_more HO.out (bal (Below.refl _ _) _)) (by simp) _ rfl (by first | rfl | simp) _ _ fun v2 w2 hown2 hb2 => hK _ _ ?_
        clear hK K
        go_wp2_with (fail)
        exact bodyPost_ret (results_tmp rfl _ _ _) rfl ⟨own_ret hown2, HE.out _ _ (bal (Below.refl _ _) _) hb2⟩
    rw [if_neg (ne_of_beq_false a11)] at hR
    by_cases a14 : x.op = 14 ∨ x.op = 13
    · rw [if_pos a14] at hR
      have p1 := lowp2 x.rn x.rm
      generalize low2 x.rn x.rm = l1 at hR p1
      rcases a14 with ho | ho
      · rw [ho] at r0
        clear ho
        subst hR
        go_wp2_with (first | (go_at_call 159; ((with_reducible refine (p1 _ _ (by first | exact alloc_at (by first | rfl | simp) | exact alloc_atd (by first | rfl | simp))).mono ?_); rintro e w7 ⟨rfl, rfl⟩)) | (with_reducible show wpList _ _ _ (_ :: _) _ _; refine wpList_stop 85 rfl ?_))
        refine Lib.hid ?_
        refine wpList_plain rfl fun K hK => ?_
        refine app1 _ _ _ rfl (w.heap.size + 1) (by first | exact hsc | (simp; omega)) _ rfl (own_more HO.out (bal (Below.refl _ _) _)) (by simp) _ rfl (by first | rfl | simp) _ _ fun v2 w2 hown2 hb2 => hK _ _ ?_
        clear hK K
        go_wp2_with (fail)
        exact bodyPost_ret (results_tmp rfl _ _ _) rfl ⟨own_ret hown2, HE.out _ _ (bal (Below.refl _ _) _) hb2⟩
      · rw [ho] at r0
        clear ho
        subst hR
        go_wp2_with (first | (go_at_call 159; ((with_reducible refine (p1 _ _ (by first | exact alloc_at (by first | rfl | simp) | exact alloc_atd (by first | rfl | simp))).mono ?_); rintro e w7 ⟨rfl, rfl⟩)) | (with_reducible show wpList _ _ _ (_ :: _) _ _; refine wpList_stop 100 rfl ?_))
        refine Lib.hid ?_
        refine wpList_plain rfl fun K hK => ?_
        refine app1 _ _ _ rfl (w.heap.size + 1) (by first | exact hsc | (simp; omega)) _ rfl (own_more HO.out (bal (Below.refl _ _) _)) (by simp) _ rfl (by first | rfl | simp) _ _ fun v2 w2 hown2 hb2 => hK _ _ ?_
        clear hK K
        go_wp2_with (fail)
        exact bodyPost_ret (results_tmp rfl _ _ _) rfl ⟨own_ret hown2, HE.out _ _ (bal (Below.refl _ _) _) hb2⟩
    rw [if_neg a14] at hR
    obtain ⟨e14, e13⟩ : (x.op == 14) = false ∧ (x.op == 13) = false := by simp; omega
    clear a14
    cases a12 : (x.op == 12)
    rotate_left
    · rw [if_pos (eq_of_beq a12)] at hR
      have p1 := lowp2 x.rn x.rm
      generalize low2 x.rn x.rm = l1 at hR p1
      subst hR
      go_wp2_with (first | (go_at_call 159; ((with_reducible refine (p1 _ _ (by first | exact alloc_at (by first | rfl | simp) | exact alloc_atd (by first | rfl | simp))).mono ?_); rintro e w7 ⟨rfl, rfl⟩)) | (go_at_call 160; (with_reducible refine (h7 _).mono ?_); rintro e w8 ⟨rfl, rfl⟩) | (go_at_call 160; (with_reducible refine (h7n _).mono ?_); rintro e w8 ⟨rfl, rfl⟩) | (with_reducible show wpList _ _ _ (_ :: _) _ _; refine wpList_stop 122 rfl ?_))
      refine Lib.hid ?_
      refine wpList_plain rfl fun K hK => ?_
      refine app2 _ _ _ rfl (w.heap.size + 1) (by first | exact hsc | (simp; omega)) _ rfl (own_more HO.out (bal (Below.refl _ _) _)) (by simp) _ rfl (by first | rfl | simp) _ _ _ _ fun v2 w2 hown2 hb2 => hK _ _ ?_
      clear hK K
      go_wp2_with (fail)
      exact bodyPost_ret (results_tmp rfl _ _ _) rfl ⟨own_ret hown2, HE.out _ _ (bal (Below.refl _ _) _) hb2⟩
    rw [if_neg (ne_of_beq_false a12)] at hR
    cases a10 : (x.op == 10)
    rotate_left
    · rw [if_pos (eq_of_beq a10)] at hR
      have p1 := lowp2 x.rd x.rm
      generalize low2 x.rd x.rm = l1 at hR p1
      obtain ⟨s, hs⟩ : ∃ s, s = x.s := ⟨_, rfl⟩
      rw [← hs] at hR r8
      clear hs
      cases s
      · skip
        subst hR
        have k8 := r8
        go_wp2_with (fail)
        refine wpN_start (S := fun w' => w'.cell? ⟨w.heap.size, 8, none⟩ = some (.bool false)) (by kernel_rfl) r8 (fun hHeld => ?_)
        repeat (refine nx ?_; (try simp only [Act.put, List.setIfInBounds_toArray, List.set_cons_zero, List.set_cons_succ]))
        refine wpN_any ?_
        refine nxA 24 rfl ?_
        (try simp only [Act.put, List.setIfInBounds_toArray, List.set_cons_zero, List.set_cons_succ])
        refine nxA 25 rfl ?_
        (try simp only [Act.put, List.setIfInBounds_toArray, List.set_cons_zero, List.set_cons_succ])
        refine nxA 26 rfl ?_
        (try simp only [Act.put, List.setIfInBounds_toArray, List.set_cons_zero, List.set_cons_succ])
        refine clA 22 rfl (fun K hK => ?_)
        go_simp
        ((with_reducible refine (h7 _).mono ?_); rintro e w8 ⟨rfl, rfl⟩)
        refine hK.out _ _ (by first | assumption | go_keep) (fun hHeld => ?_)
        clear hK K
        refine nxA 23 rfl ?_
        (try simp only [Act.put, List.setIfInBounds_toArray, List.set_cons_zero, List.set_cons_succ])
        refine nxA 27 rfl ?_
        (try simp only [Act.put, List.setIfInBounds_toArray, List.set_cons_zero, List.set_cons_succ])
        refine clA 28 rfl (fun K hK => ?_)
        go_simp
        refine hK.out _ _ (by first | assumption | go_keep) (fun hHeld => ?_)
        clear hK K
        refine clA 29 rfl (fun K hK => ?_)
        refine app2 (wc.drew) _ _ rfl (w.heap.size + 1) (Nat.le_trans hsc ((Below.refl wc.heap.size wc).drew).size) _ rfl (own_more HO.out ((Below.refl wc.heap.size wc).drew)) (by simp) _ rfl (by first | rfl | simp) _ _ _ _ fun v2 w2 hown2 hb2 => hK.out _ _ ?_ (fun hHeld => ?_)
        · exact (hb2.cell (p := ⟨w.heap.size, 8, none⟩) (Nat.lt_succ_self _)).trans ((((Below.refl wc.heap.size wc).drew).cell (p := ⟨w.heap.size, 8, none⟩) hsc).trans k8)
        clear hK K
        refine nxA 30 rfl ?_
        (try simp only [Act.put, List.setIfInBounds_toArray, List.set_cons_zero, List.set_cons_succ])
        refine wpAnyH_done (by kernel_rfl) ?_ _
        go_wp2_with (fail)
        exact bodyPost_ret (results_tmp rfl _ _ _) rfl ⟨own_ret hown2, HE.out _ _ ((Below.refl wc.heap.size wc).drew) hb2⟩
      cases it
      · skip
        subst hR
        have k8 := r8
        go_wp2_with (fail)
        refine wpN_start (S := fun w' => w'.cell? ⟨w.heap.size, 8, none⟩ = some (.bool true)) (by kernel_rfl) r8 (fun hHeld => ?_)
        repeat (refine nx ?_; (try simp only [Act.put, List.setIfInBounds_toArray, List.set_cons_zero, List.set_cons_succ]))
        refine wpN_any ?_
        refine nxA 18 rfl ?_
        (try simp only [Act.put, List.setIfInBounds_toArray, List.set_cons_zero, List.set_cons_succ])
        refine nxA 19 rfl ?_
        (try simp only [Act.put, List.setIfInBounds_toArray, List.set_cons_zero, List.set_cons_succ])
        refine nxA 20 rfl ?_
        (try simp only [Act.put, List.setIfInBounds_toArray, List.set_cons_zero, List.set_cons_succ])
        refine nxA 21 rfl ?_
        (try simp only [Act.put, List.setIfInBounds_toArray, List.set_cons_zero, List.set_cons_succ])
        refine nxA 24 rfl ?_
        (try simp only [Act.put, List.setIfInBounds_toArray, List.set_cons_zero, List.set_cons_succ])
        refine nxA 25 rfl ?_
        (try simp only [Act.put, List.setIfInBounds_toArray, List.set_cons_zero, List.set_cons_succ])
        refine nxA 26 rfl ?_
        (try simp only [Act.put, List.setIfInBounds_toArray, List.set_cons_zero, List.set_cons_succ])
        refine clA 14 rfl (fun K hK => ?_)
        go_simp
        refine hK.out _ _ (by first | assumption | go_keep) (fun hHeld => ?_)
        clear hK K
        refine clA 15 rfl (fun K hK => ?_)
        go_simp
        ((with_reducible refine (p1 _ _ (by first | exact alloc_at (by first | rfl | simp) | exact alloc_atd (by first | rfl | simp))).mono ?_); rintro e w7 ⟨rfl, rfl⟩)
        refine hK.out _ _ (by first | assumption | go_keep) (fun hHeld => ?_)
        clear hK K
        refine nxA 16 rfl ?_
        (try simp only [Act.put, List.setIfInBounds_toArray, List.set_cons_zero, List.set_cons_succ])
        refine nxA 17 rfl ?_
        (try simp only [Act.put, List.setIfInBounds_toArray, List.set_cons_zero, List.set_cons_succ])
        refine clA 22 rfl (fun K hK => ?_)
        go_simp
        ((with_reducible refine (h7 _).mono ?_); rintro e w8 ⟨rfl, rfl⟩)
        refine hK.out _ _ (by first | assumption | go_keep) (fun hHeld => ?_)
        clear hK K
        refine nxA 23 rfl ?_
        (try simp only [Act.put, List.setIfInBounds_toArray, List.set_cons_zero, List.set_cons_succ])
        refine nxA 27 rfl ?_
        (try simp only [Act.put, List.setIfInBounds_toArray, List.set_cons_zero, List.set_cons_succ])
        refine clA 28 rfl (fun K hK => ?_)
        go_simp
        refine hK.out _ _ (by first | assumption | go_keep) (fun hHeld => ?_)
        clear hK K
        refine clA 29 rfl (fun K hK => ?_)
        refine app2 ((World.alloc wc _).drew) _ _ rfl (w.heap.size + 1) (Nat.le_trans hsc ((bal (Below.refl wc.heap.size wc) _).drew).size) _ rfl (own_more HO.out ((bal (Below.refl wc.heap.size wc) _).drew)) (by simp) _ rfl (by first | rfl | simp) _ _ _ _ fun v2 w2 hown2 hb2 => hK.out _ _ ?_ (fun hHeld => ?_)
        · exact (hb2.cell (p := ⟨w.heap.size, 8, none⟩) (Nat.lt_succ_self _)).trans ((((bal (Below.refl wc.heap.size wc) _).drew).cell (p := ⟨w.heap.size, 8, none⟩) hsc).trans k8)
        clear hK K
        refine nxA 30 rfl ?_
        (try simp only [Act.put, List.setIfInBounds_toArray, List.set_cons_zero, List.set_cons_succ])
        refine wpAnyH_done (by kernel_rfl) ?_ _
        go_wp2_with (fail)
        exact bodyPost_ret (results_tmp rfl _ _ _) rfl ⟨own_ret hown2, HE.out _ _ ((bal (Below.refl wc.heap.size wc) _).drew) hb2⟩
      · skip
        subst hR
        have k8 := r8
        go_wp2_with (fail)
        refine wpN_start (S := fun w' => w'.cell? ⟨w.heap.size, 8, none⟩ = some (.bool true)) (by kernel_rfl) r8 (fun hHeld => ?_)
        repeat (refine nx ?_; (try simp only [Act.put, List.setIfInBounds_toArray, List.set_cons_zero, List.set_cons_succ]))
        refine wpN_any ?_
        refine nxA 24 rfl ?_
        (try simp only [Act.put, List.setIfInBounds_toArray, List.set_cons_zero, List.set_cons_succ])
        refine nxA 25 rfl ?_
        (try simp only [Act.put, List.setIfInBounds_toArray, List.set_cons_zero, List.set_cons_succ])
        refine nxA 26 rfl ?_
        (try simp only [Act.put, List.setIfInBounds_toArray, List.set_cons_zero, List.set_cons_succ])
        refine clA 22 rfl (fun K hK => ?_)
        go_simp
        ((with_reducible refine (h7 _).mono ?_); rintro e w8 ⟨rfl, rfl⟩)
        refine hK.out _ _ (by first | assumption | go_keep) (fun hHeld => ?_)
        clear hK K
        refine nxA 23 rfl ?_
        (try simp only [Act.put, List.setIfInBounds_toArray, List.set_cons_zero, List.set_cons_succ])
        refine nxA 27 rfl ?_
        (try simp only [Act.put, List.setIfInBounds_toArray, List.set_cons_zero, List.set_cons_succ])
        refine clA 28 rfl (fun K hK => ?_)
        go_simp
        refine hK.out _ _ (by first | assumption | go_keep) (fun hHeld => ?_)
        clear hK K
        refine clA 29 rfl (fun K hK => ?_)
        refine app2 (wc.drew) _ _ rfl (w.heap.size + 1) (Nat.le_trans hsc ((Below.refl wc.heap.size wc).drew).size) _ rfl (own_more HO.out ((Below.refl wc.heap.size wc).drew)) (by simp) _ rfl (by first | rfl | simp) _ _ _ _ fun v2 w2 hown2 hb2 => hK.out _ _ ?_ (fun hHeld => ?_)
        · exact (hb2.cell (p := ⟨w.heap.size, 8, none⟩) (Nat.lt_succ_self _)).trans ((((Below.refl wc.heap.size wc).drew).cell (p := ⟨w.heap.size, 8, none⟩) hsc).trans k8)
        clear hK K
        refine nxA 30 rfl ?_
        (try simp only [Act.put, List.setIfInBounds_toArray, List.set_cons_zero, List.set_cons_succ])
        refine wpAnyH_done (by kernel_rfl) ?_ _
        go_wp2_with (fail)
        exact bodyPost_ret (results_tmp rfl _ _ _) rfl ⟨own_ret hown2, HE.out _ _ ((Below.refl wc.heap.size wc).drew) hb2⟩
    rw [if_neg (ne_of_beq_false a10)] at hR
    cases a5 : (x.op == 5)
    rotate_left
    · rw [if_pos (eq_of_beq a5)] at hR
      have p1 := lowp3 x.rd x.rn x.rm
      generalize low3 x.rd x.rn x.rm = l1 at hR p1
      have k8 := (World.cell?_alloc_some wc ⟨w.heap.size, 8, none⟩ (.cells #[.int .i64 x.rd, .int .i64 x.rn, .int .i64 x.rm] 3) (by rw [r8]; rfl)).trans r8
      cases sx
      · cases cxrdxrn : (x.rd == x.rn)
        · rw [cxrdxrn] at hR
          subst hR
          go_wp2_with (first | (go_at_call 160; (with_reducible refine (h7 _).mono ?_); rintro e w8 ⟨rfl, rfl⟩) | (go_at_call 160; (with_reducible refine (h7n _).mono ?_); rintro e w8 ⟨rfl, rfl⟩) | (with_reducible show wpList _ _ _ (_ :: _) _ _; refine wpList_stop 191 rfl ?_))
          refine Lib.hid ?_
          refine wpList_plain rfl fun K hK => ?_
          refine app2 _ _ _ rfl (w.heap.size + 1) (by first | exact hsc | (simp; omega)) _ rfl (HO.out) (by simp) _ rfl (by first | rfl | simp) _ _ _ _ fun v2 w2 hown2 hb2 => hK _ _ ?_
          clear hK K
          go_wp2_with (fail)
          exact bodyPost_ret (results_tmp rfl _ _ _) rfl ⟨own_ret hown2, HE.out _ _ (Below.refl _ _) hb2⟩
        · rw [cxrdxrn] at hR
          subst hR
          go_wp2_with (first | (go_at_call 160; (with_reducible refine (h7 _).mono ?_); rintro e w8 ⟨rfl, rfl⟩) | (go_at_call 160; (with_reducible refine (h7n _).mono ?_); rintro e w8 ⟨rfl, rfl⟩) | (with_reducible show wpList _ _ _ (_ :: _) _ _; refine wpList_stop 191 rfl ?_))
          refine Lib.hid ?_
          refine wpList_plain rfl fun K hK => ?_
          refine app2 _ _ _ rfl (w.heap.size + 1) (by first | exact hsc | (simp; omega)) _ rfl (HO.out) (by simp) _ rfl (by first | rfl | simp) _ _ _ _ fun v2 w2 hown2 hb2 => hK _ _ ?_
          clear hK K
          go_wp2_with (fail)
          exact bodyPost_ret (results_tmp rfl _ _ _) rfl ⟨own_ret hown2, HE.out _ _ (Below.refl _ _) hb2⟩
      · cases cxrdxrn : (x.rd == x.rn)
        · rw [cxrdxrn] at hR
          subst hR
          go_wp2_with (first | (go_at_call 159; ((with_reducible refine (p1 _ _ (by first | exact alloc_at (by first | rfl | simp) | exact alloc_atd (by first | rfl | simp))).mono ?_); rintro e w7 ⟨rfl, rfl⟩)) | (go_at_call 160; (with_reducible refine (h7 _).mono ?_); rintro e w8 ⟨rfl, rfl⟩) | (go_at_call 160; (with_reducible refine (h7n _).mono ?_); rintro e w8 ⟨rfl, rfl⟩) | (with_reducible show wpList _ _ _ (_ :: _) _ _; refine wpList_stop 191 rfl ?_))
          refine Lib.hid ?_
          refine wpList_plain rfl fun K hK => ?_
          refine app2 _ _ _ rfl (w.heap.size + 1) (by first | exact hsc | (simp; omega)) _ rfl (own_more HO.out (bal (Below.refl _ _) _)) (by simp) _ rfl (by first | rfl | simp) _ _ _ _ fun v2 w2 hown2 hb2 => hK _ _ ?_
          clear hK K
          go_wp2_with (fail)
          exact bodyPost_ret (results_tmp rfl _ _ _) rfl ⟨own_ret hown2, HE.out _ _ (bal (Below.refl _ _) _) hb2⟩
        · rw [cxrdxrn] at hR
          subst hR
          go_wp2_with (first | (go_at_call 159; ((with_reducible refine (p1 _ _ (by first | exact alloc_at (by first | rfl | simp) | exact alloc_atd (by first | rfl | simp))).mono ?_); rintro e w7 ⟨rfl, rfl⟩)) | (go_at_call 160; (with_reducible refine (h7 _).mono ?_); rintro e w8 ⟨rfl, rfl⟩) | (go_at_call 160; (with_reducible refine (h7n _).mono ?_); rintro e w8 ⟨rfl, rfl⟩) | (with_reducible show wpList _ _ _ (_ :: _) _ _; refine wpList_stop 191 rfl ?_))
          refine Lib.hid ?_
          refine wpList_plain rfl fun K hK => ?_
          refine app2 _ _ _ rfl (w.heap.size + 1) (by first | exact hsc | (simp; omega)) _ rfl (own_more HO.out (bal (Below.refl _ _) _)) (by simp) _ rfl (by first | rfl | simp) _ _ _ _ fun v2 w2 hown2 hb2 => hK _ _ ?_
          clear hK K
          go_wp2_with (fail)
          exact bodyPost_ret (results_tmp rfl _ _ _) rfl ⟨own_ret hown2, HE.out _ _ (bal (Below.refl _ _) _) hb2⟩
    rw [if_neg (ne_of_beq_false a5)] at hR
    cases a7 : (x.op == 7)
    rotate_left
    · rw [if_pos (eq_of_beq a7)] at hR
      have p1 := lowp3 x.rd x.rn x.rm
      generalize low3 x.rd x.rn x.rm = l1 at hR p1
      cases sx
      · skip
        subst hR
        go_wp2_with (first | (with_reducible show wpList _ _ _ (_ :: _) _ _; refine wpList_stop 213 rfl ?_))
        refine Lib.hid ?_
        refine wpList_plain rfl fun K hK => ?_
        refine app1 _ _ _ rfl (w.heap.size + 1) (by first | exact hsc | (simp; omega)) _ rfl (HO.out) (by simp) _ rfl (by first | rfl | simp) _ _ fun v2 w2 hown2 hb2 => hK _ _ ?_
        clear hK K
        go_wp2_with (fail)
        exact bodyPost_ret (results_tmp rfl _ _ _) rfl ⟨own_ret hown2, HE.out _ _ (Below.refl _ _) hb2⟩
      · skip
        subst hR
        go_wp2_with (first | (go_at_call 159; ((with_reducible refine (p1 _ _ (by first | exact alloc_at (by first | rfl | simp) | exact alloc_atd (by first | rfl | simp))).mono ?_); rintro e w7 ⟨rfl, rfl⟩)) | (with_reducible show wpList _ _ _ (_ :: _) _ _; refine wpList_stop 213 rfl ?_))
        refine Lib.hid ?_
        refine wpList_plain rfl fun K hK => ?_
        refine app1 _ _ _ rfl (w.heap.size + 1) (by first | exact hsc | (simp; omega)) _ rfl (own_more HO.out (bal (Below.refl _ _) _)) (by simp) _ rfl (by first | rfl | simp) _ _ fun v2 w2 hown2 hb2 => hK _ _ ?_
        clear hK K
        go_wp2_with (fail)
        exact bodyPost_ret (results_tmp rfl _ _ _) rfl ⟨own_ret hown2, HE.out _ _ (bal (Below.refl _ _) _) hb2⟩
    rw [if_neg (ne_of_beq_false a7)] at hR
    subst hR
    go_wp2_with (fail)
    exact bodyPost_ret (results_tmp rfl _ _ _) rfl ⟨own_ret HO.out, HE.out _ _ (Below.refl _ _) (Below.refl _ _)⟩
end Go.Proofs.YtpdkpkabdkefcaaGreatDoor
