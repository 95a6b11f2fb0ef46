/- For the seat: texts joined: IsM. -/
import Derived.Test.YtpdkpkabdkefcaaGreatDoorJBh
import Derived.Test.YtpdkpkabdkefcaaGreatDoorJAp
import Derived.Deep.Cut
set_option maxRecDepth 100000
namespace Go.Proofs.YtpdkpkabdkefcaaGreatDoor
open Go.Sx Go.ChangeShapes Go.WideShapes Go.RowKit Go.Joins Go.Deep Go.Rp
def IxF (k t4 t6 t8 y : Int) : Prop :=
  (∀ W, (Instr.index 145 (.agg #[.int .i64 22528, .int .i64 23552, .int .i64 23040, .int .i64 20480, .int .i64 21504, .int .i64 20992]) (.int .i64 k)).run Tryz.prog W = .ok (.int .i64 t4) W) ∧
  (∀ W, (Instr.index 145 (.agg #[.int .i64 4, .int .i64 1, .int .i64 2, .int .i64 4, .int .i64 1, .int .i64 2]) (.int .i64 k)).run Tryz.prog W = .ok (.int .i64 y) W) ∧
  (∀ W, (Instr.index 145 (.agg #[.int .i64 26624, .int .i64 30720, .int .i64 34816, .int .i64 24576, .int .i64 28672, .int .i64 32768]) (.int .i64 k)).run Tryz.prog W = .ok (.int .i64 t6) W) ∧
  (∀ W, (Instr.index 145 (.agg #[.int .i64 38912, .int .i64 0, .int .i64 0, .int .i64 36864, .int .i64 0, .int .i64 0]) (.int .i64 k)).run Tryz.prog W = .ok (.int .i64 t8) W)
set_option maxHeartbeats 4000000 in
theorem load_any (x : Lk) (y kk t4 t6 t8 : Int) (hk : IntKind.i64.wrap (x.op - 25) = kk) (hy : Lk.byI x.op = y) (hy0 : 0 < y) (hix : IxF kk t4 t6 t8 y) (him : -2 ^ 63 ≤ x.im ∧ x.im < 2 ^ 63) (w : World) : Calls Tryz.prog 123 #[.agg (inC x)] w fun e w' => FmRet (x.loaB) e w' ∧ Below w.heap.size w w' := by
  obtain ⟨W0, hW0⟩ : ∃ W, Hid (W = w.alloc (.cells (inC x) 44)) := ⟨_, Lib.hid rfl⟩
  have hz0 : W0.heap[w.heap.size]? = some (.cells (inC x) 44 (0, 0)) := by rw [hW0.out]; exact heap_alloc_new w _
  have b0 : Below w.heap.size w W0 := by rw [hW0.out]; exact bal (Below.refl _ _) _
  obtain ⟨q0, q1, q2, q3, q4, q5, q6, q7, q8⟩ := in_cells hz0
  obtain ⟨r0, r1, r2, r3, r4, r5, r6, r7, r8⟩ := in_cells (show W0.drew.heap[w.heap.size]? = _ from hz0)
  have bd : Below w.heap.size w W0.drew := b0.drew
  have hR : x.loaB = if x.md = 2 then [low3 x.rd x.rn x.rm]
    else (low2 x.rd x.rn && ((x.im.tmod (Lk.byI x.op) == 0) && decide (x.im.tdiv (Lk.byI x.op) < 32))) :: (if Lk.byI x.op = 4 ∧ x.rn = 13 then [lowB x.rd && ((x.im.tmod 4 == 0) && decide (x.im ≤ 1020))] else []) := rfl
  generalize x.loaB = R at hR
  have HR := Lib.hid hR
  have HI : Hid (W0.drew.heap[w.heap.size]? = some (.cells (inC x) 44 (0, 0))) := Lib.hid hz0
  have hsz : w.heap.size + 1 ≤ W0.drew.heap.size := by rw [hW0.out]; simp [World.drew]
  clear hR
  have HIM := Lib.hid him
  have hR := HR.out
  rw [hy] at hR
  have hb1 : ¬ y = 0 := by omega
  have hwr := tdiv_wrap x.im y him (by omega)
  obtain ⟨hx4, hx5, hx6, hx8⟩ := hix
  clear HR him hy hy0
  go_enter Tryz.func123, Tryz.ntmps123
  go_wp2_with (first | rw [← hW0.out] | fail)
  refine wpN_start (S := fun w' => w'.cell? ⟨w.heap.size, 2, none⟩ = some (.int .i64 x.rd) ∧ w'.cell? ⟨w.heap.size, 3, none⟩ = some (.int .i64 x.rn) ∧ w'.cell? ⟨w.heap.size, 4, none⟩ = some (.int .i64 x.rm) ∧ w'.cell? ⟨w.heap.size, 5, none⟩ = some (.int .i64 x.im)) (by kernel_rfl) ⟨r2, r3, r4, r5⟩ (fun hHeld => ?_)
  repeat (refine nx ?_; (try simp only [Act.put, List.setIfInBounds_toArray, List.set_cons_zero, List.set_cons_succ]))
  refine wpN_nil ?_
  clear hHeld q0 q1 q2 q3 q4 q5 q6 q7 q8 hz0 b0 hW0
  generalize W0.drew = W at r0 r1 r2 r3 r4 r5 r6 r7 r8 bd HI hsz ⊢
  cases am : (x.md == 2)
  rotate_left
  · rw [if_pos (eq_of_beq am)] at hR
    have p1 := lowp3 x.rd x.rn x.rm
    generalize low3 x.rd x.rn x.rm = l1 at hR p1
    subst hR
    have k0 := r0
    go_wp2_with (fail)
    refine wpN_start (S := fun w' => w'.cell? ⟨w.heap.size, 0, none⟩ = some (.int .i64 x.op)) (by kernel_rfl) r0 (fun hHeld => ?_)
    repeat (refine nx ?_; (try simp only [Act.put, List.setIfInBounds_toArray, List.set_cons_zero, List.set_cons_succ]))
    refine cl (fun K hK => ?_)
    go_simp
    refine hK.out _ _ (by first | assumption | go_keep) (fun hHeld => ?_)
    clear hK K
    refine cl (fun K hK => ?_)
    go_simp
    ((with_reducible refine (p1 _ _ (by first | exact alloc_at (by first | rfl | simp) | exact alloc_atd (by first | rfl | simp))).mono ?_); rintro e w7 ⟨rfl, rfl⟩)
    refine hK.out _ _ (by first | assumption | go_keep) (fun hHeld => ?_)
    clear hK K
    repeat (refine nx ?_; (try simp only [Act.put, List.setIfInBounds_toArray, List.set_cons_zero, List.set_cons_succ]))
    refine cl (fun K hK => ?_)
    go_simp
    refine hK.out _ _ (by first | assumption | go_keep) (fun hHeld => ?_)
    clear hK K
    repeat (refine nx ?_; (try simp only [Act.put, List.setIfInBounds_toArray, List.set_cons_zero, List.set_cons_succ]))
    refine wpN_nil ?_
    go_wp2_with (fail)
    exact bodyPost_ret (results_tmp rfl _ _ _) rfl ⟨fm_end1 _ _ _ (by first | rfl | simp), bal (bal bd.drew _) _⟩
  rw [if_neg (ne_of_beq_false am)] at hR
  obtain ⟨B, hB⟩ : ∃ B, B = (low2 x.rd x.rn && ((x.im.tmod y == 0) && decide (x.im.tdiv y < 32))) := ⟨_, rfl⟩
  rw [← hB] at hR
  have k0 := r0
  go_upto_region 6 with fail
  go_cut [9] from 45 (fun v wx => OwnF (w.heap.size + 1) [B] v wx ∧ Below (w.heap.size + 1) W wx)
  case first =>
    have p1 := lowp2 x.rd x.rn
    generalize low2 x.rd x.rn = l1 at p1 hB
    clear hR
    cases l1
    · skip
      have hB2 := Lib.hid hB
      clear hB
      go_wp2_with (fail)
      refine wpN_start (S := fun w' => w'.cell? ⟨w.heap.size, 0, none⟩ = some (.int .i64 x.op)) (by kernel_rfl) k0 (fun hHeld => ?_)
      repeat (refine nx ?_; (try simp only [Act.put, List.setIfInBounds_toArray, List.set_cons_zero, List.set_cons_succ]))
      refine cl (fun K hK => ?_)
      go_simp
      refine hK.out _ _ (by first | assumption | go_keep) (fun hHeld => ?_)
      clear hK K
      refine cl (fun K hK => ?_)
      go_simp
      ((with_reducible refine (p1 _ _ (by first | exact alloc_at (by first | rfl | simp) | exact alloc_atd (by first | rfl | simp))).mono ?_); rintro e w7 ⟨rfl, rfl⟩)
      refine hK.out _ _ (by first | assumption | go_keep) (fun hHeld => ?_)
      clear hK K
      repeat (refine nx ?_; (try simp only [Act.put, List.setIfInBounds_toArray, List.set_cons_zero, List.set_cons_succ]))
      refine cl (fun K hK => ?_)
      go_simp
      refine hK.out _ _ (by first | assumption | go_keep) (fun hHeld => ?_)
      clear hK K
      repeat (refine nx ?_; (try simp only [Act.put, List.setIfInBounds_toArray, List.set_cons_zero, List.set_cons_succ]))
      refine wpN_nil ?_
      go_wp2_with (fail)
      go_meet
      exact ⟨by rw [hB2.out]; exact own1 (World.alloc W _).drew (Nat.le_trans hsz ((bal (Below.refl W.heap.size W) _).drew).size) _ _ (by first | rfl | simp), (bal (bal (Below.refl W.heap.size W) _).drew _).mono hsz⟩
    cases c1 : (x.im.tmod y == 0)
    · rw [c1] at hB
      have hB2 := Lib.hid hB
      clear hB
      go_wp2_with (fail)
      refine wpN_start (S := fun w' => w'.cell? ⟨w.heap.size, 0, none⟩ = some (.int .i64 x.op)) (by kernel_rfl) k0 (fun hHeld => ?_)
      repeat (refine nx ?_; (try simp only [Act.put, List.setIfInBounds_toArray, List.set_cons_zero, List.set_cons_succ]))
      refine cl (fun K hK => ?_)
      go_simp
      refine hK.out _ _ (by first | assumption | go_keep) (fun hHeld => ?_)
      clear hK K
      refine cl (fun K hK => ?_)
      go_simp
      ((with_reducible refine (p1 _ _ (by first | exact alloc_at (by first | rfl | simp) | exact alloc_atd (by first | rfl | simp))).mono ?_); rintro e w7 ⟨rfl, rfl⟩)
      refine hK.out _ _ (by first | assumption | go_keep) (fun hHeld => ?_)
      clear hK K
      repeat (refine nx ?_; (try simp only [Act.put, List.setIfInBounds_toArray, List.set_cons_zero, List.set_cons_succ]))
      refine cl (fun K hK => ?_)
      go_simp
      refine hK.out _ _ (by first | assumption | go_keep) (fun hHeld => ?_)
      clear hK K
      repeat (refine nx ?_; (try simp only [Act.put, List.setIfInBounds_toArray, List.set_cons_zero, List.set_cons_succ]))
      refine wpN_nil ?_
      go_wp2_with (fail)
      go_meet
      exact ⟨by rw [hB2.out]; exact own1 (World.alloc W _).drew (Nat.le_trans hsz ((bal (Below.refl W.heap.size W) _).drew).size) _ _ (by first | rfl | simp), (bal (bal (Below.refl W.heap.size W) _).drew _).mono hsz⟩
    rw [c1] at hB
    cases c2 : decide (x.im.tdiv y < 32)
    · rw [c2] at hB
      have hB2 := Lib.hid hB
      clear hB
      go_wp2_with (fail)
      refine wpN_start (S := fun w' => w'.cell? ⟨w.heap.size, 0, none⟩ = some (.int .i64 x.op)) (by kernel_rfl) k0 (fun hHeld => ?_)
      repeat (refine nx ?_; (try simp only [Act.put, List.setIfInBounds_toArray, List.set_cons_zero, List.set_cons_succ]))
      refine cl (fun K hK => ?_)
      go_simp
      refine hK.out _ _ (by first | assumption | go_keep) (fun hHeld => ?_)
      clear hK K
      refine cl (fun K hK => ?_)
      go_simp
      ((with_reducible refine (p1 _ _ (by first | exact alloc_at (by first | rfl | simp) | exact alloc_atd (by first | rfl | simp))).mono ?_); rintro e w7 ⟨rfl, rfl⟩)
      refine hK.out _ _ (by first | assumption | go_keep) (fun hHeld => ?_)
      clear hK K
      repeat (refine nx ?_; (try simp only [Act.put, List.setIfInBounds_toArray, List.set_cons_zero, List.set_cons_succ]))
      refine cl (fun K hK => ?_)
      go_simp
      refine hK.out _ _ (by first | assumption | go_keep) (fun hHeld => ?_)
      clear hK K
      repeat (refine nx ?_; (try simp only [Act.put, List.setIfInBounds_toArray, List.set_cons_zero, List.set_cons_succ]))
      refine wpN_nil ?_
      go_wp2_with (fail)
      go_meet
      exact ⟨by rw [hB2.out]; exact own1 (World.alloc W _).drew (Nat.le_trans hsz ((bal (Below.refl W.heap.size W) _).drew).size) _ _ (by first | rfl | simp), (bal (bal (Below.refl W.heap.size W) _).drew _).mono hsz⟩
    · rw [c2] at hB
      have hB2 := Lib.hid hB
      clear hB
      go_wp2_with (fail)
      refine wpN_start (S := fun w' => w'.cell? ⟨w.heap.size, 0, none⟩ = some (.int .i64 x.op)) (by kernel_rfl) k0 (fun hHeld => ?_)
      repeat (refine nx ?_; (try simp only [Act.put, List.setIfInBounds_toArray, List.set_cons_zero, List.set_cons_succ]))
      refine cl (fun K hK => ?_)
      go_simp
      refine hK.out _ _ (by first | assumption | go_keep) (fun hHeld => ?_)
      clear hK K
      refine cl (fun K hK => ?_)
      go_simp
      ((with_reducible refine (p1 _ _ (by first | exact alloc_at (by first | rfl | simp) | exact alloc_atd (by first | rfl | simp))).mono ?_); rintro e w7 ⟨rfl, rfl⟩)
      refine hK.out _ _ (by first | assumption | go_keep) (fun hHeld => ?_)
      clear hK K
      repeat (refine nx ?_; (try simp only [Act.put, List.setIfInBounds_toArray, List.set_cons_zero, List.set_cons_succ]))
      refine cl (fun K hK => ?_)
      go_simp
      refine hK.out _ _ (by first | assumption | go_keep) (fun hHeld => ?_)
      clear hK K
      repeat (refine nx ?_; (try simp only [Act.put, List.setIfInBounds_toArray, List.set_cons_zero, List.set_cons_succ]))
      refine wpN_nil ?_
      go_wp2_with (fail)
      go_meet
      exact ⟨by rw [hB2.out]; exact own1 (World.alloc W _).drew (Nat.le_trans hsz ((bal (Below.refl W.heap.size W) _).drew).size) _ _ (by first | rfl | simp), (bal (bal (Below.refl W.heap.size W) _).drew _).mono hsz⟩
  case rest =>
    obtain ⟨hown, bW⟩ := hcut
    have hsc : w.heap.size + 1 ≤ wc.heap.size := Nat.le_trans hsz bW.size
    have hE : ∀ V V', Below wc.heap.size wc V → Below (w.heap.size + 1) V V' → Below w.heap.size w V' := fun V V' h h' => bd.trans ((bW.mono (Nat.le_succ _)).trans ((h.mono (by omega)).trans (h'.mono (Nat.le_succ _))))
    have HE := Lib.hid hE
    have HO := Lib.hid hown
    clear hB hE hown r0 r1 r2 r3 r4 r5 r6 r7 r8
    cases h4 : (y == 4)
    · rw [if_neg (fun e => ne_of_beq_false h4 e.1)] at hR
      subst hR
      clear bd bW
      go_wp2_with (fail)
      exact bodyPost_ret (results_tmp rfl _ _ _) rfl ⟨own_ret HO.out, HE.out _ _ (Below.refl _ _) (Below.refl _ _)⟩
    have k0c : wc.cell? ⟨w.heap.size, 0, none⟩ = some (.int .i64 x.op) := (bW.cell (p := ⟨w.heap.size, 0, none⟩) (Nat.lt_succ_self _)).trans k0
    clear bd bW k0
    cases c3 : (x.rn == 13)
    · rw [if_neg (fun e => ne_of_beq_false c3 e.2)] at hR
      subst hR
      go_wp2_with (fail)
      exact bodyPost_ret (results_tmp rfl _ _ _) rfl ⟨own_ret HO.out, HE.out _ _ (Below.refl _ _) (Below.refl _ _)⟩
    rw [if_pos ⟨eq_of_beq h4, eq_of_beq c3⟩] at hR
    have p1 := lowp1 x.rd
    generalize lowB x.rd = l1 at p1 hR
    cases l1
    · skip
      subst hR
      go_wp2_with (fail)
      refine wpN_start (S := fun w' => w'.cell? ⟨w.heap.size, 0, none⟩ = some (.int .i64 x.op)) (by kernel_rfl) k0c (fun hHeld => ?_)
      repeat (refine nx ?_; (try simp only [Act.put, List.setIfInBounds_toArray, List.set_cons_zero, List.set_cons_succ]))
      refine cl (fun K hK => ?_)
      go_simp
      refine hK.out _ _ (by first | assumption | go_keep) (fun hHeld => ?_)
      clear hK K
      refine cl (fun K hK => ?_)
      go_simp
      ((with_reducible refine (p1 _ _ (by first | exact alloc_at (by first | rfl | simp) | exact alloc_atd (by first | rfl | simp))).mono ?_); rintro e w7 ⟨rfl, rfl⟩)
      refine hK.out _ _ (by first | assumption | go_keep) (fun hHeld => ?_)
      clear hK K
      repeat (refine nx ?_; (try simp only [Act.put, List.setIfInBounds_toArray, List.set_cons_zero, List.set_cons_succ]))
      refine cl (fun K hK => ?_)
      go_simp
      refine hK.out _ _ (by first | assumption | go_keep) (fun hHeld => ?_)
      clear hK K
      refine cl (fun K hK => ?_)
      refine app1 ((World.alloc wc _).drew) _ _ rfl (w.heap.size + 1) (Nat.le_trans hsc ((bal (Below.refl wc.heap.size wc) _).drew).size) _ rfl (own_more HO.out ((bal (Below.refl wc.heap.size wc) _).drew)) (by simp) _ rfl (by first | rfl | simp) _ _ fun v2 w2 hown2 hb2 => hK.out _ _ ?_ (fun hHeld => ?_)
      · exact (hb2.cell (p := ⟨w.heap.size, 0, none⟩) (Nat.lt_succ_self _)).trans ((((bal (Below.refl wc.heap.size wc) _).drew).cell (p := ⟨w.heap.size, 0, none⟩) hsc).trans k0c)
      clear hK K
      repeat (refine nx ?_; (try simp only [Act.put, List.setIfInBounds_toArray, List.set_cons_zero, List.set_cons_succ]))
      refine wpN_nil ?_
      go_wp2_with (fail)
      exact bodyPost_ret (results_tmp rfl _ _ _) rfl ⟨own_ret hown2, HE.out _ _ ((bal (Below.refl wc.heap.size wc) _).drew) hb2⟩
    cases c4 : (x.im.tmod 4 == 0)
    · rw [c4] at hR
      subst hR
      go_wp2_with (fail)
      refine wpN_start (S := fun w' => w'.cell? ⟨w.heap.size, 0, none⟩ = some (.int .i64 x.op)) (by kernel_rfl) k0c (fun hHeld => ?_)
      repeat (refine nx ?_; (try simp only [Act.put, List.setIfInBounds_toArray, List.set_cons_zero, List.set_cons_succ]))
      refine cl (fun K hK => ?_)
      go_simp
      refine hK.out _ _ (by first | assumption | go_keep) (fun hHeld => ?_)
      clear hK K
      refine cl (fun K hK => ?_)
      go_simp
      ((with_reducible refine (p1 _ _ (by first | exact alloc_at (by first | rfl | simp) | exact alloc_atd (by first | rfl | simp))).mono ?_); rintro e w7 ⟨rfl, rfl⟩)
      refine hK.out _ _ (by first | assumption | go_keep) (fun hHeld => ?_)
      clear hK K
      repeat (refine nx ?_; (try simp only [Act.put, List.setIfInBounds_toArray, List.set_cons_zero, List.set_cons_succ]))
      refine cl (fun K hK => ?_)
      go_simp
      refine hK.out _ _ (by first | assumption | go_keep) (fun hHeld => ?_)
      clear hK K
      refine cl (fun K hK => ?_)
      refine app1 ((World.alloc wc _).drew) _ _ rfl (w.heap.size + 1) (Nat.le_trans hsc ((bal (Below.refl wc.heap.size wc) _).drew).size) _ rfl (own_more HO.out ((bal (Below.refl wc.heap.size wc) _).drew)) (by simp) _ rfl (by first | rfl | simp) _ _ fun v2 w2 hown2 hb2 => hK.out _ _ ?_ (fun hHeld => ?_)
      · exact (hb2.cell (p := ⟨w.heap.size, 0, none⟩) (Nat.lt_succ_self _)).trans ((((bal (Below.refl wc.heap.size wc) _).drew).cell (p := ⟨w.heap.size, 0, none⟩) hsc).trans k0c)
      clear hK K
      repeat (refine nx ?_; (try simp only [Act.put, List.setIfInBounds_toArray, List.set_cons_zero, List.set_cons_succ]))
      refine wpN_nil ?_
      go_wp2_with (fail)
      exact bodyPost_ret (results_tmp rfl _ _ _) rfl ⟨own_ret hown2, HE.out _ _ ((bal (Below.refl wc.heap.size wc) _).drew) hb2⟩
    rw [c4] at hR
    subst hR
    go_wp2_with (fail)
    refine wpN_start (S := fun w' => w'.cell? ⟨w.heap.size, 0, none⟩ = some (.int .i64 x.op)) (by kernel_rfl) k0c (fun hHeld => ?_)
    repeat (refine nx ?_; (try simp only [Act.put, List.setIfInBounds_toArray, List.set_cons_zero, List.set_cons_succ]))
    refine cl (fun K hK => ?_)
    go_simp
    refine hK.out _ _ (by first | assumption | go_keep) (fun hHeld => ?_)
    clear hK K
    refine cl (fun K hK => ?_)
    go_simp
    ((with_reducible refine (p1 _ _ (by first | exact alloc_at (by first | rfl | simp) | exact alloc_atd (by first | rfl | simp))).mono ?_); rintro e w7 ⟨rfl, rfl⟩)
    refine hK.out _ _ (by first | assumption | go_keep) (fun hHeld => ?_)
    clear hK K
    repeat (refine nx ?_; (try simp only [Act.put, List.setIfInBounds_toArray, List.set_cons_zero, List.set_cons_succ]))
    refine cl (fun K hK => ?_)
    go_simp
    refine hK.out _ _ (by first | assumption | go_keep) (fun hHeld => ?_)
    clear hK K
    refine cl (fun K hK => ?_)
    refine app1 ((World.alloc wc _).drew) _ _ rfl (w.heap.size + 1) (Nat.le_trans hsc ((bal (Below.refl wc.heap.size wc) _).drew).size) _ rfl (own_more HO.out ((bal (Below.refl wc.heap.size wc) _).drew)) (by simp) _ rfl (by first | rfl | simp) _ _ fun v2 w2 hown2 hb2 => hK.out _ _ ?_ (fun hHeld => ?_)
    · exact (hb2.cell (p := ⟨w.heap.size, 0, none⟩) (Nat.lt_succ_self _)).trans ((((bal (Below.refl wc.heap.size wc) _).drew).cell (p := ⟨w.heap.size, 0, none⟩) hsc).trans k0c)
    clear hK K
    repeat (refine nx ?_; (try simp only [Act.put, List.setIfInBounds_toArray, List.set_cons_zero, List.set_cons_succ]))
    refine wpN_nil ?_
    go_wp2_with (fail)
    exact bodyPost_ret (results_tmp rfl _ _ _) rfl ⟨own_ret hown2, HE.out _ _ ((bal (Below.refl wc.heap.size wc) _).drew) hb2⟩
theorem load_n (x : Lk) (ho : 25 ≤ x.op ∧ x.op ≤ 30) (him : -2 ^ 63 ≤ x.im ∧ x.im < 2 ^ 63) (w : World) : Calls Tryz.prog 123 #[.agg (inC x)] w fun e w' => FmRet (x.loaB) e w' ∧ Below w.heap.size w w' := by
  have h : x.op = 25 ∨ x.op = 26 ∨ x.op = 27 ∨ x.op = 28 ∨ x.op = 29 ∨ x.op = 30 := by omega
  rcases h with h | h | h | h | h | h
  · exact load_any x 4 0 22528 26624 38912 (by rw [h]; decide) (by rw [h]; rfl) (by decide) ⟨fun _ => by kernel_rfl, fun _ => by kernel_rfl, fun _ => by kernel_rfl, fun _ => by kernel_rfl⟩ him w
  · exact load_any x 1 1 23552 30720 0 (by rw [h]; decide) (by rw [h]; rfl) (by decide) ⟨fun _ => by kernel_rfl, fun _ => by kernel_rfl, fun _ => by kernel_rfl, fun _ => by kernel_rfl⟩ him w
  · exact load_any x 2 2 23040 34816 0 (by rw [h]; decide) (by rw [h]; rfl) (by decide) ⟨fun _ => by kernel_rfl, fun _ => by kernel_rfl, fun _ => by kernel_rfl, fun _ => by kernel_rfl⟩ him w
  · exact load_any x 4 3 20480 24576 36864 (by rw [h]; decide) (by rw [h]; rfl) (by decide) ⟨fun _ => by kernel_rfl, fun _ => by kernel_rfl, fun _ => by kernel_rfl, fun _ => by kernel_rfl⟩ him w
  · exact load_any x 1 4 21504 28672 0 (by rw [h]; decide) (by rw [h]; rfl) (by decide) ⟨fun _ => by kernel_rfl, fun _ => by kernel_rfl, fun _ => by kernel_rfl, fun _ => by kernel_rfl⟩ him w
  · exact load_any x 2 5 20992 32768 0 (by rw [h]; decide) (by rw [h]; rfl) (by decide) ⟨fun _ => by kernel_rfl, fun _ => by kernel_rfl, fun _ => by kernel_rfl, fun _ => by kernel_rfl⟩ him w
end Go.Proofs.YtpdkpkabdkefcaaGreatDoor
