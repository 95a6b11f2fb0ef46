/- For the seat: texts joined: RqF. -/
import Derived.Test.YtpdkpkabdkefcaaGreatDoorJAi
set_option maxRecDepth 100000
namespace Go.Proofs.YtpdkpkabdkefcaaGreatDoor
open Go.Sx Go.ChangeShapes Go.WideShapes Go.RowKit Go.Joins Go.Deep Go.Rp
theorem rangeAt_all {w : World} {b : Nat} {C : Array Value} {t : TypeId} {fr : Nat × Nat} (hb : w.heap[b]? = some (.cells C t fr)) : w.rangeAt b 0 C.toList := fun j v hv => by
  simp only [World.cell?, hb]
  simpa using hv
theorem wpList_load_blk {P : Program} {ops : Array Oper} {rest : List Oper} {op : Oper} {a : Act} {w : World} {Q : Exit → Act → World → Prop} (hgd : op.guard = none) (ty : TypeId) (x : Operand) (ho : op.op = .load ty x)
    (b : Nat) (hx : a.eval x = .pointer (some ⟨b, 0, none⟩)) (C : Array Value) {t : TypeId} {fr : Nat × Nat} (hb : w.heap[b]? = some (.cells C t fr)) (d : TypeDesc)
    (hu : P.underlying ty = some d) (hd : d.isRow = true) (hi : (P.info? ty).map (·.size) = some C.size)
    (h : wpList P ops Q rest (a.put op.dst (.agg C)) w) : wpList P ops Q (op :: rest) a w :=
  wpList_load_mid hgd ty x ho b 0 hx C.toList d (rangeAt_all hb) hu hd (by simpa using hi) (by simpa using h)
section
variable {w : World} {y : Lw} {e0 e1 e2 e3 : Value}
theorem lastX_len : (lastX y).length ≤ 50000 := by
  have h1 := regName_len y.rm
  have h2 := print_len y.ex
  unfold lastX
  split
  · omega
  · simp; omega
set_option maxHeartbeats 8000000 in
theorem operands18 (K : Nat → Prop) (hx : ExAt w K y.ex (.agg #[e0, e1, e2, e3])) (hK : ∀ g, K g → g < w.heap.size) (hnm : y.ex.nms = true) (href : y.ref.length ≤ 1000000) :
    Calls Tryz.prog 135 #[lwV y e0 e1 e2 e3] w fun e w' => e = .returned (.string (tx (operX y))) ∧ Below w.heap.size w w' := by
  have hla : ∀ w', Below w.heap.size w w' → Calls Tryz.prog 165 #[lwV y e0 e1 e2 e3] w' fun e w'' => e = .returned (.string (tx (lastX y))) ∧ Below w'.heap.size w' w'' := fun w' hb => lastx18 K (hx.below hb hK) (fun g hg => Nat.lt_of_lt_of_le (hK g hg) hb.size) hnm
  have hpr : ∀ w', Below w.heap.size w w' → Calls Tryz.prog 72 #[.agg #[e0, e1, e2, e3]] w' fun e w'' => e = .returned (.string (tx y.ex.print)) ∧ Below w'.heap.size w' w'' := fun w' hb => print17 y.ex _ w' K (hx.below hb hK) (fun g hg => Nat.lt_of_lt_of_le (hK g hg) hb.size) hnm
  have hll := lastX_len (y := y)
  have hpl := print_len y.ex
  have hR : operX y = if y.k = 2 then regName y.rd ++ [44, 32, 61] ++ y.ex.print
    else if y.op = 42 then (if y.ic = 14 then [97, 108] else condName y.ic)
    else if y.op ≤ 9 ∨ (16 ≤ y.op ∧ y.op ≤ 19) then regName y.rd ++ [44, 32] ++ regName y.rn ++ [44, 32] ++ lastX y
    else if y.op ≤ 11 ∨ y.op = 23 ∨ y.op = 24 then regName y.rd ++ [44, 32] ++ lastX y
    else if y.op ≤ 15 then regName y.rn ++ [44, 32] ++ lastX y
    else if y.op ≤ 22 then regName y.rd ++ [44, 32] ++ regName y.rn ++ [44, 32] ++ regName y.rm
    else if y.op ≤ 30 then regName y.rd ++ [44, 32, 91] ++ regName y.rn ++ [44, 32] ++ lastX y ++ [93]
    else if y.op = 40 ∨ y.op = 41 then regName y.rd ++ [44, 32] ++ y.ref
    else if y.op = 31 ∨ y.op = 32 then regName y.rn ++ [33, 44, 32] ++ regsP y.ls
    else if y.op = 33 ∨ y.op = 34 then regsP y.ls
    else if y.op = 35 ∨ y.op = 36 then y.ref
    else if y.op = 37 ∨ y.op = 38 then regName y.rn ++ [44, 32] ++ y.ref
    else if y.op = 39 then regName y.rm
    else if y.op = 44 then lastX y
    else if y.op = 45 then [91] ++ regName y.rn ++ [44, 32] ++ regName y.rm ++ [93]
    else [] := rfl
  generalize operX y = R at hR
  generalize hLX : lastX y = LX at hla hll hR
  clear hLX
  obtain ⟨lab, k, op, ic, rd, rn, rm, im, md, ls, s, c, ref, wd, sz, ex⟩ := y
  dsimp only at hx hla hpr hll hpl hR hnm href
  dsimp only [lwV, lwC] at hla ⊢
  generalize ex.print = PX at hpr hpl hR
  clear hx hK hnm
  have n1 := reg05_name rd
  have n2 := reg05_name rn
  have n3 := reg05_name rm
  have l1 := regName_len rd
  have l2 := regName_len rn
  have l3 := regName_len rm
  have hcn := cond04_name ic
  have hrs := regs05 ls
  have hrl := regsP_len ls
  generalize regName rd = D at n1 l1 hR
  generalize regName rn = N at n2 l2 hR
  generalize regName rm = M at n3 l3 hR
  generalize condName ic = CN at hcn hR
  generalize regsP ls = LS at hrs hrl hR
  have HR := Lib.hid hR
  clear hR
  obtain ⟨W, hW⟩ : ∃ W, W = w.alloc (.cells #[.string (tx lab), .int .i64 k, .int .i64 op, .int .i64 ic, .int .i64 rd, .int .i64 rn, .int .i64 rm, .int .i64 im, .int .i64 md, .int .i64 ls, .bool s, .int .i64 c, .string (tx ref), .bool wd, .int .i64 sz, e0, e1, e2, e3] 49) := ⟨_, rfl⟩
  have b0 : Below w.heap.size w W := by rw [hW]; exact (Below.refl _ _).alloc (Nat.le_refl _) _
  have hw0 : W.heap[w.heap.size]? = some (.cells #[.string (tx lab), .int .i64 k, .int .i64 op, .int .i64 ic, .int .i64 rd, .int .i64 rn, .int .i64 rm, .int .i64 im, .int .i64 md, .int .i64 ls, .bool s, .int .i64 c, .string (tx ref), .bool wd, .int .i64 sz, e0, e1, e2, e3] 49 (0, 0)) := by rw [hW]; exact heap_alloc_new w _
  have hs0 : W.heap.size = w.heap.size + 1 := by rw [hW]; simp
  obtain ⟨d2, d3, d4, d5, d6, d7, d8, d9, d10⟩ : W.cell? ⟨w.heap.size, 2, none⟩ = some (.int .i64 op) ∧ W.cell? ⟨w.heap.size, 3, none⟩ = some (.int .i64 ic) ∧ W.cell? ⟨w.heap.size, 4, none⟩ = some (.int .i64 rd) ∧ W.cell? ⟨w.heap.size, 5, none⟩ = some (.int .i64 rn) ∧
      W.cell? ⟨w.heap.size, 6, none⟩ = some (.int .i64 rm) ∧ W.cell? ⟨w.heap.size, 7, none⟩ = some (.int .i64 im) ∧ W.cell? ⟨w.heap.size, 8, none⟩ = some (.int .i64 md) ∧ W.cell? ⟨w.heap.size, 9, none⟩ = some (.int .i64 ls) ∧ W.cell? ⟨w.heap.size, 10, none⟩ = some (.bool s) := by
    simp [World.cell?, hw0]
  obtain ⟨V, hV⟩ : ∃ V, V = W.alloc (.cells #[.int .i64 op, .int .i64 ic, .int .i64 rd, .int .i64 rn, .int .i64 rm, .int .i64 im, .int .i64 md, .int .i64 ls, .bool s] 44) := ⟨_, rfl⟩
  have b1 : Below w.heap.size w V := by rw [hV]; exact b0.alloc b0.size _
  have hv0 : V.heap[w.heap.size + 1]? = some (.cells #[.int .i64 op, .int .i64 ic, .int .i64 rd, .int .i64 rn, .int .i64 rm, .int .i64 im, .int .i64 md, .int .i64 ls, .bool s] 44 (0, 0)) := by rw [hV, ← hs0]; exact heap_alloc_new W _
  have hv1 : V.heap[w.heap.size]? = some (.cells #[.string (tx lab), .int .i64 k, .int .i64 op, .int .i64 ic, .int .i64 rd, .int .i64 rn, .int .i64 rm, .int .i64 im, .int .i64 md, .int .i64 ls, .bool s, .int .i64 c, .string (tx ref), .bool wd, .int .i64 sz, e0, e1, e2, e3] 49 (0, 0)) := by rw [hV]; exact alloc_blk hw0 _
  have hs1 : V.heap.size = w.heap.size + 2 := by rw [hV]; simp [hs0]
  clear hw0
  go_enter Tryz.func135, Tryz.ntmps135
  go_wp2_with (fail)
  rw [← hW, ← hV]
  clear hW hV
  clear d2 d3 d4 d5 d6 d7 d8 d9 d10
  have kS : ∀ w', Below V.heap.size V w' → w'.cell? ⟨w.heap.size + 1, 2, none⟩ = some (.int .i64 rd) ∧ w'.cell? ⟨w.heap.size + 1, 3, none⟩ = some (.int .i64 rn) ∧ w'.cell? ⟨w.heap.size + 1, 4, none⟩ = some (.int .i64 rm) := fun w' hb => by
    have h := (hb.block (w.heap.size + 1) (by omega)).trans hv0
    simp [World.cell?, h]
  have kS0 := kS V (Below.refl _ _)
  have kS1 := kS V.drew (Below.refl _ _).drew
  have J1 : ∀ w5, Below V.drew.heap.size V.drew w5 → Below V.heap.size V w5 := fun w5 hb5 => (Below.refl V.heap.size V).drew.trans hb5
  have J2 : ∀ w5 w7, Below V.heap.size V w5 → Below w5.heap.size w5 w7 → Below V.heap.size V w7 := fun w5 w7 h k => h.trans (k.mono h.size)
  go_region_held3 (fun w' => w'.cell? ⟨w.heap.size + 1, 2, none⟩ = some (.int .i64 rd) ∧ w'.cell? ⟨w.heap.size + 1, 3, none⟩ = some (.int .i64 rn) ∧ w'.cell? ⟨w.heap.size + 1, 4, none⟩ = some (.int .i64 rm))
    (first
      | (with_reducible exact kS _ B3)
      | (with_reducible exact kS _ B2)
      | (with_reducible exact kS _ B1)
      | (with_reducible exact kS0)
      | (with_reducible exact kS1)
      | go_keep)
    (first
      | (go_at_call 164; with_reducible refine (n1 _).mono ?_; rintro e w5 ⟨rfl, hb5⟩; have B1 := J1 _ hb5)
      | (go_at_call 164; with_reducible refine (n2 _).mono ?_; rintro e w6 ⟨rfl, hb6⟩; have B2 := J2 _ _ B1 hb6)
      | (go_at_call 164; with_reducible refine (n3 _).mono ?_; rintro e w7 ⟨rfl, hb7⟩; have B3 := J2 _ _ B2 hb7))
  have b7 : Below w.heap.size w w7 := b1.trans (B3.mono (by omega))
  have hL := (B3.block w.heap.size (by omega)).trans hv1
  have hI := (B3.block (w.heap.size + 1) (by omega)).trans hv0
  obtain ⟨f1, f12, f15, f16, f17, f18⟩ : w7.cell? ⟨w.heap.size, 1, none⟩ = some (.int .i64 k) ∧ w7.cell? ⟨w.heap.size, 12, none⟩ = some (.string (tx ref)) ∧ w7.cell? ⟨w.heap.size, 15, none⟩ = some e0 ∧ w7.cell? ⟨w.heap.size, 16, none⟩ = some e1 ∧ w7.cell? ⟨w.heap.size, 17, none⟩ = some e2 ∧ w7.cell? ⟨w.heap.size, 18, none⟩ = some e3 := by
    simp [World.cell?, hL]
  obtain ⟨g0, g1, g7⟩ : w7.cell? ⟨w.heap.size + 1, 0, none⟩ = some (.int .i64 op) ∧ w7.cell? ⟨w.heap.size + 1, 1, none⟩ = some (.int .i64 ic) ∧ w7.cell? ⟨w.heap.size + 1, 7, none⟩ = some (.int .i64 ls) := by
    simp [World.cell?, hI]
  have hla := hla w7 b7
  have hpr := hpr w7 b7
  clear n1 n2 n3 kS kS0 kS1 J1 J2 hv0 hv1
  have hR := HR.out
  clear HR
  cases k2 : (k == 2)
  rotate_left
  · rw [if_pos (eq_of_beq k2)] at hR
    have HR := Lib.hid hR
    clear hR
    go_wp2_with (fail)
    ((with_reducible refine hpr.mono ?_); rintro e w8 ⟨rfl, hb8⟩)
    go_wp2_with (fail)
    exact bodyPost_ret (results_tmp rfl _ _ _) rfl ⟨by rw [HR.out]; rfl, b7.trans (hb8.mono b7.size)⟩
  rw [if_neg (ne_of_beq_false k2)] at hR
  by_cases o42 : op = 42
  · rw [if_pos o42] at hR
    subst o42
    cases c14 : (ic == 14)
    · rw [if_neg (ne_of_beq_false c14)] at hR
      have HR := Lib.hid hR
      clear hR
      go_wp2_with (fail)
      ((with_reducible refine (hcn _).mono ?_); rintro e w8 ⟨rfl, hb8⟩)
      go_wp2_with (fail)
      exact bodyPost_ret (results_tmp rfl _ _ _) rfl ⟨by rw [HR.out]; rfl, b7.trans (hb8.mono b7.size)⟩
    · rw [if_pos (eq_of_beq c14)] at hR
      have HR := Lib.hid hR
      clear hR
      go_wp2_with (fail)
      exact bodyPost_ret (results_tmp rfl _ _ _) rfl ⟨by rw [HR.out]; rfl, b7⟩
  rw [if_neg o42] at hR
  have o42' : (op == 42) = false := by simpa using o42
  by_cases hc : op ≤ 9 ∨ (16 ≤ op ∧ op ≤ 19)
  · rw [if_pos hc] at hR
    have HR := Lib.hid hR
    clear hR
    by_cases hd : op ≤ 9
    · skip
      have q1 : decide (op ≤ 9) = true := decide_eq_true (by omega)
      clear hd
      clear hc
      go_wp2_with (first | (refine wpList_load_blk rfl 49 (.tmp 1) rfl w.heap.size (by rfl) _ hL _ Tryz.underlying49 rfl (by kernel_rfl) ?_) | fail)
      ((with_reducible refine hla.mono ?_); rintro e w8 ⟨rfl, hb8⟩)
      go_wp2_with (fail)
      exact bodyPost_ret (results_tmp rfl _ _ _) rfl ⟨by rw [HR.out]; rfl, b7.trans (hb8.mono b7.size)⟩
    have q2 : decide (op ≤ 9) = false := decide_eq_false (by omega)
    have q3 : decide (op ≥ 16) = true := decide_eq_true (by omega)
    have q4 : decide (op ≤ 19) = true := decide_eq_true (by omega)
    clear hc
    go_wp2_with (first | (refine wpList_load_blk rfl 49 (.tmp 1) rfl w.heap.size (by rfl) _ hL _ Tryz.underlying49 rfl (by kernel_rfl) ?_) | fail)
    ((with_reducible refine hla.mono ?_); rintro e w8 ⟨rfl, hb8⟩)
    go_wp2_with (fail)
    exact bodyPost_ret (results_tmp rfl _ _ _) rfl ⟨by rw [HR.out]; rfl, b7.trans (hb8.mono b7.size)⟩
  rw [if_neg hc] at hR
  by_cases hc : op ≤ 11 ∨ op = 23 ∨ op = 24
  · rw [if_pos hc] at hR
    have HR := Lib.hid hR
    clear hR
    by_cases hd : op ≤ 11
    · skip
      have q5 : decide (op ≤ 9) = false := decide_eq_false (by omega)
      have q6 : decide (op ≥ 16) = false := decide_eq_false (by omega)
      have q7 : decide (op ≤ 11) = true := decide_eq_true (by omega)
      clear hd
      clear hc
      go_wp2_with (first | (refine wpList_load_blk rfl 49 (.tmp 1) rfl w.heap.size (by rfl) _ hL _ Tryz.underlying49 rfl (by kernel_rfl) ?_) | fail)
      ((with_reducible refine hla.mono ?_); rintro e w8 ⟨rfl, hb8⟩)
      go_wp2_with (fail)
      exact bodyPost_ret (results_tmp rfl _ _ _) rfl ⟨by rw [HR.out]; rfl, b7.trans (hb8.mono b7.size)⟩
    by_cases hd : op = 23
    · skip
      have q8 : decide (op ≤ 9) = false := decide_eq_false (by omega)
      have q9 : decide (op ≥ 16) = true := decide_eq_true (by omega)
      have q10 : decide (op ≤ 19) = false := decide_eq_false (by omega)
      have q11 : decide (op ≤ 11) = false := decide_eq_false (by omega)
      have q12 : (op == 23) = true := by simp; omega
      clear hd
      clear hc
      go_wp2_with (first | (refine wpList_load_blk rfl 49 (.tmp 1) rfl w.heap.size (by rfl) _ hL _ Tryz.underlying49 rfl (by kernel_rfl) ?_) | fail)
      ((with_reducible refine hla.mono ?_); rintro e w8 ⟨rfl, hb8⟩)
      go_wp2_with (fail)
      exact bodyPost_ret (results_tmp rfl _ _ _) rfl ⟨by rw [HR.out]; rfl, b7.trans (hb8.mono b7.size)⟩
    have q13 : decide (op ≤ 9) = false := decide_eq_false (by omega)
    have q14 : decide (op ≥ 16) = true := decide_eq_true (by omega)
    have q15 : decide (op ≤ 19) = false := decide_eq_false (by omega)
    have q16 : decide (op ≤ 11) = false := decide_eq_false (by omega)
    have q17 : (op == 23) = false := by simp; omega
    have q18 : (op == 24) = true := by simp; omega
    clear hc
    go_wp2_with (first | (refine wpList_load_blk rfl 49 (.tmp 1) rfl w.heap.size (by rfl) _ hL _ Tryz.underlying49 rfl (by kernel_rfl) ?_) | fail)
    ((with_reducible refine hla.mono ?_); rintro e w8 ⟨rfl, hb8⟩)
    go_wp2_with (fail)
    exact bodyPost_ret (results_tmp rfl _ _ _) rfl ⟨by rw [HR.out]; rfl, b7.trans (hb8.mono b7.size)⟩
  rw [if_neg hc] at hR
  by_cases hc : op ≤ 15
  · rw [if_pos hc] at hR
    have HR := Lib.hid hR
    clear hR
    have q19 : decide (op ≤ 9) = false := decide_eq_false (by omega)
    have q20 : decide (op ≥ 16) = false := decide_eq_false (by omega)
    have q21 : decide (op ≤ 11) = false := decide_eq_false (by omega)
    have q22 : (op == 23) = false := by simp; omega
    have q23 : (op == 24) = false := by simp; omega
    have q24 : decide (op ≤ 15) = true := decide_eq_true (by omega)
    clear hc
    go_wp2_with (first | (refine wpList_load_blk rfl 49 (.tmp 1) rfl w.heap.size (by rfl) _ hL _ Tryz.underlying49 rfl (by kernel_rfl) ?_) | fail)
    ((with_reducible refine hla.mono ?_); rintro e w8 ⟨rfl, hb8⟩)
    go_wp2_with (fail)
    exact bodyPost_ret (results_tmp rfl _ _ _) rfl ⟨by rw [HR.out]; rfl, b7.trans (hb8.mono b7.size)⟩
  rw [if_neg hc] at hR
  by_cases hc : op ≤ 22
  · rw [if_pos hc] at hR
    have HR := Lib.hid hR
    clear hR
    have q25 : decide (op ≤ 9) = false := decide_eq_false (by omega)
    have q26 : decide (op ≥ 16) = true := decide_eq_true (by omega)
    have q27 : decide (op ≤ 19) = false := decide_eq_false (by omega)
    have q28 : decide (op ≤ 11) = false := decide_eq_false (by omega)
    have q29 : (op == 23) = false := by simp; omega
    have q30 : (op == 24) = false := by simp; omega
    have q31 : decide (op ≤ 15) = false := decide_eq_false (by omega)
    have q32 : decide (op ≤ 22) = true := decide_eq_true (by omega)
    clear hc
    go_wp2_with (fail)
    exact bodyPost_ret (results_tmp rfl _ _ _) rfl ⟨by rw [HR.out]; rfl, b7⟩
  rw [if_neg hc] at hR
  by_cases hc : op ≤ 30
  · rw [if_pos hc] at hR
    have HR := Lib.hid hR
    clear hR
    have q33 : decide (op ≤ 9) = false := decide_eq_false (by omega)
    have q34 : decide (op ≥ 16) = true := decide_eq_true (by omega)
    have q35 : decide (op ≤ 19) = false := decide_eq_false (by omega)
    have q36 : decide (op ≤ 11) = false := decide_eq_false (by omega)
    have q37 : (op == 23) = false := by simp; omega
    have q38 : (op == 24) = false := by simp; omega
    have q39 : decide (op ≤ 15) = false := decide_eq_false (by omega)
    have q40 : decide (op ≤ 22) = false := decide_eq_false (by omega)
    have q41 : decide (op ≤ 30) = true := decide_eq_true (by omega)
    clear hc
    go_wp2_with (first | (refine wpList_load_blk rfl 49 (.tmp 1) rfl w.heap.size (by rfl) _ hL _ Tryz.underlying49 rfl (by kernel_rfl) ?_) | fail)
    ((with_reducible refine hla.mono ?_); rintro e w8 ⟨rfl, hb8⟩)
    go_wp2_with (fail)
    exact bodyPost_ret (results_tmp rfl _ _ _) rfl ⟨by rw [HR.out]; rfl, b7.trans (hb8.mono b7.size)⟩
  rw [if_neg hc] at hR
  by_cases hc : op = 40 ∨ op = 41
  · rw [if_pos hc] at hR
    have HR := Lib.hid hR
    clear hR
    by_cases hd : op = 40
    · skip
      have q42 : decide (op ≤ 9) = false := decide_eq_false (by omega)
      have q43 : decide (op ≥ 16) = true := decide_eq_true (by omega)
      have q44 : decide (op ≤ 19) = false := decide_eq_false (by omega)
      have q45 : decide (op ≤ 11) = false := decide_eq_false (by omega)
      have q46 : (op == 23) = false := by simp; omega
      have q47 : (op == 24) = false := by simp; omega
      have q48 : decide (op ≤ 15) = false := decide_eq_false (by omega)
      have q49 : decide (op ≤ 22) = false := decide_eq_false (by omega)
      have q50 : decide (op ≤ 30) = false := decide_eq_false (by omega)
      have q51 : (op == 40) = true := by simp; omega
      clear hd
      clear hc
      go_wp2_with (fail)
      exact bodyPost_ret (results_tmp rfl _ _ _) rfl ⟨by rw [HR.out]; rfl, b7⟩
    have q52 : decide (op ≤ 9) = false := decide_eq_false (by omega)
    have q53 : decide (op ≥ 16) = true := decide_eq_true (by omega)
    have q54 : decide (op ≤ 19) = false := decide_eq_false (by omega)
    have q55 : decide (op ≤ 11) = false := decide_eq_false (by omega)
    have q56 : (op == 23) = false := by simp; omega
    have q57 : (op == 24) = false := by simp; omega
    have q58 : decide (op ≤ 15) = false := decide_eq_false (by omega)
    have q59 : decide (op ≤ 22) = false := decide_eq_false (by omega)
    have q60 : decide (op ≤ 30) = false := decide_eq_false (by omega)
    have q61 : (op == 40) = false := by simp; omega
    have q62 : (op == 41) = true := by simp; omega
    clear hc
    go_wp2_with (fail)
    exact bodyPost_ret (results_tmp rfl _ _ _) rfl ⟨by rw [HR.out]; rfl, b7⟩
  rw [if_neg hc] at hR
  by_cases hc : op = 31 ∨ op = 32
  · rw [if_pos hc] at hR
    have HR := Lib.hid hR
    clear hR
    by_cases hd : op = 31
    · skip
      have q63 : decide (op ≤ 9) = false := decide_eq_false (by omega)
      have q64 : decide (op ≥ 16) = true := decide_eq_true (by omega)
      have q65 : decide (op ≤ 19) = false := decide_eq_false (by omega)
      have q66 : decide (op ≤ 11) = false := decide_eq_false (by omega)
      have q67 : (op == 23) = false := by simp; omega
      have q68 : (op == 24) = false := by simp; omega
      have q69 : decide (op ≤ 15) = false := decide_eq_false (by omega)
      have q70 : decide (op ≤ 22) = false := decide_eq_false (by omega)
      have q71 : decide (op ≤ 30) = false := decide_eq_false (by omega)
      have q72 : (op == 40) = false := by simp; omega
      have q73 : (op == 41) = false := by simp; omega
      have q74 : (op == 31) = true := by simp; omega
      clear hd
      clear hc
      go_wp2_with (fail)
      ((with_reducible refine (hrs _).mono ?_); rintro e w8 ⟨rfl, hb8⟩)
      go_wp2_with (fail)
      exact bodyPost_ret (results_tmp rfl _ _ _) rfl ⟨by rw [HR.out]; rfl, b7.trans (hb8.mono b7.size)⟩
    have q75 : decide (op ≤ 9) = false := decide_eq_false (by omega)
    have q76 : decide (op ≥ 16) = true := decide_eq_true (by omega)
    have q77 : decide (op ≤ 19) = false := decide_eq_false (by omega)
    have q78 : decide (op ≤ 11) = false := decide_eq_false (by omega)
    have q79 : (op == 23) = false := by simp; omega
    have q80 : (op == 24) = false := by simp; omega
    have q81 : decide (op ≤ 15) = false := decide_eq_false (by omega)
    have q82 : decide (op ≤ 22) = false := decide_eq_false (by omega)
    have q83 : decide (op ≤ 30) = false := decide_eq_false (by omega)
    have q84 : (op == 40) = false := by simp; omega
    have q85 : (op == 41) = false := by simp; omega
    have q86 : (op == 31) = false := by simp; omega
    have q87 : (op == 32) = true := by simp; omega
    clear hc
    go_wp2_with (fail)
    ((with_reducible refine (hrs _).mono ?_); rintro e w8 ⟨rfl, hb8⟩)
    go_wp2_with (fail)
    exact bodyPost_ret (results_tmp rfl _ _ _) rfl ⟨by rw [HR.out]; rfl, b7.trans (hb8.mono b7.size)⟩
  rw [if_neg hc] at hR
  by_cases hc : op = 33 ∨ op = 34
  · rw [if_pos hc] at hR
    have HR := Lib.hid hR
    clear hR
    by_cases hd : op = 33
    · skip
      have q88 : decide (op ≤ 9) = false := decide_eq_false (by omega)
      have q89 : decide (op ≥ 16) = true := decide_eq_true (by omega)
      have q90 : decide (op ≤ 19) = false := decide_eq_false (by omega)
      have q91 : decide (op ≤ 11) = false := decide_eq_false (by omega)
      have q92 : (op == 23) = false := by simp; omega
      have q93 : (op == 24) = false := by simp; omega
      have q94 : decide (op ≤ 15) = false := decide_eq_false (by omega)
      have q95 : decide (op ≤ 22) = false := decide_eq_false (by omega)
      have q96 : decide (op ≤ 30) = false := decide_eq_false (by omega)
      have q97 : (op == 40) = false := by simp; omega
      have q98 : (op == 41) = false := by simp; omega
      have q99 : (op == 31) = false := by simp; omega
      have q100 : (op == 32) = false := by simp; omega
      have q101 : (op == 33) = true := by simp; omega
      clear hd
      clear hc
      go_wp2_with (fail)
      ((with_reducible refine (hrs _).mono ?_); rintro e w8 ⟨rfl, hb8⟩)
      go_wp2_with (fail)
      exact bodyPost_ret (results_tmp rfl _ _ _) rfl ⟨by rw [HR.out]; rfl, b7.trans (hb8.mono b7.size)⟩
    have q102 : decide (op ≤ 9) = false := decide_eq_false (by omega)
    have q103 : decide (op ≥ 16) = true := decide_eq_true (by omega)
    have q104 : decide (op ≤ 19) = false := decide_eq_false (by omega)
    have q105 : decide (op ≤ 11) = false := decide_eq_false (by omega)
    have q106 : (op == 23) = false := by simp; omega
    have q107 : (op == 24) = false := by simp; omega
    have q108 : decide (op ≤ 15) = false := decide_eq_false (by omega)
    have q109 : decide (op ≤ 22) = false := decide_eq_false (by omega)
    have q110 : decide (op ≤ 30) = false := decide_eq_false (by omega)
    have q111 : (op == 40) = false := by simp; omega
    have q112 : (op == 41) = false := by simp; omega
    have q113 : (op == 31) = false := by simp; omega
    have q114 : (op == 32) = false := by simp; omega
    have q115 : (op == 33) = false := by simp; omega
    have q116 : (op == 34) = true := by simp; omega
    clear hc
    go_wp2_with (fail)
    ((with_reducible refine (hrs _).mono ?_); rintro e w8 ⟨rfl, hb8⟩)
    go_wp2_with (fail)
    exact bodyPost_ret (results_tmp rfl _ _ _) rfl ⟨by rw [HR.out]; rfl, b7.trans (hb8.mono b7.size)⟩
  rw [if_neg hc] at hR
  by_cases hc : op = 35 ∨ op = 36
  · rw [if_pos hc] at hR
    have HR := Lib.hid hR
    clear hR
    by_cases hd : op = 35
    · skip
      have q117 : decide (op ≤ 9) = false := decide_eq_false (by omega)
      have q118 : decide (op ≥ 16) = true := decide_eq_true (by omega)
      have q119 : decide (op ≤ 19) = false := decide_eq_false (by omega)
      have q120 : decide (op ≤ 11) = false := decide_eq_false (by omega)
      have q121 : (op == 23) = false := by simp; omega
      have q122 : (op == 24) = false := by simp; omega
      have q123 : decide (op ≤ 15) = false := decide_eq_false (by omega)
      have q124 : decide (op ≤ 22) = false := decide_eq_false (by omega)
      have q125 : decide (op ≤ 30) = false := decide_eq_false (by omega)
      have q126 : (op == 40) = false := by simp; omega
      have q127 : (op == 41) = false := by simp; omega
      have q128 : (op == 31) = false := by simp; omega
      have q129 : (op == 32) = false := by simp; omega
      have q130 : (op == 33) = false := by simp; omega
      have q131 : (op == 34) = false := by simp; omega
      have q132 : (op == 35) = true := by simp; omega
      clear hd
      clear hc
      go_wp2_with (fail)
      exact bodyPost_ret (results_tmp rfl _ _ _) rfl ⟨by rw [HR.out]; rfl, b7⟩
    have q133 : decide (op ≤ 9) = false := decide_eq_false (by omega)
    have q134 : decide (op ≥ 16) = true := decide_eq_true (by omega)
    have q135 : decide (op ≤ 19) = false := decide_eq_false (by omega)
    have q136 : decide (op ≤ 11) = false := decide_eq_false (by omega)
    have q137 : (op == 23) = false := by simp; omega
    have q138 : (op == 24) = false := by simp; omega
    have q139 : decide (op ≤ 15) = false := decide_eq_false (by omega)
    have q140 : decide (op ≤ 22) = false := decide_eq_false (by omega)
    have q141 : decide (op ≤ 30) = false := decide_eq_false (by omega)
    have q142 : (op == 40) = false := by simp; omega
    have q143 : (op == 41) = false := by simp; omega
    have q144 : (op == 31) = false := by simp; omega
    have q145 : (op == 32) = false := by simp; omega
    have q146 : (op == 33) = false := by simp; omega
    have q147 : (op == 34) = false := by simp; omega
    have q148 : (op == 35) = false := by simp; omega
    have q149 : (op == 36) = true := by simp; omega
    clear hc
    go_wp2_with (fail)
    exact bodyPost_ret (results_tmp rfl _ _ _) rfl ⟨by rw [HR.out]; rfl, b7⟩
  rw [if_neg hc] at hR
  by_cases hc : op = 37 ∨ op = 38
  · rw [if_pos hc] at hR
    have HR := Lib.hid hR
    clear hR
    by_cases hd : op = 37
    · skip
      have q150 : decide (op ≤ 9) = false := decide_eq_false (by omega)
      have q151 : decide (op ≥ 16) = true := decide_eq_true (by omega)
      have q152 : decide (op ≤ 19) = false := decide_eq_false (by omega)
      have q153 : decide (op ≤ 11) = false := decide_eq_false (by omega)
      have q154 : (op == 23) = false := by simp; omega
      have q155 : (op == 24) = false := by simp; omega
      have q156 : decide (op ≤ 15) = false := decide_eq_false (by omega)
      have q157 : decide (op ≤ 22) = false := decide_eq_false (by omega)
      have q158 : decide (op ≤ 30) = false := decide_eq_false (by omega)
      have q159 : (op == 40) = false := by simp; omega
      have q160 : (op == 41) = false := by simp; omega
      have q161 : (op == 31) = false := by simp; omega
      have q162 : (op == 32) = false := by simp; omega
      have q163 : (op == 33) = false := by simp; omega
      have q164 : (op == 34) = false := by simp; omega
      have q165 : (op == 35) = false := by simp; omega
      have q166 : (op == 36) = false := by simp; omega
      have q167 : (op == 37) = true := by simp; omega
      clear hd
      clear hc
      go_wp2_with (fail)
      exact bodyPost_ret (results_tmp rfl _ _ _) rfl ⟨by rw [HR.out]; rfl, b7⟩
    have q168 : decide (op ≤ 9) = false := decide_eq_false (by omega)
    have q169 : decide (op ≥ 16) = true := decide_eq_true (by omega)
    have q170 : decide (op ≤ 19) = false := decide_eq_false (by omega)
    have q171 : decide (op ≤ 11) = false := decide_eq_false (by omega)
    have q172 : (op == 23) = false := by simp; omega
    have q173 : (op == 24) = false := by simp; omega
    have q174 : decide (op ≤ 15) = false := decide_eq_false (by omega)
    have q175 : decide (op ≤ 22) = false := decide_eq_false (by omega)
    have q176 : decide (op ≤ 30) = false := decide_eq_false (by omega)
    have q177 : (op == 40) = false := by simp; omega
    have q178 : (op == 41) = false := by simp; omega
    have q179 : (op == 31) = false := by simp; omega
    have q180 : (op == 32) = false := by simp; omega
    have q181 : (op == 33) = false := by simp; omega
    have q182 : (op == 34) = false := by simp; omega
    have q183 : (op == 35) = false := by simp; omega
    have q184 : (op == 36) = false := by simp; omega
    have q185 : (op == 37) = false := by simp; omega
    have q186 : (op == 38) = true := by simp; omega
    clear hc
    go_wp2_with (fail)
    exact bodyPost_ret (results_tmp rfl _ _ _) rfl ⟨by rw [HR.out]; rfl, b7⟩
  rw [if_neg hc] at hR
  by_cases hc : op = 39
  · rw [if_pos hc] at hR
    have HR := Lib.hid hR
    clear hR
    have q187 : decide (op ≤ 9) = false := decide_eq_false (by omega)
    have q188 : decide (op ≥ 16) = true := decide_eq_true (by omega)
    have q189 : decide (op ≤ 19) = false := decide_eq_false (by omega)
    have q190 : decide (op ≤ 11) = false := decide_eq_false (by omega)
    have q191 : (op == 23) = false := by simp; omega
    have q192 : (op == 24) = false := by simp; omega
    have q193 : decide (op ≤ 15) = false := decide_eq_false (by omega)
    have q194 : decide (op ≤ 22) = false := decide_eq_false (by omega)
    have q195 : decide (op ≤ 30) = false := decide_eq_false (by omega)
    have q196 : (op == 40) = false := by simp; omega
    have q197 : (op == 41) = false := by simp; omega
    have q198 : (op == 31) = false := by simp; omega
    have q199 : (op == 32) = false := by simp; omega
    have q200 : (op == 33) = false := by simp; omega
    have q201 : (op == 34) = false := by simp; omega
    have q202 : (op == 35) = false := by simp; omega
    have q203 : (op == 36) = false := by simp; omega
    have q204 : (op == 37) = false := by simp; omega
    have q205 : (op == 38) = false := by simp; omega
    have q206 : (op == 39) = true := by simp; omega
    clear hc
    go_wp2_with (fail)
    exact bodyPost_ret (results_tmp rfl _ _ _) rfl ⟨by rw [HR.out]; rfl, b7⟩
  rw [if_neg hc] at hR
  by_cases hc : op = 44
  · rw [if_pos hc] at hR
    have HR := Lib.hid hR
    clear hR
    have q207 : decide (op ≤ 9) = false := decide_eq_false (by omega)
    have q208 : decide (op ≥ 16) = true := decide_eq_true (by omega)
    have q209 : decide (op ≤ 19) = false := decide_eq_false (by omega)
    have q210 : decide (op ≤ 11) = false := decide_eq_false (by omega)
    have q211 : (op == 23) = false := by simp; omega
    have q212 : (op == 24) = false := by simp; omega
    have q213 : decide (op ≤ 15) = false := decide_eq_false (by omega)
    have q214 : decide (op ≤ 22) = false := decide_eq_false (by omega)
    have q215 : decide (op ≤ 30) = false := decide_eq_false (by omega)
    have q216 : (op == 40) = false := by simp; omega
    have q217 : (op == 41) = false := by simp; omega
    have q218 : (op == 31) = false := by simp; omega
    have q219 : (op == 32) = false := by simp; omega
    have q220 : (op == 33) = false := by simp; omega
    have q221 : (op == 34) = false := by simp; omega
    have q222 : (op == 35) = false := by simp; omega
    have q223 : (op == 36) = false := by simp; omega
    have q224 : (op == 37) = false := by simp; omega
    have q225 : (op == 38) = false := by simp; omega
    have q226 : (op == 39) = false := by simp; omega
    have q227 : (op == 44) = true := by simp; omega
    clear hc
    go_wp2_with (first | (refine wpList_load_blk rfl 49 (.tmp 1) rfl w.heap.size (by rfl) _ hL _ Tryz.underlying49 rfl (by kernel_rfl) ?_) | fail)
    ((with_reducible refine hla.mono ?_); rintro e w8 ⟨rfl, hb8⟩)
    go_wp2_with (fail)
    exact bodyPost_ret (results_tmp rfl _ _ _) rfl ⟨by rw [HR.out]; rfl, b7.trans (hb8.mono b7.size)⟩
  rw [if_neg hc] at hR
  by_cases hc : op = 45
  · rw [if_pos hc] at hR
    have HR := Lib.hid hR
    clear hR
    have q228 : decide (op ≤ 9) = false := decide_eq_false (by omega)
    have q229 : decide (op ≥ 16) = true := decide_eq_true (by omega)
    have q230 : decide (op ≤ 19) = false := decide_eq_false (by omega)
    have q231 : decide (op ≤ 11) = false := decide_eq_false (by omega)
    have q232 : (op == 23) = false := by simp; omega
    have q233 : (op == 24) = false := by simp; omega
    have q234 : decide (op ≤ 15) = false := decide_eq_false (by omega)
    have q235 : decide (op ≤ 22) = false := decide_eq_false (by omega)
    have q236 : decide (op ≤ 30) = false := decide_eq_false (by omega)
    have q237 : (op == 40) = false := by simp; omega
    have q238 : (op == 41) = false := by simp; omega
    have q239 : (op == 31) = false := by simp; omega
    have q240 : (op == 32) = false := by simp; omega
    have q241 : (op == 33) = false := by simp; omega
    have q242 : (op == 34) = false := by simp; omega
    have q243 : (op == 35) = false := by simp; omega
    have q244 : (op == 36) = false := by simp; omega
    have q245 : (op == 37) = false := by simp; omega
    have q246 : (op == 38) = false := by simp; omega
    have q247 : (op == 39) = false := by simp; omega
    have q248 : (op == 44) = false := by simp; omega
    have q249 : (op == 45) = true := by simp; omega
    clear hc
    go_wp2_with (fail)
    exact bodyPost_ret (results_tmp rfl _ _ _) rfl ⟨by rw [HR.out]; rfl, b7⟩
  rw [if_neg hc] at hR
  have HR := Lib.hid hR
  clear hR
  have q250 : decide (op ≤ 9) = false := decide_eq_false (by omega)
  have q251 : decide (op ≥ 16) = true := decide_eq_true (by omega)
  have q252 : decide (op ≤ 19) = false := decide_eq_false (by omega)
  have q253 : decide (op ≤ 11) = false := decide_eq_false (by omega)
  have q254 : (op == 23) = false := by simp; omega
  have q255 : (op == 24) = false := by simp; omega
  have q256 : decide (op ≤ 15) = false := decide_eq_false (by omega)
  have q257 : decide (op ≤ 22) = false := decide_eq_false (by omega)
  have q258 : decide (op ≤ 30) = false := decide_eq_false (by omega)
  have q259 : (op == 40) = false := by simp; omega
  have q260 : (op == 41) = false := by simp; omega
  have q261 : (op == 31) = false := by simp; omega
  have q262 : (op == 32) = false := by simp; omega
  have q263 : (op == 33) = false := by simp; omega
  have q264 : (op == 34) = false := by simp; omega
  have q265 : (op == 35) = false := by simp; omega
  have q266 : (op == 36) = false := by simp; omega
  have q267 : (op == 37) = false := by simp; omega
  have q268 : (op == 38) = false := by simp; omega
  have q269 : (op == 39) = false := by simp; omega
  have q270 : (op == 44) = false := by simp; omega
  have q271 : (op == 45) = false := by simp; omega
  go_wp2_with (fail)
  exact bodyPost_ret (results_tmp rfl _ _ _) rfl ⟨by rw [HR.out]; rfl, b7⟩
end
end Go.Proofs.YtpdkpkabdkefcaaGreatDoor
