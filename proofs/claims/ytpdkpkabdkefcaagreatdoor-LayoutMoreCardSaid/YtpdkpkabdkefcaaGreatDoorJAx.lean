/- For the seat: texts joined: LyX, RqR, RqS. -/
import Derived.Test.YtpdkpkabdkefcaaGreatDoorJAs
import Derived.Test.YtpdkpkabdkefcaaGreatDoorJAo
import Derived.Test.YtpdkpkabdkefcaaGreatDoorJAj
import Derived.Test.YtpdkpkabdkefcaaGreatDoorJAd
set_option maxRecDepth 100000
namespace Go.Proofs.YtpdkpkabdkefcaaGreatDoor
open Go.Sx Go.ChangeShapes Go.WideShapes Go.RowKit Go.Joins Go.Deep Go.Rp
section
variable {w : World} {y : Lw} {e0 e1 e2 e3 : Value}
set_option maxHeartbeats 8000000 in
theorem text3 (K : Nat → Prop) (hx : ExAt w K y.ex (.agg #[e0, e1, e2, e3])) (hK : ∀ g, K g → g < w.heap.size) (hnm : y.ex.nms = true) (_href : y.ref.length ≤ 1000000) (hsz : y.sz < 2 ^ 63) (hk : y.k = 3) :
    Calls Tryz.prog 49 #[lwV y e0 e1 e2 e3] w fun e w' => e = .returned (.string (tx (bodyX y))) ∧ Below w.heap.size w w' := by
  have hR : bodyX y = (if y.sz = 1 then [46, 98, 121, 116, 101, 32] else if y.sz = 2 then [46, 104, 119, 111, 114, 100, 32] else [46, 119, 111, 114, 100, 32]) ++ y.ex.print := by
    unfold bodyX
    rw [if_neg (by rw [hk]; decide), if_pos hk]
  generalize bodyX y = R at hR
  have HR := Lib.hid hR
  clear hR
  have HZ := Lib.hid hsz
  clear hsz
  obtain ⟨W, hW⟩ : ∃ W, Hid (W = w.alloc (.cells (lwC y e0 e1 e2 e3) 49)) := ⟨_, Lib.hid rfl⟩
  have b0 : Below w.heap.size w W := by rw [hW.out]; exact (Below.refl _ _).alloc (Nat.le_refl _) _
  have hw0 : W.heap[w.heap.size]? = some (.cells (lwC y e0 e1 e2 e3) 49 (0, 0)) := by rw [hW.out]; exact heap_alloc_new w _
  have hs0 : W.heap.size = w.heap.size + 1 := by rw [hW.out]; simp
  obtain ⟨d1, d12, d14, d15, d16, d17, d18⟩ : W.cell? ⟨w.heap.size, 1, none⟩ = some (.int .i64 y.k) ∧ W.cell? ⟨w.heap.size, 12, none⟩ = some (.string (tx y.ref)) ∧ W.cell? ⟨w.heap.size, 14, none⟩ = some (.int .i64 y.sz) ∧
      W.cell? ⟨w.heap.size, 15, none⟩ = some e0 ∧ W.cell? ⟨w.heap.size, 16, none⟩ = some e1 ∧ W.cell? ⟨w.heap.size, 17, none⟩ = some e2 ∧ W.cell? ⟨w.heap.size, 18, none⟩ = some e3 := by
    simp [World.cell?, hw0]
  have hp := print17 y.ex _ W K (hx.below b0 hK) (fun g hg => Nat.lt_of_lt_of_le (hK g hg) b0.size) hnm
  have hpl := print_len y.ex
  have k1 : (y.k == 1) = false := by rw [hk]; decide
  have k2 : (y.k == 2) = false := by rw [hk]; decide
  have k3 : (y.k == 3) = true := by rw [hk]; decide
  clear hk
  generalize y.ex.print = PX at hp hpl HR
  dsimp only [lwC] at hW
  go_enter Tryz.func49, Tryz.ntmps49
  cases z1 : (y.sz == 1)
  · cases z2 : (y.sz == 2)
    · have HR2 : Hid (R = [46, 119, 111, 114, 100, 32] ++ PX) := Lib.hid (by rw [HR.out, if_neg (ne_of_beq_false z1), if_neg (ne_of_beq_false z2)])
      clear HR
      have HR := HR2
      go_wp2_with (first | rw [← hW.out] | fail)
      ((with_reducible refine hp.mono ?_); rintro e w1 ⟨rfl, hb1⟩)
      go_wp2_with (fail)
      exact bodyPost_ret (results_tmp rfl _ _ _) rfl ⟨by rw [HR.out]; rfl, b0.trans (hb1.mono b0.size)⟩
    · have HR2 : Hid (R = [46, 104, 119, 111, 114, 100, 32] ++ PX) := Lib.hid (by rw [HR.out, if_neg (ne_of_beq_false z1), if_pos (eq_of_beq z2)])
      clear HR
      have HR := HR2
      go_wp2_with (first | rw [← hW.out] | fail)
      ((with_reducible refine hp.mono ?_); rintro e w1 ⟨rfl, hb1⟩)
      go_wp2_with (fail)
      exact bodyPost_ret (results_tmp rfl _ _ _) rfl ⟨by rw [HR.out]; rfl, b0.trans (hb1.mono b0.size)⟩
  · have z2 : (y.sz == 2) = false := by rw [eq_of_beq z1]; decide
    have HR2 : Hid (R = [46, 98, 121, 116, 101, 32] ++ PX) := Lib.hid (by rw [HR.out, if_pos (eq_of_beq z1)])
    clear HR
    have HR := HR2
    go_wp2_with (first | rw [← hW.out] | fail)
    ((with_reducible refine hp.mono ?_); rintro e w1 ⟨rfl, hb1⟩)
    go_wp2_with (fail)
    exact bodyPost_ret (results_tmp rfl _ _ _) rfl ⟨by rw [HR.out]; rfl, b0.trans (hb1.mono b0.size)⟩
set_option maxHeartbeats 8000000 in
theorem text4 (K : Nat → Prop) (hx : ExAt w K y.ex (.agg #[e0, e1, e2, e3])) (hK : ∀ g, K g → g < w.heap.size) (hnm : y.ex.nms = true) (_href : y.ref.length ≤ 1000000) (hsz : y.sz < 2 ^ 63) (hk : y.k = 4) :
    Calls Tryz.prog 49 #[lwV y e0 e1 e2 e3] w fun e w' => e = .returned (.string (tx (bodyX y))) ∧ Below w.heap.size w w' := by
  have hR : bodyX y = [46, 97, 108, 105, 103, 110, 32] ++ digsN (logF 64 y.sz).toNat := by
    unfold bodyX
    rw [if_neg (by rw [hk]; decide), if_neg (by rw [hk]; decide), if_pos hk]
  generalize bodyX y = R at hR
  have HR := Lib.hid hR
  clear hR
  have HZ := Lib.hid hsz
  clear hsz
  obtain ⟨W, hW⟩ : ∃ W, Hid (W = w.alloc (.cells (lwC y e0 e1 e2 e3) 49)) := ⟨_, Lib.hid rfl⟩
  have b0 : Below w.heap.size w W := by rw [hW.out]; exact (Below.refl _ _).alloc (Nat.le_refl _) _
  have hw0 : W.heap[w.heap.size]? = some (.cells (lwC y e0 e1 e2 e3) 49 (0, 0)) := by rw [hW.out]; exact heap_alloc_new w _
  have hs0 : W.heap.size = w.heap.size + 1 := by rw [hW.out]; simp
  obtain ⟨d1, d12, d14, d15, d16, d17, d18⟩ : W.cell? ⟨w.heap.size, 1, none⟩ = some (.int .i64 y.k) ∧ W.cell? ⟨w.heap.size, 12, none⟩ = some (.string (tx y.ref)) ∧ W.cell? ⟨w.heap.size, 14, none⟩ = some (.int .i64 y.sz) ∧
      W.cell? ⟨w.heap.size, 15, none⟩ = some e0 ∧ W.cell? ⟨w.heap.size, 16, none⟩ = some e1 ∧ W.cell? ⟨w.heap.size, 17, none⟩ = some e2 ∧ W.cell? ⟨w.heap.size, 18, none⟩ = some e3 := by
    simp [World.cell?, hw0]
  have hp := print17 y.ex _ W K (hx.below b0 hK) (fun g hg => Nat.lt_of_lt_of_le (hK g hg) b0.size) hnm
  have hpl := print_len y.ex
  have k1 : (y.k == 1) = false := by rw [hk]; decide
  have k2 : (y.k == 2) = false := by rw [hk]; decide
  have k3 : (y.k == 3) = false := by rw [hk]; decide
  have k4 : (y.k == 4) = true := by rw [hk]; decide
  clear hk hp hpl
  have hb := logF_bound 64 y.sz
  have hg := log19 y.sz HZ.out
  have hdl := digsN_len (n := (logF 64 y.sz).toNat) (by omega)
  have hdg := digits16 (logF 64 y.sz).toNat (by omega)
  rw [Int.toNat_of_nonneg hb.1] at hdg
  generalize digsN (logF 64 y.sz).toNat = D at hdg hdl HR
  generalize logF 64 y.sz = l at hg hdg hb
  dsimp only [lwC] at hW
  go_enter Tryz.func49, Tryz.ntmps49
  go_wp2_with (first | rw [← hW.out] | fail)
  ((with_reducible refine (hg _).mono ?_); rintro e w1 ⟨rfl, hw1⟩); rw [hw1]; clear hw1 w1
  go_wp2_with (fail)
  ((with_reducible refine (hdg _).mono ?_); rintro e w1 ⟨rfl, hw1⟩); rw [hw1]; clear hw1 w1
  go_wp2_with (fail)
  exact bodyPost_ret (results_tmp rfl _ _ _) rfl ⟨by rw [HR.out]; rfl, b0⟩
set_option maxHeartbeats 8000000 in
theorem text5 (K : Nat → Prop) (hx : ExAt w K y.ex (.agg #[e0, e1, e2, e3])) (hK : ∀ g, K g → g < w.heap.size) (hnm : y.ex.nms = true) (_href : y.ref.length ≤ 1000000) (hsz : y.sz < 2 ^ 63) (hk : y.k = 5) :
    Calls Tryz.prog 49 #[lwV y e0 e1 e2 e3] w fun e w' => e = .returned (.string (tx (bodyX y))) ∧ Below w.heap.size w w' := by
  have hR : bodyX y = [46, 108, 116, 111, 114, 103] := by
    unfold bodyX
    rw [if_neg (by rw [hk]; decide), if_neg (by rw [hk]; decide), if_neg (by rw [hk]; decide), if_pos hk]
  generalize bodyX y = R at hR
  have HR := Lib.hid hR
  clear hR
  have HZ := Lib.hid hsz
  clear hsz
  obtain ⟨W, hW⟩ : ∃ W, Hid (W = w.alloc (.cells (lwC y e0 e1 e2 e3) 49)) := ⟨_, Lib.hid rfl⟩
  have b0 : Below w.heap.size w W := by rw [hW.out]; exact (Below.refl _ _).alloc (Nat.le_refl _) _
  have hw0 : W.heap[w.heap.size]? = some (.cells (lwC y e0 e1 e2 e3) 49 (0, 0)) := by rw [hW.out]; exact heap_alloc_new w _
  have hs0 : W.heap.size = w.heap.size + 1 := by rw [hW.out]; simp
  obtain ⟨d1, d12, d14, d15, d16, d17, d18⟩ : W.cell? ⟨w.heap.size, 1, none⟩ = some (.int .i64 y.k) ∧ W.cell? ⟨w.heap.size, 12, none⟩ = some (.string (tx y.ref)) ∧ W.cell? ⟨w.heap.size, 14, none⟩ = some (.int .i64 y.sz) ∧
      W.cell? ⟨w.heap.size, 15, none⟩ = some e0 ∧ W.cell? ⟨w.heap.size, 16, none⟩ = some e1 ∧ W.cell? ⟨w.heap.size, 17, none⟩ = some e2 ∧ W.cell? ⟨w.heap.size, 18, none⟩ = some e3 := by
    simp [World.cell?, hw0]
  have hp := print17 y.ex _ W K (hx.below b0 hK) (fun g hg => Nat.lt_of_lt_of_le (hK g hg) b0.size) hnm
  have hpl := print_len y.ex
  have k1 : (y.k == 1) = false := by rw [hk]; decide
  have k2 : (y.k == 2) = false := by rw [hk]; decide
  have k3 : (y.k == 3) = false := by rw [hk]; decide
  have k4 : (y.k == 4) = false := by rw [hk]; decide
  have k5 : (y.k == 5) = true := by rw [hk]; decide
  clear hk hp hpl
  dsimp only [lwC] at hW
  go_enter Tryz.func49, Tryz.ntmps49
  go_wp2_with (first | rw [← hW.out] | fail)
  exact bodyPost_ret (results_tmp rfl _ _ _) rfl ⟨by rw [HR.out]; rfl, b0⟩
set_option maxHeartbeats 8000000 in
theorem text6 (K : Nat → Prop) (hx : ExAt w K y.ex (.agg #[e0, e1, e2, e3])) (hK : ∀ g, K g → g < w.heap.size) (hnm : y.ex.nms = true) (href : y.ref.length ≤ 1000000) (hsz : y.sz < 2 ^ 63) (hk : y.k = 6) :
    Calls Tryz.prog 49 #[lwV y e0 e1 e2 e3] w fun e w' => e = .returned (.string (tx (bodyX y))) ∧ Below w.heap.size w w' := by
  have hR : bodyX y = [46, 101, 113, 117, 32] ++ y.ref ++ [44, 32] ++ y.ex.print := by
    unfold bodyX
    rw [if_neg (by rw [hk]; decide), if_neg (by rw [hk]; decide), if_neg (by rw [hk]; decide), if_neg (by rw [hk]; decide), if_pos hk]
  generalize bodyX y = R at hR
  have HR := Lib.hid hR
  clear hR
  have HZ := Lib.hid hsz
  clear hsz
  obtain ⟨W, hW⟩ : ∃ W, Hid (W = w.alloc (.cells (lwC y e0 e1 e2 e3) 49)) := ⟨_, Lib.hid rfl⟩
  have b0 : Below w.heap.size w W := by rw [hW.out]; exact (Below.refl _ _).alloc (Nat.le_refl _) _
  have hw0 : W.heap[w.heap.size]? = some (.cells (lwC y e0 e1 e2 e3) 49 (0, 0)) := by rw [hW.out]; exact heap_alloc_new w _
  have hs0 : W.heap.size = w.heap.size + 1 := by rw [hW.out]; simp
  obtain ⟨d1, d12, d14, d15, d16, d17, d18⟩ : W.cell? ⟨w.heap.size, 1, none⟩ = some (.int .i64 y.k) ∧ W.cell? ⟨w.heap.size, 12, none⟩ = some (.string (tx y.ref)) ∧ W.cell? ⟨w.heap.size, 14, none⟩ = some (.int .i64 y.sz) ∧
      W.cell? ⟨w.heap.size, 15, none⟩ = some e0 ∧ W.cell? ⟨w.heap.size, 16, none⟩ = some e1 ∧ W.cell? ⟨w.heap.size, 17, none⟩ = some e2 ∧ W.cell? ⟨w.heap.size, 18, none⟩ = some e3 := by
    simp [World.cell?, hw0]
  have hp := print17 y.ex _ W K (hx.below b0 hK) (fun g hg => Nat.lt_of_lt_of_le (hK g hg) b0.size) hnm
  have hpl := print_len y.ex
  have k1 : (y.k == 1) = false := by rw [hk]; decide
  have k2 : (y.k == 2) = false := by rw [hk]; decide
  have k3 : (y.k == 3) = false := by rw [hk]; decide
  have k4 : (y.k == 4) = false := by rw [hk]; decide
  have k5 : (y.k == 5) = false := by rw [hk]; decide
  have k6 : (y.k == 6) = true := by rw [hk]; decide
  clear hk
  generalize hPX : y.ex.print = PX at hp hpl HR
  have hrl : y.ref.length ≤ 1000000 := href
  have hpr : ∀ w', Below W.heap.size W w' → Calls Tryz.prog 72 #[.agg #[e0, e1, e2, e3]] w' fun e w'' => e = .returned (.string (tx PX)) ∧ Below w'.heap.size w' w'' := by
    intro w' hb
    have h := print17 y.ex _ w' K (hx.below (b0.trans (hb.mono b0.size)) hK) (fun g hg => Nat.lt_of_lt_of_le (hK g hg) (b0.trans (hb.mono b0.size)).size) hnm
    rw [hPX] at h
    exact h
  have r1 : ∀ w' : World, (Op.stringOp .add ⟨#[46, 101, 113, 117, 32]⟩ (tx y.ref)).run Tryz.prog w' = .ok (.string (tx ([46, 101, 113, 117, 32] ++ y.ref))) w' := fun w' => by
    have h := run_string_add_sum (P := Tryz.prog) w' (tx [46, 101, 113, 117, 32]) (tx y.ref) (by show 5 + y.ref.length ≤ _; omega)
    rw [tx_app] at h
    exact h
  have r2 : ∀ w' : World, (Op.stringOp .add (tx ([46, 101, 113, 117, 32] ++ y.ref)) ⟨#[44, 32]⟩).run Tryz.prog w' = .ok (.string (tx ([46, 101, 113, 117, 32] ++ y.ref ++ [44, 32]))) w' := fun w' => by
    have h := run_string_add_sum (P := Tryz.prog) w' (tx ([46, 101, 113, 117, 32] ++ y.ref)) (tx [44, 32]) (by show ([46, 101, 113, 117, 32] ++ y.ref).length + 2 ≤ _; simp only [List.length_append, List.length_cons, List.length_nil]; omega)
    rw [tx_app] at h
    exact h
  have r3 : ∀ w' : World, (Op.stringOp .add (tx ([46, 101, 113, 117, 32] ++ y.ref ++ [44, 32])) (tx PX)).run Tryz.prog w' = .ok (.string (tx ([46, 101, 113, 117, 32] ++ y.ref ++ [44, 32] ++ PX))) w' := fun w' => by
    have h := run_string_add_sum (P := Tryz.prog) w' (tx ([46, 101, 113, 117, 32] ++ y.ref ++ [44, 32])) (tx PX) (by show ([46, 101, 113, 117, 32] ++ y.ref ++ [44, 32]).length + PX.length ≤ _; simp only [List.length_append, List.length_cons, List.length_nil]; omega)
    rw [tx_app] at h
    exact h
  have hRR : R = [46, 101, 113, 117, 32] ++ y.ref ++ [44, 32] ++ PX := HR.out
  subst hRR
  clear HR hp
  generalize tx ([46, 101, 113, 117, 32] ++ y.ref ++ [44, 32] ++ PX) = q3 at r3 ⊢
  generalize tx ([46, 101, 113, 117, 32] ++ y.ref ++ [44, 32]) = q2 at r2 r3
  generalize tx ([46, 101, 113, 117, 32] ++ y.ref) = q1 at r1 r2
  generalize tx PX = q0 at r3 hpr
  dsimp only [lwC] at hW
  go_enter Tryz.func49, Tryz.ntmps49
  go_wp2_with (first | rw [← hW.out] | fail)
  have kS : ∀ w', Below W.heap.size W w' → w'.cell? ⟨w.heap.size, 12, none⟩ = some (.string (tx y.ref)) ∧ w'.cell? ⟨w.heap.size, 15, none⟩ = some e0 ∧ w'.cell? ⟨w.heap.size, 16, none⟩ = some e1 ∧ w'.cell? ⟨w.heap.size, 17, none⟩ = some e2 ∧ w'.cell? ⟨w.heap.size, 18, none⟩ = some e3 := fun w' hb => by
    have h := (hb.block w.heap.size (by omega)).trans hw0
    simp [World.cell?, h]
  have kS0 := kS W (Below.refl _ _)
  have kS1 := kS W.drew (Below.refl _ _).drew
  have J1 : ∀ w5, Below W.drew.heap.size W.drew w5 → Below W.heap.size W w5 := fun w5 hb5 => (Below.refl W.heap.size W).drew.trans hb5
  clear d1 d12 d14 d15 d16 d17 d18 hw0
  go_region_held3 (fun w' => w'.cell? ⟨w.heap.size, 12, none⟩ = some (.string (tx y.ref)) ∧ w'.cell? ⟨w.heap.size, 15, none⟩ = some e0 ∧ w'.cell? ⟨w.heap.size, 16, none⟩ = some e1 ∧ w'.cell? ⟨w.heap.size, 17, none⟩ = some e2 ∧ w'.cell? ⟨w.heap.size, 18, none⟩ = some e3)
    (first
      | (with_reducible exact kS _ B1)
      | (with_reducible exact kS0)
      | (with_reducible exact kS1)
      | go_keep)
    (first
      | (go_at_call 72; with_reducible refine (hpr W.drew (Below.refl _ _).drew).mono ?_; rintro e w5 ⟨rfl, hb5⟩; have B1 := J1 _ hb5))
  go_wp2_with (fail)
  exact bodyPost_ret (results_tmp rfl _ _ _) rfl ⟨rfl, b0.trans (B1.mono b0.size)⟩
set_option maxHeartbeats 8000000 in
theorem text7 (K : Nat → Prop) (hx : ExAt w K y.ex (.agg #[e0, e1, e2, e3])) (hK : ∀ g, K g → g < w.heap.size) (hnm : y.ex.nms = true) (_href : y.ref.length ≤ 1000000) (hsz : y.sz < 2 ^ 63) (hk : y.k = 7) :
    Calls Tryz.prog 49 #[lwV y e0 e1 e2 e3] w fun e w' => e = .returned (.string (tx (bodyX y))) ∧ Below w.heap.size w w' := by
  have hR : bodyX y = [46, 115, 112, 97, 99, 101, 32] ++ digsN y.sz.toNat := by
    unfold bodyX
    rw [if_neg (by rw [hk]; decide), if_neg (by rw [hk]; decide), if_neg (by rw [hk]; decide), if_neg (by rw [hk]; decide), if_neg (by rw [hk]; decide), if_pos hk]
  generalize bodyX y = R at hR
  have HR := Lib.hid hR
  clear hR
  have HZ := Lib.hid hsz
  clear hsz
  obtain ⟨W, hW⟩ : ∃ W, Hid (W = w.alloc (.cells (lwC y e0 e1 e2 e3) 49)) := ⟨_, Lib.hid rfl⟩
  have b0 : Below w.heap.size w W := by rw [hW.out]; exact (Below.refl _ _).alloc (Nat.le_refl _) _
  have hw0 : W.heap[w.heap.size]? = some (.cells (lwC y e0 e1 e2 e3) 49 (0, 0)) := by rw [hW.out]; exact heap_alloc_new w _
  have hs0 : W.heap.size = w.heap.size + 1 := by rw [hW.out]; simp
  obtain ⟨d1, d12, d14, d15, d16, d17, d18⟩ : W.cell? ⟨w.heap.size, 1, none⟩ = some (.int .i64 y.k) ∧ W.cell? ⟨w.heap.size, 12, none⟩ = some (.string (tx y.ref)) ∧ W.cell? ⟨w.heap.size, 14, none⟩ = some (.int .i64 y.sz) ∧
      W.cell? ⟨w.heap.size, 15, none⟩ = some e0 ∧ W.cell? ⟨w.heap.size, 16, none⟩ = some e1 ∧ W.cell? ⟨w.heap.size, 17, none⟩ = some e2 ∧ W.cell? ⟨w.heap.size, 18, none⟩ = some e3 := by
    simp [World.cell?, hw0]
  have hp := print17 y.ex _ W K (hx.below b0 hK) (fun g hg => Nat.lt_of_lt_of_le (hK g hg) b0.size) hnm
  have hpl := print_len y.ex
  have k1 : (y.k == 1) = false := by rw [hk]; decide
  have k2 : (y.k == 2) = false := by rw [hk]; decide
  have k3 : (y.k == 3) = false := by rw [hk]; decide
  have k4 : (y.k == 4) = false := by rw [hk]; decide
  have k5 : (y.k == 5) = false := by rw [hk]; decide
  have k6 : (y.k == 6) = false := by rw [hk]; decide
  have k7 : (y.k == 7) = true := by rw [hk]; decide
  clear hk hp hpl
  have hdl := digsN_len (n := y.sz.toNat) (by have := HZ.out; omega)
  have hdg := digits16 y.sz.toNat (by have := HZ.out; omega)
  have hmx : ((y.sz.toNat : Nat) : Int) = max y.sz 0 := by omega
  rw [hmx] at hdg
  clear hmx
  generalize digsN y.sz.toNat = D at hdg hdl HR
  dsimp only [lwC] at hW
  go_enter Tryz.func49, Tryz.ntmps49
  go_wp2_with (first | rw [← hW.out] | fail)
  all_goals
    first | rw [show max y.sz 0 = 0 by omega] at hdg | rw [show max y.sz 0 = y.sz by omega] at hdg
    ((with_reducible refine (hdg _).mono ?_); rintro e w1 ⟨rfl, hw1⟩); rw [hw1]; clear hw1 w1
    go_wp2_with (fail)
    exact bodyPost_ret (results_tmp rfl _ _ _) rfl ⟨by rw [HR.out]; rfl, b0⟩
set_option maxHeartbeats 8000000 in
theorem text0 (K : Nat → Prop) (hx : ExAt w K y.ex (.agg #[e0, e1, e2, e3])) (hK : ∀ g, K g → g < w.heap.size) (hnm : y.ex.nms = true) (_href : y.ref.length ≤ 1000000) (hsz : y.sz < 2 ^ 63) (hk : y.k ≠ 1 ∧ y.k ≠ 2 ∧ y.k ≠ 3 ∧ y.k ≠ 4 ∧ y.k ≠ 5 ∧ y.k ≠ 6 ∧ y.k ≠ 7) :
    Calls Tryz.prog 49 #[lwV y e0 e1 e2 e3] w fun e w' => e = .returned (.string (tx (bodyX y))) ∧ Below w.heap.size w w' := by
  have hR : bodyX y = [] := by
    unfold bodyX
    rw [if_neg (by omega), if_neg (by omega), if_neg (by omega), if_neg (by omega), if_neg (by omega), if_neg (by omega)]
  generalize bodyX y = R at hR
  have HR := Lib.hid hR
  clear hR
  have HZ := Lib.hid hsz
  clear hsz
  obtain ⟨W, hW⟩ : ∃ W, Hid (W = w.alloc (.cells (lwC y e0 e1 e2 e3) 49)) := ⟨_, Lib.hid rfl⟩
  have b0 : Below w.heap.size w W := by rw [hW.out]; exact (Below.refl _ _).alloc (Nat.le_refl _) _
  have hw0 : W.heap[w.heap.size]? = some (.cells (lwC y e0 e1 e2 e3) 49 (0, 0)) := by rw [hW.out]; exact heap_alloc_new w _
  have hs0 : W.heap.size = w.heap.size + 1 := by rw [hW.out]; simp
  obtain ⟨d1, d12, d14, d15, d16, d17, d18⟩ : W.cell? ⟨w.heap.size, 1, none⟩ = some (.int .i64 y.k) ∧ W.cell? ⟨w.heap.size, 12, none⟩ = some (.string (tx y.ref)) ∧ W.cell? ⟨w.heap.size, 14, none⟩ = some (.int .i64 y.sz) ∧
      W.cell? ⟨w.heap.size, 15, none⟩ = some e0 ∧ W.cell? ⟨w.heap.size, 16, none⟩ = some e1 ∧ W.cell? ⟨w.heap.size, 17, none⟩ = some e2 ∧ W.cell? ⟨w.heap.size, 18, none⟩ = some e3 := by
    simp [World.cell?, hw0]
  have hp := print17 y.ex _ W K (hx.below b0 hK) (fun g hg => Nat.lt_of_lt_of_le (hK g hg) b0.size) hnm
  have hpl := print_len y.ex
  have k1 : (y.k == 1) = false := by simp; omega
  have k2 : (y.k == 2) = false := by simp; omega
  have k3 : (y.k == 3) = false := by simp; omega
  have k4 : (y.k == 4) = false := by simp; omega
  have k5 : (y.k == 5) = false := by simp; omega
  have k6 : (y.k == 6) = false := by simp; omega
  have k7 : (y.k == 7) = false := by simp; omega
  clear hk hp hpl
  dsimp only [lwC] at hW
  go_enter Tryz.func49, Tryz.ntmps49
  go_wp2_with (first | rw [← hW.out] | fail)
  exact bodyPost_ret (results_tmp rfl _ _ _) rfl ⟨by rw [HR.out]; rfl, b0⟩
end
end Go.Proofs.YtpdkpkabdkefcaaGreatDoor
namespace Go.Proofs.YtpdkpkabdkefcaaGreatDoor
open Go.Sx Go.ChangeShapes Go.WideShapes Go.RowKit Go.Joins Go.Deep Go.Rp
section
variable {w : World} {y : Lw} {e0 e1 e2 e3 : Value}
set_option maxHeartbeats 8000000 in
theorem text12 (K : Nat → Prop) (hx : ExAt w K y.ex (.agg #[e0, e1, e2, e3])) (hK : ∀ g, K g → g < w.heap.size) (hnm : y.ex.nms = true) (href : y.ref.length ≤ 1000000) (hk : y.k = 1 ∨ y.k = 2) :
    Calls Tryz.prog 49 #[lwV y e0 e1 e2 e3] w fun e w' => e = .returned (.string (tx (bodyX y))) ∧ Below w.heap.size w w' := by
  have hR : bodyX y = printX { y with lab := [] } := by
    unfold bodyX
    rw [if_pos hk]
  generalize hRR : bodyX y = R at hR
  obtain ⟨o, k, s', A', n, c', hC⟩ := hx.cells
  obtain ⟨rfl, rfl, rfl, rfl⟩ := agg4 hC
  clear hC hRR
  obtain ⟨W, hW⟩ : ∃ W, Hid (W = w.alloc (.cells (lwC y (.int .i64 o) (.int .i64 k) (.string (tx s')) (.slice A' n c')) 49)) := ⟨_, Lib.hid rfl⟩
  have b0 : Below w.heap.size w W := by rw [hW.out]; exact (Below.refl _ _).alloc (Nat.le_refl _) _
  have hw0 : W.heap[w.heap.size]? = some (.cells (lwC y (.int .i64 o) (.int .i64 k) (.string (tx s')) (.slice A' n c')) 49 (0, 0)) := by rw [hW.out]; exact heap_alloc_new w _
  have hs0 : W.heap.size = w.heap.size + 1 := by rw [hW.out]; simp
  have d1 : W.cell? ⟨w.heap.size, 1, none⟩ = some (.int .i64 y.k) := by simp [World.cell?, hw0]
  have hn4 := heap_alloc_new W (.cells lwZ 49)
  rw [hs0] at hn4
  have hth := there_of hn4
  obtain ⟨V, hV⟩ : ∃ V, Hid (V = ((W.alloc (.cells lwZ 49)).setCells (w.heap.size + 1) 0 (lwC y (.int .i64 o) (.int .i64 k) (.string (tx s')) (.slice A' n c')).toList)) := ⟨_, Lib.hid rfl⟩
  have b1 : Below W.heap.size W V := by rw [hV.out]; exact below_setCells ((Below.refl _ _).alloc (Nat.le_refl _) _) (by omega) _
  have h1 : V.heap[w.heap.size + 1]? = some (.cells (lwC y (.int .i64 o) (.int .i64 k) (.string (tx s')) (.slice A' n c')) 49 (0, 0)) := by rw [hV.out]; exact setCells_all hn4 (lwC y (.int .i64 o) (.int .i64 k) (.string (tx s')) (.slice A' n c')).toList rfl
  have q0 : V.cell? ⟨w.heap.size + 1, 0, none⟩ = some (.string (tx y.lab)) := by simp [World.cell?, h1]
  have qz : V.frozen? ⟨w.heap.size + 1, 0, none⟩ = false := by simp [World.frozen?, h1]
  obtain ⟨X, hX⟩ : ∃ X, Hid (X = V.setCell ⟨w.heap.size + 1, 0, none⟩ (.string (tx []))) := ⟨_, Lib.hid rfl⟩
  have hlX : X.heap[w.heap.size + 1]? = some (.cells (lwC { y with lab := [] } (.int .i64 o) (.int .i64 k) (.string (tx s')) (.slice A' n c')) 49 (0, 0)) := by rw [hX.out]; exact setCell_at h1 _
  have bV : Below w.heap.size w V := b0.trans (b1.mono b0.size)
  have bX : Below w.heap.size w X := by rw [hX.out]; exact bV.setCell (by show w.heap.size ≤ w.heap.size + 1; omega) _
  have hp := print18 (w := X) (y := { y with lab := [] }) K (hx.below bX hK) (fun g hg => Nat.lt_of_lt_of_le (hK g hg) bX.size) hnm href
  rw [← hR] at hp
  clear hR hn4 h1 b1
  dsimp only [lwV, lwC] at hp hW hw0 hlX ⊢
  have kk : (y.k == 1) = true ∨ (y.k == 1) = false ∧ (y.k == 2) = true := by
    rcases hk with h | h
    · left; simpa using h
    · right; rw [h]; decide
  clear hk
  go_enter Tryz.func49, Tryz.ntmps49
  rcases kk with k1 | ⟨k1, k2⟩
  all_goals
    go_wp2_with (first
      | rw [← hW.out]
      | rw [← hX.out]
      | (refine wpList_load_blk rfl 49 (.tmp 1) rfl w.heap.size (by rfl) _ hw0 _ Tryz.underlying49 rfl (by kernel_rfl) ?_)
      | (refine wpList_allocW rfl (.cells lwZ 49) (w.heap.size + 1) hs0 (alloc_line _ _ _ _ _ _) ?_; refine wpList_store_mid rfl 49 (.tmp 3) (.tmp 10) rfl (w.heap.size + 1) 0 (lwC y (.int .i64 o) (.int .i64 k) (.string (tx s')) (.slice A' n c')) (by rfl) (by rfl) hth (by kernel_rfl) (lwC_one _ _ _ _ _ _ _) ?_; rw [← hV.out])
      | (refine wpList_load_blk rfl 49 (.tmp 3) rfl (w.heap.size + 1) (by rfl) _ hlX _ Tryz.underlying49 rfl (by kernel_rfl) ?_)
      | fail)
    ((with_reducible refine hp.mono ?_); rintro e w1 ⟨rfl, hb1⟩)
    go_wp2_with (fail)
    exact bodyPost_ret (results_tmp rfl _ _ _) rfl ⟨rfl, bX.trans (hb1.mono bX.size)⟩
theorem text19 (K : Nat → Prop) (hx : ExAt w K y.ex (.agg #[e0, e1, e2, e3])) (hK : ∀ g, K g → g < w.heap.size) (hnm : y.ex.nms = true) (href : y.ref.length ≤ 1000000) (hsz : y.sz < 2 ^ 63) :
    Calls Tryz.prog 49 #[lwV y e0 e1 e2 e3] w fun e w' => e = .returned (.string (tx (bodyX y))) ∧ Below w.heap.size w w' := by
  by_cases h12 : y.k = 1 ∨ y.k = 2
  · exact text12 K hx hK hnm href h12
  by_cases h3 : y.k = 3
  · exact text3 K hx hK hnm href hsz h3
  by_cases h4 : y.k = 4
  · exact text4 K hx hK hnm href hsz h4
  by_cases h5 : y.k = 5
  · exact text5 K hx hK hnm href hsz h5
  by_cases h6 : y.k = 6
  · exact text6 K hx hK hnm href hsz h6
  by_cases h7 : y.k = 7
  · exact text7 K hx hK hnm href hsz h7
  · exact text0 K hx hK hnm href hsz ⟨fun h => h12 (.inl h), fun h => h12 (.inr h), h3, h4, h5, h6, h7⟩
end
end Go.Proofs.YtpdkpkabdkefcaaGreatDoor
