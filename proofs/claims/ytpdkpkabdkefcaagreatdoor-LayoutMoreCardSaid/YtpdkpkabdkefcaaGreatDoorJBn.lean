/- For the seat: texts joined: IsN, LzF, LzE, LzG, LzH. -/
import Derived.Test.YtpdkpkabdkefcaaGreatDoorJBi
import Derived.Test.YtpdkpkabdkefcaaGreatDoorJBj
import Derived.Test.YtpdkpkabdkefcaaGreatDoorJBk
import Derived.Test.YtpdkpkabdkefcaaGreatDoorJBl
import Derived.Test.YtpdkpkabdkefcaaGreatDoorJAn
import Derived.WalkMore
import Derived.Test.YtpdkpkabdkefcaaGreatDoorJBm
import Derived.Test.YtpdkpkabdkefcaaGreatDoorJBf
import Derived.Test.YtpdkpkabdkefcaaGreatDoorJAj
import Derived.Test.YtpdkpkabdkefcaaGreatDoorJBc
set_option maxRecDepth 100000
namespace Go.Proofs.YtpdkpkabdkefcaaGreatDoor
open Go.Sx Go.ChangeShapes Go.WideShapes Go.RowKit Go.Joins Go.Deep Go.Rp
set_option maxHeartbeats 4000000 in
theorem forms_n (x : Lk) (him : -2 ^ 63 ≤ x.im ∧ x.im < 2 ^ 63) (it : Bool) (w : World) (hw : Laid w) : Calls Tryz.prog 83 #[.agg (inC x), .bool it] w fun e w' => FmRet (x.frmB it) e w' ∧ Below w.heap.size w w' := by
  obtain ⟨W, hW⟩ : ∃ W, Hid (W = w.alloc (.cells (inC x) 44)) := ⟨_, Lib.hid rfl⟩
  have hz : W.heap[w.heap.size]? = some (.cells (inC x) 44 (0, 0)) := by rw [hW.out]; exact heap_alloc_new w _
  have bd : Below w.heap.size w W := by rw [hW.out]; exact bal (Below.refl _ _) _
  obtain ⟨r0, r1, r2, r3, r4, r5, r6, r7, r8⟩ := in_cells hz
  have hwl := laid_lw hw bd
  have hR : x.frmB it = if x.op ≤ 19 then (if x.md = 2 then x.datB it else x.numB it) else if 25 ≤ x.op ∧ x.op ≤ 30 then x.loaB else [x.resB it] := rfl
  generalize x.frmB it = R at hR
  have p1 := data_n x it W
  have p2 := nums_n x it W
  have p3 := fun h => load_n x h him W
  have p4 := rest_n x it W hwl
  clear hwl hw him hz
  have fin : ∀ W', Below W.heap.size W W' → Below w.heap.size w W' := fun W' h => bd.trans (h.mono bd.size)
  unfold FmRet at p1 p2 p3
  have HF := Lib.hid fin
  clear fin
  cases a1 : decide (x.op ≤ 19)
  rotate_left
  · rw [if_pos (of_decide_eq_true a1)] at hR
    cases a2 : (x.md == 2)
    · rw [if_neg (ne_of_beq_false a2)] at hR
      subst hR
      go_enter Tryz.func83, Tryz.ntmps83
      go_wp2_with (first | rw [← hW.out] | fail)
      ((with_reducible refine p2.mono ?_); rintro e w7 ⟨⟨A, cap, F, rfl, h1, h2⟩, hb⟩)
      go_wp2_with (fail)
      exact bodyPost_ret (results_tmp rfl _ _ _) rfl ⟨⟨A, cap, F, rfl, h1, h2⟩, HF.out _ hb⟩
    · rw [if_pos (eq_of_beq a2)] at hR
      subst hR
      go_enter Tryz.func83, Tryz.ntmps83
      go_wp2_with (first | rw [← hW.out] | fail)
      ((with_reducible refine p1.mono ?_); rintro e w7 ⟨⟨A, cap, F, rfl, h1, h2⟩, hb⟩)
      go_wp2_with (fail)
      exact bodyPost_ret (results_tmp rfl _ _ _) rfl ⟨⟨A, cap, F, rfl, h1, h2⟩, HF.out _ hb⟩
  rw [if_neg (of_decide_eq_false a1)] at hR
  by_cases h : 25 ≤ x.op ∧ x.op ≤ 30
  · rw [if_pos h] at hR
    subst hR
    have p5 := p3 h
    have a2 : decide (25 ≤ x.op) = true := decide_eq_true h.1
    have a3 : decide (x.op ≤ 30) = true := decide_eq_true h.2
    clear p3 h
    go_enter Tryz.func83, Tryz.ntmps83
    go_wp2_with (first | rw [← hW.out] | fail)
    ((with_reducible refine p5.mono ?_); rintro e w7 ⟨⟨A, cap, F, rfl, h1, h2⟩, hb⟩)
    go_wp2_with (fail)
    exact bodyPost_ret (results_tmp rfl _ _ _) rfl ⟨⟨A, cap, F, rfl, h1, h2⟩, HF.out _ hb⟩
  · rw [if_neg h] at hR
    subst hR
    have key : decide (25 ≤ x.op) = false ∨ decide (25 ≤ x.op) = true ∧ decide (x.op ≤ 30) = false := by
      rcases Int.lt_or_le x.op 25 with h1 | h1
      · exact .inl (decide_eq_false (by omega))
      · exact .inr ⟨decide_eq_true h1, decide_eq_false (by omega)⟩
    clear p3 h
    rcases key with a2 | ⟨a2, a3⟩
    all_goals
      go_enter Tryz.func83, Tryz.ntmps83
      go_wp2_with (first | rw [← hW.out] | fail)
      ((with_reducible refine p4.mono ?_); rintro e w7 ⟨⟨r, rfl⟩, hb⟩)
      go_wp2_with (fail)
      exact bodyPost_ret (results_tmp rfl _ _ _) rfl ⟨fm_end1 _ _ _ (by first | rfl | simp), HF.out _ (bal hb _)⟩
theorem frm_len (x : Lk) (it : Bool) : (x.frmB it).length ≤ 3 := by
  unfold Lk.frmB Lk.datB Lk.numB Lk.loaB
  repeat' split
  all_goals simp
set_option maxHeartbeats 4000000 in
theorem encode_n (x : Lk) (hx : x.ok = true) (hl : -2 ^ 63 ≤ x.ls ∧ x.ls < 2 ^ 63) (him : -2 ^ 63 ≤ x.im ∧ x.im < 2 ^ 63) (it : Bool) (w : World) (hw : Laid w) : Calls Tryz.prog 53 #[.agg (inC x), .bool it] w fun e w' => (∃ h : Int, e = .returned (.tuple #[.int .i64 h, .bool (x.canB it)])) ∧ Below w.heap.size w w' := by
  obtain ⟨W, hW⟩ : ∃ W, Hid (W = w.alloc (.cells (inC x) 44)) := ⟨_, Lib.hid rfl⟩
  have hz : W.heap[w.heap.size]? = some (.cells (inC x) 44 (0, 0)) := by rw [hW.out]; exact heap_alloc_new w _
  have bd : Below w.heap.size w W := by rw [hW.out]; exact bal (Below.refl _ _) _
  obtain ⟨r0, r1, r2, r3, r4, r5, r6, r7, r8⟩ := in_cells hz
  have hlt : w.heap.size < W.heap.size := (Array.getElem?_eq_some_iff.1 hz).1
  have hwl := laid_lw hw bd
  have hR : x.canB it = (x.chkB && (x.frmB it).any id) := rfl
  generalize x.canB it = R at hR
  have p1 := check_05 x hx hl W
  have p2 := fun W' (hb : Below W.heap.size W W') => forms_n x him it W' (laid_lw hwl hb)
  have hC := fun W' (hb : Below W.heap.size W W') => in_cells ((hb.block _ hlt).trans hz)
  have HP2 := Lib.hid p2
  have HC := Lib.hid hC
  clear p2 hC hwl hw him hz hl hx
  have hbl := frm_len x it
  generalize x.frmB it = bs at hR HP2 hbl
  cases c : x.chkB
  · rw [c] at p1 hR
    obtain rfl : R = false := hR
    go_enter Tryz.func53, Tryz.ntmps53
    go_wp2_with (first | rw [← hW.out] | fail)
    go_step3
    go_wp2_with (fail)
    ((with_reducible refine p1.mono ?_); rintro e w7 ⟨rfl, hb⟩)
    go_wp2_with (fail)
    try rw [Exit.noGoto_ret]
    exact bodyPost_ret (results_tmp2 rfl _ _ _) rfl ⟨⟨_, rfl⟩, bd.trans (hb.mono bd.size)⟩
  rw [c, Bool.true_and] at hR
  rw [c] at p1
  go_enter Tryz.func53, Tryz.ntmps53
  go_wp2_with (first | rw [← hW.out] | fail)
  go_step3
  go_wp2_with (fail)
  ((with_reducible refine p1.mono ?_); rintro e w7 ⟨rfl, hb⟩)
  have p3 := HP2.out _ hb
  unfold FmRet at p3
  clear r0 r1 r2 r3 r4 r5 r6 r7 r8 p1
  obtain ⟨r0, r1, r2, r3, r4, r5, r6, r7, r8⟩ := HC.out _ hb
  go_wp2_with (fail)
  go_step3
  go_wp2_with (fail)
  ((with_reducible refine p3.mono ?_); rintro e w8 ⟨⟨A, cap, F, rfl, h1, h2⟩, hb8⟩)
  have B8 : Below w.heap.size w w8 := bd.trans ((hb.trans (hb8.mono hb.size)).mono bd.size)
  have hFl : F.length ≤ 3 := by rw [← h1, List.length_map] at hbl; exact hbl
  have HE : Hid ((F.drop 0).any (·.2) = R) := Lib.hid (by rw [List.drop_zero, hR, ← h1, List.any_map]; rfl)
  clear p3 r0 r1 r2 r3 r4 r5 r6 r7 r8 HP2 HC hR h1 hb8 hb
  go_wp2_with (fail)
  go_loopw [6, 7, 19] (fun h ok t wr => ∃ i : Nat, h = .int .i64 0 ∧ ok = .bool false ∧ t = .int .i64 i ∧ i ≤ F.length ∧ Hid ((F.drop i).any (·.2) = R) ∧ Below w.heap.size w wr ∧ Below w8.heap.size w8 wr) (fun _ _ t _ => F.length - (intOf t).toNat)
  case atStart => exact ⟨0, rfl, rfl, rfl, Nat.zero_le _, HE, B8, Below.refl _ _⟩
  case round =>
    obtain ⟨i, rfl, rfl, rfl, hi, he, hbw, hb8⟩ := hrel
    clear HE
    by_cases hlt : i < F.length
    · have u0 : decide ((i : Int) < (F.length : Int)) = true := decide_eq_true (by omega)
      obtain ⟨g, off, rfl, hg, hc⟩ := h2.at_ hlt
      have c0 : wr.cell? ⟨g, off + i * 2, none⟩ = some (.int .i64 F[i].1) := (hb8.cell (p := ⟨g, off + i * 2, none⟩) hg).trans (hc 0 _ rfl)
      have c1 : wr.cell? ⟨g, off + i * 2 + 1, none⟩ = some (.bool F[i].2) := (hb8.cell (p := ⟨g, off + i * 2 + 1, none⟩) hg).trans (hc 1 _ rfl)
      have hE := he.out
      rw [List.drop_eq_getElem_cons hlt, List.any_cons] at hE
      have HE := Lib.hid hE
      clear he hE hc
      generalize F[i] = q at c0 c1 HE
      obtain ⟨h, b⟩ := q
      dsimp only at c0 c1
      cases b
      · have hN : (F.drop (i + 1)).any (·.2) = R := HE.out
        go_wp2_with (fail)
        exact ⟨⟨i + 1, rfl, rfl, by go_num, by omega, Lib.hid hN, hbw.alloc hbw.size _, hb8.alloc hb8.size _⟩, by (try simp only [show wrap64 ((i : Int) + 1) = (i : Int) + 1 from by unfold wrap64; omega]); simp [intOf]; omega⟩
      · obtain rfl : true = R := HE.out
        go_wp2_with (fail)
        try rw [Exit.noGoto_ret]
        exact bodyPost_ret (results_tmp2 rfl _ _ _) rfl ⟨⟨_, rfl⟩, hbw.alloc hbw.size _⟩
    · obtain rfl : i = F.length := by omega
      have u0 : decide ((F.length : Int) < (F.length : Int)) = false := decide_eq_false (by omega)
      have hE := he.out
      rw [List.drop_eq_nil_of_le (Nat.le_refl _)] at hE
      obtain rfl : false = R := hE
      go_wp2_with (fail)
      try rw [Exit.noGoto_ret]
      exact bodyPost_ret (results_tmp2 rfl _ _ _) rfl ⟨⟨_, rfl⟩, hbw⟩
def lkY (y : Lw) : Lk := ⟨y.op, y.ic, y.rd, y.rn, y.rm, y.im, y.md, y.ls, y.s, true⟩
def canY (y : Lw) (it : Bool) : Bool := (lkY y).canB it
theorem can_y (y : Lw) (it : Bool) (w : World) (hw : Laid w) (hy : okW y) : Calls Tryz.prog 27 #[.agg (insC y), .bool it] w fun e w' => e = .returned (.bool (canY y it)) ∧ Below w.heap.size w w' := by
  obtain ⟨_, _, _, _, _, _, _, him, _, hls, _, _⟩ := hy
  obtain ⟨W, hW⟩ : ∃ W, Hid (W = w.alloc (.cells (inC (lkY y)) 44)) := ⟨_, Lib.hid rfl⟩
  have hz : W.heap[w.heap.size]? = some (.cells (inC (lkY y)) 44 (0, 0)) := by rw [hW.out]; exact heap_alloc_new w _
  have bd : Below w.heap.size w W := by rw [hW.out]; exact bal (Below.refl _ _) _
  obtain ⟨r0, r1, r2, r3, r4, r5, r6, r7, r8⟩ := in_cells hz
  have p1 := encode_n (lkY y) rfl hls him it W (laid_lw hw bd)
  unfold canY
  generalize (lkY y).canB it = R at p1 ⊢
  clear him hls hz hw
  show Calls Tryz.prog 27 #[.agg (inC (lkY y)), .bool it] w _
  generalize lkY y = x at hW r0 r1 r2 r3 r4 r5 r6 r7 r8 p1 ⊢
  go_enter Tryz.func27, Tryz.ntmps27
  go_wp2_with (first | rw [← hW.out] | fail)
  ((with_reducible refine p1.mono ?_); rintro e w7 ⟨⟨h, rfl⟩, hb⟩)
  go_wp2_with (fail)
  exact bodyPost_ret (results_tmp rfl _ _ _) rfl ⟨rfl, bd.trans (hb.mono bd.size)⟩
end Go.Proofs.YtpdkpkabdkefcaaGreatDoor
namespace Go.Proofs.YtpdkpkabdkefcaaGreatDoor
open Go.Sx Go.ChangeShapes Go.WideShapes Go.RowKit Go.Joins Go.Deep Go.Rp
def ax0 : Lw := ⟨[], 1, 35, 14, 0, 0, 0, 0, 1, 0, false, 14, [120], false, 0, ex0⟩
def ax1 : Lw := ⟨[], 7, 0, 0, 0, 0, 0, 0, 0, 0, false, 0, [], false, 3000, ex0⟩
def ax2 : Lw := ⟨[120], 0, 0, 0, 0, 0, 0, 0, 0, 0, false, 0, [], false, 0, ex0⟩
def axL : List Lw := [ax0, ax1, ax2]
theorem raw_app {w : World} {K : Nat → Prop} {xs : List Value} {L : List Lw} (h : RawLs w K xs L) {y : Lw} (hy : okW y) {o n : Int} {s : Bs} {A2 : Option Addr} {m c : Nat} (hx : ExAt w K y.ex (.agg (exC o n s A2 m c))) : RawLs w K (xs ++ (lwX y o n s A2 m c).toList) (L ++ [y]) := by
  refine ⟨by simp [h.1]; omega, fun i hi => ?_⟩
  by_cases hl : i < L.length
  · obtain ⟨h1, o, n, s, A2, m, c, h3, h4⟩ := h.2 i hl
    rw [List.getElem_append_left hl]
    refine ⟨h1, o, n, s, A2, m, c, fun j v hv => ?_, h4⟩
    have := h3 j v hv
    rw [List.getElem?_append_left (List.getElem?_eq_some_iff.1 this).1, this]
  · obtain rfl : i = L.length := by simp at hi; omega
    rw [List.getElem_append_right (Nat.le_refl _)]
    simp only [Nat.sub_self, List.getElem_cons_zero]
    refine ⟨hy, _, _, _, _, _, _, fun j v hv => ?_, hx⟩
    rw [List.getElem?_append_right (by rw [h.1]; omega), h.1, Nat.add_sub_cancel_left]
    simpa using hv
theorem ia_go {w w' : World} {A : Option Addr} {l : List Int} (h : IAt w w.heap.size A l) (hb : Below w.heap.size w w') : IAt w' w'.heap.size A l := (h.below hb (Nat.le_refl _)).more hb.size
theorem ia_lit (w : World) (l : List Int) {g : Nat} (hg : g = w.heap.size) {cs : Array Value} (hcs : cs = (encI l).toArray) : IAt (w.alloc (.cells cs 3)) (w.alloc (.cells cs 3)).heap.size (some ⟨g, 0, none⟩) l := fun _ => ⟨g, 0, rfl, by simp [hg], fun i a h => by
  subst hg hcs
  have := cell_list (heap_alloc_new w (.cells (encI l).toArray 3)) i
  rw [Nat.zero_add, this]
  simp [encI, h]⟩
theorem ia_two {w w' : World} {g : Nat} {x y : Value} {t : TypeId} (h : w.heap[g]? = some (.cells #[x, y] t (0, 0))) (hb : Below w.heap.size w w') : w'.cell? ⟨g, 0, none⟩ = some x ∧ w'.cell? ⟨g, 1, none⟩ = some y := by
  have := (hb.block g (Array.getElem?_eq_some_iff.1 h).1).trans h
  simp [World.cell?, this]
theorem k64 {n : Int} (h : -2 ^ 63 ≤ n ∧ n < 2 ^ 63) : kHas .i64 n := h
theorem ax_ls (w : World) : LsAt (w.alloc (.cells (List.toArray (.string ⟨#[]⟩ :: .int .i64 1 :: .int .i64 35 :: .int .i64 14 :: .int .i64 0 :: .int .i64 0 :: .int .i64 0 :: .int .i64 0 :: .int .i64 1 :: .int .i64 0 :: .bool false :: .int .i64 14 :: .string ⟨#[120]⟩ :: .bool false :: .int .i64 0 :: .int .i64 0 :: .int .i64 0 :: .string ⟨#[]⟩ :: .slice none 0 0 :: .string ⟨#[]⟩ :: .int .i64 7 :: .int .i64 0 :: .int .i64 0 :: .int .i64 0 :: .int .i64 0 :: .int .i64 0 :: .int .i64 0 :: .int .i64 0 :: .int .i64 0 :: .bool false :: .int .i64 0 :: .string ⟨#[]⟩ :: .bool false :: .int .i64 3000 :: .int .i64 0 :: .int .i64 0 :: .string ⟨#[]⟩ :: .slice none 0 0 :: .string ⟨#[120]⟩ :: .int .i64 0 :: .int .i64 0 :: .int .i64 0 :: .int .i64 0 :: .int .i64 0 :: .int .i64 0 :: .int .i64 0 :: .int .i64 0 :: .int .i64 0 :: .bool false :: .int .i64 0 :: .string ⟨#[]⟩ :: .bool false :: .int .i64 0 :: .int .i64 0 :: .int .i64 0 :: .string ⟨#[]⟩ :: .slice none 0 0 :: [])) 49)) (fun g => g < (w.alloc (.cells (List.toArray (.string ⟨#[]⟩ :: .int .i64 1 :: .int .i64 35 :: .int .i64 14 :: .int .i64 0 :: .int .i64 0 :: .int .i64 0 :: .int .i64 0 :: .int .i64 1 :: .int .i64 0 :: .bool false :: .int .i64 14 :: .string ⟨#[120]⟩ :: .bool false :: .int .i64 0 :: .int .i64 0 :: .int .i64 0 :: .string ⟨#[]⟩ :: .slice none 0 0 :: .string ⟨#[]⟩ :: .int .i64 7 :: .int .i64 0 :: .int .i64 0 :: .int .i64 0 :: .int .i64 0 :: .int .i64 0 :: .int .i64 0 :: .int .i64 0 :: .int .i64 0 :: .bool false :: .int .i64 0 :: .string ⟨#[]⟩ :: .bool false :: .int .i64 3000 :: .int .i64 0 :: .int .i64 0 :: .string ⟨#[]⟩ :: .slice none 0 0 :: .string ⟨#[120]⟩ :: .int .i64 0 :: .int .i64 0 :: .int .i64 0 :: .int .i64 0 :: .int .i64 0 :: .int .i64 0 :: .int .i64 0 :: .int .i64 0 :: .int .i64 0 :: .bool false :: .int .i64 0 :: .string ⟨#[]⟩ :: .bool false :: .int .i64 0 :: .int .i64 0 :: .int .i64 0 :: .string ⟨#[]⟩ :: .slice none 0 0 :: [])) 49)).heap.size) (some ⟨w.heap.size, 0, none⟩) axL := by
  have z : kHas .i64 0 := k64 (by decide)
  have h0 : okW ax0 := ⟨⟨by decide, by decide⟩, k64 (by decide), k64 (by decide), k64 (by decide), z, z, z, z, k64 (by decide), z, k64 (by decide), z⟩
  have h1 : okW ax1 := ⟨⟨by decide, by decide⟩, k64 (by decide), z, z, z, z, z, z, z, z, z, k64 (by decide)⟩
  have h2 : okW ax2 := ⟨⟨by decide, by decide⟩, z, z, z, z, z, z, z, z, z, z, z⟩
  generalize hW : w.alloc (.cells (List.toArray (.string ⟨#[]⟩ :: .int .i64 1 :: .int .i64 35 :: .int .i64 14 :: .int .i64 0 :: .int .i64 0 :: .int .i64 0 :: .int .i64 0 :: .int .i64 1 :: .int .i64 0 :: .bool false :: .int .i64 14 :: .string ⟨#[120]⟩ :: .bool false :: .int .i64 0 :: .int .i64 0 :: .int .i64 0 :: .string ⟨#[]⟩ :: .slice none 0 0 :: .string ⟨#[]⟩ :: .int .i64 7 :: .int .i64 0 :: .int .i64 0 :: .int .i64 0 :: .int .i64 0 :: .int .i64 0 :: .int .i64 0 :: .int .i64 0 :: .int .i64 0 :: .bool false :: .int .i64 0 :: .string ⟨#[]⟩ :: .bool false :: .int .i64 3000 :: .int .i64 0 :: .int .i64 0 :: .string ⟨#[]⟩ :: .slice none 0 0 :: .string ⟨#[120]⟩ :: .int .i64 0 :: .int .i64 0 :: .int .i64 0 :: .int .i64 0 :: .int .i64 0 :: .int .i64 0 :: .int .i64 0 :: .int .i64 0 :: .int .i64 0 :: .bool false :: .int .i64 0 :: .string ⟨#[]⟩ :: .bool false :: .int .i64 0 :: .int .i64 0 :: .int .i64 0 :: .string ⟨#[]⟩ :: .slice none 0 0 :: [])) 49) = W
  have hr : RawLs W (fun _ => False) ((([] ++ (lwX ax0 0 0 [] none 0 0).toList) ++ (lwX ax1 0 0 [] none 0 0).toList) ++ (lwX ax2 0 0 [] none 0 0).toList) axL := raw_app (raw_app (raw_app (L := []) (xs := []) ⟨rfl, fun i hi => by simp at hi⟩ h0 (o := 0) (n := 0) (s := []) (A2 := none) (m := 0) (c := 0) (exAt0 _ _)) h1 (o := 0) (n := 0) (s := []) (A2 := none) (m := 0) (c := 0) (exAt0 _ _)) h2 (o := 0) (n := 0) (s := []) (A2 := none) (m := 0) (c := 0) (exAt0 _ _)
  have ho : W.ownsRow w.heap.size 49 19 (.slice (some ⟨w.heap.size, 0, none⟩) 3 3) 3 ((([] ++ (lwX ax0 0 0 [] none 0 0).toList) ++ (lwX ax1 0 0 [] none 0 0).toList) ++ (lwX ax2 0 0 [] none 0 0).toList) := by rw [← hW]; exact World.ownsRow_lit (size := 19) w (List.toArray (.string ⟨#[]⟩ :: .int .i64 1 :: .int .i64 35 :: .int .i64 14 :: .int .i64 0 :: .int .i64 0 :: .int .i64 0 :: .int .i64 0 :: .int .i64 1 :: .int .i64 0 :: .bool false :: .int .i64 14 :: .string ⟨#[120]⟩ :: .bool false :: .int .i64 0 :: .int .i64 0 :: .int .i64 0 :: .string ⟨#[]⟩ :: .slice none 0 0 :: .string ⟨#[]⟩ :: .int .i64 7 :: .int .i64 0 :: .int .i64 0 :: .int .i64 0 :: .int .i64 0 :: .int .i64 0 :: .int .i64 0 :: .int .i64 0 :: .int .i64 0 :: .bool false :: .int .i64 0 :: .string ⟨#[]⟩ :: .bool false :: .int .i64 3000 :: .int .i64 0 :: .int .i64 0 :: .string ⟨#[]⟩ :: .slice none 0 0 :: .string ⟨#[120]⟩ :: .int .i64 0 :: .int .i64 0 :: .int .i64 0 :: .int .i64 0 :: .int .i64 0 :: .int .i64 0 :: .int .i64 0 :: .int .i64 0 :: .int .i64 0 :: .bool false :: .int .i64 0 :: .string ⟨#[]⟩ :: .bool false :: .int .i64 0 :: .int .i64 0 :: .int .i64 0 :: .string ⟨#[]⟩ :: .slice none 0 0 :: [])) 3 (Nat.le_refl _) (by decide) rfl
  obtain ⟨A, cap, he, _, h⟩ := raw_ls hr ho
  simp only [Value.slice.injEq] at he
  obtain ⟨rfl, _, _⟩ := he
  have hs : W.heap.size = w.heap.size + 1 := by rw [← hW]; simp
  refine h.keep (fun g hg => ?_) (fun _ _ => rfl)
  rcases hg with hg | hg
  · exact hg.elim
  · simp [Value.ownBlock] at hg; omega
theorem ax_solve : solveL axL (insideL axL) [[]] [0, 0, 0] (startL canY axL (insideL axL)) = ([1, 0, 0], 2, 0, 0) := by kernel_rfl
theorem ax_start : startL canY axL (insideL axL) = [0, 0, 0] := by kernel_rfl
theorem ax_grow : growL axL (insideL axL) [[]] [0, 0, 0] [0, 0, 0] = [1, 0, 0] := by kernel_rfl
theorem ax_sizes : sizesF [[]] axL [1, 0, 0] 0 0 = [4, 3000, 0, 0] := by kernel_rfl
theorem ax_addr : addrF axL [4, 3000, 0, 0] 0 = [0, 4, 3004, 3004] := by kernel_rfl
set_option maxHeartbeats 4000000 in
theorem awake_c {w : World} (hw : Laid w) : Calls Tryz.prog 7 #[] w fun e w' => e = .returned (.bool true) ∧ Below w.heap.size w w' := by
  have hl := ax_ls w
  obtain ⟨W1, hW1⟩ : ∃ W, Hid (W = w.alloc (.cells (List.toArray (.string ⟨#[]⟩ :: .int .i64 1 :: .int .i64 35 :: .int .i64 14 :: .int .i64 0 :: .int .i64 0 :: .int .i64 0 :: .int .i64 0 :: .int .i64 1 :: .int .i64 0 :: .bool false :: .int .i64 14 :: .string ⟨#[120]⟩ :: .bool false :: .int .i64 0 :: .int .i64 0 :: .int .i64 0 :: .string ⟨#[]⟩ :: .slice none 0 0 :: .string ⟨#[]⟩ :: .int .i64 7 :: .int .i64 0 :: .int .i64 0 :: .int .i64 0 :: .int .i64 0 :: .int .i64 0 :: .int .i64 0 :: .int .i64 0 :: .int .i64 0 :: .bool false :: .int .i64 0 :: .string ⟨#[]⟩ :: .bool false :: .int .i64 3000 :: .int .i64 0 :: .int .i64 0 :: .string ⟨#[]⟩ :: .slice none 0 0 :: .string ⟨#[120]⟩ :: .int .i64 0 :: .int .i64 0 :: .int .i64 0 :: .int .i64 0 :: .int .i64 0 :: .int .i64 0 :: .int .i64 0 :: .int .i64 0 :: .int .i64 0 :: .bool false :: .int .i64 0 :: .string ⟨#[]⟩ :: .bool false :: .int .i64 0 :: .int .i64 0 :: .int .i64 0 :: .string ⟨#[]⟩ :: .slice none 0 0 :: [])) 49)) := ⟨_, Lib.hid rfl⟩
  rw [← hW1.out] at hl
  have hs1 : W1.heap.size = w.heap.size + 1 := by rw [hW1.out]; simp
  have b1 : Below w.heap.size w W1 := by rw [hW1.out]; exact bal (Below.refl _ _) _
  obtain ⟨W3, hW3⟩ : ∃ W, Hid (W = (W1.alloc (.cells #[.slice none 0 0] 26)).alloc (.cells #[.int .i64 0, .int .i64 0, .int .i64 0] 3)) := ⟨_, Lib.hid rfl⟩
  have b3 : Below W1.heap.size W1 W3 := by rw [hW3.out]; exact bal (bal (Below.refl _ _) _) _
  have hp : W3.heap[w.heap.size + 1]? = some (.cells #[.slice none 0 0] 26 (0, 0)) := by rw [hW3.out, ← hs1]; exact alloc_blk (heap_alloc_new W1 _) _
  have hv : W3.heap[w.heap.size + 2]? = some (.cells #[.int .i64 0, .int .i64 0, .int .i64 0] 3 (0, 0)) := by rw [hW3.out]; exact alloc_at (by simp [hs1])
  have hs3 : W3.heap.size = w.heap.size + 3 := by rw [hW3.out]; simp [hs1]
  have hl3 : LsAt W3 (fun g => g < W3.heap.size) (some ⟨w.heap.size, 0, none⟩) axL := hl.keep (fun g hg => by omega) (fun g hg => b3.block g hg)
  have hp3 : PlAt W3 W3.heap.size (some ⟨w.heap.size + 1, 0, none⟩) [[]] := fun _ => ⟨_, 0, rfl, by omega, fun i p h => by
    match i, h with
    | 0, h => simp at h; subst h; exact ⟨none, 0, by simp [World.cell?, hp], IAt.nil _ _ _⟩
    | i + 1, h => simp at h⟩
  have hv3 : IAt W3 W3.heap.size (some ⟨w.heap.size + 2, 0, none⟩) [0, 0, 0] := fun _ => ⟨_, 0, rfl, by omega, fun i a h => by
    match i, h with
    | 0, h | 1, h | 2, h => simp at h; subst h; simp [World.cell?, hv]
    | i + 3, h => simp at h⟩
  have hw3 := laid_lw (laid_lw hw b1) b3
  have hLs := fun W (hb : Below W3.heap.size W3 W) => (hl3.below (fun _ h => h) hb).keep (K' := fun g => g < W.heap.size) (fun g hg => Nat.lt_of_lt_of_le hg hb.size) (fun _ _ => rfl)
  have hPs := fun W (hb : Below W3.heap.size W3 W) => (hp3.below hb (Nat.le_refl _)).more hb.size
  have hVs := fun W (hb : Below W3.heap.size W3 W) => (hv3.below hb (Nat.le_refl _)).more hb.size
  have hsz : ∀ y ∈ axL, y.sz ≤ 1048576 := by decide
  have hP0 : ∀ p ∈ ([[]] : List (List Int)), p.length ≤ 100000 := by decide
  have c1 := solve_l canY can_y axL (by decide) hsz [[]] hP0 (by decide) [0, 0, 0] (by decide) _ _ _ 3 1 3 (by decide) W3 hl3 hp3 hv3 hw3
  rw [ax_solve] at c1
  unfold SolveRet at c1
  replace c1 : Calls Tryz.prog 12 #[.slice (some ⟨w.heap.size, 0, none⟩) 3 3, .slice (some ⟨w.heap.size + 1, 0, none⟩) 1 1, .slice (some ⟨w.heap.size + 2, 0, none⟩) 3 3] W3 fun e w' => (∃ A cap, e = .returned (.tuple #[.slice A 3 cap, .int .i64 2, .agg #[.int .i64 0, .int .i64 0]]) ∧ IAt w' w'.heap.size A [1, 0, 0] ∧ (∀ q o, A = some ⟨q, o, none⟩ → W3.heap.size ≤ q) ∧ 3 ≤ cap) ∧ Below W3.heap.size W3 w' := c1
  have c2 : ∀ W A c, Below W3.heap.size W3 W → IAt W W.heap.size A [1, 0, 0] → Calls Tryz.prog 16 #[.slice (some ⟨w.heap.size, 0, none⟩) 3 3, .slice A 3 c, .slice (some ⟨w.heap.size + 1, 0, none⟩) 1 1] W fun e w' => IntRet W.heap.size [4, 3000, 0, 0] e w' ∧ Below W.heap.size W w' := fun W A c hb hi => by
    have := sizes_l axL (by decide) hsz [1, 0, 0] (by unfold okF; decide) (by decide) [[]] hP0 (by decide) _ A _ 3 c 1 W _ (hLs W hb) (fun _ h => h) hi (hPs W hb)
    rwa [ax_sizes] at this
  have c3 : ∀ W, Below W3.heap.size W3 W → Calls Tryz.prog 9 #[.slice (some ⟨w.heap.size, 0, none⟩) 3 3] W fun e w' => IntRet W.heap.size [0, 0, 0] e w' ∧ Below W.heap.size W w' := fun W hb => by
    have := start_l canY can_y axL (by decide) _ 3 W _ (hLs W hb) (fun _ h => h) (laid_lw hw3 hb)
    rwa [ax_start] at this
  have c4 : ∀ W A c, Below W3.heap.size W3 W → IAt W W.heap.size A [0, 0, 0] → Calls Tryz.prog 13 #[.slice (some ⟨w.heap.size, 0, none⟩) 3 3, .slice A 3 c, .slice (some ⟨w.heap.size + 1, 0, none⟩) 1 1, .slice (some ⟨w.heap.size + 2, 0, none⟩) 3 3] W fun e w' => GrowRet W.heap.size [1, 0, 0] true e w' ∧ Below W.heap.size W w' := fun W A c hb hi => by
    have := grow_l axL (by decide) hsz [0, 0, 0] (by unfold okF; decide) rfl [[]] hP0 (by decide) [0, 0, 0] (by decide) _ A _ _ 3 c 1 3 (by decide) W (hLs W hb) hi (hPs W hb) (hVs W hb) (laid_lw hw3 hb)
    rw [ax_grow] at this
    exact this
  have c5 : ∀ W A c, IAt W W.heap.size A [4, 3000, 0, 0] → Calls Tryz.prog 15 #[.slice (some ⟨w.heap.size, 0, none⟩) 3 3, .slice A 4 c] W fun e w' => IntRet W.heap.size [0, 4, 3004, 3004] e w' ∧ Below W.heap.size W w' := fun W A c hi => by
    have := addr_l axL (by decide) [4, 3000, 0, 0] rfl (by decide) (some ⟨w.heap.size, 0, none⟩) A 3 c W hi
    rwa [ax_addr] at this
  have c63 : ∀ (x y z : Int) W A B ca cb, IAt W W.heap.size A [x, y, z] → IAt W W.heap.size B [x, y, z] → Calls Tryz.prog 8 #[.slice A 3 ca, .slice B 3 cb] W fun e w' => e = .returned (.bool true) ∧ Below W.heap.size W w' := fun x y z W A B ca cb hA hB => by
    have := ints01 _ _ (by simp) (by simp) A B ca cb W hA hB
    rwa [decide_eq_true rfl] at this
  have c64 : ∀ (x y z t : Int) W A B ca cb, IAt W W.heap.size A [x, y, z, t] → IAt W W.heap.size B [x, y, z, t] → Calls Tryz.prog 8 #[.slice A 4 ca, .slice B 4 cb] W fun e w' => e = .returned (.bool true) ∧ Below W.heap.size W w' := fun x y z t W A B ca cb hA hB => by
    have := ints01 _ _ (by simp) (by simp) A B ca cb W hA hB
    rwa [decide_eq_true rfl] at this
  unfold IntRet at c2 c3 c5
  unfold GrowRet at c4
  have HB := Lib.hid (b1.trans (b3.mono (by omega)))
  have C2 := Lib.hid c2
  have C3 := Lib.hid c3
  have C4 := Lib.hid c4
  have C5 := Lib.hid c5
  have C63 := Lib.hid c63
  have C64 := Lib.hid c64
  clear c2 c3 c4 c5 c63 c64 hLs hPs hVs hl hl3 hp3 hv3 hp hv hw3 b1 b3 hsz hP0 hw
  go_enter Tryz.func7, Tryz.ntmps7
  go_wp2_with (first | rw [← hW1.out] | rw [← hW3.out] | fail)
  ((with_reducible refine c1.mono ?_); rintro e w4 ⟨⟨A4, cp4, rfl, i4, _⟩, b4⟩)
  clear c1
  have R := fun W => Below.refl (World.heap W).size W
  have b5 := bal b4 (.cells #[.int .i64 0, .int .i64 0] 33)
  have hf := heap_alloc_new w4 (.cells #[.int .i64 0, .int .i64 0] 33)
  have i5 := ia_go i4 (bal (R w4) (.cells #[.int .i64 0, .int .i64 0] 33))
  go_wp2_with (fail)
  ((with_reducible refine (C2.out _ _ _ b5 i5).mono ?_); rintro e w6 ⟨⟨A6, cp6, rfl, _, i6, _⟩, b6⟩)
  have B6 := b5.trans (b6.mono b5.size)
  have d6 := C3.out _ B6
  have i46 := ia_go i5 b6
  go_wp2_with (fail)
  ((with_reducible refine d6.mono ?_); rintro e w7 ⟨⟨A7, cp7, rfl, _, i7, _⟩, b7⟩)
  have B7 := B6.trans (b7.mono B6.size)
  have i47 := ia_go i46 b7
  have i67 := ia_go i6 b7
  go_wp2_with (fail)
  ((with_reducible refine (C4.out _ _ _ B7 i7).mono ?_); rintro e w8 ⟨⟨A8, cp8, rfl, i8, _⟩, b8⟩)
  have B8 := B7.trans (b8.mono B7.size)
  have i48 := ia_go i47 b8
  have i68 := ia_go i67 b8
  obtain ⟨g0, g1⟩ := ia_two hf (b6.trans ((b7.trans (b8.mono b7.size)).mono b6.size))
  clear d6 i4 i5 i46 i47 i6 i67 i7 hf
  go_wp2_with (fail)
  have L1 := ia_lit w8 [1, 0, 0] (g := w8.heap.size) rfl (cs := #[.int .i64 1, .int .i64 0, .int .i64 0]) (by rfl)
  have J1 := ia_go i48 (bal (R w8) (.cells #[.int .i64 1, .int .i64 0, .int .i64 0] 3))
  ((with_reducible refine (C63.out _ _ _ _ _ _ _ _ J1 L1).mono ?_); rintro e w9 ⟨rfl, b9⟩)
  replace b9 := (bal (R w8) (.cells #[.int .i64 1, .int .i64 0, .int .i64 0] 3)).trans (b9.mono (by simp))
  have i49 := ia_go i48 b9
  have i69 := ia_go i68 b9
  have i89 := ia_go i8 b9
  clear L1 J1 i48 i68 i8
  go_wp2_with (fail)
  have L2 := ia_lit w9 [4, 3000, 0, 0] (g := w9.heap.size) rfl (cs := #[.int .i64 4, .int .i64 3000, .int .i64 0, .int .i64 0]) (by rfl)
  have J2 := ia_go i69 (bal (R w9) (.cells #[.int .i64 4, .int .i64 3000, .int .i64 0, .int .i64 0] 3))
  ((with_reducible refine (C64.out _ _ _ _ _ _ _ _ _ J2 L2).mono ?_); rintro e wa ⟨rfl, ba⟩)
  replace ba := (bal (R w9) (.cells #[.int .i64 4, .int .i64 3000, .int .i64 0, .int .i64 0] 3)).trans (ba.mono (by simp))
  have i4a := ia_go i49 ba
  have i6a := ia_go i69 ba
  have i8a := ia_go i89 ba
  clear L2 J2 i49 i69 i89
  go_wp2_with (fail)
  ((with_reducible refine (C5.out _ _ _ i6a).mono ?_); rintro e wb ⟨⟨Ab, cpb, rfl, _, ib, _⟩, bb⟩)
  have i4b := ia_go i4a bb
  have i8b := ia_go i8a bb
  clear i4a i6a i8a
  go_wp2_with (fail)
  have L3 := ia_lit wb [0, 4, 3004, 3004] (g := wb.heap.size) rfl (cs := #[.int .i64 0, .int .i64 4, .int .i64 3004, .int .i64 3004]) (by rfl)
  have J3 := ia_go ib (bal (R wb) (.cells #[.int .i64 0, .int .i64 4, .int .i64 3004, .int .i64 3004] 3))
  ((with_reducible refine (C64.out _ _ _ _ _ _ _ _ _ J3 L3).mono ?_); rintro e wc ⟨rfl, bc⟩)
  replace bc := (bal (R wb) (.cells #[.int .i64 0, .int .i64 4, .int .i64 3004, .int .i64 3004] 3)).trans (bc.mono (by simp))
  have i4c := ia_go i4b bc
  have i8c := ia_go i8b bc
  clear L3 J3 i4b i8b ib
  go_wp2_with (fail)
  ((with_reducible refine (C63.out _ _ _ _ _ _ _ _ i8c i4c).mono ?_); rintro e wd ⟨rfl, bd⟩)
  go_wp2_with (fail)
  have BB : Below W3.heap.size W3 wd := B8.trans ((b9.trans ((ba.trans ((bb.trans ((bc.trans (bd.mono bc.size)).mono bb.size)).mono ba.size)).mono b9.size)).mono B8.size)
  exact bodyPost_ret (results_tmp rfl _ _ _) rfl ⟨rfl, HB.out.trans (BB.mono HB.out.size)⟩
end Go.Proofs.YtpdkpkabdkefcaaGreatDoor
namespace Go.Proofs.YtpdkpkabdkefcaaGreatDoor
open Go.Sx Go.ChangeShapes Go.WideShapes Go.RowKit Go.Joins Go.Deep Go.Rp
theorem lnInfo : (Tryz.prog.info? 49).map (fun i => (i.zero, i.size, i.bytes)) = some (some (.agg lnZ), 19, 192) := by kernel_rfl
theorem app_ls (w : World) {ops : Array Oper} {rest : List Oper} {o : Oper} {a : Act} {Q : Exit → Act → World → Prop} (hgd : o.guard = none) (s x : Operand)
    (ho : o.op = .call { callee := .builtin .append, args := #[s, x], argTypes := #[22, 22] }) (hs : a.eval s = .slice none 0 0) (L : List Lw) (hL : L.length ≤ 1000) (A : Option Addr) (cap : Nat) (hx : a.eval x = .slice A L.length cap) (h0 : A = none → cap = 0) {K : Nat → Prop} (hA : LsAt w K A L)
    (hK : ∀ g, K g → g < w.heap.size)
    (h : ∀ v' w' xs, w'.ownsRow w.heap.size 49 19 v' L.length xs → RawLs w' K xs L → Below w.heap.size w w' → wpList Tryz.prog ops Q rest (a.put o.dst v') w') : wpList Tryz.prog ops Q (o :: rest) a w := by
  obtain ⟨i0, hi0, hz0, hz1, hz2⟩ := info_parts lnInfo
  have nil : w.ownsRow w.heap.size 49 19 (.slice none 0 0) 0 [] := World.ownsRow_nil _ _ _ _
  by_cases hn : L = []
  · subst hn
    have rn : RawLs w K [] ([] : List Lw) := ⟨rfl, fun i hi => by simp at hi⟩
    cases A with
    | none =>
      obtain rfl := h0 rfl
      exact wpList_append_own_none hgd s x 22 ho w.heap.size 49 i0 19 Tryz.underlying22 hi0 _ 0 [] hs nil hx (h _ _ [] nil rn (Below.refl _ _))
    | some ad =>
      refine wpList_append_own_at _ hgd s x 22 ho w.heap.size 49 i0 _ 19 192 Tryz.underlying22 hi0 hz0 hz1 hz2 rfl (by decide) _ 0 [] hs nil ad 0 cap [] hx rfl (fun j u hj => by simp at hj) (fun u hu => by simp at hu) (by decide) (by decide) (Nat.le_refl _) ?_
      intro v' w' hown hgrow _ _
      have hb := (Below.refl w.heap.size w).grown hgrow (Nat.le_refl _) (fun j hj => by simp [Value.ownBlock] at hj)
      exact h v' w' [] hown (raw_keep rn (fun _ h => h) (fun g hg => hb.block g (hK g hg))) hb
  · obtain ⟨g, off, rfl, _, _⟩ := hA hn
    obtain ⟨hr, hc⟩ := raw_of hA
    refine wpList_append_own_at _ hgd s x 22 ho w.heap.size 49 i0 _ 19 192 Tryz.underlying22 hi0 hz0 hz1 hz2 rfl (by decide) _ 0 [] hs nil ⟨g, off, none⟩ L.length cap (rawOf w g off L.length) hx hr.1 (fun j u hj => by rw [addR]; exact hc j u hj) (fun u hu => raw_one hr hu) (by unfold maxLen; omega) (by omega) (Nat.le_refl _) ?_
    intro v' w' hown hgrow _ _
    have hb := (Below.refl w.heap.size w).grown hgrow (Nat.le_refl _) (fun j hj => by simp [Value.ownBlock] at hj)
    exact h v' w' _ (by simpa using hown) (raw_keep hr (fun _ h => h) (fun g hg => hb.block g (hK g hg))) hb
theorem app_is (w : World) {ops : Array Oper} {rest : List Oper} {o : Oper} {a : Act} {Q : Exit → Act → World → Prop} (hgd : o.guard = none) (s x : Operand)
    (ho : o.op = .call { callee := .builtin .append, args := #[s, x], argTypes := #[26, 26] }) (hs : a.eval s = .slice none 0 0) (V : List Int) (hV : V.length ≤ 1000000) (A : Option Addr) (cap : Nat) (hx : a.eval x = .slice A V.length cap) (h0 : A = none → cap = 0) (hA : IAt w w.heap.size A V)
    (h : ∀ v' w', w'.ownsRow w.heap.size 3 1 v' V.length (encI V) → Below w.heap.size w w' → wpList Tryz.prog ops Q rest (a.put o.dst v') w') : wpList Tryz.prog ops Q (o :: rest) a w := by
  obtain ⟨i0, hi0, hz0, hz1, hz2⟩ := info_parts intInfo
  have nil : w.ownsRow w.heap.size 3 1 (.slice none 0 0) 0 [] := World.ownsRow_nil _ _ _ _
  by_cases hn : V = []
  · subst hn
    cases A with
    | none =>
      obtain rfl := h0 rfl
      exact wpList_append_own_none hgd s x 26 ho w.heap.size 3 i0 1 Tryz.underlying26 hi0 _ 0 [] hs nil hx (h _ _ nil (Below.refl _ _))
    | some ad =>
      refine wpList_append_own_at _ hgd s x 26 ho w.heap.size 3 i0 _ 1 8 Tryz.underlying26 hi0 hz0 hz1 hz2 rfl (by decide) _ 0 [] hs nil ad 0 cap [] hx rfl (fun j u hj => by simp at hj) (fun u hu => by simp at hu) (by decide) (by decide) (Nat.le_refl _) ?_
      intro v' w' hown hgrow _ _
      exact h v' w' hown ((Below.refl w.heap.size w).grown hgrow (Nat.le_refl _) (fun j hj => by simp [Value.ownBlock] at hj))
  · obtain ⟨g, off, rfl, _, hc⟩ := hA hn
    refine wpList_append_own_at _ hgd s x 26 ho w.heap.size 3 i0 _ 1 8 Tryz.underlying26 hi0 hz0 hz1 hz2 rfl (by decide) _ 0 [] hs nil ⟨g, off, none⟩ V.length cap (encI V) hx (by simp [encI]) (fun j u hj => by
      simp only [encI, List.getElem?_map, Option.map_eq_some_iff] at hj
      obtain ⟨a, ha, rfl⟩ := hj
      rw [addR]; exact hc j a ha) (fun u hu => by simp [encI] at hu; obtain ⟨_, _, rfl⟩ := hu; rfl) (by unfold maxLen; omega) (by omega) (Nat.le_refl _) ?_
    intro v' w' hown hgrow _ _
    exact h v' w' (by simpa using hown) ((Below.refl w.heap.size w).grown hgrow (Nat.le_refl _) (fun j hj => by simp [Value.ownBlock] at hj))
theorem app_l0 (w : World) {ops : Array Oper} {rest : List Oper} {o : Oper} {a : Act} {Q : Exit → Act → World → Prop} (hgd : o.guard = none) (s x : Operand)
    (ho : o.op = .call { callee := .builtin .append, args := #[s, x], argTypes := #[22, 22] }) (base : Nat) (hb0 : base ≤ w.heap.size) (L : List Lw) (hL : L.length ≤ 1000) (v : Value) (xs : List Value) (hs : a.eval s = v) (hown : w.ownsRow base 49 19 v L.length xs) {K : Nat → Prop} (hr : RawLs w K xs L)
    (g : Nat) (hx : a.eval x = .slice (some ⟨g, 0, none⟩) 1 1) (hg : g = w.heap.size) (hK : ∀ g, K g → g < base)
    (h : ∀ A w' cap, LsAt w' (fun g => g < w'.heap.size) A (L ++ [lw0]) → (L ++ [lw0]).length ≤ cap → Below base w w' → wpList Tryz.prog ops Q rest (a.put o.dst (.slice A (L ++ [lw0]).length cap)) w') : wpList Tryz.prog ops Q (o :: rest) a (w.alloc (.cells lnZ 49)) := by
  subst hg
  obtain ⟨i0, hi0, hz0, hz1, hz2⟩ := info_parts lnInfo
  refine wpList_append_own_at _ hgd s x 22 ho base 49 i0 _ 19 192 Tryz.underlying22 hi0 hz0 hz1 hz2 rfl (by decide) v L.length xs hs (hown.alloc _) ⟨w.heap.size, 0, none⟩ 1 1 lnZ.toList hx rfl ?_
    (fun u hu => by obtain ⟨q, hq⟩ := List.mem_iff_getElem?.1 hu; exact lwX_one lw0 0 0 [] none 0 0 (j := q) (by simpa using hq)) (by unfold maxLen; omega) (by omega) (by simp; omega) ?_
  · exact World.news_of_block (cs := lnZ) (t := 49) (fr := (0, 0)) (heap_alloc_new w _)
  intro v' w' hown' hgrow _ _
  have hb : Below base w w' := ((Below.refl base w).alloc hb0 _).grown hgrow (by simp; omega) (fun j hj => (hown.lt _ hj).1)
  have h1 : RawLs w' K (xs ++ lnZ.toList) (L ++ [lw0]) := raw_snoc (raw_keep hr (fun _ h => h) (fun g hg => hb.block g (hK g hg)))
  obtain ⟨A, cap, rfl, hc, hl⟩ := raw_ls h1 (by simpa using hown')
  refine h A w' cap (hl.keep (fun g hg => ?_) (fun _ _ => rfl)) hc hb
  rcases hg with hg | hg
  · have := hK g hg; have := hb.size; omega
  · exact (hown'.lt g hg).2
end Go.Proofs.YtpdkpkabdkefcaaGreatDoor
namespace Go.Proofs.YtpdkpkabdkefcaaGreatDoor
open Go.Sx Go.ChangeShapes Go.WideShapes Go.RowKit Go.Joins Go.Deep Go.Rp
theorem iat_pre {w : World} {B : Nat} {A : Option Addr} {l m : List Int} (h : IAt w B A (l ++ m)) : IAt w B A l := fun hn => by
  obtain ⟨g, off, e, hg, hc⟩ := h (by simp [hn])
  exact ⟨g, off, e, hg, fun i a h => hc i a (by rw [List.getElem?_append_left (List.getElem?_eq_some_iff.1 h).1]; exact h)⟩
theorem plan23 (L : List Lw) (hL : L.length ≤ 1000) (V : List Int) (hV : V.length ≤ 1000000) (A AV : Option Addr) (cap cV : Nat) (w : World) (K : Nat → Prop) (hA : LsAt w K A L) (hK : ∀ g, K g → g < w.heap.size) (hAV : IAt w w.heap.size AV V) :
    Calls Tryz.prog 11 #[.slice A L.length cap, .slice AV V.length cV] w fun e w' => PlanPost L.length w.heap.size e w' ∧ Below w.heap.size w w' := by
  have h := plan22 L hL V hV A AV cap cV w K hA hK hAV
  unfold PlanPost at h ⊢
  go_enter Tryz.func11, Tryz.ntmps11
  go_wp2_with (fail)
  ((with_reducible refine h.mono ?_); rintro e w1 ⟨⟨P, A1, c1, rfl, h1, h2, h3, h4⟩, hb⟩)
  go_wp2_with (fail)
  exact bodyPost_ret (results_tmp rfl _ _ _) rfl ⟨⟨P, A1, c1, rfl, h1, h2, h3, h4⟩, hb⟩
set_option maxHeartbeats 8000000 in
theorem more_r (L : List Lw) (hL : L.length ≤ lenMax) (V : List Int) (A AV : Option Addr) (cap cV : Nat) (hcA : L.length ≤ cap) (h0 : A = none → cap = 0) (hV0 : AV = none → cV = 0) (w : World) (hA : LsAt w (fun g => g < w.heap.size) A L) (hAV : IAt w w.heap.size AV V) (hw : Laid w) :
    Calls Tryz.prog 5 #[.slice A L.length cap, .slice AV V.length cV] w fun e w' => e = .returned (.bool true) ∧ Below w.heap.size w w' := by
  have hm := may23 L hL A cap w _ hA (fun _ h => h)
  unfold MayPost at hm
  go_enter Tryz.func5, Tryz.ntmps5
  go_wp2_with (fail)
  ((with_reducible refine hm.mono ?_); rintro e w1 ⟨r, rfl, hr, hb1⟩)
  clear hm
  have hw1 := laid_lw hw hb1
  have awk : ∀ W, Below w.heap.size w W → Calls Tryz.prog 7 #[] W fun e w' => e = .returned (.bool true) ∧ Below w.heap.size w w' := fun W hb => (awake_c (laid_lw hw hb)).mono fun e w' h => ⟨h.1, hb.trans (h.2.mono hb.size)⟩
  have HAwk := Lib.hid awk
  clear awk
  rcases hr with rfl | ⟨rfl, h60, _, hok⟩
  · have ha := HAwk.out _ hb1
    go_wp2_with (fail)
    ((with_reducible refine ha.mono ?_); rintro e w2 ⟨rfl, hb2⟩)
    go_wp2_with (fail)
    exact bodyPost_ret (results_tmp rfl _ _ _) rfl ⟨rfl, hb2⟩
  by_cases hVL : V.length = L.length
  rotate_left
  · have ha := HAwk.out _ hb1
    have u1 : ((V.length : Int) != (L.length : Int)) = true := by simp; omega
    have u2 : (V.length == L.length) = false := by simpa using hVL
    clear hok
    go_wp2_with (fail)
    ((with_reducible refine ha.mono ?_); rintro e w2 ⟨rfl, hb2⟩)
    go_wp2_with (fail)
    exact bodyPost_ret (results_tmp rfl _ _ _) rfl ⟨rfl, hb2⟩
  have hL1 : L.length ≤ 1000 := by omega
  have hsz : ∀ y ∈ L, y.sz ≤ 1048576 := fun y h => lineOk_sz (hok y h)
  have hsz2 : ∀ y ∈ L ++ [lw0], y.sz ≤ 1048576 := fun y h => by
    rcases List.mem_append.1 h with h | h
    · exact hsz y h
    · obtain rfl := List.mem_singleton.1 h; decide
  have hK1 : ∀ g, g < w.heap.size → g < w1.heap.size := fun g hg => Nat.lt_of_lt_of_le hg hb1.size
  have hA1 := (hA.below (fun _ h => h) hb1).keep (K' := fun g => g < w1.heap.size) hK1 (fun _ _ => rfl)
  have hV1 := ia_go hAV hb1
  have hp := plan23 L hL1 V (by omega) A AV cap cV w1 _ hA1 (fun _ h => h) hV1
  unfold PlanPost at hp
  have u3 : ((L.length : Int) != (L.length : Int)) = false := by simp
  have HSZ := Lib.hid hsz
  have HSZ2 := Lib.hid hsz2
  have HVL := Lib.hid hVL
  clear hok hsz hsz2 hK1 hA hAV
  rw [hVL] at hp
  have u4 : V.length = L.length := hVL
  clear hVL
  go_wp2_with (fail)
  ((with_reducible refine hp.mono ?_); rintro e w2 ⟨⟨P, A2, c2, rfl, hp2, hPl, hPm, _⟩, hb2⟩)
  have B2 := hb1.trans (hb2.mono hb1.size)
  have hA2 := (hA1.below (fun _ h => h) hb2).keep (K' := fun g => g < w2.heap.size) (fun g hg => Nat.lt_of_lt_of_le hg hb2.size) (fun _ _ => rfl)
  have hV2 := ia_go hV1 hb2
  have s1 := solve_l canY can_y L hL1 HSZ.out P (fun p h => by have := hPm p h; omega) (by omega) V (by omega) A A2 AV cap c2 cV hcA w2 hA2 hp2 hV2 (laid_lw hw B2)
  rw [u4] at s1
  unfold SolveRet at s1
  have hsn := solveL_snoc canY L P V HVL.out
  dsimp only at hsn
  generalize solveL L (insideL L) P V (startL canY L (insideL L)) = S1 at s1 hsn
  obtain ⟨F1, N1, E1, T1⟩ := S1
  have HSn := Lib.hid hsn
  have HPm := Lib.hid hPm
  clear hp hA1 hV1 hsn hPm
  go_wp2_with (fail)
  ((with_reducible refine s1.mono ?_); rintro e w3 ⟨⟨A3, c3, rfl, i3, _, hc3⟩, hb3⟩)
  clear s1
  have B3 := B2.trans (hb3.mono B2.size)
  obtain ⟨W4, hW4⟩ : ∃ W, Hid (W = w3.alloc (.cells #[.int .i64 E1, .int .i64 T1] 33)) := ⟨_, Lib.hid rfl⟩
  have b4 : Below w3.heap.size w3 W4 := by rw [hW4.out]; exact bal (Below.refl _ _) _
  have f4 : W4.heap[w3.heap.size]? = some (.cells #[.int .i64 E1, .int .i64 T1] 33 (0, 0)) := by rw [hW4.out]; exact heap_alloc_new w3 _
  have B24 := hb3.trans (b4.mono hb3.size)
  have hA4 := (hA2.below (fun _ h => h) B24).keep (K' := fun g => g < W4.heap.size) (fun g hg => Nat.lt_of_lt_of_le hg B24.size) (fun _ _ => rfl)
  go_wp2_with (first | rw [← hW4.out] | (with_reducible show wpList _ _ _ (_ :: _) _ _; refine wpList_stop 36 rfl ?_))
  refine Lib.hid ?_
  refine app_ls W4 rfl _ (.tmp 35) rfl rfl L hL1 A cap rfl h0 hA4 (fun _ h => h) ?_
  intro v5 w5 xs hown5 hr5 hb5
  go_wp2_with (with_reducible show wpList _ _ _ (_ :: _) _ _; refine wpList_stop 39 rfl ?_)
  refine Lib.hid ?_
  refine app_l0 w5 rfl (.tmp 36) (.tmp 38) rfl W4.heap.size hb5.size L hL1 v5 xs rfl hown5 hr5 _ rfl rfl (fun _ h => h) ?_
  intro A6 w6 c6 hl6 hc6 hb6
  have B46 := hb5.trans hb6
  have hV6 := ia_go hV2 (B24.trans (B46.mono B24.size))
  go_wp2_with (with_reducible show wpList _ _ _ (_ :: _) _ _; refine wpList_stop 42 rfl ?_)
  refine Lib.hid ?_
  refine app_is w6 rfl _ (.tmp 41) rfl rfl V (by omega) AV cV (by rw [u4]; rfl) hV0 hV6 ?_
  intro v7 w7 hown7 hb7
  go_wp2_with (with_reducible show wpList _ _ _ (_ :: _) _ _; refine wpList_stop 44 rfl ?_)
  refine Lib.hid ?_
  refine app_intG w7 rfl (.tmp 42) (.tmp 43) rfl w6.heap.size hb7.size V 0 (by omega) v7 rfl hown7 _ rfl rfl ?_
  intro v8 w8 hown8 hb8 _ hz8 _
  obtain ⟨A8, c8, rfl, _, i8, _⟩ := own_ints hown8
  have B68 := hb7.trans hb8
  have B48 := B46.trans (B68.mono B46.size)
  have hl8 := (hl6.below (fun _ h => h) B68).keep (K' := fun g => g < w8.heap.size) (fun g hg => Nat.lt_of_lt_of_le hg B68.size) (fun _ _ => rfl)
  have B28 := B24.trans (B48.mono B24.size)
  have hp8 := (hp2.below B28 (Nat.le_refl _)).more B28.size
  have s2 := solve_l canY can_y (L ++ [lw0]) (by simp; omega) HSZ2.out P (fun p h => by have := HPm.out p h; omega) (by omega) (V ++ [0]) (by simp; omega) A6 A2 A8 c6 c2 c8 hc6 w8 hl8 hp8 i8 (laid_lw hw (B2.trans (B28.mono B2.size)))
  unfold SolveRet at s2
  have hsn := HSn.out
  generalize solveL (L ++ [lw0]) (insideL (L ++ [lw0])) P (V ++ [0]) (startL canY (L ++ [lw0]) (insideL (L ++ [lw0]))) = S2 at s2 hsn
  obtain ⟨F2, N2, E2, T2⟩ := S2
  obtain ⟨h2, h3⟩ := hsn
  simp only [Prod.mk.injEq] at h2
  obtain ⟨rfl, rfl, rfl⟩ := h2
  simp only [List.length_append, List.length_singleton, u4] at s2
  dsimp only at h3
  have H3 := Lib.hid h3
  clear h3 HSn
  go_wp2_with (fail)
  ((with_reducible refine s2.mono ?_); rintro e w9 ⟨⟨A9, c9, rfl, i9, _, hc9⟩, hb9⟩)
  clear s2
  obtain ⟨Wa, hWa⟩ : ∃ W, Hid (W = w9.alloc (.cells #[.int .i64 E2, .int .i64 T2] 33)) := ⟨_, Lib.hid rfl⟩
  have ba : Below w9.heap.size w9 Wa := by rw [hWa.out]; exact bal (Below.refl _ _) _
  have fa : Wa.heap[w9.heap.size]? = some (.cells #[.int .i64 E2, .int .i64 T2] 33 (0, 0)) := by rw [hWa.out]; exact heap_alloc_new w9 _
  have B4a := B48.trans ((hb9.trans (ba.mono hb9.size)).mono B48.size)
  obtain ⟨g0, g1⟩ := ia_two f4 B4a
  obtain ⟨k0, k1⟩ := ia_two fa (Below.refl _ _)
  have Ba := B2.trans ((B24.trans (B4a.mono B24.size)).mono B2.size)
  have ha := HAwk.out _ Ba
  have i3a := ia_go i3 (b4.trans (B4a.mono b4.size))
  have i9a := ia_go i9 ba
  clear i3 i9 hA2 hA4 hl6 hl8 hp2 hp8 hV2 hV6 i8 hown5 hr5 hown7 hown8 f4 fa hw1 B48 B28 B68 B46 B24 B2 B3 hb9 hb8 hb7 hb6 hb5 b4 hb3 hb2
  cases e0 : (E2 == 0)
  · have e0' : (E2 != 0) = true := by simpa using e0
    clear H3
    go_wp2_with (first | rw [← hWa.out] | fail)
    ((with_reducible refine ha.mono ?_); rintro e wb ⟨rfl, hbb⟩)
    go_wp2_with (fail)
    exact bodyPost_ret (results_tmp rfl _ _ _) rfl ⟨rfl, hbb⟩
  · have e0' : (E2 != 0) = false := by simpa using eq_of_beq e0
    obtain ⟨rfl, hF1⟩ := H3.out (eq_of_beq e0)
    obtain ⟨g9, o9, rfl, _⟩ := i9a (by simp)
    have i9p := iat_pre i9a
    have hi := ints01 F1 F1 (by omega) (by omega) A3 (some ⟨g9, o9, none⟩) c3 c9 Wa i3a i9p
    rw [decide_eq_true rfl] at hi
    simp only [List.length_append, List.length_singleton] at hc9
    have hw1 : IntKind.i64.wrap ((F1.length : Int) + 1) = (F1.length : Int) + 1 := by rw [IntWalk.i64_left]; unfold wrap64; omega
    have hc9' : (F1.length : Int) ≤ (c9 : Int) := by omega
    have awk2 : ∀ W, Below Wa.heap.size Wa W → Calls Tryz.prog 7 #[] W fun e w' => e = .returned (.bool true) ∧ Below w.heap.size w w' := fun W hb => HAwk.out _ (Ba.trans (hb.mono Ba.size))
    have HA2 := Lib.hid awk2
    rw [hF1] at hi
    clear H3 awk2 i9a i9p i3a ha
    go_wp2_with (first | rw [← hWa.out] | fail)
    ((with_reducible refine hi.mono ?_); rintro e wb ⟨rfl, hbb⟩)
    have hz := HA2.out _ hbb
    go_wp2_with (fail)
    ((with_reducible refine hz.mono ?_); rintro e wc ⟨rfl, hbc⟩)
    go_wp2_with (fail)
    exact bodyPost_ret (results_tmp rfl _ _ _) rfl ⟨rfl, hbc⟩
end Go.Proofs.YtpdkpkabdkefcaaGreatDoor
namespace Go.Proofs.YtpdkpkabdkefcaaGreatDoor
open Go.Sx Go.ChangeShapes Go.WideShapes Go.RowKit Go.Joins Go.Deep Go.Rp
theorem oneNone {w : World} {a : Addr} {v : Value} (h : w.cell? a = some v) : a.spot = none := by
  unfold World.cell? at h
  split at h
  · cases hs : a.spot with
    | none => rfl
    | some x => simp [hs] at h
  · cases h
section
variable {H : Type} {enc : TypeId × Value → H}
theorem open_linesN {W : World} {v : Value} {d : DataW H} {p : List MemPlace} {ts : List TypeId} {ds : List (DataW H)} {j : Nat} {r : Reach} {b0 : Nat} (hv : Value.okWide Tryz.prog W r b0 22 v) (h : DataW.Trod enc Tryz.prog W 0 (fun _ => true) true 22 v d p)
    (hw : (DataW.weightsEach Tryz.prog ts ds).all (· ≤ reachBytes) = true) (ht : ts[j]? = some 22) (hd : ds[j]? = some d) :
    ∃ (A : Option Addr) (cap : Nat) (L : List Lw), v = .slice A L.length cap ∧ LsAt W (fun g => g < W.heap.size) A L ∧ L.length ≤ lenMax ∧ L.length ≤ cap ∧ (A = none → cap = 0) := by
  obtain ⟨A, cap, L, rfl, h1, h2⟩ := open_linesM hv h hw ht hd
  obtain ⟨fuel, hf⟩ := h
  rcases open_slice Tryz.underlying22 hf with ⟨hc, _⟩ | ⟨a, len, cap', m, n, D, Pl, hc, _, hl, _⟩
  · simp [Value.cells] at hc
    obtain ⟨rfl, h0, rfl⟩ := hc
    exact ⟨none, 0, L, rfl, h1, h2, by simp [h0], fun _ => rfl⟩
  · simp [Value.cells] at hc
    obtain ⟨rfl, rfl, rfl⟩ := hc
    exact ⟨_, _, L, rfl, h1, h2, hl, fun h => by cases h⟩
theorem open_intsN {W : World} {r : Reach} {b0 : Nat} {v : Value} {d : DataW H} {p : List MemPlace} (hv : Value.okWide Tryz.prog W r b0 26 v)
    (h : DataW.Trod enc Tryz.prog W 0 (fun _ => true) true 26 v d p) : ∃ (A : Option Addr) (cap : Nat) (l : List Int), v = .slice A l.length cap ∧ IAt W W.heap.size A l ∧ (∀ x ∈ l, kHas .i64 x) ∧ l.length ≤ maxLen ∧ l.length ≤ cap ∧ (A = none → cap = 0) := by
  obtain ⟨fuel, hf⟩ := h
  obtain ⟨a0, n0, c0, rfl⟩ := okWide_slice Tryz.underlying26 hv
  rcases open_slice1 Tryz.underlying26 (by kernel_rfl) hf with ⟨hc, _⟩ | ⟨a, len, cap, m, n, V, D, Pl, hc, _, hl, hm, hmm, hx, hi⟩
  · simp [Value.cells] at hc
    obtain ⟨rfl, rfl, rfl⟩ := hc
    exact ⟨none, 0, [], rfl, fun h => absurd rfl h, by simp, Nat.zero_le _, Nat.zero_le _, fun _ => rfl⟩
  · simp [Value.cells] at hc
    obtain ⟨rfl, rfl, rfl⟩ := hc
    simp only [if_true] at hmm
    subst hmm
    have each : ∀ i, i < n0 → ∃ y : Int, kHas .i64 y ∧ W.cell? (a.add i) = some (.int .i64 y) := by
      intro i hin
      obtain ⟨h1, h2⟩ := hi i (by omega)
      obtain ⟨q, e, _, w⟩ := DataW.trod_int Tryz.underlying3 h2
      simp only [List.cons.injEq, and_true] at e
      exact ⟨q, wf_has w, by rw [h1, e]⟩
    have hch : ∃ F : Nat → Int, ∀ i, i < n0 → kHas .i64 (F i) ∧ W.cell? (a.add i) = some (.int .i64 (F i)) := by
      refine ⟨fun i => if h : i < n0 then Classical.choose (each i h) else 0, fun i hin => ?_⟩
      simp only [hin, dif_pos]
      exact Classical.choose_spec (each i hin)
    obtain ⟨F, hF⟩ := hch
    refine ⟨some a, _, (List.range n0).map F, by rw [List.length_map, List.length_range], ?_, ?_, by simp; omega, by simpa using hl, fun h => by cases h⟩
    · intro hne
      have hn0 : 0 < n0 := by
        rcases Nat.eq_zero_or_pos n0 with e | e
        · subst e; simp at hne
        · exact e
      have k0 := (hF 0 hn0).2
      have hsp : a.spot = none := by
        have : a.add 0 = a := by simp [Addr.add]
        rw [this] at k0
        exact oneNone k0
      have hab : a.block < W.heap.size := by
        have := World.block_lt_of_cell? W _ k0
        simpa [Addr.add] using this
      obtain ⟨ab, ao, asp⟩ := a
      simp only at hsp hab
      subst hsp
      have hadd : ∀ m n, (⟨ab, m, none⟩ : Addr).add n = ⟨ab, m + n, none⟩ := fun m n => by unfold Addr.add; split <;> simp_all
      refine ⟨ab, ao, rfl, hab, fun i x hx => ?_⟩
      have hin : i < n0 := by
        have := (List.getElem?_eq_some_iff.1 hx).1
        simpa using this
      have hx' : F i = x := by simpa [hin] using hx
      have := (hF i hin).2
      rw [hx', hadd] at this
      exact this
    · intro x hx
      obtain ⟨i, hin, rfl⟩ := List.mem_map.1 hx
      exact (hF i (by simpa using hin)).1
end
end Go.Proofs.YtpdkpkabdkefcaaGreatDoor
