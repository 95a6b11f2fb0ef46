/- For the seat: texts joined: ExI, ExJ, ExK, ExL, ExM, IsR. -/
import Derived.Test.YtpdkpkabdkefcaaGreatDoorJAe
import Derived.Deep.RegionHeldLaw
import Derived.Test.YtpdkpkabdkefcaaGreatDoorJAa
set_option maxRecDepth 100000
namespace Go.Proofs.YtpdkpkabdkefcaaGreatDoor
open Go.Sx Go.ChangeShapes Go.WideShapes Go.RowKit Go.Joins Go.Deep Go.Rp
set_option maxHeartbeats 4000000 in
theorem form17 (o n : Int) (s : Bs) (A : Option Addr) (k cap : Nat) (hs : s.length ≤ 1000000000000) (w : World) :
    Calls Tryz.prog 167 #[.agg (exC o n s A k cap)] w fun e w' => e = .returned (.bool (formP o n s k)) ∧ Below w.heap.size w w' := by
  have hn := name16 s hs
  have b0 : Below w.heap.size w (w.alloc (.cells (exC o n s A k cap) 47)) := (Below.refl _ _).alloc (Nat.le_refl _) _
  obtain ⟨d0, d1, d2, d3⟩ := cell4 (heap_alloc_new w (.cells (exC o n s A k cap) 47))
  dsimp only [exC] at b0 d0 d1 d2 d3
  have z2 : decide (n = 0) = (n == 0) := rfl
  have hF : formP o n s k = (if (o == 1) then ((k : Int) == 0) && (s.isEmpty && (decide (0 ≤ n) && decide (n < 4294967296)))
    else if (o == 2) then ((k : Int) == 0) && ((n == 0) && isNm s)
    else if (o == 3) || (o == 4) then ((k : Int) == 1) && ((n == 0) && s.isEmpty)
    else decide (5 ≤ o) && (decide (o ≤ 11) && (((k : Int) == 2) && ((n == 0) && s.isEmpty)))) := by
    have e : ∀ m : Nat, decide (k = m) = ((k : Int) == (m : Int)) := fun m => by rw [Bool.eq_iff_iff]; simp; omega
    unfold formP
    simp only [beq_iff_eq, Bool.or_eq_true, e]
    rfl
  generalize formP o n s k = R at hF
  clear z2
  have HF := Lib.hid hF
  clear hF
  go_enter Tryz.func167, Tryz.ntmps167
  cases e1 : (o == 1)
  rotate_left
  · have hF := HF.out
    rw [e1] at hF
    clear HF hn
    cases a0 : ((k : Int) == 0) <;> cases a1 : s.isEmpty <;> cases a2 : decide (0 ≤ n) <;> cases a3 : decide (n < 4294967296)
    all_goals (rw [a0, a1, a2, a3] at hF; subst hF)
    all_goals go_wp2_with (fail)
    all_goals exact bodyPost_ret (results_tmp rfl _ _ _) rfl ⟨rfl, b0⟩
  cases e2 : (o == 2)
  rotate_left
  · have hF := HF.out
    rw [e1, e2] at hF
    clear HF
    cases a0 : ((k : Int) == 0)
    · rw [a0] at hF
      subst hF
      go_wp2_with (fail)
      exact bodyPost_ret (results_tmp rfl _ _ _) rfl ⟨rfl, b0⟩
    cases a1 : (n == 0)
    · rw [a0, a1] at hF
      subst hF
      go_wp2_with (fail)
      exact bodyPost_ret (results_tmp rfl _ _ _) rfl ⟨rfl, b0⟩
    rw [a0, a1] at hF
    subst hF
    go_wp2_with (fail)
    ((with_reducible refine (hn _).mono ?_); rintro e w1 ⟨rfl, rfl⟩)
    go_wp2_with (fail)
    exact bodyPost_ret (results_tmp rfl _ _ _) rfl ⟨rfl, b0⟩
  clear hn
  cases e3 : (o == 3)
  rotate_left
  · have hF := HF.out
    rw [e1, e2, e3] at hF
    clear HF
    cases a0 : ((k : Int) == 1) <;> cases a1 : (n == 0) <;> cases a2 : s.isEmpty
    all_goals (rw [a0, a1, a2] at hF; subst hF)
    all_goals go_wp2_with (fail)
    all_goals exact bodyPost_ret (results_tmp rfl _ _ _) rfl ⟨rfl, b0⟩
  cases e4 : (o == 4)
  rotate_left
  · have hF := HF.out
    rw [e1, e2, e3, e4] at hF
    clear HF
    cases a0 : ((k : Int) == 1) <;> cases a1 : (n == 0) <;> cases a2 : s.isEmpty
    all_goals (rw [a0, a1, a2] at hF; subst hF)
    all_goals go_wp2_with (fail)
    all_goals exact bodyPost_ret (results_tmp rfl _ _ _) rfl ⟨rfl, b0⟩
  have hF := HF.out
  rw [e1, e2, e3, e4] at hF
  clear HF
  cases a5 : decide (5 ≤ o)
  · rw [a5] at hF
    subst hF
    go_wp2_with (fail)
    exact bodyPost_ret (results_tmp rfl _ _ _) rfl ⟨rfl, b0⟩
  cases a6 : decide (o ≤ 11)
  · rw [a5, a6] at hF
    subst hF
    go_wp2_with (fail)
    exact bodyPost_ret (results_tmp rfl _ _ _) rfl ⟨rfl, b0⟩
  cases a0 : ((k : Int) == 2) <;> cases a1 : (n == 0) <;> cases a2 : s.isEmpty
  all_goals (rw [a5, a6, a0, a1, a2] at hF; subst hF)
  all_goals go_wp2_with (fail)
  all_goals exact bodyPost_ret (results_tmp rfl _ _ _) rfl ⟨rfl, b0⟩
theorem partsL_at {a : List Et} {i : Nat} (h : i < a.length) (d l : Int) : Et.partsL (a.drop i) d l = if l < 0 then l else Et.partsL (a.drop (i + 1)) d (a[i].parts d l) := by
  rw [List.drop_eq_getElem_cons h, Et.partsL]
theorem partsL_neg (d l : Int) (hl : l < 0) : ∀ a : List Et, Et.partsL a d l = l
  | [] => rfl
  | x :: r => by rw [Et.partsL, if_pos hl]
theorem parts_le : ∀ (x : Et) (d l : Int), -1 ≤ l → -1 ≤ x.parts d l ∧ (x.parts d l ≤ l ∨ x.parts d l = -1) := by
  refine Et.ind fun o n s a ih d l hl => ?_
  rw [Et.parts]
  split
  · omega
  · rename_i hc
    have key : ∀ (a : List Et), (∀ x ∈ a, ∀ d l, -1 ≤ l → -1 ≤ x.parts d l ∧ (x.parts d l ≤ l ∨ x.parts d l = -1)) → ∀ d l : Int, -1 ≤ l → -1 ≤ Et.partsL a d l ∧ (Et.partsL a d l ≤ l ∨ Et.partsL a d l = -1) := by
      intro a
      induction a with
      | nil => intro _ d l hl; rw [Et.partsL]; omega
      | cons x r ihr =>
        intro hx d l hl
        rw [Et.partsL]
        split
        · omega
        · have h1 := hx x (by simp) d l hl
          have h2 := ihr (fun y hy => hx y (by simp [hy])) d (x.parts d l) h1.1
          omega
    have := key a ih (d - 1) (l - 1) (by omega)
    omega
set_option maxHeartbeats 4000000 in
theorem parts17 : ∀ (x : Et) (v : Value) (d l : Int) (w : World) (K : Nat → Prop), ExAt w K x v → (∀ g, K g → g < w.heap.size) → x.nms = true → d ≤ 1000000 → -1 ≤ l → l ≤ 1000000 →
    Calls Tryz.prog 136 #[v, .int .i64 d, .int .i64 l] w fun e w' => e = .returned (.int .i64 (x.parts d l)) ∧ Below w.heap.size w w' := by
  refine Et.ind fun o n s a ih v d l w K h hK hnm hd hl hl2 => ?_
  simp only [ExAt] at h
  obtain ⟨A, cap, rfl, hs, ⟨hal, hsl⟩, hr⟩ := h
  unfold lenMax at hal
  rw [Et.nms, Bool.and_eq_true] at hnm
  have hsn := of_decide_eq_true hnm.1
  have hnma := nmsL_mem hnm.2
  have hR : (Et.mk o n s a).parts d l = if d < 1 ∨ l - 1 < 0 ∨ formP o n s a.length = false then -1 else Et.partsL a (d - 1) (l - 1) := by rw [Et.parts]
  generalize (Et.mk o n s a).parts d l = R at hR
  have HR := Lib.hid hR
  clear hR
  have b0 : Below w.heap.size w (w.alloc (.cells (exC o n s A a.length cap) 47)) := (Below.refl _ _).alloc (Nat.le_refl _) _
  have hw0 : (w.alloc (.cells (exC o n s A a.length cap) 47)).heap[w.heap.size]? = some (.cells (exC o n s A a.length cap) 47 (0, 0)) := heap_alloc_new w _
  have hs0 : (w.alloc (.cells (exC o n s A a.length cap) 47)).heap.size = w.heap.size + 1 := by simp
  have hf := form17 o n s A a.length cap (by omega) (w.alloc (.cells (exC o n s A a.length cap) 47))
  obtain ⟨d0, d1, d2, d3⟩ := cell4 hw0
  dsimp only [exC] at b0 hw0 hs0 hf d0 d1 d2 d3
  go_enter Tryz.func136, Tryz.ntmps136
  cases u : decide (d < 1)
  rotate_left
  · have := of_decide_eq_true u
    obtain rfl : R = -1 := by rw [HR.out, if_pos (.inl this)]
    clear HR hf
    go_wp2_with (fail)
    exact bodyPost_ret (results_tmp rfl _ _ _) rfl ⟨rfl, b0⟩
  have hd1 := of_decide_eq_false u
  cases u2 : decide (l - 1 < 0)
  rotate_left
  · have := of_decide_eq_true u2
    obtain rfl : R = -1 := by rw [HR.out, if_pos (.inr (.inl this))]
    clear HR hf
    go_wp2_with (fail)
    exact bodyPost_ret (results_tmp rfl _ _ _) rfl ⟨rfl, b0⟩
  have hl1 := of_decide_eq_false u2
  go_wp2_with (fail)
  ((with_reducible refine hf.mono ?_); rintro e w1 ⟨rfl, hb1⟩)
  clear hf d0 d1 d2 d3
  cases u3 : formP o n s a.length
  · obtain rfl : R = -1 := by rw [HR.out, if_pos (.inr (.inr u3))]
    clear HR
    go_wp2_with (fail)
    exact bodyPost_ret (results_tmp rfl _ _ _) rfl ⟨rfl, b0.trans (hb1.mono (by omega))⟩
  have hR : R = Et.partsL a (d - 1) (l - 1) := by
    rw [HR.out, if_neg]
    rintro (h | h | h)
    · omega
    · omega
    · rw [u3] at h; cases h
  clear HR
  have HR := Lib.hid hR
  clear hR
  go_wp2_with (fail)
  generalize w.alloc (.cells #[.int .i64 o, .int .i64 n, .string (tx s), .slice A a.length cap] 47) = W0 at b0 hw0 hs0 hb1
  go_loopw [2, 7] (fun q t wr => ∃ (i : Nat) (m : Int), t = .int .i64 i ∧ q = .int .i64 m ∧ i ≤ a.length ∧ -1 ≤ m ∧ m ≤ 1000000 ∧ Hid (R = Et.partsL (a.drop i) (d - 1) m) ∧ Below W0.heap.size W0 wr) (fun _ t _ => a.length - (intOf t).toNat)
  case atStart => exact ⟨0, l - 1, rfl, rfl, by omega, by omega, by omega, HR, hb1⟩
  case round =>
    obtain ⟨i, m, rfl, rfl, hi, hm0, hm1, he, hb⟩ := hrel
    clear HR u2
    have c3 := (cell4 ((hb.block w.heap.size (by omega)).trans hw0)).2.2.2
    by_cases hlt : i < a.length
    · have u0 : decide ((i : Int) < (a.length : Int)) = true := decide_eq_true (by omega)
      cases u4 : decide (0 ≤ m)
      · have hmn := of_decide_eq_false u4
        have he1 := he.out
        rw [partsL_neg _ _ (by omega)] at he1
        subst he1
        clear he ih hr
        go_wp2_with (fail)
        exact bodyPost_ret (results_tmp rfl _ _ _) rfl ⟨rfl, b0.trans (hb.mono (by omega))⟩
      have hmp := of_decide_eq_true u4
      obtain ⟨g, off, rfl, hg, hrow⟩ := hr (by rintro rfl; simp at hlt)
      obtain ⟨C, hC, hc⟩ := ExRow.at_ a off i hlt hrow
      obtain ⟨o', n', s', A2, k2, cap2, hC'⟩ := hC.cells
      obtain rfl := Value.agg.inj hC'
      have hbw : Below w.heap.size w wr := b0.trans (hb.mono (by omega))
      have hgl := hK g hg
      have k0 := (hbw.cell (p := ⟨g, off + i * 4 + 0, none⟩) hgl).trans (hc 0 _ rfl)
      have k1 := (hbw.cell (p := ⟨g, off + i * 4 + 1, none⟩) hgl).trans (hc 1 _ rfl)
      have k2' := (hbw.cell (p := ⟨g, off + i * 4 + 2, none⟩) hgl).trans (hc 2 _ rfl)
      have k3 := (hbw.cell (p := ⟨g, off + i * 4 + 3, none⟩) hgl).trans (hc 3 _ rfl)
      rw [Nat.add_zero] at k0
      have hu := ih a[i] (List.getElem_mem hlt) _ (d - 1) m wr K (hC.below hbw hK) (fun g hg => Nat.lt_of_lt_of_le (hK g hg) hbw.size) (hnma _ (List.getElem_mem hlt)) (by omega) hm0 hm1
      have hpl := parts_le a[i] (d - 1) m hm0
      have he1 := he.out
      rw [partsL_at hlt, if_neg (by omega)] at he1
      generalize a[i].parts (d - 1) m = q at hu he1 hpl
      have HE := Lib.hid he1
      clear he1 he hc hC ih hrow hr hnma
      go_wp2_with (fail)
      ((with_reducible refine hu.mono ?_); rintro e w2 ⟨rfl, hb2⟩)
      have hb3 : Below W0.heap.size W0 w2 := hb.trans (hb2.mono hb.size)
      have hi1 : (i : Int) + 1 ≤ 9223372036854775807 := by omega
      go_wp2_with (fail)
      go_roundw
      case rel => exact ⟨i + 1, q, by go_num, rfl, by omega, hpl.1, by omega, HE, hb3⟩
      case measure => simp [intOf]; omega
    · obtain rfl : i = a.length := by omega
      have he1 := he.out
      rw [List.drop_eq_nil_of_le (Nat.le_refl _), Et.partsL] at he1
      subst he1
      clear he ih hr
      have u0 : decide ((a.length : Int) < (a.length : Int)) = false := decide_eq_false (by omega)
      go_wp2_with (fail)
      exact bodyPost_ret (results_tmp rfl _ _ _) rfl ⟨rfl, b0.trans (hb.mono (by omega))⟩
end Go.Proofs.YtpdkpkabdkefcaaGreatDoor
namespace Go.Proofs.YtpdkpkabdkefcaaGreatDoor
open Go.Sx Go.ChangeShapes Go.WideShapes Go.RowKit Go.Joins Go.Deep Go.Rp
theorem level17 (o : Int) (w : World) : Calls Tryz.prog 138 #[.int .i64 o] w fun e w' => e = .returned (.int .i64 (lvlX o)) ∧ w' = w := by
  have hF : lvlX o = (if (o == 9) then 1 else if (o == 8) then 2 else if (o == 10) || (o == 11) then 3 else if (o == 5) || (o == 6) then 4 else if (o == 7) then 5 else 6) := by simp [lvlX]
  generalize lvlX o = R at hF
  go_enter Tryz.func138, Tryz.ntmps138
  cases e9 : (o == 9)
  rotate_left
  · rw [e9] at hF
    subst hF
    go_wp2_with (fail)
    exact bodyPost_ret (results_tmp rfl _ _ _) rfl ⟨rfl, rfl⟩
  cases e8 : (o == 8)
  rotate_left
  · rw [e9, e8] at hF
    subst hF
    go_wp2_with (fail)
    exact bodyPost_ret (results_tmp rfl _ _ _) rfl ⟨rfl, rfl⟩
  cases e10 : (o == 10)
  rotate_left
  · rw [e9, e8, e10] at hF
    subst hF
    go_wp2_with (fail)
    exact bodyPost_ret (results_tmp rfl _ _ _) rfl ⟨rfl, rfl⟩
  cases e11 : (o == 11)
  rotate_left
  · rw [e9, e8, e10, e11] at hF
    subst hF
    go_wp2_with (fail)
    exact bodyPost_ret (results_tmp rfl _ _ _) rfl ⟨rfl, rfl⟩
  cases e5 : (o == 5)
  rotate_left
  · rw [e9, e8, e10, e11, e5] at hF
    subst hF
    go_wp2_with (fail)
    exact bodyPost_ret (results_tmp rfl _ _ _) rfl ⟨rfl, rfl⟩
  cases e6 : (o == 6)
  rotate_left
  · rw [e9, e8, e10, e11, e5, e6] at hF
    subst hF
    go_wp2_with (fail)
    exact bodyPost_ret (results_tmp rfl _ _ _) rfl ⟨rfl, rfl⟩
  cases e7 : (o == 7)
  rotate_left
  · rw [e9, e8, e10, e11, e5, e6, e7] at hF
    subst hF
    go_wp2_with (fail)
    exact bodyPost_ret (results_tmp rfl _ _ _) rfl ⟨rfl, rfl⟩
  rw [e9, e8, e10, e11, e5, e6, e7] at hF
  subst hF
  go_wp2_with (fail)
  exact bodyPost_ret (results_tmp rfl _ _ _) rfl ⟨rfl, rfl⟩
theorem sign17 (o : Int) (w : World) : Calls Tryz.prog 139 #[.int .i64 o] w fun e w' => e = .returned (.string (tx (sgnX o))) ∧ w' = w := by
  have hF : sgnX o = (if (o == 9) then [124] else if (o == 8) then [38] else if (o == 10) then [60, 60] else if (o == 11) then [62, 62] else if (o == 5) then [43] else if (o == 6) then [45] else [42]) := by simp [sgnX]
  generalize sgnX o = R at hF
  go_enter Tryz.func139, Tryz.ntmps139
  cases e9 : (o == 9)
  rotate_left
  · rw [e9] at hF
    subst hF
    go_wp2_with (fail)
    exact bodyPost_ret (results_tmp rfl _ _ _) rfl ⟨rfl, rfl⟩
  cases e8 : (o == 8)
  rotate_left
  · rw [e9, e8] at hF
    subst hF
    go_wp2_with (fail)
    exact bodyPost_ret (results_tmp rfl _ _ _) rfl ⟨rfl, rfl⟩
  cases e10 : (o == 10)
  rotate_left
  · rw [e9, e8, e10] at hF
    subst hF
    go_wp2_with (fail)
    exact bodyPost_ret (results_tmp rfl _ _ _) rfl ⟨rfl, rfl⟩
  cases e11 : (o == 11)
  rotate_left
  · rw [e9, e8, e10, e11] at hF
    subst hF
    go_wp2_with (fail)
    exact bodyPost_ret (results_tmp rfl _ _ _) rfl ⟨rfl, rfl⟩
  cases e5 : (o == 5)
  rotate_left
  · rw [e9, e8, e10, e11, e5] at hF
    subst hF
    go_wp2_with (fail)
    exact bodyPost_ret (results_tmp rfl _ _ _) rfl ⟨rfl, rfl⟩
  cases e6 : (o == 6)
  rotate_left
  · rw [e9, e8, e10, e11, e5, e6] at hF
    subst hF
    go_wp2_with (fail)
    exact bodyPost_ret (results_tmp rfl _ _ _) rfl ⟨rfl, rfl⟩
  rw [e9, e8, e10, e11, e5, e6] at hF
  subst hF
  go_wp2_with (fail)
  exact bodyPost_ret (results_tmp rfl _ _ _) rfl ⟨rfl, rfl⟩
theorem digsQ_len (n : Nat) : ∀ f, n < 10 ^ f → (digsQ n).length ≤ f := by
  intro f
  induction f generalizing n with
  | zero => intro h; rw [digsQ, if_pos (by simpa using h)]; simp
  | succ f ih =>
    intro h
    rw [digsQ]
    split
    · simp
    · rw [List.length_append]
      have := ih (n / 10) (by rw [Nat.pow_succ] at h; omega)
      simp; omega
theorem digsN_len {n : Nat} (hn : n < 10 ^ 19) : (digsN n).length ≤ 20 := by
  unfold digsN
  rw [List.length_append]
  have := digsQ_len (n / 10) 19 (by omega)
  simp; omega
theorem partsL_nn {d : Int} : ∀ {a : List Et} {l : Int}, 0 ≤ Et.partsL a d l → 0 ≤ l
  | [], l, h => by rw [Et.partsL] at h; exact h
  | x :: r, l, h => by
    rw [Et.partsL] at h
    split at h <;> omega
theorem partT_len (p : Int × Bs) (m : Int) : (Rp.partT p m).length ≤ p.2.length + 2 := by
  unfold Rp.partT
  split <;> simp
theorem text_len : ∀ (x : Et) (d l : Int), 0 ≤ x.parts d l → (x.text.length : Int) + 2 ≤ 40 * (l - x.parts d l) := by
  refine Et.ind fun o n s a ih d l h => ?_
  rw [Et.parts] at h ⊢
  split at h
  · omega
  rename_i hc
  rw [if_neg hc]
  have hf : formP o n s a.length = true := by
    cases hq : formP o n s a.length
    · exact absurd (.inr (.inr hq)) hc
    · rfl
  rw [Et.text]
  unfold textP
  unfold formP at hf
  have hl := partsL_nn h
  by_cases o1 : o = 1
  · rw [if_pos o1] at hf ⊢
    simp only [Bool.and_eq_true, decide_eq_true_eq] at hf
    obtain ⟨h0, _, h2, h3⟩ := hf
    obtain rfl := List.eq_nil_of_length_eq_zero h0
    have := digsN_len (n := n.toNat) (by omega)
    rw [Et.partsL] at h ⊢
    omega
  rw [if_neg o1] at hf ⊢
  by_cases o2 : o = 2
  · rw [if_pos o2] at hf ⊢
    simp only [Bool.and_eq_true, decide_eq_true_eq] at hf
    obtain ⟨h0, _, h2⟩ := hf
    obtain rfl := List.eq_nil_of_length_eq_zero h0
    unfold isNm at h2
    simp only [Bool.and_eq_true, decide_eq_true_eq] at h2
    have h3 := h2.1.1.2
    rw [Et.partsL] at h ⊢
    omega
  rw [if_neg o2] at hf ⊢
  by_cases o3 : o = 3 ∨ o = 4
  · rw [if_pos o3] at hf
    simp only [Bool.and_eq_true, decide_eq_true_eq] at hf
    obtain ⟨h0, _⟩ := hf
    match a, h0, ih, h with
    | [x], _, ih, h =>
      simp only [Et.partsL] at h ⊢
      have hl0 : ¬ (l - 1 < 0) := by omega
      rw [if_neg hl0] at h ⊢
      have := ih x (by simp) (d - 1) (l - 1) h
      have k := partT_len (x.op, x.text) 6
      simp only [Et.textL, List.getD_cons_zero]
      have k2 : x.text.length + 2 = (x.op, x.text).2.length + 2 := rfl
      rw [← k2] at k
      generalize (Rp.partT (x.op, x.text) 6) = pt at k ⊢
      split
      · simp only [List.length_append, List.length_cons, List.length_nil]
        omega
      · rename_i hne
        rw [if_pos (o3.resolve_left hne)]
        simp only [List.length_append, List.length_cons, List.length_nil]
        omega
  rw [if_neg o3] at hf
  rw [if_neg (fun h => o3 (.inl h)), if_neg (fun h => o3 (.inr h))]
  simp only [Bool.and_eq_true, decide_eq_true_eq] at hf
  obtain ⟨_, _, h0, _⟩ := hf
  match a, h0, ih, h with
  | [x, y], _, ih, h =>
    simp only [Et.partsL] at h ⊢
    have hl0 : ¬ (l - 1 < 0) := by omega
    rw [if_neg hl0] at h ⊢
    split at h
    · omega
    rename_i hx
    rw [if_neg hx]
    have k1 := ih x (by simp) (d - 1) (l - 1) (by omega)
    have k2 := ih y (by simp) (d - 1) _ h
    have m1 := partT_len (x.op, x.text) (lvlX o)
    have m2 := partT_len (y.op, y.text) (lvlX o + 1)
    have m3 : (sgnX o).length ≤ 2 := by
      unfold sgnX
      split; simp
      split; simp
      split; simp
      split; simp
      split; simp
      split <;> simp
    simp only [Et.textL, List.getD_cons_zero, List.getD_cons_succ, List.length_append, List.length_cons, List.length_nil] at m1 m2 ⊢
    omega
end Go.Proofs.YtpdkpkabdkefcaaGreatDoor
namespace Go.Proofs.YtpdkpkabdkefcaaGreatDoor
open Go.Sx Go.ChangeShapes Go.WideShapes Go.RowKit Go.Joins Go.Deep Go.Rp
def TextOk (x : Et) : Prop := ∀ (v : Value) (w : World) (K : Nat → Prop), ExAt w K x v → (∀ g, K g → g < w.heap.size) →
  Calls Tryz.prog 99 #[v] w fun e w' => e = .returned (.string (tx x.text)) ∧ Below w.heap.size w w'
theorem tx_wrap (l : Bs) : (⟨#[40]⟩ : ByteArray) ++ tx l ++ ⟨#[41]⟩ = tx ([40] ++ l ++ [41]) := by
  rw [show (⟨#[40]⟩ : ByteArray) = tx [40] from rfl, show (⟨#[41]⟩ : ByteArray) = tx [41] from rfl, tx_app, tx_app]
set_option maxHeartbeats 4000000 in
theorem part17 {x : Et} (hx : TextOk x) (hlen : x.text.length ≤ 100000) (m : Int) (v : Value) (w : World) (K : Nat → Prop) (h : ExAt w K x v) (hK : ∀ g, K g → g < w.heap.size) :
    Calls Tryz.prog 137 #[v, .int .i64 m] w fun e w' => e = .returned (.string (tx (Rp.partT (x.op, x.text) m))) ∧ Below w.heap.size w w' := by
  obtain ⟨o, n, s, a⟩ := x
  have h' := h
  simp only [ExAt] at h
  obtain ⟨A, cap, rfl, _⟩ := h
  have b0 : Below w.heap.size w (w.alloc (.cells (exC o n s A a.length cap) 47)) := (Below.refl _ _).alloc (Nat.le_refl _) _
  obtain ⟨d0, d1, d2, d3⟩ := cell4 (heap_alloc_new w (.cells (exC o n s A a.length cap) 47))
  have ht := hx _ (w.alloc (.cells (exC o n s A a.length cap) 47)) K (h'.below b0 hK) (fun g hg => Nat.lt_of_lt_of_le (hK g hg) b0.size)
  dsimp only [exC] at b0 d0 d1 d2 d3 ht
  have hR : Rp.partT ((Et.mk o n s a).op, (Et.mk o n s a).text) m = if lvlX o < m then [40] ++ (Et.mk o n s a).text ++ [41] else (Et.mk o n s a).text := rfl
  rw [hR]
  clear hR h' hx
  generalize (Et.mk o n s a).text = L at ht hlen ⊢
  have hl := level17 o
  generalize lvlX o = q at hl ⊢
  cases u : decide (q < m)
  · rw [if_neg (of_decide_eq_false u)]
    go_enter Tryz.func137, Tryz.ntmps137
    go_wp2_with (fail)
    ((with_reducible refine (hl _).mono ?_); rintro e w1 ⟨rfl, rfl⟩)
    go_wp2_with (fail)
    ((with_reducible refine ht.mono ?_); rintro e w1 ⟨rfl, hb1⟩)
    go_wp2_with (fail)
    exact bodyPost_ret (results_tmp rfl _ _ _) rfl ⟨rfl, b0.trans (hb1.mono b0.size)⟩
  · rw [if_pos (of_decide_eq_true u), ← tx_wrap]
    go_enter Tryz.func137, Tryz.ntmps137
    go_wp2_with (fail)
    ((with_reducible refine (hl _).mono ?_); rintro e w1 ⟨rfl, rfl⟩)
    go_wp2_with (fail)
    ((with_reducible refine ht.mono ?_); rintro e w1 ⟨rfl, hb1⟩)
    go_wp2_with (fail)
    exact bodyPost_ret (results_tmp rfl _ _ _) rfl ⟨rfl, b0.trans (hb1.mono b0.size)⟩
theorem parts_kid {o n : Int} {s : Bs} {a : List Et} {d l : Int} (h : 0 ≤ (Et.mk o n s a).parts d l) : formP o n s a.length = true ∧ 0 ≤ Et.partsL a (d - 1) (l - 1) := by
  rw [Et.parts] at h
  split at h
  · omega
  · rename_i hc
    refine ⟨?_, h⟩
    cases hq : formP o n s a.length
    · exact absurd (.inr (.inr hq)) hc
    · rfl
set_option maxHeartbeats 8000000 in
theorem text17 : ∀ (x : Et) (d l : Int), 0 ≤ x.parts d l → l ≤ 1000 → TextOk x := by
  refine Et.ind fun o n s a ih d l hp0 hl v w K h hK => ?_
  obtain ⟨hf, hp⟩ := parts_kid hp0
  have hl0 := partsL_nn hp
  simp only [ExAt] at h
  obtain ⟨A, cap, rfl, hs, ⟨hal, hsl⟩, hr⟩ := h
  have b0 : Below w.heap.size w (w.alloc (.cells (exC o n s A a.length cap) 47)) := (Below.refl _ _).alloc (Nat.le_refl _) _
  obtain ⟨d0, d1, d2, d3⟩ := cell4 (heap_alloc_new w (.cells (exC o n s A a.length cap) 47))
  dsimp only [exC] at b0 d0 d1 d2 d3
  by_cases o1 : o = 1
  · subst o1
    have hk : a.length = 0 ∧ 0 ≤ n ∧ n < 4294967296 := by
      unfold formP at hf
      simp at hf
      exact ⟨by simpa using hf.1, hf.2.2.1, hf.2.2.2⟩
    obtain rfl := List.eq_nil_of_length_eq_zero hk.1
    obtain ⟨k, rfl⟩ : ∃ k : Nat, n = k := ⟨n.toNat, by omega⟩
    have hu := digits16 k (by omega)
    have hR : (Et.mk 1 (k : Int) s []).text = digsN k := rfl
    rw [hR]
    generalize digsN k = L at hu ⊢
    clear hr ih
    go_enter Tryz.func99, Tryz.ntmps99
    go_wp2_with (fail)
    ((with_reducible refine (hu _).mono ?_); rintro e w1 ⟨rfl, rfl⟩)
    go_wp2_with (fail)
    exact bodyPost_ret (results_tmp rfl _ _ _) rfl ⟨rfl, b0⟩
  by_cases o2 : o = 2
  · subst o2
    have hR : (Et.mk 2 n s a).text = s := rfl
    rw [hR]
    clear hr ih
    go_enter Tryz.func99, Tryz.ntmps99
    go_wp2_with (fail)
    exact bodyPost_ret (results_tmp rfl _ _ _) rfl ⟨rfl, b0⟩
  by_cases o3 : o = 3
  · subst o3
    have hk : a.length = 1 := by
      unfold formP at hf
      simp at hf
      exact hf.1
    match a, hk, ih, hp, hr with
    | [x], _, ih, hp, hr =>
      rw [Et.partsL] at hp
      split at hp
      · omega
      rw [Et.partsL] at hp
      obtain ⟨g, off, rfl, hg, hrow⟩ := hr (by simp)
      obtain ⟨C, hC, hc⟩ := ExRow.at_ [x] off 0 (by simp) hrow
      obtain ⟨o', n', s', A2, k2, cap2, hC'⟩ := hC.cells
      obtain rfl := Value.agg.inj hC'
      have hgl := hK g hg
      have hlen := text_len x _ _ hp
      have b0 : Below w.heap.size w (w.alloc (.cells (exC 3 n s (some ⟨g, off, none⟩) 1 cap) 47)) := b0
      have d0 : (w.alloc (.cells (exC 3 n s (some ⟨g, off, none⟩) 1 cap) 47)).cell? ⟨w.heap.size, 0, none⟩ = some (.int .i64 3) := d0
      have d3 : (w.alloc (.cells (exC 3 n s (some ⟨g, off, none⟩) 1 cap) 47)).cell? ⟨w.heap.size, 3, none⟩ = some (.slice (some ⟨g, off, none⟩) 1 cap) := d3
      clear d1 d2
      have hu := part17 (ih x (by simp) _ _ hp (by omega)) (by omega) 6 _ (w.alloc (.cells (exC 3 n s (some ⟨g, off, none⟩) 1 cap) 47)) K (hC.below b0 hK) (fun g hg => Nat.lt_of_lt_of_le (hK g hg) b0.size)
      have k0 := (b0.cell (p := ⟨g, off + 0 * 4 + 0, none⟩) hgl).trans (hc 0 _ rfl)
      have k1 := (b0.cell (p := ⟨g, off + 0 * 4 + 1, none⟩) hgl).trans (hc 1 _ rfl)
      have k2' := (b0.cell (p := ⟨g, off + 0 * 4 + 2, none⟩) hgl).trans (hc 2 _ rfl)
      have k3 := (b0.cell (p := ⟨g, off + 0 * 4 + 3, none⟩) hgl).trans (hc 3 _ rfl)
      simp only [Nat.zero_mul, Nat.add_zero] at k0 k1 k2' k3
      have hR : (Et.mk 3 n s [x]).text = [45] ++ Rp.partT (x.op, x.text) 6 := rfl
      rw [hR, ← tx_app]
      have hpl := partT_len (x.op, x.text) 6
      have hpl2 : (Rp.partT (x.op, x.text) 6).length ≤ 100000 := by
        have : (x.op, x.text).2.length = x.text.length := rfl
        omega
      generalize Rp.partT (x.op, x.text) 6 = L at hu hpl2 ⊢
      clear hpl hlen hc hC hrow hr ih hC'
      dsimp only [exC] at hu b0 d0 d3 k0 k1 k2' k3
      go_enter Tryz.func99, Tryz.ntmps99
      go_wp2_with (fail)
      ((with_reducible refine hu.mono ?_); rintro e w1 ⟨rfl, hb1⟩)
      go_wp2_with (fail)
      exact bodyPost_ret (results_tmp rfl _ _ _) rfl ⟨rfl, b0.trans (hb1.mono b0.size)⟩
  by_cases o4 : o = 4
  · subst o4
    have hk : a.length = 1 := by
      unfold formP at hf
      simp at hf
      exact hf.1
    match a, hk, ih, hp, hr with
    | [x], _, ih, hp, hr =>
      rw [Et.partsL] at hp
      split at hp
      · omega
      rw [Et.partsL] at hp
      obtain ⟨g, off, rfl, hg, hrow⟩ := hr (by simp)
      obtain ⟨C, hC, hc⟩ := ExRow.at_ [x] off 0 (by simp) hrow
      obtain ⟨o', n', s', A2, k2, cap2, hC'⟩ := hC.cells
      obtain rfl := Value.agg.inj hC'
      have hgl := hK g hg
      have hlen := text_len x _ _ hp
      have b0 : Below w.heap.size w (w.alloc (.cells (exC 4 n s (some ⟨g, off, none⟩) 1 cap) 47)) := b0
      have d0 : (w.alloc (.cells (exC 4 n s (some ⟨g, off, none⟩) 1 cap) 47)).cell? ⟨w.heap.size, 0, none⟩ = some (.int .i64 4) := d0
      have d3 : (w.alloc (.cells (exC 4 n s (some ⟨g, off, none⟩) 1 cap) 47)).cell? ⟨w.heap.size, 3, none⟩ = some (.slice (some ⟨g, off, none⟩) 1 cap) := d3
      clear d1 d2
      have hu := part17 (ih x (by simp) _ _ hp (by omega)) (by omega) 6 _ (w.alloc (.cells (exC 4 n s (some ⟨g, off, none⟩) 1 cap) 47)) K (hC.below b0 hK) (fun g hg => Nat.lt_of_lt_of_le (hK g hg) b0.size)
      have k0 := (b0.cell (p := ⟨g, off + 0 * 4 + 0, none⟩) hgl).trans (hc 0 _ rfl)
      have k1 := (b0.cell (p := ⟨g, off + 0 * 4 + 1, none⟩) hgl).trans (hc 1 _ rfl)
      have k2' := (b0.cell (p := ⟨g, off + 0 * 4 + 2, none⟩) hgl).trans (hc 2 _ rfl)
      have k3 := (b0.cell (p := ⟨g, off + 0 * 4 + 3, none⟩) hgl).trans (hc 3 _ rfl)
      simp only [Nat.zero_mul, Nat.add_zero] at k0 k1 k2' k3
      have hR : (Et.mk 4 n s [x]).text = [126] ++ Rp.partT (x.op, x.text) 6 := rfl
      rw [hR, ← tx_app]
      have hpl := partT_len (x.op, x.text) 6
      have hpl2 : (Rp.partT (x.op, x.text) 6).length ≤ 100000 := by
        have : (x.op, x.text).2.length = x.text.length := rfl
        omega
      generalize Rp.partT (x.op, x.text) 6 = L at hu hpl2 ⊢
      clear hpl hlen hc hC hrow hr ih hC'
      dsimp only [exC] at hu b0 d0 d3 k0 k1 k2' k3
      go_enter Tryz.func99, Tryz.ntmps99
      go_wp2_with (fail)
      ((with_reducible refine hu.mono ?_); rintro e w1 ⟨rfl, hb1⟩)
      go_wp2_with (fail)
      exact bodyPost_ret (results_tmp rfl _ _ _) rfl ⟨rfl, b0.trans (hb1.mono b0.size)⟩
  have hk : a.length = 2 := by
    unfold formP at hf
    rw [if_neg o1, if_neg o2, if_neg (fun h => h.elim o3 o4)] at hf
    simp at hf
    exact hf.2.2.1
  match a, hk, ih, hp, hr with
  | [x, y], _, ih, hp, hr =>
    rw [Et.partsL] at hp
    split at hp
    · omega
    rename_i hl1
    rw [Et.partsL] at hp
    split at hp
    · omega
    rename_i hx0
    rw [Et.partsL] at hp
    have hx0 : 0 ≤ x.parts (d - 1) (l - 1) := by omega
    have hxl := parts_le x (d - 1) (l - 1) (by omega)
    obtain ⟨g, off, rfl, hg, hrow⟩ := hr (by simp)
    obtain ⟨C, hC, hc⟩ := ExRow.at_ [x, y] off 0 (by simp) hrow
    obtain ⟨o', n', s', A2, k2, cap2, hC'⟩ := hC.cells
    obtain rfl := Value.agg.inj hC'
    obtain ⟨D, hD, hd⟩ := ExRow.at_ [x, y] off 1 (by simp) hrow
    obtain ⟨p', q', r', A3, k3, cap3, hD'⟩ := hD.cells
    obtain rfl := Value.agg.inj hD'
    have hgl := hK g hg
    have hlen := text_len x _ _ hx0
    have hlen2 := text_len y _ _ hp
    have b0 : Below w.heap.size w (w.alloc (.cells (exC o n s (some ⟨g, off, none⟩) 2 cap) 47)) := b0
    have e0 : (w.alloc (.cells (exC o n s (some ⟨g, off, none⟩) 2 cap) 47)).cell? ⟨w.heap.size, 0, none⟩ = some (.int .i64 o) := d0
    have e3 : (w.alloc (.cells (exC o n s (some ⟨g, off, none⟩) 2 cap) 47)).cell? ⟨w.heap.size, 3, none⟩ = some (.slice (some ⟨g, off, none⟩) 2 cap) := d3
    have hs0 : (w.alloc (.cells (exC o n s (some ⟨g, off, none⟩) 2 cap) 47)).heap.size = w.heap.size + 1 := by simp
    clear d0 d1 d2 d3
    have hR : (Et.mk o n s [x, y]).text = Rp.partT (x.op, x.text) (lvlX o) ++ [32] ++ sgnX o ++ [32] ++ Rp.partT (y.op, y.text) (lvlX o + 1) := by
      show textP o n s _ = _
      unfold textP
      rw [if_neg o1, if_neg o2, if_neg o3, if_neg o4]
      rfl
    rw [hR]
    have hux := ih x (by simp) _ _ hx0 (by omega)
    have huy := ih y (by simp) _ _ hp (by omega)
    have hl' := level17 o
    have hsg := sign17 o
    have hls : (sgnX o).length ≤ 100 := by
      unfold sgnX
      split; simp
      split; simp
      split; simp
      split; simp
      split; simp
      split <;> simp
    dsimp only [exC] at b0 e0 e3 hs0
    generalize hW : w.alloc (.cells #[.int .i64 o, .int .i64 n, .string (tx s), .slice (some ⟨g, off, none⟩) 2 cap] 47) = W0 at b0 e0 e3 hs0
    have hpx : ∀ w', Below W0.heap.size W0 w' → ∀ m, Calls Tryz.prog 137 #[.agg #[.int .i64 o', .int .i64 n', .string (tx s'), .slice A2 k2 cap2], .int .i64 m] w' fun e w'' => e = .returned (.string (tx (Rp.partT (x.op, x.text) m))) ∧ Below w'.heap.size w' w'' := fun w' hb m =>
      part17 hux (by omega) m _ w' K (hC.below (b0.trans (hb.mono (by omega))) hK) (fun g hg => Nat.lt_of_lt_of_le (hK g hg) (b0.trans (hb.mono (by omega))).size)
    have hpy : ∀ w', Below W0.heap.size W0 w' → ∀ m, Calls Tryz.prog 137 #[.agg #[.int .i64 p', .int .i64 q', .string (tx r'), .slice A3 k3 cap3], .int .i64 m] w' fun e w'' => e = .returned (.string (tx (Rp.partT (y.op, y.text) m))) ∧ Below w'.heap.size w' w'' := fun w' hb m =>
      part17 huy (by omega) m _ w' K (hD.below (b0.trans (hb.mono (by omega))) hK) (fun g hg => Nat.lt_of_lt_of_le (hK g hg) (b0.trans (hb.mono (by omega))).size)
    have kS : ∀ w', Below W0.heap.size W0 w' → w'.cell? ⟨w.heap.size, 0, none⟩ = some (.int .i64 o) ∧ w'.cell? ⟨w.heap.size, 3, none⟩ = some (.slice (some ⟨g, off, none⟩) 2 cap) ∧
        w'.cell? ⟨g, off, none⟩ = some (.int .i64 o') ∧ w'.cell? ⟨g, off + 1, none⟩ = some (.int .i64 n') ∧ w'.cell? ⟨g, off + 2, none⟩ = some (.string (tx s')) ∧ w'.cell? ⟨g, off + 3, none⟩ = some (.slice A2 k2 cap2) ∧
        w'.cell? ⟨g, off + 4, none⟩ = some (.int .i64 p') ∧ w'.cell? ⟨g, off + 4 + 1, none⟩ = some (.int .i64 q') ∧ w'.cell? ⟨g, off + 4 + 2, none⟩ = some (.string (tx r')) ∧ w'.cell? ⟨g, off + 4 + 3, none⟩ = some (.slice A3 k3 cap3) := fun w' hb => by
      have hb2 := b0.trans (hb.mono (by omega))
      have k0 := fun j => hb2.cell (p := ⟨g, off + 0 * 4 + j, none⟩) hgl
      have k1 := fun j => hb2.cell (p := ⟨g, off + 1 * 4 + j, none⟩) hgl
      refine ⟨(hb.cell (p := ⟨w.heap.size, 0, none⟩) (by show w.heap.size < _; omega)).trans e0, (hb.cell (p := ⟨w.heap.size, 3, none⟩) (by show w.heap.size < _; omega)).trans e3, ?_, ?_, ?_, ?_, ?_, ?_, ?_, ?_⟩
      · simpa using (k0 0).trans (hc 0 _ rfl)
      · simpa using (k0 1).trans (hc 1 _ rfl)
      · simpa using (k0 2).trans (hc 2 _ rfl)
      · simpa using (k0 3).trans (hc 3 _ rfl)
      · simpa using (k1 0).trans (hd 0 _ rfl)
      · simpa using (k1 1).trans (hd 1 _ rfl)
      · simpa using (k1 2).trans (hd 2 _ rfl)
      · simpa using (k1 3).trans (hd 3 _ rfl)
    have m1 := partT_len (x.op, x.text) (lvlX o)
    have m2 := partT_len (y.op, y.text) (lvlX o + 1)
    have m3 : (x.op, x.text).2.length = x.text.length := rfl
    have m4 : (y.op, y.text).2.length = y.text.length := rfl
    have hq : 1 ≤ lvlX o ∧ lvlX o ≤ 6 := by
      unfold lvlX
      split; omega
      split; omega
      split; omega
      split; omega
      split <;> omega
    generalize lvlX o = q at hl' m1 m2 hq ⊢
    have hpx := fun w' hb => hpx w' hb q
    have hpy := fun w' hb => hpy w' hb (q + 1)
    have hw : IntKind.i64.wrap (q + 1) = q + 1 := by rw [IntWalk.i64_left]; unfold wrap64; omega
    have m5 : (Rp.partT (x.op, x.text) q).length ≤ 100000 := by omega
    have m6 : (Rp.partT (y.op, y.text) (q + 1)).length ≤ 100000 := by omega
    generalize Rp.partT (x.op, x.text) q = L1 at hpx m5 ⊢
    generalize Rp.partT (y.op, y.text) (q + 1) = L2 at hpy m6 ⊢
    rw [← hw] at hpy
    clear hw
    generalize sgnX o = L3 at hsg hls ⊢
    have run1 : ∀ (x y : Bs), x.length + y.length ≤ 1000000 → ∀ w' : World, (Op.stringOp .add (tx x) (tx y)).run Tryz.prog w' = .ok (.string (tx (x ++ y))) w' := fun x y h w' => by
      rw [run_string_add_sum w' (tx x) (tx y) (by show x.length + y.length ≤ _; omega), tx_app]
    have h1 := run1 L1 [32] (by simp; omega)
    have h2 := run1 (L1 ++ [32]) L3 (by simp; omega)
    have h3 := run1 (L1 ++ [32] ++ L3) [32] (by simp; omega)
    have h4 := run1 (L1 ++ [32] ++ L3 ++ [32]) L2 (by simp; omega)
    have hsp : tx [32] = ⟨#[32]⟩ := rfl
    rw [hsp] at h1 h3
    clear run1 hsp m5 m6 hls
    generalize tx (L1 ++ [32] ++ L3 ++ [32] ++ L2) = c4 at h4 ⊢
    generalize tx (L1 ++ [32] ++ L3 ++ [32]) = c3 at h3 h4
    generalize tx (L1 ++ [32] ++ L3) = c2 at h2 h3
    generalize tx (L1 ++ [32]) = c1 at h1 h2
    generalize tx L1 = s1 at hpx h1
    generalize tx L2 = s2 at hpy h4
    generalize tx L3 = s3 at hsg h2
    clear hc hd hC hD hC' hD' hrow hr ih hux huy hR m1 m2 m3 m4 hlen hlen2 hf hp0 hp hx0 hl1 hxl hK
    have e1 : (o == 1) = false := by simpa using o1
    have e2 : (o == 2) = false := by simpa using o2
    have e3' : (o == 3) = false := by simpa using o3
    have e4 : (o == 4) = false := by simpa using o4
    go_enter Tryz.func99, Tryz.ntmps99
    go_wp2_with (fail)
    ((with_reducible refine (hl' _).mono ?_); rintro e w1 ⟨rfl, rfl⟩)
    clear hl' hW
    go_wp2_with (fail)
    have kS0 := kS w1 (Below.refl _ _)
    have kS1 := kS w1.drew (Below.refl _ _).drew
    have J1 : ∀ w5, Below w1.drew.heap.size w1.drew w5 → Below w1.heap.size w1 w5 := fun w5 hb5 => (Below.refl w1.heap.size w1).drew.trans hb5
    have J2 : ∀ w5 w7, Below w1.heap.size w1 w5 → Below w5.heap.size w5 w7 → Below w1.heap.size w1 w7 := fun w5 w7 h k => h.trans (k.mono h.size)
    go_region_held3 (fun w' => w'.cell? ⟨w.heap.size, 0, none⟩ = some (.int .i64 o) ∧ w'.cell? ⟨w.heap.size, 3, none⟩ = some (.slice (some ⟨g, off, none⟩) 2 cap) ∧
        w'.cell? ⟨g, off, none⟩ = some (.int .i64 o') ∧ w'.cell? ⟨g, off + 1, none⟩ = some (.int .i64 n') ∧ w'.cell? ⟨g, off + 2, none⟩ = some (.string (tx s')) ∧ w'.cell? ⟨g, off + 3, none⟩ = some (.slice A2 k2 cap2) ∧
        w'.cell? ⟨g, off + 4, none⟩ = some (.int .i64 p') ∧ w'.cell? ⟨g, off + 4 + 1, none⟩ = some (.int .i64 q') ∧ w'.cell? ⟨g, off + 4 + 2, none⟩ = some (.string (tx r')) ∧ w'.cell? ⟨g, off + 4 + 3, none⟩ = some (.slice A3 k3 cap3))
      (first
        | (with_reducible exact kS _ B2)
        | (with_reducible exact kS _ B1)
        | (with_reducible exact kS0)
        | (with_reducible exact kS1)
        | go_keep)
      (first
        | (go_at_call 137; with_reducible refine (hpx w1.drew (Below.refl _ _).drew).mono ?_; rintro e w5 ⟨rfl, hb5⟩; have B1 := J1 _ hb5)
        | (go_at_call 139; with_reducible refine (hsg _).mono ?_; rintro e w6 ⟨rfl, rfl⟩)
        | (go_at_call 137; with_reducible refine (hpy _ B1).mono ?_; rintro e w7 ⟨rfl, hb7⟩; have B2 := J2 _ _ B1 hb7))
    go_wp2_with (fail)
    exact bodyPost_ret (results_tmp rfl _ _ _) rfl ⟨rfl, b0.trans ((B1.trans (hb7.mono B1.size)).mono (by omega))⟩
end Go.Proofs.YtpdkpkabdkefcaaGreatDoor
namespace Go.Proofs.YtpdkpkabdkefcaaGreatDoor
open Go.Sx Go.ChangeShapes Go.WideShapes Go.RowKit Go.Joins Go.Deep Go.Rp
theorem may17 (x : Et) (v : Value) (w : World) (K : Nat → Prop) (h : ExAt w K x v) (hK : ∀ g, K g → g < w.heap.size) (hnm : x.nms = true) :
    Calls Tryz.prog 98 #[v] w fun e w' => e = .returned (.bool (decide (0 ≤ x.parts 16 1000))) ∧ Below w.heap.size w w' := by
  have h' := h
  obtain ⟨o, n, s, A, k, cap, rfl⟩ := h.cells
  have b0 : Below w.heap.size w (w.alloc (.cells (exC o n s A k cap) 47)) := (Below.refl _ _).alloc (Nat.le_refl _) _
  obtain ⟨d0, d1, d2, d3⟩ := cell4 (heap_alloc_new w (.cells (exC o n s A k cap) 47))
  have hu := parts17 x _ 16 1000 (w.alloc (.cells (exC o n s A k cap) 47)) K (h'.below b0 hK) (fun g hg => Nat.lt_of_lt_of_le (hK g hg) b0.size) hnm (by decide) (by decide) (by decide)
  dsimp only [exC] at b0 d0 d1 d2 d3 hu
  generalize x.parts 16 1000 = q at hu ⊢
  go_enter Tryz.func98, Tryz.ntmps98
  go_wp2_with (fail)
  ((with_reducible refine hu.mono ?_); rintro e w1 ⟨rfl, hb1⟩)
  go_wp2_with (fail)
  exact bodyPost_ret (results_tmp rfl _ _ _) rfl ⟨rfl, b0.trans (hb1.mono b0.size)⟩
theorem print17 (x : Et) (v : Value) (w : World) (K : Nat → Prop) (h : ExAt w K x v) (hK : ∀ g, K g → g < w.heap.size) (hnm : x.nms = true) :
    Calls Tryz.prog 72 #[v] w fun e w' => e = .returned (.string (tx x.print)) ∧ Below w.heap.size w w' := by
  have h' := h
  obtain ⟨o, n, s, A, k, cap, rfl⟩ := h.cells
  have b0 : Below w.heap.size w (w.alloc (.cells (exC o n s A k cap) 47)) := (Below.refl _ _).alloc (Nat.le_refl _) _
  obtain ⟨d0, d1, d2, d3⟩ := cell4 (heap_alloc_new w (.cells (exC o n s A k cap) 47))
  have hA := h'.below b0 hK
  have hK0 : ∀ g, K g → g < (w.alloc (.cells (exC o n s A k cap) 47)).heap.size := fun g hg => Nat.lt_of_lt_of_le (hK g hg) b0.size
  have hu := may17 x _ (w.alloc (.cells (exC o n s A k cap) 47)) K hA hK0 hnm
  have hR : x.print = if x.parts 16 1000 < 0 then [] else x.text := rfl
  rw [hR]
  have hs0 : (w.alloc (.cells (exC o n s A k cap) 47)).heap.size = w.heap.size + 1 := by simp
  dsimp only [exC] at b0 d0 d1 d2 d3 hu hA hK0 hs0
  cases u : decide (0 ≤ x.parts 16 1000)
  · have := of_decide_eq_false u
    rw [u] at hu
    rw [if_pos (by omega)]
    go_enter Tryz.func72, Tryz.ntmps72
    go_wp2_with (fail)
    ((with_reducible refine hu.mono ?_); rintro e w1 ⟨rfl, hb1⟩)
    go_wp2_with (fail)
    exact bodyPost_ret (results_tmp rfl _ _ _) rfl ⟨rfl, b0.trans (hb1.mono b0.size)⟩
  · have hp := of_decide_eq_true u
    rw [u] at hu
    rw [if_neg (by omega)]
    have ht := text17 x 16 1000 hp (by decide)
    generalize hW : w.alloc (.cells #[.int .i64 o, .int .i64 n, .string (tx s), .slice A k cap] 47) = W0 at hu hA hK0 b0 d0 d1 d2 d3 hs0
    have ht2 : ∀ w', Below W0.heap.size W0 w' → Calls Tryz.prog 99 #[.agg #[.int .i64 o, .int .i64 n, .string (tx s), .slice A k cap]] w' fun e w'' => e = .returned (.string (tx x.text)) ∧ Below w'.heap.size w' w'' := fun w' hb => ht _ w' K (hA.below hb hK0) (fun g hg => Nat.lt_of_lt_of_le (hK0 g hg) hb.size)
    generalize x.text = L at ht2 ⊢
    clear ht h' h hA
    go_enter Tryz.func72, Tryz.ntmps72
    go_wp2_with (fail)
    ((with_reducible refine hu.mono ?_); rintro e w1 ⟨rfl, hb1⟩)
    have f0 := (hb1.cell (p := ⟨w.heap.size, 0, none⟩) (by show w.heap.size < _; omega)).trans d0
    have f1 := (hb1.cell (p := ⟨w.heap.size, 1, none⟩) (by show w.heap.size < _; omega)).trans d1
    have f2 := (hb1.cell (p := ⟨w.heap.size, 2, none⟩) (by show w.heap.size < _; omega)).trans d2
    have f3 := (hb1.cell (p := ⟨w.heap.size, 3, none⟩) (by show w.heap.size < _; omega)).trans d3
    have hu2 := ht2 w1 hb1
    clear hW d0 d1 d2 d3 hu ht2
    go_wp2_with (fail)
    ((with_reducible refine hu2.mono ?_); rintro e w2 ⟨rfl, hb2⟩)
    go_wp2_with (fail)
    exact bodyPost_ret (results_tmp rfl _ _ _) rfl ⟨rfl, b0.trans ((hb1.trans (hb2.mono hb1.size)).mono b0.size)⟩
end Go.Proofs.YtpdkpkabdkefcaaGreatDoor
namespace Go.Proofs.YtpdkpkabdkefcaaGreatDoor
open Go.Sx Go.ChangeShapes Go.WideShapes Go.RowKit Go.Joins Go.Deep Go.Rp
theorem beqL_at {a b : List Et} {i : Nat} (h : i < a.length) (h' : i < b.length) : Et.beqL (a.drop i) (b.drop i) = (a[i].beq b[i] && Et.beqL (a.drop (i + 1)) (b.drop (i + 1))) := by
  rw [List.drop_eq_getElem_cons h, List.drop_eq_getElem_cons h', Et.beqL]
theorem meas_step (n i : Nat) (h : i < n) (z : Int) (hz : z = i + 1) : n - (intOf (.int .i64 z)).toNat < n - (intOf (.int .i64 i)).toNat := by
  subst hz
  simp only [intOf]
  omega
set_option maxHeartbeats 8000000 in
theorem same17 : ∀ (x y : Et) (u v : Value) (w : World) (K : Nat → Prop), ExAt w K x u → ExAt w K y v → (∀ g, K g → g < w.heap.size) →
    Calls Tryz.prog 79 #[u, v] w fun e w' => e = .returned (.bool (x.beq y)) ∧ Below w.heap.size w w' := by
  refine Et.ind fun o n s a ih y u v w K h k hK => ?_
  obtain ⟨o', n', s', a'⟩ := y
  simp only [ExAt] at h k
  obtain ⟨A, cap, rfl, hs, ⟨hal, hsl⟩, hr⟩ := h
  obtain ⟨A', cap', rfl, hs', ⟨hal', hsl'⟩, hr'⟩ := k
  unfold lenMax at hal
  have hR : (Et.mk o n s a).beq (.mk o' n' s' a') = (o == o' && (n == n' && (s == s' && (a.length == a'.length && Et.beqL a a')))) := by rw [Et.beq]
  generalize (Et.mk o n s a).beq (.mk o' n' s' a') = R at hR
  have HR := Lib.hid hR
  clear hR
  have b0 : Below w.heap.size w ((w.alloc (.cells (exC o n s A a.length cap) 47)).alloc (.cells (exC o' n' s' A' a'.length cap') 47)) := ((Below.refl _ _).alloc (Nat.le_refl _) _).alloc (by simp) _
  have hw0 : ((w.alloc (.cells (exC o n s A a.length cap) 47)).alloc (.cells (exC o' n' s' A' a'.length cap') 47)).heap[w.heap.size]? = some (.cells (exC o n s A a.length cap) 47 (0, 0)) := alloc_blk (heap_alloc_new w _) _
  have hw1 : ((w.alloc (.cells (exC o n s A a.length cap) 47)).alloc (.cells (exC o' n' s' A' a'.length cap') 47)).heap[w.heap.size + 1]? = some (.cells (exC o' n' s' A' a'.length cap') 47 (0, 0)) := by
    have := heap_alloc_new (w.alloc (.cells (exC o n s A a.length cap) 47)) (.cells (exC o' n' s' A' a'.length cap') 47)
    simpa using this
  have hs0 : ((w.alloc (.cells (exC o n s A a.length cap) 47)).alloc (.cells (exC o' n' s' A' a'.length cap') 47)).heap.size = w.heap.size + 2 := by simp
  obtain ⟨d0, d1, d2, d3⟩ := cell4 hw0
  obtain ⟨f0, f1, f2, f3⟩ := cell4 hw1
  dsimp only [exC] at b0 hw0 hw1 hs0 d0 d1 d2 d3 f0 f1 f2 f3
  cases e0 : (o != o')
  rotate_left
  · have e0' : (o == o') = false := by simpa using e0
    have hF : R = false := by rw [HR.out, e0']; rfl
    subst hF
    clear HR ih hr hr'
    go_enter Tryz.func79, Tryz.ntmps79
    go_wp2_with (fail)
    exact bodyPost_ret (results_tmp rfl _ _ _) rfl ⟨rfl, b0⟩
  have e0' : (o == o') = true := by simpa using e0
  cases e1 : (n != n')
  rotate_left
  · have e1' : (n == n') = false := by simpa using e1
    have hF : R = false := by rw [HR.out, e0', e1']; rfl
    subst hF
    clear HR ih hr hr'
    go_enter Tryz.func79, Tryz.ntmps79
    go_wp2_with (fail)
    exact bodyPost_ret (results_tmp rfl _ _ _) rfl ⟨rfl, b0⟩
  have e1' : (n == n') = true := by simpa using e1
  cases e2 : (s == s')
  · have hF : R = false := by rw [HR.out, e0', e1', e2]; rfl
    subst hF
    clear HR ih hr hr'
    go_enter Tryz.func79, Tryz.ntmps79
    go_wp2_with (fail)
    exact bodyPost_ret (results_tmp rfl _ _ _) rfl ⟨rfl, b0⟩
  cases e3 : ((a.length : Int) != (a'.length : Int))
  rotate_left
  · have e3' : (a.length == a'.length) = false := by simp at e3 ⊢; omega
    have hF : R = false := by rw [HR.out, e0', e1', e2, e3']; rfl
    subst hF
    clear HR ih hr hr'
    go_enter Tryz.func79, Tryz.ntmps79
    go_wp2_with (fail)
    exact bodyPost_ret (results_tmp rfl _ _ _) rfl ⟨rfl, b0⟩
  have e3' : (a.length == a'.length) = true := by simp at e3 ⊢; omega
  have hlen : a.length = a'.length := eq_of_beq e3'
  have hF : R = Et.beqL a a' := by rw [HR.out, e0', e1', e2, e3']; rfl
  clear HR e3'
  have HR := Lib.hid hF
  clear hF
  have HI := Lib.hid ih
  have HL := Lib.hid hlen
  clear ih hlen
  go_enter Tryz.func79, Tryz.ntmps79
  go_wp2_with (fail)
  generalize (w.alloc (.cells #[.int .i64 o, .int .i64 n, .string (tx s), .slice A a.length cap] 47)).alloc (.cells #[.int .i64 o', .int .i64 n', .string (tx s'), .slice A' a'.length cap'] 47) = W0 at b0 hw0 hw1 hs0
  clear d0 d1 d2 d3 f0 f1 f2 f3
  go_loopw [5] (fun t wr => ∃ i : Nat, t = .int .i64 i ∧ i ≤ a.length ∧ Hid (R = Et.beqL (a.drop i) (a'.drop i)) ∧ Below W0.heap.size W0 wr) (fun t _ => a.length - (intOf t).toNat)
  case atStart => exact ⟨0, rfl, by omega, HR, Below.refl _ _⟩
  case round =>
    obtain ⟨i, rfl, hi, he, hb⟩ := hrel
    clear HR
    have c3 := (cell4 ((hb.block w.heap.size (by omega)).trans hw0)).2.2.2
    have c3' := (cell4 ((hb.block (w.heap.size + 1) (by omega)).trans hw1)).2.2.2
    have hlen := HL.out
    by_cases hlt : i < a.length
    · obtain ⟨g, off, rfl, hg, hrow⟩ := hr (by rintro rfl; simp at hlt)
      obtain ⟨g', off', rfl, hg', hrow'⟩ := hr' (by rintro rfl; rw [List.length_nil] at hlen; omega)
      obtain ⟨C, hC, hc⟩ := ExRow.at_ a off i hlt hrow
      obtain ⟨D, hD, hd⟩ := ExRow.at_ a' off' i (by omega) hrow'
      obtain ⟨p, q, r, A2, k2, cap2, hC'⟩ := hC.cells
      obtain rfl := Value.agg.inj hC'
      obtain ⟨p', q', r', A3, k3, cap3, hD'⟩ := hD.cells
      obtain rfl := Value.agg.inj hD'
      have hbw : Below w.heap.size w wr := b0.trans (hb.mono (by omega))
      have hgl := hK g hg
      have hgl' := hK g' hg'
      have k0 := fun j => hbw.cell (p := ⟨g, off + i * 4 + j, none⟩) hgl
      have k1 := fun j => hbw.cell (p := ⟨g', off' + i * 4 + j, none⟩) hgl'
      have x0 := (k0 0).trans (hc 0 _ rfl)
      have x1 := (k0 1).trans (hc 1 _ rfl)
      have x2 := (k0 2).trans (hc 2 _ rfl)
      have x3 := (k0 3).trans (hc 3 _ rfl)
      have y0 := (k1 0).trans (hd 0 _ rfl)
      have y1 := (k1 1).trans (hd 1 _ rfl)
      have y2 := (k1 2).trans (hd 2 _ rfl)
      have y3 := (k1 3).trans (hd 3 _ rfl)
      rw [Nat.add_zero] at x0 y0
      have hu : ∀ w', Below wr.heap.size wr w' → Calls Tryz.prog 79 #[.agg #[.int .i64 p, .int .i64 q, .string (tx r), .slice A2 k2 cap2], .agg #[.int .i64 p', .int .i64 q', .string (tx r'), .slice A3 k3 cap3]] w' fun e w'' => e = .returned (.bool (a[i].beq (a'[i]'(by omega)))) ∧ Below w'.heap.size w' w'' := fun w' hb' =>
        HI.out a[i] (List.getElem_mem hlt) _ _ _ w' K ((hC.below hbw hK).below hb' (fun g hg => Nat.lt_of_lt_of_le (hK g hg) hbw.size)) ((hD.below hbw hK).below hb' (fun g hg => Nat.lt_of_lt_of_le (hK g hg) hbw.size)) (fun g hg => Nat.lt_of_lt_of_le (Nat.lt_of_lt_of_le (hK g hg) hbw.size) hb'.size)
      have he1 := he.out
      rw [beqL_at hlt (by omega)] at he1
      generalize a[i].beq (a'[i]'(by omega)) = t at hu he1
      have HE := Lib.hid he1
      have u0 : decide ((i : Int) < (a.length : Int)) = true := decide_eq_true (by omega)
      have hi1 := Lib.hid (show (i : Int) + 1 ≤ 9223372036854775807 by omega)
      have hlt' : i < a'.length := by omega
      have u1 : decide ((i : Int) < (a'.length : Int)) = true := decide_eq_true (by omega)
      clear hlen he1 he hc hd hC hD hC' hD' hrow hrow' hr hr' k0 k1 HI
      go_wp2_with (fail)
      clear hal hal' hsl hsl' e3
      have hS0 : wr.cell? ⟨w.heap.size, 3, none⟩ = some (.slice (some ⟨g, off, none⟩) a.length cap) ∧ wr.cell? ⟨w.heap.size + 1, 3, none⟩ = some (.slice (some ⟨g', off', none⟩) a'.length cap') ∧ wr.cell? ⟨g, off + i * 4, none⟩ = some (.int .i64 p) ∧ wr.cell? ⟨g, off + i * 4 + 1, none⟩ = some (.int .i64 q) ∧ wr.cell? ⟨g, off + i * 4 + 2, none⟩ = some (.string (tx r)) ∧ wr.cell? ⟨g, off + i * 4 + 3, none⟩ = some (.slice A2 k2 cap2) ∧ wr.cell? ⟨g', off' + i * 4, none⟩ = some (.int .i64 p') ∧ wr.cell? ⟨g', off' + i * 4 + 1, none⟩ = some (.int .i64 q') ∧ wr.cell? ⟨g', off' + i * 4 + 2, none⟩ = some (.string (tx r')) ∧ wr.cell? ⟨g', off' + i * 4 + 3, none⟩ = some (.slice A3 k3 cap3) := ⟨c3, c3', x0, x1, x2, x3, y0, y1, y2, y3⟩
      have kS : ∀ w', Below wr.heap.size wr w' → w'.cell? ⟨w.heap.size, 3, none⟩ = some (.slice (some ⟨g, off, none⟩) a.length cap) ∧ w'.cell? ⟨w.heap.size + 1, 3, none⟩ = some (.slice (some ⟨g', off', none⟩) a'.length cap') ∧ w'.cell? ⟨g, off + i * 4, none⟩ = some (.int .i64 p) ∧ w'.cell? ⟨g, off + i * 4 + 1, none⟩ = some (.int .i64 q) ∧ w'.cell? ⟨g, off + i * 4 + 2, none⟩ = some (.string (tx r)) ∧ w'.cell? ⟨g, off + i * 4 + 3, none⟩ = some (.slice A2 k2 cap2) ∧ w'.cell? ⟨g', off' + i * 4, none⟩ = some (.int .i64 p') ∧ w'.cell? ⟨g', off' + i * 4 + 1, none⟩ = some (.int .i64 q') ∧ w'.cell? ⟨g', off' + i * 4 + 2, none⟩ = some (.string (tx r')) ∧ w'.cell? ⟨g', off' + i * 4 + 3, none⟩ = some (.slice A3 k3 cap3) := fun w' hb' =>
        ⟨(hb'.cell (p := ⟨w.heap.size, 3, none⟩) (Nat.lt_of_lt_of_le (by show w.heap.size < W0.heap.size; omega) hb.size)).trans c3, (hb'.cell (p := ⟨w.heap.size + 1, 3, none⟩) (Nat.lt_of_lt_of_le (by show w.heap.size + 1 < W0.heap.size; omega) hb.size)).trans c3',
          (hb'.cell (p := ⟨g, off + i * 4, none⟩) (Nat.lt_of_lt_of_le hgl hbw.size)).trans x0, (hb'.cell (p := ⟨g, off + i * 4 + 1, none⟩) (Nat.lt_of_lt_of_le hgl hbw.size)).trans x1, (hb'.cell (p := ⟨g, off + i * 4 + 2, none⟩) (Nat.lt_of_lt_of_le hgl hbw.size)).trans x2, (hb'.cell (p := ⟨g, off + i * 4 + 3, none⟩) (Nat.lt_of_lt_of_le hgl hbw.size)).trans x3,
          (hb'.cell (p := ⟨g', off' + i * 4, none⟩) (Nat.lt_of_lt_of_le hgl' hbw.size)).trans y0, (hb'.cell (p := ⟨g', off' + i * 4 + 1, none⟩) (Nat.lt_of_lt_of_le hgl' hbw.size)).trans y1, (hb'.cell (p := ⟨g', off' + i * 4 + 2, none⟩) (Nat.lt_of_lt_of_le hgl' hbw.size)).trans y2, (hb'.cell (p := ⟨g', off' + i * 4 + 3, none⟩) (Nat.lt_of_lt_of_le hgl' hbw.size)).trans y3⟩
      have J1 : ∀ w5, Below wr.drew.heap.size wr.drew w5 → Below wr.heap.size wr w5 := fun w5 hb5 => (Below.refl wr.heap.size wr).drew.trans hb5
      have hS1 : wr.drew.cell? ⟨w.heap.size, 3, none⟩ = some (.slice (some ⟨g, off, none⟩) a.length cap) ∧ wr.drew.cell? ⟨w.heap.size + 1, 3, none⟩ = some (.slice (some ⟨g', off', none⟩) a'.length cap') ∧ wr.drew.cell? ⟨g, off + i * 4, none⟩ = some (.int .i64 p) ∧ wr.drew.cell? ⟨g, off + i * 4 + 1, none⟩ = some (.int .i64 q) ∧ wr.drew.cell? ⟨g, off + i * 4 + 2, none⟩ = some (.string (tx r)) ∧ wr.drew.cell? ⟨g, off + i * 4 + 3, none⟩ = some (.slice A2 k2 cap2) ∧ wr.drew.cell? ⟨g', off' + i * 4, none⟩ = some (.int .i64 p') ∧ wr.drew.cell? ⟨g', off' + i * 4 + 1, none⟩ = some (.int .i64 q') ∧ wr.drew.cell? ⟨g', off' + i * 4 + 2, none⟩ = some (.string (tx r')) ∧ wr.drew.cell? ⟨g', off' + i * 4 + 3, none⟩ = some (.slice A3 k3 cap3) := ⟨c3, c3', x0, x1, x2, x3, y0, y1, y2, y3⟩
      go_region_held3 (fun w' => w'.cell? ⟨w.heap.size, 3, none⟩ = some (.slice (some ⟨g, off, none⟩) a.length cap) ∧ w'.cell? ⟨w.heap.size + 1, 3, none⟩ = some (.slice (some ⟨g', off', none⟩) a'.length cap') ∧ w'.cell? ⟨g, off + i * 4, none⟩ = some (.int .i64 p) ∧ w'.cell? ⟨g, off + i * 4 + 1, none⟩ = some (.int .i64 q) ∧ w'.cell? ⟨g, off + i * 4 + 2, none⟩ = some (.string (tx r)) ∧ w'.cell? ⟨g, off + i * 4 + 3, none⟩ = some (.slice A2 k2 cap2) ∧ w'.cell? ⟨g', off' + i * 4, none⟩ = some (.int .i64 p') ∧ w'.cell? ⟨g', off' + i * 4 + 1, none⟩ = some (.int .i64 q') ∧ w'.cell? ⟨g', off' + i * 4 + 2, none⟩ = some (.string (tx r')) ∧ w'.cell? ⟨g', off' + i * 4 + 3, none⟩ = some (.slice A3 k3 cap3))
        (first
          | (with_reducible exact hS0)
          | (with_reducible exact hS1)
          | (with_reducible exact hS2)
          | go_keep)
        (first
          | (go_at_call 79; with_reducible refine (hu _ (Below.refl _ _).drew).mono ?_; rintro e w2 ⟨rfl, hb2⟩; have B2 := J1 _ hb2; have hS2 := kS _ B2))
      clear hS0 hS1 kS J1 hS2 u1 hlt' c3 c3' x0 x1 x2 x3 y0 y1 y2 y3 e0 e0' e1 e1' e2 HL hu hgl hgl' hg hg'
      have hb3 : Below W0.heap.size W0 w2 := hb.trans (B2.mono hb.size)
      have hi2 : wrap64 ((i : Int) + 1) = (i : Int) + 1 := by
        have := hi1.out
        unfold wrap64
        omega
      have hbF := b0.trans (hb3.mono (show w.heap.size ≤ W0.heap.size by omega))
      clear hi1 hw0 hw1 hs hs' hbw hi hK hb hs0 u0
      cases t
      · go_wp2_with (fail)
        exact bodyPost_ret (results_tmp rfl _ _ _) rfl ⟨by rw [HE.out, Bool.false_and]; rfl, hbF⟩
      · go_wp2_with (fail)
        go_roundw
        case rel => exact ⟨i + 1, congrArg (Value.int .i64) (hi2.trans (show (i : Int) + 1 = ((i + 1 : Nat) : Int) by omega)), hlt, Lib.hid (HE.out.trans (Bool.true_and _)), hb3⟩
        case measure =>
          exact meas_step _ i hlt _ hi2
    · obtain rfl : i = a.length := by omega
      have he1 := he.out
      rw [List.drop_eq_nil_of_le (Nat.le_refl _), List.drop_eq_nil_of_le (by omega)] at he1
      have hF : R = true := he1
      subst hF
      clear he he1 hlen HI hr hr' HL
      have u0 : decide ((a.length : Int) < (a.length : Int)) = false := decide_eq_false (by omega)
      go_wp2_with (fail)
      exact bodyPost_ret (results_tmp rfl _ _ _) rfl ⟨rfl, b0.trans (hb.mono (by omega))⟩
end Go.Proofs.YtpdkpkabdkefcaaGreatDoor
namespace Go.Proofs.YtpdkpkabdkefcaaGreatDoor
open Go.Sx Go.ChangeShapes Go.WideShapes Go.RowKit Go.Joins Go.Deep
def upTo (n k : Nat) : Array Bool := (List.replicate k true ++ List.replicate (n - k) false).toArray
theorem upTo_set (n k : Nat) (h : k < n) : (upTo n k).setIfInBounds k true = upTo n (k + 1) := by
  unfold upTo
  rw [List.setIfInBounds_toArray, List.set_append_right _ _ (by simp), List.length_replicate, Nat.sub_self, show n - k = (n - (k + 1)) + 1 by omega, List.replicate_succ, List.set_cons_zero, List.replicate_succ' (n := k), List.append_assoc]
  rfl
theorem upTo_zero (n : Nat) : Array.replicate n false = upTo n 0 := by simp [upTo]
section
variable {P : Program} {Q : Exit → Act → World → Prop} {S : World → Prop}
theorem drop_at {l r : List Oper} {i : Nat} {oi : Oper} (hi : l.drop i = oi :: r) : l.toArray[i]? = some oi := by
  have := congrArg List.head? hi
  rw [List.head?_drop] at this
  simpa using this
def wpN (P : Program) (Q : Exit → Act → World → Prop) (S : World → Prop) (l : List Oper) (k : Nat) (r : List Oper) (a : Act) (w : World) : Prop := l.drop k = r → wpAnyH P .any l.toArray Q S (l.length - k) (upTo l.length k) a w
theorem drop_lt {l r : List Oper} {k : Nat} {o : Oper} (h : l.drop k = o :: r) : k < l.length ∧ l.drop (k + 1) = r := by
  constructor
  · have := congrArg List.length h
    simp at this; omega
  · rw [← List.drop_drop, h]; rfl
theorem nx {l r : List Oper} {k : Nat} {o : Oper} {v : Value} {a : Act} {w : World} (h : wpN P Q S l (k + 1) r (a.put o.dst v) w)
    (hy : YieldsIf P l.toArray S o v a := by first | exact .inr ⟨by rfl, rfl⟩ | (refine .inl ⟨by rfl, fun w hSw => ?_⟩; (try dsimp only at hSw); go_simp; first | done | with_reducible rfl))
    (hr : (Region.ready .any l.toArray (upTo l.length k)).contains k = true := by kernel_rfl) (hf : Region.free .any l.toArray (upTo l.length k) k = true := by kernel_rfl) (hs : Region.noSelect l.toArray = true := by kernel_rfl)
    (hQ : ∀ c a w, Q (.panic c) (a.put o.dst v) w → Q (.panic c) a w := by exact fun _ _ _ h => h) (hS : S w := by assumption) : wpN P Q S l k (o :: r) a w := by
  intro hd
  obtain ⟨h1, h2⟩ := drop_lt hd
  rw [show l.length - k = (l.length - (k + 1)) + 1 by omega]
  refine wpAnyH_take (drop_at hd) hs hf hr hQ hy hS ?_
  rw [upTo_set _ _ h1]
  exact h h2
theorem cl {l r : List Oper} {k : Nat} {o : Oper} {a : Act} {w : World} (h : ∀ K : Act → World → Prop, Shut (∀ a w, S w → (S w → wpN P Q S l (k + 1) r a w) → K a w) → o.wp P a w K Q)
    (hr : Region.ready .any l.toArray (upTo l.length k) = [k] := by kernel_rfl) (hw : Region.wanted o (yielded l.toArray a.tmps) = true := by rfl) : wpN P Q S l k (o :: r) a w := by
  intro hd
  obtain ⟨h1, h2⟩ := drop_lt hd
  rw [show l.length - k = (l.length - (k + 1)) + 1 by omega]
  refine wpAnyH_ready hr (by simp) (AllReadyH.cons (drop_at hd) (fun K hK => ?_) AllReadyH.nil)
  rw [if_pos hw]
  refine h K fun a w hS hN => hK a w hS fun hS => ?_
  rw [upTo_set _ _ h1]
  exact hN hS h2
theorem wpN_any {l r : List Oper} {k : Nat} {a : Act} {w : World} (h : wpAnyH P .any l.toArray Q S (l.length - k) (upTo l.length k) a w) : wpN P Q S l k r a w := fun _ => h
theorem nxA (i : Nat) {l r : List Oper} {o : Oper} {v : Value} {n : Nat} {listed : Array Bool} {a : Act} {w : World} (hi : l.drop i = o :: r) (h : wpAnyH P .any l.toArray Q S n (listed.setIfInBounds i true) (a.put o.dst v) w)
    (hy : YieldsIf P l.toArray S o v a := by first | exact .inr ⟨by rfl, rfl⟩ | (refine .inl ⟨by rfl, fun w hSw => ?_⟩; (try dsimp only at hSw); go_simp; first | done | with_reducible rfl))
    (hr : (Region.ready .any l.toArray listed).contains i = true := by kernel_rfl) (hf : Region.free .any l.toArray listed i = true := by kernel_rfl) (hs : Region.noSelect l.toArray = true := by kernel_rfl)
    (hQ : ∀ c a w, Q (.panic c) (a.put o.dst v) w → Q (.panic c) a w := by exact fun _ _ _ h => h) (hS : S w := by assumption) : wpAnyH P .any l.toArray Q S (n + 1) listed a w := wpAnyH_take (drop_at hi) hs hf hr hQ hy hS h
theorem clA (i : Nat) {l r : List Oper} {o : Oper} {n : Nat} {listed : Array Bool} {a : Act} {w : World} (hi : l.drop i = o :: r) (h : ∀ K : Act → World → Prop, Shut (∀ a w, S w → (S w → wpAnyH P .any l.toArray Q S n (listed.setIfInBounds i true) a w) → K a w) → o.wp P a w K Q)
    (hr : Region.ready .any l.toArray listed = [i] := by kernel_rfl) (hw : Region.wanted o (yielded l.toArray a.tmps) = true := by rfl) : wpAnyH P .any l.toArray Q S (n + 1) listed a w :=
  wpAnyH_ready hr (by simp) (AllReadyH.cons (drop_at hi) (fun K hK => by rw [if_pos hw]; exact h K hK) AllReadyH.nil)
theorem wpN_nil {l : List Oper} {k : Nat} {a : Act} {w : World} (h : Q .normal a w) (hr : Region.ready .any l.toArray (upTo l.length k) = [] := by kernel_rfl) : wpN P Q S l k [] a w := fun _ => wpAnyH_done hr h _
theorem wpN_start {l : List Oper} {id : Nat} {a : Act} {w : World} (hm : P.follows .mixedOrders = true) (hS : S w.drew) (h : S w.drew → wpN P Q S l 0 l a w.drew) : (Code.region id l.toArray true).wp P Q a w :=
  wp_region_held_drew hm hS fun hS => by
    have := h hS rfl
    rw [← upTo_zero] at this
    simpa using this
theorem yieldsIf_neq {ops : Array Oper} {op : Oper} {a : Act} {t yt : TypeId} {x y : Operand} {xs ys : Array Value} {q : Bool} (hw : Region.wanted op (yielded ops a.tmps) = true) (ho : op.op = .binOp .neq t x y yt) (hx : a.eval x = .agg xs) (hy : a.eval y = .agg ys)
    (hm : P.eqGuardType P.depth t = false) (h : ∀ w, (binOp .neq t (.agg xs) (.agg ys)).run P w = .ok (.bool q) w) : YieldsIf P ops S op (.bool q) a :=
  .inl ⟨hw, fun w _ => by unfold execOp; simp only [ho, hx, hy, Sem.run_bind, Sem.run_pure, Result.andThen_ok, run_eqGuard_agg, hm, h]⟩
end
end Go.Proofs.YtpdkpkabdkefcaaGreatDoor
