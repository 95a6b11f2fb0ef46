/- For the seat: texts joined: KerL. -/
import Derived.Test.YtiicniiecomhjaaDoorJKerW
import Derived.Test.YtiicniiecomhjaaDoorJLit
/- For the seat: chapter 25's example holds. -/
namespace Go.Proofs.YtiicniiecomhjaaDoor
open Go.Sx Go.ChangeShapes Go.WideShapes Go.RowKit Go.Joins Go.Deep

namespace ker
set_option maxRecDepth 100000 in
theorem mvA : pxBoth sg (lit.litT 22 [.int .i64 (.num 8193), .bool (.bit false)] ⟨10, 0, 0, 0, 0, 1, 1, 0, true⟩ true) lit.kn = true := by kernel_rfl
set_option maxRecDepth 100000 in
theorem mvB : pxBoth sg (lit.litT 22 [.int .i64 (.num 8194), .bool (.bit false)] ⟨10, 0, 0, 0, 0, 2, 1, 0, true⟩ true) lit.kn = true := by kernel_rfl
theorem decA : Ans 22 [.int .i64 8193, .bool false] (.tuple #[(⟨10, 0, 0, 0, 0, 1, 1, 0, true⟩ : Fields).val, .bool true]) := lit.ok (by intro u hu; simp at hu; rcases hu with rfl | rfl <;> rfl) rfl mvA
theorem decB : Ans 22 [.int .i64 8194, .bool false] (.tuple #[(⟨10, 0, 0, 0, 0, 2, 1, 0, true⟩ : Fields).val, .bool true]) := lit.ok (by intro u hu; simp at hu; rcases hu with rfl | rfl <;> rfl) rfl mvB
end ker

theorem ker_unA : unpB [1, 32] = [8193] := by kernel_rfl
theorem ker_unB : unpB [2, 32] = [8194] := by kernel_rfl
theorem ker_it0 : itB 0 = false := by kernel_rfl
theorem ker_decA : decOf [8193] false = (⟨10, 0, 0, 0, 0, 1, 1, 0, true⟩, 1, 0) := by
  have e := shortOf_eq (has_lit 8193 (by decide)) ker.decA
  have hb : longB 8193 = false := by kernel_rfl
  rw [decOf_one, hb, if_neg (by decide)]; erw [e]; rfl
theorem ker_decB : decOf [8194] false = (⟨10, 0, 0, 0, 0, 2, 1, 0, true⟩, 1, 0) := by
  have e := shortOf_eq (has_lit 8194 (by decide)) ker.decB
  have hb : longB 8194 = false := by kernel_rfl
  rw [decOf_one, hb, if_neg (by decide)]; erw [e]; rfl

/-- The example's item. -/
abbrev kerI : Itm := ⟨1, 0, 2, 0, 1, ⟨10, 0, 0, 0, 0, 1, 1, 0, true⟩, none, 0, []⟩
def kerS (l : List UInt8) : ByteArray := ⟨l.toArray⟩
theorem kerS_list (l : List UInt8) : (kerS l).data.toList = l := rfl

theorem kerI_ok : kerI.Ok := by
  have h : ∀ n : Nat, n < 65536 → kHas .i64 (n : Int) := fun n hn => has_lit n hn
  exact ⟨h 1 (by decide), h 0 (by decide), h 2 (by decide), h 0 (by decide), h 1 (by decide), ⟨h 10 (by decide), h 0 (by decide), h 0 (by decide), h 0 (by decide), h 0 (by decide), h 1 (by decide), h 1 (by decide), h 0 (by decide)⟩, fun v hv => by simp at hv, by decide, by decide⟩

theorem ker_one (n : Nat) (l : List Itm) : oneB n l kerI [1, 32] 0 = true := by
  unfold oneB insB
  rw [if_pos rfl, ker_unA, ker_it0, ker_decA]
  rw [if_pos ⟨rfl, rfl, rfl, by kernel_rfl⟩, if_neg (by decide)]
theorem ker_oneB (n : Nat) (l : List Itm) : oneB n l kerI [2, 32] 0 = false := by
  unfold oneB insB
  rw [if_pos rfl, ker_unB, ker_it0, ker_decB]
  rw [if_neg (fun h => absurd h.2.1 (by decide))]
theorem ker_rA (x : List UInt8) : rangB (1 :: 32 :: x) [kerI] 0 [kerI] = true := by
  rw [rangB_cons, if_pos ⟨by decide, by simp; omega, by decide, by simp; omega⟩]
  rw [show ((1 :: 32 :: x : List UInt8).drop (kerI.a).toNat).take (kerI.s).toNat = [1, 32] from rfl, ker_one, if_pos rfl]
  rfl
theorem ker_rB : rangB [2, 32] [kerI] 0 [kerI] = false := by
  rw [rangB_cons, if_pos (by decide)]
  rw [show (([2, 32] : List UInt8).drop (kerI.a).toNat).take (kerI.s).toNat = [2, 32] from rfl, ker_oneB, if_neg (by decide)]

theorem ker_img (s : List UInt8) (h : s.length ≤ 3) : Img (kerS s) [kerI] :=
  ⟨by show s.toArray.size ≤ _; simp; omega, by decide, fun y hy => by simp at hy; subst hy; exact kerI_ok, fun y hy => by simp at hy; subst hy; decide⟩
theorem nil_img : Img (kerS []) [] := ⟨by decide, by decide, fun y hy => by simp at hy, fun y hy => by simp at hy⟩

theorem itAt_one {W : World} {g : Nat} {y : Itm} (hv : y.vs = []) (hg : g < W.heap.size) (h : ItIn W g 0 y) : ItAt W W.heap.size (some ⟨g, 0, none⟩) [y] := by
  refine ⟨fun _ => ⟨g, 0, rfl, hg, fun i x hx j v hj => ?_⟩, fun x hx => ?_⟩
  · match i, hx with
    | 0, hx =>
      simp only [List.getElem?_cons_zero, Option.some.injEq] at hx
      subst hx
      obtain ⟨a0, a1, a2, a3, a4, a5, a6, a7, a8, a9, a10, a11, a12, a13, a14⟩ := h
      rw [Nat.zero_mul, Nat.zero_add]
      match j, hj with
      | 0, hj => cases hj; exact a0
      | 1, hj => cases hj; exact a1
      | 2, hj => cases hj; exact a2
      | 3, hj => cases hj; exact a3
      | 4, hj => cases hj; exact a4
      | 5, hj => cases hj; exact a5
      | 6, hj => cases hj; exact a6
      | 7, hj => cases hj; exact a7
      | 8, hj => cases hj; exact a8
      | 9, hj => cases hj; exact a9
      | 10, hj => cases hj; exact a10
      | 11, hj => cases hj; exact a11
      | 12, hj => cases hj; exact a12
      | 13, hj => cases hj; exact a13
      | 14, hj => cases hj; exact a14
      | n + 15, hj => simp at hj
    | i + 1, hx => simp at hx
  · simp at hx
    subst hx
    rw [hv]
    exact IAt.nil _ _ _

theorem cell_old (W : World) (o : Obj) (b j : Nat) (h : b < W.heap.size) : (W.alloc o).cell? ⟨b, j, none⟩ = W.cell? ⟨b, j, none⟩ := ((Below.refl W.heap.size W).alloc (Nat.le_refl _) o).cell (p := ⟨b, j, none⟩) h

set_option maxRecDepth 100000 in
set_option maxHeartbeats 4000000 in
theorem awake_ok (w : World) (hw : Laid w) : Calls Tryd.prog 6 #[] w fun e w' => e = .returned (.bool true) ∧ Below w.heap.size w w' := by
  have C0 : ∀ (W : World), Laid W → Calls Tryd.prog 7 #[.agg #[.string ⟨#[]⟩, .slice none 0 0]] W (fun e w' => e = .returned (.bool true) ∧ Below W.heap.size W w') := fun W h => by
    have h0 := check_img nil_img none 0 W ⟨fun hn => absurd rfl hn, fun y hy => by simp at hy⟩ h
    rw [show chkB (kerS []) [] = true from rfl] at h0
    exact h0
  have C1 : ∀ (g : Nat) (W : World), ItAt W W.heap.size (some ⟨g, 0, none⟩) [kerI] → Laid W → Calls Tryd.prog 7 #[.agg #[.string ⟨#[1, 32]⟩, .slice (some ⟨g, 0, none⟩) 1 1]] W (fun e w' => e = .returned (.bool true) ∧ Below W.heap.size W w') := fun g W hI h => by
    have h0 := check_img (ker_img [1, 32] (by decide)) (some ⟨g, 0, none⟩) 1 W hI h
    rw [show chkB (kerS [1, 32]) [kerI] = true by unfold chkB; rw [kerS_list, ker_rA]; rfl] at h0
    exact h0
  have D2 : ∀ (g : Nat) (W : World), ItAt W W.heap.size (some ⟨g, 0, none⟩) [kerI] → Calls Tryd.prog 8 #[.agg #[.string ⟨#[2, 32]⟩, .slice (some ⟨g, 0, none⟩) 1 1]] W (fun e w' => e = .returned (.bool true) ∧ Below W.heap.size W w') := fun g W hI => by
    have h0 := disj_img (ker_img [2, 32] (by decide)) (some ⟨g, 0, none⟩) 1 W hI
    rw [show disjB (kerS [2, 32]).size 0 [kerI] = true by decide] at h0
    exact h0
  have R2 : ∀ (g : Nat) (W : World), ItAt W W.heap.size (some ⟨g, 0, none⟩) [kerI] → Laid W → Calls Tryd.prog 9 #[.agg #[.string ⟨#[2, 32]⟩, .slice (some ⟨g, 0, none⟩) 1 1]] W (fun e w' => e = .returned (.bool false) ∧ Below W.heap.size W w') := fun g W hI h => by
    have h0 := rang_img (ker_img [2, 32] (by decide)) (some ⟨g, 0, none⟩) 1 W hI h
    rw [kerS_list, ker_rB] at h0
    exact h0
  have D3 : ∀ (g : Nat) (W : World), ItAt W W.heap.size (some ⟨g, 0, none⟩) [kerI] → Calls Tryd.prog 8 #[.agg #[.string ⟨#[1, 32, 0]⟩, .slice (some ⟨g, 0, none⟩) 1 1]] W (fun e w' => e = .returned (.bool false) ∧ Below W.heap.size W w') := fun g W hI => by
    have h0 := disj_img (ker_img [1, 32, 0] (by decide)) (some ⟨g, 0, none⟩) 1 W hI
    rw [show disjB (kerS [1, 32, 0]).size 0 [kerI] = false by decide] at h0
    exact h0
  have R3 : ∀ (g : Nat) (W : World), ItAt W W.heap.size (some ⟨g, 0, none⟩) [kerI] → Laid W → Calls Tryd.prog 9 #[.agg #[.string ⟨#[1, 32, 0]⟩, .slice (some ⟨g, 0, none⟩) 1 1]] W (fun e w' => e = .returned (.bool true) ∧ Below W.heap.size W w') := fun g W hI h => by
    have h0 := rang_img (ker_img [1, 32, 0] (by decide)) (some ⟨g, 0, none⟩) 1 W hI h
    rw [kerS_list, ker_rA] at h0
    exact h0
  have B0 : Below w.heap.size w w := Below.refl _ _
  obtain ⟨W1, h1⟩ : ∃ W, w.alloc (.cells #[.int .i64 10, .int .i64 0, .int .i64 0, .int .i64 0, .int .i64 0, .int .i64 1, .int .i64 1, .int .i64 0, .bool true] 29) = W := ⟨_, rfl⟩
  have z1 : W1.heap.size = w.heap.size + 1 := by rw [← h1]; simp
  have B1 : Below w.heap.size w W1 := by rw [← h1]; exact B0.alloc B0.size _
  obtain ⟨W2, h2⟩ : ∃ W, W1.alloc (.cells #[.int .i64 1, .int .i64 0, .int .i64 2, .int .i64 0, .int .i64 1, .int .i64 10, .int .i64 0, .int .i64 0, .int .i64 0, .int .i64 0, .int .i64 1, .int .i64 1, .int .i64 0, .bool true, .slice none 0 0] 32) = W := ⟨_, rfl⟩
  have z2 : W2.heap.size = w.heap.size + 1 + 1 := by rw [← h2]; simp [z1]
  have B2 : Below w.heap.size w W2 := by rw [← h2]; exact B1.alloc B1.size _
  have I2 : ItIn W2 (w.heap.size + 1) 0 kerI := by rw [← h2]; exact itIn_new W1 kerI 32 _ z1.symm
  obtain ⟨W3, h3⟩ : ∃ W, W2.alloc (.cells #[.string ⟨#[1, 32]⟩, .slice (some ⟨w.heap.size + 1, 0, none⟩) 1 1] 24) = W := ⟨_, rfl⟩
  have z3 : W3.heap.size = w.heap.size + 1 + 1 + 1 := by rw [← h3]; simp [z2]
  have B3 : Below w.heap.size w W3 := by rw [← h3]; exact B2.alloc B2.size _
  have I3 : ItIn W3 (w.heap.size + 1) 0 kerI := by rw [← h3]; exact I2.below ((Below.refl W2.heap.size W2).alloc (Nat.le_refl _) _) (by rw [z2]; omega)
  have a3_3 : W3.cell? ⟨w.heap.size + 1 + 1, 0, none⟩ = some (.string ⟨#[1, 32]⟩) := by rw [← h3, ← z2]; exact cell_allocN _ _ _ 0
  have b3_3 : W3.cell? ⟨w.heap.size + 1 + 1, 1, none⟩ = some (.slice (some ⟨w.heap.size + 1, 0, none⟩) 1 1) := by rw [← h3, ← z2]; exact cell_allocN _ _ _ 1
  obtain ⟨W4, h4⟩ : ∃ W, W3.alloc (.cells #[.string ⟨#[2, 32]⟩, .slice (some ⟨w.heap.size + 1, 0, none⟩) 1 1] 24) = W := ⟨_, rfl⟩
  have z4 : W4.heap.size = w.heap.size + 1 + 1 + 1 + 1 := by rw [← h4]; simp [z3]
  have B4 : Below w.heap.size w W4 := by rw [← h4]; exact B3.alloc B3.size _
  have I4 : ItIn W4 (w.heap.size + 1) 0 kerI := by rw [← h4]; exact I3.below ((Below.refl W3.heap.size W3).alloc (Nat.le_refl _) _) (by rw [z3]; omega)
  have a4_4 : W4.cell? ⟨w.heap.size + 1 + 1 + 1, 0, none⟩ = some (.string ⟨#[2, 32]⟩) := by rw [← h4, ← z3]; exact cell_allocN _ _ _ 0
  have b4_4 : W4.cell? ⟨w.heap.size + 1 + 1 + 1, 1, none⟩ = some (.slice (some ⟨w.heap.size + 1, 0, none⟩) 1 1) := by rw [← h4, ← z3]; exact cell_allocN _ _ _ 1
  have a3_4 := (show W4.cell? ⟨w.heap.size + 1 + 1, 0, none⟩ = W3.cell? ⟨w.heap.size + 1 + 1, 0, none⟩ by rw [← h4]; exact cell_old _ _ _ _ (by rw [z3]; omega)).trans a3_3
  have b3_4 := (show W4.cell? ⟨w.heap.size + 1 + 1, 1, none⟩ = W3.cell? ⟨w.heap.size + 1 + 1, 1, none⟩ by rw [← h4]; exact cell_old _ _ _ _ (by rw [z3]; omega)).trans b3_3
  obtain ⟨W5, h5⟩ : ∃ W, W4.alloc (.cells #[.string ⟨#[1, 32, 0]⟩, .slice (some ⟨w.heap.size + 1, 0, none⟩) 1 1] 24) = W := ⟨_, rfl⟩
  have z5 : W5.heap.size = w.heap.size + 1 + 1 + 1 + 1 + 1 := by rw [← h5]; simp [z4]
  have B5 : Below w.heap.size w W5 := by rw [← h5]; exact B4.alloc B4.size _
  have I5 : ItIn W5 (w.heap.size + 1) 0 kerI := by rw [← h5]; exact I4.below ((Below.refl W4.heap.size W4).alloc (Nat.le_refl _) _) (by rw [z4]; omega)
  have a5_5 : W5.cell? ⟨w.heap.size + 1 + 1 + 1 + 1, 0, none⟩ = some (.string ⟨#[1, 32, 0]⟩) := by rw [← h5, ← z4]; exact cell_allocN _ _ _ 0
  have b5_5 : W5.cell? ⟨w.heap.size + 1 + 1 + 1 + 1, 1, none⟩ = some (.slice (some ⟨w.heap.size + 1, 0, none⟩) 1 1) := by rw [← h5, ← z4]; exact cell_allocN _ _ _ 1
  have a3_5 := (show W5.cell? ⟨w.heap.size + 1 + 1, 0, none⟩ = W4.cell? ⟨w.heap.size + 1 + 1, 0, none⟩ by rw [← h5]; exact cell_old _ _ _ _ (by rw [z4]; omega)).trans a3_4
  have b3_5 := (show W5.cell? ⟨w.heap.size + 1 + 1, 1, none⟩ = W4.cell? ⟨w.heap.size + 1 + 1, 1, none⟩ by rw [← h5]; exact cell_old _ _ _ _ (by rw [z4]; omega)).trans b3_4
  have a4_5 := (show W5.cell? ⟨w.heap.size + 1 + 1 + 1, 0, none⟩ = W4.cell? ⟨w.heap.size + 1 + 1 + 1, 0, none⟩ by rw [← h5]; exact cell_old _ _ _ _ (by rw [z4]; omega)).trans a4_4
  have b4_5 := (show W5.cell? ⟨w.heap.size + 1 + 1 + 1, 1, none⟩ = W4.cell? ⟨w.heap.size + 1 + 1 + 1, 1, none⟩ by rw [← h5]; exact cell_old _ _ _ _ (by rw [z4]; omega)).trans b4_4
  have LI : ∀ W : World, Below W5.heap.size W5 W → ItAt W W.heap.size (some ⟨w.heap.size + 1, 0, none⟩) [kerI] := fun W h => itAt_one rfl (by have := h.size; rw [z5] at this; omega) (I5.below h (by rw [z5]; omega))
  have LL : ∀ W : World, Below W5.heap.size W5 W → Laid W := fun W h => laid_below hw (B5.trans (h.mono (by rw [z5]; omega)))
  have Ka3 : ∀ W : World, Below W5.heap.size W5 W → W.cell? ⟨w.heap.size + 1 + 1, 0, none⟩ = some (.string ⟨#[1, 32]⟩) := fun W h => (h.cell (p := ⟨w.heap.size + 1 + 1, 0, none⟩) (by show w.heap.size + 1 + 1 < W5.heap.size; rw [z5]; omega)).trans a3_5
  have Kb3 : ∀ W : World, Below W5.heap.size W5 W → W.cell? ⟨w.heap.size + 1 + 1, 1, none⟩ = some (.slice (some ⟨w.heap.size + 1, 0, none⟩) 1 1) := fun W h => (h.cell (p := ⟨w.heap.size + 1 + 1, 1, none⟩) (by show w.heap.size + 1 + 1 < W5.heap.size; rw [z5]; omega)).trans b3_5
  have Ka4 : ∀ W : World, Below W5.heap.size W5 W → W.cell? ⟨w.heap.size + 1 + 1 + 1, 0, none⟩ = some (.string ⟨#[2, 32]⟩) := fun W h => (h.cell (p := ⟨w.heap.size + 1 + 1 + 1, 0, none⟩) (by show w.heap.size + 1 + 1 + 1 < W5.heap.size; rw [z5]; omega)).trans a4_5
  have Kb4 : ∀ W : World, Below W5.heap.size W5 W → W.cell? ⟨w.heap.size + 1 + 1 + 1, 1, none⟩ = some (.slice (some ⟨w.heap.size + 1, 0, none⟩) 1 1) := fun W h => (h.cell (p := ⟨w.heap.size + 1 + 1 + 1, 1, none⟩) (by show w.heap.size + 1 + 1 + 1 < W5.heap.size; rw [z5]; omega)).trans b4_5
  have Ka5 : ∀ W : World, Below W5.heap.size W5 W → W.cell? ⟨w.heap.size + 1 + 1 + 1 + 1, 0, none⟩ = some (.string ⟨#[1, 32, 0]⟩) := fun W h => (h.cell (p := ⟨w.heap.size + 1 + 1 + 1 + 1, 0, none⟩) (by show w.heap.size + 1 + 1 + 1 + 1 < W5.heap.size; rw [z5]; omega)).trans a5_5
  have Kb5 : ∀ W : World, Below W5.heap.size W5 W → W.cell? ⟨w.heap.size + 1 + 1 + 1 + 1, 1, none⟩ = some (.slice (some ⟨w.heap.size + 1, 0, none⟩) 1 1) := fun W h => (h.cell (p := ⟨w.heap.size + 1 + 1 + 1 + 1, 1, none⟩) (by show w.heap.size + 1 + 1 + 1 + 1 < W5.heap.size; rw [z5]; omega)).trans b5_5
  have J1 : InsAt W1 w.heap.size ⟨10, 0, 0, 0, 0, 1, 1, 0, true⟩ := by rw [← h1]; exact InsAt.new w ⟨10, 0, 0, 0, 0, 1, 1, 0, true⟩ 29
  obtain ⟨⟨q0, q1, q2, q3, q4, q5, q6, q7, q8⟩, _⟩ := J1
  simp only at q0 q1 q2 q3 q4 q5 q6 q7 q8
  clear I2 I3 I4 I5 a3_5 b3_5 a4_4 b4_4 a4_5 b4_5 a5_5 b5_5
  go_enter Tryd.func6, Tryd.ntmps6
  go_wp2_with fail
  clear q0 q1 q2 q3 q4 q5 q6 q7 q8 a3_3 b3_3 a3_4 b3_4
  (refine (C0 W5 (LL _ (Below.refl _ _))).mono ?_; rintro e w1 ⟨rfl, hb1⟩)
  have X1 : Below W5.heap.size W5 w1 := hb1
  have m1 := Ka3 _ X1
  have m2 := Kb3 _ X1
  go_wp2_with fail
  (refine (C1 _ w1 (LI _ X1) (LL _ X1)).mono ?_; rintro e w2 ⟨rfl, hb2⟩)
  have X2 : Below W5.heap.size W5 w2 := X1.trans (hb2.mono X1.size)
  clear m1 m2 hb1 hb2
  have m1 := Ka4 _ X2
  have m2 := Kb4 _ X2
  go_wp2_with fail
  (refine (D2 _ w2 (LI _ X2)).mono ?_; rintro e w3 ⟨rfl, hb3⟩)
  have X3 : Below W5.heap.size W5 w3 := X2.trans (hb3.mono X2.size)
  clear m1 m2 hb3
  have m1 := Ka4 _ X3
  have m2 := Kb4 _ X3
  go_wp2_with fail
  (refine (R2 _ w3 (LI _ X3) (LL _ X3)).mono ?_; rintro e w4 ⟨rfl, hb4⟩)
  have X4 : Below W5.heap.size W5 w4 := X3.trans (hb4.mono X3.size)
  clear m1 m2 hb4
  have m1 := Ka5 _ X4
  have m2 := Kb5 _ X4
  go_wp2_with fail
  (refine (D3 _ w4 (LI _ X4)).mono ?_; rintro e w5 ⟨rfl, hb5⟩)
  have X5 : Below W5.heap.size W5 w5 := X4.trans (hb5.mono X4.size)
  clear m1 m2 hb5
  have m1 := Ka5 _ X5
  have m2 := Kb5 _ X5
  go_wp2_with fail
  (refine (R3 _ w5 (LI _ X5) (LL _ X5)).mono ?_; rintro e w6 ⟨rfl, hb6⟩)
  have X6 : Below W5.heap.size W5 w6 := X5.trans (hb6.mono X5.size)
  go_wp2_with fail
  exact bodyPost_ret (results_tmp rfl _ _ _) rfl ⟨rfl, B5.trans (X6.mono (by rw [z5]; omega))⟩
#print axioms awake_ok
end Go.Proofs.YtiicniiecomhjaaDoor
