/- For the seat: texts joined: KerH. -/
import Derived.Test.YtiicniiecomhjaaDoorJKerL
/- For the seat: the law's function: an image that may be is refused without its last byte, and with one more. -/
namespace Go.Proofs.YtiicniiecomhjaaDoor
open Go.Sx Go.ChangeShapes Go.WideShapes Go.RowKit Go.Joins Go.Deep

/-- Of another length an image may not be. -/
theorem chkB_len {s t : ByteArray} {l : List Itm} (h : chkB s l = true) (ht : t.size ≠ s.size) : chkB t l = false := by
  unfold chkB at h ⊢
  rw [Bool.and_eq_true] at h
  have h1 := disjB_sum h.1
  cases hd : disjB t.size 0 l with
  | false => rfl
  | true =>
    have h2 := disjB_sum hd
    exact absurd (by omega) ht

theorem ext_size (s : ByteArray) : (s.extract 0 (s.size - 1)).size = s.size - 1 := by
  have h : (s.extract 0 (s.size - 1)).data.toList.length = (s.extract 0 (s.size - 1)).size := rfl
  have h2 : s.data.toList.length = s.size := rfl
  rw [Lib.extract_data, List.length_take, List.length_drop] at h
  omega
theorem app_size (s : ByteArray) : (s ++ (⟨#[0]⟩ : ByteArray)).size = s.size + 1 := by
  rw [ByteArray.size_append]; rfl
theorem few_size {n : Nat} {l : List Itm} (h : fewI n l ≠ 0) : n ≤ 3145728 := by
  unfold fewI at h
  split at h
  · rename_i hc; exact hc.1
  · exact absurd rfl h

set_option maxRecDepth 100000 in
set_option maxHeartbeats 4000000 in
theorem short_r (s : ByteArray) (l : List Itm) (A : Option Addr) (cap : Nat) (w : World) (hA : ItAt w w.heap.size A l) (hk : ∀ y ∈ l, y.Ok) (hl : l.length ≤ maxLen) (hw : Laid w) :
    Calls Tryd.prog 4 #[.agg #[.string s, .slice A l.length cap]] w fun e w' => e = .returned (.bool true) ∧ Below w.heap.size w w' := by
  have b0 : Below w.heap.size w (w.alloc (.cells #[.string s, .slice A l.length cap] 24)) := (Below.refl _ _).alloc (Nat.le_refl _) _
  have c0 : (w.alloc (.cells #[.string s, .slice A l.length cap] 24)).cell? ⟨w.heap.size, 0, none⟩ = some (.string s) := cell_allocN _ _ _ 0
  have c01 : (w.alloc (.cells #[.string s, .slice A l.length cap] 24)).cell? ⟨w.heap.size, 1, none⟩ = some (.slice A l.length cap) := cell_allocN _ _ _ 1
  have hsz : (w.alloc (.cells #[.string s, .slice A l.length cap] 24)).heap.size = w.heap.size + 1 := by simp
  generalize hW : w.alloc (.cells #[.string s, .slice A l.length cap] 24) = W0 at b0 c0 c01 hsz
  have hF := few_any s l A cap W0 ((hA.below b0 (Nat.le_refl _)).more (by omega)) hl
  have hAw := fun (W : World) (h : Below w.heap.size w W) => awake_ok W (laid_below hw h)
  by_cases hf : fewI s.size l = 0
  · rw [hf] at hF
    go_enter Tryd.func4, Tryd.ntmps4
    go_wp2_with fail
    ((with_reducible refine hF.mono ?_); rintro e w1 ⟨rfl, hb1⟩)
    have h1 : Below w.heap.size w w1 := b0.trans (hb1.mono (by omega))
    have hAw1 := hAw w1 h1
    go_wp2_with fail
    ((with_reducible refine hAw1.mono ?_); rintro e w2 ⟨rfl, hb2⟩)
    go_wp2_with fail
    exact bodyPost_ret (results_tmp rfl _ _ _) rfl ⟨rfl, h1.trans (hb2.mono h1.size)⟩
  have I := Img.of_few hk hf
  have hfn : (fewI s.size l == 0) = false := by simpa using hf
  have at_ : ∀ W : World, Below w.heap.size w W → ItAt W W.heap.size A l := fun W h => (hA.below h (Nat.le_refl _)).more h.size
  have hC := fun (W : World) (h : Below w.heap.size w W) => check_img I A cap W (at_ W h) (laid_below hw h)
  have K0 : ∀ W : World, Below W0.heap.size W0 W → W.cell? ⟨w.heap.size, 0, none⟩ = some (.string s) := fun W h => (h.cell (p := ⟨w.heap.size, 0, none⟩) (by show w.heap.size < W0.heap.size; omega)).trans c0
  have K1 : ∀ W : World, Below W0.heap.size W0 W → W.cell? ⟨w.heap.size, 1, none⟩ = some (.slice A l.length cap) := fun W h => (h.cell (p := ⟨w.heap.size, 1, none⟩) (by show w.heap.size < W0.heap.size; omega)).trans c01
  have U : ∀ W : World, Below W0.heap.size W0 W → Below w.heap.size w W := fun W h => b0.trans (h.mono (by omega))
  cases hch : chkB s l with
  | false =>
    rw [hch] at hC
    generalize fewI s.size l = fI at hF hfn
    clear hf
    go_enter Tryd.func4, Tryd.ntmps4
    go_wp2_with fail
    ((with_reducible refine hF.mono ?_); rintro e w1 ⟨rfl, hb1⟩)
    have m0 := K0 _ hb1
    have m1 := K1 _ hb1
    have hC1 := hC _ (U _ hb1)
    go_wp2_with fail
    ((with_reducible refine hC1.mono ?_); rintro e w2 ⟨rfl, hb2⟩)
    have B2 := hb1.trans (hb2.mono hb1.size)
    have hAw1 := hAw _ (U _ B2)
    go_wp2_with fail
    ((with_reducible refine hAw1.mono ?_); rintro e w3 ⟨rfl, hb3⟩)
    go_wp2_with fail
    exact bodyPost_ret (results_tmp rfl _ _ _) rfl ⟨rfl, U _ (B2.trans (hb3.mono B2.size))⟩
  | true =>
    rw [hch] at hC
    have hfl := Lib.hid hf
    have HC := Lib.hid hch
    have HI := Lib.hid I
    have HK := Lib.hid hk
    generalize fewI s.size l = fI at hF hfn
    clear hf hch I hk
    go_enter Tryd.func4, Tryd.ntmps4
    go_wp2_with fail
    ((with_reducible refine hF.mono ?_); rintro e w1 ⟨rfl, hb1⟩)
    have m0 := K0 _ hb1
    have m1 := K1 _ hb1
    have hC1 := hC _ (U _ hb1)
    go_wp2_with fail
    ((with_reducible refine hC1.mono ?_); rintro e w2 ⟨rfl, hb2⟩)
    have B2 := hb1.trans (hb2.mono hb1.size)
    clear m0 m1 hC1 hC hF
    have m0 := K0 _ B2
    have m1 := K1 _ B2
    have x2 : w.heap.size < w2.heap.size := by have := B2.size; omega
    obtain ⟨W3, h3⟩ : ∃ W, w2.alloc (.cells #[.string s, .slice A l.length cap] 24) = W := ⟨_, rfl⟩
    have B3 : Below W0.heap.size W0 W3 := by rw [← h3]; exact B2.alloc B2.size _
    have z3 : W3.heap.size = w2.heap.size + 1 := by rw [← h3]; simp
    have n0 := K0 _ B3
    have n1 := K1 _ B3
    have d0 : W3.cell? ⟨w2.heap.size, 0, none⟩ = some (.string s) := by rw [← h3]; exact cell_allocN _ _ _ 0
    have d1 : W3.cell? ⟨w2.heap.size, 1, none⟩ = some (.slice A l.length cap) := by rw [← h3]; exact cell_allocN _ _ _ 1
    have df : W3.frozen? ⟨w2.heap.size, 0, none⟩ = false := by
      rw [← h3]
      have h : (w2.alloc (.cells #[.string s, .slice A l.length cap] 24)).heap[w2.heap.size]? = some (.cells #[.string s, .slice A l.length cap] 24 (0, 0)) := heap_alloc_new w2 _
      simp only [World.frozen?, h]; simp
    have hne : ¬ w2.heap.size = w.heap.size := by omega
    have hne' : ¬ w.heap.size = w2.heap.size := by omega
    have Ie : Img (s.extract 0 (s.size - 1)) l := ⟨by rw [ext_size]; have := HI.out.hs; omega, HI.out.hl, HI.out.ok, HI.out.vs⟩
    have Id : Img (s ++ ⟨#[0]⟩) l := ⟨by rw [app_size]; have := few_size hfl.out; omega, HI.out.hl, HI.out.ok, HI.out.vs⟩
    have hCd := fun (W : World) (h : Below w.heap.size w W) => check_img Id A cap W (at_ W h) (laid_below hw h)
    rw [chkB_len HC.out (by rw [app_size]; omega)] at hCd
    have hCe := fun (h1 : 1 ≤ s.size) (W : World) (h : Below w.heap.size w W) => chkB_len HC.out (t := s.extract 0 (s.size - 1)) (by rw [ext_size]; omega) ▸ check_img Ie A cap W (at_ W h) (laid_below hw h)
    obtain ⟨W4, h4⟩ : ∃ W, W3.setCell ⟨w2.heap.size, 0, none⟩ (.string (s ++ ⟨#[0]⟩)) = W := ⟨_, rfl⟩
    have B4 : Below W0.heap.size W0 W4 := by rw [← h4]; exact B3.setCell (p := ⟨w2.heap.size, 0, none⟩) (by show W0.heap.size ≤ w2.heap.size; exact B2.size) _
    have z4 : W4.heap.size = w2.heap.size + 1 := by rw [← h4]; simpa using z3
    have o0 := K0 _ B4
    have o1 := K1 _ B4
    have f0 : W4.cell? ⟨w2.heap.size, 0, none⟩ = some (.string (s ++ ⟨#[0]⟩)) := by rw [← h4]; exact World.cell?_setCell_same W3 _ _ d0
    have f1 : W4.cell? ⟨w2.heap.size, 1, none⟩ = some (.slice A l.length cap) := by rw [← h4]; exact (World.cell?_setCell_other W3 _ _ _ (by simp)).trans d1
    have D0 : ∀ W : World, Below W4.heap.size W4 W → W.cell? ⟨w2.heap.size, 0, none⟩ = some (.string (s ++ ⟨#[0]⟩)) := fun W h => (h.cell (p := ⟨w2.heap.size, 0, none⟩) (by show w2.heap.size < W4.heap.size; omega)).trans f0
    have D1 : ∀ W : World, Below W4.heap.size W4 W → W.cell? ⟨w2.heap.size, 1, none⟩ = some (.slice A l.length cap) := fun W h => (h.cell (p := ⟨w2.heap.size, 1, none⟩) (by show w2.heap.size < W4.heap.size; omega)).trans f1
    have V : ∀ W : World, Below W4.heap.size W4 W → Below w.heap.size w W := fun W h => U _ (B4.trans (h.mono B4.size))
    clear f0 f1
    have hsb := few_size hfl.out
    by_cases hs0 : s.size = 0
    · have hse : s.toList.isEmpty = true := by
        have : s.data.toList.length = s.size := rfl
        have h : s.data.toList = [] := List.eq_nil_of_length_eq_zero (by omega)
        rw [show s.toList = s.data.toList from Lib.toList_data s, h]; rfl
      obtain ⟨W5, h5⟩ : ∃ W, W4.alloc (.cells #[.string s, .slice A l.length cap] 24) = W := ⟨_, rfl⟩
      have B5 : Below W4.heap.size W4 W5 := by rw [← h5]; exact (Below.refl _ _).alloc (Nat.le_refl _) _
      have p0 := K0 _ (B4.trans (B5.mono B4.size))
      have p1 := D0 _ B5
      have p2 := D1 _ B5
      have hCd5 := hCd _ (V _ B5)
      clear hs0
      go_wp2_with fail
      ((with_reducible refine hCd5.mono ?_); rintro e w6 ⟨rfl, hb6⟩)
      have B6 := B5.trans (hb6.mono B5.size)
      have hAw6 := hAw _ (V _ B6)
      go_wp2_with fail
      ((with_reducible refine hAw6.mono ?_); rintro e w7 ⟨rfl, hb7⟩)
      go_wp2_with fail
      exact bodyPost_ret (results_tmp rfl _ _ _) rfl ⟨rfl, V _ (B6.trans (hb7.mono B6.size))⟩
    · have hse : s.toList.isEmpty = false := by
        have : s.data.toList.length = s.size := rfl
        rw [show s.toList = s.data.toList from Lib.toList_data s]
        cases h : s.data.toList with
        | nil => rw [h] at this; exact absurd this.symm hs0
        | cons a r => rfl
      have q0 : (0 : Int) ≤ (s.size : Int) - 1 := by omega
      have q1 : (s.size : Int) - 1 ≤ (s.size : Int) := by omega
      have hs1 : 1 ≤ s.size := by omega
      obtain ⟨W5, h5⟩ : ∃ W, W4.alloc (.cells #[.string (s.extract 0 (s.size - 1)), .slice A l.length cap] 24) = W := ⟨_, rfl⟩
      have B5 : Below W4.heap.size W4 W5 := by rw [← h5]; exact (Below.refl _ _).alloc (Nat.le_refl _) _
      have p3 : W5.cell? ⟨w2.heap.size + 1, 0, none⟩ = some (.string (s.extract 0 (s.size - 1))) := by rw [← h5, ← z4]; exact cell_allocN _ _ _ 0
      have p4 : W5.cell? ⟨w2.heap.size + 1, 1, none⟩ = some (.slice A l.length cap) := by rw [← h5, ← z4]; exact cell_allocN _ _ _ 1
      have hCe5 := hCe hs1 _ (V _ B5)
      have tn : ((s.size : Int) - 1).toNat = s.size - 1 := by omega
      clear hs0
      go_wp2_with fail
      ((with_reducible refine hCe5.mono ?_); rintro e w6 ⟨rfl, hb6⟩)
      have B6 := B5.trans (hb6.mono B5.size)
      have r1 := D0 _ B6
      have r2 := D1 _ B6
      have hCd6 := hCd _ (V _ B6)
      clear p3 p4 hCe5
      go_wp2_with fail
      ((with_reducible refine hCd6.mono ?_); rintro e w7 ⟨rfl, hb7⟩)
      have B7 := B6.trans (hb7.mono B6.size)
      have hAw7 := hAw _ (V _ B7)
      go_wp2_with fail
      ((with_reducible refine hAw7.mono ?_); rintro e w8 ⟨rfl, hb8⟩)
      go_wp2_with fail
      exact bodyPost_ret (results_tmp rfl _ _ _) rfl ⟨rfl, V _ (B7.trans (hb8.mono B7.size))⟩
#print axioms short_r
end Go.Proofs.YtiicniiecomhjaaDoor
