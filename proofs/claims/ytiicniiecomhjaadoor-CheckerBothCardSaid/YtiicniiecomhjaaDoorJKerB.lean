/- For the seat: texts joined: KerB. -/
import Derived.Test.YtiicniiecomhjaaDoorJKerL
import Derived.Deep.RegionHeld3
/- For the seat: the laws' functions: an image may be just if its items stand one behind the other and each is as it should be; one that may be is refused with a byte more or less. -/
namespace Go.Proofs.YtiicniiecomhjaaDoor
open Go.Sx Go.ChangeShapes Go.WideShapes Go.RowKit Go.Joins Go.Deep

set_option maxRecDepth 100000 in
set_option maxHeartbeats 2000000 in
theorem both_r (s : ByteArray) (l : List Itm) (A : Option Addr) (cap : Nat) (w : World) (hA : ItAt w w.heap.size A l) (hk : ∀ y ∈ l, y.Ok) (hl : l.length ≤ maxLen) (hw : Laid w) :
    Calls Tryd.prog 3 #[.agg #[.string s, .slice A l.length cap]] w fun e w' => e = .returned (.bool true) ∧ Below w.heap.size w w' := by
  have b0 : Below w.heap.size w (w.alloc (.cells #[.string s, .slice A l.length cap] 24)) := (Below.refl _ _).alloc (Nat.le_refl _) _
  have c0 : (w.alloc (.cells #[.string s, .slice A l.length cap] 24)).cell? ⟨w.heap.size, 0, none⟩ = some (.string s) := cell_allocN _ _ _ 0
  have c01 : (w.alloc (.cells #[.string s, .slice A l.length cap] 24)).cell? ⟨w.heap.size, 1, none⟩ = some (.slice A l.length cap) := cell_allocN _ _ _ 1
  have hsz : (w.alloc (.cells #[.string s, .slice A l.length cap] 24)).heap.size = w.heap.size + 1 := by simp
  generalize hW : w.alloc (.cells #[.string s, .slice A l.length cap] 24) = W0 at b0 c0 c01 hsz
  have hF := few_any s l A cap W0 ((hA.below b0 (Nat.le_refl _)).more (by omega)) hl
  have hAw := fun (W : World) (h : Below w.heap.size w W) => awake_ok W (laid_below hw h)
  by_cases hf : fewI s.size l = 0
  · rw [hf] at hF
    go_enter Tryd.func3, Tryd.ntmps3
    go_wp2_with fail
    ((with_reducible refine hF.mono ?_); rintro e w1 ⟨rfl, hb1⟩)
    have h1 : Below w.heap.size w w1 := b0.trans (hb1.mono (by omega))
    have hAw1 := hAw w1 h1
    go_wp2_with fail
    ((with_reducible refine hAw1.mono ?_); rintro e w2 ⟨rfl, hb2⟩)
    go_wp2_with fail
    exact bodyPost_ret (results_tmp rfl _ _ _) rfl ⟨rfl, h1.trans (hb2.mono h1.size)⟩
  have I := Img.of_few hk hf
  have hfn : (fewI s.size l == 0) = false := by simpa using hf
  have at_ : ∀ W : World, Below w.heap.size w W → ItAt W W.heap.size A l := fun W h => (hA.below h (Nat.le_refl _)).more h.size
  have hC := fun (W : World) (h : Below w.heap.size w W) => check_img I A cap W (at_ W h) (laid_below hw h)
  have hD := fun (W : World) (h : Below w.heap.size w W) => disj_img I A cap W (at_ W h)
  have hR := fun (W : World) (h : Below w.heap.size w W) => rang_img I A cap W (at_ W h) (laid_below hw h)
  unfold chkB at hC
  have lt0 : ∀ W : World, W0.heap.size ≤ W.heap.size → w.heap.size < W.heap.size := fun W h => by omega
  generalize disjB s.size 0 l = dB at hC hD
  generalize rangB s.data.toList l 0 l = rB at hC hR
  generalize fewI s.size l = fI at hF hfn
  clear hf I hA
  go_enter Tryd.func3, Tryd.ntmps3
  go_wp2_with fail
  ((with_reducible refine hF.mono ?_); rintro e w1 ⟨rfl, hb1⟩)
  have h1 : Below w.heap.size w w1 := b0.trans (hb1.mono (by omega))
  have z1 : W0.heap.size ≤ w1.heap.size := hb1.size
  have K0 : ∀ W : World, Below W0.heap.size W0 W → W.cell? ⟨w.heap.size, 0, none⟩ = some (.string s) := fun W h => (h.cell (p := ⟨w.heap.size, 0, none⟩) (by show w.heap.size < W0.heap.size; omega)).trans c0
  have K1 : ∀ W : World, Below W0.heap.size W0 W → W.cell? ⟨w.heap.size, 1, none⟩ = some (.slice A l.length cap) := fun W h => (h.cell (p := ⟨w.heap.size, 1, none⟩) (by show w.heap.size < W0.heap.size; omega)).trans c01
  have U : ∀ W : World, Below W0.heap.size W0 W → Below w.heap.size w W := fun W h => b0.trans (h.mono (by omega))
  have m0 := K0 _ hb1
  have m1 := K1 _ hb1
  have hb1d := hb1.drew
  clear hF hW c0 c01
  cases dB
  · go_wp2_with fail
    go_region_with (first
      | (go_at_call 7; refine (hC _ (U _ hb1d)).mono ?_; rintro e w2 ⟨rfl, hb2⟩; have B2 := hb1d.trans (hb2.mono hb1d.size); have n0 := K0 _ B2; have n1 := K1 _ B2)
      | (go_at_call 8; refine (hD _ (U _ B2)).mono ?_; rintro e w3 ⟨rfl, hb3⟩; have B3 := B2.trans (hb3.mono B2.size); have o0 := K0 _ B3; have o1 := K1 _ B3)
      | (go_at_call 6; refine (hAw _ (U _ B3)).mono ?_; rintro e w5 ⟨rfl, hb5⟩; have B5 := B3.trans (hb5.mono B3.size)))
    all_goals
      go_wp2_with fail
      exact bodyPost_ret (results_tmp rfl _ _ _) rfl ⟨rfl, U _ B5⟩
  · cases rB
    · go_wp2_with fail
      go_region_with (first
        | (go_at_call 7; refine (hC _ (U _ hb1d)).mono ?_; rintro e w2 ⟨rfl, hb2⟩; have B2 := hb1d.trans (hb2.mono hb1d.size); have n0 := K0 _ B2; have n1 := K1 _ B2)
        | (go_at_call 8; refine (hD _ (U _ B2)).mono ?_; rintro e w3 ⟨rfl, hb3⟩; have B3 := B2.trans (hb3.mono B2.size); have o0 := K0 _ B3; have o1 := K1 _ B3)
        | (go_at_call 9; refine (hR _ (U _ B3)).mono ?_; rintro e w4 ⟨rfl, hb4⟩; have B4 := B3.trans (hb4.mono B3.size))
        | (go_at_call 6; refine (hAw _ (U _ B4)).mono ?_; rintro e w5 ⟨rfl, hb5⟩; have B5 := B4.trans (hb5.mono B4.size)))
      all_goals
        go_wp2_with fail
        exact bodyPost_ret (results_tmp rfl _ _ _) rfl ⟨rfl, U _ B5⟩
    · go_wp2_with fail
      go_region_with (first
        | (go_at_call 7; refine (hC _ (U _ hb1d)).mono ?_; rintro e w2 ⟨rfl, hb2⟩; have B2 := hb1d.trans (hb2.mono hb1d.size); have n0 := K0 _ B2; have n1 := K1 _ B2)
        | (go_at_call 8; refine (hD _ (U _ B2)).mono ?_; rintro e w3 ⟨rfl, hb3⟩; have B3 := B2.trans (hb3.mono B2.size); have o0 := K0 _ B3; have o1 := K1 _ B3)
        | (go_at_call 9; refine (hR _ (U _ B3)).mono ?_; rintro e w4 ⟨rfl, hb4⟩; have B4 := B3.trans (hb4.mono B3.size))
        | (go_at_call 6; refine (hAw _ (U _ B4)).mono ?_; rintro e w5 ⟨rfl, hb5⟩; have B5 := B4.trans (hb5.mono B4.size)))
      all_goals
        go_wp2_with fail
        exact bodyPost_ret (results_tmp rfl _ _ _) rfl ⟨rfl, U _ B5⟩
#print axioms both_r
end Go.Proofs.YtiicniiecomhjaaDoor
