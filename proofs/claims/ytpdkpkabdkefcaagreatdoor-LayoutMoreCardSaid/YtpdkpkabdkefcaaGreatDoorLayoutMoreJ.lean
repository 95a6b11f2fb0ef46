/- LayoutMore: for every input the law returns true, and the arguments read as before. The package's variable offs.kinds starts as the program's text lays it (the card's tie). -/
import Derived.Test.YtpdkpkabdkefcaaGreatDoorJBn
import Derived.Test.YtpdkpkabdkefcaaGreatDoorJAo
set_option maxRecDepth 100000
namespace Go.Proofs.YtpdkpkabdkefcaaGreatDoor.layoutMore
open Go.ChangeShapes Go.WideShapes Go.ChangeAt Go.RowKit Go.Sx
theorem wit (os : Os) : ((laidWorld os).forCall (fun _ _ => 0) ⟨#[], #[.slice none 0 0, .slice none 0 0], []⟩).memory.heap[0]? = some (.cells cells12 110 (0, 0)) := by kernel_rfl
theorem lifted (os : Os) (started : os.Started) (H : Type) (enc : TypeId × Value → H) :
    ReturnsInHanded {} Tryz.checked os 5 .any (fun w args => (Rows.layoutMoreSpec.pre enc Tryz.prog Tryz.f5 Rows.layoutMoreRow.domain false w args ∧ laidMet Tryz.prog [("cartouche/offs.kinds", Rows.laid_cartouche_offs_kinds)] w) ∧ sizedMet enc Tryz.prog Tryz.f5 (OpenSpec.ofChange Rows.layoutMoreSpec) false w args)
      (Rows.layoutMoreSpec.post enc Tryz.prog Tryz.f5 false true false false) := by
  refine returnsInHanded_of_change_and (C := Tryz.checked) (X := fun w _ => laidMet Tryz.prog [("cartouche/offs.kinds", Rows.laid_cartouche_offs_kinds)] w) (fun _ _ _ hh h => h.of_heap hh) own started (by kernel_rfl) Tryz.func5
    (ChangeSpec.witness_at (enc := enc) (C := Tryz.checked) (os := os) (X := fun w _ => laidMet Tryz.prog [("cartouche/offs.kinds", Rows.laid_cartouche_offs_kinds)] w) false (laidWorld os) #[.slice none 0 0, .slice none 0 0] 8 rfl (by kernel_rfl) (by kernel_rfl) (by kernel_rfl) (by kernel_rfl) (by kernel_rfl) (laid_met _ (wit os))) ?_
  intro W base args ds gs before hval0 hW _ hwt hL _
  have hval : ∀ (j : Nat) t v, Tryz.f5.params[j]? = some t → args[j]? = some v → Value.okWide Tryz.prog W .any base t v := hval0
  have hW' := hW
  obtain ⟨p, q, hA0, hV, rfl, hfz, hnd⟩ := hW
  have hA : DataW.TrodAll enc Tryz.prog W 0 (fun _ => true) true Tryz.f5.params.toList args.toList ds p := hA0
  rw [Tryz.params5] at hA hval
  obtain ⟨v0, v1, d_0, d_1, p0, p1, rfl, rfl, rfl, h0, h1⟩ := trodAll_two hA
  obtain ⟨A0, cap0, L0, rfl, hLs0, hl0, hc0, hn0⟩ := open_linesN (j := 0) (hval 0 22 v0 rfl rfl) h0 hwt (by rw [Tryz.params5]; rfl) rfl
  obtain ⟨A1, cap1, l1, rfl, hI1, _, _, hc1, hn1⟩ := open_intsN (hval 1 26 v1 rfl rfl) h1
  clear hA0 hval0
  refine (more_r L0 hl0 l1 A0 A1 cap0 cap1 hc0 hn0 hn1 W hLs0 hI1 (laid_of hL)).mono fun e W' ⟨he, hb⟩ => ⟨_, he, ?_⟩
  exact law_post laidOutQ rfl (by rw [Tryz.params5]; intro t ht; simp at ht; rcases ht with rfl | rfl <;> exact ⟨by kernel_rfl, of_decide_eq_true (by kernel_rfl)⟩) hW' hb (by kernel_rfl) Tryz.underlying4 rfl
theorem joined : joinedFacts Tryz.prog 5 Tryz.f5 Rows.layoutMoreSpec Rows.layoutMoreRow = true := by
  unfold joinedFacts
  rw [pEnter, pLifts, pMake]
  kernel_rfl
theorem row : Rows.LayoutMoreSaid :=
  OpenClaim.holds_of_wide 5 Tryz.f5 rfl rfl rfl rfl rfl rfl rfl ⟨rfl, rfl, rfl, rfl, rfl⟩ rfl rfl rfl rfl rfl (by kernel_rfl) Tryz.func5 joined
    (of_decide_eq_true (by kernel_rfl)) (by unfold Func.isWrapper; first | (rw [if_pos (by decide +kernel)]; kernel_rfl) | (rw [if_neg (by decide +kernel)]; exact ⟨rfl, rfl⟩))
    (fun os started H enc _ => lifted os started H enc)
theorem goes0 : false = Rows.layoutMoreRow.goesBy Tryz.prog := by kernel_rfl
theorem named0 : Tryz.prog.funcNamed "cartouche/cartouchelaw23.LayoutMore" = some 5 := by kernel_rfl
theorem wf0 : Rows.layoutMoreRow.wfByText (OpenSpec.ofChange Rows.layoutMoreSpec) = true := by kernel_rfl
theorem proved : Rows.LayoutMoreCardSaid :=
  Claim7.holds_tied_plain_at .later [] [.data] true (true, "54c126094c0137b721e371cda6b9b81e0c5c523a92dc8b3b199e772204328681") false
    row (fun _ h => by cases h) wf0 (fun _ h => by cases h) layoutMore_row_tie rfl ⟨rfl, rfl⟩ pMain rfl
    (fun f fn hf hfn => by
      obtain rfl : f = 5 := Option.some.inj (named0.symm.trans hf) |>.symm
      obtain rfl : fn = Tryz.f5 := (Option.some.inj (Tryz.func5.symm.trans hfn)).symm
      exact ⟨pLooks, fun j t ht => by
        rw [Tryz.params5] at ht
        have h3 : t = 22 ∨ t = 26 := by
          rcases j with _ | _ | j
          all_goals simp at ht
          all_goals simp [← ht]
        rcases h3 with rfl | rfl
        all_goals first
          | exact (show Tryz.prog.wantsStandIn 22 = false by kernel_rfl)
          | exact (show Tryz.prog.wantsStandIn 26 = false by kernel_rfl)
      ⟩)
    goes0
#print axioms proved
end Go.Proofs.YtpdkpkabdkefcaaGreatDoor.layoutMore
