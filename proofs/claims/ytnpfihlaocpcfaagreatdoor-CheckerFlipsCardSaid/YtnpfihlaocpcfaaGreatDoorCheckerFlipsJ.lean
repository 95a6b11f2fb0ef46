/- CheckerFlips: for every input the law returns true, and the arguments read as before. The package's variable offs.kinds starts as the program's text lays it (the card's tie). -/
import Derived.Test.YtnpfihlaocpcfaaGreatDoorJL2f
import Derived.Test.YtnpfihlaocpcfaaGreatDoorJL0a
namespace Go.Proofs.YtnpfihlaocpcfaaGreatDoor.checkerFlips
open Go.ChangeShapes Go.WideShapes Go.ChangeAt Go.RowKit Go.Sx

set_option maxRecDepth 100000 in
theorem wit (os : Os) : ((laidWorld os).forCall (fun _ _ => 0) ⟨#[], #[.agg #[.string ⟨#[]⟩, .slice none 0 0], .agg #[.int .i64 0, .int .i64 0]], []⟩).memory.heap[0]? = some (.cells cells12 118 (0, 0)) := by kernel_rfl

set_option maxRecDepth 100000 in
theorem lifted (os : Os) (started : os.Started) (H : Type) (enc : TypeId × Value → H) :
    ReturnsInHanded {} Tryz.checked os 3 .any (fun w args => (Rows.checkerFlipsSpec.pre enc Tryz.prog Tryz.f3 Rows.checkerFlipsRow.domain false w args ∧ laidMet Tryz.prog [("cartouche/offs.kinds", Rows.laid_cartouche_offs_kinds)] w) ∧ sizedMet enc Tryz.prog Tryz.f3 (OpenSpec.ofChange Rows.checkerFlipsSpec) false w args)
      (Rows.checkerFlipsSpec.post enc Tryz.prog Tryz.f3 false true false false) := by
  refine returnsInHanded_of_change_and (C := Tryz.checked) (X := fun w _ => laidMet Tryz.prog [("cartouche/offs.kinds", Rows.laid_cartouche_offs_kinds)] w) (fun _ _ _ hh h => h.of_heap hh) own started (by kernel_rfl) Tryz.func3
    (ChangeSpec.witness_at (enc := enc) (C := Tryz.checked) (os := os) (X := fun w _ => laidMet Tryz.prog [("cartouche/offs.kinds", Rows.laid_cartouche_offs_kinds)] w) false (laidWorld os) #[.agg #[.string ⟨#[]⟩, .slice none 0 0], .agg #[.int .i64 0, .int .i64 0]] 8 rfl (by kernel_rfl) (by kernel_rfl) (by kernel_rfl) (by kernel_rfl) (by kernel_rfl) (laid_met _ (wit os))) ?_
  intro W base args ds gs before hval0 hW _ _ hL _
  have hval : ∀ (j : Nat) t v, Tryz.f3.params[j]? = some t → args[j]? = some v → Value.okWide Tryz.prog W .any base t v := hval0
  have hW' := hW
  obtain ⟨p, q, hA0, hV, rfl, hfz, hnd⟩ := hW
  have hA : DataW.TrodAll enc Tryz.prog W 0 (fun _ => true) true Tryz.f3.params.toList args.toList ds p := hA0
  rw [Tryz.params3] at hA hval
  obtain ⟨v0, v1, d_0, d_1, p0, p1, rfl, rfl, rfl, h0, h1⟩ := trodAll_two hA
  obtain ⟨s0, A0, cap0, l0, rfl, hI0, hk0, hl0, _⟩ := open_code (hval 0 24 v0 rfl rfl) h0
  obtain ⟨n1, m1, rfl, _, _⟩ := open_int2 (hval 1 25 v1 rfl rfl) h1
  clear hA0 hval0
  refine (flips_r s0 l0 A0 cap0 n1 m1 W hI0 hk0 hl0 (laid_of hL)).mono fun e W' ⟨he, hb⟩ => ⟨_, he, ?_⟩
  exact law_post laidOutQ rfl (by rw [Tryz.params3]; intro t ht; simp at ht; rcases ht with rfl | rfl <;> exact ⟨by kernel_rfl, of_decide_eq_true (by kernel_rfl)⟩) hW' hb (by kernel_rfl) Tryz.underlying4 rfl

set_option maxRecDepth 100000 in
theorem joined : joinedFacts Tryz.prog 3 Tryz.f3 Rows.checkerFlipsSpec Rows.checkerFlipsRow = true := by
  unfold joinedFacts
  rw [pEnter, pLifts, pMake]
  kernel_rfl

set_option maxRecDepth 100000 in
theorem row : Rows.CheckerFlipsSaid :=
  OpenClaim.holds_of_wide 3 Tryz.f3 rfl rfl rfl rfl rfl rfl rfl ⟨rfl, rfl, rfl, rfl, rfl⟩ rfl rfl rfl rfl rfl (by kernel_rfl) Tryz.func3 joined
    (of_decide_eq_true (by kernel_rfl)) (by unfold Func.isWrapper; first | (rw [if_pos (by decide +kernel)]; kernel_rfl) | (rw [if_neg (by decide +kernel)]; exact ⟨rfl, rfl⟩))
    (fun os started H enc _ => lifted os started H enc)

set_option maxRecDepth 100000 in
theorem goes0 : false = Rows.checkerFlipsRow.goesBy Tryz.prog := by kernel_rfl

set_option maxRecDepth 100000 in
theorem named0 : Tryz.prog.funcNamed "cartouche/cartouchelaw25.CheckerFlips" = some 3 := by kernel_rfl

set_option maxRecDepth 100000 in
theorem wf0 : Rows.checkerFlipsRow.wfByText (OpenSpec.ofChange Rows.checkerFlipsSpec) = true := by kernel_rfl

set_option maxRecDepth 100000 in
theorem proved : Rows.CheckerFlipsCardSaid :=
  Claim7.holds_tied_plain_at .later [] [.data] true (true, "864f00a14bccc5efa04669977b86f8b8f8fe7becea85eda00f5d73d256e55283") false
    row (fun _ h => by cases h) wf0 (fun _ h => by cases h) checkerFlips_row_tie rfl ⟨rfl, rfl⟩ pMain rfl
    (fun f fn hf hfn => by
      obtain rfl : f = 3 := Option.some.inj (named0.symm.trans hf) |>.symm
      obtain rfl : fn = Tryz.f3 := (Option.some.inj (Tryz.func3.symm.trans hfn)).symm
      exact ⟨pLooks, fun j t ht => by
        rw [Tryz.params3] at ht
        have h3 : t = 24 ∨ t = 25 := by
          rcases j with _ | _ | j
          all_goals simp at ht
          all_goals simp [← ht]
        rcases h3 with rfl | rfl
        all_goals first
          | exact (show Tryz.prog.wantsStandIn 24 = false by kernel_rfl)
          | exact (show Tryz.prog.wantsStandIn 25 = false by kernel_rfl)
      ⟩)
    goes0
#print axioms proved
end Go.Proofs.YtnpfihlaocpcfaaGreatDoor.checkerFlips
