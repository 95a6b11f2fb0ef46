/- MachineReads: for every input the law returns true, and the arguments read as before. The package's variable offs.kinds starts as the program's text lays it (the card's tie). -/
import Derived.Test.YthbdmlcbdibiiaaGreatDoorJL4x0
import Derived.Test.YthbdmlcbdibiiaaGreatDoorJL3x0
import Derived.Test.YthbdmlcbdibiiaaGreatDoorJR0
import Derived.Test.YthbdmlcbdibiiaaGreatDoorJL0x1
namespace Go.Proofs.YthbdmlcbdibiiaaGreatDoor.machineReads
open Go.ChangeShapes Go.WideShapes Go.ChangeAt Go.RowKit Go.Sx
set_option maxRecDepth 100000 in
theorem wit (os : Os) : ((laidWorld os).forCall (fun _ _ => 0) ⟨#[], #[.slice none 0 0, zeroCore], []⟩).memory.heap[0]? = some (.cells cells12 191 (0, 0)) := by kernel_rfl
set_option maxRecDepth 100000 in
theorem lifted (os : Os) (started : os.Started) (H : Type) (enc : TypeId × Value → H) :
    ReturnsInHanded {} Tryz.checked os 4 .any (fun w args => (Rows.machineReadsSpec.pre enc Tryz.prog Tryz.f4 Rows.machineReadsRow.domain false w args ∧ laidMet Tryz.prog [("cartouche/offs.kinds", Rows.laid_cartouche_offs_kinds)] w) ∧ sizedMet enc Tryz.prog Tryz.f4 (OpenSpec.ofChange Rows.machineReadsSpec) false w args)
      (Rows.machineReadsSpec.post enc Tryz.prog Tryz.f4 false true false false) := by
  refine returnsInHanded_of_change_and (C := Tryz.checked) (X := fun w _ => laidMet Tryz.prog [("cartouche/offs.kinds", Rows.laid_cartouche_offs_kinds)] w) (fun _ _ _ hh h => h.of_heap hh) own started (by kernel_rfl) Tryz.func4
    (ChangeSpec.witness_at (enc := enc) (C := Tryz.checked) (os := os) (X := fun w _ => laidMet Tryz.prog [("cartouche/offs.kinds", Rows.laid_cartouche_offs_kinds)] w) false (laidWorld os) #[.slice none 0 0, zeroCore] 8 rfl (by kernel_rfl) (by kernel_rfl) (by kernel_rfl) (by kernel_rfl) (by kernel_rfl) (laid_met _ (wit os))) ?_
  intro W base args ds gs before hval0 hW _ _ hL _
  have hval : ∀ (j : Nat) t v, Tryz.f4.params[j]? = some t → args[j]? = some v → Value.okWide Tryz.prog W .any base t v := hval0
  have hW' := hW
  obtain ⟨p, q, hA0, hV, rfl, hfz, hnd⟩ := hW
  have hA : DataW.TrodAll enc Tryz.prog W 0 (fun _ => true) true Tryz.f4.params.toList args.toList ds p := hA0
  rw [Tryz.params4] at hA hval
  obtain ⟨v0, v1, d_0, d_1, p0, p1, rfl, rfl, rfl, h0, h1⟩ := trodAll_two hA
  obtain ⟨A0, cap0, l0, rfl, hA0, hl0, _, _⟩ := open_rowI (hval 0 37 v0 rfl rfl) h0
  obtain ⟨d1, A1, cap1, hd1, rfl, hA1⟩ := open_core (hval 1 30 v1 rfl rfl) h1
  clear hA0 hval0
  refine (reads_any awakeM hA0 hl0 hd1 (laid_of hL) hA1).mono fun e W' ⟨he, hb⟩ => ⟨_, he, ?_⟩
  exact law_post laidOutQ rfl (by rw [Tryz.params4]; intro t ht; simp at ht; rcases ht with rfl | rfl <;> exact ⟨by kernel_rfl, of_decide_eq_true (by kernel_rfl)⟩) hW' hb (by kernel_rfl) Tryz.underlying4 rfl
set_option maxRecDepth 100000 in
theorem joined : joinedFacts Tryz.prog 4 Tryz.f4 Rows.machineReadsSpec Rows.machineReadsRow = true := by
  unfold joinedFacts
  rw [pEnter, pLifts, pMake]
  kernel_rfl
set_option maxRecDepth 100000 in
theorem row : Rows.MachineReadsSaid :=
  OpenClaim.holds_of_wide 4 Tryz.f4 rfl rfl rfl rfl rfl rfl rfl ⟨rfl, rfl, rfl, rfl, rfl⟩ rfl rfl rfl rfl rfl (by kernel_rfl) Tryz.func4 joined
    (of_decide_eq_true (by kernel_rfl)) (by unfold Func.isWrapper; first | (rw [if_pos (by decide +kernel)]; kernel_rfl) | (rw [if_neg (by decide +kernel)]; exact ⟨rfl, rfl⟩))
    (fun os started H enc _ => lifted os started H enc)
set_option maxRecDepth 100000 in
theorem goes0 : false = Rows.machineReadsRow.goesBy Tryz.prog := by kernel_rfl
set_option maxRecDepth 100000 in
theorem named0 : Tryz.prog.funcNamed "cartouche/cartouchelaw15.MachineReads" = some 4 := by kernel_rfl
set_option maxRecDepth 100000 in
theorem wf0 : Rows.machineReadsRow.wfByText (OpenSpec.ofChange Rows.machineReadsSpec) = true := by kernel_rfl
set_option maxRecDepth 100000 in
theorem proved : Rows.MachineReadsCardSaid :=
  Claim7.holds_tied_plain_at .later [] [.data] true (true, "5383ebecef3adc7d0e3f55e059a08d3fa7ca35dd8798eeb7530c4feeab719f70") false
    row (fun _ h => by cases h) wf0 (fun _ h => by cases h) machineReads_row_tie rfl ⟨rfl, rfl⟩ pMain rfl
    (fun f fn hf hfn => by
      obtain rfl : f = 4 := Option.some.inj (named0.symm.trans hf) |>.symm
      obtain rfl : fn = Tryz.f4 := (Option.some.inj (Tryz.func4.symm.trans hfn)).symm
      exact ⟨pLooks, fun j t ht => by
        rw [Tryz.params4] at ht
        have h3 : t = 37 ∨ t = 30 := by
          rcases j with _ | _ | j
          all_goals simp at ht
          all_goals simp [← ht]
        rcases h3 with rfl | rfl
        all_goals first
          | exact (show Tryz.prog.wantsStandIn 37 = false by kernel_rfl)
          | exact (show Tryz.prog.wantsStandIn 30 = false by kernel_rfl)
      ⟩)
    goes0
#print axioms proved
end Go.Proofs.YthbdmlcbdibiiaaGreatDoor.machineReads
