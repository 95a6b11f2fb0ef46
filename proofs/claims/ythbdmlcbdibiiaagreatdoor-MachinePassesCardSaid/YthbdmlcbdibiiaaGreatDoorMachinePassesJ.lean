/- MachinePasses: for every input the law returns true, and the arguments read as before. The package's variable offs.kinds starts as the program's text lays it (the card's tie). -/
import Derived.Test.YthbdmlcbdibiiaaGreatDoorJL4x0
import Derived.Test.YthbdmlcbdibiiaaGreatDoorJL3x0
import Derived.Test.YthbdmlcbdibiiaaGreatDoorJP2
import Derived.Test.YthbdmlcbdibiiaaGreatDoorJL0x1
namespace Go.Proofs.YthbdmlcbdibiiaaGreatDoor.machinePasses
open Go.ChangeShapes Go.WideShapes Go.ChangeAt Go.RowKit Go.Sx

set_option maxRecDepth 100000 in
theorem wit (os : Os) : ((laidWorld os).forCall (fun _ _ => 0) ⟨#[], #[zeroIns, zeroCore, .int .i64 0], []⟩).memory.heap[0]? = some (.cells cells12 191 (0, 0)) := by kernel_rfl

set_option maxRecDepth 100000 in
theorem lifted (os : Os) (started : os.Started) (H : Type) (enc : TypeId × Value → H) :
    ReturnsInHanded {} Tryz.checked os 7 .any (fun w args => (Rows.machinePassesSpec.pre enc Tryz.prog Tryz.f7 Rows.machinePassesRow.domain false w args ∧ laidMet Tryz.prog [("cartouche/offs.kinds", Rows.laid_cartouche_offs_kinds)] w) ∧ sizedMet enc Tryz.prog Tryz.f7 (OpenSpec.ofChange Rows.machinePassesSpec) false w args)
      (Rows.machinePassesSpec.post enc Tryz.prog Tryz.f7 false true false false) := by
  refine returnsInHanded_of_change_and (C := Tryz.checked) (X := fun w _ => laidMet Tryz.prog [("cartouche/offs.kinds", Rows.laid_cartouche_offs_kinds)] w) (fun _ _ _ hh h => h.of_heap hh) own started (by kernel_rfl) Tryz.func7
    (ChangeSpec.witness_at (enc := enc) (C := Tryz.checked) (os := os) (X := fun w _ => laidMet Tryz.prog [("cartouche/offs.kinds", Rows.laid_cartouche_offs_kinds)] w) false (laidWorld os) #[zeroIns, zeroCore, .int .i64 0] 8 rfl (by kernel_rfl) (by kernel_rfl) (by kernel_rfl) (by kernel_rfl) (by kernel_rfl) (laid_met _ (wit os))) ?_
  intro W base args ds gs before hval0 hW _ _ hL _
  have hval : ∀ (j : Nat) t v, Tryz.f7.params[j]? = some t → args[j]? = some v → Value.okWide Tryz.prog W .any base t v := hval0
  have hW' := hW
  obtain ⟨p, q, hA0, hV, rfl, hfz, hnd⟩ := hW
  have hA : DataW.TrodAll enc Tryz.prog W 0 (fun _ => true) true Tryz.f7.params.toList args.toList ds p := hA0
  rw [Tryz.params7] at hA hval
  obtain ⟨v0, v1, v2, d_0, d_1, d_2, p0, p1, p2, rfl, rfl, rfl, h0, h1, h2⟩ := trodAll_three hA
  obtain ⟨x0, hx0, rfl, rfl, _⟩ := open_insR (hval 0 23 v0 rfl rfl) h0
  obtain ⟨d1, A1, cap1, hd1, rfl, hA1⟩ := open_core (hval 1 30 v1 rfl rfl) h1
  obtain ⟨n2, rfl, _⟩ := open_intM (hval 2 3 v2 rfl rfl) h2
  clear hA0 hval0
  refine (passes_any awakeM hx0 hd1 (laid_of hL) hA1).mono fun e W' ⟨he, hb⟩ => ⟨_, he, ?_⟩
  exact law_post laidOutQ rfl (by rw [Tryz.params7]; intro t ht; simp at ht; rcases ht with rfl | rfl | rfl <;> exact ⟨by kernel_rfl, of_decide_eq_true (by kernel_rfl)⟩) hW' hb (by kernel_rfl) Tryz.underlying4 rfl

set_option maxRecDepth 100000 in
theorem joined : joinedFacts Tryz.prog 7 Tryz.f7 Rows.machinePassesSpec Rows.machinePassesRow = true := by
  unfold joinedFacts
  rw [pEnter, pLifts, pMake]
  kernel_rfl

set_option maxRecDepth 100000 in
theorem row : Rows.MachinePassesSaid :=
  OpenClaim.holds_of_wide 7 Tryz.f7 rfl rfl rfl rfl rfl rfl rfl ⟨rfl, rfl, rfl, rfl, rfl⟩ rfl rfl rfl rfl rfl (by kernel_rfl) Tryz.func7 joined
    (of_decide_eq_true (by kernel_rfl)) (by unfold Func.isWrapper; first | (rw [if_pos (by decide +kernel)]; kernel_rfl) | (rw [if_neg (by decide +kernel)]; exact ⟨rfl, rfl⟩))
    (fun os started H enc _ => lifted os started H enc)

set_option maxRecDepth 100000 in
theorem goes0 : false = Rows.machinePassesRow.goesBy Tryz.prog := by kernel_rfl

set_option maxRecDepth 100000 in
theorem named0 : Tryz.prog.funcNamed "cartouche/cartouchelaw15.MachinePasses" = some 7 := by kernel_rfl

set_option maxRecDepth 100000 in
theorem wf0 : Rows.machinePassesRow.wfByText (OpenSpec.ofChange Rows.machinePassesSpec) = true := by kernel_rfl

set_option maxRecDepth 100000 in
theorem proved : Rows.MachinePassesCardSaid :=
  Claim7.holds_tied_plain_at .later [] [.data] true (true, "5383ebecef3adc7d0e3f55e059a08d3fa7ca35dd8798eeb7530c4feeab719f70") false
    row (fun _ h => by cases h) wf0 (fun _ h => by cases h) machinePasses_row_tie rfl ⟨rfl, rfl⟩ pMain rfl
    (fun f fn hf hfn => by
      obtain rfl : f = 7 := Option.some.inj (named0.symm.trans hf) |>.symm
      obtain rfl : fn = Tryz.f7 := (Option.some.inj (Tryz.func7.symm.trans hfn)).symm
      exact ⟨pLooks, fun j t ht => by
        rw [Tryz.params7] at ht
        have h3 : t = 23 ∨ t = 30 ∨ t = 3 := by
          rcases j with _ | _ | _ | j
          all_goals simp at ht
          all_goals simp [← ht]
        rcases h3 with rfl | rfl | rfl
        all_goals first
          | exact (show Tryz.prog.wantsStandIn 23 = false by kernel_rfl)
          | exact (show Tryz.prog.wantsStandIn 30 = false by kernel_rfl)
          | exact (show Tryz.prog.wantsStandIn 3 = false by kernel_rfl)
      ⟩)
    goes0
#print axioms proved
end Go.Proofs.YthbdmlcbdibiiaaGreatDoor.machinePasses
