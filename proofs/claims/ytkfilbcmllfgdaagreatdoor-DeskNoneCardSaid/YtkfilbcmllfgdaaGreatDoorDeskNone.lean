/- DeskNone: for every input the law returns true, and the arguments read as before. The listed variables start as the program's text lays them (the card's tie). -/
import Derived.Test.YtkfilbcmllfgdaaGreatDoorGDkn
import Derived.Test.YtkfilbcmllfgdaaGreatDoorGPost
import Derived.Test.YtkfilbcmllfgdaaGreatDoorJnA
import Derived.Test.YtkfilbcmllfgdaaGreatDoorJnB
import Derived.Test.YtkfilbcmllfgdaaGreatDoorJnC
import Derived.Test.YtkfilbcmllfgdaaGreatDoorJnD
import Derived.Test.YtkfilbcmllfgdaaGreatDoorEnter
namespace Go.Proofs.YtkfilbcmllfgdaaGreatDoor.deskNone
open Go.ChangeShapes Go.WideShapes Go.ChangeAt Go.RowKit Go.Sx

set_option maxRecDepth 100000 in
theorem plain : ((Rows.deskNoneRow.laid : List (String × DataW Unit)).all fun x => x.2.handleName?.isNone) = true := by kernel_rfl

set_option maxRecDepth 100000 in
theorem met (os : Os) : laidMetH Tryz.prog Rows.deskNoneRow.laid (((World.laidAll Tryz.prog os Rows.deskNoneRow.laid).forCall (fun _ _ => 0) ⟨#[], #[zeroCore], []⟩).memory) := by
  rw [MakeChecks.laidMetH_plain _ _ _ plain]
  exact laidMet_laidAll _ (by kernel_rfl) (by kernel_rfl)

set_option maxRecDepth 100000 in
theorem space {W : World} (h : laidMetH Tryz.prog Rows.deskNoneRow.laid W) : gx.Laid W := space_of 3 plain (by kernel_rfl) h

set_option maxRecDepth 100000 in
theorem lifted (os : Os) (started : os.Started) (H : Type) (enc : TypeId × Value → H) :
    ReturnsInHanded {} Tryz.checked os 3 .any (fun w args => (Rows.deskNoneSpec.pre enc Tryz.prog Tryz.f3 Rows.deskNoneRow.domain false w args ∧ laidMetH Tryz.prog Rows.deskNoneRow.laid w) ∧ sizedMet enc Tryz.prog Tryz.f3 (OpenSpec.ofChange Rows.deskNoneSpec) false w args)
      (Rows.deskNoneSpec.post enc Tryz.prog Tryz.f3 false true false false) := by
  refine returnsInHanded_of_change_and (C := Tryz.checked) (X := fun w _ => laidMetH Tryz.prog Rows.deskNoneRow.laid w) (fun _ _ _ hh h => h.of_heap hh) own started (by kernel_rfl) Tryz.func3
    (ChangeSpec.witness_shaped (enc := enc) (C := Tryz.checked) (os := os) (X := fun w _ => laidMetH Tryz.prog Rows.deskNoneRow.laid w) false (World.laidAll Tryz.prog os Rows.deskNoneRow.laid) #[zeroCore] 8 (World.laidAll_os _ _ _)
      (World.shaped_of_ZipB (by kernel_rfl) (by kernel_rfl)) (by kernel_rfl) (by kernel_rfl) (by kernel_rfl) (met os)) ?_
  intro W base args ds gs before hval0 hW _ _ hL _
  have hval : ∀ (j : Nat) t v, Tryz.f3.params[j]? = some t → args[j]? = some v → Value.okWide Tryz.prog W .any base t v := hval0
  have hG := space hL
  have hW' := hW
  obtain ⟨p, q, hA0, hV, rfl, hfz, hnd⟩ := hW
  have hA : DataW.TrodAll enc Tryz.prog W 0 (fun _ => true) true Tryz.f3.params.toList args.toList ds p := hA0
  rw [Tryz.params3] at hA hval
  obtain ⟨v0, d_0, rfl, rfl, h0⟩ := trodAll_one hA
  obtain ⟨R, n, z, c, v', it, m, hR, rfl⟩ := open_coreC (hval 0 28 v0 rfl rfl) h0
  clear hA0 hval0
  refine (dkn.desk_any R hR n z c v' it m hG).mono fun e W' ⟨he, hb⟩ => ⟨_, he, ?_⟩
  exact law_post laidOutQ rfl (by rw [Tryz.params3]; intro t ht; simp at ht; rcases ht with rfl <;> exact ⟨by kernel_rfl, of_decide_eq_true (by kernel_rfl)⟩) hW' hb (by kernel_rfl) Tryz.underlying4 rfl

set_option maxRecDepth 100000 in
theorem joined : joinedFacts Tryz.prog 3 Tryz.f3 Rows.deskNoneSpec Rows.deskNoneRow = true := by
  unfold joinedFacts
  rw [pEnter, pLifts, pMake, laidOutQ, jInPlace, jMaps, jUnf, jRec, jHeard, jNamed, jKeys]
  kernel_rfl

set_option maxRecDepth 100000 in
theorem row : Rows.DeskNoneSaid :=
  OpenClaim.holds_of_wide 3 Tryz.f3 rfl rfl rfl rfl rfl rfl rfl ⟨rfl, rfl, rfl, rfl, rfl⟩ rfl rfl rfl rfl rfl (by kernel_rfl) Tryz.func3 joined
    (of_decide_eq_true (by kernel_rfl)) (by unfold Func.isWrapper; first | (rw [if_pos (by decide +kernel)]; kernel_rfl) | (rw [if_neg (by decide +kernel)]; exact ⟨rfl, rfl⟩))
    (fun os started H enc _ => lifted os started H enc)

set_option maxRecDepth 100000 in
theorem goes0 : false = Rows.deskNoneRow.goesBy Tryz.prog := by kernel_rfl

set_option maxRecDepth 100000 in
theorem named0 : Tryz.prog.funcNamed "cartouche/cartouchelaw28.DeskNone" = some 3 := by kernel_rfl

set_option maxRecDepth 100000 in
theorem wf0 : Rows.deskNoneRow.wfByText (OpenSpec.ofChange Rows.deskNoneSpec) = true := by kernel_rfl

set_option maxRecDepth 100000 in
theorem proved : Rows.DeskNoneCardSaid :=
  Claim7.holds_tied_plain_at .later [] [.data, .data, .listed, .data, .pinned] true (true, "8c15300455b81a09a42520d5a975b55d86edb39d343216606dca07edeafcf241") true
    row (fun _ h => by cases h) wf0 (fun _ h => by cases h) deskNone_row_tie rfl ⟨rfl, rfl⟩ pMain rfl
    (fun f fn hf hfn => by
      obtain rfl : f = 3 := Option.some.inj (named0.symm.trans hf) |>.symm
      obtain rfl : fn = Tryz.f3 := (Option.some.inj (Tryz.func3.symm.trans hfn)).symm
      exact ⟨pLooks, fun j t ht => by
        rw [Tryz.params3] at ht
        have h3 : t = 28 := by
          rcases j with _ | j
          all_goals simp at ht
          all_goals simp [← ht]
        rcases h3 with rfl
        all_goals first
          | exact (show Tryz.prog.wantsStandIn 28 = false by kernel_rfl)
      ⟩)
    goes0
#print axioms proved
end Go.Proofs.YtkfilbcmllfgdaaGreatDoor.deskNone
