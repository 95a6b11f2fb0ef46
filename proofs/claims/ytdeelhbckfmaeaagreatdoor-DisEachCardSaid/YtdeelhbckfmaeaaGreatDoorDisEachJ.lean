/- DisEach: for every input the law returns true, and the arguments read as before. The listed variables start as the program's text lays them (the card's tie). -/
import Derived.Test.YtdeelhbckfmaeaaGreatDoorJL
import Derived.Test.YtdeelhbckfmaeaaGreatDoorJHh
import Derived.Test.YtdeelhbckfmaeaaGreatDoorJP
import Derived.Test.YtdeelhbckfmaeaaGreatDoorJX
import Derived.Test.YtdeelhbckfmaeaaGreatDoorJY
namespace Go.Proofs.YtdeelhbckfmaeaaGreatDoor.disEach
open Go.ChangeShapes Go.WideShapes Go.ChangeAt Go.RowKit Go.Sx disLabels

set_option maxRecDepth 100000 in
theorem jInPlace : Tryz.prog.inPlace 5 = Rows.disEachRow.inPlace := by kernel_rfl
set_option maxRecDepth 100000 in
theorem jUnf : Tryz.prog.unfollowed 5 = true := by kernel_rfl
set_option maxRecDepth 100000 in
theorem jRec : Tryz.prog.recurses 5 = true := by kernel_rfl
set_option maxRecDepth 100000 in
theorem jNamed : Tryz.prog.varsNamed 5 = Rows.disEachRow.named := by kernel_rfl

set_option maxRecDepth 100000 in
theorem plain : ((Rows.disEachRow.laid : List (String × DataW Unit)).all fun x => x.2.handleName?.isNone) = true := by kernel_rfl

set_option maxRecDepth 100000 in
theorem met (os : Os) : laidMetH Tryz.prog Rows.disEachRow.laid (((World.laidAll Tryz.prog os Rows.disEachRow.laid).forCall (fun _ _ => 0) ⟨#[], #[.agg #[.string ⟨#[]⟩, .slice none 0 0]], []⟩).memory) := by
  rw [MakeChecks.laidMetH_plain _ _ _ plain]
  exact laidMet_laidAll _ (by kernel_rfl) (by kernel_rfl)

set_option maxRecDepth 100000 in
theorem space {W : World} (h : laidMetH Tryz.prog Rows.disEachRow.laid W) : gx.Laid W := space_of 2 plain (by kernel_rfl) h

set_option maxRecDepth 100000 in
theorem lifted (os : Os) (started : os.Started) (H : Type) (enc : TypeId × Value → H) :
    ReturnsInHanded {} Tryz.checked os 5 .any (fun w args => (Rows.disEachSpec.pre enc Tryz.prog Tryz.f5 Rows.disEachRow.domain false w args ∧ laidMetH Tryz.prog Rows.disEachRow.laid w) ∧ sizedMet enc Tryz.prog Tryz.f5 (OpenSpec.ofChange Rows.disEachSpec) false w args)
      (Rows.disEachSpec.post enc Tryz.prog Tryz.f5 false true false false) := by
  refine returnsInHanded_of_change_and (C := Tryz.checked) (X := fun w _ => laidMetH Tryz.prog Rows.disEachRow.laid w) (fun _ _ _ hh h => h.of_heap hh) own started (by kernel_rfl) Tryz.func5
    (ChangeSpec.witness_shaped (enc := enc) (C := Tryz.checked) (os := os) (X := fun w _ => laidMetH Tryz.prog Rows.disEachRow.laid w) false (World.laidAll Tryz.prog os Rows.disEachRow.laid) #[.agg #[.string ⟨#[]⟩, .slice none 0 0]] 8 (World.laidAll_os _ _ _)
      (World.shaped_of_ZipB (by kernel_rfl) (by kernel_rfl)) (by kernel_rfl) (by kernel_rfl) (by kernel_rfl) (met os)) ?_
  intro W base args ds gs before hval0 hW _ _ hL _
  have hval : ∀ (j : Nat) t v, Tryz.f5.params[j]? = some t → args[j]? = some v → Value.okWide Tryz.prog W .any base t v := hval0
  have hG := space hL
  have hW' := hW
  obtain ⟨p, q, hA0, hV, rfl, hfz, hnd⟩ := hW
  have hA : DataW.TrodAll enc Tryz.prog W 0 (fun _ => true) true Tryz.f5.params.toList args.toList ds p := hA0
  rw [Tryz.params5] at hA hval
  obtain ⟨v0, d_0, rfl, rfl, h0⟩ := trodAll_one hA
  obtain ⟨s, A, cap, l, rfl, hI, hk, hl, hs⟩ := open_code (hval 0 24 v0 rfl rfl) h0
  clear hA0 hval0
  refine (each_r (fun W h => awake27 h) s l A cap W hI hk hl hG).mono fun e W' ⟨he, hb⟩ => ⟨_, he, ?_⟩
  exact law_post laidOutQ rfl (by rw [Tryz.params5]; intro t ht; simp at ht; rcases ht with rfl <;> exact ⟨by kernel_rfl, of_decide_eq_true (by kernel_rfl)⟩) hW' hb (by kernel_rfl) Tryz.underlying4 rfl

set_option maxRecDepth 100000 in
theorem joined : joinedFacts Tryz.prog 5 Tryz.f5 Rows.disEachSpec Rows.disEachRow = true := by
  unfold joinedFacts
  rw [pEnter, pLifts, pMake, laidOutQ, jInPlace, jMaps, jUnf, jRec, jHeard, jNamed, jKeys]
  kernel_rfl

set_option maxRecDepth 100000 in
theorem row : Rows.DisEachSaid :=
  OpenClaim.holds_of_wide 5 Tryz.f5 rfl rfl rfl rfl rfl rfl rfl ⟨rfl, rfl, rfl, rfl, rfl⟩ rfl rfl rfl rfl rfl (by kernel_rfl) Tryz.func5 joined
    (of_decide_eq_true (by kernel_rfl)) (by unfold Func.isWrapper; first | (rw [if_pos (by decide +kernel)]; kernel_rfl) | (rw [if_neg (by decide +kernel)]; exact ⟨rfl, rfl⟩))
    (fun os started H enc _ => lifted os started H enc)

set_option maxRecDepth 100000 in
theorem goes0 : false = Rows.disEachRow.goesBy Tryz.prog := (goesAtNone noneGo _ _).symm

set_option maxRecDepth 100000 in
theorem named0 : Tryz.prog.funcNamed "cartouche/cartouchelaw27.DisEach" = some 5 := by kernel_rfl

set_option maxRecDepth 100000 in
theorem wf0 : Rows.disEachRow.wfByText (OpenSpec.ofChange Rows.disEachSpec) = true := by kernel_rfl

set_option maxRecDepth 100000 in
theorem proved : Rows.DisEachCardSaid :=
  Claim7.holds_tied_plain_at .later [] [.data, .listed, .data, .pinned] true (true, "e50dffc3d95c5244bb103e50b948096c21be7792e16a25e759cfe2cd74cd5c3a") true
    row (fun _ h => by cases h) wf0 (fun _ h => by cases h) disEach_row_tie rfl ⟨rfl, rfl⟩ pMain rfl
    (fun f fn hf hfn => by
      obtain rfl : f = 5 := Option.some.inj (named0.symm.trans hf) |>.symm
      obtain rfl : fn = Tryz.f5 := (Option.some.inj (Tryz.func5.symm.trans hfn)).symm
      exact ⟨pLooks, fun j t ht => by
        rw [Tryz.params5] at ht
        have h3 : t = 24 := by
          rcases j with _ | j
          all_goals simp at ht
          all_goals simp [← ht]
        rcases h3 with rfl
        all_goals first
          | exact (show Tryz.prog.wantsStandIn 24 = false by kernel_rfl)
      ⟩)
    goes0
#print axioms proved
end Go.Proofs.YtdeelhbckfmaeaaGreatDoor.disEach
