/- CheckerBoth: for every input the law returns true, and the arguments read as before. The package's variable offs.kinds starts as the program's text lays it (the card's tie). -/
import Derived.Test.YtiicniiecomhjaaDoorJKerB
import Derived.Test.YtiicniiecomhjaaDoorJKerG
import Derived.Test.YtiicniiecomhjaaDoorEnterK
namespace Go.Proofs.YtiicniiecomhjaaDoor.checkerBoth
open Go.ChangeShapes Go.WideShapes Go.ChangeAt Go.RowKit Go.Sx

theorem wit (os : Os) : ((laidWorld os).forCall (fun _ _ => 0) ⟨#[], #[.agg #[.string ⟨#[]⟩, .slice none 0 0]], []⟩).memory.heap[0]? = some (.cells cells12 91 (0, 0)) := by kernel_rfl

set_option maxRecDepth 100000 in
theorem lifted (os : Os) (started : os.Started) (H : Type) (enc : TypeId × Value → H) :
    ReturnsInHanded {} Tryd.checked os 3 .any (fun w args => (Rows.checkerBothSpec.pre enc Tryd.prog Tryd.f3 Rows.checkerBothRow.domain false w args ∧ laidMet Tryd.prog [("cartouche/offs.kinds", Rows.laid_cartouche_offs_kinds)] w) ∧ sizedMet enc Tryd.prog Tryd.f3 (OpenSpec.ofChange Rows.checkerBothSpec) false w args)
      (Rows.checkerBothSpec.post enc Tryd.prog Tryd.f3 false true false false) := by
  refine returnsInHanded_of_change_and (C := Tryd.checked) (X := fun w _ => laidMet Tryd.prog [("cartouche/offs.kinds", Rows.laid_cartouche_offs_kinds)] w) (fun _ _ _ hh h => h.of_heap hh) own started (by kernel_rfl) Tryd.func3
    (ChangeSpec.witness_at (enc := enc) (C := Tryd.checked) (os := os) (X := fun w _ => laidMet Tryd.prog [("cartouche/offs.kinds", Rows.laid_cartouche_offs_kinds)] w) false (laidWorld os) #[.agg #[.string ⟨#[]⟩, .slice none 0 0]] 8 rfl (by kernel_rfl) (by kernel_rfl) (by kernel_rfl) (by kernel_rfl) (by kernel_rfl) (laid_met _ (wit os))) ?_
  intro W base args ds gs before hval0 hW _ _ hL _
  have hval : ∀ (j : Nat) t v, Tryd.f3.params[j]? = some t → args[j]? = some v → Value.okWide Tryd.prog W .any base t v := hval0
  have hW' := hW
  obtain ⟨p, q, hA0, hV, rfl, hfz, hnd⟩ := hW
  have hA : DataW.TrodAll enc Tryd.prog W 0 (fun _ => true) true Tryd.f3.params.toList args.toList ds p := hA0
  rw [Tryd.params3] at hA hval
  obtain ⟨v0, d0, rfl, rfl, h0⟩ := trodAll_one hA
  obtain ⟨s, A, cap, l, rfl, hA', hx, hlen, _⟩ := open_code (hval 0 24 v0 rfl rfl) h0
  clear hA0 hval0
  refine (both_r s l A cap W hA' hx hlen (laid_of hL)).mono fun e W' ⟨he, hb⟩ => ⟨_, he, ?_⟩
  exact law_post laidOut rfl (by rw [Tryd.params3]; intro t ht; simp at ht; subst ht; exact ⟨by kernel_rfl, of_decide_eq_true (by kernel_rfl)⟩) hW' hb (by kernel_rfl) Tryd.underlying4 rfl

theorem joined : joinedFacts Tryd.prog 3 Tryd.f3 Rows.checkerBothSpec Rows.checkerBothRow = true := by
  unfold joinedFacts
  rw [pEnter, pLifts, pMake]
  kernel_rfl

theorem row : Rows.CheckerBothSaid :=
  OpenClaim.holds_of_wide 3 Tryd.f3 rfl rfl rfl rfl rfl rfl rfl ⟨rfl, rfl, rfl, rfl, rfl⟩ rfl rfl rfl rfl rfl (by kernel_rfl) Tryd.func3 joined
    (of_decide_eq_true (by kernel_rfl)) (by unfold Func.isWrapper; first | (rw [if_pos (by decide +kernel)]; kernel_rfl) | (rw [if_neg (by decide +kernel)]; exact ⟨rfl, rfl⟩))
    (fun os started H enc _ => lifted os started H enc)

theorem goes0 : false = Rows.checkerBothRow.goesBy Tryd.prog := by kernel_rfl

theorem named0 : Tryd.prog.funcNamed "cartouche/cartouchelaw25.CheckerBoth" = some 3 := by kernel_rfl

theorem wf0 : Rows.checkerBothRow.wfByText (OpenSpec.ofChange Rows.checkerBothSpec) = true := by kernel_rfl

theorem proved : Rows.CheckerBothCardSaid :=
  Claim7.holds_tied_plain_at .later [] [.data] true (true, "bf91e65f202eb7fcb9bb264509ae62ff30529ad9533885712aecc33d5072be55") false
    row (fun _ h => by cases h) wf0 (fun _ h => by cases h) checkerBoth_row_tie rfl ⟨rfl, rfl⟩ pMain rfl
    (fun f fn hf hfn => by
      obtain rfl : f = 3 := Option.some.inj (named0.symm.trans hf) |>.symm
      obtain rfl : fn = Tryd.f3 := (Option.some.inj (Tryd.func3.symm.trans hfn)).symm
      exact ⟨pLooks, fun j t ht => by
        rw [Tryd.params3] at ht
        have h3 : t = 24 := by
          rcases j with _ | j
          · simpa using ht.symm
          · simp at ht
        subst h3
        exact (show Tryd.prog.wantsStandIn 24 = false by kernel_rfl)⟩)
    goes0
#print axioms proved
end Go.Proofs.YtiicniiecomhjaaDoor.checkerBoth
