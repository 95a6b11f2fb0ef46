/- ShortMay: for every input the law returns true, and the arguments read as before. The package's variable offs.kinds starts as the program's text lays it (the card's tie). -/
import Derived.Test.YtaiecnepchndkaaDoorShortMayP0
import Derived.Test.YtaiecnepchndkaaDoorShortMayP1
import Derived.Test.YtaiecnepchndkaaDoorShortMayP2
import Derived.Test.YtaiecnepchndkaaDoorShortMayP3
import Derived.Test.YtaiecnepchndkaaDoorEnter
namespace Go.Proofs.YtaiecnepchndkaaDoor.shortMay
open Go.ChangeShapes Go.WideShapes Go.ChangeAt Go.RowKit Go.Sx

set_option maxRecDepth 100000 in
theorem all : ∀ c ∈ sho.cases, sho.at2 5 c.1 c.2 = true := (List.forall_mem_cons.2 ⟨w0, (List.forall_mem_cons.2 ⟨w1, (List.forall_mem_cons.2 ⟨w2, (List.forall_mem_cons.2 ⟨w3, (List.forall_mem_cons.2 ⟨w4, (List.forall_mem_cons.2 ⟨w5, (List.forall_mem_cons.2 ⟨w6, (List.forall_mem_cons.2 ⟨w7, (List.forall_mem_cons.2 ⟨w8, (List.forall_mem_cons.2 ⟨w9, (List.forall_mem_cons.2 ⟨w10, (List.forall_mem_cons.2 ⟨w11, (List.forall_mem_cons.2 ⟨w12, (List.forall_mem_cons.2 ⟨w13, (List.forall_mem_cons.2 ⟨w14, (List.forall_mem_cons.2 ⟨w15, (List.forall_mem_cons.2 ⟨w16, (List.forall_mem_cons.2 ⟨w17, (List.forall_mem_cons.2 ⟨w18, (List.forall_mem_cons.2 ⟨w19, (List.forall_mem_cons.2 ⟨w20, (List.forall_mem_cons.2 ⟨w21, (List.forall_mem_cons.2 ⟨w22, (List.forall_mem_cons.2 ⟨w23, (List.forall_mem_cons.2 ⟨w24, (List.forall_mem_cons.2 ⟨w25, (List.forall_mem_cons.2 ⟨w26, (List.forall_mem_cons.2 ⟨w27, (List.forall_mem_cons.2 ⟨w28, (List.forall_mem_cons.2 ⟨w29, (List.forall_mem_cons.2 ⟨w30, (List.forall_mem_cons.2 ⟨w31, (List.forall_mem_cons.2 ⟨w32, (List.forall_mem_cons.2 ⟨w33, (List.forall_mem_cons.2 ⟨w34, (List.forall_mem_cons.2 ⟨w35, (List.forall_mem_cons.2 ⟨w36, (List.forall_mem_cons.2 ⟨w37, (List.forall_mem_cons.2 ⟨w38, (List.forall_mem_cons.2 ⟨w39, (List.forall_mem_cons.2 ⟨w40, (List.forall_mem_cons.2 ⟨w41, (List.forall_mem_cons.2 ⟨w42, (List.forall_mem_cons.2 ⟨w43, (List.forall_mem_cons.2 ⟨w44, (List.forall_mem_cons.2 ⟨w45, (List.forall_mem_cons.2 ⟨w46, (List.forall_mem_cons.2 ⟨w47, (List.forall_mem_cons.2 ⟨w48, (List.forall_mem_cons.2 ⟨w49, (List.forall_mem_cons.2 ⟨w50, (List.forall_mem_cons.2 ⟨w51, (List.forall_mem_cons.2 ⟨w52, (List.forall_mem_cons.2 ⟨w53, (List.forall_mem_cons.2 ⟨w54, (List.forall_mem_cons.2 ⟨w55, (List.forall_mem_cons.2 ⟨w56, (List.forall_mem_cons.2 ⟨w57, (List.forall_mem_cons.2 ⟨w58, (List.forall_mem_cons.2 ⟨w59, (List.forall_mem_cons.2 ⟨w60, (List.forall_mem_cons.2 ⟨w61, (List.forall_mem_cons.2 ⟨w62, (List.forall_mem_cons.2 ⟨w63, (List.forall_mem_cons.2 ⟨w64, (List.forall_mem_cons.2 ⟨w65, (List.forall_mem_cons.2 ⟨w66, (List.forall_mem_cons.2 ⟨w67, (List.forall_mem_cons.2 ⟨w68, (List.forall_mem_cons.2 ⟨w69, (List.forall_mem_cons.2 ⟨w70, (List.forall_mem_cons.2 ⟨w71, (List.forall_mem_cons.2 ⟨w72, (List.forall_mem_cons.2 ⟨w73, (List.forall_mem_cons.2 ⟨w74, (List.forall_mem_cons.2 ⟨w75, (List.forall_mem_cons.2 ⟨w76, (List.forall_mem_cons.2 ⟨w77, (List.forall_mem_cons.2 ⟨w78, (List.forall_mem_cons.2 ⟨w79, (List.forall_mem_cons.2 ⟨w80, (List.forall_mem_cons.2 ⟨w81, (List.forall_mem_cons.2 ⟨w82, (List.forall_mem_cons.2 ⟨w83, (List.forall_mem_cons.2 ⟨w84, (List.forall_mem_cons.2 ⟨w85, (List.forall_mem_cons.2 ⟨w86, (List.forall_mem_cons.2 ⟨w87, (List.forall_mem_cons.2 ⟨w88, (List.forall_mem_cons.2 ⟨w89, (List.forall_mem_cons.2 ⟨w90, (List.forall_mem_cons.2 ⟨w91, (List.forall_mem_cons.2 ⟨w92, (List.forall_mem_cons.2 ⟨w93, (by intro c hc; cases hc)⟩)⟩)⟩)⟩)⟩)⟩)⟩)⟩)⟩)⟩)⟩)⟩)⟩)⟩)⟩)⟩)⟩)⟩)⟩)⟩)⟩)⟩)⟩)⟩)⟩)⟩)⟩)⟩)⟩)⟩)⟩)⟩)⟩)⟩)⟩)⟩)⟩)⟩)⟩)⟩)⟩)⟩)⟩)⟩)⟩)⟩)⟩)⟩)⟩)⟩)⟩)⟩)⟩)⟩)⟩)⟩)⟩)⟩)⟩)⟩)⟩)⟩)⟩)⟩)⟩)⟩)⟩)⟩)⟩)⟩)⟩)⟩)⟩)⟩)⟩)⟩)⟩)⟩)⟩)⟩)⟩)⟩)⟩)⟩)⟩)⟩)⟩)⟩)⟩)⟩)⟩)⟩)⟩)⟩)

theorem wit (os : Os) : ((laidWorld os).forCall (fun _ _ => 0) ⟨#[], #[.int .i64 0, .bool false], []⟩).memory.heap[0]? = some (.cells cells12 126 (0, 0)) := by kernel_rfl

set_option maxRecDepth 100000 in
theorem lifted (os : Os) (started : os.Started) (H : Type) (enc : TypeId × Value → H) :
    ReturnsInHanded {} Tryd.checked os 5 .any (fun w args => (Rows.shortMaySpec.pre enc Tryd.prog Tryd.f5 Rows.shortMayRow.domain false w args ∧ laidMet Tryd.prog [("cartouche/offs.kinds", Rows.laid_cartouche_offs_kinds)] w) ∧ sizedMet enc Tryd.prog Tryd.f5 (OpenSpec.ofChange Rows.shortMaySpec) false w args)
      (Rows.shortMaySpec.post enc Tryd.prog Tryd.f5 false true false false) := by
  refine returnsInHanded_of_change_and (C := Tryd.checked) (X := fun w _ => laidMet Tryd.prog [("cartouche/offs.kinds", Rows.laid_cartouche_offs_kinds)] w) (fun _ _ _ hh h => h.of_heap hh) own started (by kernel_rfl) Tryd.func5
    (ChangeSpec.witness_at (enc := enc) (C := Tryd.checked) (os := os) (X := fun w _ => laidMet Tryd.prog [("cartouche/offs.kinds", Rows.laid_cartouche_offs_kinds)] w) false (laidWorld os) #[.int .i64 0, .bool false] 8 rfl (by kernel_rfl) (by kernel_rfl) (by kernel_rfl) (by kernel_rfl) (by kernel_rfl) (laid_met _ (wit os))) ?_
  intro W base args ds gs before hval0 hW _ _ hL _
  have hval : ∀ (j : Nat) t v, Tryd.f5.params[j]? = some t → args[j]? = some v → Value.okWide Tryd.prog W .any base t v := hval0
  have hW' := hW
  obtain ⟨p, q, hA0, hV, rfl, hfz, hnd⟩ := hW
  have hA : DataW.TrodAll enc Tryd.prog W 0 (fun _ => true) true Tryd.f5.params.toList args.toList ds p := hA0
  rw [Tryd.params5] at hA hval
  obtain ⟨v0, v1, d0, d1, p0, p1, rfl, rfl, rfl, h0, h1⟩ := trodAll_two hA
  obtain ⟨rfl, rfl⟩ := trodVars_none hV
  obtain ⟨n, rfl, rfl, rfl, w0⟩ := open_int Tryd.underlying3 (hval 0 3 v0 rfl rfl) h0
  obtain ⟨b, rfl, rfl, rfl⟩ := open_bool Tryd.underlying4 (hval 1 4 v1 rfl rfl) h1
  clear hA0 hval0
  simp only [List.append_nil] at hW'
  refine (sho_two all (wf_has w0) b (laid_of hL)).mono fun e W' ⟨he, hg⟩ => ?_
  subst he
  exact ⟨_, rfl, post_of_same (pa := []) (pv := []) hW' (fun _ _ _ => trodAll_cons_mk (shut_bool Tryd.underlying4 _) trodAll_mk0)
    (fun _ _ => trodAll_cons_mk (shut_int Tryd.underlying3 w0) (trodAll_cons_mk (shut_bool Tryd.underlying4 _) trodAll_mk0)) (fun _ _ => rfl) rfl
    (hg.frame _) hg.2.1 (ok_one (by kernel_rfl) rfl (okWide_bool_mk Tryd.underlying4 _))⟩

theorem joined : joinedFacts Tryd.prog 5 Tryd.f5 Rows.shortMaySpec Rows.shortMayRow = true := by
  unfold joinedFacts
  rw [pEnter, pLifts, pMake]
  kernel_rfl

theorem row : Rows.ShortMaySaid :=
  OpenClaim.holds_of_wide 5 Tryd.f5 rfl rfl rfl rfl rfl rfl rfl ⟨rfl, rfl, rfl, rfl, rfl⟩ rfl rfl rfl rfl rfl (by kernel_rfl) Tryd.func5 joined
    (of_decide_eq_true (by kernel_rfl)) (by unfold Func.isWrapper; first | (rw [if_pos (by decide +kernel)]; kernel_rfl) | (rw [if_neg (by decide +kernel)]; exact ⟨rfl, rfl⟩))
    (fun os started H enc _ => lifted os started H enc)

theorem goes0 : false = Rows.shortMayRow.goesBy Tryd.prog := by kernel_rfl

theorem named0 : Tryd.prog.funcNamed "cartouche/cartouchelaw10.ShortMay" = some 5 := by kernel_rfl

theorem wf0 : Rows.shortMayRow.wfByText (OpenSpec.ofChange Rows.shortMaySpec) = true := by kernel_rfl

theorem proved : Rows.ShortMayCardSaid :=
  Claim7.holds_tied_plain_at .later [] [.data] true (true, "da8a6907bc181bcdfc693d96b7f41634546629ab9b0d19580363a62b8d88c62b") false
    row (fun _ h => by cases h) wf0 (fun _ h => by cases h) shortMay_row_tie rfl ⟨rfl, rfl⟩ pMain rfl
    (fun f fn hf hfn => by
      obtain rfl : f = 5 := Option.some.inj (named0.symm.trans hf) |>.symm
      obtain rfl : fn = Tryd.f5 := (Option.some.inj (Tryd.func5.symm.trans hfn)).symm
      exact ⟨pLooks, fun j t ht => by
        rw [Tryd.params5] at ht
        have h3 : t = 3 ∨ t = 4 := by
          rcases j with _ | _ | j
          · exact Or.inl (by simpa using ht.symm)
          · exact Or.inr (by simpa using ht.symm)
          · simp at ht
        rcases h3 with rfl | rfl
        · exact (show Tryd.prog.wantsStandIn 3 = false by kernel_rfl)
        · exact (show Tryd.prog.wantsStandIn 4 = false by kernel_rfl)⟩)
    goes0

end Go.Proofs.YtaiecnepchndkaaDoor.shortMay
