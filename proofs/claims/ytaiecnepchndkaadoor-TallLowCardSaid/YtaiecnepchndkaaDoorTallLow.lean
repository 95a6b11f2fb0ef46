/- TallLow: for every input the law returns true, and the arguments read as before. The package's variable offs.kinds starts as the program's text lays it (the card's tie). -/
import Derived.Test.YtaiecnepchndkaaDoorTallLowP0
import Derived.Test.YtaiecnepchndkaaDoorTallLowP1
import Derived.Test.YtaiecnepchndkaaDoorTallLowP2
import Derived.Test.YtaiecnepchndkaaDoorTallLowP3
import Derived.Test.YtaiecnepchndkaaDoorEnter
namespace Go.Proofs.YtaiecnepchndkaaDoor.tallLow
open Go.ChangeShapes Go.WideShapes Go.ChangeAt Go.RowKit Go.Sx

theorem all : ∀ j : Nat, j < tal.cases.length → tal.at3 12 j = true := by
  intro j hj
  rw [tal.len] at hj
  by_cases h : j < 24
  · exact List.all_eq_true.1 w0 j (List.mem_range'_1.2 ⟨by omega, by omega⟩)
  by_cases h : j < 42
  · exact List.all_eq_true.1 w24 j (List.mem_range'_1.2 ⟨by omega, by omega⟩)
  by_cases h : j < 50
  · exact List.all_eq_true.1 w42 j (List.mem_range'_1.2 ⟨by omega, by omega⟩)
  by_cases h : j < 58
  · exact List.all_eq_true.1 w50 j (List.mem_range'_1.2 ⟨by omega, by omega⟩)
  by_cases h : j < 66
  · exact List.all_eq_true.1 w58 j (List.mem_range'_1.2 ⟨by omega, by omega⟩)
  by_cases h : j < 74
  · exact List.all_eq_true.1 w66 j (List.mem_range'_1.2 ⟨by omega, by omega⟩)
  by_cases h : j < 82
  · exact List.all_eq_true.1 w74 j (List.mem_range'_1.2 ⟨by omega, by omega⟩)
  by_cases h : j < 89
  · exact List.all_eq_true.1 w82 j (List.mem_range'_1.2 ⟨by omega, by omega⟩)
  by_cases h : j < 97
  · exact List.all_eq_true.1 w89 j (List.mem_range'_1.2 ⟨by omega, by omega⟩)
  by_cases h : j < 105
  · exact List.all_eq_true.1 w97 j (List.mem_range'_1.2 ⟨by omega, by omega⟩)
  by_cases h : j < 113
  · exact List.all_eq_true.1 w105 j (List.mem_range'_1.2 ⟨by omega, by omega⟩)
  by_cases h : j < 121
  · exact List.all_eq_true.1 w113 j (List.mem_range'_1.2 ⟨by omega, by omega⟩)
  by_cases h : j < 129
  · exact List.all_eq_true.1 w121 j (List.mem_range'_1.2 ⟨by omega, by omega⟩)
  by_cases h : j < 137
  · exact List.all_eq_true.1 w129 j (List.mem_range'_1.2 ⟨by omega, by omega⟩)
  by_cases h : j < 146
  · exact List.all_eq_true.1 w137 j (List.mem_range'_1.2 ⟨by omega, by omega⟩)
  by_cases h : j < 155
  · exact List.all_eq_true.1 w146 j (List.mem_range'_1.2 ⟨by omega, by omega⟩)
  by_cases h : j < 163
  · exact List.all_eq_true.1 w155 j (List.mem_range'_1.2 ⟨by omega, by omega⟩)
  by_cases h : j < 172
  · exact List.all_eq_true.1 w163 j (List.mem_range'_1.2 ⟨by omega, by omega⟩)
  by_cases h : j < 181
  · exact List.all_eq_true.1 w172 j (List.mem_range'_1.2 ⟨by omega, by omega⟩)
  by_cases h : j < 189
  · exact List.all_eq_true.1 w181 j (List.mem_range'_1.2 ⟨by omega, by omega⟩)
  by_cases h : j < 197
  · exact List.all_eq_true.1 w189 j (List.mem_range'_1.2 ⟨by omega, by omega⟩)
  by_cases h : j < 205
  · exact List.all_eq_true.1 w197 j (List.mem_range'_1.2 ⟨by omega, by omega⟩)
  by_cases h : j < 213
  · exact List.all_eq_true.1 w205 j (List.mem_range'_1.2 ⟨by omega, by omega⟩)
  by_cases h : j < 222
  · exact List.all_eq_true.1 w213 j (List.mem_range'_1.2 ⟨by omega, by omega⟩)
  by_cases h : j < 230
  · exact List.all_eq_true.1 w222 j (List.mem_range'_1.2 ⟨by omega, by omega⟩)
  by_cases h : j < 238
  · exact List.all_eq_true.1 w230 j (List.mem_range'_1.2 ⟨by omega, by omega⟩)
  by_cases h : j < 246
  · exact List.all_eq_true.1 w238 j (List.mem_range'_1.2 ⟨by omega, by omega⟩)
  by_cases h : j < 254
  · exact List.all_eq_true.1 w246 j (List.mem_range'_1.2 ⟨by omega, by omega⟩)
  by_cases h : j < 263
  · exact List.all_eq_true.1 w254 j (List.mem_range'_1.2 ⟨by omega, by omega⟩)
  by_cases h : j < 272
  · exact List.all_eq_true.1 w263 j (List.mem_range'_1.2 ⟨by omega, by omega⟩)
  by_cases h : j < 280
  · exact List.all_eq_true.1 w272 j (List.mem_range'_1.2 ⟨by omega, by omega⟩)
  by_cases h : j < 287
  · exact List.all_eq_true.1 w280 j (List.mem_range'_1.2 ⟨by omega, by omega⟩)
  by_cases h : j < 295
  · exact List.all_eq_true.1 w287 j (List.mem_range'_1.2 ⟨by omega, by omega⟩)
  by_cases h : j < 303
  · exact List.all_eq_true.1 w295 j (List.mem_range'_1.2 ⟨by omega, by omega⟩)
  by_cases h : j < 311
  · exact List.all_eq_true.1 w303 j (List.mem_range'_1.2 ⟨by omega, by omega⟩)
  by_cases h : j < 320
  · exact List.all_eq_true.1 w311 j (List.mem_range'_1.2 ⟨by omega, by omega⟩)
  by_cases h : j < 328
  · exact List.all_eq_true.1 w320 j (List.mem_range'_1.2 ⟨by omega, by omega⟩)
  by_cases h : j < 330
  · exact List.all_eq_true.1 w328 j (List.mem_range'_1.2 ⟨by omega, by omega⟩)
  by_cases h : j < 332
  · exact List.all_eq_true.1 w330 j (List.mem_range'_1.2 ⟨by omega, by omega⟩)
  by_cases h : j < 334
  · exact List.all_eq_true.1 w332 j (List.mem_range'_1.2 ⟨by omega, by omega⟩)
  by_cases h : j < 337
  · exact List.all_eq_true.1 w334 j (List.mem_range'_1.2 ⟨by omega, by omega⟩)
  by_cases h : j < 340
  · exact List.all_eq_true.1 w337 j (List.mem_range'_1.2 ⟨by omega, by omega⟩)
  by_cases h : j < 343
  · exact List.all_eq_true.1 w340 j (List.mem_range'_1.2 ⟨by omega, by omega⟩)
  by_cases h : j < 346
  · exact List.all_eq_true.1 w343 j (List.mem_range'_1.2 ⟨by omega, by omega⟩)
  by_cases h : j < 349
  · exact List.all_eq_true.1 w346 j (List.mem_range'_1.2 ⟨by omega, by omega⟩)
  by_cases h : j < 351
  · exact List.all_eq_true.1 w349 j (List.mem_range'_1.2 ⟨by omega, by omega⟩)
  by_cases h : j < 354
  · exact List.all_eq_true.1 w351 j (List.mem_range'_1.2 ⟨by omega, by omega⟩)
  by_cases h : j < 356
  · exact List.all_eq_true.1 w354 j (List.mem_range'_1.2 ⟨by omega, by omega⟩)
  by_cases h : j < 359
  · exact List.all_eq_true.1 w356 j (List.mem_range'_1.2 ⟨by omega, by omega⟩)
  by_cases h : j < 362
  · exact List.all_eq_true.1 w359 j (List.mem_range'_1.2 ⟨by omega, by omega⟩)
  by_cases h : j < 364
  · exact List.all_eq_true.1 w362 j (List.mem_range'_1.2 ⟨by omega, by omega⟩)
  by_cases h : j < 366
  · exact List.all_eq_true.1 w364 j (List.mem_range'_1.2 ⟨by omega, by omega⟩)
  by_cases h : j < 368
  · exact List.all_eq_true.1 w366 j (List.mem_range'_1.2 ⟨by omega, by omega⟩)
  by_cases h : j < 371
  · exact List.all_eq_true.1 w368 j (List.mem_range'_1.2 ⟨by omega, by omega⟩)
  by_cases h : j < 374
  · exact List.all_eq_true.1 w371 j (List.mem_range'_1.2 ⟨by omega, by omega⟩)
  by_cases h : j < 377
  · exact List.all_eq_true.1 w374 j (List.mem_range'_1.2 ⟨by omega, by omega⟩)
  by_cases h : j < 380
  · exact List.all_eq_true.1 w377 j (List.mem_range'_1.2 ⟨by omega, by omega⟩)
  by_cases h : j < 383
  · exact List.all_eq_true.1 w380 j (List.mem_range'_1.2 ⟨by omega, by omega⟩)
  by_cases h : j < 386
  · exact List.all_eq_true.1 w383 j (List.mem_range'_1.2 ⟨by omega, by omega⟩)
  by_cases h : j < 389
  · exact List.all_eq_true.1 w386 j (List.mem_range'_1.2 ⟨by omega, by omega⟩)
  by_cases h : j < 391
  · exact List.all_eq_true.1 w389 j (List.mem_range'_1.2 ⟨by omega, by omega⟩)
  by_cases h : j < 394
  · exact List.all_eq_true.1 w391 j (List.mem_range'_1.2 ⟨by omega, by omega⟩)
  by_cases h : j < 400
  · exact List.all_eq_true.1 w394 j (List.mem_range'_1.2 ⟨by omega, by omega⟩)
  by_cases h : j < 413
  · exact List.all_eq_true.1 w400 j (List.mem_range'_1.2 ⟨by omega, by omega⟩)
  by_cases h : j < 419
  · exact List.all_eq_true.1 w413 j (List.mem_range'_1.2 ⟨by omega, by omega⟩)
  omega

theorem wit (os : Os) : ((laidWorld os).forCall (fun _ _ => 0) ⟨#[], #[.int .i64 0, .int .i64 0, .bool false], []⟩).memory.heap[0]? = some (.cells cells12 126 (0, 0)) := by kernel_rfl

set_option maxRecDepth 100000 in
theorem lifted (os : Os) (started : os.Started) (H : Type) (enc : TypeId × Value → H) :
    ReturnsInHanded {} Tryd.checked os 12 .any (fun w args => (Rows.tallLowSpec.pre enc Tryd.prog Tryd.f12 Rows.tallLowRow.domain false w args ∧ laidMet Tryd.prog [("cartouche/offs.kinds", Rows.laid_cartouche_offs_kinds)] w) ∧ sizedMet enc Tryd.prog Tryd.f12 (OpenSpec.ofChange Rows.tallLowSpec) false w args)
      (Rows.tallLowSpec.post enc Tryd.prog Tryd.f12 false true false false) := by
  refine returnsInHanded_of_change_and (C := Tryd.checked) (X := fun w _ => laidMet Tryd.prog [("cartouche/offs.kinds", Rows.laid_cartouche_offs_kinds)] w) (fun _ _ _ hh h => h.of_heap hh) own started (by kernel_rfl) Tryd.func12
    (ChangeSpec.witness_at (enc := enc) (C := Tryd.checked) (os := os) (X := fun w _ => laidMet Tryd.prog [("cartouche/offs.kinds", Rows.laid_cartouche_offs_kinds)] w) false (laidWorld os) #[.int .i64 0, .int .i64 0, .bool false] 8 rfl (by kernel_rfl) (by kernel_rfl) (by kernel_rfl) (by kernel_rfl) (by kernel_rfl) (laid_met _ (wit os))) ?_
  intro W base args ds gs before hval0 hW _ _ hL _
  have hval : ∀ (j : Nat) t v, Tryd.f12.params[j]? = some t → args[j]? = some v → Value.okWide Tryd.prog W .any base t v := hval0
  have hW' := hW
  obtain ⟨p, q, hA0, hV, rfl, hfz, hnd⟩ := hW
  have hA : DataW.TrodAll enc Tryd.prog W 0 (fun _ => true) true Tryd.f12.params.toList args.toList ds p := hA0
  rw [Tryd.params12] at hA hval
  obtain ⟨v0, v1, v2, d0, d1, d2, p0, p1, p2, rfl, rfl, rfl, h0, h1, h2⟩ := trodAll_three hA
  obtain ⟨rfl, rfl⟩ := trodVars_none hV
  obtain ⟨a, rfl, rfl, rfl, w0⟩ := open_int Tryd.underlying3 (hval 0 3 v0 rfl rfl) h0
  obtain ⟨b, rfl, rfl, rfl, w1⟩ := open_int Tryd.underlying3 (hval 1 3 v1 rfl rfl) h1
  obtain ⟨t, rfl, rfl, rfl⟩ := open_bool Tryd.underlying4 (hval 2 4 v2 rfl rfl) h2
  clear hA0 hval0
  simp only [List.append_nil] at hW'
  refine (tal_three all (wf_has w0) (wf_has w1) t (laid_of hL)).mono fun e W' ⟨he, hg⟩ => ?_
  subst he
  exact ⟨_, rfl, post_of_same (pa := []) (pv := []) hW' (fun _ _ _ => trodAll_cons_mk (shut_bool Tryd.underlying4 _) trodAll_mk0)
    (fun _ _ => trodAll_cons_mk (shut_int Tryd.underlying3 w0) (trodAll_cons_mk (shut_int Tryd.underlying3 w1) (trodAll_cons_mk (shut_bool Tryd.underlying4 _) trodAll_mk0))) (fun _ _ => rfl) rfl
    (hg.frame _) hg.2.1 (ok_one (by kernel_rfl) rfl (okWide_bool_mk Tryd.underlying4 _))⟩

theorem joined : joinedFacts Tryd.prog 12 Tryd.f12 Rows.tallLowSpec Rows.tallLowRow = true := by
  unfold joinedFacts
  rw [pEnter, pLifts, pMake]
  kernel_rfl

theorem row : Rows.TallLowSaid :=
  OpenClaim.holds_of_wide 12 Tryd.f12 rfl rfl rfl rfl rfl rfl rfl ⟨rfl, rfl, rfl, rfl, rfl⟩ rfl rfl rfl rfl rfl (by kernel_rfl) Tryd.func12 joined
    (of_decide_eq_true (by kernel_rfl)) (by unfold Func.isWrapper; first | (rw [if_pos (by decide +kernel)]; kernel_rfl) | (rw [if_neg (by decide +kernel)]; exact ⟨rfl, rfl⟩))
    (fun os started H enc _ => lifted os started H enc)

theorem goes0 : false = Rows.tallLowRow.goesBy Tryd.prog := by kernel_rfl

theorem named0 : Tryd.prog.funcNamed "cartouche/cartouchelaw11.TallLow" = some 12 := by kernel_rfl

theorem wf0 : Rows.tallLowRow.wfByText (OpenSpec.ofChange Rows.tallLowSpec) = true := by kernel_rfl

theorem proved : Rows.TallLowCardSaid :=
  Claim7.holds_tied_plain_at .later [] [.data] true (true, "da8a6907bc181bcdfc693d96b7f41634546629ab9b0d19580363a62b8d88c62b") false
    row (fun _ h => by cases h) wf0 (fun _ h => by cases h) tallLow_row_tie rfl ⟨rfl, rfl⟩ pMain rfl
    (fun f fn hf hfn => by
      obtain rfl : f = 12 := Option.some.inj (named0.symm.trans hf) |>.symm
      obtain rfl : fn = Tryd.f12 := (Option.some.inj (Tryd.func12.symm.trans hfn)).symm
      exact ⟨pLooks, fun j t ht => by
        rw [Tryd.params12] at ht
        have h3 : t = 3 ∨ t = 4 := by
          rcases j with _ | _ | _ | j
          · exact Or.inl (by simpa using ht.symm)
          · exact Or.inl (by simpa using ht.symm)
          · exact Or.inr (by simpa using ht.symm)
          · simp at ht
        rcases h3 with rfl | rfl
        · exact (show Tryd.prog.wantsStandIn 3 = false by kernel_rfl)
        · exact (show Tryd.prog.wantsStandIn 4 = false by kernel_rfl)⟩)
    goes0

end Go.Proofs.YtaiecnepchndkaaDoor.tallLow
