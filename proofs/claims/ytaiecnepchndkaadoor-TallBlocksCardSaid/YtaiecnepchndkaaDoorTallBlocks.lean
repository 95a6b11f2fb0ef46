/- TallBlocks: for every input the law returns true, and the arguments read as before. The package's variable offs.kinds starts as the program's text lays it (the card's tie). -/
import Derived.Test.YtaiecnepchndkaaDoorTallBlocksP0
import Derived.Test.YtaiecnepchndkaaDoorTallBlocksP1
import Derived.Test.YtaiecnepchndkaaDoorTallBlocksP2
import Derived.Test.YtaiecnepchndkaaDoorTallBlocksP3
import Derived.Test.YtaiecnepchndkaaDoorEnter
namespace Go.Proofs.YtaiecnepchndkaaDoor.tallBlocks
open Go.ChangeShapes Go.WideShapes Go.ChangeAt Go.RowKit Go.Sx

theorem all : ∀ j : Nat, j < tal.cases.length → tal.at2 13 j = true := by
  intro j hj
  rw [tal.len] at hj
  by_cases h : j < 21
  · exact List.all_eq_true.1 w0 j (List.mem_range'_1.2 ⟨by omega, by omega⟩)
  by_cases h : j < 40
  · exact List.all_eq_true.1 w21 j (List.mem_range'_1.2 ⟨by omega, by omega⟩)
  by_cases h : j < 47
  · exact List.all_eq_true.1 w40 j (List.mem_range'_1.2 ⟨by omega, by omega⟩)
  by_cases h : j < 53
  · exact List.all_eq_true.1 w47 j (List.mem_range'_1.2 ⟨by omega, by omega⟩)
  by_cases h : j < 61
  · exact List.all_eq_true.1 w53 j (List.mem_range'_1.2 ⟨by omega, by omega⟩)
  by_cases h : j < 69
  · exact List.all_eq_true.1 w61 j (List.mem_range'_1.2 ⟨by omega, by omega⟩)
  by_cases h : j < 77
  · exact List.all_eq_true.1 w69 j (List.mem_range'_1.2 ⟨by omega, by omega⟩)
  by_cases h : j < 85
  · exact List.all_eq_true.1 w77 j (List.mem_range'_1.2 ⟨by omega, by omega⟩)
  by_cases h : j < 93
  · exact List.all_eq_true.1 w85 j (List.mem_range'_1.2 ⟨by omega, by omega⟩)
  by_cases h : j < 101
  · exact List.all_eq_true.1 w93 j (List.mem_range'_1.2 ⟨by omega, by omega⟩)
  by_cases h : j < 109
  · exact List.all_eq_true.1 w101 j (List.mem_range'_1.2 ⟨by omega, by omega⟩)
  by_cases h : j < 116
  · exact List.all_eq_true.1 w109 j (List.mem_range'_1.2 ⟨by omega, by omega⟩)
  by_cases h : j < 124
  · exact List.all_eq_true.1 w116 j (List.mem_range'_1.2 ⟨by omega, by omega⟩)
  by_cases h : j < 132
  · exact List.all_eq_true.1 w124 j (List.mem_range'_1.2 ⟨by omega, by omega⟩)
  by_cases h : j < 140
  · exact List.all_eq_true.1 w132 j (List.mem_range'_1.2 ⟨by omega, by omega⟩)
  by_cases h : j < 149
  · exact List.all_eq_true.1 w140 j (List.mem_range'_1.2 ⟨by omega, by omega⟩)
  by_cases h : j < 158
  · exact List.all_eq_true.1 w149 j (List.mem_range'_1.2 ⟨by omega, by omega⟩)
  by_cases h : j < 167
  · exact List.all_eq_true.1 w158 j (List.mem_range'_1.2 ⟨by omega, by omega⟩)
  by_cases h : j < 176
  · exact List.all_eq_true.1 w167 j (List.mem_range'_1.2 ⟨by omega, by omega⟩)
  by_cases h : j < 185
  · exact List.all_eq_true.1 w176 j (List.mem_range'_1.2 ⟨by omega, by omega⟩)
  by_cases h : j < 193
  · exact List.all_eq_true.1 w185 j (List.mem_range'_1.2 ⟨by omega, by omega⟩)
  by_cases h : j < 201
  · exact List.all_eq_true.1 w193 j (List.mem_range'_1.2 ⟨by omega, by omega⟩)
  by_cases h : j < 210
  · exact List.all_eq_true.1 w201 j (List.mem_range'_1.2 ⟨by omega, by omega⟩)
  by_cases h : j < 218
  · exact List.all_eq_true.1 w210 j (List.mem_range'_1.2 ⟨by omega, by omega⟩)
  by_cases h : j < 226
  · exact List.all_eq_true.1 w218 j (List.mem_range'_1.2 ⟨by omega, by omega⟩)
  by_cases h : j < 233
  · exact List.all_eq_true.1 w226 j (List.mem_range'_1.2 ⟨by omega, by omega⟩)
  by_cases h : j < 241
  · exact List.all_eq_true.1 w233 j (List.mem_range'_1.2 ⟨by omega, by omega⟩)
  by_cases h : j < 249
  · exact List.all_eq_true.1 w241 j (List.mem_range'_1.2 ⟨by omega, by omega⟩)
  by_cases h : j < 257
  · exact List.all_eq_true.1 w249 j (List.mem_range'_1.2 ⟨by omega, by omega⟩)
  by_cases h : j < 266
  · exact List.all_eq_true.1 w257 j (List.mem_range'_1.2 ⟨by omega, by omega⟩)
  by_cases h : j < 275
  · exact List.all_eq_true.1 w266 j (List.mem_range'_1.2 ⟨by omega, by omega⟩)
  by_cases h : j < 283
  · exact List.all_eq_true.1 w275 j (List.mem_range'_1.2 ⟨by omega, by omega⟩)
  by_cases h : j < 291
  · exact List.all_eq_true.1 w283 j (List.mem_range'_1.2 ⟨by omega, by omega⟩)
  by_cases h : j < 299
  · exact List.all_eq_true.1 w291 j (List.mem_range'_1.2 ⟨by omega, by omega⟩)
  by_cases h : j < 307
  · exact List.all_eq_true.1 w299 j (List.mem_range'_1.2 ⟨by omega, by omega⟩)
  by_cases h : j < 316
  · exact List.all_eq_true.1 w307 j (List.mem_range'_1.2 ⟨by omega, by omega⟩)
  by_cases h : j < 324
  · exact List.all_eq_true.1 w316 j (List.mem_range'_1.2 ⟨by omega, by omega⟩)
  by_cases h : j < 330
  · exact List.all_eq_true.1 w324 j (List.mem_range'_1.2 ⟨by omega, by omega⟩)
  by_cases h : j < 333
  · exact List.all_eq_true.1 w330 j (List.mem_range'_1.2 ⟨by omega, by omega⟩)
  by_cases h : j < 336
  · exact List.all_eq_true.1 w333 j (List.mem_range'_1.2 ⟨by omega, by omega⟩)
  by_cases h : j < 339
  · exact List.all_eq_true.1 w336 j (List.mem_range'_1.2 ⟨by omega, by omega⟩)
  by_cases h : j < 342
  · exact List.all_eq_true.1 w339 j (List.mem_range'_1.2 ⟨by omega, by omega⟩)
  by_cases h : j < 345
  · exact List.all_eq_true.1 w342 j (List.mem_range'_1.2 ⟨by omega, by omega⟩)
  by_cases h : j < 348
  · exact List.all_eq_true.1 w345 j (List.mem_range'_1.2 ⟨by omega, by omega⟩)
  by_cases h : j < 351
  · exact List.all_eq_true.1 w348 j (List.mem_range'_1.2 ⟨by omega, by omega⟩)
  by_cases h : j < 354
  · exact List.all_eq_true.1 w351 j (List.mem_range'_1.2 ⟨by omega, by omega⟩)
  by_cases h : j < 357
  · exact List.all_eq_true.1 w354 j (List.mem_range'_1.2 ⟨by omega, by omega⟩)
  by_cases h : j < 360
  · exact List.all_eq_true.1 w357 j (List.mem_range'_1.2 ⟨by omega, by omega⟩)
  by_cases h : j < 361
  · exact List.all_eq_true.1 w360 j (List.mem_range'_1.2 ⟨by omega, by omega⟩)
  by_cases h : j < 363
  · exact List.all_eq_true.1 w361 j (List.mem_range'_1.2 ⟨by omega, by omega⟩)
  by_cases h : j < 365
  · exact List.all_eq_true.1 w363 j (List.mem_range'_1.2 ⟨by omega, by omega⟩)
  by_cases h : j < 367
  · exact List.all_eq_true.1 w365 j (List.mem_range'_1.2 ⟨by omega, by omega⟩)
  by_cases h : j < 369
  · exact List.all_eq_true.1 w367 j (List.mem_range'_1.2 ⟨by omega, by omega⟩)
  by_cases h : j < 371
  · exact List.all_eq_true.1 w369 j (List.mem_range'_1.2 ⟨by omega, by omega⟩)
  by_cases h : j < 374
  · exact List.all_eq_true.1 w371 j (List.mem_range'_1.2 ⟨by omega, by omega⟩)
  by_cases h : j < 377
  · exact List.all_eq_true.1 w374 j (List.mem_range'_1.2 ⟨by omega, by omega⟩)
  by_cases h : j < 380
  · exact List.all_eq_true.1 w377 j (List.mem_range'_1.2 ⟨by omega, by omega⟩)
  by_cases h : j < 383
  · exact List.all_eq_true.1 w380 j (List.mem_range'_1.2 ⟨by omega, by omega⟩)
  by_cases h : j < 386
  · exact List.all_eq_true.1 w383 j (List.mem_range'_1.2 ⟨by omega, by omega⟩)
  by_cases h : j < 389
  · exact List.all_eq_true.1 w386 j (List.mem_range'_1.2 ⟨by omega, by omega⟩)
  by_cases h : j < 391
  · exact List.all_eq_true.1 w389 j (List.mem_range'_1.2 ⟨by omega, by omega⟩)
  by_cases h : j < 394
  · exact List.all_eq_true.1 w391 j (List.mem_range'_1.2 ⟨by omega, by omega⟩)
  by_cases h : j < 399
  · exact List.all_eq_true.1 w394 j (List.mem_range'_1.2 ⟨by omega, by omega⟩)
  by_cases h : j < 412
  · exact List.all_eq_true.1 w399 j (List.mem_range'_1.2 ⟨by omega, by omega⟩)
  by_cases h : j < 419
  · exact List.all_eq_true.1 w412 j (List.mem_range'_1.2 ⟨by omega, by omega⟩)
  omega

theorem wit (os : Os) : ((laidWorld os).forCall (fun _ _ => 0) ⟨#[], #[.int .i64 0, .int .i64 0], []⟩).memory.heap[0]? = some (.cells cells12 126 (0, 0)) := by kernel_rfl

set_option maxRecDepth 100000 in
theorem lifted (os : Os) (started : os.Started) (H : Type) (enc : TypeId × Value → H) :
    ReturnsInHanded {} Tryd.checked os 13 .any (fun w args => (Rows.tallBlocksSpec.pre enc Tryd.prog Tryd.f13 Rows.tallBlocksRow.domain false w args ∧ laidMet Tryd.prog [("cartouche/offs.kinds", Rows.laid_cartouche_offs_kinds)] w) ∧ sizedMet enc Tryd.prog Tryd.f13 (OpenSpec.ofChange Rows.tallBlocksSpec) false w args)
      (Rows.tallBlocksSpec.post enc Tryd.prog Tryd.f13 false true false false) := by
  refine returnsInHanded_of_change_and (C := Tryd.checked) (X := fun w _ => laidMet Tryd.prog [("cartouche/offs.kinds", Rows.laid_cartouche_offs_kinds)] w) (fun _ _ _ hh h => h.of_heap hh) own started (by kernel_rfl) Tryd.func13
    (ChangeSpec.witness_at (enc := enc) (C := Tryd.checked) (os := os) (X := fun w _ => laidMet Tryd.prog [("cartouche/offs.kinds", Rows.laid_cartouche_offs_kinds)] w) false (laidWorld os) #[.int .i64 0, .int .i64 0] 8 rfl (by kernel_rfl) (by kernel_rfl) (by kernel_rfl) (by kernel_rfl) (by kernel_rfl) (laid_met _ (wit os))) ?_
  intro W base args ds gs before hval0 hW _ _ hL _
  have hval : ∀ (j : Nat) t v, Tryd.f13.params[j]? = some t → args[j]? = some v → Value.okWide Tryd.prog W .any base t v := hval0
  have hW' := hW
  obtain ⟨p, q, hA0, hV, rfl, hfz, hnd⟩ := hW
  have hA : DataW.TrodAll enc Tryd.prog W 0 (fun _ => true) true Tryd.f13.params.toList args.toList ds p := hA0
  rw [Tryd.params13] at hA hval
  obtain ⟨v0, v1, d0, d1, p0, p1, rfl, rfl, rfl, h0, h1⟩ := trodAll_two hA
  obtain ⟨rfl, rfl⟩ := trodVars_none hV
  obtain ⟨a, rfl, rfl, rfl, w0⟩ := open_int Tryd.underlying3 (hval 0 3 v0 rfl rfl) h0
  obtain ⟨b, rfl, rfl, rfl, w1⟩ := open_int Tryd.underlying3 (hval 1 3 v1 rfl rfl) h1
  clear hA0 hval0
  simp only [List.append_nil] at hW'
  refine (tal_two all (wf_has w0) (wf_has w1) (laid_of hL)).mono fun e W' ⟨he, hg⟩ => ?_
  subst he
  exact ⟨_, rfl, post_of_same (pa := []) (pv := []) hW' (fun _ _ _ => trodAll_cons_mk (shut_bool Tryd.underlying4 _) trodAll_mk0)
    (fun _ _ => trodAll_cons_mk (shut_int Tryd.underlying3 w0) (trodAll_cons_mk (shut_int Tryd.underlying3 w1) trodAll_mk0)) (fun _ _ => rfl) rfl
    (hg.frame _) hg.2.1 (ok_one (by kernel_rfl) rfl (okWide_bool_mk Tryd.underlying4 _))⟩

theorem joined : joinedFacts Tryd.prog 13 Tryd.f13 Rows.tallBlocksSpec Rows.tallBlocksRow = true := by
  unfold joinedFacts
  rw [pEnter, pLifts, pMake]
  kernel_rfl

theorem row : Rows.TallBlocksSaid :=
  OpenClaim.holds_of_wide 13 Tryd.f13 rfl rfl rfl rfl rfl rfl rfl ⟨rfl, rfl, rfl, rfl, rfl⟩ rfl rfl rfl rfl rfl (by kernel_rfl) Tryd.func13 joined
    (of_decide_eq_true (by kernel_rfl)) (by unfold Func.isWrapper; first | (rw [if_pos (by decide +kernel)]; kernel_rfl) | (rw [if_neg (by decide +kernel)]; exact ⟨rfl, rfl⟩))
    (fun os started H enc _ => lifted os started H enc)

theorem goes0 : false = Rows.tallBlocksRow.goesBy Tryd.prog := by kernel_rfl

theorem named0 : Tryd.prog.funcNamed "cartouche/cartouchelaw11.TallBlocks" = some 13 := by kernel_rfl

theorem wf0 : Rows.tallBlocksRow.wfByText (OpenSpec.ofChange Rows.tallBlocksSpec) = true := by kernel_rfl

theorem proved : Rows.TallBlocksCardSaid :=
  Claim7.holds_tied_plain_at .later [] [.data] true (true, "da8a6907bc181bcdfc693d96b7f41634546629ab9b0d19580363a62b8d88c62b") false
    row (fun _ h => by cases h) wf0 (fun _ h => by cases h) tallBlocks_row_tie rfl ⟨rfl, rfl⟩ pMain rfl
    (fun f fn hf hfn => by
      obtain rfl : f = 13 := Option.some.inj (named0.symm.trans hf) |>.symm
      obtain rfl : fn = Tryd.f13 := (Option.some.inj (Tryd.func13.symm.trans hfn)).symm
      exact ⟨pLooks, fun j t ht => by
        rw [Tryd.params13] at ht
        have h3 : t = 3 ∨ t = 4 := by
          rcases j with _ | _ | j
          · exact Or.inl (by simpa using ht.symm)
          · exact Or.inl (by simpa using ht.symm)
          · simp at ht
        rcases h3 with rfl | rfl
        · exact (show Tryd.prog.wantsStandIn 3 = false by kernel_rfl)
        · exact (show Tryd.prog.wantsStandIn 4 = false by kernel_rfl)⟩)
    goes0

end Go.Proofs.YtaiecnepchndkaaDoor.tallBlocks
