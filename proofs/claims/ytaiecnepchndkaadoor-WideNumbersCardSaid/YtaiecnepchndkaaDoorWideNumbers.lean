/- WideNumbers: for every input the law returns true, and the arguments read as before. The package's variable offs.kinds starts as the program's text lays it (the card's tie). -/
import Derived.Test.YtaiecnepchndkaaDoorWideNumbersP0
import Derived.Test.YtaiecnepchndkaaDoorEnter
namespace Go.Proofs.YtaiecnepchndkaaDoor.wideNumbers
open Go.ChangeShapes Go.WideShapes Go.ChangeAt Go.RowKit Go.Sx

theorem g1 : ∀ j : Nat, j < (wid.cases 1).length → wdn.at2 16 1 j = true
  | 0, _ => w1x0
  | 1, _ => w1x1
  | j + 2, h => absurd h (by show ¬ j + 2 < 2; omega)
theorem g2 : ∀ j : Nat, j < (wid.cases 2).length → wdn.at2 16 2 j = true
  | 0, _ => w2x0
  | 1, _ => w2x1
  | j + 2, h => absurd h (by show ¬ j + 2 < 2; omega)
theorem g3 : ∀ j : Nat, j < (wid.cases 3).length → wdn.at2 16 3 j = true
  | 0, _ => w3x0
  | 1, _ => w3x1
  | j + 2, h => absurd h (by show ¬ j + 2 < 2; omega)
theorem g4 : ∀ j : Nat, j < (wid.cases 4).length → wdn.at2 16 4 j = true
  | 0, _ => w4x0
  | 1, _ => w4x1
  | j + 2, h => absurd h (by show ¬ j + 2 < 2; omega)
theorem g5 : ∀ j : Nat, j < (wid.cases 5).length → wdn.at2 16 5 j = true
  | 0, _ => w5x0
  | 1, _ => w5x1
  | j + 2, h => absurd h (by show ¬ j + 2 < 2; omega)
theorem g6 : ∀ j : Nat, j < (wid.cases 6).length → wdn.at2 16 6 j = true
  | 0, _ => w6x0
  | 1, _ => w6x1
  | j + 2, h => absurd h (by show ¬ j + 2 < 2; omega)
theorem g7 : ∀ j : Nat, j < (wid.cases 7).length → wdn.at2 16 7 j = true
  | 0, _ => w7x0
  | 1, _ => w7x1
  | j + 2, h => absurd h (by show ¬ j + 2 < 2; omega)
theorem g8 : ∀ j : Nat, j < (wid.cases 8).length → wdn.at2 16 8 j = true
  | 0, _ => w8x0
  | 1, _ => w8x1
  | j + 2, h => absurd h (by show ¬ j + 2 < 2; omega)
theorem g9 : ∀ j : Nat, j < (wid.cases 9).length → wdn.at2 16 9 j = true
  | 0, _ => w9x0
  | 1, _ => w9x1
  | j + 2, h => absurd h (by show ¬ j + 2 < 2; omega)
theorem g10 : ∀ j : Nat, j < (wid.cases 10).length → wdn.at2 16 10 j = true
  | 0, _ => w10x0
  | 1, _ => w10x1
  | j + 2, h => absurd h (by show ¬ j + 2 < 2; omega)
theorem g11 : ∀ j : Nat, j < (wid.cases 11).length → wdn.at2 16 11 j = true
  | 0, _ => w11x0
  | 1, _ => w11x1
  | j + 2, h => absurd h (by show ¬ j + 2 < 2; omega)
theorem g12 : ∀ j : Nat, j < (wid.cases 12).length → wdn.at2 16 12 j = true
  | 0, _ => w12x0
  | 1, _ => w12x1
  | j + 2, h => absurd h (by show ¬ j + 2 < 2; omega)
theorem g13 : ∀ j : Nat, j < (wid.cases 13).length → wdn.at2 16 13 j = true
  | 0, _ => w13x0
  | 1, _ => w13x1
  | j + 2, h => absurd h (by show ¬ j + 2 < 2; omega)
theorem g14 : ∀ j : Nat, j < (wid.cases 14).length → wdn.at2 16 14 j = true
  | 0, _ => w14x0
  | 1, _ => w14x1
  | j + 2, h => absurd h (by show ¬ j + 2 < 2; omega)
theorem g15 : ∀ j : Nat, j < (wid.cases 15).length → wdn.at2 16 15 j = true
  | 0, _ => w15x0
  | 1, _ => w15x1
  | j + 2, h => absurd h (by show ¬ j + 2 < 2; omega)
theorem g16 : ∀ j : Nat, j < (wid.cases 16).length → wdn.at2 16 16 j = true
  | 0, _ => w16x0
  | 1, _ => w16x1
  | j + 2, h => absurd h (by show ¬ j + 2 < 2; omega)
theorem g17 : ∀ j : Nat, j < (wid.cases 17).length → wdn.at2 16 17 j = true
  | 0, _ => w17x0
  | 1, _ => w17x1
  | j + 2, h => absurd h (by show ¬ j + 2 < 2; omega)
theorem g18 : ∀ j : Nat, j < (wid.cases 18).length → wdn.at2 16 18 j = true
  | 0, _ => w18x0
  | 1, _ => w18x1
  | j + 2, h => absurd h (by show ¬ j + 2 < 2; omega)
theorem g19 : ∀ j : Nat, j < (wid.cases 19).length → wdn.at2 16 19 j = true
  | 0, _ => w19x0
  | 1, _ => w19x1
  | j + 2, h => absurd h (by show ¬ j + 2 < 2; omega)
theorem g20 : ∀ j : Nat, j < (wid.cases 20).length → wdn.at2 16 20 j = true
  | 0, _ => w20x0
  | 1, _ => w20x1
  | j + 2, h => absurd h (by show ¬ j + 2 < 2; omega)
theorem g21 : ∀ j : Nat, j < (wid.cases 21).length → wdn.at2 16 21 j = true
  | 0, _ => w21x0
  | 1, _ => w21x1
  | j + 2, h => absurd h (by show ¬ j + 2 < 2; omega)
theorem g22 : ∀ j : Nat, j < (wid.cases 22).length → wdn.at2 16 22 j = true
  | 0, _ => w22x0
  | 1, _ => w22x1
  | j + 2, h => absurd h (by show ¬ j + 2 < 2; omega)
theorem g23 : ∀ j : Nat, j < (wid.cases 23).length → wdn.at2 16 23 j = true
  | 0, _ => w23x0
  | 1, _ => w23x1
  | j + 2, h => absurd h (by show ¬ j + 2 < 2; omega)
theorem g24 : ∀ j : Nat, j < (wid.cases 24).length → wdn.at2 16 24 j = true
  | 0, _ => w24x0
  | 1, _ => w24x1
  | j + 2, h => absurd h (by show ¬ j + 2 < 2; omega)
theorem g25 : ∀ j : Nat, j < (wid.cases 25).length → wdn.at2 16 25 j = true
  | 0, _ => w25x0
  | 1, _ => w25x1
  | j + 2, h => absurd h (by show ¬ j + 2 < 2; omega)
theorem g26 : ∀ j : Nat, j < (wid.cases 26).length → wdn.at2 16 26 j = true
  | 0, _ => w26x0
  | 1, _ => w26x1
  | j + 2, h => absurd h (by show ¬ j + 2 < 2; omega)
theorem g27 : ∀ j : Nat, j < (wid.cases 27).length → wdn.at2 16 27 j = true
  | 0, _ => w27x0
  | 1, _ => w27x1
  | j + 2, h => absurd h (by show ¬ j + 2 < 2; omega)
theorem g28 : ∀ j : Nat, j < (wid.cases 28).length → wdn.at2 16 28 j = true
  | 0, _ => w28x0
  | 1, _ => w28x1
  | j + 2, h => absurd h (by show ¬ j + 2 < 2; omega)
theorem g29 : ∀ j : Nat, j < (wid.cases 29).length → wdn.at2 16 29 j = true
  | 0, _ => w29x0
  | 1, _ => w29x1
  | j + 2, h => absurd h (by show ¬ j + 2 < 2; omega)
theorem g30 : ∀ j : Nat, j < (wid.cases 30).length → wdn.at2 16 30 j = true
  | 0, _ => w30x0
  | 1, _ => w30x1
  | j + 2, h => absurd h (by show ¬ j + 2 < 2; omega)
theorem g31 : ∀ j : Nat, j < (wid.cases 31).length → wdn.at2 16 31 j = true
  | 0, _ => w31x0
  | 1, _ => w31x1
  | j + 2, h => absurd h (by show ¬ j + 2 < 2; omega)
theorem g32 : ∀ j : Nat, j < (wid.cases 32).length → wdn.at2 16 32 j = true
  | 0, _ => w32x0
  | 1, _ => w32x1
  | j + 2, h => absurd h (by show ¬ j + 2 < 2; omega)
theorem g33 : ∀ j : Nat, j < (wid.cases 33).length → wdn.at2 16 33 j = true
  | 0, _ => w33x0
  | 1, _ => w33x1
  | j + 2, h => absurd h (by show ¬ j + 2 < 2; omega)
theorem g34 : ∀ j : Nat, j < (wid.cases 34).length → wdn.at2 16 34 j = true
  | 0, _ => w34x0
  | 1, _ => w34x1
  | j + 2, h => absurd h (by show ¬ j + 2 < 2; omega)
theorem g35 : ∀ j : Nat, j < (wid.cases 35).length → wdn.at2 16 35 j = true
  | 0, _ => w35x0
  | 1, _ => w35x1
  | 2, _ => w35x2
  | j + 3, h => absurd h (by show ¬ j + 3 < 3; omega)
theorem g36 : ∀ j : Nat, j < (wid.cases 36).length → wdn.at2 16 36 j = true
  | 0, _ => w36x0
  | 1, _ => w36x1
  | j + 2, h => absurd h (by show ¬ j + 2 < 2; omega)
theorem g37 : ∀ j : Nat, j < (wid.cases 37).length → wdn.at2 16 37 j = true
  | 0, _ => w37x0
  | 1, _ => w37x1
  | j + 2, h => absurd h (by show ¬ j + 2 < 2; omega)
theorem g38 : ∀ j : Nat, j < (wid.cases 38).length → wdn.at2 16 38 j = true
  | 0, _ => w38x0
  | 1, _ => w38x1
  | j + 2, h => absurd h (by show ¬ j + 2 < 2; omega)
theorem g39 : ∀ j : Nat, j < (wid.cases 39).length → wdn.at2 16 39 j = true
  | 0, _ => w39x0
  | 1, _ => w39x1
  | j + 2, h => absurd h (by show ¬ j + 2 < 2; omega)
theorem g40 : ∀ j : Nat, j < (wid.cases 40).length → wdn.at2 16 40 j = true
  | 0, _ => w40x0
  | 1, _ => w40x1
  | j + 2, h => absurd h (by show ¬ j + 2 < 2; omega)
theorem g41 : ∀ j : Nat, j < (wid.cases 41).length → wdn.at2 16 41 j = true
  | 0, _ => w41x0
  | 1, _ => w41x1
  | j + 2, h => absurd h (by show ¬ j + 2 < 2; omega)
theorem g42 : ∀ j : Nat, j < (wid.cases 42).length → wdn.at2 16 42 j = true
  | 0, _ => w42x0
  | 1, _ => w42x1
  | j + 2, h => absurd h (by show ¬ j + 2 < 2; omega)
theorem g43 : ∀ j : Nat, j < (wid.cases 43).length → wdn.at2 16 43 j = true
  | 0, _ => w43x0
  | 1, _ => w43x1
  | j + 2, h => absurd h (by show ¬ j + 2 < 2; omega)
theorem g44 : ∀ j : Nat, j < (wid.cases 44).length → wdn.at2 16 44 j = true
  | 0, _ => w44x0
  | 1, _ => w44x1
  | j + 2, h => absurd h (by show ¬ j + 2 < 2; omega)
theorem g45 : ∀ j : Nat, j < (wid.cases 45).length → wdn.at2 16 45 j = true
  | 0, _ => w45x0
  | 1, _ => w45x1
  | j + 2, h => absurd h (by show ¬ j + 2 < 2; omega)
theorem go : ∀ k : Nat, 1 ≤ k → k ≤ 45 → ∀ j : Nat, j < (wid.cases k).length → wdn.at2 16 k j = true
  | 0, h, _ => absurd h (by omega)
  | 1, _, _ => g1
  | 2, _, _ => g2
  | 3, _, _ => g3
  | 4, _, _ => g4
  | 5, _, _ => g5
  | 6, _, _ => g6
  | 7, _, _ => g7
  | 8, _, _ => g8
  | 9, _, _ => g9
  | 10, _, _ => g10
  | 11, _, _ => g11
  | 12, _, _ => g12
  | 13, _, _ => g13
  | 14, _, _ => g14
  | 15, _, _ => g15
  | 16, _, _ => g16
  | 17, _, _ => g17
  | 18, _, _ => g18
  | 19, _, _ => g19
  | 20, _, _ => g20
  | 21, _, _ => g21
  | 22, _, _ => g22
  | 23, _, _ => g23
  | 24, _, _ => g24
  | 25, _, _ => g25
  | 26, _, _ => g26
  | 27, _, _ => g27
  | 28, _, _ => g28
  | 29, _, _ => g29
  | 30, _, _ => g30
  | 31, _, _ => g31
  | 32, _, _ => g32
  | 33, _, _ => g33
  | 34, _, _ => g34
  | 35, _, _ => g35
  | 36, _, _ => g36
  | 37, _, _ => g37
  | 38, _, _ => g38
  | 39, _, _ => g39
  | 40, _, _ => g40
  | 41, _, _ => g41
  | 42, _, _ => g42
  | 43, _, _ => g43
  | 44, _, _ => g44
  | 45, _, _ => g45
  | k + 46, _, h => absurd h (by omega)

theorem walk {x : Fields} (hx : x.Ok) (it : Bool) {w : World} (hw : Laid w) : Calls Tryd.prog 16 #[x.val, .bool it] w fun e w' => e = .returned (.bool true) ∧ Grown w w' := wdn_two lo hi go hx it hw

theorem wit (os : Os) : ((laidWorld os).forCall (fun _ _ => 0) ⟨#[], #[zeroIns, .bool false], []⟩).memory.heap[0]? = some (.cells cells12 126 (0, 0)) := by kernel_rfl

set_option maxRecDepth 100000 in
theorem lifted (os : Os) (started : os.Started) (H : Type) (enc : TypeId × Value → H) :
    ReturnsInHanded {} Tryd.checked os 16 .any (fun w args => (Rows.wideNumbersSpec.pre enc Tryd.prog Tryd.f16 Rows.wideNumbersRow.domain false w args ∧ laidMet Tryd.prog [("cartouche/offs.kinds", Rows.laid_cartouche_offs_kinds)] w) ∧ sizedMet enc Tryd.prog Tryd.f16 (OpenSpec.ofChange Rows.wideNumbersSpec) false w args)
      (Rows.wideNumbersSpec.post enc Tryd.prog Tryd.f16 false true false false) := by
  refine returnsInHanded_of_change_and (C := Tryd.checked) (X := fun w _ => laidMet Tryd.prog [("cartouche/offs.kinds", Rows.laid_cartouche_offs_kinds)] w) (fun _ _ _ hh h => h.of_heap hh) own started (by kernel_rfl) Tryd.func16
    (ChangeSpec.witness_at (enc := enc) (C := Tryd.checked) (os := os) (X := fun w _ => laidMet Tryd.prog [("cartouche/offs.kinds", Rows.laid_cartouche_offs_kinds)] w) false (laidWorld os) #[zeroIns, .bool false] 8 rfl (by kernel_rfl) (by kernel_rfl) (by kernel_rfl) (by kernel_rfl) (by kernel_rfl) (laid_met _ (wit os))) ?_
  intro W base args ds gs before hval0 hW _ _ hL _
  have hval : ∀ (j : Nat) t v, Tryd.f16.params[j]? = some t → args[j]? = some v → Value.okWide Tryd.prog W .any base t v := hval0
  have hW' := hW
  obtain ⟨p, q, hA0, hV, rfl, hfz, hnd⟩ := hW
  have hA : DataW.TrodAll enc Tryd.prog W 0 (fun _ => true) true Tryd.f16.params.toList args.toList ds p := hA0
  rw [Tryd.params16] at hA hval
  obtain ⟨v0, v1, d0, d1, p0, p1, rfl, rfl, rfl, h0, h1⟩ := trodAll_two hA
  obtain ⟨rfl, rfl⟩ := trodVars_none hV
  obtain ⟨x, hx, rfl, rfl, again⟩ := open_insR (hval 0 23 v0 rfl rfl) h0
  obtain ⟨b, rfl, rfl, rfl⟩ := open_bool Tryd.underlying4 (hval 1 4 v1 rfl rfl) h1
  clear hA0 hval0
  simp only [List.append_nil] at hW'
  refine (walk hx b (laid_of hL)).mono fun e W' ⟨he, hg⟩ => ?_
  subst he
  exact ⟨_, rfl, post_of_same (pa := []) (pv := []) hW' (fun _ _ _ => trodAll_cons_mk (shut_bool Tryd.underlying4 _) trodAll_mk0)
    (fun _ _ => trodAll_mk2 (again _ _ _ _) (shut_bool Tryd.underlying4 _)) (fun _ _ => rfl) rfl
    (hg.frame _) hg.2.1 (ok_one (by kernel_rfl) rfl (okWide_bool_mk Tryd.underlying4 _))⟩

theorem joined : joinedFacts Tryd.prog 16 Tryd.f16 Rows.wideNumbersSpec Rows.wideNumbersRow = true := by
  unfold joinedFacts
  rw [pEnter, pLifts, pMake]
  kernel_rfl

theorem row : Rows.WideNumbersSaid :=
  OpenClaim.holds_of_wide 16 Tryd.f16 rfl rfl rfl rfl rfl rfl rfl ⟨rfl, rfl, rfl, rfl, rfl⟩ rfl rfl rfl rfl rfl (by kernel_rfl) Tryd.func16 joined
    (of_decide_eq_true (by kernel_rfl)) (by unfold Func.isWrapper; first | (rw [if_pos (by decide +kernel)]; kernel_rfl) | (rw [if_neg (by decide +kernel)]; exact ⟨rfl, rfl⟩))
    (fun os started H enc _ => lifted os started H enc)

theorem goes0 : false = Rows.wideNumbersRow.goesBy Tryd.prog := by kernel_rfl

theorem named0 : Tryd.prog.funcNamed "cartouche/cartouchelaw08.WideNumbers" = some 16 := by kernel_rfl

theorem wf0 : Rows.wideNumbersRow.wfByText (OpenSpec.ofChange Rows.wideNumbersSpec) = true := by kernel_rfl

theorem proved : Rows.WideNumbersCardSaid :=
  Claim7.holds_tied_plain_at .later [] [.data] true (true, "da8a6907bc181bcdfc693d96b7f41634546629ab9b0d19580363a62b8d88c62b") false
    row (fun _ h => by cases h) wf0 (fun _ h => by cases h) wideNumbers_row_tie rfl ⟨rfl, rfl⟩ pMain rfl
    (fun f fn hf hfn => by
      obtain rfl : f = 16 := Option.some.inj (named0.symm.trans hf) |>.symm
      obtain rfl : fn = Tryd.f16 := (Option.some.inj (Tryd.func16.symm.trans hfn)).symm
      exact ⟨pLooks, fun j t ht => by
        rw [Tryd.params16] at ht
        have h3 : t = 23 ∨ t = 4 := by
          rcases j with _ | _ | j
          · exact Or.inl (by simpa using ht.symm)
          · exact Or.inr (by simpa using ht.symm)
          · simp at ht
        rcases h3 with rfl | rfl
        · exact (show Tryd.prog.wantsStandIn 23 = false by kernel_rfl)
        · exact (show Tryd.prog.wantsStandIn 4 = false by kernel_rfl)⟩)
    goes0

end Go.Proofs.YtaiecnepchndkaaDoor.wideNumbers
