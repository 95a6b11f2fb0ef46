/- NarrowFlags: for every input the law returns true, and the arguments read as before. The package's variable offs.kinds starts as the program's text lays it (the card's tie). -/
import Derived.Test.YtaiecnepchndkaaDoorNarrowFlagsP0
import Derived.Test.YtaiecnepchndkaaDoorNarrowFlagsP1
import Derived.Test.YtaiecnepchndkaaDoorNarrowFlagsP2
import Derived.Test.YtaiecnepchndkaaDoorNarrowFlagsP3
import Derived.Test.YtaiecnepchndkaaDoorNarrowFlagsQ
import Derived.Test.YtaiecnepchndkaaDoorEnter
namespace Go.Proofs.YtaiecnepchndkaaDoor.narrowFlags
open Go.ChangeShapes Go.WideShapes Go.ChangeAt Go.RowKit Go.Sx

theorem go_all (k : Nat) (h : 1 ≤ k) (h' : k ≤ 45) : nar.at1 11 (.num (Int.ofNat k)) kn0 = true := by
  match k, h, h' with
  | 1, _, _ => exact go1
  | 2, _, _ => exact go2
  | 3, _, _ => exact go3
  | 4, _, _ => exact go4
  | 5, _, _ => exact go5
  | 6, _, _ => exact go6
  | 7, _, _ => exact go7
  | 8, _, _ => exact go8
  | 9, _, _ => exact go9
  | 10, _, _ => exact go10
  | 11, _, _ => exact go11
  | 12, _, _ => exact go12
  | 13, _, _ => exact go13
  | 14, _, _ => exact go14
  | 15, _, _ => exact go15
  | 16, _, _ => exact go16
  | 17, _, _ => exact go17
  | 18, _, _ => exact go18
  | 19, _, _ => exact go19
  | 20, _, _ => exact go20
  | 21, _, _ => exact go21
  | 22, _, _ => exact go22
  | 23, _, _ => exact go23
  | 24, _, _ => exact go24
  | 25, _, _ => exact go25
  | 26, _, _ => exact go26
  | 27, _, _ => exact go27
  | 28, _, _ => exact go28
  | 29, _, _ => exact go29
  | 30, _, _ => exact go30
  | 31, _, _ => exact go31
  | 32, _, _ => exact go32
  | 33, _, _ => exact go33
  | 34, _, _ => exact go34
  | 35, _, _ => exact go35
  | 36, _, _ => exact go36
  | 37, _, _ => exact go37
  | 38, _, _ => exact go38
  | 39, _, _ => exact go39
  | 40, _, _ => exact go40
  | 41, _, _ => exact go41
  | 42, _, _ => exact go42
  | 43, _, _ => exact go43
  | 44, _, _ => exact go44
  | 45, _, _ => exact go45
  | n + 46, _, h' => omega

theorem walk {x : Fields} (hx : x.Ok) {w : World} (hw : Laid w) : Calls Tryd.prog 11 #[x.val] w fun e w' => e = .returned (.bool true) ∧ Grown w w' := by
  refine nar_oneP lo hi go_all hx ?_ ?_ hw
  · intro h t ht
    have e0 : ((envOf F (x.scs2 false)).v 0).asInt = x.x0 := rfl
    simp only [List.mem_cons, List.not_mem_nil, or_false] at ht
    rcases ht with rfl | rfl <;> (simp only [no, ge, Tm.den, Op1.ev, Op2.ev, Sc.asBool_bool, Sc.asInt_int, e0]; simp; omega)
  · intro h t ht
    have e0 : ((envOf F (x.scs2 false)).v 0).asInt = x.x0 := rfl
    simp only [List.mem_cons, List.not_mem_nil, or_false] at ht
    rcases ht with rfl | rfl <;> (simp only [no, le, Tm.den, Op1.ev, Op2.ev, Sc.asBool_bool, Sc.asInt_int, e0]; simp; omega)

theorem wit (os : Os) : ((laidWorld os).forCall (fun _ _ => 0) ⟨#[], #[zeroIns], []⟩).memory.heap[0]? = some (.cells cells12 126 (0, 0)) := by kernel_rfl

set_option maxRecDepth 100000 in
theorem lifted (os : Os) (started : os.Started) (H : Type) (enc : TypeId × Value → H) :
    ReturnsInHanded {} Tryd.checked os 11 .any (fun w args => (Rows.narrowFlagsSpec.pre enc Tryd.prog Tryd.f11 Rows.narrowFlagsRow.domain false w args ∧ laidMet Tryd.prog [("cartouche/offs.kinds", Rows.laid_cartouche_offs_kinds)] w) ∧ sizedMet enc Tryd.prog Tryd.f11 (OpenSpec.ofChange Rows.narrowFlagsSpec) false w args)
      (Rows.narrowFlagsSpec.post enc Tryd.prog Tryd.f11 false true false false) := by
  refine returnsInHanded_of_change_and (C := Tryd.checked) (X := fun w _ => laidMet Tryd.prog [("cartouche/offs.kinds", Rows.laid_cartouche_offs_kinds)] w) (fun _ _ _ hh h => h.of_heap hh) own started (by kernel_rfl) Tryd.func11
    (ChangeSpec.witness_at (enc := enc) (C := Tryd.checked) (os := os) (X := fun w _ => laidMet Tryd.prog [("cartouche/offs.kinds", Rows.laid_cartouche_offs_kinds)] w) false (laidWorld os) #[zeroIns] 8 rfl (by kernel_rfl) (by kernel_rfl) (by kernel_rfl) (by kernel_rfl) (by kernel_rfl) (laid_met _ (wit os))) ?_
  intro W base args ds gs before hval0 hW _ _ hL _
  have hval : ∀ (j : Nat) t v, Tryd.f11.params[j]? = some t → args[j]? = some v → Value.okWide Tryd.prog W .any base t v := hval0
  have hW' := hW
  obtain ⟨p, q, hA0, hV, rfl, hfz, hnd⟩ := hW
  have hA : DataW.TrodAll enc Tryd.prog W 0 (fun _ => true) true Tryd.f11.params.toList args.toList ds p := hA0
  rw [Tryd.params11] at hA hval
  obtain ⟨v0, d0, rfl, rfl, h0⟩ := trodAll_one hA
  obtain ⟨rfl, rfl⟩ := trodVars_none hV
  obtain ⟨x, hx, rfl, rfl, again⟩ := open_insR (hval 0 23 v0 rfl rfl) h0
  clear hA0 hval0
  simp only [List.append_nil] at hW'
  refine (walk hx (laid_of hL)).mono fun e W' ⟨he, hg⟩ => ?_
  subst he
  exact ⟨_, rfl, post_of_same (pa := []) (pv := []) hW' (fun _ _ _ => trodAll_cons_mk (shut_bool Tryd.underlying4 _) trodAll_mk0)
    (fun _ _ => trodAll_mk1 (again _ _ _ _)) (fun _ _ => rfl) rfl
    (hg.frame _) hg.2.1 (ok_one (by kernel_rfl) rfl (okWide_bool_mk Tryd.underlying4 _))⟩

theorem joined : joinedFacts Tryd.prog 11 Tryd.f11 Rows.narrowFlagsSpec Rows.narrowFlagsRow = true := by
  unfold joinedFacts
  rw [pEnter, pLifts, pMake]
  kernel_rfl

theorem row : Rows.NarrowFlagsSaid :=
  OpenClaim.holds_of_wide 11 Tryd.f11 rfl rfl rfl rfl rfl rfl rfl ⟨rfl, rfl, rfl, rfl, rfl⟩ rfl rfl rfl rfl rfl (by kernel_rfl) Tryd.func11 joined
    (of_decide_eq_true (by kernel_rfl)) (by unfold Func.isWrapper; first | (rw [if_pos (by decide +kernel)]; kernel_rfl) | (rw [if_neg (by decide +kernel)]; exact ⟨rfl, rfl⟩))
    (fun os started H enc _ => lifted os started H enc)

theorem goes0 : false = Rows.narrowFlagsRow.goesBy Tryd.prog := by kernel_rfl

theorem named0 : Tryd.prog.funcNamed "cartouche/cartouchelaw07.NarrowFlags" = some 11 := by kernel_rfl

theorem wf0 : Rows.narrowFlagsRow.wfByText (OpenSpec.ofChange Rows.narrowFlagsSpec) = true := by kernel_rfl

theorem proved : Rows.NarrowFlagsCardSaid :=
  Claim7.holds_tied_plain_at .later [] [.data] true (true, "da8a6907bc181bcdfc693d96b7f41634546629ab9b0d19580363a62b8d88c62b") false
    row (fun _ h => by cases h) wf0 (fun _ h => by cases h) narrowFlags_row_tie rfl ⟨rfl, rfl⟩ pMain rfl
    (fun f fn hf hfn => by
      obtain rfl : f = 11 := Option.some.inj (named0.symm.trans hf) |>.symm
      obtain rfl : fn = Tryd.f11 := (Option.some.inj (Tryd.func11.symm.trans hfn)).symm
      exact ⟨pLooks, fun j t ht => by
        rw [Tryd.params11] at ht
        have h3 : t = 23 ∨ t = 4 := by
          rcases j with _ | j
          · exact Or.inl (by simpa using ht.symm)
          · simp at ht
        rcases h3 with rfl | rfl
        · exact (show Tryd.prog.wantsStandIn 23 = false by kernel_rfl)
        · exact (show Tryd.prog.wantsStandIn 4 = false by kernel_rfl)⟩)
    goes0

end Go.Proofs.YtaiecnepchndkaaDoor.narrowFlags
