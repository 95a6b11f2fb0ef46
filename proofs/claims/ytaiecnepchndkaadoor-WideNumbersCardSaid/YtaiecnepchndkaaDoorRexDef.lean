/- For the seat: cartoucheref02's Valid, Expand, Find answer as the program's. -/
import Derived.Test.YtaiecnepchndkaaDoorRexP0
import Derived.Test.YtaiecnepchndkaaDoorRexP1
import Derived.Test.YtaiecnepchndkaaDoorRexP2
import Derived.Test.YtaiecnepchndkaaDoorRexP3
import Derived.Test.YtaiecnepchndkaaDoorRexP4
import Derived.Test.YtaiecnepchndkaaDoorRexP5
import Derived.Test.YtaiecnepchndkaaDoorRexP6
import Derived.Test.YtaiecnepchndkaaDoorRexP7
namespace Go.Proofs.YtaiecnepchndkaaDoor
open Go.Sx Go.ChangeShapes Go.WideShapes Go.RowKit Go.Joins Go.Deep

theorem rex_kn {k : Int} (h0 : 0 ≤ k) (h1 : k ≤ 4095) : Sats (envOf F [.int k]) rex.kn := by
  have S : Sats (envOf F [.int k]) ex.kn := by
    refine Sats.start (one_vars (s := .int k) (by show -2 ^ 63 ≤ k ∧ k < 2 ^ 63; omega)) _ ?_
    intro i hi
    simp only [List.mem_cons, List.not_mem_nil, or_false] at hi
    subst hi
    exact ⟨_, rfl⟩
  have hb : bitI k 63 = false := by
    rw [bitI_high _ 63 63 (by omega) (by omega) (by omega)]
    exact decide_eq_false (by omega)
  exact ((S.tell (.le 0 4095) (decide_eq_true (show k ≤ 4095 from h1))).tell (.le 0 (-1)) (decide_eq_false (show ¬ k ≤ -1 by omega))).tell (.lit 0 63) hb

theorem rex_all (k : Nat) (h : k < 4096) : rex.expAt k = true := by
  by_cases h0 : k < 128
  · exact List.all_eq_true.1 rex.e0 k (List.mem_range'_1.2 ⟨by omega, by omega⟩)
  by_cases h1 : k < 256
  · exact List.all_eq_true.1 rex.e1 k (List.mem_range'_1.2 ⟨by omega, by omega⟩)
  by_cases h2 : k < 384
  · exact List.all_eq_true.1 rex.e2 k (List.mem_range'_1.2 ⟨by omega, by omega⟩)
  by_cases h3 : k < 512
  · exact List.all_eq_true.1 rex.e3 k (List.mem_range'_1.2 ⟨by omega, by omega⟩)
  by_cases h4 : k < 640
  · exact List.all_eq_true.1 rex.e4 k (List.mem_range'_1.2 ⟨by omega, by omega⟩)
  by_cases h5 : k < 768
  · exact List.all_eq_true.1 rex.e5 k (List.mem_range'_1.2 ⟨by omega, by omega⟩)
  by_cases h6 : k < 896
  · exact List.all_eq_true.1 rex.e6 k (List.mem_range'_1.2 ⟨by omega, by omega⟩)
  by_cases h7 : k < 1024
  · exact List.all_eq_true.1 rex.e7 k (List.mem_range'_1.2 ⟨by omega, by omega⟩)
  by_cases h8 : k < 1152
  · exact List.all_eq_true.1 rex.e8 k (List.mem_range'_1.2 ⟨by omega, by omega⟩)
  by_cases h9 : k < 1280
  · exact List.all_eq_true.1 rex.e9 k (List.mem_range'_1.2 ⟨by omega, by omega⟩)
  by_cases h10 : k < 1408
  · exact List.all_eq_true.1 rex.e10 k (List.mem_range'_1.2 ⟨by omega, by omega⟩)
  by_cases h11 : k < 1536
  · exact List.all_eq_true.1 rex.e11 k (List.mem_range'_1.2 ⟨by omega, by omega⟩)
  by_cases h12 : k < 1664
  · exact List.all_eq_true.1 rex.e12 k (List.mem_range'_1.2 ⟨by omega, by omega⟩)
  by_cases h13 : k < 1792
  · exact List.all_eq_true.1 rex.e13 k (List.mem_range'_1.2 ⟨by omega, by omega⟩)
  by_cases h14 : k < 1920
  · exact List.all_eq_true.1 rex.e14 k (List.mem_range'_1.2 ⟨by omega, by omega⟩)
  by_cases h15 : k < 2048
  · exact List.all_eq_true.1 rex.e15 k (List.mem_range'_1.2 ⟨by omega, by omega⟩)
  by_cases h16 : k < 2176
  · exact List.all_eq_true.1 rex.e16 k (List.mem_range'_1.2 ⟨by omega, by omega⟩)
  by_cases h17 : k < 2304
  · exact List.all_eq_true.1 rex.e17 k (List.mem_range'_1.2 ⟨by omega, by omega⟩)
  by_cases h18 : k < 2432
  · exact List.all_eq_true.1 rex.e18 k (List.mem_range'_1.2 ⟨by omega, by omega⟩)
  by_cases h19 : k < 2560
  · exact List.all_eq_true.1 rex.e19 k (List.mem_range'_1.2 ⟨by omega, by omega⟩)
  by_cases h20 : k < 2688
  · exact List.all_eq_true.1 rex.e20 k (List.mem_range'_1.2 ⟨by omega, by omega⟩)
  by_cases h21 : k < 2816
  · exact List.all_eq_true.1 rex.e21 k (List.mem_range'_1.2 ⟨by omega, by omega⟩)
  by_cases h22 : k < 2944
  · exact List.all_eq_true.1 rex.e22 k (List.mem_range'_1.2 ⟨by omega, by omega⟩)
  by_cases h23 : k < 3072
  · exact List.all_eq_true.1 rex.e23 k (List.mem_range'_1.2 ⟨by omega, by omega⟩)
  by_cases h24 : k < 3200
  · exact List.all_eq_true.1 rex.e24 k (List.mem_range'_1.2 ⟨by omega, by omega⟩)
  by_cases h25 : k < 3328
  · exact List.all_eq_true.1 rex.e25 k (List.mem_range'_1.2 ⟨by omega, by omega⟩)
  by_cases g3328 : k < 3360
  · exact List.all_eq_true.1 rex.x3328 k (List.mem_range'_1.2 ⟨by omega, by omega⟩)
  by_cases g3360 : k < 3392
  · exact List.all_eq_true.1 rex.x3360 k (List.mem_range'_1.2 ⟨by omega, by omega⟩)
  by_cases g3392 : k < 3424
  · exact List.all_eq_true.1 rex.x3392 k (List.mem_range'_1.2 ⟨by omega, by omega⟩)
  by_cases g3424 : k < 3456
  · exact List.all_eq_true.1 rex.x3424 k (List.mem_range'_1.2 ⟨by omega, by omega⟩)
  by_cases g3456 : k < 3488
  · exact List.all_eq_true.1 rex.x3456 k (List.mem_range'_1.2 ⟨by omega, by omega⟩)
  by_cases g3488 : k < 3520
  · exact List.all_eq_true.1 rex.x3488 k (List.mem_range'_1.2 ⟨by omega, by omega⟩)
  by_cases g3520 : k < 3552
  · exact List.all_eq_true.1 rex.x3520 k (List.mem_range'_1.2 ⟨by omega, by omega⟩)
  by_cases g3552 : k < 3584
  · exact List.all_eq_true.1 rex.x3552 k (List.mem_range'_1.2 ⟨by omega, by omega⟩)
  by_cases g3584 : k < 3616
  · exact List.all_eq_true.1 rex.x3584 k (List.mem_range'_1.2 ⟨by omega, by omega⟩)
  by_cases g3616 : k < 3648
  · exact List.all_eq_true.1 rex.x3616 k (List.mem_range'_1.2 ⟨by omega, by omega⟩)
  by_cases g3648 : k < 3680
  · exact List.all_eq_true.1 rex.x3648 k (List.mem_range'_1.2 ⟨by omega, by omega⟩)
  by_cases g3680 : k < 3712
  · exact List.all_eq_true.1 rex.x3680 k (List.mem_range'_1.2 ⟨by omega, by omega⟩)
  by_cases g3712 : k < 3744
  · exact List.all_eq_true.1 rex.x3712 k (List.mem_range'_1.2 ⟨by omega, by omega⟩)
  by_cases g3744 : k < 3776
  · exact List.all_eq_true.1 rex.x3744 k (List.mem_range'_1.2 ⟨by omega, by omega⟩)
  by_cases g3776 : k < 3808
  · exact List.all_eq_true.1 rex.x3776 k (List.mem_range'_1.2 ⟨by omega, by omega⟩)
  by_cases g3808 : k < 3840
  · exact List.all_eq_true.1 rex.x3808 k (List.mem_range'_1.2 ⟨by omega, by omega⟩)
  by_cases g3840 : k < 3872
  · exact List.all_eq_true.1 rex.x3840 k (List.mem_range'_1.2 ⟨by omega, by omega⟩)
  by_cases g3872 : k < 3904
  · exact List.all_eq_true.1 rex.x3872 k (List.mem_range'_1.2 ⟨by omega, by omega⟩)
  by_cases g3904 : k < 3936
  · exact List.all_eq_true.1 rex.x3904 k (List.mem_range'_1.2 ⟨by omega, by omega⟩)
  by_cases g3936 : k < 3968
  · exact List.all_eq_true.1 rex.x3936 k (List.mem_range'_1.2 ⟨by omega, by omega⟩)
  by_cases g3968 : k < 4000
  · exact List.all_eq_true.1 rex.x3968 k (List.mem_range'_1.2 ⟨by omega, by omega⟩)
  by_cases g4000 : k < 4032
  · exact List.all_eq_true.1 rex.x4000 k (List.mem_range'_1.2 ⟨by omega, by omega⟩)
  by_cases g4032 : k < 4064
  · exact List.all_eq_true.1 rex.x4032 k (List.mem_range'_1.2 ⟨by omega, by omega⟩)
  by_cases g4064 : k < 4096
  · exact List.all_eq_true.1 rex.x4064 k (List.mem_range'_1.2 ⟨by omega, by omega⟩)
  omega

theorem rexp_inv (k : Int) (h0 : 0 ≤ k) (h1 : k ≤ 4095) {K : Nat → Prop} {w0 : World} {ι : Nm} {w : World} (hI : Inv K w0 ι w) : Calls Tryd.prog 64 #[.int .i64 k] w fun e w' => e = .returned (.int .u32 (expI k)) ∧ Inv K w0 ι w' := by
  have S := rex_kn h0 h1
  have so := sg_ok' (ρ := envOf F [.int k]) F_signs
  obtain ⟨n, hn⟩ := Int.eq_ofNat_of_zero_le h0
  have hcond : ((rex.litC n).cond.den (envOf F [.int k])).asBool = true := by
    show ((k == Int.ofNat n) && true) = true
    rw [hn]; simp
  have hgo := rex_all n (by omega)
  rw [rex.expAt] at hgo
  obtain ⟨x, hcall, hv⟩ := eqTree_ok (ρ := envOf F [.int k]) cxok (noS_ok _ _) (noS_body _) (by intro v hv; simp [rex.pat] at hv; subst hv; rfl) hcond so S hgo
  have := hcall K w0 ι w (inv_env hI _) (by intro v hv; simp [rex.pat] at hv; subst hv; rfl)
  refine this.mono ?_
  rintro e w' ⟨ι', _, _, H, _, _, rfl⟩
  rw [hv ι' ι']
  exact ⟨rfl, inv_of H⟩

theorem rval_inv (k : Int) (h0 : 0 ≤ k) (h1 : k ≤ 4095) {K : Nat → Prop} {w0 : World} {ι : Nm} {w : World} (hI : Inv K w0 ι w) : Calls Tryd.prog 63 #[.int .i64 k] w fun e w' => e = .returned (.bool (valB k)) ∧ Inv K w0 ι w' := by
  have S := rex_kn h0 h1
  have so := sg_ok' (ρ := envOf F [.int k]) F_signs
  obtain ⟨x, hcall, hv⟩ := eqTree_ok (ρ := envOf F [.int k]) (c := rex.all') cxok (noS_ok _ _) (noS_body _) (by intro v hv; simp [rex.pat] at hv; subst hv; rfl) rfl so S rex.vals
  have := hcall K w0 ι w (inv_env hI _) (by intro v hv; simp [rex.pat] at hv; subst hv; rfl)
  refine this.mono ?_
  rintro e w' ⟨ι', _, _, H, _, _, rfl⟩
  rw [hv ι' ι']
  exact ⟨rfl, inv_of H⟩

theorem nat_0 (k : Nat) : (0 : Int) ≤ (k : Int) := by omega
theorem nat_4095 {k : Nat} (h : k < 4096) : (k : Int) ≤ 4095 := by omega

set_option maxHeartbeats 400000 in
set_option maxRecDepth 100000 in
theorem rfind_inv (x : Int) {K : Nat → Prop} {w0 : World} {ι : Nm} {w : World} (hI : Inv K w0 ι w) : Calls Tryd.prog 35 #[.int .u32 x] w (Fans x K w0 ι) := by
  go_enter Tryd.func35, Tryd.ntmps35
  go_wp2
  go_loopw [4] (fun i wr => Fnd x K w0 ι i wr) (fun i _ => 4096 - (intOf i).toNat)
  case atStart => exact ⟨0, by omega, rfl, (by intro j hj; omega), hI⟩
  case round =>
    obtain ⟨k, hk, rfl, hno, hr⟩ := hrel
    have HN := Lib.hid hno
    clear hno
    by_cases hlt : k < 4096
    · cases hv : valB k
      · have hh : hit x k = false := by unfold hit; rw [hv]; rfl
        have HH := Lib.hid hh
        clear hh
        go_wp2_with ((go_at_call 63; refine (rval_inv _ (nat_0 k) (nat_4095 hlt) hr).mono ?_; rintro e w' ⟨rfl, hr'⟩))
        go_roundw
        case rel => exact ⟨k + 1, by omega, by go_num, no_more HH.out HN.out, hr'⟩
        case measure => simp [intOf]; omega
      · cases he : (expI k == x)
        · have hh : hit x k = false := by unfold hit; rw [hv, he]; rfl
          have HH := Lib.hid hh
          clear hh
          go_wp2_with (first | ((go_at_call 63; refine (rval_inv _ (nat_0 k) (nat_4095 hlt) hr).mono ?_; rintro e w' ⟨rfl, hr'⟩)) | ((go_at_call 64; refine (rexp_inv _ (nat_0 k) (nat_4095 hlt) hr').mono ?_; rintro e w2 ⟨rfl, hr2⟩)))
          go_roundw
          case rel => exact ⟨k + 1, by omega, by go_num, no_more HH.out HN.out, hr2⟩
          case measure => simp [intOf]; omega
        · have hh : hit x k = true := by unfold hit; rw [hv, he]; rfl
          have HH := Lib.hid hh
          clear hh
          go_wp2_with (first | ((go_at_call 63; refine (rval_inv _ (nat_0 k) (nat_4095 hlt) hr).mono ?_; rintro e w' ⟨rfl, hr'⟩)) | ((go_at_call 64; refine (rexp_inv _ (nat_0 k) (nat_4095 hlt) hr').mono ?_; rintro e w2 ⟨rfl, hr2⟩)))
          go_ret2
          exact fans_hit hlt HH.out HN.out hr2
    · obtain rfl : k = 4096 := by omega
      go_wp2
      go_ret2
      exact fans_none HN.out hr

theorem rfind_call {ρ : Env} (V : VarsOk ρ) (h0 : ρ.f 910 = F2 910) (h1 : ρ.f 911 = F2 911) : ∀ args h pc x, (pc.den ρ).asBool = true → (specR wid.patU wid.findR args h pc).get ρ = some x → CallOk ρ cx.globs cx.P 35 args h x := by
  refine specR_ok V globsC rfl (by intro u hu; simp [wid.patU, SVal.toList] at hu; subst hu; rfl) (fun _ => rfl) ?_
  intro L hL hp
  match L, hL with
  | [s], _ =>
    refine ⟨envOf F [.int s.asInt], ⟨.tup (.cons (.int .i64 (.num (findI s.asInt))) (.cons (.bool (.bit (findB s.asInt))) .nil)), [], .bit true⟩, ?_, fun ι => rfl, ?_⟩
    · intro K w0 ι w H _
      refine (rfind_inv s.asInt (inv_of (ι' := ι) H)).mono ?_
      rintro e w' ⟨rfl, hI⟩
      exact ⟨ι, Nm.Ext.refl _ _, Nat.le_refl _, inv_env hI _, rfl, rfl, rfl⟩
    · intro t ι ι' ht
      simp only [SVal.conc, SVal.concL, wid.findR, Tm.den, ht, h0, h1]
      rfl

/-- What the walk knows: all that, and cartoucheref02.Find. -/
def wdnS (aw : Nat) : Specs := fun f => match Nat.beq f 35 with
  | true => some (specR wid.patU wid.findR)
  | false => widS aw f

theorem wdnS_ok {aw : Nat} (h0 : isTrue (callT cx noS (run cx noS 3000) aw [] [] (.bit true)) = true) {ρ : Env} (V : VarsOk ρ) (hf : ρ.f = F2) : (wdnS aw).Ok ρ cx := by
  intro f sp h
  unfold wdnS at h
  split at h
  · rename_i hg
    have := Nat.eq_of_beq_eq_true hg; subst this
    simp only [Option.some.injEq] at h; subst h; exact rfind_call V (by rw [hf]) (by rw [hf])
  · exact widS_ok h0 V hf f sp h

theorem wdnS_body {aw : Nat} (hb : ∃ fn c, cx.P.funcs[aw]? = some fn ∧ fn.body = some c) : ∀ f, wdnS aw f ≠ none → ∃ fn c, cx.P.funcs[f]? = some fn ∧ fn.body = some c := by
  intro f h
  unfold wdnS at h
  split at h
  · rename_i hg
    have := Nat.eq_of_beq_eq_true hg; subst this; exact ⟨Tryd.f35, _, Tryd.func35, rfl⟩
  · exact widS_body hb f h

namespace wdn
noncomputable def at2 (f k j : Nat) : Bool := (wid.withOp k (wid.nth k j)).holds wid.sgL cx (wdnS 34) 3000 f wid.pat2 (wid.ek k)
noncomputable def atq (f : Nat) (e : Kn) : Bool := pxTree wid.sgL (callT cx (wdnS 34) (run cx (wdnS 34) 3000) f wid.pat2 [] wid.refused) e
end wdn

theorem wdn_two {f : Nat} (hlo : wdn.atq f wid.knLow = true) (hhi : wdn.atq f wid.knHigh = true) (hgo : ∀ k : Nat, 1 ≤ k → k ≤ 45 → ∀ j : Nat, j < (wid.cases k).length → wdn.at2 f k j = true)
    {x : Fields} (hx : x.Ok) (it : Bool) {w : World} (hw : Laid w) : Calls Tryd.prog f #[x.val, .bool it] w fun e w' => e = .returned (.bool true) ∧ Grown w w' := by
  have hsc : ∀ v ∈ wid.pat2, v.sc 0 = true := by intro v hv; simp [wid.pat2] at hv; rcases hv with rfl | rfl <;> rfl
  have K := knW_ok hx it
  have so := sgL_ok (x := x) it
  have goq : ∀ e, Sats (envOf F2 (x.scsW it)) e → (wid.refused.den (envOf F2 (x.scsW it))).asBool = true → wdn.atq f e = true → Calls Tryd.prog f #[x.val, .bool it] w fun e w' => e = .returned (.bool true) ∧ Grown w w' := by
    intro e hs hpc h
    exact law_px (ρ := envOf F2 (x.scsW it)) cxok (wdnS_ok awake08 (scsW_ok hx it) rfl) (wdnS_body body34) hsc hpc so hs h w (start _ hw)
  by_cases h1 : x.x0 < 1
  · have S := K.tell (.le 0 0) (decide_eq_true (show x.x0 ≤ 0 by omega))
    exact goq _ S (pxT_ok so S wid.ref_low).1 hlo
  by_cases h2 : 45 < x.x0
  · have S := K.tell (.le 0 45) (decide_eq_false (show ¬ x.x0 ≤ 45 by omega))
    exact goq _ S (pxT_ok so S wid.ref_high).1 hhi
  obtain ⟨k, hk⟩ := Int.eq_ofNat_of_zero_le (show 0 ≤ x.x0 by omega)
  have S := K.tell (.pt 0 (Int.ofNat k)) (b := true) (decide_eq_true (show x.x0 = Int.ofNat k by rw [hk]; rfl))
  obtain ⟨c, hc, hcond⟩ := cas_cov so S (wid.cov_get 45 wid.cov45 k (by omega) (by omega))
  obtain ⟨j, hj, hjc⟩ := List.getElem_of_mem hc
  have hnth : wid.nth k j = c := by simp only [wid.nth, List.getD, List.getElem?_eq_getElem hj, Option.getD_some, hjc]
  have hgo' := hgo k (by omega) (by omega) j hj
  rw [wdn.at2, hnth] at hgo'
  exact holds_px (ρ := envOf F2 (x.scsW it)) (c := wid.withOp k c) cxok (wdnS_ok awake08 (scsW_ok hx it) rfl) (wdnS_body body34) hsc hcond so S hgo' w (start _ hw)

end Go.Proofs.YtaiecnepchndkaaDoor
