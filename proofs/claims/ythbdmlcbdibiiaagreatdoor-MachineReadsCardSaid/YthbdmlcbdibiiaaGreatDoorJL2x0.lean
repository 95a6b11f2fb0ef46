/- For the seat: texts joined: RexDef, MchSig, MexDef, ExeDef, ExeEnv, ExeFact, ExeCov. -/
import Derived.Test.YthbdmlcbdibiiaaGreatDoorJH1x2x0
import Derived.Test.YthbdmlcbdibiiaaGreatDoorJH1x2x1
import Derived.Test.YthbdmlcbdibiiaaGreatDoorJH1x2x1b
import Derived.Test.YthbdmlcbdibiiaaGreatDoorJH1x2x2
import Derived.Test.YthbdmlcbdibiiaaGreatDoorJH1x2x3
import Derived.Test.YthbdmlcbdibiiaaGreatDoorJL1x0
/- For the seat: cartoucheref02's Valid, Expand, Find answer as the program's. -/
namespace Go.Proofs.YthbdmlcbdibiiaaGreatDoor
open Go.Sx Go.ChangeShapes Go.WideShapes Go.RowKit Go.Joins Go.Deep
set_option maxRecDepth 100000 in
theorem rex_kn {k : Int} (h0 : 0 ≤ k) (h1 : k ≤ 4095) : Sats (envOf F [.int k]) rex.kn := by
  have S : Sats (envOf F [.int k]) ex.kn := by
    refine Sats.start (one_vars (s := .int k) (by show -2 ^ 63 ≤ k ∧ k < 2 ^ 63; omega)) _ ?_
    intro i hi
    simp only [List.mem_cons, List.not_mem_nil, or_false] at hi
    subst hi
    exact ⟨_, rfl⟩
  have hb : bitI k 63 = false := by
    rw [bitI_high _ 63 63 (by omega) (by omega) (by omega)]
    exact decide_eq_false (by omega)
  exact ((S.tell (.le 0 4095) (decide_eq_true (show k ≤ 4095 from h1))).tell (.le 0 (-1)) (decide_eq_false (show ¬ k ≤ -1 by omega))).tell (.lit 0 63) hb
set_option maxRecDepth 100000 in
theorem rex_all (k : Nat) (h : k < 4096) : rex.expAt k = true := by
  by_cases h0 : k < 128
  · exact List.all_eq_true.1 rex.e0 k (List.mem_range'_1.2 ⟨by omega, by omega⟩)
  by_cases h1 : k < 256
  · exact List.all_eq_true.1 rex.e1 k (List.mem_range'_1.2 ⟨by omega, by omega⟩)
  by_cases h2 : k < 384
  · exact List.all_eq_true.1 rex.e2 k (List.mem_range'_1.2 ⟨by omega, by omega⟩)
  by_cases h3 : k < 512
  · exact List.all_eq_true.1 rex.e3 k (List.mem_range'_1.2 ⟨by omega, by omega⟩)
  by_cases h4 : k < 640
  · exact List.all_eq_true.1 rex.e4 k (List.mem_range'_1.2 ⟨by omega, by omega⟩)
  by_cases h5 : k < 768
  · exact List.all_eq_true.1 rex.e5 k (List.mem_range'_1.2 ⟨by omega, by omega⟩)
  by_cases h6 : k < 896
  · exact List.all_eq_true.1 rex.e6 k (List.mem_range'_1.2 ⟨by omega, by omega⟩)
  by_cases h7 : k < 1024
  · exact List.all_eq_true.1 rex.e7 k (List.mem_range'_1.2 ⟨by omega, by omega⟩)
  by_cases h8 : k < 1152
  · exact List.all_eq_true.1 rex.e8 k (List.mem_range'_1.2 ⟨by omega, by omega⟩)
  by_cases h9 : k < 1280
  · exact List.all_eq_true.1 rex.e9 k (List.mem_range'_1.2 ⟨by omega, by omega⟩)
  by_cases h10 : k < 1408
  · exact List.all_eq_true.1 rex.e10 k (List.mem_range'_1.2 ⟨by omega, by omega⟩)
  by_cases h11 : k < 1536
  · exact List.all_eq_true.1 rex.e11 k (List.mem_range'_1.2 ⟨by omega, by omega⟩)
  by_cases h12 : k < 1664
  · exact List.all_eq_true.1 rex.e12 k (List.mem_range'_1.2 ⟨by omega, by omega⟩)
  by_cases h13 : k < 1792
  · exact List.all_eq_true.1 rex.e13 k (List.mem_range'_1.2 ⟨by omega, by omega⟩)
  by_cases h14 : k < 1920
  · exact List.all_eq_true.1 rex.e14 k (List.mem_range'_1.2 ⟨by omega, by omega⟩)
  by_cases h15 : k < 2048
  · exact List.all_eq_true.1 rex.e15 k (List.mem_range'_1.2 ⟨by omega, by omega⟩)
  by_cases h16 : k < 2176
  · exact List.all_eq_true.1 rex.e16 k (List.mem_range'_1.2 ⟨by omega, by omega⟩)
  by_cases h17 : k < 2304
  · exact List.all_eq_true.1 rex.e17 k (List.mem_range'_1.2 ⟨by omega, by omega⟩)
  by_cases h18 : k < 2432
  · exact List.all_eq_true.1 rex.e18 k (List.mem_range'_1.2 ⟨by omega, by omega⟩)
  by_cases h19 : k < 2560
  · exact List.all_eq_true.1 rex.e19 k (List.mem_range'_1.2 ⟨by omega, by omega⟩)
  by_cases h20 : k < 2688
  · exact List.all_eq_true.1 rex.e20 k (List.mem_range'_1.2 ⟨by omega, by omega⟩)
  by_cases h21 : k < 2816
  · exact List.all_eq_true.1 rex.e21 k (List.mem_range'_1.2 ⟨by omega, by omega⟩)
  by_cases h22 : k < 2944
  · exact List.all_eq_true.1 rex.e22 k (List.mem_range'_1.2 ⟨by omega, by omega⟩)
  by_cases h23 : k < 3072
  · exact List.all_eq_true.1 rex.e23 k (List.mem_range'_1.2 ⟨by omega, by omega⟩)
  by_cases h24 : k < 3200
  · exact List.all_eq_true.1 rex.e24 k (List.mem_range'_1.2 ⟨by omega, by omega⟩)
  by_cases h25 : k < 3328
  · exact List.all_eq_true.1 rex.e25 k (List.mem_range'_1.2 ⟨by omega, by omega⟩)
  by_cases g3328 : k < 3360
  · exact List.all_eq_true.1 rex.x3328 k (List.mem_range'_1.2 ⟨by omega, by omega⟩)
  by_cases g3360 : k < 3392
  · exact List.all_eq_true.1 rex.x3360 k (List.mem_range'_1.2 ⟨by omega, by omega⟩)
  by_cases g3392 : k < 3424
  · exact List.all_eq_true.1 rex.x3392 k (List.mem_range'_1.2 ⟨by omega, by omega⟩)
  by_cases g3424 : k < 3456
  · exact List.all_eq_true.1 rex.x3424 k (List.mem_range'_1.2 ⟨by omega, by omega⟩)
  by_cases g3456 : k < 3488
  · exact List.all_eq_true.1 rex.x3456 k (List.mem_range'_1.2 ⟨by omega, by omega⟩)
  by_cases g3488 : k < 3520
  · exact List.all_eq_true.1 rex.x3488 k (List.mem_range'_1.2 ⟨by omega, by omega⟩)
  by_cases g3520 : k < 3552
  · exact List.all_eq_true.1 rex.x3520 k (List.mem_range'_1.2 ⟨by omega, by omega⟩)
  by_cases g3552 : k < 3584
  · exact List.all_eq_true.1 rex.x3552 k (List.mem_range'_1.2 ⟨by omega, by omega⟩)
  by_cases g3584 : k < 3616
  · exact List.all_eq_true.1 rex.x3584 k (List.mem_range'_1.2 ⟨by omega, by omega⟩)
  by_cases g3616 : k < 3648
  · exact List.all_eq_true.1 rex.x3616 k (List.mem_range'_1.2 ⟨by omega, by omega⟩)
  by_cases g3648 : k < 3680
  · exact List.all_eq_true.1 rex.x3648 k (List.mem_range'_1.2 ⟨by omega, by omega⟩)
  by_cases g3680 : k < 3712
  · exact List.all_eq_true.1 rex.x3680 k (List.mem_range'_1.2 ⟨by omega, by omega⟩)
  by_cases g3712 : k < 3744
  · exact List.all_eq_true.1 rex.x3712 k (List.mem_range'_1.2 ⟨by omega, by omega⟩)
  by_cases g3744 : k < 3776
  · exact List.all_eq_true.1 rex.x3744 k (List.mem_range'_1.2 ⟨by omega, by omega⟩)
  by_cases g3776 : k < 3808
  · exact List.all_eq_true.1 rex.x3776 k (List.mem_range'_1.2 ⟨by omega, by omega⟩)
  by_cases g3808 : k < 3840
  · exact List.all_eq_true.1 rex.x3808 k (List.mem_range'_1.2 ⟨by omega, by omega⟩)
  by_cases g3840 : k < 3872
  · exact List.all_eq_true.1 rex.x3840 k (List.mem_range'_1.2 ⟨by omega, by omega⟩)
  by_cases g3872 : k < 3904
  · exact List.all_eq_true.1 rex.x3872 k (List.mem_range'_1.2 ⟨by omega, by omega⟩)
  by_cases g3904 : k < 3936
  · exact List.all_eq_true.1 rex.x3904 k (List.mem_range'_1.2 ⟨by omega, by omega⟩)
  by_cases g3936 : k < 3968
  · exact List.all_eq_true.1 rex.x3936 k (List.mem_range'_1.2 ⟨by omega, by omega⟩)
  by_cases g3968 : k < 4000
  · exact List.all_eq_true.1 rex.x3968 k (List.mem_range'_1.2 ⟨by omega, by omega⟩)
  by_cases g4000 : k < 4032
  · exact List.all_eq_true.1 rex.x4000 k (List.mem_range'_1.2 ⟨by omega, by omega⟩)
  by_cases g4032 : k < 4064
  · exact List.all_eq_true.1 rex.x4032 k (List.mem_range'_1.2 ⟨by omega, by omega⟩)
  by_cases g4064 : k < 4096
  · exact List.all_eq_true.1 rex.x4064 k (List.mem_range'_1.2 ⟨by omega, by omega⟩)
  omega
set_option maxRecDepth 100000 in
theorem rexp_inv (k : Int) (h0 : 0 ≤ k) (h1 : k ≤ 4095) {K : Nat → Prop} {w0 : World} {ι : Nm} {w : World} (hI : Inv K w0 ι w) : Calls Tryz.prog 165 #[.int .i64 k] w fun e w' => e = .returned (.int .u32 (expI k)) ∧ Inv K w0 ι w' := by
  have S := rex_kn h0 h1
  have so := sg_ok' (ρ := envOf F [.int k]) F_signs
  obtain ⟨n, hn⟩ := Int.eq_ofNat_of_zero_le h0
  have hcond : ((rex.litC n).cond.den (envOf F [.int k])).asBool = true := by
    show ((k == Int.ofNat n) && true) = true
    rw [hn]; simp
  have hgo := rex_all n (by omega)
  rw [rex.expAt] at hgo
  obtain ⟨x, hcall, hv⟩ := eqTree_ok (ρ := envOf F [.int k]) cxok (noS_ok _ _) (noS_body _) (by intro v hv; simp [rex.pat] at hv; subst hv; rfl) hcond so S hgo
  have := hcall K w0 ι w (inv_env hI _) (by intro v hv; simp [rex.pat] at hv; subst hv; rfl)
  refine this.mono ?_
  rintro e w' ⟨ι', _, _, H, _, _, rfl⟩
  rw [hv ι' ι']
  exact ⟨rfl, inv_of H⟩
set_option maxRecDepth 100000 in
theorem rval_inv (k : Int) (h0 : 0 ≤ k) (h1 : k ≤ 4095) {K : Nat → Prop} {w0 : World} {ι : Nm} {w : World} (hI : Inv K w0 ι w) : Calls Tryz.prog 164 #[.int .i64 k] w fun e w' => e = .returned (.bool (valB k)) ∧ Inv K w0 ι w' := by
  have S := rex_kn h0 h1
  have so := sg_ok' (ρ := envOf F [.int k]) F_signs
  obtain ⟨x, hcall, hv⟩ := eqTree_ok (ρ := envOf F [.int k]) (c := rex.all') cxok (noS_ok _ _) (noS_body _) (by intro v hv; simp [rex.pat] at hv; subst hv; rfl) rfl so S rex.vals
  have := hcall K w0 ι w (inv_env hI _) (by intro v hv; simp [rex.pat] at hv; subst hv; rfl)
  refine this.mono ?_
  rintro e w' ⟨ι', _, _, H, _, _, rfl⟩
  rw [hv ι' ι']
  exact ⟨rfl, inv_of H⟩
set_option maxRecDepth 100000 in
theorem nat_0 (k : Nat) : (0 : Int) ≤ (k : Int) := by omega
set_option maxRecDepth 100000 in
theorem nat_4095 {k : Nat} (h : k < 4096) : (k : Int) ≤ 4095 := by omega
set_option maxHeartbeats 400000 in
set_option maxRecDepth 100000 in
theorem rfind_inv (x : Int) {K : Nat → Prop} {w0 : World} {ι : Nm} {w : World} (hI : Inv K w0 ι w) : Calls Tryz.prog 129 #[.int .u32 x] w (Fans x K w0 ι) := by
  go_enter Tryz.func129, Tryz.ntmps129
  go_wp2
  go_loopw [4] (fun i wr => Fnd x K w0 ι i wr) (fun i _ => 4096 - (intOf i).toNat)
  case atStart => exact ⟨0, by omega, rfl, (by intro j hj; omega), hI⟩
  case round =>
    obtain ⟨k, hk, rfl, hno, hr⟩ := hrel
    have HN := Lib.hid hno
    clear hno
    by_cases hlt : k < 4096
    · cases hv : valB k
      · have hh : hit x k = false := by unfold hit; rw [hv]; rfl
        have HH := Lib.hid hh
        clear hh
        go_wp2_with ((go_at_call 164; refine (rval_inv _ (nat_0 k) (nat_4095 hlt) hr).mono ?_; rintro e w' ⟨rfl, hr'⟩))
        go_roundw
        case rel => exact ⟨k + 1, by omega, by go_num, no_more HH.out HN.out, hr'⟩
        case measure => simp [intOf]; omega
      · cases he : (expI k == x)
        · have hh : hit x k = false := by unfold hit; rw [hv, he]; rfl
          have HH := Lib.hid hh
          clear hh
          go_wp2_with (first | ((go_at_call 164; refine (rval_inv _ (nat_0 k) (nat_4095 hlt) hr).mono ?_; rintro e w' ⟨rfl, hr'⟩)) | ((go_at_call 165; refine (rexp_inv _ (nat_0 k) (nat_4095 hlt) hr').mono ?_; rintro e w2 ⟨rfl, hr2⟩)))
          go_roundw
          case rel => exact ⟨k + 1, by omega, by go_num, no_more HH.out HN.out, hr2⟩
          case measure => simp [intOf]; omega
        · have hh : hit x k = true := by unfold hit; rw [hv, he]; rfl
          have HH := Lib.hid hh
          clear hh
          go_wp2_with (first | ((go_at_call 164; refine (rval_inv _ (nat_0 k) (nat_4095 hlt) hr).mono ?_; rintro e w' ⟨rfl, hr'⟩)) | ((go_at_call 165; refine (rexp_inv _ (nat_0 k) (nat_4095 hlt) hr').mono ?_; rintro e w2 ⟨rfl, hr2⟩)))
          go_ret2
          exact fans_hit hlt HH.out HN.out hr2
    · obtain rfl : k = 4096 := by omega
      go_wp2
      go_ret2
      exact fans_none HN.out hr
set_option maxRecDepth 100000 in
theorem rfind_call {ρ : Env} (V : VarsOk ρ) (h0 : ρ.f 910 = F2 910) (h1 : ρ.f 911 = F2 911) : ∀ args h pc x, (pc.den ρ).asBool = true → (specR wid.patU wid.findR args h pc).get ρ = some x → CallOk ρ cx.globs cx.P 129 args h x := by
  refine specR_ok V globsC rfl (by intro u hu; simp [wid.patU, SVal.toList] at hu; subst hu; rfl) (fun _ => rfl) ?_
  intro L hL hp
  match L, hL with
  | [s], _ =>
    refine ⟨envOf F [.int s.asInt], ⟨.tup (.cons (.int .i64 (.num (findI s.asInt))) (.cons (.bool (.bit (findB s.asInt))) .nil)), [], .bit true⟩, rfl, ?_, fun ι => rfl, ?_⟩
    · intro K w0 ι w H _
      refine (rfind_inv s.asInt (inv_of (ι' := ι) H)).mono ?_
      rintro e w' ⟨rfl, hI⟩
      exact ⟨ι, Nm.Ext.refl _ _, Nat.le_refl _, inv_env hI _, rfl, rfl, rfl⟩
    · intro t ι ι' ht
      simp only [SVal.conc, SVal.concL, wid.findR, Tm.den, ht, h0, h1]
      rfl
def wdnS : Specs := fun f => match Nat.beq f 129 with
  | true => some (specR wid.patU wid.findR)
  | false => widS f
set_option maxRecDepth 100000 in
theorem wdnS_ok {ρ : Env} (V : VarsOk ρ) (hf : ρ.f = F2) : wdnS.Ok ρ cx := by
  intro f sp h
  unfold wdnS at h
  split at h
  · rename_i hg
    have := Nat.eq_of_beq_eq_true hg; subst this
    simp only [Option.some.injEq] at h; subst h; exact rfind_call V (by rw [hf]) (by rw [hf])
  · exact widS_ok V hf f sp h
set_option maxRecDepth 100000 in
theorem wdnS_body : ∀ f, wdnS f ≠ none → ∃ fn c, cx.P.funcs[f]? = some fn ∧ fn.body = some c := by
  intro f h
  unfold wdnS at h
  split at h
  · rename_i hg
    have := Nat.eq_of_beq_eq_true hg; subst this; exact ⟨Tryz.f129, _, Tryz.func129, rfl⟩
  · exact widS_body f h
end Go.Proofs.YthbdmlcbdibiiaaGreatDoor
/- What the signs of the machine's chapter stand for; what is known of its functions. -/
namespace Go.Proofs.YthbdmlcbdibiiaaGreatDoor
open Go.RowKit Go.Mem Go.Sx
noncomputable def mF (g : Nat) (ss : List Sc) : Sc :=
  match g with
  | 700 => newSc ss
  | 710 => .int (w32 (loadC (get ss 0).asStr (scCl (get ss 1)) (get ss 2).asInt (get ss 3).asInt.toNat))
  | 711 => .bool (inC (get ss 0).asStr (get ss 1).asInt (get ss 2).asInt.toNat)
  | 712 => clSc (storeN (scCl (get ss 0)) (get ss 1).asInt (get ss 3).asInt (get ss 2).asInt.toNat)
  | 715 => clSc (storeP (get ss 0).asStr (scCl (get ss 1)) (get ss 2).asInt (get ss 4).asInt (get ss 3).asInt.toNat)
  | 730 => .int ((regsB (get ss 0).asInt 16).length : Int)
  | 731 => .int ((regsB (get ss 0).asInt 16).getD (get ss 1).asInt.toNat 0)
  | 760 => .int (shR (get ss 0).asInt (get ss 1).asInt (get ss 2).asInt (get ss 3).asBool)
  | 761 => .bool (shC (get ss 0).asInt (get ss 1).asInt (get ss 2).asInt (get ss 3).asBool)
  | 765 => .int (quoL (get ss 0).asInt (get ss 1).asInt (get ss 2).asBool)
  | 770 => .int (addR (get ss 0).asInt (get ss 1).asInt (get ss 2).asBool)
  | 771 => .bool (addC (get ss 0).asInt (get ss 1).asInt (get ss 2).asBool)
  | 772 => .bool (addV (get ss 0).asInt (get ss 1).asInt (get ss 2).asBool)
  | 940 => .bool (holdB (get ss 0).asInt (get ss 1).asBool (get ss 2).asBool (get ss 3).asBool (get ss 4).asBool)
  | 942 => .int (nextI (get ss 0).asInt)
  | 943 => .int (aftI (get ss 0).asInt ⟨(get ss 1).asInt, (get ss 2).asInt, (get ss 3).asInt, (get ss 4).asInt, (get ss 5).asInt, (get ss 6).asInt, (get ss 7).asInt, (get ss 8).asInt, (get ss 9).asBool⟩)
  | g => F2 g ss
set_option maxRecDepth 100000 in
theorem small_has {n : Int} (h0 : 0 ≤ n) (h1 : n < 4294967296) : kHas .i64 n := by show -2 ^ 63 ≤ n ∧ n < 2 ^ 63; omega
set_option maxRecDepth 100000 in
theorem regsB_small (l : Int) (i : Nat) : 0 ≤ (regsB l 16).getD i 0 ∧ (regsB l 16).getD i 0 < 16 := by
  rw [List.getD_eq_getElem?_getD]
  cases h : (regsB l 16)[i]? with
  | none => simp
  | some x =>
    have hx := List.mem_of_getElem? h
    simp only [regsB, List.mem_map, List.mem_filter, List.mem_range] at hx
    obtain ⟨r, ⟨hr, _⟩, rfl⟩ := hx
    simp only [Option.getD_some]
    omega
set_option maxRecDepth 100000 in
theorem ite_has {ρ : Env} (c : Tm) {a b : Tm} (ha : kHas .i64 (a.den ρ).asInt) (hb : kHas .i64 (b.den ρ).asInt) : kHas .i64 ((Tm.ite c a b).den ρ).asInt := by
  simp only [Tm.den]
  cases (c.den ρ).asBool
  · exact hb
  · exact ha
set_option maxRecDepth 100000 in
theorem nextOf_has (ρ : Env) (a : Tm) : kHas .i64 ((aft.nextOf a).den ρ).asInt := ite_has _ zero_has (bitsOp_has _ _ _ _)
set_option maxRecDepth 100000 in
theorem mF_has (g : Nat) (ss : List Sc) : kHas .i64 (mF g ss).asInt := by
  unfold mF
  split
  all_goals first
    | exact zero_has
    | exact F2_has _ _
    | skip
  · exact small_has (by unfold w32; simp only [Sc.asInt_int]; omega) (by unfold w32; simp only [Sc.asInt_int]; omega)
  · have := regsB_len (get ss 0).asInt 16
    exact small_has (by simp only [Sc.asInt_int]; omega) (by simp only [Sc.asInt_int]; omega)
  · have := regsB_small (get ss 0).asInt (get ss 1).asInt.toNat
    exact small_has this.1 (by simp only [Sc.asInt_int]; omega)
  · exact small_has (shR_small _ _ _ _).1 (shR_small _ _ _ _).2
  · exact small_has (by unfold quoL; simp only [Sc.asInt_int]; omega) (by unfold quoL; simp only [Sc.asInt_int]; omega)
  · exact small_has (by unfold addR; simp only [Sc.asInt_int]; omega) (by unfold addR; simp only [Sc.asInt_int]; omega)
  · exact nextOf_has _ _
  · exact ite_has _ (bitsOp_has _ _ _ _) (nextOf_has _ _)
structure MEnv (ρ : Env) (B : Nat → Prop) : Prop where
  f : ρ.f = mF
  ab : ρ.ab = mchAbs B
  v : ∀ i, kHas .i64 (ρ.v i).asInt
  str : ∀ i, (ρ.v i).asStr.length ≤ 1000000
section
variable {ρ : Env} {B : Nat → Prop}
set_option maxRecDepth 100000 in
theorem MEnv.vars (M : MEnv ρ B) : VarsOk ρ := ⟨M.v, fun g ss => by rw [M.f]; exact mF_has g ss⟩
set_option maxRecDepth 100000 in
theorem MEnv.nil (M : MEnv ρ B) : NilOk ρ := mch_nil ρ B M.ab M.str
set_option maxRecDepth 100000 in
theorem MEnv.ms (M : MEnv ρ B) : MSigns ρ := by constructor <;> intro ss <;> rw [M.f] <;> rfl
set_option maxRecDepth 100000 in
theorem MEnv.rs (M : MEnv ρ B) : RSigns ρ := by constructor <;> intro ss <;> rw [M.f] <;> rfl
set_option maxRecDepth 100000 in
theorem MEnv.as (M : MEnv ρ B) : ASigns ρ := by constructor <;> intro ss <;> rw [M.f] <;> rfl
set_option maxRecDepth 100000 in
theorem MEnv.cs (M : MEnv ρ B) : CSigns ρ := by constructor <;> intro ss <;> rw [M.f] <;> rfl
set_option maxRecDepth 100000 in
theorem MEnv.sg (M : MEnv ρ B) : Signs ρ.f := ⟨by rw [M.f]; rfl, by rw [M.f]; rfl⟩
set_option maxRecDepth 100000 in
theorem MEnv.f910 (M : MEnv ρ B) : ρ.f 910 = F2 910 := by rw [M.f]; rfl
set_option maxRecDepth 100000 in
theorem MEnv.f911 (M : MEnv ρ B) : ρ.f 911 = F2 911 := by rw [M.f]; rfl
set_option maxRecDepth 100000 in
theorem MEnv.ss (M : MEnv ρ B) : ShSigns ρ := by constructor <;> intro ss <;> rw [M.f] <;> rfl
/-! ### The least that tells a number; a byte tells itself -/
def byteAll (n : Nat) : Bool := valB n && (expI n == (n : Int))
set_option maxRecDepth 100000 in
theorem byte256 : cnd.allN byteAll 256 = true := by kernel_rfl
set_option maxRecDepth 100000 in
theorem find_byte {x : Int} (h0 : 0 ≤ x) (h1 : x ≤ 255) : findI x = x ∧ findB x = true := by
  obtain ⟨n, rfl⟩ := Int.eq_ofNat_of_zero_le h0
  have at_ : ∀ m : Nat, m < 256 → valB m = true ∧ expI m = (m : Int) := by
    intro m hm
    have := cnd.allN_get 256 byte256 m hm
    unfold byteAll at this
    rw [Bool.and_eq_true] at this
    exact ⟨this.1, eq_of_beq this.2⟩
  have hn := at_ n (by omega)
  have hf := find_hit (x := (n : Int)) (k := n) (by omega) (by unfold hit; rw [hn.1, hn.2]; simp) (by
    intro j hj
    have := at_ j (by omega)
    unfold hit
    rw [this.1, this.2]
    simp only [Bool.true_and, beq_eq_false_iff_ne, ne_eq]
    omega)
  unfold findI findB
  rw [hf]
  exact ⟨rfl, rfl⟩
def findS : Go.Sx.Spec := fun args h pc => match args with
  | [.int .u32 t] => match t.inK .u32 with
    | true => Go.Sx.ways pc (mk2 .le t (.num 255)) (fun pc => .leaf ⟨.tup (.cons (.int .i64 (mk1 (.conv .i64) (.op2 (.and .u32) t (.num 255)))) (.cons (.bool (.bit true)) .nil)), h, pc⟩) (fun pc => specR wid.patU wid.findR args h pc)
    | false => .fail "arguments"
  | _ => .fail "arguments"
set_option maxRecDepth 100000 in
theorem findS_ok (M : MEnv ρ B) {f : FuncId} (hf : ∀ args h pc x, (pc.den ρ).asBool = true → (specR wid.patU wid.findR args h pc).get ρ = some x → CallOk ρ cx.globs cx.P f args h x) :
    ∀ args h pc x, (pc.den ρ).asBool = true → (findS args h pc).get ρ = some x → CallOk ρ cx.globs cx.P f args h x := by
  intro args h pc x hpc hx
  unfold findS at hx
  split at hx
  · rename_i t
    split at hx
    · rename_i hk
      obtain ⟨pc', hp, hx⟩ := ways_get hpc hx
      rcases hx with ⟨hw, hx⟩ | ⟨_, hx⟩
      · simp only [Tree.get, Option.some.injEq] at hx
        subst hx
        have hx2 := hf [.int .u32 t] h pc' ⟨wid.findR (Tm.ofList [t]), h, pc'⟩ hp (by
          unfold specR
          have hr : (SVal.ofList [SVal.int .u32 t]).inR = true := by simp [SVal.ofList, SVal.inR, hk]
          simp only [hr]
          rfl)
        have hb := u32_of (inK_ok M.vars .u32 t hk)
        have hle : (t.den ρ).asInt ≤ 255 := by
          rw [mk2_den] at hw
          exact of_decide_eq_true hw
        obtain ⟨e1, e2⟩ := find_byte hb.1 hle
        intro K w0 ι w H hsc
        refine (hx2 K w0 ι w H hsc).mono ?_
        rintro e w' ⟨ι', h1, h2, h3, h4, h5, rfl⟩
        refine ⟨ι', h1, h2, h3, rfl, h5, ?_⟩
        have w64 : IntKind.i64.wrap (bitsOp .u32 (fun a b => a &&& b) (t.den ρ).asInt 255) = (t.den ρ).asInt := by
          have e : bitsOp .u32 (fun a b => a &&& b) (t.den ρ).asInt 255 = (t.den ρ).asInt := by
            refine eq_of_has (k := .u32) (bitsOp_has _ _ _ _) (has32 hb.1 hb.2) fun i hi => ?_
            rw [andF_bit _ _ _ hi]
            by_cases h : i < 8
            · have := low_bit 8 i
              rw [show bitI 255 i = decide (i < 8) from this, decide_eq_true h, Bool.and_true]
            · have z := bitI_high (t.den ρ).asInt 8 i (by have := hb.1; omega) (by omega) (by omega)
              rw [z, decide_eq_false (by have := hb.1; omega), Bool.false_and]
          rw [e]
          exact Go.Sx.wrap_small (by omega) (by omega)
        simp only [SVal.conc, SVal.concL, wid.findR, Tm.ofList, Tm.den, M.f910, M.f911, mk1_den, Op1.ev, Op2.ev, Sc.asInt_int, w64]
        have d1 : (F2 910 [t.den ρ]).asInt = findI (t.den ρ).asInt := rfl
        have d2 : (F2 911 [t.den ρ]).asBool = findB (t.den ρ).asInt := rfl
        simp only [Sc.asList_list, d1, d2, e1, e2, Sc.asBool_bool]
      · exact hf _ _ _ _ hp hx
    · simp [Tree.get] at hx
  · simp [Tree.get] at hx
/-! ### A shift by a number -/
def shNorm (pc : Tm) : SVal → SVal
  | .int .i64 (.op1 (.conv .i64) (.op2 (.and .u32) (.op1 (.conv .u32) x) (.num 255))) => match decideT pc (.op2 .le (.num 0) x), decideT pc (.op2 .lt x (.num 64)) with
    | some true, some true => .int .i64 x
    | _, _ => .int .i64 (.op1 (.conv .i64) (.op2 (.and .u32) (.op1 (.conv .u32) x) (.num 255)))
  | v => v
set_option maxRecDepth 100000 in
theorem shNorm_ok {pc : Tm} (hp : (pc.den ρ).asBool = true) (v : SVal) : (∀ ι, (shNorm pc v).conc ρ ι = v.conc ρ ι) ∧ ∀ n, v.sc n = true → (shNorm pc v).sc n = true := by
  unfold shNorm
  split
  · rename_i x
    split
    · rename_i h1 h2
      have a : decide ((0 : Int) ≤ (x.den ρ).asInt) = true := decideT_den hp h1
      have b : decide ((x.den ρ).asInt < (64 : Int)) = true := decideT_den hp h2
      have a := of_decide_eq_true a
      have b := of_decide_eq_true b
      refine ⟨fun ι => ?_, fun _ _ => rfl⟩
      have w32 : IntKind.u32.wrap (x.den ρ).asInt = (x.den ρ).asInt := by show (x.den ρ).asInt % 4294967296 = _; omega
      have e : bitsOp .u32 (fun a b => a &&& b) (x.den ρ).asInt 255 = (x.den ρ).asInt := by
        refine eq_of_has (k := .u32) (bitsOp_has _ _ _ _) (has32 a (by omega)) fun i hi => ?_
        rw [andF_bit _ _ _ hi]
        by_cases h : i < 8
        · have := low_bit 8 i
          rw [show bitI 255 i = decide (i < 8) from this, decide_eq_true h, Bool.and_true]
        · have z := bitI_high (x.den ρ).asInt 8 i (by omega) (by omega) (by omega)
          rw [z, decide_eq_false (by omega), Bool.false_and]
      have w64 : IntKind.i64.wrap (x.den ρ).asInt = (x.den ρ).asInt := Go.Sx.wrap_small (by omega) (by omega)
      show Value.int .i64 (x.den ρ).asInt = Value.int .i64 (IntKind.i64.wrap (bitsOp .u32 (fun a b => a &&& b) (IntKind.u32.wrap (x.den ρ).asInt) 255))
      rw [w32, e, w64]
    · exact ⟨fun _ => rfl, fun _ h => h⟩
  · exact ⟨fun _ => rfl, fun _ h => h⟩
def shS : Go.Sx.Spec := fun args h pc => specR shPat shT (args.map (shNorm pc)) h pc
set_option maxRecDepth 100000 in
theorem shS_ok {f : FuncId} (hf : ∀ args h pc x, (pc.den ρ).asBool = true → (specR shPat shT args h pc).get ρ = some x → CallOk ρ cx.globs cx.P f args h x) :
    ∀ args h pc x, (pc.den ρ).asBool = true → (shS args h pc).get ρ = some x → CallOk ρ cx.globs cx.P f args h x := by
  intro args h pc x hpc hx
  have hc := hf _ _ _ _ hpc hx
  intro K w0 ι w H hsc
  have := hc K w0 ι w H (by
    intro v hv
    obtain ⟨u, hu, rfl⟩ := List.mem_map.1 hv
    exact (shNorm_ok hpc u).2 _ (hsc u hu))
  rw [List.map_map] at this
  have e : args.map ((·.conc ρ ι) ∘ shNorm pc) = args.map (·.conc ρ ι) := List.map_congr_left fun v _ => (shNorm_ok hpc v).1 ι
  rw [e] at this
  exact this
/-! ### All of them -/
def newS (k : Nat) : Go.Sx.Spec := orS (specNew [.dat 1] k (fun t => .app 700 t)) (specNew [.dat 2] k (fun t => .app 700 t))
def mloadS (k : Nat) : Go.Sx.Spec := specObj 78 (cpsM k) [.int .u32, .size] (loadR 22 23)
def mstoreS (k : Nat) : Go.Sx.Spec := specMeth 78 (cpsM k) [.int .u32, .size, .int .u32] 23 100 mstW mst1 mst2
def shared : Tm → Bool
  | .app 700 _ => true
  | _ => false
def mTab : List (Nat × Go.Sx.Spec) := [
  (16, newS 2), (35, newS 100), (42, specNew [.dat 100] 2 cellsD), (27, sameSpec),
  (76, orS (mloadS 1) (mloadS 2)), (48, specObj 60 cpsX [.int .u32, .size] (loadR 0 22)), (88, specObj 60 cpsX [.int .u32] byteR),
  (122, orS (mstoreS 1) (mstoreS 2)), (85, specShr 60 cpsX [.int .u32, .size, .int .u32] 22 2 xstQ shared),
  (123, specInts 3 cntT regT), (86, specInts 3 cntT regT),
  (147, specR pat3 addT), (163, specR pat3 addT), (72, specR pat3 quoT), (45, specR pat3 quoT), (119, shS), (83, shS),
  (37, specR holdPat holdR), (19, specR holdPat holdR), (39, specR nextPat nextR), (24, specR nextPat nextR), (41, specR aftPat aftR'), (26, specR aftPat aftR'),
  (36, specR chkPat chkR), (18, specR chkPat chkR), (118, findS), (129, findS)]
def findTab (f : Nat) : List (Nat × Go.Sx.Spec) → Option Go.Sx.Spec
  | [] => none
  | (g, s) :: r => match Nat.beq f g with | true => some s | false => findTab f r
def mS : Specs := fun f => findTab f mTab
set_option maxRecDepth 100000 in
theorem findTab_mem {f : Nat} {s : Go.Sx.Spec} : ∀ {l : List (Nat × Go.Sx.Spec)}, findTab f l = some s → (f, s) ∈ l
  | [], h => by cases h
  | (g, s') :: r, h => by
    unfold findTab at h
    split at h
    · rename_i hf
      have := Nat.eq_of_beq_eq_true hf
      simp only [Option.some.injEq] at h
      subst this; subst h
      exact List.mem_cons_self ..
    · exact List.mem_cons_of_mem _ (findTab_mem h)
def SpecOk (ρ : Env) (f : Nat) (s : Go.Sx.Spec) : Prop := ∀ args h pc x, (pc.den ρ).asBool = true → (s args h pc).get ρ = some x → CallOk ρ cx.globs cx.P f args h x
set_option maxRecDepth 100000 in
theorem mTab_ok (M : MEnv ρ B) : ∀ p ∈ mTab, SpecOk ρ p.1 p.2 := by
  have V := M.vars
  have N := M.nil
  intro p hp
  simp only [mTab, List.mem_cons, List.not_mem_nil, or_false] at hp
  have rn : ∀ k, k < 100 → SpecOk ρ 16 (specNew [.dat k] 2 (fun t => .app 700 t)) := fun k hk => specNew_ok V N (fun ss vs w h => rnew_spec M.ab M.ms.s700 k hk ss vs w h)
  have mn : ∀ k, k < 100 → SpecOk ρ 35 (specNew [.dat k] 100 (fun t => .app 700 t)) := fun k hk => specNew_ok V N (fun ss vs w h => mnew_spec M.ab M.ms.s700 k hk ss vs w h)
  rcases hp with rfl | rfl | rfl | rfl | rfl | rfl | rfl | rfl | rfl | rfl | rfl | rfl | rfl | rfl | rfl | rfl | rfl | rfl | rfl | rfl | rfl | rfl | rfl | rfl | rfl | rfl | rfl
  · exact orS_ok (rn 1 (by omega)) (rn 2 (by omega))
  · exact orS_ok (mn 1 (by omega)) (mn 2 (by omega))
  · exact specNew_ok V N (fun ss vs w h => cells_spec M.ab ss vs w h)
  · exact same_spec rfl V M.ab M.str
  · exact orS_ok (mload_spec rfl V N M.ab M.ms 1) (mload_spec rfl V N M.ab M.ms 2)
  · exact xload_spec rfl V N M.ab M.ms
  · exact byte1_spec rfl V N M.ab M.ms
  · exact orS_ok (specMeth_ok V N mst1_flat mst2_flat (mstore_ok M.ab M.ms 1)) (specMeth_ok V N mst1_flat mst2_flat (mstore_ok M.ab M.ms 2))
  · exact specShr_ok V N xstQ_flat (xstore_ok M.ab M.ms)
  · exact all_spec V M.rs (fun l w _ _ => allP_any l w)
  · exact all_spec V M.rs (fun l w hl hw => all5_any l hl w hw)
  · exact add_spec V M.as (fun a b c w a0 a1 b0 b1 => aluAdd_any a b c w a0 a1 b0 b1)
  · exact add_spec V M.as (fun a b c w a0 a1 b0 b1 => radd_any a b c w a0 a1 b0 b1)
  · exact quo_spec V M.as (fun a b s w a0 a1 b0 b1 => pdiv_any a b s w a0 a1 b0 b1)
  · exact quo_spec V M.as (fun a b s w a0 a1 b0 b1 => rdiv_any a b s w a0 a1 b0 b1)
  · exact shS_ok (shP_spec V M.ss)
  · exact shS_ok (shR_spec V M.ss)
  · exact hold_spec V M.cs cnd.all_p
  · exact hold_spec V M.cs cnd.all_r
  · exact next_spec V M.cs (fun _ h => next_ansP h)
  · exact next_spec V M.cs (fun _ h => next_ansR h)
  · exact aft_spec V M.cs (fun _ _ h1 h2 => aft_p h1 h2)
  · exact aft_spec V M.cs (fun _ _ h1 h2 => aft_r h1 h2)
  · exact chk_call' chk.all_p V M.sg
  · exact chk_call' chk.all_r V M.sg
  · exact findS_ok M (find_call V M.f910 M.f911)
  · exact findS_ok M (rfind_call V M.f910 M.f911)
set_option maxRecDepth 100000 in
theorem mS_ok (M : MEnv ρ B) : mS.Ok ρ cx := fun _ _ h => mTab_ok M _ (findTab_mem h)
noncomputable def mBody (f : Nat) : Bool := match cx.P.funcs[f]? with
  | some fn => fn.body.isSome
  | none => false
set_option maxRecDepth 100000 in
theorem mBodies : (mTab.map Prod.fst).all mBody = true := by kernel_rfl
set_option maxRecDepth 100000 in
theorem mS_body : ∀ f, mS f ≠ none → ∃ fn c, cx.P.funcs[f]? = some fn ∧ fn.body = some c := by
  intro f h
  match hs : mS f with
  | none => exact (h hs).elim
  | some s =>
    have hm := findTab_mem hs
    have hb := List.all_eq_true.1 mBodies f (List.mem_map.2 ⟨_, hm, rfl⟩)
    unfold mBody at hb
    split at hb
    · rename_i fn hfn
      exact ⟨fn, _, hfn, (Option.some_get hb).symm⟩
    · cases hb
end
end Go.Proofs.YthbdmlcbdibiiaaGreatDoor
/- MachineExecs: its cases. -/
namespace Go.Proofs.YthbdmlcbdibiiaaGreatDoor
open Go.RowKit Go.Mem Go.Sx
namespace mex
noncomputable def cxm (sharp : Bool) : Cx := { P := Tryz.prog, okT := [23, 27, 25], globs := [(0, kindsS)], sharp := sharp, fold := true }
def v (i : Nat) : Tm := .var i
def num (n : Int) : Tm := .num n
def eq (a b : Tm) : Tm := .op2 .eq a b
def le (a b : Tm) : Tm := .op2 .le a b
def lt (a b : Tm) : Tm := .op2 .lt a b
def no (a : Tm) : Tm := .op1 .not a
def both (a b : Tm) : Tm := .op2 .band a b
def ins (op : Tm) : SVal := .agg (.ofList [.int .i64 op, .int .i64 (v 1), .int .i64 (v 2), .int .i64 (v 3), .int .i64 (v 4), .int .i64 (v 5), .int .i64 (v 6), .int .i64 (v 7), .bool (v 8)])
def reg (i : Nat) : SVal := .int .u32 (.op1 (.conv .u32) (v i))
def core : SVal := .agg (.ofList ((List.range' 10 16).map reg ++ [.bool (v 26), .bool (v 27), .bool (v 28), .bool (v 29), .int .i64 (v 30), .abs 0]))
def heap0 : Heap := [some { cells := .nil, elem := 0, spare := none, abs := some (false, 1, v 31) }]
def args (op : Tm) : List SVal := [ins op, .str (v 9), core]
def awakeS : Go.Sx.Spec := fun args h pc => match args with
  | [] => .leaf ⟨.bool (.bit true), h, pc⟩
  | _ => .fail "arguments"
def exS (aw : Nat) : Specs := fun f => match Nat.beq f aw with
  | true => some awakeS
  | false => mS f
noncomputable def goes (sharp : Bool) (f aw : Nat) (op : Tm) (l : List Tm) : Bool :=
  isTT (callT (cxm sharp) (exS aw) (run (cxm sharp) (exS aw) 3000) f (args op) heap0 (l.foldr mkAnd (.bit true)))
/-! What is told. -/
def chkL (op : Tm) : Tm := .cons op (.cons (v 1) (.cons (v 2) (.cons (v 3) (.cons (v 4) (.cons (v 5) (.cons (v 6) (.cons (v 7) (.cons (v 8) .nil))))))))
def okF (op : Tm) : Tm := eq (.app 901 (chkL op)) (num 0)
def small : List Tm := [no (lt (num 10000) (.op1 .slen (v 9))), le (.op1 .llen (v 31)) (num 100)]
def it : Tm := .op2 (.and .i64) (v 30) (num 255)
def inIt : Tm := no (eq (.op2 (.and .i64) (v 30) (num 15)) (num 0))
def condT : Tm := .op2 (.shr .i64) it (num 4)
def holds : Tm := .app 940 (.cons condT (.cons (v 26) (.cons (v 27) (.cons (v 28) (.cons (v 29) .nil)))))
def rng (i : Nat) : List Tm := [le (num 0) (v i), lt (v i) (num 16)]
def rngs : List Tm := rng 2 ++ rng 3 ++ rng 4
def mode (m : Nat) : List Tm := match m with
  | 1 => [eq (v 6) (num 1), no (eq (v 6) (num 2))]
  | 2 => [eq (v 6) (num 2), no (eq (v 6) (num 1))]
  | _ => []
def go : Tm := no (both inIt (no holds))
def base (op : Nat) : List Tm := small ++ [okF (num (.ofNat op)), go] ++ rngs
def conv5 : Tm := .op1 (.conv .u32) (v 5)
def immS : List Tm := [le (v 5) (num 255), no (lt (num 255) (v 5)), le conv5 (num 255)]
def immB : List Tm := [lt (num 255) (v 5), no (le (v 5) (num 255)), no (le conv5 (num 255))]
def count : List Tm := [le (num 0) (v 5), lt (v 5) (num 64)]
def kAt (k : Nat) (last : Option Bool) : List Tm :=
  [eq (cntT (v 7)) (num (.ofNat k))] ++ ((List.range k).flatMap fun j => [le (num 0) (regT (v 7) j), lt (regT (v 7) j) (num 16)] ++
    (if j + 1 < k then [no (eq (regT (v 7) j) (num 15))] else match last with
      | some true => [eq (regT (v 7) j) (num 15)]
      | some false => [no (eq (regT (v 7) j) (num 15))]
      | none => []))
def at0 (op k : Nat) : Tm := if op = 33 then .op2 (.sub .u32) (.op1 (.conv .u32) (v 23)) (num (.ofNat (4 * k))) else match selectV (v 3) 0 ((List.range' 10 16).map reg) with
  | some (.int _ t) => t
  | _ => num 0
def atI (op k i : Nat) : Tm := if i = 0 then at0 op k else .op2 (.add .u32) (at0 op k) (num (.ofNat (4 * i)))
def hitI (op k i : Nat) : Tm := .app 711 (L3 (v 9) (atI op k i) (num 4))
def free (op k n : Nat) : List Tm := (List.range n).map fun i => no (hitI op k i)
def stores (op k : Nat) : List (Bool × List Tm) := (true, kAt k none ++ free op k k) :: (List.range k).map fun j => (true, kAt k none ++ free op k j ++ [hitI op k j])
def cases (op : Nat) : List (Bool × List Tm) :=
  if op ≤ 4 ∨ op = 10 ∨ op = 11 ∨ op = 14 ∨ op = 15 then [(false, mode 2), (false, mode 1 ++ immS), (false, mode 1 ++ immB)]
  else if op ≤ 15 then [(false, mode 2), (false, mode 1)]
  else if op ≤ 19 then [(false, mode 2), (false, mode 1 ++ count)]
  else if op ≤ 24 then [(false, [])]
  else if op ≤ 27 then [(false, mode 2), (false, mode 1)]
  else if op ≤ 30 then [(true, mode 2), (true, mode 1)]
  else if op = 31 then (List.range 14).map fun k => (true, kAt (k + 1) (some false))
  else if op ≤ 33 then (List.range 14).flatMap fun k => stores op (k + 1)
  else if op = 34 then ((List.range 14).map fun k => (true, kAt (k + 1) (some false))) ++ ((List.range 15).map fun k => (true, kAt (k + 1) (some true)))
  else [(decide (op = 39), [])]
noncomputable def caseAt (f aw op j : Nat) : Bool :=
  let c := (cases op).getD j (false, [])
  goes c.1 f aw (num (.ofNat op)) (base op ++ c.2)
end mex
end Go.Proofs.YthbdmlcbdibiiaaGreatDoor
/- Exec of both packages: its cases; what each of them has to show. -/
namespace Go.Proofs.YthbdmlcbdibiiaaGreatDoor
open Go.RowKit Go.Mem Go.Sx
namespace exe
def allLeaf (p : Res → Bool) : Tree Res → Bool
  | .leaf a => p a
  | .ite _ a b => match allLeaf p a with | true => allLeaf p b | false => false
  | _ => false
def sz : Tm := mex.no (mex.both (mex.no (mex.eq (mex.v 32) (mex.num 2))) (mex.no (mex.eq (mex.v 32) (mex.num 4))))
def args (op : Tm) : List SVal := [mex.ins op, .int .i64 (mex.v 32), .str (mex.v 9), mex.core]
structure Got where
  r : List Tm
  n : Tm
  z : Tm
  c : Tm
  v : Tm
  it : Tm
  t : Tm
  o : Tm
  deriving DecidableEq
def regs : Nat → SVal → Option (List Tm × SVal)
  | 0, v => some ([], v)
  | k + 1, .cons (.int .u32 t) r => match regs k r with
    | some (l, v) => some (t :: l, v)
    | none => none
  | _, _ => none
def got (h : Heap) : SVal → Option Got
  | .tup (.cons (.agg l) (.cons (.int .i64 o) .nil)) => match regs 16 l with
    | some (r, .cons (.bool n) (.cons (.bool z) (.cons (.bool c) (.cons (.bool v) (.cons (.int .i64 it) (.cons (.abs m) .nil)))))) => match h[m]? with
      | some (some b) => match b.abs with
        | some (true, 2, t) => some ⟨r, n, z, c, v, it, t, o⟩
        | _ => none
      | _ => none
    | _ => none
  | _ => none
def even (imm : Bool) : Tm → Bool
  | .num n => n % 2 == 0
  | .var i => Nat.beq i 25 || Nat.beq i 32 || (imm && Nat.beq i 5)
  | .op1 (.conv .u32) a => even imm a
  | .op2 (.add .u32) a b => even imm a && even imm b
  | .op2 (.sub .u32) a b => even imm a && even imm b
  | .op2 (.mul .u32) a b => even imm a || even imm b
  | .op2 (.andNot .u32) _ (.num 1) => true
  | .op2 (.and .u32) _ (.num n) => n % 2 == 0
  | .ite _ a b => even imm a && even imm b
  | _ => false
def was (o : Int) : Got := ⟨(List.range' 10 16).map fun i => .op1 (.conv .u32) (mex.v i), mex.v 26, mex.v 27, mex.v 28, mex.v 29, mex.v 30, .app 700 (.cons (mex.v 31) .nil), .num o⟩
def okU : Tm → Bool
  | .ite _ a b => okU a && okU b
  | .app g a => Nat.beq g 710 || Nat.beq g 760 || Nat.beq g 765 || Nat.beq g 770 || (Tm.app g a).inK .u32
  | t => t.inK .u32
def inR (g : Got) : Bool := g.r.all okU && g.it.inK .i64
def passed : Got := { was 0 with r := (List.range' 10 15).map (fun i => .op1 (.conv .u32) (mex.v i)) ++ [.op2 (.add .u32) (.op1 (.conv .u32) (mex.v 25)) (.op1 (.conv .u32) (mex.v 32))], it := .app 942 (.cons mex.it .nil) }
def both (p : Got → Bool) (a b : Res) : Bool := match got a.h a.v, got b.h b.v with
  | some g, some g' => match decide (g = g') with
    | true => p g
    | false => false
  | _, _ => false
def ckG (imm : Bool) (g : Got) : Bool := inR g && (match g.o with
  | .num 0 => even imm (g.r.getD 15 .nil)
  | .num 1 => decide (g = was 1)
  | .num 2 => decide (g = was 2)
  | _ => false)
noncomputable def fE : Nat := 10
noncomputable def fX : Nat := 11
noncomputable def goes (sharp : Bool) (p : Got → Bool) (op : Tm) (l : List Tm) : Bool :=
  let cx := mex.cxm sharp
  allLeaf (fun a => allLeaf (both p a) (callT cx mS (run cx mS 3000) fX (args op) mex.heap0 a.pc)) (callT cx mS (run cx mS 3000) fE (args op) mex.heap0 (l.foldr mkAnd (.bit true)))
def base (op : Nat) : List Tm := [mex.okF (mex.num (.ofNat op)), mex.go] ++ mex.rngs ++ [sz]
noncomputable def caseAt (op j : Nat) : Bool :=
  let c := (mex.cases op).getD j (false, [])
  goes c.1 (ckG (decide (35 ≤ op ∧ op ≤ 38))) (mex.num (.ofNat op)) (base op ++ c.2)
noncomputable def bad : Bool := goes false (fun g => decide (g = was 2)) (mex.v 0) [mex.no (mex.okF (mex.v 0))]
noncomputable def size : Bool := goes false (fun g => decide (g = was 2)) (mex.v 0) [mex.no sz]
noncomputable def pass : Bool := goes false (fun g => decide (g = passed)) (mex.v 0) [sz, mex.okF (mex.v 0), mex.inIt, mex.no mex.holds]
end exe
end Go.Proofs.YthbdmlcbdibiiaaGreatDoor
/- Exec of both packages: the environment of a call. -/
namespace Go.Proofs.YthbdmlcbdibiiaaGreatDoor
open Go.RowKit Go.Mem Go.Sx
set_option maxRecDepth 100000 in
theorem cxm_ok (s : Bool) : (mex.cxm s).Ok := by
  refine ⟨?_, cxok.names, cxok.mixed⟩
  intro t ht
  simp only [mex.cxm, List.mem_cons, List.not_mem_nil, or_false] at ht
  rcases ht with rfl | rfl | rfl
  · exact ⟨by kernel_rfl, by kernel_rfl⟩
  · exact ⟨by kernel_rfl, by kernel_rfl⟩
  · exact ⟨by kernel_rfl, by kernel_rfl⟩
def AllT (ρ : Env) (l : List Tm) : Prop := ∀ t ∈ l, (t.den ρ).asBool = true
/-! ### The environment -/
structure CoreD where
  R : List Int
  n : Bool
  z : Bool
  c : Bool
  v : Bool
  it : Int
  l : Cells
structure CoreD.Ok (d : CoreD) : Prop where
  len : d.R.length = 16
  R : ∀ r ∈ d.R, kHas .u32 r
  it : kHas .i64 d.it
  l : InR d.l
def CoreD.val (d : CoreD) (v : Value) : Value := .agg (d.R.map (Value.int .u32) ++ [.bool d.n, .bool d.z, .bool d.c, .bool d.v, .int .i64 d.it, v]).toArray
def vM (x : Fields) (C : List UInt8) (s : Int) (d : CoreD) (i : Nat) : Sc :=
  if i < 9 then x.scs.getD i (.int 0) else if i = 9 then .str C else if i < 26 then .int (d.R.getD (i - 10) 0) else
  if i = 26 then .bool d.n else if i = 27 then .bool d.z else if i = 28 then .bool d.c else if i = 29 then .bool d.v else if i = 30 then .int d.it else if i = 31 then clSc d.l else if i = 32 then .int s else .int 0
noncomputable def envM (x : Fields) (C : List UInt8) (s : Int) (d : CoreD) (w : World) : Env := ⟨vM x C s d, mF, fun _ => undef, mchAbs (ownK w)⟩
set_option maxRecDepth 100000 in
theorem menv {x : Fields} (hx : x.Ok) {C : List UInt8} (hC : C.length ≤ 10000) {s : Int} (hs : kHas .i64 s) {d : CoreD} (hd : d.Ok) (w : World) : MEnv (envM x C s d w) (ownK w) := by
  refine ⟨rfl, rfl, fun i => ?_, fun i => ?_⟩
  · show kHas .i64 (vM x C s d i).asInt
    unfold vM
    split
    · have V := (scs_ok hx).v i
      exact V
    · split
      · exact zero_has
      · split
        · rw [List.getD_eq_getElem?_getD]
          cases h : d.R[i - 10]? with
          | none => exact zero_has
          | some r =>
            have := u32_of (hd.R r (List.mem_of_getElem? h))
            exact small_has this.1 this.2
        · split
          · exact zero_has
          · split
            · exact zero_has
            · split
              · exact zero_has
              · split
                · exact zero_has
                · split
                  · exact hd.it
                  · split
                    · exact zero_has
                    · split
                      · exact hs
                      · exact zero_has
  · show (vM x C s d i).asStr.length ≤ 1000000
    unfold vM
    split
    · have : ∀ s ∈ x.scs, s.asStr.length = 0 := by
        intro s hs
        simp only [Fields.scs, List.mem_cons, List.not_mem_nil, or_false] at hs
        rcases hs with rfl | rfl | rfl | rfl | rfl | rfl | rfl | rfl | rfl <;> rfl
      rw [List.getD_eq_getElem?_getD]
      cases h : x.scs[i]? with
      | none => simp [Sc.asStr]
      | some s => rw [Option.getD_some, this s (List.mem_of_getElem? h)]; omega
    · split
      · simp only [Sc.asStr_str]; omega
      · split
        · simp [Sc.asStr]
        · repeat' split
          all_goals simp [Sc.asStr, clSc]
set_option maxRecDepth 100000 in
theorem core_concG (x : Fields) (C : List UInt8) (s : Int) {d : CoreD} (hd : d.Ok) (f : Nat → List Sc → Sc) (ab : Abs) (ι : Nm) : mex.core.conc ⟨vM x C s d, f, fun _ => undef, ab⟩ ι = d.val (ι.val 0).v := by
  obtain ⟨R, n, z, c, v, it, l⟩ := d
  have hlen := hd.len
  have hR := hd.R
  simp only at hlen hR
  match R, hlen, hR with
  | [r0, r1, r2, r3, r4, r5, r6, r7, r8, r9, r10, r11, r12, r13, r14, r15], _, hR =>
    have e : ∀ r ∈ [r0, r1, r2, r3, r4, r5, r6, r7, r8, r9, r10, r11, r12, r13, r14, r15], IntKind.u32.wrap r = r := by
      intro r hr
      have := u32_of (hR r hr)
      show r % 4294967296 = r
      omega
    simp only [List.mem_cons, List.not_mem_nil, or_false, forall_eq_or_imp, forall_eq] at e
    obtain ⟨e0, e1, e2, e3, e4, e5, e6, e7, e8, e9, e10, e11, e12, e13, e14, e15⟩ := e
    show Value.agg #[.int .u32 (IntKind.u32.wrap r0), .int .u32 (IntKind.u32.wrap r1), .int .u32 (IntKind.u32.wrap r2), .int .u32 (IntKind.u32.wrap r3), .int .u32 (IntKind.u32.wrap r4), .int .u32 (IntKind.u32.wrap r5), .int .u32 (IntKind.u32.wrap r6), .int .u32 (IntKind.u32.wrap r7), .int .u32 (IntKind.u32.wrap r8), .int .u32 (IntKind.u32.wrap r9), .int .u32 (IntKind.u32.wrap r10), .int .u32 (IntKind.u32.wrap r11), .int .u32 (IntKind.u32.wrap r12), .int .u32 (IntKind.u32.wrap r13), .int .u32 (IntKind.u32.wrap r14), .int .u32 (IntKind.u32.wrap r15), .bool n, .bool z, .bool c, .bool v, .int .i64 it, (ι.val 0).v] = _
    rw [e0, e1, e2, e3, e4, e5, e6, e7, e8, e9, e10, e11, e12, e13, e14, e15]
    rfl
set_option maxRecDepth 100000 in
theorem core_conc (x : Fields) (C : List UInt8) (s : Int) {d : CoreD} (hd : d.Ok) (w : World) (ι : Nm) : mex.core.conc (envM x C s d w) ι = d.val (ι.val 0).v := core_concG x C s hd mF _ ι
set_option maxRecDepth 100000 in
theorem args_conc {x : Fields} (C : List UInt8) (s : Int) {d : CoreD} (hd : d.Ok) (w : World) (ι : Nm) {op : Tm} (ho : op.den (envM x C s d w) = .int x.x0) :
    (exe.args op).map (·.conc (envM x C s d w) ι) = [x.val, .int .i64 s, .string ⟨C.toArray⟩, d.val (ι.val 0).v] := by
  have e1 : (mex.ins op).conc (envM x C s d w) ι = x.val := by
    show Value.agg #[.int .i64 (op.den (envM x C s d w)).asInt, .int .i64 x.x1, .int .i64 x.x2, .int .i64 x.x3, .int .i64 x.x4, .int .i64 x.x5, .int .i64 x.x6, .int .i64 x.x7, .bool x.b] = _
    rw [ho]
    rfl
  simp only [exe.args, List.map_cons, List.map_nil, e1, core_conc x C s hd w ι]
  rfl
def ιM (v : OneV) : Nm := ⟨fun _ => 0, fun _ => 0, fun _ => v, fun _ _ => False⟩
set_option maxRecDepth 100000 in
theorem heap0_hrG (f : Nat → List Sc → Sc) {x : Fields} {C : List UInt8} {s : Int} {d : CoreD} (hd : d.Ok) {w : World} (hw : Laid w) {A : Option Addr} {cap : Nat} (hA : ClAt w w.heap.size A d.l) (hl : d.l.length ≤ 4294967296) :
    HR ⟨vM x C s d, f, fun _ => undef, mchAbs (ownK w)⟩ cx.globs (ownK w) w (ιM ⟨.slice A d.l.length cap, rfl⟩) mex.heap0 w := by
  have H0 := start ⟨vM x C s d, f, fun _ => undef, mchAbs (ownK w)⟩ hw (fun q h => h)
  refine ⟨rfl, rfl, rfl, Nat.le_refl _, fun _ _ => rfl, fun _ h => h, fun q h => h, ?_, ?_, fun g cs hg => ?_⟩
  · intro n b hb
    have hn : n = 0 := by
      have := (List.getElem?_eq_some_iff.1 hb).1
      simp [mex.heap0] at this
      exact this
    subst hn
    simp only [mex.heap0, List.getElem?_cons_zero, Option.some.injEq] at hb
    subst hb
    refine ⟨fun q hq => hq.elim, ?_, rfl⟩
    unfold Blk.Ok
    refine ⟨rfl, fun q hq => hq, fun q => d.l ≠ [] ∧ ∃ a, A = some a ∧ q = a.block, .inl ⟨by omega, d.l, A, cap, rfl, rfl, hA, hd.l, ⟨hl, fun h => by omega⟩, rfl⟩, ?_⟩
    rintro q ⟨h0, a, ha, rfl⟩
    obtain ⟨g, off, e, hg, _⟩ := hA h0
    rw [ha] at e
    simp only [Option.some.injEq] at e
    subst e
    exact hg
  · intro n m b c hb hc q hq
    exact hq.elim
  · obtain ⟨h1, h2, arr, t, fz, h3, h4⟩ := H0.globs g cs hg
    exact ⟨h1, h2, arr, t, fz, h3, by rw [h4]; exact (SVal.conc_ext (n := 0) (fun m hm => by omega) cs h2).2.symm⟩
set_option maxRecDepth 100000 in
theorem heap0_hr {x : Fields} {C : List UInt8} {s : Int} {d : CoreD} (hd : d.Ok) {w : World} (hw : Laid w) {A : Option Addr} {cap : Nat} (hA : ClAt w w.heap.size A d.l) (hl : d.l.length ≤ 4294967296) :
    HR (envM x C s d w) cx.globs (ownK w) w (ιM ⟨.slice A d.l.length cap, rfl⟩) mex.heap0 w := heap0_hrG mF hd hw hA hl
end Go.Proofs.YthbdmlcbdibiiaaGreatDoor
/- MachineExecs: what an instruction that may be tells of itself. -/
namespace Go.Proofs.YthbdmlcbdibiiaaGreatDoor
open Go.RowKit Go.Mem Go.Sx
/-! ### Truths -/
def Tr (η : Env) (t : Tm) : Prop := (t.den η).asBool = true
def iv (η : Env) (t : Tm) : Int := (t.den η).asInt
section
variable {η : Env}
set_option maxRecDepth 100000 in
theorem tr_ite (c a b : Tm) : Tr η (.ite c a b) ↔ (Tr η c ∧ Tr η a) ∨ (¬ Tr η c ∧ Tr η b) := by
  simp only [Tr, Tm.den]
  cases (c.den η).asBool <;> simp
set_option maxRecDepth 100000 in
theorem tr_and (a b : Tm) : Tr η (.op2 .band a b) ↔ Tr η a ∧ Tr η b := by simp [Tr, Tm.den, Op2.ev]
set_option maxRecDepth 100000 in
theorem tr_or (a b : Tm) : Tr η (.op2 .bor a b) ↔ Tr η a ∨ Tr η b := by simp [Tr, Tm.den, Op2.ev]
set_option maxRecDepth 100000 in
theorem tr_not (a : Tm) : Tr η (.op1 .not a) ↔ ¬ Tr η a := by simp [Tr, Tm.den, Op1.ev]
set_option maxRecDepth 100000 in
theorem tr_eq (a b : Tm) : Tr η (.op2 .eq a b) ↔ iv η a = iv η b := by simp [Tr, iv, Tm.den, Op2.ev]
set_option maxRecDepth 100000 in
theorem tr_le (a b : Tm) : Tr η (.op2 .le a b) ↔ iv η a ≤ iv η b := by simp [Tr, iv, Tm.den, Op2.ev]
set_option maxRecDepth 100000 in
theorem tr_lt (a b : Tm) : Tr η (.op2 .lt a b) ↔ iv η a < iv η b := by simp [Tr, iv, Tm.den, Op2.ev]
set_option maxRecDepth 100000 in
theorem iv_num (n : Int) : iv η (.num n) = n := rfl
structure OkAt (o d n m i mo l : Int) : Prop where
  ho : 1 ≤ o ∧ o ≤ 45
  hd : 0 ≤ d ∧ d < 16
  hn : 0 ≤ n ∧ n < 16
  hm : 0 ≤ m ∧ m < 16
  mode : (o ≤ 19 ∨ (25 ≤ o ∧ o ≤ 30)) → mo = 1 ∨ mo = 2
  imm : o ≤ 15 → mo = 1 → 0 ≤ i ∧ i ≤ 4294967295
  cnt : 16 ≤ o → o ≤ 19 → mo = 1 → 0 ≤ i ∧ i < 64
  lst : 31 ≤ o → o ≤ 33 → 0 < l ∧ bitsOp .i64 (fun a b => a &&& ~~~b) l 0x5FFF = 0
  evn : 35 ≤ o → o ≤ 38 → bitsOp .i64 (fun a b => a &&& b) i 1 = 0
  pop : o = 34 → 0 < l ∧ bitsOp .i64 (fun a b => a &&& ~~~b) l 0xDFFF = 0
set_option maxRecDepth 100000 in
theorem chk_ok (h : iv η Chk.chk = 0) : (1 ≤ iv η (.var 0) ∧ iv η (.var 0) ≤ 45) ∧ Tr η Chk.ok := by
  have : Tr η (Chk.all [Chk.inn Chk.op 1 45, Chk.ok]) := by
    unfold Tr
    cases hc : ((Chk.all [Chk.inn Chk.op 1 45, Chk.ok]).den η).asBool with
    | true => rfl
    | false =>
      have : iv η Chk.chk = 6 := by
        unfold iv Chk.chk
        simp only [Tm.den, hc]
        rfl
      omega
  simp only [Chk.all, Chk.inn, Chk.ge, Chk.le, Chk.op, Chk.x, tr_and, tr_le, iv_num] at this
  exact this
set_option maxRecDepth 100000 in
set_option maxHeartbeats 2000000 in
theorem ok_at (h : iv η Chk.chk = 0) : OkAt (iv η (.var 0)) (iv η (.var 2)) (iv η (.var 3)) (iv η (.var 4)) (iv η (.var 5)) (iv η (.var 6)) (iv η (.var 7)) := by
  obtain ⟨ho, h⟩ := chk_ok h
  generalize e0 : iv η (.var 0) = o at *
  generalize e2 : iv η (.var 2) = d at *
  generalize e3 : iv η (.var 3) = n at *
  generalize e4 : iv η (.var 4) = m at *
  generalize e5 : iv η (.var 5) = i at *
  generalize e6 : iv η (.var 6) = mo at *
  generalize e7 : iv η (.var 7) = l at *
  have eB : ∀ k, iv η (.op2 (.andNot .i64) (.var 7) (.num k)) = bitsOp .i64 (fun a b => a &&& ~~~b) l k := by
    intro k
    rw [← e7]
    rfl
  have eA : iv η (.op2 (.and .i64) (.var 5) (.num 1)) = bitsOp .i64 (fun a b => a &&& b) i 1 := by
    rw [← e5]
    rfl
  simp only [Chk.ok, Chk.all, Chk.inn, Chk.ge, Chk.le, Chk.is, Chk.or, Chk.no, Chk.plain, Chk.last, Chk.great, Chk.zero, Chk.regsIn, Chk.even, Chk.op, Chk.cond, Chk.rd, Chk.rn, Chk.rm, Chk.imm, Chk.mode, Chk.lst, Chk.s, Chk.x,
    List.map_cons, List.map_nil, List.cons_append, List.nil_append, tr_ite, tr_and, tr_or, tr_not, tr_eq, tr_le, tr_lt, iv_num, e0, e2, e3, e4, e5, e6, e7, eA, eB] at h
  have K : ∀ a : Int, (0 ≤ a ∧ a ≤ 12) ∨ a = 14 → 0 ≤ a ∧ a < 16 := by intro a; omega
  rcases h with ⟨c, h⟩ | ⟨c0, h⟩
  · constructor <;> first | omega | (intros; omega)
  rcases h with ⟨c, h⟩ | ⟨c1, h⟩
  · constructor <;> first | omega | (intros; omega)
  rcases h with ⟨c, h⟩ | ⟨c2, h⟩
  · constructor <;> first | omega | (intros; omega)
  rcases h with ⟨c, h⟩ | ⟨c3, h⟩
  · constructor <;> first | omega | (intros; omega)
  rcases h with ⟨c, h⟩ | ⟨c4, h⟩
  · constructor <;> first | omega | (intros; omega)
  rcases h with ⟨c, h⟩ | ⟨c5, h⟩
  · constructor <;> first | omega | (intros; omega)
  rcases h with ⟨c, h⟩ | ⟨c6, h⟩
  · constructor <;> first | omega | (intros; omega)
  rcases h with ⟨c, h⟩ | ⟨c7, h⟩
  · constructor <;> first | omega | (intros; omega)
  rcases h with ⟨c, h⟩ | ⟨c8, h⟩
  · obtain ⟨_, hd, hm, hi, hmo, _, hn, hl, hb, _⟩ := h
    constructor <;> first | omega | (intros; omega) | (intros; exact ⟨hl, hb⟩)
  rcases h with ⟨c, h⟩ | ⟨c9, h⟩
  · obtain ⟨_, hd, hn, hm, hi, hmo, _, hl, hb⟩ := h
    constructor <;> first | omega | (intros; omega) | (intros; exact ⟨hl, hb⟩)
  rcases h with ⟨c, h⟩ | ⟨c10, h⟩
  · obtain ⟨_, hd, hn, hm, hi, hmo, _, hl, hb, _⟩ := h
    constructor <;> first | omega | (intros; omega) | (intros; exact ⟨hl, hb⟩)
  rcases h with ⟨c, h⟩ | ⟨c11, h⟩
  · constructor <;> first | omega | (intros; omega)
  rcases h with ⟨c, h⟩ | ⟨c12, h⟩
  · constructor <;> first | omega | (intros; omega)
  rcases h with ⟨c, h⟩ | ⟨c13, h⟩
  · constructor <;> first | omega | (intros; omega)
  rcases h with ⟨c, h⟩ | ⟨c14, h⟩
  · constructor <;> first | omega | (intros; omega)
  rcases h with ⟨c, h⟩ | ⟨c15, h⟩
  · constructor <;> first | omega | (intros; omega)
  rcases h with ⟨c, h⟩ | ⟨c16, h⟩
  · constructor <;> first | omega | (intros; omega)
  rcases h with ⟨c, h⟩ | ⟨c17, h⟩
  · constructor <;> first | omega | (intros; omega)
  rcases h with ⟨c, h⟩ | ⟨c18, h⟩
  · constructor <;> first | omega | (intros; omega)
  · constructor <;> first | omega | (intros; omega)
end
/-! ### The registers of a list -/
set_option maxRecDepth 100000 in
theorem mask_bit {l m : Int} (h : bitsOp .i64 (fun a b => a &&& ~~~b) l m = 0) {i : Nat} (hi : i < 64) (hm : bitI m i = false) : bitI l i = false := by
  have hb := bitsOp_bit .i64 (fun a b => a &&& ~~~b) (fun a b => a && !b) (by intro a b i hi; simp [hi]) l m i hi
  rw [h, hm] at hb
  have z : bitI 0 i = false := by simp [bitI]
  rw [z] at hb
  simpa using hb.symm
set_option maxRecDepth 100000 in
theorem has_nat (n r : Nat) (hr : r < 64) : hasB n r = n.testBit r := by
  have hb := bitsOp_bit .i64 (fun a b => a &&& b) (· && ·) (by intro a b i _; simp) (shrOp .i64 n r) 1 0 (by decide)
  have hs : shrOp .i64 (n : Int) (r : Int) = (n : Int) / 2 ^ r := by
    show (n : Int).fdiv (2 ^ (min (r : Int).toNat 64)) = _
    rw [Int.toNat_natCast, Nat.min_eq_left (by omega)]
    exact Int.fdiv_eq_ediv_of_nonneg _ (Int.le_of_lt (Int.pow_pos (by omega)))
  have h1 : bitI 1 0 = true := by decide
  have hz : bitI (shrOp .i64 (n : Int) (r : Int)) 0 = n.testBit r := by
    rw [← bitI_nat, hs]
    unfold bitI
    rw [Int.pow_zero, Int.ediv_one]
  rw [h1, Bool.and_true, hz] at hb
  show (bitsOp .i64 (fun a b => a &&& b) (shrOp .i64 n r) 1 == 1) = _
  rcases and_one .i64 (shrOp .i64 (n : Int) (r : Int)) with e | e <;> rw [e] at hb ⊢
  · rw [← hb]; decide
  · rw [← hb]; decide
set_option maxRecDepth 100000 in
theorem has_bit {l : Int} (hl : 0 < l) {r : Nat} (hr : r < 64) : hasB l r = bitI l r := by
  obtain ⟨n, rfl⟩ := Int.eq_ofNat_of_zero_le (Int.le_of_lt hl)
  rw [has_nat n r hr, bitI_nat]
set_option maxRecDepth 100000 in
theorem regs_ne {l m : Int} (hl : 0 < l) (hk : kHas .i64 l) (h : bitsOp .i64 (fun a b => a &&& ~~~b) l m = 0) (hm : 0 ≤ m ∧ m < 65536) : regsB l 16 ≠ [] := by
  intro he
  have : l = 0 := by
    refine eq_of_has (k := .i64) hk zero_has fun i hi => ?_
    have z : bitI 0 i = false := by simp [bitI]
    rw [z]
    by_cases h16 : i < 16
    · rw [← has_bit hl (by omega)]
      cases hb : hasB l i with
      | false => rfl
      | true =>
        have : (i : Int) ∈ regsB l 16 := List.mem_map.2 ⟨i, List.mem_filter.2 ⟨List.mem_range.2 h16, hb⟩, rfl⟩
        rw [he] at this
        cases this
    · exact mask_bit h hi (by rw [bitI_high m 16 i (by omega) (by omega) (by omega)]; simp; omega)
  omega
set_option maxRecDepth 100000 in
theorem regs_lt (l : Int) (k : Nat) {x : Int} (h : x ∈ regsB l k) : 0 ≤ x ∧ x < k := by
  simp only [regsB, List.mem_map, List.mem_filter, List.mem_range] at h
  obtain ⟨r, ⟨hr, _⟩, rfl⟩ := h
  omega
set_option maxRecDepth 100000 in
theorem getD_lt {L : List Int} {k : Int} (hk : 0 < k) (h : ∀ x ∈ L, x < k) (j : Nat) : L.getD j 0 < k := by
  rw [List.getD_eq_getElem?_getD]
  cases e : L[j]? with
  | none => simpa using hk
  | some x => exact h x (List.mem_of_getElem? e)
set_option maxRecDepth 100000 in
theorem regs_mid (l : Int) {j : Nat} (h : j + 1 < (regsB l 16).length) : (regsB l 16).getD j 0 ≠ 15 := by
  have h15 : (regsB l 15).getD j 0 < 15 := getD_lt (by decide) (fun x hx => (regs_lt l 15 hx).2) j
  cases hb : hasB l 15
  · rw [regsB_no hb]; omega
  · rw [regsB_yes hb] at h ⊢
    rw [List.getD_eq_getElem?_getD, List.getElem?_append_left (by simpa using h), ← List.getD_eq_getElem?_getD]
    omega
set_option maxRecDepth 100000 in
theorem regs_off (l : Int) (hb : hasB l 15 = false) (j : Nat) : (regsB l 16).getD j 0 ≠ 15 := by
  have h15 : (regsB l 15).getD j 0 < 15 := getD_lt (by decide) (fun x hx => (regs_lt l 15 hx).2) j
  rw [regsB_no hb]; omega
set_option maxRecDepth 100000 in
theorem regs_on (l : Int) (hb : hasB l 15 = true) {j : Nat} (h : j + 1 = (regsB l 16).length) : (regsB l 16).getD j 0 = 15 := by
  rw [regsB_yes hb] at h ⊢
  have e : j = (regsB l 15).length := by simpa using h
  rw [e, List.getD_eq_getElem?_getD, List.getElem?_append_right (Nat.le_refl _), Nat.sub_self]
  rfl
set_option maxRecDepth 100000 in
theorem regs_few (l : Int) (h13 : hasB l 13 = false) : (regsB l 16).length ≤ 15 ∧ (hasB l 15 = false → (regsB l 16).length ≤ 14) := by
  have h14 : (regsB l 14).length ≤ 13 := by
    rw [regsB_no h13]
    exact regsB_len l 13
  have h15 : (regsB l 15).length ≤ 14 := by
    cases hb : hasB l 14
    · rw [regsB_no hb]; omega
    · rw [regsB_yes hb]; simp; omega
  refine ⟨?_, fun h => by rw [regsB_no h]; exact h15⟩
  cases hb : hasB l 15
  · rw [regsB_no hb]; omega
  · rw [regsB_yes hb]; simp; omega
end Go.Proofs.YthbdmlcbdibiiaaGreatDoor
/- Exec of both packages: an instruction that may be stands in one of the cases. -/
namespace Go.Proofs.YthbdmlcbdibiiaaGreatDoor
open Go.RowKit Go.Mem Go.Sx
set_option maxRecDepth 100000 in
theorem allT_nil (ρ : Env) : AllT ρ [] := fun _ h => (List.not_mem_nil h).elim
set_option maxRecDepth 100000 in
theorem allT_app {ρ : Env} {l m : List Tm} (h : AllT ρ l) (k : AllT ρ m) : AllT ρ (l ++ m) := fun t ht => (List.mem_append.1 ht).elim (h t) (k t)
set_option maxRecDepth 100000 in
theorem allT_cons {ρ : Env} {t : Tm} {l : List Tm} (h : Tr ρ t) (k : AllT ρ l) : AllT ρ (t :: l) := fun u hu => by
  rcases List.mem_cons.1 hu with rfl | hu
  · exact h
  · exact k u hu
section
variable {ρ : Env} {B : Nat → Prop}
set_option maxRecDepth 100000 in
theorem cnt_iv (R : RSigns ρ) : iv ρ (cntT (.var 7)) = ((regsB (iv ρ (.var 7)) 16).length : Int) := by
  unfold iv cntT
  simp only [Tm.den, R.s730, Sc.asInt_int, Sc.asList_list, get, List.getD_cons_zero]
set_option maxRecDepth 100000 in
theorem reg_iv (R : RSigns ρ) (j : Nat) : iv ρ (regT (.var 7) j) = (regsB (iv ρ (.var 7)) 16).getD j 0 := by
  unfold iv regT
  simp only [Tm.den, R.s731, Sc.asInt_int, Sc.asList_list, get, List.getD_cons_zero, List.getD_cons_succ]
  rfl
set_option maxRecDepth 100000 in
theorem tr_mode1 (h : iv ρ (.var 6) = 1) : AllT ρ (mex.mode 1) := by
  refine allT_cons ((tr_eq _ _).2 h) (allT_cons ((tr_not _).2 fun e => ?_) (allT_nil _))
  have := (tr_eq _ _).1 e
  have e2 : iv ρ (mex.num 2) = 2 := rfl
  have e6 : iv ρ (mex.v 6) = iv ρ (.var 6) := rfl
  omega
set_option maxRecDepth 100000 in
theorem tr_mode2 (h : iv ρ (.var 6) = 2) : AllT ρ (mex.mode 2) := by
  refine allT_cons ((tr_eq _ _).2 h) (allT_cons ((tr_not _).2 fun e => ?_) (allT_nil _))
  have := (tr_eq _ _).1 e
  have e2 : iv ρ (mex.num 1) = 1 := rfl
  have e6 : iv ρ (mex.v 6) = iv ρ (.var 6) := rfl
  omega
set_option maxRecDepth 100000 in
theorem conv5_iv (h : 0 ≤ iv ρ (.var 5) ∧ iv ρ (.var 5) ≤ 4294967295) : iv ρ mex.conv5 = iv ρ (.var 5) := by
  have : iv ρ mex.conv5 = iv ρ (.var 5) % 4294967296 := rfl
  omega
set_option maxRecDepth 100000 in
theorem tr_immS (h : 0 ≤ iv ρ (.var 5)) (h2 : iv ρ (.var 5) ≤ 255) : AllT ρ mex.immS := by
  have c := conv5_iv (ρ := ρ) ⟨h, by omega⟩
  have n : iv ρ (mex.num 255) = 255 := rfl
  have e : iv ρ (mex.v 5) = iv ρ (.var 5) := rfl
  refine allT_cons ((tr_le _ _).2 (by omega)) (allT_cons ((tr_not _).2 fun e => ?_) (allT_cons ((tr_le _ _).2 (by omega)) (allT_nil _)))
  have := (tr_lt _ _).1 e
  omega
set_option maxRecDepth 100000 in
theorem tr_immB (h : 255 < iv ρ (.var 5)) (h2 : iv ρ (.var 5) ≤ 4294967295) : AllT ρ mex.immB := by
  have c := conv5_iv (ρ := ρ) ⟨by omega, by omega⟩
  have n : iv ρ (mex.num 255) = 255 := rfl
  have e : iv ρ (mex.v 5) = iv ρ (.var 5) := rfl
  refine allT_cons ((tr_lt _ _).2 (by omega)) (allT_cons ((tr_not _).2 fun e => ?_) (allT_cons ((tr_not _).2 fun e => ?_) (allT_nil _)))
  · have := (tr_le _ _).1 e
    omega
  · have := (tr_le _ _).1 e
    omega
set_option maxRecDepth 100000 in
theorem tr_count (h : 0 ≤ iv ρ (.var 5) ∧ iv ρ (.var 5) < 64) : AllT ρ mex.count := by
  have n : iv ρ (mex.num 64) = 64 := rfl
  have z : iv ρ (mex.num 0) = 0 := rfl
  have e : iv ρ (mex.v 5) = iv ρ (.var 5) := rfl
  exact allT_cons ((tr_le _ _).2 (by omega)) (allT_cons ((tr_lt _ _).2 (by omega)) (allT_nil _))
set_option maxRecDepth 100000 in
theorem tr_kAt (R : RSigns ρ) {k : Nat} (hk : (regsB (iv ρ (.var 7)) 16).length = k) {last : Option Bool}
    (hl : match last with
      | some true => hasB (iv ρ (.var 7)) 15 = true
      | some false => hasB (iv ρ (.var 7)) 15 = false
      | none => True) : AllT ρ (mex.kAt k last) := by
  have n15 : iv ρ (mex.num 15) = 15 := rfl
  have n16 : iv ρ (mex.num 16) = 16 := rfl
  have z : iv ρ (mex.num 0) = 0 := rfl
  unfold mex.kAt
  refine allT_app (allT_cons ((tr_eq _ _).2 ?_) (allT_nil _)) ?_
  · have e : iv ρ (mex.num (.ofNat k)) = (k : Int) := rfl
    have := cnt_iv R
    show iv ρ (cntT (.var 7)) = _
    rw [this, e, hk]
  · intro t ht
    obtain ⟨j, hj, ht⟩ := List.mem_flatMap.1 ht
    have hj := List.mem_range.1 hj
    have er : iv ρ (regT (mex.v 7) j) = (regsB (iv ρ (.var 7)) 16).getD j 0 := reg_iv R j
    have hs := regsB_small (iv ρ (.var 7)) j
    refine (?_ : AllT ρ _) t ht
    refine allT_app (allT_cons ((tr_le _ _).2 (by omega)) (allT_cons ((tr_lt _ _).2 (by omega)) (allT_nil _))) ?_
    split
    · rename_i h1
      refine allT_cons ((tr_not _).2 fun e => ?_) (allT_nil _)
      have := (tr_eq _ _).1 e
      exact regs_mid (iv ρ (.var 7)) (j := j) (by omega) (by omega)
    · rename_i h1
      split
      · refine allT_cons ((tr_eq _ _).2 ?_) (allT_nil _)
        have := regs_on (iv ρ (.var 7)) hl (j := j) (by omega)
        omega
      · refine allT_cons ((tr_not _).2 fun e => ?_) (allT_nil _)
        have := (tr_eq _ _).1 e
        exact regs_off (iv ρ (.var 7)) hl j (by omega)
      · exact allT_nil _
set_option maxRecDepth 100000 in
theorem first_hit (p : Nat → Prop) : ∀ k, (∀ i, i < k → ¬ p i) ∨ ∃ j, j < k ∧ p j ∧ ∀ i, i < j → ¬ p i
  | 0 => .inl fun i h => by omega
  | k + 1 => by
    rcases first_hit p k with h | ⟨j, h1, h2, h3⟩
    · by_cases hk : p k
      · exact .inr ⟨k, by omega, hk, h⟩
      · refine .inl fun i hi => ?_
        by_cases e : i = k
        · rw [e]; exact hk
        · exact h i (by omega)
    · exact .inr ⟨j, by omega, h2, h3⟩
set_option maxRecDepth 100000 in
theorem tr_free {op k n : Nat} (h : ∀ i, i < n → ¬ Tr ρ (mex.hitI op k i)) : AllT ρ (mex.free op k n) := by
  intro t ht
  obtain ⟨i, hi, rfl⟩ := List.mem_map.1 ht
  exact (tr_not _).2 (h i (List.mem_range.1 hi))
set_option maxRecDepth 100000 in
theorem tr_stores {op k : Nat} (hk : AllT ρ (mex.kAt k none)) : ∃ c ∈ mex.stores op k, AllT ρ c.2 := by
  rcases first_hit (fun i => Tr ρ (mex.hitI op k i)) k with h | ⟨j, h1, h2, h3⟩
  · exact ⟨_, List.mem_cons_self .., allT_app hk (tr_free h)⟩
  · refine ⟨_, List.mem_cons_of_mem _ (List.mem_map.2 ⟨j, List.mem_range.2 h1, rfl⟩), ?_⟩
    exact allT_app (allT_app hk (tr_free h3)) (allT_cons h2 (allT_nil _))
set_option maxRecDepth 100000 in
theorem mask_13 {l m : Int} (hl : 0 < l) (h : bitsOp .i64 (fun a b => a &&& ~~~b) l m = 0) {r : Nat} (hr : r < 64) (hm : bitI m r = false) : hasB l r = false := by
  rw [has_bit hl hr]
  exact mask_bit h hr hm
set_option maxRecDepth 100000 in
theorem cover (V : VarsOk ρ) (R : RSigns ρ) {o : Nat} (K : OkAt o (iv ρ (.var 2)) (iv ρ (.var 3)) (iv ρ (.var 4)) (iv ρ (.var 5)) (iv ρ (.var 6)) (iv ρ (.var 7))) : ∃ c ∈ mex.cases o, AllT ρ c.2 := by
  have ho := K.ho
  have hk7 : kHas .i64 (iv ρ (.var 7)) := V.1 7
  unfold mex.cases
  split
  · rename_i h
    rcases K.mode (by omega) with hm | hm
    · have hi := K.imm (by omega) hm
      by_cases h2 : iv ρ (.var 5) ≤ 255
      · exact ⟨(false, mex.mode 1 ++ mex.immS), by simp, allT_app (tr_mode1 hm) (tr_immS hi.1 h2)⟩
      · exact ⟨(false, mex.mode 1 ++ mex.immB), by simp, allT_app (tr_mode1 hm) (tr_immB (by omega) hi.2)⟩
    · exact ⟨(false, mex.mode 2), by simp, tr_mode2 hm⟩
  split
  · rcases K.mode (by omega) with hm | hm
    · exact ⟨(false, mex.mode 1), by simp, tr_mode1 hm⟩
    · exact ⟨(false, mex.mode 2), by simp, tr_mode2 hm⟩
  split
  · rcases K.mode (by omega) with hm | hm
    · exact ⟨(false, mex.mode 1 ++ mex.count), by simp, allT_app (tr_mode1 hm) (tr_count (K.cnt (by omega) (by omega) hm))⟩
    · exact ⟨(false, mex.mode 2), by simp, tr_mode2 hm⟩
  split
  · exact ⟨(false, []), by simp, allT_nil _⟩
  split
  · rcases K.mode (by omega) with hm | hm
    · exact ⟨(false, mex.mode 1), by simp, tr_mode1 hm⟩
    · exact ⟨(false, mex.mode 2), by simp, tr_mode2 hm⟩
  split
  · rcases K.mode (by omega) with hm | hm
    · exact ⟨(true, mex.mode 1), by simp, tr_mode1 hm⟩
    · exact ⟨(true, mex.mode 2), by simp, tr_mode2 hm⟩
  split
  · obtain ⟨hl, hb⟩ := K.lst (by omega) (by omega)
    have hne := regs_ne hl hk7 hb (by omega)
    have h13 := mask_13 hl hb (r := 13) (by omega) (by decide)
    have h15 := mask_13 hl hb (r := 15) (by omega) (by decide)
    have hfew := (regs_few _ h13).2 h15
    have hpos := List.length_pos_iff.2 hne
    refine ⟨_, List.mem_map.2 ⟨(regsB (iv ρ (.var 7)) 16).length - 1, List.mem_range.2 (by omega), rfl⟩, ?_⟩
    exact tr_kAt R (by omega) (last := some false) h15
  split
  · obtain ⟨hl, hb⟩ := K.lst (by omega) (by omega)
    have hne := regs_ne hl hk7 hb (by omega)
    have h13 := mask_13 hl hb (r := 13) (by omega) (by decide)
    have h15 := mask_13 hl hb (r := 15) (by omega) (by decide)
    have hfew := (regs_few _ h13).2 h15
    have hpos := List.length_pos_iff.2 hne
    obtain ⟨c, hc, hT⟩ := tr_stores (op := o) (tr_kAt R (k := (regsB (iv ρ (.var 7)) 16).length - 1 + 1) (by omega) (last := none) trivial)
    exact ⟨c, List.mem_flatMap.2 ⟨_, List.mem_range.2 (by omega), hc⟩, hT⟩
  split
  · obtain ⟨hl, hb⟩ := K.pop (by omega)
    have hne := regs_ne hl hk7 hb (by omega)
    have h13 := mask_13 hl hb (r := 13) (by omega) (by decide)
    have hfew := regs_few _ h13
    have hpos := List.length_pos_iff.2 hne
    cases h15 : hasB (iv ρ (.var 7)) 15 with
    | false =>
      refine ⟨_, List.mem_append_left _ (List.mem_map.2 ⟨(regsB (iv ρ (.var 7)) 16).length - 1, List.mem_range.2 (by have := hfew.2 h15; omega), rfl⟩), ?_⟩
      exact tr_kAt R (by omega) (last := some false) h15
    | true =>
      refine ⟨_, List.mem_append_right _ (List.mem_map.2 ⟨(regsB (iv ρ (.var 7)) 16).length - 1, List.mem_range.2 (by have := hfew.1; omega), rfl⟩), ?_⟩
      exact tr_kAt R (by omega) (last := some true) h15
  · exact ⟨_, List.mem_cons_self .., allT_nil _⟩
end
end Go.Proofs.YthbdmlcbdibiiaaGreatDoor
