/- For the seat: two halfwords, there and back: the cases. -/
import Derived.Test.YtaiecnepchndkaaDoorAptDef
namespace Go.Proofs.YtaiecnepchndkaaDoor
open Go.Sx Go.ChangeShapes Go.WideShapes Go.RowKit Go.Joins Go.Deep
namespace apt
/-- Ldm and Stm by each register. -/
def casesV (k : Nat) : List (Bool × Cas) := match Nat.beq k 31 || Nat.beq k 32 with
  | true => (false, Cb.refused k) :: (Cb.prod [Cb.zs [1, 2, 4, 5, 6], (List.range 15).map (fun n => Cb.lit 3 (Int.ofNat n)), [Cb.msk 7 65535]]).map fun c => (false, c)
  | false => Cb.casesW k
def nthV (k j : Nat) : Bool × Cas := (casesV k).getD j (false, ⟨[], [], []⟩)
noncomputable def vat (k j : Nat) : Bool := pxBoth (sgOf (nthV k j).1) (backTree cxs' (widS 34) 3000 33 31 2 ins it (wid.withOp k (nthV k j).2)) (wid.ek k)
def covV (k : Nat) : Bool := pxT wid.sgL (anyT ((casesV k).map fun c => c.2.cond)) (wid.ek k) (fun _ => true)
def tellsV : Nat → Bool
  | 0 => true
  | n + 1 => (casesV (n + 1)).all tells && tellsV n
set_option maxRecDepth 100000 in
theorem tellsV45 : tellsV 45 = true := by kernel_rfl
theorem tellsV_get : ∀ n, tellsV n = true → ∀ k, 1 ≤ k → k ≤ n → (casesV k).all tells = true
  | 0, _, k, h, h' => by omega
  | n + 1, hc, k, h, h' => by
    simp only [tellsV, Bool.and_eq_true] at hc
    by_cases e : k = n + 1
    · subst e; exact hc.1
    · exact tellsV_get n hc.2 k h (by omega)
end apt

theorem exV {x : Fields} (hx : x.Ok) (it : Bool) (hlo : apt.atq 33 31 2 wid.knLow = true) (hhi : apt.atq 33 31 2 wid.knHigh = true) (hcov : ∀ k : Nat, 1 ≤ k → k ≤ 45 → apt.covV k = true)
    (hgo : ∀ k : Nat, 1 ≤ k → k ≤ 45 → ∀ j : Nat, j < (apt.casesV k).length → apt.vat k j = true) {K : Nat → Prop} {w0 : World} {ι : Nm} {w : World} (hI : Inv K w0 ι w) : ∃ p, EncP 33 31 2 x it p := by
  have Kn := knW_ok hx it
  have so := sgL_ok (x := x) it
  have hS := widS_ok awake08 (scsW_ok hx it) rfl
  by_cases h1 : x.x0 < 1
  · have S := Kn.tell (.le 0 0) (decide_eq_true (show x.x0 ≤ 0 by omega))
    exact encP_of hx it (back_ok cxsok' hS (widS_body body34) rfl rfl (cq_cond (pxT_ok so S wid.ref_low).1) so S hlo (inv_env hI _))
  by_cases h2 : 45 < x.x0
  · have S := Kn.tell (.le 0 45) (decide_eq_false (show ¬ x.x0 ≤ 45 by omega))
    exact encP_of hx it (back_ok cxsok' hS (widS_body body34) rfl rfl (cq_cond (pxT_ok so S wid.ref_high).1) so S hhi (inv_env hI _))
  obtain ⟨k, hk⟩ := Int.eq_ofNat_of_zero_le (show 0 ≤ x.x0 by omega)
  have S := Kn.tell (.pt 0 (Int.ofNat k)) (b := true) (decide_eq_true (show x.x0 = Int.ofNat k by rw [hk]; rfl))
  obtain ⟨t, ht, hcond⟩ := anyT_den _ _ (pxT_ok so S (hcov k (by omega) (by omega))).1
  obtain ⟨c, hc, rfl⟩ := List.mem_map.1 ht
  obtain ⟨j, hj, hjc⟩ := List.getElem_of_mem hc
  have hnth : apt.nthV k j = c := by simp only [apt.nthV, List.getD, List.getElem?_eq_getElem hj, Option.getD_some, hjc]
  have hgo' := hgo k (by omega) (by omega) j hj
  rw [apt.vat, hnth] at hgo'
  cases hb : c.1 with
  | false =>
    rw [hb] at hgo'
    exact encP_of hx it (back_ok (c := wid.withOp k c.2) cxsok' hS (widS_body body34) rfl rfl hcond so S hgo' (inv_env hI _))
  | true =>
    rw [hb] at hgo'
    have tl := List.all_eq_true.1 (apt.tellsV_get 45 apt.tellsV45 k (by omega) (by omega)) c hc
    simp only [apt.tells, hb, Bool.not_true, Bool.false_or, Bool.and_eq_true, List.contains_iff_mem] at tl
    have hall := allT_den _ _ hcond
    have q1 : (decide ((0 : Int) ≤ x.x5)) = true := hall _ tl.2.1
    have q2 : (decide (x.x5 ≤ (4294967295 : Int))) = true := hall _ tl.2.2
    have q3 : findB (IntKind.u32.wrap x.x5) = true := hall _ tl.1
    have r1 := of_decide_eq_true q1
    have r2 := of_decide_eq_true q2
    have hw : IntKind.u32.wrap x.x5 = x.x5 := wrap_eq (k := .u32) ⟨r1, by show x.x5 < 2 ^ 32; omega⟩ (fun _ _ => rfl)
    rw [hw] at q3
    exact encP_of hx it (back_ok (c := wid.withOp k c.2) cxsok' hS (widS_body body34) rfl rfl hcond (sgF_ok it q3) S hgo' (inv_env hI _))

end Go.Proofs.YtaiecnepchndkaaDoor
