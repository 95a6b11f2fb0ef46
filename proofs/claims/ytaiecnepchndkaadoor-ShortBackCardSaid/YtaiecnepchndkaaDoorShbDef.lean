/- For the seat: laws of an instruction and a truth by cases of the input. -/
import Derived.Test.YtaiecnepchndkaaDoorShoDef
import Derived.Test.YtaiecnepchndkaaDoorNarDef
import Derived.Test.YtaiecnepchndkaaDoorSxCasN
namespace Go.Proofs.YtaiecnepchndkaaDoor
open Go.Sx Go.ChangeShapes Go.WideShapes Go.RowKit Go.Joins Go.Deep
namespace shb
def pat : List SVal := [argT (.var 0) (.var 1) (.var 3) (.var 5), .bool (.var 9)]
def ek (k : Nat) : Kn := kn0.tell (.pt 0 (Int.ofNat k)) true
def withOp (k : Nat) (c : Cas) : Cas := ⟨c.pre, (0, false, .num (.ofNat k)) :: c.sub, c.pc⟩
def nth (k j : Nat) : Cas := (Cb.casesN k).getD j ⟨[], [], []⟩
noncomputable def caseAt (f k j : Nat) : Bool := pxTree sg ((withOp k (nth k j)).tree sho.cxs (lawS 24) 3000 f pat) (ek k)
def covered (k : Nat) : Bool := pxT sg (anyT ((Cb.casesN k).map Cas.cond)) (ek k) (fun _ => true)
def knLow : Kn := kn0.tell (.le 0 0) true
def knHigh : Kn := kn0.tell (.le 0 45) false
def refused : Tm := .op1 .not (.op2 .eq (.app 901 (argL (.var 0) (.var 1) (.var 3) (.var 5))) (.num 0))
set_option maxRecDepth 100000 in
theorem ref_low : pxT sg refused knLow (fun _ => true) = true := by kernel_rfl
set_option maxRecDepth 100000 in
theorem ref_high : pxT sg refused knHigh (fun _ => true) = true := by kernel_rfl
noncomputable def atq (f : Nat) (e : Kn) : Bool := pxTree sg (callT sho.cxs (lawS 24) (run sho.cxs (lawS 24) 3000) f pat [] refused) e
end shb

/-- A law of an instruction and a truth is true at every input, if it is so in all cases. -/
theorem shb_two {f : Nat} (hlo : shb.atq f shb.knLow = true) (hhi : shb.atq f shb.knHigh = true) (hcov : ∀ k : Nat, 1 ≤ k → k ≤ 45 → shb.covered k = true)
    (hgo : ∀ k : Nat, 1 ≤ k → k ≤ 45 → ∀ j : Nat, j < (Cb.casesN k).length → shb.caseAt f k j = true)
    {x : Fields} (hx : x.Ok) (it : Bool) {w : World} (hw : Laid w) : Calls Tryd.prog f #[x.val, .bool it] w fun e w' => e = .returned (.bool true) ∧ Grown w w' := by
  have K := kn2_ok hx it
  have so := sg_ok (ρ := envOf F (x.scs2 it)) rfl
  have hsc : ∀ v ∈ shb.pat, v.sc 0 = true := by intro v hv; simp [shb.pat] at hv; rcases hv with rfl | rfl <;> rfl
  have hpat : shb.pat.map (·.conc (envOf F (x.scs2 it)) ι0) = [x.val, .bool it] := by
    rw [shb.pat, List.map_cons, List.map_cons, List.map_nil, arg2_conc x it rfl]; rfl
  have goq : ∀ e, Sats (envOf F (x.scs2 it)) e → (shb.refused.den (envOf F (x.scs2 it))).asBool = true → shb.atq f e = true → Calls Tryd.prog f #[x.val, .bool it] w fun e w' => e = .returned (.bool true) ∧ Grown w w' := by
    intro e hs hpc h
    have := law_px (ρ := envOf F (x.scs2 it)) sho.cxsok (lawS_ok awake10 (scs2_ok hx it) rfl) (lawS_body body24) hsc hpc so hs h w (start _ hw)
    rw [hpat] at this
    exact this
  by_cases h1 : x.x0 < 1
  · have S := K.tell (.le 0 0) (decide_eq_true (show x.x0 ≤ 0 by omega))
    exact goq _ S (pxT_ok so S shb.ref_low).1 hlo
  by_cases h2 : 45 < x.x0
  · have S := K.tell (.le 0 45) (decide_eq_false (show ¬ x.x0 ≤ 45 by omega))
    exact goq _ S (pxT_ok so S shb.ref_high).1 hhi
  obtain ⟨k, hk⟩ := Int.eq_ofNat_of_zero_le (show 0 ≤ x.x0 by omega)
  have S := K.tell (.pt 0 (Int.ofNat k)) (b := true) (decide_eq_true (show x.x0 = Int.ofNat k by rw [hk]; rfl))
  obtain ⟨c, hc, hcond⟩ := cas_cov so S (hcov k (by omega) (by omega))
  obtain ⟨j, hj, hjc⟩ := List.getElem_of_mem hc
  have hnth : shb.nth k j = c := by simp only [shb.nth, List.getD, List.getElem?_eq_getElem hj, Option.getD_some, hjc]
  have hgo' := hgo k (by omega) (by omega) j hj
  rw [shb.caseAt, hnth] at hgo'
  have := cas_px (ρ := envOf F (x.scs2 it)) (c := shb.withOp k c) sho.cxsok (lawS_ok awake10 (scs2_ok hx it) rfl) (lawS_body body24) hsc hcond so S hgo' w (start _ hw)
  rw [hpat] at this
  exact this

end Go.Proofs.YtaiecnepchndkaaDoor
