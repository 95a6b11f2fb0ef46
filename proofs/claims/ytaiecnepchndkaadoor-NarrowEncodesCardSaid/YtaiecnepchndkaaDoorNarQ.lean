/- For the seat: laws of an instruction, at operations that are none: 'Check' refuses them. -/
import Derived.Test.YtaiecnepchndkaaDoorNarDef
namespace Go.Proofs.YtaiecnepchndkaaDoor
open Go.Sx Go.ChangeShapes Go.WideShapes Go.RowKit Go.Joins Go.Deep
namespace nar
def refused : Tm := .op1 .not (.op2 .eq (.app 901 (argL (.var 0) (.var 1) (.var 3) (.var 5))) (.num 0))
noncomputable def at2q (f : Nat) (e : Kn) : Bool := pxTree sg (callT cx (lawS 29) (run cx (lawS 29) 400) f [argT (.var 0) (.var 1) (.var 3) (.var 5), .bool (.var 9)] [] refused) e
set_option maxRecDepth 100000 in
theorem ref_low : pxT sg refused knLow (fun _ => true) = true := by kernel_rfl
set_option maxRecDepth 100000 in
theorem ref_high : pxT sg refused knHigh (fun _ => true) = true := by kernel_rfl
end nar

/-- A law of an instruction and a truth is true at every input, if it is so in all cases; where there is no such operation, 'Check' has refused it. -/
theorem nar_twoQ {f : Nat} (hlo : nar.at2q f nar.knLow = true) (hhi : nar.at2q f nar.knHigh = true) (hgo : ∀ k : Nat, 1 ≤ k → k ≤ 45 → nar.at2 f (.num (Int.ofNat k)) kn0 = true)
    {x : Fields} (hx : x.Ok) (it : Bool) {w : World} (hw : Laid w) : Calls Tryd.prog f #[x.val, .bool it] w fun e w' => e = .returned (.bool true) ∧ Grown w w' := by
  have K := kn2_ok hx it
  have so := sg_ok (ρ := envOf F (x.scs2 it)) rfl
  have go : ∀ o e pc, o.den (envOf F (x.scs2 it)) = .int x.x0 → Sats (envOf F (x.scs2 it)) e → (pc.den (envOf F (x.scs2 it))).asBool = true → pxTree sg (callT cx (lawS 29) (run cx (lawS 29) 400) f [argT o (.var 1) (.var 3) (.var 5), .bool (.var 9)] [] pc) e = true → Calls Tryd.prog f #[x.val, .bool it] w fun e w' => e = .returned (.bool true) ∧ Grown w w' := by
    intro o e pc ho hs hpc h
    have := law_px (ρ := envOf F (x.scs2 it)) cxok (lawS_ok awake07 (scs2_ok hx it) rfl) (lawS_body body29) (by intro v hv; simp at hv; rcases hv with rfl | rfl <;> rfl) hpc so hs h w (start _ hw)
    rw [List.map_cons, List.map_cons, List.map_nil, arg2_conc x it ho] at this
    exact this
  by_cases h1 : x.x0 < 1
  · have S := K.tell (.le 0 0) (decide_eq_true (show x.x0 ≤ 0 by omega))
    exact go _ _ _ rfl S (pxT_ok so S nar.ref_low).1 hlo
  by_cases h2 : 45 < x.x0
  · have S := K.tell (.le 0 45) (decide_eq_false (show ¬ x.x0 ≤ 45 by omega))
    exact go _ _ _ rfl S (pxT_ok so S nar.ref_high).1 hhi
  obtain ⟨k, hk⟩ := Int.eq_ofNat_of_zero_le (show 0 ≤ x.x0 by omega)
  exact go _ _ _ (by rw [hk]; rfl) K rfl (hgo k (by omega) (by omega))

namespace narrowEncodes
set_option maxRecDepth 100000 in
theorem lo : nar.at2q 8 nar.knLow = true := by kernel_rfl
set_option maxRecDepth 100000 in
theorem hi : nar.at2q 8 nar.knHigh = true := by kernel_rfl
end narrowEncodes
end Go.Proofs.YtaiecnepchndkaaDoor
