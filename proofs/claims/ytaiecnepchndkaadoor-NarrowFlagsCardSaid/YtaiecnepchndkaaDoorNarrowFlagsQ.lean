/- NarrowFlags: the walks at operations that are none. -/
import Derived.Test.YtaiecnepchndkaaDoorNarDef
namespace Go.Proofs.YtaiecnepchndkaaDoor
open Go.Sx Go.ChangeShapes Go.WideShapes Go.RowKit Go.Joins Go.Deep
namespace nar
noncomputable def at1p (f : Nat) (o : Tm) (l : List Tm) (e : Kn) : Bool := pxTree sg (callT cx (lawS 29) (run cx (lawS 29) 400) f [argT o (.var 1) (.var 3) (.var 5)] [] (l.foldr mkAnd (.bit true))) e
end nar
namespace narrowFlags
def ge (k : Int) : Tm := .op2 .le (.num k) (.var 0)
def le (k : Int) : Tm := .op2 .le (.var 0) (.num k)
def no (t : Tm) : Tm := .op1 .not t
set_option maxRecDepth 100000
theorem lo : nar.at1p 11 (.var 0) [no (ge 1), no (ge 16)] nar.knLow = true := by kernel_rfl
theorem hi : nar.at1p 11 (.var 0) [no (le 11), no (le 19)] nar.knHigh = true := by kernel_rfl
end narrowFlags

theorem nar_oneP {f : Nat} {l m : List Tm} (hlo : nar.at1p f (.var 0) l nar.knLow = true) (hhi : nar.at1p f (.var 0) m nar.knHigh = true) (hgo : ∀ k : Nat, 1 ≤ k → k ≤ 45 → nar.at1 f (.num (Int.ofNat k)) kn0 = true)
    {x : Fields} (hx : x.Ok) (hl : x.x0 < 1 → ∀ t ∈ l, (t.den (envOf F (x.scs2 false))).asBool = true) (hm : 45 < x.x0 → ∀ t ∈ m, (t.den (envOf F (x.scs2 false))).asBool = true) {w : World} (hw : Laid w) : Calls Tryd.prog f #[x.val] w fun e w' => e = .returned (.bool true) ∧ Grown w w' := by
  have K := kn2_ok hx false
  have go : ∀ o e pc, o.den (envOf F (x.scs2 false)) = .int x.x0 → Sats (envOf F (x.scs2 false)) e → (pc.den (envOf F (x.scs2 false))).asBool = true → pxTree sg (callT cx (lawS 29) (run cx (lawS 29) 400) f [argT o (.var 1) (.var 3) (.var 5)] [] pc) e = true → Calls Tryd.prog f #[x.val] w fun e w' => e = .returned (.bool true) ∧ Grown w w' := by
    intro o e pc ho hs hpc h
    have := law_px (ρ := envOf F (x.scs2 false)) cxok (lawS_ok awake07 (scs2_ok hx false) rfl) (lawS_body body29) (by intro v hv; simp at hv; subst hv; rfl) hpc (sg_ok rfl) hs h w (start _ hw)
    rw [List.map_cons, List.map_nil, arg2_conc x false ho] at this
    exact this
  by_cases h1 : x.x0 < 1
  · exact go _ _ _ rfl (K.tell (.le 0 0) (decide_eq_true (show x.x0 ≤ 0 by omega))) (conj_den _ l (hl h1)) hlo
  by_cases h2 : 45 < x.x0
  · exact go _ _ _ rfl (K.tell (.le 0 45) (decide_eq_false (show ¬ x.x0 ≤ 45 by omega))) (conj_den _ m (hm h2)) hhi
  obtain ⟨k, hk⟩ := Int.eq_ofNat_of_zero_le (show 0 ≤ x.x0 by omega)
  exact go _ _ _ (by rw [hk]; rfl) K rfl (hgo k (by omega) (by omega))

end Go.Proofs.YtaiecnepchndkaaDoor
