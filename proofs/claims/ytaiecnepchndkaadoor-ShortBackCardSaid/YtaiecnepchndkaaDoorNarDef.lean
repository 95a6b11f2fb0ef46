/- For the seat: laws of an instruction and a truth: the cases of the input. -/
import Derived.Test.YtaiecnepchndkaaDoorLaw
namespace Go.Proofs.YtaiecnepchndkaaDoor
open Go.Sx Go.ChangeShapes Go.WideShapes Go.RowKit Go.Joins Go.Deep

set_option maxRecDepth 100000 in
theorem awake07 : isTrue (callT cx noS (run cx noS 3000) 29 [] [] (.bit true)) = true := by kernel_rfl
theorem body29 : ∃ fn c, cx.P.funcs[29]? = some fn ∧ fn.body = some c := ⟨Tryd.f29, _, Tryd.func29, rfl⟩

namespace nar
noncomputable def at2 (f : Nat) (o : Tm) (e : Kn) : Bool := pxTree sg (callT cx (lawS 29) (run cx (lawS 29) 400) f [argT o (.var 1) (.var 3) (.var 5), .bool (.var 9)] [] (.bit true)) e
noncomputable def at1 (f : Nat) (o : Tm) (e : Kn) : Bool := pxTree sg (callT cx (lawS 29) (run cx (lawS 29) 400) f [argT o (.var 1) (.var 3) (.var 5)] [] (.bit true)) e
def knLow : Kn := kn0.tell (.le 0 0) true
def knHigh : Kn := kn0.tell (.le 0 45) false
end nar

def Fields.scs2 (x : Fields) (it : Bool) : List Sc := [.int x.x0, .int x.x1, .int x.x2, .int x.x3, .int x.x4, .int x.x5, .int x.x6, .int x.x7, .bool x.b, .bool it]

theorem scs2_ok {x : Fields} (h : x.Ok) (it : Bool) : VarsOk (envOf F (x.scs2 it)) := by
  refine ⟨?_, F_has⟩
  intro i
  match i with
  | 0 => exact h.h0
  | 1 => exact h.h1
  | 2 => exact h.h2
  | 3 => exact h.h3
  | 4 => exact h.h4
  | 5 => exact h.h5
  | 6 => exact h.h6
  | 7 => exact h.h7
  | 8 => exact zero_has
  | 9 => exact zero_has
  | n + 10 => exact zero_has

theorem kn2_ok {x : Fields} (h : x.Ok) (it : Bool) : Sats (envOf F (x.scs2 it)) kn0 := by
  refine Sats.start (scs2_ok h it) _ ?_
  intro i hi
  simp only [List.mem_cons, List.not_mem_nil, or_false] at hi
  rcases hi with rfl | rfl | rfl | rfl | rfl | rfl | rfl | rfl
  all_goals exact ⟨_, rfl⟩

theorem arg2_conc (x : Fields) (it : Bool) {o : Tm} (ho : o.den (envOf F (x.scs2 it)) = .int x.x0) (ι : Nm) : (argT o (.var 1) (.var 3) (.var 5)).conc (envOf F (x.scs2 it)) ι = x.val := by
  simp only [argT, SVal.conc, SVal.concL, ho, Fields.val]
  rfl

/-- A law of an instruction and a truth is true at every input, if it is so in all cases. -/
theorem nar_two {f : Nat} (hlo : nar.at2 f (.var 0) nar.knLow = true) (hhi : nar.at2 f (.var 0) nar.knHigh = true) (hgo : ∀ k : Nat, 1 ≤ k → k ≤ 45 → nar.at2 f (.num (Int.ofNat k)) kn0 = true)
    {x : Fields} (hx : x.Ok) (it : Bool) {w : World} (hw : Laid w) : Calls Tryd.prog f #[x.val, .bool it] w fun e w' => e = .returned (.bool true) ∧ Grown w w' := by
  have K := kn2_ok hx it
  have go : ∀ o e, o.den (envOf F (x.scs2 it)) = .int x.x0 → Sats (envOf F (x.scs2 it)) e → nar.at2 f o e = true → Calls Tryd.prog f #[x.val, .bool it] w fun e w' => e = .returned (.bool true) ∧ Grown w w' := by
    intro o e ho hs h
    have := law_px (ρ := envOf F (x.scs2 it)) cxok (lawS_ok awake07 (scs2_ok hx it) rfl) (lawS_body body29) (by intro v hv; simp at hv; rcases hv with rfl | rfl <;> rfl) rfl (sg_ok rfl) hs h w (start _ hw)
    rw [List.map_cons, List.map_cons, List.map_nil, arg2_conc x it ho] at this
    exact this
  by_cases h1 : x.x0 < 1
  · exact go _ _ rfl (K.tell (.le 0 0) (decide_eq_true (show x.x0 ≤ 0 by omega))) hlo
  by_cases h2 : 45 < x.x0
  · exact go _ _ rfl (K.tell (.le 0 45) (decide_eq_false (show ¬ x.x0 ≤ 45 by omega))) hhi
  obtain ⟨k, hk⟩ := Int.eq_ofNat_of_zero_le (show 0 ≤ x.x0 by omega)
  exact go _ _ (by rw [hk]; rfl) K (hgo k (by omega) (by omega))

theorem nar_one {f : Nat} (hlo : nar.at1 f (.var 0) nar.knLow = true) (hhi : nar.at1 f (.var 0) nar.knHigh = true) (hgo : ∀ k : Nat, 1 ≤ k → k ≤ 45 → nar.at1 f (.num (Int.ofNat k)) kn0 = true)
    {x : Fields} (hx : x.Ok) {w : World} (hw : Laid w) : Calls Tryd.prog f #[x.val] w fun e w' => e = .returned (.bool true) ∧ Grown w w' := by
  have K := kn2_ok hx false
  have go : ∀ o e, o.den (envOf F (x.scs2 false)) = .int x.x0 → Sats (envOf F (x.scs2 false)) e → nar.at1 f o e = true → Calls Tryd.prog f #[x.val] w fun e w' => e = .returned (.bool true) ∧ Grown w w' := by
    intro o e ho hs h
    have := law_px (ρ := envOf F (x.scs2 false)) cxok (lawS_ok awake07 (scs2_ok hx false) rfl) (lawS_body body29) (by intro v hv; simp at hv; subst hv; rfl) rfl (sg_ok rfl) hs h w (start _ hw)
    rw [List.map_cons, List.map_nil, arg2_conc x false ho] at this
    exact this
  by_cases h1 : x.x0 < 1
  · exact go _ _ rfl (K.tell (.le 0 0) (decide_eq_true (show x.x0 ≤ 0 by omega))) hlo
  by_cases h2 : 45 < x.x0
  · exact go _ _ rfl (K.tell (.le 0 45) (decide_eq_false (show ¬ x.x0 ≤ 45 by omega))) hhi
  obtain ⟨k, hk⟩ := Int.eq_ofNat_of_zero_le (show 0 ≤ x.x0 by omega)
  exact go _ _ (by rw [hk]; rfl) K (hgo k (by omega) (by omega))

end Go.Proofs.YtaiecnepchndkaaDoor
