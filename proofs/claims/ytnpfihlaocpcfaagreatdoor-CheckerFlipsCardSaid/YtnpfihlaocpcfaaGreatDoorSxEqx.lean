/- A function's answer is a value, case by case. -/
import Derived.Test.YtnpfihlaocpcfaaGreatDoorSxBack
namespace Go.Sx
noncomputable section
open Go.RowKit

def eqTree (cx : Cx) (S : Specs) (fuel : Nat) (f : FuncId) (pat : List SVal) (u : SVal) (c : Cas) : Tree Res :=
  .ite c.cond (.assert (allT (condS c.sub ++ c.pc)) ((callT cx S (run cx S fuel) f (pat.map (subV c.sub)) [] (c.pc.foldr mkAnd (.bit true))).bind fun x =>
    match eqS x.v u with
    | some t => .leaf ⟨.bool t, [], .bit true⟩
    | none => .fail "another answer")) (.leaf trueRes)

theorem eqTree_ok {ρ : Env} {cx : Cx} (ok : cx.Ok) {S : Specs} (hS : S.Ok ρ cx) (hB : ∀ f, S f ≠ none → ∃ fn c, cx.P.funcs[f]? = some fn ∧ fn.body = some c) {fuel : Nat} {f : FuncId} {pat : List SVal} {u : SVal} {c : Cas}
    (hsc : ∀ v ∈ pat, v.sc 0 = true) (hc : (c.cond.den ρ).asBool = true) {sg : Sg} (so : sg.Ok ρ) {e : Kn} (hs : Sats ρ e) (hx : pxBoth sg (eqTree cx S fuel f pat u c) e = true) :
    ∃ x : Res, CallOk ρ cx.globs cx.P f pat [] x ∧ ∀ ι ι', x.v.conc ρ ι = u.conc ρ ι' := by
  obtain ⟨z, b, h1, h2, h3⟩ := pxBoth_ok so _ _ hs hx
  simp only [eqTree, Tree.get, hc] at h1
  cases ha : ((allT (condS c.sub ++ c.pc)).den ρ).asBool with
  | false => rw [ha] at h1; cases h1
  | true =>
  rw [ha] at h1
  have hall := allT_den ρ _ ha
  have hsub : ∀ t ∈ condS c.sub, (t.den ρ).asBool = true := fun t ht => hall t (by simp [ht])
  simp only [Tree.get_bind, Option.bind_eq_some_iff] at h1
  obtain ⟨x, hx1, hx2⟩ := h1
  have hcall := call_ok ok hS hB (conj_den ρ _ (fun t ht => hall t (by simp [ht]))) hx1
  refine ⟨x, ?_, ?_⟩
  · refine hcall.args ?_ ?_
    · intro v hv
      obtain ⟨u, hu, rfl⟩ := List.mem_map.1 hv
      exact subV_sc u (hsc u hu)
    · intro ι
      rw [List.map_map]
      exact List.map_congr_left fun v _ => (subV_conc hsub ι v).1
  · split at hx2
    · rename_i t ht
      simp only [Tree.get, Option.some.injEq] at hx2
      subst hx2
      simp only [SVal.bool.injEq] at h2
      subst h2
      intro ι ι'
      exact (eqS_conc _ _ _ ht h3 ι ι').1
    · cases hx2

end
end Go.Sx
