/- For the seat: texts joined: SxBackX. -/
import Derived.Test.YthbdmlcbdibiiaaGreatDoorJSxBack
/- There and back, and something more that is so of the halfwords. -/
namespace Go.Sx
open Go.RowKit
def backDX (cx : Cx) (S : Specs) (fuel : Nat) (D : FuncId) (n : Nat) (ex : List Tm → Tm) (ins it : SVal) (x : Res) : Tree Res :=
  match answerOf x.v with
  | some (hs, ok) => match Nat.beq hs.length n with
    | false => .fail "so many halfwords"
    | true => .ite ok ((callT cx S (run cx S fuel) D (hs.map (.int .i64) ++ [it]) [] (mkAnd x.pc ok)).bind fun y =>
      match insOf y.v with
      | some (v, o) => match eqS v ins with
        | some t => .leaf ⟨.bool (mkAnd (ex hs) (mkAnd o t)), [], .bit true⟩
        | none => .fail "no instruction"
      | none => .fail "no instruction") (.leaf trueRes)
  | none => .fail "no answer"
def backTreeX (cx : Cx) (S : Specs) (fuel : Nat) (E D : FuncId) (n : Nat) (ex : List Tm → Tm) (ins it : SVal) (c : Cas) : Tree Res :=
  .ite c.cond (.assert (allT (condS c.sub ++ c.pc)) ((callT cx S (run cx S fuel) E [subV c.sub ins, subV c.sub it] [] (c.pc.foldr mkAnd (.bit true))).bind
    (backDX cx S fuel D n ex (subV c.sub ins) (subV c.sub it)))) (.leaf trueRes)
theorem backX_ok {ρ : Env} {cx : Cx} (ok : cx.Ok) {S : Specs} (hS : S.Ok ρ cx) (hB : ∀ f, S f ≠ none → ∃ fn c, cx.P.funcs[f]? = some fn ∧ fn.body = some c) {fuel : Nat} {E D : FuncId} {n : Nat} {ex : List Tm → Tm} {ins it : SVal} {c : Cas}
    (hi : ins.sc 0 = true) (ht : it.sc 0 = true) (hc : (c.cond.den ρ).asBool = true) {sg : Sg} (so : sg.Ok ρ) {e : Kn} (hs : Sats ρ e) (hx : pxBoth sg (backTreeX cx S fuel E D n ex ins it c) e = true)
    {K : Nat → Prop} {w0 : World} {ι : Nm} {w : World} (hH : HR ρ cx.globs K w0 ι [] w) :
    ∃ (x : Res) (l : List Tm) (t : Tm), CallOk ρ cx.globs cx.P E [ins, it] [] x ∧ answerOf x.v = some (l, t) ∧ l.length = n ∧
      ((t.den ρ).asBool = true → ((ex l).den ρ).asBool = true ∧ ∃ (y : Res) (v : SVal) (o : Tm), CallOk ρ cx.globs cx.P D (l.map (.int .i64) ++ [it]) [] y ∧ insOf y.v = some (v, o) ∧ (o.den ρ).asBool = true ∧ ∀ ι ι', v.conc ρ ι = ins.conc ρ ι') := by
  obtain ⟨z, b, h1, h2, h3⟩ := pxBoth_ok so _ _ hs hx
  simp only [backTreeX, Tree.get, hc] at h1
  cases ha : ((allT (condS c.sub ++ c.pc)).den ρ).asBool with
  | false => rw [ha] at h1; cases h1
  | true =>
  rw [ha] at h1
  have hall := allT_den ρ _ ha
  have hsub : ∀ t ∈ condS c.sub, (t.den ρ).asBool = true := fun t ht => hall t (by simp [ht])
  simp only [Tree.get_bind, Option.bind_eq_some_iff] at h1
  obtain ⟨x, hx1, hx2⟩ := h1
  have hcall := call_ok ok hS hB (conj_den ρ _ (fun t ht => hall t (by simp [ht]))) hx1
  have hcall' : CallOk ρ cx.globs cx.P E [ins, it] [] x := by
    refine hcall.args ?_ ?_
    · intro v hv
      simp only [List.mem_cons, List.not_mem_nil, or_false] at hv
      rcases hv with rfl | rfl
      · exact subV_sc _ hi
      · exact subV_sc _ ht
    · intro ι
      simp only [List.map_cons, List.map_nil, (subV_conc hsub ι ins).1, (subV_conc hsub ι it).1]
  have hpc : (x.pc.den ρ).asBool = true := calls_pure (hcall' K w0 ι w hH (by
    intro v hv
    simp only [List.mem_cons, List.not_mem_nil, or_false] at hv
    rcases hv with rfl | rfl
    · exact hi
    · exact ht)) (by rintro e w' ⟨ι', _, _, _, _, h, _⟩; exact h)
  unfold backDX at hx2
  split at hx2
  · rename_i l t hl
    split at hx2
    · cases hx2
    rename_i hn
    refine ⟨x, l, t, hcall', hl, Nat.eq_of_beq_eq_true hn, fun htrue => ?_⟩
    simp only [Tree.get, htrue, Tree.get_bind, Option.bind_eq_some_iff] at hx2
    obtain ⟨y, hy1, hy2⟩ := hx2
    have hD := call_ok ok hS hB (by rw [mkAnd_den, hpc, htrue]; rfl) hy1
    have hD' : CallOk ρ cx.globs cx.P D (l.map (.int .i64) ++ [it]) [] y := by
      refine hD.args ?_ ?_
      · intro v hv
        simp only [List.mem_append, List.mem_map, List.mem_cons, List.not_mem_nil, or_false] at hv
        rcases hv with ⟨u, _, rfl⟩ | rfl
        · rfl
        · exact subV_sc _ ht
      · intro ι
        simp only [List.map_append, List.map_cons, List.map_nil, (subV_conc hsub ι it).1]
    split at hy2
    · rename_i v o hv
      split at hy2
      · rename_i u hu
        simp only [Tree.get, Option.some.injEq] at hy2
        subst hy2
        simp only [SVal.bool.injEq] at h2
        subst h2
        rw [mkAnd_den, mkAnd_den, Bool.and_eq_true, Bool.and_eq_true] at h3
        refine ⟨h3.1, y, v, o, hD', hv, h3.2.1, fun ι ι' => ?_⟩
        rw [(eqS_conc _ _ _ hu h3.2.2 ι ι').1]
        exact (subV_conc hsub ι' ins).1
      · cases hy2
    · cases hy2
  · cases hx2
end Go.Sx
