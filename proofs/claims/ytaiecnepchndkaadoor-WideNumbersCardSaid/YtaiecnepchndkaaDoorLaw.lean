/- For the seat: what the laws' proofs share. -/
import Derived.Test.YtaiecnepchndkaaDoorChk
import Derived.Test.YtaiecnepchndkaaDoorTie
import Derived.Test.YtaiecnepchndkaaDoorCards
import Derived.ProofKit
import Derived.ChangeVars
import Derived.JoinedOf
import Derived.SevenTiedAt
namespace Go.Proofs.YtaiecnepchndkaaDoor
open Go.Sx Go.ChangeShapes Go.WideShapes Go.RowKit Go.Joins Go.Deep

/-- A function of nothing that is walked to 'true'. -/
theorem awake_call {f : Nat} (h0 : isTrue (callT cx noS (run cx noS 3000) f [] [] (.bit true)) = true) (ρ : Env) : ∀ args h pc x, (pc.den ρ).asBool = true → (specOf .nil (fun _ => .bool (.bit true)) args h pc).get ρ = some x → CallOk ρ cx.globs cx.P f args h x := by
  refine specOf_ok globsC rfl (by intro u hu; cases hu) (fun _ => rfl) ?_
  intro L hL
  obtain ⟨x, h1, h2⟩ := isTrue_get (ρ := envOf ρ.f L) h0
  refine ⟨x, call_ok cxok (noS_ok _ _) (noS_body _) rfl h1, ?_⟩
  intro t ι ι' _
  rw [h2]
  rfl

/-- What the laws' walks know: 'Check' of both packages; 'awake'. -/
def lawS (aw : Nat) : Specs := fun f => match Nat.beq f 47 || Nat.beq f 26 with
  | true => some (specR chkPat chkR)
  | false => match Nat.beq f aw with
    | true => some (specOf .nil (fun _ => .bool (.bit true)))
    | false => none

theorem lawS_ok {aw : Nat} (h0 : isTrue (callT cx noS (run cx noS 3000) aw [] [] (.bit true)) = true) {ρ : Env} (V : VarsOk ρ) (hF : ρ.f = F) : (lawS aw).Ok ρ cx := by
  intro f sp h
  unfold lawS at h
  split at h
  · rename_i hf
    simp only [Option.some.injEq] at h; subst h
    simp only [Bool.or_eq_true] at hf
    rcases hf with hf | hf
    · have := Nat.eq_of_beq_eq_true hf; subst this; exact chk_call chk.all_p V hF
    · have := Nat.eq_of_beq_eq_true hf; subst this; exact chk_call chk.all_r V hF
  · split at h
    · rename_i hf
      have := Nat.eq_of_beq_eq_true hf; subst this
      simp only [Option.some.injEq] at h; subst h; exact awake_call h0 ρ
    · cases h

theorem lawS_body {aw : Nat} (hb : ∃ fn c, cx.P.funcs[aw]? = some fn ∧ fn.body = some c) : ∀ f, lawS aw f ≠ none → ∃ fn c, cx.P.funcs[f]? = some fn ∧ fn.body = some c := by
  intro f h
  unfold lawS at h
  split at h
  · rename_i hf
    simp only [Bool.or_eq_true] at hf
    rcases hf with hf | hf
    · have := Nat.eq_of_beq_eq_true hf; subst this; exact ⟨Tryd.f47, _, Tryd.func47, rfl⟩
    · have := Nat.eq_of_beq_eq_true hf; subst this; exact ⟨Tryd.f26, _, Tryd.func26, rfl⟩
  · split at h
    · rename_i hf
      have := Nat.eq_of_beq_eq_true hf; subst this; exact hb
    · exact (h rfl).elim

set_option maxRecDepth 100000 in
theorem open_insR {H : Type} {enc : TypeId × Value → H} {w : World} {base : Nat} {spare : Nat → Bool} {held : Bool} {r : Reach} {b0 : Nat} {v : Value} {d : DataW H} {p : List MemPlace}
    (hv : Value.okWide Tryd.prog w r b0 23 v) (h : DataW.Trod enc Tryd.prog w base spare held 23 v d p) :
    ∃ x : Fields, x.Ok ∧ v = x.val ∧ p = [] ∧ ∀ (w' : World) (base' : Nat) (spare' : Nat → Bool) (held' : Bool), DataW.Trod enc Tryd.prog w' base' spare' held' 23 v d [] := by
  obtain ⟨vs, rfl, hl, hf, hp, ht⟩ := open_flat (ks := [some .i64, some .i64, some .i64, some .i64, some .i64, some .i64, some .i64, some .i64, none]) Tryd.underlying23 (by kernel_rfl) (by kernel_rfl) (by kernel_rfl) hv h
  match vs, hl with
  | [v0, v1, v2, v3, v4, v5, v6, v7, v8], _ =>
    obtain ⟨_, e0, n0, rfl, w0⟩ := hf 0 _ rfl
    obtain ⟨_, e1, n1, rfl, w1⟩ := hf 1 _ rfl
    obtain ⟨_, e2, n2, rfl, w2⟩ := hf 2 _ rfl
    obtain ⟨_, e3, n3, rfl, w3⟩ := hf 3 _ rfl
    obtain ⟨_, e4, n4, rfl, w4⟩ := hf 4 _ rfl
    obtain ⟨_, e5, n5, rfl, w5⟩ := hf 5 _ rfl
    obtain ⟨_, e6, n6, rfl, w6⟩ := hf 6 _ rfl
    obtain ⟨_, e7, n7, rfl, w7⟩ := hf 7 _ rfl
    obtain ⟨_, e8, b, rfl⟩ := hf 8 _ rfl
    simp only [List.getElem?_cons_zero, List.getElem?_cons_succ, Option.some.injEq] at e0 e1 e2 e3 e4 e5 e6 e7 e8
    subst e0 e1 e2 e3 e4 e5 e6 e7 e8
    exact ⟨⟨n0, n1, n2, n3, n4, n5, n6, n7, b⟩, ⟨wf_has w0, wf_has w1, wf_has w2, wf_has w3, wf_has w4, wf_has w5, wf_has w6, wf_has w7⟩, rfl, hp, ht⟩

/-- A world in which the variable is laid. -/
noncomputable def laidWorld (os : Os) : World :=
  { World.holding Tryd.prog os ⟨#[], #[], []⟩ with heap := (World.holding Tryd.prog os ⟨#[], #[], []⟩).heap.modify 0 fun
      | .cells _ t frozen => .cells cells12 t frozen
      | o => o }

def zeroIns : Value := .agg #[.int .i64 0, .int .i64 0, .int .i64 0, .int .i64 0, .int .i64 0, .int .i64 0, .int .i64 0, .int .i64 0, .bool false]


set_option maxRecDepth 100000 in
theorem laid_met (W : World) (h0 : W.heap[0]? = some (.cells cells12 126 (0, 0))) : laidMet Tryd.prog [("cartouche/offs.kinds", Rows.laid_cartouche_offs_kinds)] W := by
  refine ⟨_, ⟨0, 126, cells12, 8, [], [], by kernel_rfl, by kernel_rfl, ?_, by kernel_rfl, rfl, rfl⟩, by decide, fun b off h => ?_⟩
  · simp only [World.var?, kindsG, Option.bind_some, h0]
  · have h' : MemPlace.cell b off ∈ [MemPlace.cell 0 0, .cell 0 1, .cell 0 2, .cell 0 3, .cell 0 4, .cell 0 5, .cell 0 6, .cell 0 7, .cell 0 8, .cell 0 9, .cell 0 10, .cell 0 11] := h
    have hb : b = 0 := by
      simp at h'
      omega
    subst hb
    refine ⟨⟨_, _, h0⟩, fun u v hc => ?_⟩
    simp only [World.cell?, h0] at hc
    simp at h'
    rcases h' with rfl | rfl | rfl | rfl | rfl | rfl | rfl | rfl | rfl | rfl | rfl | rfl <;> simp [cells12] at hc

end Go.Proofs.YtaiecnepchndkaaDoor
