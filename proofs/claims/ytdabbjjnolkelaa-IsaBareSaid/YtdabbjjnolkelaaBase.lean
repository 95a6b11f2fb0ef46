/- For the seat: the executor over its program; 'awake' answers true. -/
import Derived.Test.YtdabbjjnolkelaaSxFlat
import Derived.Test.YtdabbjjnolkelaaRows
namespace Go.Proofs.Ytdabbjjnolkelaa
open Go.Sx

noncomputable def cx : Cx := { P := Try.prog, okT := [29, 39], globs := [] }

theorem cxok : cx.Ok := by
  refine ⟨?_, names_of (by kernel_rfl), by kernel_rfl⟩
  intro t ht
  simp only [cx, List.mem_cons, List.not_mem_nil, or_false] at ht
  rcases ht with rfl | rfl
  · exact ⟨Try.stoodInHeld29, Try.eqGuardType29⟩
  · exact ⟨Try.stoodInHeld39, Try.eqGuardType39⟩

theorem noGlobs : Globs.Closed cx.globs := by intro g cs hg; cases hg

set_option maxRecDepth 100000 in
theorem awake_run : isTrue (callT cx noS (run cx noS 400) 13 [] [] (.bit true)) = true := by kernel_rfl

/-- 'awake' is known to answer true. -/
def awakeS : Specs := fun f => match f with
  | 13 => some (specOf .nil (fun _ => .bool (.bit true)))
  | _ => none

theorem awake_call (ρ : Env) : ∀ args h pc x, (pc.den ρ).asBool = true → (specOf .nil (fun _ => .bool (.bit true)) args h pc).get ρ = some x → CallOk ρ cx.globs cx.P 13 args h x := by
  refine specOf_ok noGlobs rfl (by intro u hu; cases hu) (fun _ => rfl) ?_
  intro L hL
  obtain ⟨x, h1, h2⟩ := isTrue_get (ρ := envOf ρ.f L) awake_run
  refine ⟨x, call_ok cxok (noS_ok _ _) (noS_body _) rfl h1, ?_⟩
  intro t ι ι' _
  rw [h2]
  rfl

theorem awakeS_ok (ρ : Env) : awakeS.Ok ρ cx := by
  intro f sp h
  unfold awakeS at h
  split at h
  · simp only [Option.some.injEq] at h; subst h; exact awake_call ρ
  · cases h

theorem body13 : ∃ fn c, cx.P.funcs[13]? = some fn ∧ fn.body = some c := ⟨Try.f13, _, Try.func13, rfl⟩

theorem awakeS_body : ∀ f, awakeS f ≠ none → ∃ fn c, cx.P.funcs[f]? = some fn ∧ fn.body = some c := by
  intro f h
  unfold awakeS at h
  split at h
  · exact body13
  · exact (h rfl).elim

end Go.Proofs.Ytdabbjjnolkelaa
