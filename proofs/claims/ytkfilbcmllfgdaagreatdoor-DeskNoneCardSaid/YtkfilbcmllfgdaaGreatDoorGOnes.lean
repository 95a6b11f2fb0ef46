/- For the seat: reading a line, the three lines of the examples. -/
import Derived.Test.YtkfilbcmllfgdaaGreatDoorGOne0
import Derived.Test.YtkfilbcmllfgdaaGreatDoorGOne1
import Derived.Test.YtkfilbcmllfgdaaGreatDoorGOne2
import Derived.Test.YtkfilbcmllfgdaaGreatDoorGMchR
namespace Go.Proofs.YtkfilbcmllfgdaaGreatDoor
open Go.Sx Go.RowKit

set_option maxRecDepth 100000 in
theorem gx.closed : Globs.Closed gx.cx.globs := by
  intro g cs hg ρ ρ' ι
  simp only [gx.cx, List.mem_cons, List.not_mem_nil, or_false, Prod.mk.injEq] at hg
  obtain ⟨rfl, rfl⟩ := hg
  rw [gx.space_conc, gx.space_conc]

namespace one
set_option maxRecDepth 100000 in
theorem oks : ∀ p ∈ l, memoB gx.cx 20000 45 p = true := by
  intro p hp
  simp only [l, List.mem_cons, List.not_mem_nil, or_false] at hp
  rcases hp with rfl | rfl | rfl
  · exact ok0
  · exact ok1
  · exact ok2
noncomputable def S : Specs := orS (memoS 45 l) (orS (memoS 14 [mch.r]) (memoS 13 [mch.s]))
set_option maxRecDepth 100000 in
theorem S_ok (ρ : Env) : S.Ok ρ gx.cx :=
  orS_ok (memo_ok gx.cxok gx.closed oks (by kernel_rfl))
    (orS_ok (memo_ok gx.cxok gx.closed (fun p hp => by obtain rfl := List.mem_singleton.1 hp; exact mch.okR) (by kernel_rfl))
      (memo_ok gx.cxok gx.closed (fun p hp => by obtain rfl := List.mem_singleton.1 hp; exact mch.okS) (by kernel_rfl)))
set_option maxRecDepth 100000 in
theorem S_body : ∀ g, S g ≠ none → ∃ fn c, gx.cx.P.funcs[g]? = some fn ∧ fn.body = some c :=
  orS_body (memo_body ⟨_, _, Tryz.func45, rfl⟩) (orS_body (memo_body ⟨_, _, Tryz.func14, rfl⟩) (memo_body ⟨_, _, Tryz.func13, rfl⟩))
end one
end Go.Proofs.YtkfilbcmllfgdaaGreatDoor
