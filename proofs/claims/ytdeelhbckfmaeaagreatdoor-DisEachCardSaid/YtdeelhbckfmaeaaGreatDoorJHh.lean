/- For the seat: texts joined: HOnes, HAwk. -/
import Derived.Test.YtdeelhbckfmaeaaGreatDoorJHs
import Derived.Test.YtdeelhbckfmaeaaGreatDoorJHa
import Derived.Test.YtdeelhbckfmaeaaGreatDoorJHb
import Derived.Test.YtdeelhbckfmaeaaGreatDoorJHc
import Derived.Test.YtdeelhbckfmaeaaGreatDoorJHd
import Derived.Test.YtdeelhbckfmaeaaGreatDoorJHe
/- For the seat: chapter 27's example: what it needs is known. -/
namespace Go.Proofs.YtdeelhbckfmaeaaGreatDoor
open Go.Sx Go.RowKit
namespace hx
set_option maxRecDepth 100000 in
theorem eall : ∀ p ∈ es, memoB gx.cx 20000 164 p = true := by
  intro p hp
  simp only [es, List.mem_cons, List.not_mem_nil, or_false] at hp
  rcases hp with rfl | rfl | rfl
  · exact eok0
  · exact eok1
  · exact eok2
set_option maxRecDepth 100000 in
theorem oall : ∀ p ∈ os, memoB gx.cx 20000 56 p = true := by
  intro p hp
  simp only [os, List.mem_cons, List.not_mem_nil, or_false] at hp
  rcases hp with rfl | rfl | rfl
  · exact ook0
  · exact ook1
  · exact ook2
set_option maxRecDepth 100000 in
theorem pall : ∀ p ∈ ps, memoB gx.cx 20000 120 p = true := by
  intro p hp
  simp only [ps, List.mem_cons, List.not_mem_nil, or_false] at hp
  rcases hp with rfl | rfl | rfl
  · exact pok0
  · exact pok1
  · exact pok2
set_option maxRecDepth 100000 in
theorem lall : ∀ p ∈ ls, memoC gx.cx S1 20000 66 p = true := by
  intro p hp
  simp only [ls, List.mem_cons, List.not_mem_nil, or_false] at hp
  rcases hp with rfl | rfl | rfl
  · exact lok0
  · exact lok1
  · exact lok2
set_option maxRecDepth 100000 in
theorem S1_ok (ρ : Env) : S1.Ok ρ gx.cx := orS_ok (memo_ok gx.cxok gx.closed pall (by kernel_rfl)) (joinSp_ok gx.joinOk)
set_option maxRecDepth 100000 in
theorem S1_body : ∀ g, S1 g ≠ none → ∃ fn c, gx.cx.P.funcs[g]? = some fn ∧ fn.body = some c := orS_body (memo_body ⟨_, _, Tryz.func120, rfl⟩) (joinSp_body ⟨_, _, Tryz.func119, rfl⟩)
set_option maxRecDepth 100000 in
theorem S3_ok (ρ : Env) : S3.Ok ρ gx.cx := orS_ok (memo_ok gx.cxok gx.closed eall (by kernel_rfl)) (memo_ok gx.cxok gx.closed oall (by kernel_rfl))
set_option maxRecDepth 100000 in
theorem S3_body : ∀ g, S3 g ≠ none → ∃ fn c, gx.cx.P.funcs[g]? = some fn ∧ fn.body = some c := orS_body (memo_body ⟨_, _, Tryz.func164, rfl⟩) (memo_body ⟨_, _, Tryz.func56, rfl⟩)
set_option maxRecDepth 100000 in
theorem S2_ok (ρ : Env) : S2.Ok ρ gx.cx := orS_ok (memoES_ok gx.cxok (S3_ok ρ) S3_body asm) (orS_ok (memoC_ok gx.cxok gx.closed (S1_ok ρ) S1_body lall (by kernel_rfl)) (joinSp_ok gx.joinOk))
set_option maxRecDepth 100000 in
theorem S2_body : ∀ g, S2 g ≠ none → ∃ fn c, gx.cx.P.funcs[g]? = some fn ∧ fn.body = some c := orS_body (memoES_body ⟨_, _, Tryz.func19, rfl⟩) (orS_body (memo_body ⟨_, _, Tryz.func66, rfl⟩) (joinSp_body ⟨_, _, Tryz.func119, rfl⟩))
end hx
end Go.Proofs.YtdeelhbckfmaeaaGreatDoor
/- For the seat: chapter 27's example holds. -/
namespace Go.Proofs.YtdeelhbckfmaeaaGreatDoor
open Go.Sx Go.RowKit
set_option maxRecDepth 100000 in
theorem awake27 {w : World} (hw : gx.Laid w) : Calls Tryz.prog 11 #[] w fun e w' => e = .returned (.bool true) ∧ Below w.heap.size w w' :=
  gx.goes_ok ⟨fun _ => .int 0, fun _ _ => .int 0, fun _ => undef, Abs.no⟩ (hx.S2_ok _) hx.S2_body hx.goes (fun _ h => h) (by intro u hu; simp at hu) rfl hw
end Go.Proofs.YtdeelhbckfmaeaaGreatDoor
