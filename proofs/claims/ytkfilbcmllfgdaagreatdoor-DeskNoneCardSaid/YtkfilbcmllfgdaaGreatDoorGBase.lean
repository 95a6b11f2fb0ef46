/- For the seat: the executor over its program: literal data. -/
import Derived.Test.YtkfilbcmllfgdaaGreatDoorSxFlat
import Derived.Test.YtkfilbcmllfgdaaGreatDoorRows
import Derived.ChangeVars
import Derived.RowKit
import Derived.WalkKit
import Derived.Recover
namespace Go.Proofs.YtkfilbcmllfgdaaGreatDoor
open Go.Sx Go.RowKit

namespace gx
def spaceS : SVal := .ofList [.int .u8 (.num 0), .int .u8 (.num 0), .int .u8 (.num 0), .int .u8 (.num 0), .int .u8 (.num 0), .int .u8 (.num 0), .int .u8 (.num 0), .int .u8 (.num 0), .int .u8 (.num 0), .int .u8 (.num 1), .int .u8 (.num 1), .int .u8 (.num 1), .int .u8 (.num 1), .int .u8 (.num 1), .int .u8 (.num 0), .int .u8 (.num 0), .int .u8 (.num 0), .int .u8 (.num 0), .int .u8 (.num 0), .int .u8 (.num 0), .int .u8 (.num 0), .int .u8 (.num 0), .int .u8 (.num 0), .int .u8 (.num 0), .int .u8 (.num 0), .int .u8 (.num 0), .int .u8 (.num 0), .int .u8 (.num 0), .int .u8 (.num 0), .int .u8 (.num 0), .int .u8 (.num 0), .int .u8 (.num 0), .int .u8 (.num 1), .int .u8 (.num 0), .int .u8 (.num 0), .int .u8 (.num 0), .int .u8 (.num 0), .int .u8 (.num 0), .int .u8 (.num 0), .int .u8 (.num 0), .int .u8 (.num 0), .int .u8 (.num 0), .int .u8 (.num 0), .int .u8 (.num 0), .int .u8 (.num 0), .int .u8 (.num 0), .int .u8 (.num 0), .int .u8 (.num 0), .int .u8 (.num 0), .int .u8 (.num 0), .int .u8 (.num 0), .int .u8 (.num 0), .int .u8 (.num 0), .int .u8 (.num 0), .int .u8 (.num 0), .int .u8 (.num 0), .int .u8 (.num 0), .int .u8 (.num 0), .int .u8 (.num 0), .int .u8 (.num 0), .int .u8 (.num 0), .int .u8 (.num 0), .int .u8 (.num 0), .int .u8 (.num 0), .int .u8 (.num 0), .int .u8 (.num 0), .int .u8 (.num 0), .int .u8 (.num 0), .int .u8 (.num 0), .int .u8 (.num 0), .int .u8 (.num 0), .int .u8 (.num 0), .int .u8 (.num 0), .int .u8 (.num 0), .int .u8 (.num 0), .int .u8 (.num 0), .int .u8 (.num 0), .int .u8 (.num 0), .int .u8 (.num 0), .int .u8 (.num 0), .int .u8 (.num 0), .int .u8 (.num 0), .int .u8 (.num 0), .int .u8 (.num 0), .int .u8 (.num 0), .int .u8 (.num 0), .int .u8 (.num 0), .int .u8 (.num 0), .int .u8 (.num 0), .int .u8 (.num 0), .int .u8 (.num 0), .int .u8 (.num 0), .int .u8 (.num 0), .int .u8 (.num 0), .int .u8 (.num 0), .int .u8 (.num 0), .int .u8 (.num 0), .int .u8 (.num 0), .int .u8 (.num 0), .int .u8 (.num 0), .int .u8 (.num 0), .int .u8 (.num 0), .int .u8 (.num 0), .int .u8 (.num 0), .int .u8 (.num 0), .int .u8 (.num 0), .int .u8 (.num 0), .int .u8 (.num 0), .int .u8 (.num 0), .int .u8 (.num 0), .int .u8 (.num 0), .int .u8 (.num 0), .int .u8 (.num 0), .int .u8 (.num 0), .int .u8 (.num 0), .int .u8 (.num 0), .int .u8 (.num 0), .int .u8 (.num 0), .int .u8 (.num 0), .int .u8 (.num 0), .int .u8 (.num 0), .int .u8 (.num 0), .int .u8 (.num 0), .int .u8 (.num 0), .int .u8 (.num 0), .int .u8 (.num 0), .int .u8 (.num 0), .int .u8 (.num 0), .int .u8 (.num 0), .int .u8 (.num 0), .int .u8 (.num 0), .int .u8 (.num 0), .int .u8 (.num 0), .int .u8 (.num 0), .int .u8 (.num 0), .int .u8 (.num 0), .int .u8 (.num 0), .int .u8 (.num 0), .int .u8 (.num 0), .int .u8 (.num 0), .int .u8 (.num 0), .int .u8 (.num 0), .int .u8 (.num 0), .int .u8 (.num 0), .int .u8 (.num 0), .int .u8 (.num 0), .int .u8 (.num 0), .int .u8 (.num 0), .int .u8 (.num 0), .int .u8 (.num 0), .int .u8 (.num 0), .int .u8 (.num 0), .int .u8 (.num 0), .int .u8 (.num 0), .int .u8 (.num 0), .int .u8 (.num 0), .int .u8 (.num 0), .int .u8 (.num 0), .int .u8 (.num 0), .int .u8 (.num 0), .int .u8 (.num 0), .int .u8 (.num 0), .int .u8 (.num 0), .int .u8 (.num 0), .int .u8 (.num 0), .int .u8 (.num 0), .int .u8 (.num 0), .int .u8 (.num 0), .int .u8 (.num 0), .int .u8 (.num 0), .int .u8 (.num 0), .int .u8 (.num 0), .int .u8 (.num 0), .int .u8 (.num 0), .int .u8 (.num 0), .int .u8 (.num 0), .int .u8 (.num 0), .int .u8 (.num 0), .int .u8 (.num 0), .int .u8 (.num 0), .int .u8 (.num 0), .int .u8 (.num 0), .int .u8 (.num 0), .int .u8 (.num 0), .int .u8 (.num 0), .int .u8 (.num 0), .int .u8 (.num 0), .int .u8 (.num 0), .int .u8 (.num 0), .int .u8 (.num 0), .int .u8 (.num 0), .int .u8 (.num 0), .int .u8 (.num 0), .int .u8 (.num 0), .int .u8 (.num 0), .int .u8 (.num 0), .int .u8 (.num 0), .int .u8 (.num 0), .int .u8 (.num 0), .int .u8 (.num 0), .int .u8 (.num 0), .int .u8 (.num 0), .int .u8 (.num 0), .int .u8 (.num 0), .int .u8 (.num 0), .int .u8 (.num 0), .int .u8 (.num 0), .int .u8 (.num 0), .int .u8 (.num 0), .int .u8 (.num 0), .int .u8 (.num 0), .int .u8 (.num 0), .int .u8 (.num 0), .int .u8 (.num 0), .int .u8 (.num 0), .int .u8 (.num 0), .int .u8 (.num 0), .int .u8 (.num 0), .int .u8 (.num 0), .int .u8 (.num 0), .int .u8 (.num 0), .int .u8 (.num 0), .int .u8 (.num 0), .int .u8 (.num 0), .int .u8 (.num 0), .int .u8 (.num 0), .int .u8 (.num 0), .int .u8 (.num 0), .int .u8 (.num 0), .int .u8 (.num 0), .int .u8 (.num 0), .int .u8 (.num 0), .int .u8 (.num 0), .int .u8 (.num 0), .int .u8 (.num 0), .int .u8 (.num 0), .int .u8 (.num 0), .int .u8 (.num 0), .int .u8 (.num 0), .int .u8 (.num 0), .int .u8 (.num 0), .int .u8 (.num 0), .int .u8 (.num 0), .int .u8 (.num 0), .int .u8 (.num 0), .int .u8 (.num 0), .int .u8 (.num 0), .int .u8 (.num 0), .int .u8 (.num 0), .int .u8 (.num 0), .int .u8 (.num 0), .int .u8 (.num 0), .int .u8 (.num 0), .int .u8 (.num 0), .int .u8 (.num 0), .int .u8 (.num 0)]
def spaceC : List Value := [.int .u8 0, .int .u8 0, .int .u8 0, .int .u8 0, .int .u8 0, .int .u8 0, .int .u8 0, .int .u8 0, .int .u8 0, .int .u8 1, .int .u8 1, .int .u8 1, .int .u8 1, .int .u8 1, .int .u8 0, .int .u8 0, .int .u8 0, .int .u8 0, .int .u8 0, .int .u8 0, .int .u8 0, .int .u8 0, .int .u8 0, .int .u8 0, .int .u8 0, .int .u8 0, .int .u8 0, .int .u8 0, .int .u8 0, .int .u8 0, .int .u8 0, .int .u8 0, .int .u8 1, .int .u8 0, .int .u8 0, .int .u8 0, .int .u8 0, .int .u8 0, .int .u8 0, .int .u8 0, .int .u8 0, .int .u8 0, .int .u8 0, .int .u8 0, .int .u8 0, .int .u8 0, .int .u8 0, .int .u8 0, .int .u8 0, .int .u8 0, .int .u8 0, .int .u8 0, .int .u8 0, .int .u8 0, .int .u8 0, .int .u8 0, .int .u8 0, .int .u8 0, .int .u8 0, .int .u8 0, .int .u8 0, .int .u8 0, .int .u8 0, .int .u8 0, .int .u8 0, .int .u8 0, .int .u8 0, .int .u8 0, .int .u8 0, .int .u8 0, .int .u8 0, .int .u8 0, .int .u8 0, .int .u8 0, .int .u8 0, .int .u8 0, .int .u8 0, .int .u8 0, .int .u8 0, .int .u8 0, .int .u8 0, .int .u8 0, .int .u8 0, .int .u8 0, .int .u8 0, .int .u8 0, .int .u8 0, .int .u8 0, .int .u8 0, .int .u8 0, .int .u8 0, .int .u8 0, .int .u8 0, .int .u8 0, .int .u8 0, .int .u8 0, .int .u8 0, .int .u8 0, .int .u8 0, .int .u8 0, .int .u8 0, .int .u8 0, .int .u8 0, .int .u8 0, .int .u8 0, .int .u8 0, .int .u8 0, .int .u8 0, .int .u8 0, .int .u8 0, .int .u8 0, .int .u8 0, .int .u8 0, .int .u8 0, .int .u8 0, .int .u8 0, .int .u8 0, .int .u8 0, .int .u8 0, .int .u8 0, .int .u8 0, .int .u8 0, .int .u8 0, .int .u8 0, .int .u8 0, .int .u8 0, .int .u8 0, .int .u8 0, .int .u8 0, .int .u8 0, .int .u8 0, .int .u8 0, .int .u8 0, .int .u8 0, .int .u8 0, .int .u8 0, .int .u8 0, .int .u8 0, .int .u8 0, .int .u8 0, .int .u8 0, .int .u8 0, .int .u8 0, .int .u8 0, .int .u8 0, .int .u8 0, .int .u8 0, .int .u8 0, .int .u8 0, .int .u8 0, .int .u8 0, .int .u8 0, .int .u8 0, .int .u8 0, .int .u8 0, .int .u8 0, .int .u8 0, .int .u8 0, .int .u8 0, .int .u8 0, .int .u8 0, .int .u8 0, .int .u8 0, .int .u8 0, .int .u8 0, .int .u8 0, .int .u8 0, .int .u8 0, .int .u8 0, .int .u8 0, .int .u8 0, .int .u8 0, .int .u8 0, .int .u8 0, .int .u8 0, .int .u8 0, .int .u8 0, .int .u8 0, .int .u8 0, .int .u8 0, .int .u8 0, .int .u8 0, .int .u8 0, .int .u8 0, .int .u8 0, .int .u8 0, .int .u8 0, .int .u8 0, .int .u8 0, .int .u8 0, .int .u8 0, .int .u8 0, .int .u8 0, .int .u8 0, .int .u8 0, .int .u8 0, .int .u8 0, .int .u8 0, .int .u8 0, .int .u8 0, .int .u8 0, .int .u8 0, .int .u8 0, .int .u8 0, .int .u8 0, .int .u8 0, .int .u8 0, .int .u8 0, .int .u8 0, .int .u8 0, .int .u8 0, .int .u8 0, .int .u8 0, .int .u8 0, .int .u8 0, .int .u8 0, .int .u8 0, .int .u8 0, .int .u8 0, .int .u8 0, .int .u8 0, .int .u8 0, .int .u8 0, .int .u8 0, .int .u8 0, .int .u8 0, .int .u8 0, .int .u8 0, .int .u8 0, .int .u8 0, .int .u8 0, .int .u8 0, .int .u8 0, .int .u8 0, .int .u8 0, .int .u8 0, .int .u8 0, .int .u8 0, .int .u8 0, .int .u8 0, .int .u8 0, .int .u8 0, .int .u8 0, .int .u8 0, .int .u8 0, .int .u8 0, .int .u8 0, .int .u8 0, .int .u8 0, .int .u8 0, .int .u8 0, .int .u8 0, .int .u8 0, .int .u8 0, .int .u8 0, .int .u8 0]
noncomputable def cx : Cx := { P := Tryz.prog, okT := [61, 53, 25, 23], globs := [(4, spaceS)], sharp := true, fold := true, idx := [260], quiet := [266, 234] }

/-- The laid variable stands there. -/
def Laid (w : World) : Prop := ∃ cs t fz, w.heap[4]? = some (.cells cs t fz) ∧ cs.toList = spaceC

set_option maxRecDepth 100000 in
theorem space_conc (ρ : Env) (ι : Nm) : spaceS.concL ρ ι = spaceC := rfl

set_option maxRecDepth 100000 in
theorem start (ρ : Env) {w : World} (h : Laid w) (hB : ∀ q, ρ.ab.B q → ownK w q := by exact fun _ h => False.elim h) : HR ρ cx.globs (ownK w) w ι0 [] w := by
  obtain ⟨cs, t, fz, hw, hc⟩ := h
  refine ⟨rfl, rfl, rfl, Nat.le_refl _, fun _ _ => rfl, fun _ h => h, hB, ?_, ?_, ?_⟩
  · intro n b hb; simp at hb
  · intro n m b c hb; simp at hb
  · intro g gs hg
    simp only [cx, List.mem_cons, List.not_mem_nil, or_false, Prod.mk.injEq] at hg
    obtain ⟨rfl, rfl⟩ := hg
    exact ⟨(Array.getElem?_eq_some_iff.1 hw).1, by kernel_rfl, cs, t, fz, hw, by rw [space_conc]; exact hc⟩

set_option maxRecDepth 100000 in
/-- What is put off, where nothing is wrong, does nothing. -/
theorem quietRead (args : Array Value) (w : World) : CallsD Tryz.prog 266 args .returning w fun e u' w' => (∃ v, e = .returned v) ∧ u' = .returning ∧ w' = w := by
  have hnil : ∀ w : World, (binOp BinOp.neq 20 .nilIface .nilIface).run Tryz.prog w = .ok (.bool false) w := fun _ => by kernel_rfl
  refine callsD_of_wpS Tryz.func266 rfl fun c₀ cs hu => ?_
  obtain ⟨T, hT⟩ : ∃ T, T = args ++ Array.replicate (Tryz.f266.ntmps - args.size) undef := ⟨_, rfl⟩
  have hs : 13 ≤ T.size := by
    rw [hT, Array.size_append, Array.size_replicate, Tryz.ntmps266]
    omega
  rw [← hT]
  clear hT
  have h3 : 3 < T.size := by omega
  have h4 : 4 < T.size := by omega
  have h5 : 5 < T.size := by omega
  have h6 : 6 < T.size := by omega
  apply wpS_seq
  apply wpS_region
  simp [wpOpsS, go_sem, recoverD, hu, Exit.thenS, h4]
  apply wpS_seq
  apply wpS_region
  simp [wpOpsS, go_sem, Exit.thenS, h3, h5, hnil]
  refine wpS_cond (t := false) (by simp [Act.eval, h6]) ?_
  simp only [Bool.false_eq_true, if_false]
  refine wpS_of_wp (wp_skip ?_)
  cases c₀
  simp_all [bodyPostS, results, Tryz.results266]

set_option maxRecDepth 100000 in
theorem quietEval (args : Array Value) (w : World) : CallsD Tryz.prog 234 args .returning w fun e u' w' => (∃ v, e = .returned v) ∧ u' = .returning ∧ w' = w := by
  have hnil : ∀ w : World, (binOp BinOp.neq 20 .nilIface .nilIface).run Tryz.prog w = .ok (.bool false) w := fun _ => by kernel_rfl
  refine callsD_of_wpS Tryz.func234 rfl fun c₀ cs hu => ?_
  obtain ⟨T, hT⟩ : ∃ T, T = args ++ Array.replicate (Tryz.f234.ntmps - args.size) undef := ⟨_, rfl⟩
  have hs : 11 ≤ T.size := by
    rw [hT, Array.size_append, Array.size_replicate, Tryz.ntmps234]
    omega
  rw [← hT]
  clear hT
  have h3 : 2 < T.size := by omega
  have h4 : 3 < T.size := by omega
  have h5 : 4 < T.size := by omega
  have h6 : 5 < T.size := by omega
  apply wpS_seq
  apply wpS_region
  simp [wpOpsS, go_sem, recoverD, hu, Exit.thenS, h4]
  apply wpS_seq
  apply wpS_region
  simp [wpOpsS, go_sem, Exit.thenS, h3, h5, hnil]
  refine wpS_cond (t := false) (by simp [Act.eval, h6]) ?_
  simp only [Bool.false_eq_true, if_false]
  refine wpS_of_wp (wp_skip ?_)
  cases c₀
  simp_all [bodyPostS, results, Tryz.results234]

set_option maxRecDepth 100000 in
theorem cxok : cx.Ok where
  okT := by
    intro t ht
    simp only [cx, List.mem_cons, List.not_mem_nil, or_false] at ht
    rcases ht with rfl | rfl | rfl | rfl <;> exact ⟨by kernel_rfl, by kernel_rfl⟩
  names := names_of (by kernel_rfl)
  mixed := by kernel_rfl
  idx := by
    intro g hg s k hk w
    simp only [cx, List.mem_cons, List.not_mem_nil, or_false] at hg
    subst hg
    exact idx_of Tryz.func260 (by kernel_rfl) (by kernel_rfl) (by kernel_rfl) (by kernel_rfl) s k hk w
  quiet := by
    intro f hf
    simp only [cx, List.mem_cons, List.not_mem_nil, or_false] at hf
    rcases hf with rfl | rfl
    · exact ⟨⟨_, _, Tryz.func266, rfl⟩, quietRead⟩
    · exact ⟨⟨_, _, Tryz.func234, rfl⟩, quietEval⟩

noncomputable def goes (S : Specs) (f : Nat) (args : List SVal) : Bool := isTrue (callT cx S (run cx S 20000) f args [] (.bit true))

set_option maxRecDepth 100000 in
theorem goes_ok {S : Specs} (ρ : Env) (hS : S.Ok ρ cx) (hSb : ∀ g, S g ≠ none → ∃ fn c, cx.P.funcs[g]? = some fn ∧ fn.body = some c) {f : Nat} {args : List SVal} (h : goes S f args = true)
    (hB : ∀ q, ¬ ρ.ab.B q) (hsc : ∀ v ∈ args, v.sc 0 = true) {vals : List Value} (hv : args.map (·.conc ρ ι0) = vals) {w : World} (hw : Laid w) :
    Calls Tryz.prog f vals.toArray w fun e w' => e = .returned (.bool true) ∧ Below w.heap.size w w' := by
  unfold goes at h
  obtain ⟨y, h1, h2⟩ := isTrue_get (ρ := ρ) h
  have hc := call_ok cxok hS hSb (pc := .bit true) rfl h1
  have := hc (ownK w) w _ w (start ρ hw (fun q hq => (hB q hq).elim)) hsc
  have this : Calls Tryz.prog f (args.map (·.conc ρ ι0)).toArray w _ := this
  rw [hv] at this
  refine Calls.mono (R := _) this ?_
  rintro e w' ⟨ι', _, _, H', _, _, rfl⟩
  rw [h2]
  exact ⟨by simp [SVal.conc, Tm.den], H'.grown⟩
end gx
end Go.Proofs.YtkfilbcmllfgdaaGreatDoor
