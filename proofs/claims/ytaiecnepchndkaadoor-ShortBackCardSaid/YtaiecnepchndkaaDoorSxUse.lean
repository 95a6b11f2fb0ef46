/- The executor's theorem, as it is used. -/
import Derived.Test.YtaiecnepchndkaaDoorSxSound10
import Derived.KernelRfl
import Derived.RowKit3
namespace Go.Sx
open Go.RowKit

/-- The tree is one leaf that says true. -/
def isTrue : Tree Res → Bool
  | .leaf x => match x.v with
    | .bool (.bit true) => true
    | _ => false
  | _ => false

theorem isTrue_get {ρ : Env} {t : Tree Res} (h : isTrue t = true) : ∃ x, t.get ρ = some x ∧ x.v = .bool (.bit true) := by
  unfold isTrue at h
  split at h
  · rename_i x
    split at h
    · rename_i hv; exact ⟨x, rfl, hv⟩
    · cases h
  · cases h

/-- The world's own blocks. -/
def ownK (w : World) (k : Nat) : Prop := k < w.heap.size

theorem HR.start (ρ : Env) (w : World) (ι : Nm) : HR ρ [] (ownK w) w ι [] w := by
  refine ⟨rfl, rfl, rfl, Nat.le_refl _, fun _ _ => rfl, fun _ h => h, ?_, ?_, ?_, ?_⟩
  · intro a ha
    simp only [World.frozen?]
    rw [Array.getElem?_eq_none (by unfold ownK at ha; omega)]
  · intro n b hb; simp at hb
  · intro n m b c hb; simp at hb
  · intro g cs hg; cases hg

theorem HR.grown {ρ : Env} {G : Globs} {w w' : World} {ι : Nm} {h : Heap} (H : HR ρ G (ownK w) w ι h w') : Grown w w' := by
  have hb : Below w.heap.size w w' := ⟨H.os, H.tape, H.output, H.size, fun k hk => H.kept k hk⟩
  refine ⟨hb.frame _, ?_, H.size⟩
  intro a
  by_cases ha : a.block < w.heap.size
  · exact hb.frozen ha
  · have h1 := H.free a ha
    have h2 : w.frozen? a = false := by
      simp only [World.frozen?]
      rw [Array.getElem?_eq_none (by omega)]
    rw [h1, h2]

def noS : Specs := fun _ => none
theorem noS_ok (ρ : Env) (cx : Cx) : noS.Ok ρ cx := by intro f sp h; cases h
theorem noS_body (cx : Cx) : ∀ f, noS f ≠ none → ∃ fn c, cx.P.funcs[f]? = some fn ∧ fn.body = some c := by intro f h; exact (h rfl).elim

def ι0 : Nm := ⟨fun _ => 0, fun _ => 0⟩

/-- A law that is walked to 'true' returns true, and the world has only grown. -/
theorem law_true {ρ : Env} {cx : Cx} (ok : cx.Ok) (hG : cx.globs = []) {S : Specs} (hS : S.Ok ρ cx) (hB : ∀ f, S f ≠ none → ∃ fn c, cx.P.funcs[f]? = some fn ∧ fn.body = some c) {fuel : Nat} {f : FuncId} {args : List SVal} {pc : Tm}
    (hsc : ∀ v ∈ args, v.sc 0 = true) (hpc : (pc.den ρ).asBool = true) (hx : isTrue (callT cx S (run cx S fuel) f args [] pc) = true) (w : World) :
    Calls cx.P f (args.map (·.conc ρ ι0)).toArray w fun e w' => e = .returned (.bool true) ∧ Grown w w' := by
  obtain ⟨x, h1, h2⟩ := isTrue_get (ρ := ρ) hx
  have hc := call_ok ok hS hB hpc h1
  refine (hc (ownK w) w ι0 w (by rw [hG]; exact HR.start ρ w ι0) hsc).mono ?_
  rintro e w' ⟨ι', _, _, H, _, _, rfl⟩
  rw [h2]
  exact ⟨by simp [SVal.conc, Tm.den], H.grown⟩

theorem conj_den (ρ : Env) : ∀ l : List Tm, (∀ t ∈ l, (t.den ρ).asBool = true) → ((l.foldr mkAnd (.bit true)).den ρ).asBool = true
  | [], _ => rfl
  | t :: l, h => by
    rw [List.foldr_cons, mkAnd_den, h t (by simp), conj_den ρ l (fun u hu => h u (by simp [hu]))]
    rfl

theorem names_of {P : Program} (h : (P.funcs.toList.all fun fn => !(fn.name == "runtime.NumGoroutine")) = true) : ∀ (f : Nat) (fn : Func), P.funcs[f]? = some fn → (fn.name == "runtime.NumGoroutine") = false := by
  intro f fn hf
  have := List.all_eq_true.1 h fn (Array.mem_toList_iff.2 (Array.mem_of_getElem? hf))
  simpa using this

end Go.Sx
