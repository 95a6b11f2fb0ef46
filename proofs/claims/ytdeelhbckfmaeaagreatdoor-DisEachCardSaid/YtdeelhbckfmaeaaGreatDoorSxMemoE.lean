/- What a call on the empty heap answers, once run, is not run again: with what it leaves on the heap, under new names. -/
import Derived.Test.YtdeelhbckfmaeaaGreatDoorSxLop
import Derived.Test.YtdeelhbckfmaeaaGreatDoorSxFlat
namespace Go.Sx
noncomputable section
open Go.RowKit

def stOf (v : SVal) (h : Heap) : St := { n := 1, slots := [(0, some v)], heap := h, pc := .bit true }

/-- Does the call answer so, and leave (among others) such a heap, its names by m? -/
def memoE (cx : Cx) (S : Specs) (n : Nat) (f : Nat) (args : List SVal) (v : SVal) (h1 : Heap) (m : List Nat) : Bool :=
  match callT cx S (run cx S n) f args [] (.bit true) with
  | .leaf r => stM (repT 0 (.var 0)) (fun i => m.getD i 0) [] (stOf v h1) (stOf r.v r.h)
  | _ => false

def memoES (f : Nat) (args : List SVal) (v : SVal) (h1 : Heap) : Specs := fun g => match Nat.beq g f with
  | true => some fun a h pc => match decide (a = args), h with
    | true, [] => .leaf ⟨v, h1, pc⟩
    | _, _ => .fail "not known"
  | false => none

theorem memoES_ok {ρ : Env} {cx : Cx} (ok : cx.Ok) {S : Specs} (hS : S.Ok ρ cx) (hSb : ∀ g, S g ≠ none → ∃ fn c, cx.P.funcs[g]? = some fn ∧ fn.body = some c) {n f : Nat} {args : List SVal} {v : SVal} {h1 : Heap} {m : List Nat}
    (hb : memoE cx S n f args v h1 m = true) : (memoES f args v h1).Ok ρ cx := by
  intro g sp hg a h pc x hpc hx
  unfold memoES at hg
  split at hg
  · rename_i hgf
    obtain rfl : g = f := Nat.eq_of_beq_eq_true hgf
    simp only [Option.some.injEq] at hg
    subst hg
    dsimp only at hx
    split at hx
    · rename_i ha
      have he : a = args := of_decide_eq_true ha
      subst he
      simp only [Tree.get, Option.some.injEq] at hx
      subst hx
      unfold memoE at hb
      split at hb
      · rename_i r hr
        have hc : CallOk ρ cx.globs cx.P g a [] r := call_ok ok hS hSb (pc := .bit true) rfl (by rw [hr]; rfl)
        intro K w0 ι w H hsc
        refine (hc K w0 ι w H hsc).mono ?_
        rintro e w' ⟨ι', _, _, H', hvs, _, rfl⟩
        have g0 : Gam ρ cx.globs K w0 ι' (stOf r.v r.h) ⟨#[r.v.conc ρ ι'], []⟩ w' := by
          refine ⟨rfl, ?_, ?_, H', rfl⟩
          · rfl
          · intro i u hu
            match i with
            | 0 =>
              have hu : some r.v = some u := hu
              obtain rfl := Option.some.inj hu
              exact ⟨rfl, hvs⟩
            | i + 1 =>
              rw [show (stOf r.v r.h).slots = [(0, some r.v)] from rfl, Slots.get_cons_ne (by omega), Slots.get_nil] at hu
              cases hu
        have g1 := stM_gam (ρ' := ρ) (i := 0) (r := .var 0) (E := []) (Env.set_self rfl).symm (fun p hp => by cases hp) (fun _ _ _ => rfl) g0 hb rfl
        obtain ⟨q1, q2⟩ := g1.slots 0 v rfl
        have q3 : r.v.conc ρ ι' = v.conc ρ (ι'.via fun i => m.getD i 0) := by
          simpa using q1
        exact ⟨ι'.via fun i => m.getD i 0, ext_zero _ _, Nat.zero_le _, g1.heap, q2, hpc, by rw [q3]⟩
      · cases hb
    · simp [Tree.get] at hx
  · cases hg

theorem memoES_body {cx : Cx} {f : Nat} {args : List SVal} {v : SVal} {h1 : Heap} (hf : ∃ fn c, cx.P.funcs[f]? = some fn ∧ fn.body = some c) : ∀ g, memoES f args v h1 g ≠ none → ∃ fn c, cx.P.funcs[g]? = some fn ∧ fn.body = some c := by
  intro g hg
  unfold memoES at hg
  split at hg
  · rename_i hgf
    obtain rfl : g = f := Nat.eq_of_beq_eq_true hgf
    exact hf
  · exact (hg rfl).elim
end
end Go.Sx
