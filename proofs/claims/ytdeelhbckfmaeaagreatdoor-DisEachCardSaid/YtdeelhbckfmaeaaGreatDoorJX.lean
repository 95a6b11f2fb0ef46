/- For the seat: texts joined: Enter, DlJA, DlJB. -/
import Derived.Test.YtdeelhbckfmaeaaGreatDoorCards
import Derived.Test.YtdeelhbckfmaeaaGreatDoorTie
import Derived.JoinedOf
/- For the seat: closed facts of its program, once. -/
namespace Go.Proofs.YtdeelhbckfmaeaaGreatDoor
open Go

theorem pEnter : Tryz.prog.mayEnter = true := by kernel_rfl
theorem pLifts : Tryz.prog.liftsFinal = Rows.disLabelsRow.lifted := by kernel_rfl
theorem pMake : Tryz.prog.make = some Rows.disLabelsRow.make := by kernel_rfl
theorem pMain : Tryz.prog.mainIs = some (true, "e50dffc3d95c5244bb103e50b948096c21be7792e16a25e759cfe2cd74cd5c3a".toList) := by kernel_rfl
theorem pLooks : true = Tryz.prog.looks [] := by kernel_rfl
end Go.Proofs.YtdeelhbckfmaeaaGreatDoor
/- DisLabels: closed facts of its program, the greater ones alone. -/
namespace Go.Proofs.YtdeelhbckfmaeaaGreatDoor.disLabels
open Go
set_option maxRecDepth 100000 in
theorem jInPlace : Tryz.prog.inPlace 4 = Rows.disLabelsRow.inPlace := by kernel_rfl
set_option maxRecDepth 100000 in
theorem jMaps : mapsRowed Tryz.prog = true := by kernel_rfl
end Go.Proofs.YtdeelhbckfmaeaaGreatDoor.disLabels
/- DisLabels: closed facts of its program, the greater ones alone. -/
namespace Go.Proofs.YtdeelhbckfmaeaaGreatDoor.disLabels
open Go
set_option maxRecDepth 100000
theorem jUnf : Tryz.prog.unfollowed 4 = true := by kernel_rfl
set_option maxRecDepth 100000 in
theorem noneGo : Tryz.prog.funcs.any Func.goes = false := by kernel_rfl
set_option maxRecDepth 100000 in
theorem goesNone {P : Program} (h : P.funcs.any Func.goes = false) (f : FuncId) : P.goes f = false := by
  have h1 : ∀ g : Nat, (P.funcs[g]?).any Func.goes = false := by
    intro g
    cases e : P.funcs[g]? with
    | none => rfl
    | some x =>
      rw [Array.getElem?_eq_some_iff] at e
      obtain ⟨hg, rfl⟩ := e
      have := Array.any_eq_false.1 h g hg
      simpa using this
  unfold Program.goes
  rw [h, Bool.and_false, Bool.or_false, List.any_eq_false]
  intro g _
  simp [h1 g]
set_option maxRecDepth 100000 in
/-- Where no function's text starts a goroutine, no call does. -/
theorem goesAtNone {P : Program} (h : P.funcs.any Func.goes = false) (s : Start) (f : String) : P.goesAt s f = false := by
  have h0 := goesNone h
  unfold Program.goesAt Program.goesFrom
  have h1 : (P.funcNamed f).any P.goes = false := by
    cases P.funcNamed f with
    | none => rfl
    | some f => exact h0 f
  have h2 : P.inits.toList.any P.goes = false := by
    rw [List.any_eq_false]
    intro f _
    rw [h0 f]
    exact Bool.false_ne_true
  rw [h1, Bool.false_or]
  split
  · rfl
  · exact h2
end Go.Proofs.YtdeelhbckfmaeaaGreatDoor.disLabels
