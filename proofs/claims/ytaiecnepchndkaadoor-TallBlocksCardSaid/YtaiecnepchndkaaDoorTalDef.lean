/- For the seat: laws of two halfwords: the cases of the input. -/
import Derived.Test.YtaiecnepchndkaaDoorExpDef
namespace Go.Proofs.YtaiecnepchndkaaDoor
open Go.Sx Go.ChangeShapes Go.WideShapes Go.RowKit Go.Joins Go.Deep

set_option maxRecDepth 100000 in
theorem awake11 : isTrue (callT cx noS (run cx noS 3000) 32 [] [] (.bit true)) = true := by kernel_rfl
theorem body32 : ∃ fn c, cx.P.funcs[32]? = some fn ∧ fn.body = some c := ⟨Tryd.f32, _, Tryd.func32, rfl⟩

namespace tal
def kn : Kn := ⟨[], [], [], [], [0, 1]⟩
def pat2 : List SVal := [.int .i64 (.var 0), .int .i64 (.var 1)]
def pat3 : List SVal := [.int .i64 (.var 0), .int .i64 (.var 1), .bool (.var 2)]
def cases : List Cas :=
  [Cb.bits 0 0x8000 0, Cb.bits 0 0xC000 0x8000, Cb.bits 0 0xE000 0xC000, Cb.bits 0 0xF800 0xE000] ++
  (List.range 32).map (fun i => Cb.bits 0 0xFFF0 (0xE800 + 16 * i)) ++
  Cas.mul ((List.range 32).map fun i => Cb.bits 0 0xFFF0 (0xEA00 + 16 * i)) [Cb.bits 1 0x8000 0x8000, Cb.bits 1 0xC000 0x4000, Cb.bits 1 0xE000 0x2000, Cb.bits 1 0xF000 0x1000, Cb.bits 1 0xF080 0x80, Cb.bits 1 0xF0C0 0x40, Cb.bits 1 0xF0E0 0x20, Cb.bits 1 0xF0F0 0x10, Cb.bits 1 0xF0F0 0] ++
  (List.range 4).map (fun i => Cb.bits 0 0xFF00 (0xEC00 + 256 * i)) ++
  (List.range 32).map (fun i => Cb.bits 0 0xFFF0 (0xF000 + 16 * i)) ++
  (List.range 2).map (fun i => Cb.bits 0 0xFF00 (0xF200 + 256 * i)) ++
  (List.range 32).map (fun i => Cb.bits 0 0xFFF0 (0xF400 + 16 * i)) ++
  (List.range 2).map (fun i => Cb.bits 0 0xFF00 (0xF600 + 256 * i)) ++
  (List.range 16).map (fun i => Cb.bits 0 0xFFF0 (0xF800 + 16 * i)) ++
  (List.range 7).map (fun i => Cb.bits 0 0xFF00 (0xF900 + 256 * i))
def nth (j : Nat) : Cas := cases.getD j ⟨[], [], []⟩
noncomputable def at2 (f j : Nat) : Bool := (nth j).holds sg cxs' (expS 32) 3000 f pat2 kn
noncomputable def at3 (f j : Nat) : Bool := (nth j).holds sg cxs' (expS 32) 3000 f pat3 kn
set_option maxRecDepth 100000 in
theorem cov : pxT sg (anyT (cases.map Cas.cond)) kn (fun _ => true) = true := by kernel_rfl
set_option maxRecDepth 100000 in
theorem len : cases.length = 419 := by kernel_rfl
end tal

def scsT (a b : Int) (it : Bool) : List Sc := [.int a, .int b, .bool it]

theorem scsT_ok {a b : Int} (ha : kHas .i64 a) (hb : kHas .i64 b) (it : Bool) : VarsOk (envOf F1 (scsT a b it)) := by
  refine ⟨?_, F1_has⟩
  intro i
  match i with
  | 0 => exact ha
  | 1 => exact hb
  | 2 => exact zero_has
  | k + 3 => exact zero_has

theorem knT_ok {a b : Int} (ha : kHas .i64 a) (hb : kHas .i64 b) (it : Bool) : Sats (envOf F1 (scsT a b it)) tal.kn := by
  refine Sats.start (scsT_ok ha hb it) _ ?_
  intro i hi
  simp only [List.mem_cons, List.not_mem_nil, or_false] at hi
  rcases hi with rfl | rfl
  · exact ⟨_, rfl⟩
  · exact ⟨_, rfl⟩

theorem tal_three {f : Nat} (H : ∀ j : Nat, j < tal.cases.length → tal.at3 f j = true) {a b : Int} (ha : kHas .i64 a) (hb : kHas .i64 b) (it : Bool) {w : World} (hw : Laid w) : Calls Tryd.prog f #[.int .i64 a, .int .i64 b, .bool it] w fun e w' => e = .returned (.bool true) ∧ Grown w w' := by
  have so := sg_ok' (ρ := envOf F1 (scsT a b it)) F1_signs
  have S := knT_ok ha hb it
  obtain ⟨c, hc, hcond⟩ := cas_cov so S tal.cov
  obtain ⟨j, hj, hjc⟩ := List.getElem_of_mem hc
  have hnth : tal.nth j = c := by simp only [tal.nth, List.getD, List.getElem?_eq_getElem hj, Option.getD_some, hjc]
  have hgo := H j hj
  rw [tal.at3, hnth] at hgo
  exact holds_px (ρ := envOf F1 (scsT a b it)) cxsok' (expS_ok awake11 (scsT_ok ha hb it) F1_signs rfl rfl) (expS_body body32) (by intro v hv; simp [tal.pat3] at hv; rcases hv with rfl | rfl | rfl <;> rfl) hcond so S hgo w (start _ hw)

theorem tal_two {f : Nat} (H : ∀ j : Nat, j < tal.cases.length → tal.at2 f j = true) {a b : Int} (ha : kHas .i64 a) (hb : kHas .i64 b) {w : World} (hw : Laid w) : Calls Tryd.prog f #[.int .i64 a, .int .i64 b] w fun e w' => e = .returned (.bool true) ∧ Grown w w' := by
  have so := sg_ok' (ρ := envOf F1 (scsT a b false)) F1_signs
  have S := knT_ok ha hb false
  obtain ⟨c, hc, hcond⟩ := cas_cov so S tal.cov
  obtain ⟨j, hj, hjc⟩ := List.getElem_of_mem hc
  have hnth : tal.nth j = c := by simp only [tal.nth, List.getD, List.getElem?_eq_getElem hj, Option.getD_some, hjc]
  have hgo := H j hj
  rw [tal.at2, hnth] at hgo
  exact holds_px (ρ := envOf F1 (scsT a b false)) cxsok' (expS_ok awake11 (scsT_ok ha hb false) F1_signs rfl rfl) (expS_body body32) (by intro v hv; simp [tal.pat2] at hv; rcases hv with rfl | rfl <;> rfl) hcond so S hgo w (start _ hw)

end Go.Proofs.YtaiecnepchndkaaDoor
