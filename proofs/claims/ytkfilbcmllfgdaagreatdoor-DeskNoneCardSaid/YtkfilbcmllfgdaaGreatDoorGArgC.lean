/- For the seat: an argument that is a core, whose memory is not looked at. -/
import Derived.Test.YtkfilbcmllfgdaaGreatDoorGBase
import Derived.ChangeMaps5
import Derived.Deep.Slices
import Derived.OpenShut
namespace Go.Proofs.YtkfilbcmllfgdaaGreatDoor
open Go.RowKit Go.Sx Go.ChangeShapes Go.WideShapes Go.Joins Go.Deep

def zeroCore : Value := .agg #[.int .u32 0, .int .u32 0, .int .u32 0, .int .u32 0, .int .u32 0, .int .u32 0, .int .u32 0, .int .u32 0, .int .u32 0, .int .u32 0, .int .u32 0, .int .u32 0, .int .u32 0, .int .u32 0, .int .u32 0, .int .u32 0, .bool false, .bool false, .bool false, .bool false, .int .i64 0, .slice none 0 0]

section
variable {H : Type} {enc : TypeId × Value → H}

set_option maxRecDepth 100000 in
theorem ints_of {cs : List Value} (h : ∀ c ∈ cs, ∃ q, c = Value.int .u32 q) : ∃ R : List Int, cs = R.map (Value.int .u32) := by
  induction cs with
  | nil => exact ⟨[], rfl⟩
  | cons c cs ih =>
    obtain ⟨q, rfl⟩ := h c (List.mem_cons_self ..)
    obtain ⟨R, rfl⟩ := ih fun c hc => h c (List.mem_cons_of_mem _ hc)
    exact ⟨q :: R, rfl⟩

set_option maxRecDepth 100000 in
theorem open_regsC {W : World} {fuel : Nat} {cs : List Value} {x : DataW H × List MemPlace} (hl : cs.length = 16)
    (h : DataW.trod enc Tryz.prog W 0 (fun _ => true) true fuel 23 cs = some x) : ∃ R : List Int, cs = R.map (Value.int .u32) ∧ R.length = 16 := by
  have hc1 : Tryz.prog.cellsOf 22 = 1 := by kernel_rfl
  obtain ⟨ys, n', _, _, _, hyl, hg⟩ := DataW.trod_array Tryz.underlying23 h
  have each : ∀ c ∈ cs, ∃ q, c = Value.int .u32 q := by
    intro c hc
    obtain ⟨i, hi, rfl⟩ := List.getElem_of_mem hc
    have g := hg i (by omega)
    rw [hc1] at g
    have e : (cs.drop (i * 1)).take 1 = [cs[i]] := by
      rw [Nat.mul_one, List.drop_eq_getElem_cons hi]
      rfl
    rw [e, List.getElem?_eq_getElem (show i < ys.length by omega)] at g
    obtain ⟨q, e, _, w⟩ := DataW.trod_int Tryz.underlying22 g
    simp only [List.cons.injEq, and_true] at e
    exact ⟨q, e⟩
  obtain ⟨R, rfl⟩ := ints_of each
  exact ⟨R, rfl, by simpa using hl⟩

set_option maxRecDepth 100000 in
theorem open_flagsC {W : World} {fuel : Nat} {cs : List Value} {x : DataW H × List MemPlace} (hl : cs.length = 4)
    (h : DataW.trod enc Tryz.prog W 0 (fun _ => true) true fuel 25 cs = some x) : ∃ n z c v : Bool, cs = [.bool n, .bool z, .bool c, .bool v] := by
  have hc2 : Tryz.prog.cellsOf 4 = 1 := by kernel_rfl
  obtain ⟨ys, n', _, _, _, hyl, hg⟩ := DataW.trod_struct Tryz.underlying25 h
  match cs, hl, ys, hyl with
  | [c0, c1, c2, c3], _, [z0, z1, z2, z3], _ =>
    have g0 := hg 0 _ rfl
    simp [hc2] at g0
    have g1 := hg 1 _ rfl
    simp [hc2] at g1
    have g2 := hg 2 _ rfl
    simp [hc2] at g2
    have g3 := hg 3 _ rfl
    simp [hc2] at g3
    obtain ⟨q0, e0, _⟩ := DataW.trod_bool Tryz.underlying4 g0
    obtain ⟨q1, e1, _⟩ := DataW.trod_bool Tryz.underlying4 g1
    obtain ⟨q2, e2, _⟩ := DataW.trod_bool Tryz.underlying4 g2
    obtain ⟨q3, e3, _⟩ := DataW.trod_bool Tryz.underlying4 g3
    simp only [List.cons.injEq, and_true] at e0 e1 e2 e3
    subst e0 e1 e2 e3
    exact ⟨q0, q1, q2, q3, rfl⟩

set_option maxRecDepth 100000 in
/-- An argument that is a core: its cells but for the memory's. -/
theorem open_coreC {W : World} {r : Reach} {b0 : Nat} {v : Value} {dt : DataW H} {p : List MemPlace} (hv : Value.okWide Tryz.prog W r b0 28 v)
    (h : DataW.Trod enc Tryz.prog W 0 (fun _ => true) true 28 v dt p) : ∃ (R : List Int) (n z c v' : Bool) (it : Int) (m : Value), R.length = 16 ∧ v = .agg (R.map (Value.int .u32) ++ [.bool n, .bool z, .bool c, .bool v', .int .i64 it, m]).toArray := by
  obtain ⟨fuel, hf⟩ := h
  have hcR : Tryz.prog.cellsOf 23 = 16 := by kernel_rfl
  have hcF : Tryz.prog.cellsOf 25 = 4 := by kernel_rfl
  have hcI : Tryz.prog.cellsOf 3 = 1 := by kernel_rfl
  have hcM : Tryz.prog.cellsOf 26 = 1 := by kernel_rfl
  have hcc : Tryz.prog.cellsOf 28 = 22 := by kernel_rfl
  obtain ⟨cs, rfl, _⟩ := okWide_struct Tryz.underlying28 hv
  obtain ⟨ys, n', _, _, hcl, hyl, hg⟩ := DataW.trod_struct Tryz.underlying28 hf
  rw [hcc] at hcl
  obtain ⟨L, hL, hcs⟩ : ∃ L : List Value, L.length = 22 ∧ (Value.agg cs).cells.toList = L := ⟨_, hcl, rfl⟩
  rw [hcs] at hg
  match ys, hyl with
  | [z0, z1, z2, z3], _ =>
    have g0 := hg 0 _ rfl
    simp [hcR] at g0
    have g1 := hg 1 _ rfl
    simp [hcF] at g1
    have g2 := hg 2 _ rfl
    simp [hcI] at g2
    obtain ⟨R, eR, lR⟩ := open_regsC (by rw [List.length_take]; omega) g0
    obtain ⟨n, z, c, v, eF⟩ := open_flagsC (by rw [List.length_take, List.length_drop]; omega) g1
    obtain ⟨it, eI, _, wI⟩ := DataW.trod_int Tryz.underlying3 g2
    obtain ⟨m, eM⟩ : ∃ m, (L.drop 21).take 1 = [m] := by
      match hd : L.drop 21, (show (L.drop 21).length = 1 by rw [List.length_drop]; omega) with
      | [m], _ => exact ⟨m, rfl⟩
    refine ⟨R, n, z, c, v, it, m, lR, ?_⟩
    have hsplit : L = L.take 16 ++ ((L.drop 16).take 4 ++ ((L.drop 20).take 1 ++ (L.drop 21).take 1)) := by
      have a1 : (L.drop 21).take 1 = L.drop 21 := List.take_of_length_le (by rw [List.length_drop]; omega)
      have a2 : (L.drop 20).take 1 ++ L.drop 21 = L.drop 20 := by
        have := List.take_append_drop 1 (L.drop 20)
        rwa [List.drop_drop] at this
      have a3 : (L.drop 16).take 4 ++ L.drop 20 = L.drop 16 := by
        have := List.take_append_drop 4 (L.drop 16)
        rwa [List.drop_drop] at this
      rw [a1, a2, a3, List.take_append_drop]
    have h2 : cs.toList = R.map (Value.int .u32) ++ [Value.bool n, Value.bool z, Value.bool c, Value.bool v, Value.int .i64 it, m] := by
      have : cs.toList = L := hcs
      rw [this, hsplit, eR, eF, eI, eM]
      rfl
    have : cs = (R.map (Value.int .u32) ++ [Value.bool n, Value.bool z, Value.bool c, Value.bool v, Value.int .i64 it, m]).toArray := by
      rw [← Array.toList_inj]
      exact h2
    rw [this]

end
end Go.Proofs.YtkfilbcmllfgdaaGreatDoor
