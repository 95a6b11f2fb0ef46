/- For the seat: texts joined: Args. -/
import Derived.Test.YtiicniiecomhjaaDoorJPost
import Derived.Test.YtiicniiecomhjaaDoorJD
/- For the seat: an argument that is a row of instructions; one that is a row of numbers. -/
namespace Go.Proofs.YtiicniiecomhjaaDoor
open Go.Sx Go.ChangeShapes Go.WideShapes Go.RowKit Go.Joins Go.Deep

section
variable {H : Type} {enc : TypeId × Value → H}

theorem oneNone {w : World} {a : Addr} {v : Value} (h : w.cell? a = some v) : a.spot = none := by
  unfold World.cell? at h
  split at h
  · cases hs : a.spot with
    | none => rfl
    | some x => simp [hs] at h
  · cases h

set_option maxRecDepth 100000 in
/-- The cells of an instruction in a row. -/
theorem open_cellsI {W : World} {fuel : Nat} {cs : List Value} {x : DataW H × List MemPlace} (hl : cs.length = 9) (h : DataW.trod enc Tryd.prog W 0 (fun _ => true) true fuel 29 cs = some x) : ∃ y : Fields, y.Ok ∧ cs = y.cells.toList := by
  have hc1 : Tryd.prog.cellsOf 3 = 1 := by kernel_rfl
  have hc2 : Tryd.prog.cellsOf 4 = 1 := by kernel_rfl
  obtain ⟨ys, n', _, _, _, hyl, hg⟩ := DataW.trod_struct Tryd.underlying29 h
  match cs, hl, ys, hyl with
  | [c0, c1, c2, c3, c4, c5, c6, c7, c8], _, [z0, z1, z2, z3, z4, z5, z6, z7, z8], _ =>
    have g0 := hg 0 _ rfl
    simp [hc1] at g0
    have g1 := hg 1 _ rfl
    simp [hc1] at g1
    have g2 := hg 2 _ rfl
    simp [hc1] at g2
    have g3 := hg 3 _ rfl
    simp [hc1] at g3
    have g4 := hg 4 _ rfl
    simp [hc1] at g4
    have g5 := hg 5 _ rfl
    simp [hc1] at g5
    have g6 := hg 6 _ rfl
    simp [hc1] at g6
    have g7 := hg 7 _ rfl
    simp [hc1] at g7
    have g8 := hg 8 _ rfl
    simp [hc2] at g8
    obtain ⟨q0, e0, _, w0⟩ := DataW.trod_int Tryd.underlying3 g0
    obtain ⟨q1, e1, _, w1⟩ := DataW.trod_int Tryd.underlying3 g1
    obtain ⟨q2, e2, _, w2⟩ := DataW.trod_int Tryd.underlying3 g2
    obtain ⟨q3, e3, _, w3⟩ := DataW.trod_int Tryd.underlying3 g3
    obtain ⟨q4, e4, _, w4⟩ := DataW.trod_int Tryd.underlying3 g4
    obtain ⟨q5, e5, _, w5⟩ := DataW.trod_int Tryd.underlying3 g5
    obtain ⟨q6, e6, _, w6⟩ := DataW.trod_int Tryd.underlying3 g6
    obtain ⟨q7, e7, _, w7⟩ := DataW.trod_int Tryd.underlying3 g7
    obtain ⟨q8, e8, _⟩ := DataW.trod_bool Tryd.underlying4 g8
    simp only [List.cons.injEq, and_true] at e0 e1 e2 e3 e4 e5 e6 e7 e8
    subst e0 e1 e2 e3 e4 e5 e6 e7 e8
    exact ⟨⟨q0, q1, q2, q3, q4, q5, q6, q7, q8⟩, ⟨wf_has w0, wf_has w1, wf_has w2, wf_has w3, wf_has w4, wf_has w5, wf_has w6, wf_has w7⟩, rfl⟩


/-- An argument that is a slice of numbers. -/
theorem open_ints {W : World} {r : Reach} {b0 : Nat} {v : Value} {d : DataW H} {p : List MemPlace} (hv : Value.okWide Tryd.prog W r b0 30 v)
    (h : DataW.Trod enc Tryd.prog W 0 (fun _ => true) true 30 v d p) : ∃ (A : Option Addr) (cap : Nat) (l : List Int), v = .slice A l.length cap ∧ IAt W W.heap.size A l ∧ (∀ x ∈ l, kHas .i64 x) ∧ l.length ≤ maxLen ∧ l.length ≤ cap ∧ (A = none → cap = 0) := by
  obtain ⟨fuel, hf⟩ := h
  obtain ⟨a0, n0, c0, rfl⟩ := okWide_slice Tryd.underlying30 hv
  rcases open_slice1 Tryd.underlying30 (by kernel_rfl) hf with ⟨hc, _⟩ | ⟨a, len, cap, m, n, V, D, Pl, hc, _, hl, hm, hmm, hx, hi⟩
  · simp [Value.cells] at hc
    obtain ⟨rfl, rfl, rfl⟩ := hc
    exact ⟨none, 0, [], rfl, fun h => absurd rfl h, by simp, Nat.zero_le _, Nat.zero_le _, fun _ => rfl⟩
  · simp [Value.cells] at hc
    obtain ⟨rfl, rfl, rfl⟩ := hc
    simp only [if_true] at hmm
    subst hmm
    have each : ∀ i, i < n0 → ∃ y : Int, kHas .i64 y ∧ W.cell? (a.add i) = some (.int .i64 y) := by
      intro i hin
      obtain ⟨h1, h2⟩ := hi i (by omega)
      obtain ⟨q, e, _, w⟩ := DataW.trod_int Tryd.underlying3 h2
      simp only [List.cons.injEq, and_true] at e
      exact ⟨q, wf_has w, by rw [h1, e]⟩
    have hch : ∃ F : Nat → Int, ∀ i, i < n0 → kHas .i64 (F i) ∧ W.cell? (a.add i) = some (.int .i64 (F i)) := by
      refine ⟨fun i => if h : i < n0 then Classical.choose (each i h) else 0, fun i hin => ?_⟩
      simp only [hin, dif_pos]
      exact Classical.choose_spec (each i hin)
    obtain ⟨F, hF⟩ := hch
    refine ⟨some a, _, (List.range n0).map F, by rw [List.length_map, List.length_range], ?_, ?_, by simp; omega, by simpa using hl, fun h => by cases h⟩
    · intro hne
      have hn0 : 0 < n0 := by
        rcases Nat.eq_zero_or_pos n0 with e | e
        · subst e; simp at hne
        · exact e
      have k0 := (hF 0 hn0).2
      have hsp : a.spot = none := by
        have : a.add 0 = a := by simp [Addr.add]
        rw [this] at k0
        exact oneNone k0
      have hab : a.block < W.heap.size := by
        have := World.block_lt_of_cell? W _ k0
        simpa [Addr.add] using this
      obtain ⟨ab, ao, asp⟩ := a
      simp only at hsp hab
      subst hsp
      have hadd : ∀ m n, (⟨ab, m, none⟩ : Addr).add n = ⟨ab, m + n, none⟩ := fun m n => by unfold Addr.add; split <;> simp_all
      refine ⟨ab, ao, rfl, hab, fun i x hx => ?_⟩
      have hin : i < n0 := by
        have := (List.getElem?_eq_some_iff.1 hx).1
        simpa using this
      have hx' : F i = x := by simpa [hin] using hx
      have := (hF i hin).2
      rw [hx', hadd] at this
      exact this
    · intro x hx
      obtain ⟨i, hin, rfl⟩ := List.mem_map.1 hx
      exact (hF i (by simpa using hin)).1
end
end Go.Proofs.YtiicniiecomhjaaDoor
