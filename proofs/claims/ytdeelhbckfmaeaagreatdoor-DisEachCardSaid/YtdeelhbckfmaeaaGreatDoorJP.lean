/- For the seat: texts joined: HPost, KrG. -/
import Derived.Test.YtdeelhbckfmaeaaGreatDoorJHz
import Derived.Test.YtdeelhbckfmaeaaGreatDoorTie
import Derived.Test.YtdeelhbckfmaeaaGreatDoorCards
import Derived.Carry
import Derived.ProofKit
import Derived.OpenShut
import Derived.Deep.Slices
import Derived.ChangeVars
import Derived.JoinedOf
import Derived.SevenTiedAt
import Derived.Lay
import Derived.LaidMore
import Derived.Stop.Joined
import Derived.Stop.LaidErr
import Derived.Lib.LaidTab
import Derived.Test.YtdeelhbckfmaeaaGreatDoorJE
/- For the seat: a law that answers true and only makes new memory meets its row; and what its laid variables give the walk. -/
namespace Go.Proofs.YtdeelhbckfmaeaaGreatDoor
open Go.Sx Go.ChangeShapes Go.WideShapes Go.RowKit Go.Joins Go.Deep

section
variable {H : Type} {enc : TypeId × Value → H}

set_option maxRecDepth 100000 in
theorem trodAll_below {P : Program} (hl : laidOutB P = true) {W W' : World} (hb : Below W.heap.size W W') :
    ∀ {ts : List TypeId} {vs : List Value} {ds : List (DataW H)} {ps : List MemPlace}, (∀ t ∈ ts, P.readableRec t = true ∧ t < P.types.size) →
      DataW.TrodAll enc P W 0 (fun _ => true) true ts vs ds ps → (∀ x ∈ ps, x.block < W.heap.size) → DataW.TrodAll enc P W' 0 (fun b => decide (b < W.heap.size)) true ts vs ds ps
  | [], _, _, _, _, h, _ => by
    obtain ⟨rfl, rfl, rfl⟩ := trodAll_nil h
    exact trodAll_mk0
  | t :: ts, _, _, _, hr, h, hlt => by
    obtain ⟨v, vs, d, ds, p, q, rfl, rfl, rfl, h0, r0⟩ := trodAll_cons h
    have ht := hr t (by simp)
    exact trodAll_cons_mk (Below.trod hl ht.1 ht.2 h0 hb (fun x hx => hlt x (by simp [hx]))) (trodAll_below hl hb (fun u hu => hr u (by simp [hu])) r0 (fun x hx => hlt x (by simp [hx])))

set_option maxRecDepth 100000 in
/-- A law's row: it answers true, and makes new memory alone. -/
theorem law_post {P : Program} (hl : laidOutB P = true) {f : Func} {s : ChangeSpec} {tb : TypeId} {W W' : World} {args : Array Value} {ds gs : List (DataW H)} {before : List MemPlace}
    (hs : s.vars = []) (hr : ∀ t ∈ f.params.toList, P.readableRec t = true ∧ t < P.types.size) (hW : DataW.Whole enc P f.params.toList s.vars false W args.toList ds gs before)
    (hb : Below W.heap.size W W') (ht : f.resultTypes = #[tb]) (hbool : P.underlying tb = some .bool) (hfn : s.fn H ds = { results := [.lit (.bool true)], args := ds }) :
    s.post enc P f false true false false W args (.bool true) W' := by
  have hlt := hW.lt
  have hW' := hW
  obtain ⟨p, q, hA, hV, rfl, _, _⟩ := hW
  rw [hs] at hV
  obtain ⟨rfl, rfl⟩ := trodVars_none hV
  refine ⟨ds, [], p ++ [], [], p, [], hW', ?_, ?_, ?_, ?_, fun h => by cases h⟩
  · rw [List.append_nil, hfn, ht]
    exact trodAll_mk1 (shut_bool hbool true)
  · rw [List.append_nil, hfn]
    exact trodAll_below hl hb hr hA (fun x hx => hlt x (by simp [hx]))
  · rw [List.append_nil, hfn, hs]
    rfl
  · exact hb.frame _

end

def spaceZ : List Int := (List.range 256).map fun i => bif (Nat.ble 9 i && Nat.ble i 13) || Nat.beq i 32 then 1 else 0

set_option maxRecDepth 100000 in
theorem laidMet_drop {P : Program} {w : World} : ∀ {l : List (String × DataW Unit)} (k : Nat), laidMet P l w → laidMet P (l.drop k) w
  | _, 0, h => h
  | [], _ + 1, h => h
  | _ :: l, k + 1, h => laidMet_drop (l := l) k h.tail

set_option maxRecDepth 100000 in
/-- The laid variable, wherever on the list. -/
theorem space_of {l : List (String × DataW Unit)} (k : Nat) {W : World} (hp : (l.all fun x => x.2.handleName?.isNone) = true)
    (he : l.drop k = ("strings.asciiSpace", Lib.tabData .u8 spaceZ) :: l.drop (k + 1)) (h : laidMetH Tryz.prog l W) : gx.Laid W := by
  rw [MakeChecks.laidMetH_plain _ _ _ hp] at h
  have h1 := laidMet_drop k h
  rw [he] at h1
  have h2 := Lib.tabIs_of_head (P := Tryz.prog) (W := W) (n := 256) (g := 2) (t := 341) (e := 5) (by kernel_rfl) (by kernel_rfl) Tryz.underlying341 Tryz.underlying5 (by kernel_rfl) (by kernel_rfl) h1
  unfold Lib.TabIs World.var? at h2
  rw [show Tryz.prog.globalNamed "strings.asciiSpace" = some 2 by kernel_rfl, Option.bind_some] at h2
  revert h2
  split
  · rename_i cs t fz hc
    intro h2
    obtain rfl := Option.some.inj h2
    exact ⟨_, _, _, hc, by
      rw [List.toList_toArray]
      exact (by kernel_rfl : spaceZ.map (fun z => Value.int .u8 z) = gx.spaceC)⟩
  · intro h2
    cases h2

set_option maxRecDepth 100000 in
theorem laidOutQ : laidOutB Tryz.prog = true := by kernel_rfl
end Go.Proofs.YtdeelhbckfmaeaaGreatDoor
/- For the seat: an argument that is an image. -/
namespace Go.Proofs.YtdeelhbckfmaeaaGreatDoor
open Go.Sx Go.ChangeShapes Go.WideShapes Go.RowKit Go.Joins Go.Deep

section
variable {H : Type} {enc : TypeId × Value → H}

set_option maxRecDepth 100000 in
theorem oneNone {w : World} {a : Addr} {v : Value} (h : w.cell? a = some v) : a.spot = none := by
  unfold World.cell? at h
  split at h
  · cases hs : a.spot with
    | none => rfl
    | some x => simp [hs] at h
  · cases h

set_option maxRecDepth 100000 in
/-- The cells of an instruction in a row. -/
theorem open_cellsI {W : World} {fuel : Nat} {cs : List Value} {x : DataW H × List MemPlace} (hl : cs.length = 9) (h : DataW.trod enc Tryz.prog W 0 (fun _ => true) true fuel 30 cs = some x) : ∃ y : Fields, y.Ok ∧ cs = y.cells.toList := by
  have hc1 : Tryz.prog.cellsOf 3 = 1 := by kernel_rfl
  have hc2 : Tryz.prog.cellsOf 4 = 1 := by kernel_rfl
  obtain ⟨ys, n', _, _, _, hyl, hg⟩ := DataW.trod_struct Tryz.underlying30 h
  match cs, hl, ys, hyl with
  | [c0, c1, c2, c3, c4, c5, c6, c7, c8], _, [z0, z1, z2, z3, z4, z5, z6, z7, z8], _ =>
    have g0 := hg 0 _ rfl
    simp [hc1] at g0
    have g1 := hg 1 _ rfl
    simp [hc1] at g1
    have g2 := hg 2 _ rfl
    simp [hc1] at g2
    have g3 := hg 3 _ rfl
    simp [hc1] at g3
    have g4 := hg 4 _ rfl
    simp [hc1] at g4
    have g5 := hg 5 _ rfl
    simp [hc1] at g5
    have g6 := hg 6 _ rfl
    simp [hc1] at g6
    have g7 := hg 7 _ rfl
    simp [hc1] at g7
    have g8 := hg 8 _ rfl
    simp [hc2] at g8
    obtain ⟨q0, e0, _, w0⟩ := DataW.trod_int Tryz.underlying3 g0
    obtain ⟨q1, e1, _, w1⟩ := DataW.trod_int Tryz.underlying3 g1
    obtain ⟨q2, e2, _, w2⟩ := DataW.trod_int Tryz.underlying3 g2
    obtain ⟨q3, e3, _, w3⟩ := DataW.trod_int Tryz.underlying3 g3
    obtain ⟨q4, e4, _, w4⟩ := DataW.trod_int Tryz.underlying3 g4
    obtain ⟨q5, e5, _, w5⟩ := DataW.trod_int Tryz.underlying3 g5
    obtain ⟨q6, e6, _, w6⟩ := DataW.trod_int Tryz.underlying3 g6
    obtain ⟨q7, e7, _, w7⟩ := DataW.trod_int Tryz.underlying3 g7
    obtain ⟨q8, e8, _⟩ := DataW.trod_bool Tryz.underlying4 g8
    simp only [List.cons.injEq, and_true] at e0 e1 e2 e3 e4 e5 e6 e7 e8
    subst e0 e1 e2 e3 e4 e5 e6 e7 e8
    exact ⟨⟨q0, q1, q2, q3, q4, q5, q6, q7, q8⟩, ⟨wf_has w0, wf_has w1, wf_has w2, wf_has w3, wf_has w4, wf_has w5, wf_has w6, wf_has w7⟩, rfl⟩

set_option maxRecDepth 100000 in
/-- Cells of a slice of numbers. -/
theorem open_ints' {W : World} {fuel : Nat} {cs : List Value} {x : DataW H × List MemPlace} (h : DataW.trod enc Tryz.prog W 0 (fun _ => true) true fuel 31 cs = some x) :
    ∃ (A : Option Addr) (cap : Nat) (l : List Int), cs = [.slice A l.length cap] ∧ IAt W W.heap.size A l ∧ (∀ x ∈ l, kHas .i64 x) ∧ l.length ≤ maxLen ∧ l.length ≤ cap := by
  rcases open_slice1 Tryz.underlying31 (by kernel_rfl) h with ⟨hc, _⟩ | ⟨a, n0, cap, m, n, V, D, Pl, hc, _, hl, hm, hmm, hx, hi⟩
  · exact ⟨none, 0, [], hc, fun h => absurd rfl h, by simp, Nat.zero_le _, Nat.zero_le _⟩
  · simp only [if_true] at hmm
    subst hmm
    have each : ∀ i, i < n0 → ∃ y : Int, kHas .i64 y ∧ W.cell? (a.add i) = some (.int .i64 y) := by
      intro i hin
      obtain ⟨h1, h2⟩ := hi i (by omega)
      obtain ⟨q, e, _, w⟩ := DataW.trod_int Tryz.underlying3 h2
      simp only [List.cons.injEq, and_true] at e
      exact ⟨q, wf_has w, by rw [h1, e]⟩
    have hch : ∃ F : Nat → Int, ∀ i, i < n0 → kHas .i64 (F i) ∧ W.cell? (a.add i) = some (.int .i64 (F i)) := by
      refine ⟨fun i => if h : i < n0 then Classical.choose (each i h) else 0, fun i hin => ?_⟩
      simp only [hin, dif_pos]
      exact Classical.choose_spec (each i hin)
    obtain ⟨F, hF⟩ := hch
    refine ⟨some a, _, (List.range n0).map F, by rw [List.length_map, List.length_range]; exact hc, ?_, ?_, by simp; omega, by simpa using hl⟩
    · intro hne
      have hn0 : 0 < n0 := by
        rcases Nat.eq_zero_or_pos n0 with e | e
        · subst e; simp at hne
        · exact e
      have k0 := (hF 0 hn0).2
      have hsp : a.spot = none := by
        have : a.add 0 = a := by simp [Addr.add]
        rw [this] at k0
        exact oneNone k0
      have hab : a.block < W.heap.size := by
        have := World.block_lt_of_cell? W _ k0
        simpa [Addr.add] using this
      obtain ⟨ab, ao, asp⟩ := a
      simp only at hsp hab
      subst hsp
      have hadd : ∀ m n, (⟨ab, m, none⟩ : Addr).add n = ⟨ab, m + n, none⟩ := fun m n => by unfold Addr.add; split <;> simp_all
      refine ⟨ab, ao, rfl, hab, fun i x hx => ?_⟩
      have hin : i < n0 := by
        have := (List.getElem?_eq_some_iff.1 hx).1
        simpa using this
      have hx' : F i = x := by simpa [hin] using hx
      have := (hF i hin).2
      rw [hx', hadd] at this
      exact this
    · intro x hx
      obtain ⟨i, hin, rfl⟩ := List.mem_map.1 hx
      exact (hF i (by simpa using hin)).1

set_option maxRecDepth 100000 in
/-- The cells of an item. -/
theorem open_itm {W : World} {fuel : Nat} {cs : List Value} {x : DataW H × List MemPlace} (hl : cs.length = 15) (h : DataW.trod enc Tryz.prog W 0 (fun _ => true) true fuel 33 cs = some x) :
    ∃ y : Itm, y.Ok ∧ IAt W W.heap.size y.V y.vs ∧ cs = y.cells.toList := by
  have hc1 : Tryz.prog.cellsOf 3 = 1 := by kernel_rfl
  have hc2 : Tryz.prog.cellsOf 30 = 9 := by kernel_rfl
  have hc3 : Tryz.prog.cellsOf 31 = 1 := by kernel_rfl
  obtain ⟨ys, n', _, _, _, hyl, hg⟩ := DataW.trod_struct Tryz.underlying33 h
  match cs, hl, ys, hyl with
  | [c0, c1, c2, c3, c4, c5, c6, c7, c8, c9, c10, c11, c12, c13, c14], _, [z0, z1, z2, z3, z4, z5, z6], _ =>
    have g0 := hg 0 _ rfl
    simp [hc1] at g0
    have g1 := hg 1 _ rfl
    simp [hc1] at g1
    have g2 := hg 2 _ rfl
    simp [hc1] at g2
    have g3 := hg 3 _ rfl
    simp [hc1] at g3
    have g4 := hg 4 _ rfl
    simp [hc1] at g4
    have g5 := hg 5 _ rfl
    simp [hc2] at g5
    have g6 := hg 6 _ rfl
    simp [hc3] at g6
    obtain ⟨q0, e0, _, w0⟩ := DataW.trod_int Tryz.underlying3 g0
    obtain ⟨q1, e1, _, w1⟩ := DataW.trod_int Tryz.underlying3 g1
    obtain ⟨q2, e2, _, w2⟩ := DataW.trod_int Tryz.underlying3 g2
    obtain ⟨q3, e3, _, w3⟩ := DataW.trod_int Tryz.underlying3 g3
    obtain ⟨q4, e4, _, w4⟩ := DataW.trod_int Tryz.underlying3 g4
    obtain ⟨f, hf, e5⟩ := open_cellsI rfl g5
    obtain ⟨V, vc, vs, e6, hV, hvs, hvl, hvc⟩ := open_ints' g6
    obtain ⟨f0, f1, f2, f3, f4, f5, f6, f7, fb⟩ := f
    simp only [List.cons.injEq, and_true] at e0 e1 e2 e3 e4 e5 e6
    obtain ⟨rfl, rfl, rfl, rfl, rfl, rfl, rfl, rfl, rfl⟩ := e5
    subst e0 e1 e2 e3 e4 e6
    exact ⟨⟨q0, q1, q2, q3, q4, ⟨f0, f1, f2, f3, f4, f5, f6, f7, fb⟩, V, vc, vs⟩, ⟨wf_has w0, wf_has w1, wf_has w2, wf_has w3, wf_has w4, hf, hvs, hvl, hvc⟩, hV, rfl⟩

set_option maxRecDepth 100000 in
/-- The cells of a slice of items. -/
theorem open_items {W : World} {fuel : Nat} {cs : List Value} {x : DataW H × List MemPlace} (h : DataW.trod enc Tryz.prog W 0 (fun _ => true) true fuel 22 cs = some x) :
    ∃ (A : Option Addr) (cap : Nat) (l : List Itm), cs = [.slice A l.length cap] ∧ ItAt W W.heap.size A l ∧ (∀ y ∈ l, y.Ok) ∧ l.length ≤ maxLen := by
  rcases open_slice Tryz.underlying22 h with ⟨hc, _⟩ | ⟨a, n0, cap, m, n, D, Pl, hc, _, hl, hm, hmm, hx, hi⟩
  · exact ⟨none, 0, [], hc, ⟨fun h => absurd rfl h, by simp⟩, by simp, Nat.zero_le _⟩
  · simp only [if_true] at hmm
    subst hmm
    have hcc : Tryz.prog.cellsOf 33 = 15 := by kernel_rfl
    have each : ∀ i, i < n0 → ∃ y : Itm, y.Ok ∧ IAt W W.heap.size y.V y.vs ∧ ∀ (j : Nat) (v : Value), y.cells[j]? = some v → W.cell? ((a.add (i * 15)).add j) = some v := by
      intro i hin
      obtain ⟨cs, h1, h2⟩ := hi i (by omega)
      rw [hcc] at h1
      obtain ⟨_, hlen, hat⟩ := World.cells?_some h1
      obtain ⟨y, hy, hV, rfl⟩ := open_itm hlen h2
      refine ⟨y, hy, hV, fun j v hv => ?_⟩
      have hj : j < 15 := by have := (Array.getElem?_eq_some_iff.1 hv).1; simpa using this
      rw [hat j hj]
      simpa using hv
    have hch : ∃ F : Nat → Itm, ∀ i, i < n0 → (F i).Ok ∧ IAt W W.heap.size (F i).V (F i).vs ∧ ∀ (j : Nat) (v : Value), (F i).cells[j]? = some v → W.cell? ((a.add (i * 15)).add j) = some v := by
      refine ⟨fun i => if h : i < n0 then Classical.choose (each i h) else ⟨0, 0, 0, 0, 0, ⟨0, 0, 0, 0, 0, 0, 0, 0, false⟩, none, 0, []⟩, fun i hin => ?_⟩
      simp only [hin, dif_pos]
      exact Classical.choose_spec (each i hin)
    obtain ⟨F, hF⟩ := hch
    refine ⟨some a, _, (List.range n0).map F, by rw [List.length_map, List.length_range]; exact hc, ⟨?_, ?_⟩, ?_, by simp; omega⟩
    · intro hne
      have hn0 : 0 < n0 := by
        rcases Nat.eq_zero_or_pos n0 with e | e
        · subst e; simp at hne
        · exact e
      have k0 := (hF 0 hn0).2.2 0 _ rfl
      have hsp : a.spot = none := by
        have : (a.add (0 * 15)).add 0 = a := by simp [Addr.add]
        rw [this] at k0
        exact oneNone k0
      have hab : a.block < W.heap.size := by
        have := World.block_lt_of_cell? W _ k0
        simpa [Addr.add] using this
      obtain ⟨ab, ao, asp⟩ := a
      simp only at hsp hab
      subst hsp
      have hadd : ∀ m n, (⟨ab, m, none⟩ : Addr).add n = ⟨ab, m + n, none⟩ := fun m n => by unfold Addr.add; split <;> simp_all
      refine ⟨ab, ao, rfl, hab, fun i x hx j v hv => ?_⟩
      have hin : i < n0 := by
        have := (List.getElem?_eq_some_iff.1 hx).1
        simpa using this
      have hx' : F i = x := by simpa [hin] using hx
      have := (hF i hin).2.2 j v (by rw [hx']; exact hv)
      rw [hadd, hadd] at this
      exact this
    · intro x hx
      obtain ⟨i, hin, rfl⟩ := List.mem_map.1 hx
      exact (hF i (by simpa using hin)).2.1
    · intro x hx
      obtain ⟨i, hin, rfl⟩ := List.mem_map.1 hx
      exact (hF i (by simpa using hin)).1

set_option maxRecDepth 100000 in
/-- An argument that is an image. -/
theorem open_code {W : World} {r : Reach} {b0 : Nat} {v : Value} {d : DataW H} {p : List MemPlace} (hv : Value.okWide Tryz.prog W r b0 24 v)
    (h : DataW.Trod enc Tryz.prog W 0 (fun _ => true) true 24 v d p) : ∃ (s : ByteArray) (A : Option Addr) (cap : Nat) (l : List Itm), v = .agg #[.string s, .slice A l.length cap] ∧ ItAt W W.heap.size A l ∧ (∀ x ∈ l, x.Ok) ∧ l.length ≤ maxLen ∧ s.size ≤ maxLen := by
  obtain ⟨fuel, hf⟩ := h
  have hc1 : Tryz.prog.cellsOf 9 = 1 := by kernel_rfl
  have hc2 : Tryz.prog.cellsOf 22 = 1 := by kernel_rfl
  have hcc : Tryz.prog.cellsOf 24 = 2 := by kernel_rfl
  obtain ⟨cs, rfl, _⟩ := okWide_struct Tryz.underlying24 hv
  obtain ⟨ys, n', _, _, hcl, hyl, hg⟩ := DataW.trod_struct Tryz.underlying24 hf
  rw [hcc] at hcl
  obtain ⟨c0, c1, hcs⟩ : ∃ c0 c1, (Value.agg cs).cells.toList = [c0, c1] := by
    match hq : (Value.agg cs).cells.toList, hcl with
    | [c0, c1], _ => exact ⟨c0, c1, rfl⟩
  rw [hcs] at hg
  match ys, hyl with
  | [z0, z1], _ =>
    have g0 := hg 0 _ rfl
    simp [hc1] at g0
    have g1 := hg 1 _ rfl
    simp [hc2] at g1
    obtain ⟨s, e0, _, hs⟩ := DataW.trod_string Tryz.underlying9 g0
    obtain ⟨A, cap, l, e1, hI, hk, hl⟩ := open_items g1
    simp only [List.cons.injEq, and_true] at e0 e1
    subst e0 e1
    refine ⟨s, A, cap, l, ?_, hI, hk, hl, hs⟩
    have : cs = #[.string s, .slice A l.length cap] := by
      have h2 : cs.toList = [.string s, .slice A l.length cap] := hcs
      rw [← Array.toList_inj]; exact h2
    rw [this]
end
end Go.Proofs.YtdeelhbckfmaeaaGreatDoor
