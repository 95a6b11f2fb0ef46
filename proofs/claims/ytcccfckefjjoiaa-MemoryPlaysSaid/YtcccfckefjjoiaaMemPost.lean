/- A law that answers true and only makes new memory meets its row; arguments that are cells. -/
import Derived.Test.YtcccfckefjjoiaaMemAwake
import Derived.Carry
import Derived.ProofKit
import Derived.OpenShut
import Derived.Deep.Slices
namespace Go.Proofs.Ytcccfckefjjoiaa
open Go.ChangeShapes Go.WideShapes Go.RowKit Go.Mem Go.Deep

section
variable {H : Type} {enc : TypeId × Value → H}

theorem trodAll_below {P : Program} (hl : laidOutB P = true) {W W' : World} (hb : Below W.heap.size W W') :
    ∀ {ts : List TypeId} {vs : List Value} {ds : List (DataW H)} {ps : List MemPlace}, (∀ t ∈ ts, P.readableRec t = true ∧ t < P.types.size) →
      DataW.TrodAll enc P W 0 (fun _ => true) true ts vs ds ps → (∀ x ∈ ps, x.block < W.heap.size) → DataW.TrodAll enc P W' 0 (fun b => decide (b < W.heap.size)) true ts vs ds ps
  | [], _, _, _, _, h, _ => by
    obtain ⟨rfl, rfl, rfl⟩ := trodAll_nil h
    exact trodAll_mk0
  | t :: ts, _, _, _, hr, h, hlt => by
    obtain ⟨v, vs, d, ds, p, q, rfl, rfl, rfl, h0, r0⟩ := trodAll_cons h
    have ht := hr t (by simp)
    exact trodAll_cons_mk (Below.trod hl ht.1 ht.2 h0 hb (fun x hx => hlt x (by simp [hx]))) (trodAll_below hl hb (fun u hu => hr u (by simp [hu])) r0 (fun x hx => hlt x (by simp [hx])))

/-- A law's row: it answers true, and makes new memory alone. -/
theorem law_post {P : Program} (hl : laidOutB P = true) {f : Func} {s : ChangeSpec} {tb : TypeId} {W W' : World} {args : Array Value} {ds gs : List (DataW H)} {before : List MemPlace}
    (hs : s.vars = []) (hr : ∀ t ∈ f.params.toList, P.readableRec t = true ∧ t < P.types.size) (hW : DataW.Whole enc P f.params.toList s.vars false W args.toList ds gs before)
    (hb : Below W.heap.size W W') (ht : f.resultTypes = #[tb]) (hbool : P.underlying tb = some .bool) (hfn : s.fn H ds = { results := [.lit (.bool true)], args := ds }) :
    s.post enc P f false true false false W args (.bool true) W' := by
  have hlt := hW.lt
  have hW' := hW
  obtain ⟨p, q, hA, hV, rfl, _, _⟩ := hW
  rw [hs] at hV
  obtain ⟨rfl, rfl⟩ := trodVars_none hV
  refine ⟨ds, [], p ++ [], [], p, [], hW', ?_, ?_, ?_, ?_, fun h => by cases h⟩
  · rw [List.append_nil, hfn, ht]
    exact trodAll_mk1 (shut_bool hbool true)
  · rw [List.append_nil, hfn]
    exact trodAll_below hl hb hr hA (fun x hx => hlt x (by simp [hx]))
  · rw [List.append_nil, hfn, hs]
    rfl
  · exact hb.frame _

theorem oneNone {w : World} {a : Addr} {v : Value} (h : w.cell? a = some v) : a.spot = none := by
  unfold World.cell? at h
  split at h
  · cases hs : a.spot with
    | none => rfl
    | some x => simp [hs] at h
  · cases h

/-- An argument that is a slice of cells. -/
theorem open_cells {W : World} {r : Reach} {b0 : Nat} {v : Value} {d : DataW H} {p : List MemPlace} (hv : Value.okWide Try.prog W r b0 22 v)
    (h : DataW.Trod enc Try.prog W 0 (fun _ => true) true 22 v d p) : ∃ (A : Option Addr) (cap : Nat) (l : Cells), v = .slice A l.length cap ∧ ClAt W W.heap.size A l ∧ InR l ∧ l.length ≤ maxLen := by
  obtain ⟨fuel, hf⟩ := h
  obtain ⟨a0, n0, c0, rfl⟩ := okWide_slice Try.underlying22 hv
  rcases open_slice Try.underlying22 hf with ⟨hc, _⟩ | ⟨a, len, cap, m, n, D, Pl, hc, _, hl, hm, hmm, hx, hi⟩
  · simp [Value.cells] at hc
    obtain ⟨rfl, rfl, rfl⟩ := hc
    exact ⟨none, 0, [], rfl, ClAt.nil _ _ _, inR_nil, Nat.zero_le _⟩
  · simp [Value.cells] at hc
    obtain ⟨rfl, rfl, rfl⟩ := hc
    simp only [if_true] at hmm
    subst hmm
    have hcc : Try.prog.cellsOf 42 = 2 := by kernel_rfl
    have hc1 : Try.prog.cellsOf 28 = 1 := by kernel_rfl
    have hc2 : Try.prog.cellsOf 5 = 1 := by kernel_rfl
    have each : ∀ i, i < n0 → ∃ q : Int × Int, W.cell? (a.add (i * 2)) = some (.int .u32 q.1) ∧ W.cell? ((a.add (i * 2)).add 1) = some (.int .u8 q.2) ∧ (0 ≤ q.1 ∧ q.1 < 4294967296 ∧ 0 ≤ q.2 ∧ q.2 < 256) := by
      intro i hin
      obtain ⟨cs, h1, h2⟩ := hi i (by omega)
      rw [hcc] at h1
      obtain ⟨_, hlen, hat⟩ := World.cells?_some h1
      obtain ⟨ys, n', _, _, _, hyl, hg⟩ := DataW.trod_struct Try.underlying42 h2
      match cs, hlen, ys, hyl with
      | [x, y], _, [z0, z1], _ =>
        have g0 := hg 0 _ rfl
        have g1 := hg 1 _ rfl
        simp [hc1] at g0
        simp [hc2] at g1
        obtain ⟨q0, e0, _, w0⟩ := DataW.trod_int Try.underlying28 g0
        obtain ⟨q1, e1, _, w1⟩ := DataW.trod_int Try.underlying5 g1
        have k0 := hat 0 (by omega)
        have k1 := hat 1 (by omega)
        simp at e0 e1
        subst e0
        subst e1
        refine ⟨(q0, q1), by simpa [Addr.add] using k0, by simpa using k1, ?_⟩
        have r0 : 0 ≤ q0 ∧ q0 ≤ 4294967295 := by simpa [Lit.wf, IntKind.min, IntKind.max, IntKind.bits, IntKind.signed] using w0
        have r1 : 0 ≤ q1 ∧ q1 ≤ 255 := by simpa [Lit.wf, IntKind.min, IntKind.max, IntKind.bits, IntKind.signed] using w1
        simp only
        omega
    have hch : ∃ F : Nat → Int × Int, ∀ i, i < n0 → W.cell? (a.add (i * 2)) = some (.int .u32 (F i).1) ∧ W.cell? ((a.add (i * 2)).add 1) = some (.int .u8 (F i).2) ∧ (0 ≤ (F i).1 ∧ (F i).1 < 4294967296 ∧ 0 ≤ (F i).2 ∧ (F i).2 < 256) := by
      refine ⟨fun i => if h : i < n0 then Classical.choose (each i h) else (0, 0), fun i hin => ?_⟩
      simp only [hin, dif_pos]
      exact Classical.choose_spec (each i hin)
    obtain ⟨F, hF⟩ := hch
    refine ⟨some a, _, (List.range n0).map F, by rw [List.length_map, List.length_range], ?_, ?_, by simp; omega⟩
    · intro hne
      have hn0 : 0 < n0 := by
        rcases Nat.eq_zero_or_pos n0 with e | e
        · subst e; simp at hne
        · exact e
      have k0 := (hF 0 hn0).1
      have hsp : a.spot = none := by
        have : a.add (0 * 2) = a := by simp [Addr.add]
        rw [this] at k0
        exact oneNone k0
      have hab : a.block < W.heap.size := by
        have := World.block_lt_of_cell? W _ k0
        simpa [Addr.add] using this
      obtain ⟨ab, ao, asp⟩ := a
      simp only at hsp hab
      subst hsp
      have hadd : ∀ m n, (⟨ab, m, none⟩ : Addr).add n = ⟨ab, m + n, none⟩ := fun m n => by unfold Addr.add; split <;> simp_all
      refine ⟨ab, ao, rfl, hab, fun i p hp => ?_⟩
      have hin : i < n0 := by
        have := (List.getElem?_eq_some_iff.1 hp).1
        simpa using this
      have hp' : F i = p := by simpa [hin] using hp
      have := hF i hin
      rw [hp', hadd, hadd] at this
      exact ⟨this.1, this.2.1⟩
    · intro p hp
      obtain ⟨i, hin, rfl⟩ := List.mem_map.1 hp
      exact (hF i (by simpa using hin)).2.2

end
end Go.Proofs.Ytcccfckefjjoiaa
