/- For the seat: texts joined: RqV, RqW. -/
import Derived.Test.YtpdkpkabdkefcaaGreatDoorJAd
import Derived.Deep.Slices
import Derived.SizedLaws
import Derived.Test.YtpdkpkabdkefcaaGreatDoorJAj
set_option maxRecDepth 100000
namespace Go.Proofs.YtpdkpkabdkefcaaGreatDoor
open Go.Sx Go.ChangeShapes Go.WideShapes Go.RowKit Go.Joins Go.Deep Go.Rp
section
variable {H : Type} {enc : TypeId × Value → H}
def Lgt (P : Program) (t : TypeId) (d : DataW H) : Prop := ∀ n ∈ d.weights P t, n ≤ reachBytes
theorem weightsAll_in {P : Program} {e : TypeId} : ∀ {l : List (DataW H)} {d : DataW H}, d ∈ l → ∀ n ∈ d.weights P e, n ∈ DataW.weightsAll P e l
  | [], d, h, _, _ => by simp at h
  | x :: r, d, h, n, hn => by
    rw [DataW.weightsAll, List.mem_append]
    rcases List.mem_cons.1 h with rfl | h
    · exact .inl hn
    · exact .inr (weightsAll_in h n hn)
theorem Lgt.part {P : Program} {t : TypeId} {fs : Array Field} {xs : List (DataW H)} (ht : P.underlying t = some (.struct fs)) (h : Lgt P t (.agg xs)) {j : Nat} {f : Field} {d : DataW H} (hf : fs[j]? = some f) (hd : xs[j]? = some d) : Lgt P f.type d := fun n hn => by
  refine h n ?_
  rw [DataW.weights, ht]
  exact DataW.weights_mem_each (ts := fs.toList.map (·.type)) (by simp [hf]) hd n hn
theorem Lgt.elem {P : Program} {t e : TypeId} {xs sp : List (DataW H)} (ht : P.underlying t = some (.slice e)) (h : Lgt P t (.slice xs sp)) {d : DataW H} (hd : d ∈ xs) : Lgt P e d := fun n hn => by
  refine h n ?_
  rw [DataW.weights, ht]
  exact List.mem_cons_of_mem _ (List.mem_append_left _ (weightsAll_in hd n hn))
theorem Lgt.len {P : Program} {t e : TypeId} {xs sp : List (DataW H)} (ht : P.underlying t = some (.slice e)) (h : Lgt P t (.slice xs sp)) : (xs.length + sp.length) * P.bytesOf e ≤ reachBytes := by
  refine h _ ?_
  rw [DataW.weights, ht]
  exact List.mem_cons_self ..
theorem Lgt.str {P : Program} {t : TypeId} {b : List UInt8} (h : Lgt P t (.lit (.string b) : DataW H)) : b.length ≤ reachBytes := by
  refine h _ ?_
  rw [DataW.weights]
  exact List.mem_cons_self ..
theorem exRow_of {W : World} {K : Nat → Prop} {g : Nat} : ∀ (a : List Et) (off : Nat), (∀ (i : Nat) (hi : i < a.length), ∃ C : Array Value, ExAt W K a[i] (.agg C) ∧ ∀ (j : Nat) (u : Value), C[j]? = some u → W.cell? ⟨g, off + i * 4 + j, none⟩ = some u) → ExRow W K g a off
  | [], _, _ => by simp only [ExRow]
  | x :: r, off, h => by
    simp only [ExRow]
    refine ⟨?_, exRow_of r (off + 4) fun i hi => ?_⟩
    · obtain ⟨C, h1, h2⟩ := h 0 (by simp)
      exact ⟨C, h1, fun j u hu => by have := h2 j u hu; rwa [Nat.zero_mul, Nat.add_zero] at this⟩
    · obtain ⟨C, h1, h2⟩ := h (i + 1) (by simp; omega)
      refine ⟨C, h1, fun j u hu => ?_⟩
      have := h2 j u hu
      rwa [show off + (i + 1) * 4 + j = off + 4 + i * 4 + j by omega] at this
theorem noSpot {w : World} {a : Addr} {v : Value} (h : w.cell? a = some v) : a.spot = none := by
  unfold World.cell? at h
  split at h
  · cases hs : a.spot with
    | none => rfl
    | some x => simp [hs] at h
  · cases h
theorem tx_data (s : ByteArray) : tx s.data.toList = s := by
  obtain ⟨⟨l⟩⟩ := s
  rfl
theorem open_expr {W : World} : ∀ (N : Nat) {fuel : Nat} {cs : List Value} {x : DataW H × List MemPlace}, fuel ≤ N → cs.length = 4 → DataW.trod enc Tryz.prog W 0 (fun _ => true) true fuel 47 cs = some x → Lgt Tryz.prog 47 x.1 →
    ∃ (e : Et) (C : Array Value), ExAt W (fun g => g < W.heap.size) e (.agg C) ∧ cs = C.toList ∧ C.size = 4 := by
  intro N
  induction N with
  | zero =>
    intro fuel cs x hN hl h _
    obtain rfl : fuel = 0 := by omega
    simp [DataW.trod] at h
  | succ N ih =>
    intro fuel cs x hN hl h hw
    have hc1 : Tryz.prog.cellsOf 3 = 1 := by kernel_rfl
    have hc2 : Tryz.prog.cellsOf 9 = 1 := by kernel_rfl
    have hc3 : Tryz.prog.cellsOf 45 = 1 := by kernel_rfl
    have hc4 : Tryz.prog.cellsOf 47 = 4 := by kernel_rfl
    have hb4 : 1 ≤ Tryz.prog.bytesOf 47 := of_decide_eq_true (by kernel_rfl)
    obtain ⟨ys, n', hf, hx, _, hyl, hg⟩ := DataW.trod_struct Tryz.underlying47 h
    match cs, hl, ys, hyl with
    | [c0, c1, c2, c3], _, [z0, z1, z2, z3], _ =>
      subst hx
      have g0 := hg 0 _ rfl
      simp [hc1] at g0
      have g1 := hg 1 _ rfl
      simp [hc1] at g1
      have g2 := hg 2 _ rfl
      simp [hc2] at g2
      have g3 := hg 3 _ rfl
      simp [hc3] at g3
      have w2 := hw.part Tryz.underlying47 (j := 2) rfl rfl
      have w3 := hw.part Tryz.underlying47 (j := 3) rfl rfl
      obtain ⟨q0, e0, _, _⟩ := DataW.trod_int Tryz.underlying3 g0
      obtain ⟨q1, e1, _, _⟩ := DataW.trod_int Tryz.underlying3 g1
      obtain ⟨s, e2, rfl, _⟩ := DataW.trod_string Tryz.underlying9 g2
      simp only [List.cons.injEq, and_true] at e0 e1 e2
      subst e0 e1 e2
      have hs : s.data.toList.length ≤ lenMax := by have := w2.str; unfold reachBytes at this; unfold lenMax; omega
      rcases DataW.trod_slice Tryz.underlying45 g3 with ⟨e3, _⟩ | ⟨a, len, cap, elems, rest, n, hn, e3, rfl, _, hlc, _, hel, hi, _⟩
      · simp only [List.cons.injEq, and_true] at e3
        subst e3
        refine ⟨.mk q0 q1 s.data.toList [], exC q0 q1 s.data.toList none 0 0, ?_, by simp [tx_data], rfl⟩
        simp only [ExAt]
        exact ⟨none, 0, rfl, by simp, ⟨Nat.zero_le _, hs⟩, fun h => absurd rfl h⟩
      · simp only [List.cons.injEq, and_true] at e3
        subst e3
        have hlen : len ≤ lenMax := by
          have h1 := w3.len Tryz.underlying45
          simp only [List.length_map] at h1
          have h2 : len * 1 ≤ (elems.length + rest.length) * Tryz.prog.bytesOf 47 := Nat.mul_le_mul (by omega) hb4
          unfold reachBytes at h1
          unfold lenMax
          omega
        have each : ∀ i, ∃ y : Et × Array Value, i < len → ExAt W (fun g => g < W.heap.size) y.1 (.agg y.2) ∧ ∀ (j : Nat) (u : Value), y.2[j]? = some u → W.cell? ((a.add (i * 4)).add j) = some u := by
          intro i
          by_cases hil : i < len
          · have h1 := hi i hil
            rw [List.getElem?_eq_getElem (by omega), Option.bind_eq_some_iff] at h1
            obtain ⟨cs', h2, h3⟩ := h1
            rw [hc4] at h2
            obtain ⟨_, hl4, hat⟩ := World.cells?_some h2
            have hm : (elems[i]'(by omega)).1 ∈ elems.map (·.1) := List.mem_map_of_mem (List.getElem_mem _)
            obtain ⟨e, C, k1, k2, k3⟩ := ih (by omega) hl4 h3 (w3.elem Tryz.underlying45 hm)
            refine ⟨(e, C), fun _ => ⟨k1, fun j u hu => ?_⟩⟩
            have hj : j < 4 := by have h : j < C.size := (Array.getElem?_eq_some_iff.1 hu).1; omega
            rw [hat j hj, k2]
            simpa using hu
          · exact ⟨(ex0, #[]), fun h => absurd h hil⟩
        obtain ⟨F, hF⟩ : ∃ F : Nat → Et × Array Value, ∀ i, i < len → ExAt W (fun g => g < W.heap.size) (F i).1 (.agg (F i).2) ∧ ∀ (j : Nat) (u : Value), (F i).2[j]? = some u → W.cell? ((a.add (i * 4)).add j) = some u := ⟨fun i => Classical.choose (each i), fun i => Classical.choose_spec (each i)⟩
        have hal : ((List.range len).map fun i => (F i).1).length = len := by simp
        refine ⟨.mk q0 q1 s.data.toList ((List.range len).map fun i => (F i).1), exC q0 q1 s.data.toList (some a) len cap, ?_, by simp [tx_data], rfl⟩
        simp only [ExAt]
        have haddr : len ≠ 0 → ∃ g off, a = ⟨g, off, none⟩ ∧ g < W.heap.size := by
          intro hn0
          obtain ⟨k1, k2⟩ := hF 0 (by omega)
          obtain ⟨o, m, s', A', k, c', hC⟩ := k1.cells
          obtain hC := Value.agg.inj hC
          have k3 := k2 0 (.int .i64 o) (by rw [hC]; rfl)
          have h0 : (a.add (0 * 4)).add 0 = a := by simp [Addr.add]
          rw [h0] at k3
          have hsp := noSpot k3
          have hab := World.block_lt_of_cell? W _ k3
          obtain ⟨g, off, sp⟩ := a
          simp only at hsp
          subst hsp
          exact ⟨g, off, rfl, hab⟩
        refine ⟨some a, cap, by rw [hal], ?_, ⟨by rw [hal]; exact hlen, hs⟩, fun hne => ?_⟩
        · rcases Nat.eq_zero_or_pos len with h0 | h0
          · left; subst h0; rfl
          · obtain ⟨g, off, rfl, _⟩ := haddr (by omega)
            right; right
            exact ⟨by rw [hal]; exact hlc, g, off, rfl⟩
        · have hn0 : len ≠ 0 := by rintro rfl; exact hne rfl
          obtain ⟨g, off, rfl, hgl⟩ := haddr hn0
          refine ⟨g, off, rfl, hgl, exRow_of _ _ fun i hi' => ?_⟩
          have hil : i < len := by simpa using hi'
          obtain ⟨k1, k2⟩ := hF i hil
          refine ⟨(F i).2, by simpa using k1, fun j u hu => ?_⟩
          have := k2 j u hu
          have hadd : ∀ m n, (⟨g, m, none⟩ : Addr).add n = ⟨g, m + n, none⟩ := fun m n => by unfold Addr.add; split <;> simp_all
          rwa [hadd, hadd] at this
end
end Go.Proofs.YtpdkpkabdkefcaaGreatDoor
namespace Go.Proofs.YtpdkpkabdkefcaaGreatDoor
open Go.Sx Go.ChangeShapes Go.WideShapes Go.RowKit Go.Joins Go.Deep Go.Rp
section
variable {H : Type} {enc : TypeId × Value → H}
theorem open_insL {W : World} {fuel : Nat} {cs : List Value} {x : DataW H × List MemPlace} (hl : cs.length = 9) (h : DataW.trod enc Tryz.prog W 0 (fun _ => true) true fuel 44 cs = some x) :
    ∃ (q0 q1 q2 q3 q4 q5 q6 q7 : Int) (s : Bool), cs = [.int .i64 q0, .int .i64 q1, .int .i64 q2, .int .i64 q3, .int .i64 q4, .int .i64 q5, .int .i64 q6, .int .i64 q7, .bool s] ∧ kHas .i64 q0 ∧ kHas .i64 q1 ∧ kHas .i64 q2 ∧ kHas .i64 q3 ∧ kHas .i64 q4 ∧ kHas .i64 q5 ∧ kHas .i64 q6 ∧ kHas .i64 q7 := by
  have hc1 : Tryz.prog.cellsOf 3 = 1 := by kernel_rfl
  have hc2 : Tryz.prog.cellsOf 4 = 1 := by kernel_rfl
  obtain ⟨ys, n', _, _, _, hyl, hg⟩ := DataW.trod_struct Tryz.underlying44 h
  match cs, hl, ys, hyl with
  | [c0, c1, c2, c3, c4, c5, c6, c7, c8], _, [z0, z1, z2, z3, z4, z5, z6, z7, z8], _ =>
    have g0 := hg 0 _ rfl
    simp [hc1] at g0
    have g1 := hg 1 _ rfl
    simp [hc1] at g1
    have g2 := hg 2 _ rfl
    simp [hc1] at g2
    have g3 := hg 3 _ rfl
    simp [hc1] at g3
    have g4 := hg 4 _ rfl
    simp [hc1] at g4
    have g5 := hg 5 _ rfl
    simp [hc1] at g5
    have g6 := hg 6 _ rfl
    simp [hc1] at g6
    have g7 := hg 7 _ rfl
    simp [hc1] at g7
    have g8 := hg 8 _ rfl
    simp [hc2] at g8
    obtain ⟨q0, e0, _, w0⟩ := DataW.trod_int Tryz.underlying3 g0
    obtain ⟨q1, e1, _, w1⟩ := DataW.trod_int Tryz.underlying3 g1
    obtain ⟨q2, e2, _, w2⟩ := DataW.trod_int Tryz.underlying3 g2
    obtain ⟨q3, e3, _, w3⟩ := DataW.trod_int Tryz.underlying3 g3
    obtain ⟨q4, e4, _, w4⟩ := DataW.trod_int Tryz.underlying3 g4
    obtain ⟨q5, e5, _, w5⟩ := DataW.trod_int Tryz.underlying3 g5
    obtain ⟨q6, e6, _, w6⟩ := DataW.trod_int Tryz.underlying3 g6
    obtain ⟨q7, e7, _, w7⟩ := DataW.trod_int Tryz.underlying3 g7
    obtain ⟨s, e8, _⟩ := DataW.trod_bool Tryz.underlying4 g8
    simp only [List.cons.injEq, and_true] at e0 e1 e2 e3 e4 e5 e6 e7 e8
    subst e0 e1 e2 e3 e4 e5 e6 e7 e8
    exact ⟨q0, q1, q2, q3, q4, q5, q6, q7, s, rfl, wf_has w0, wf_has w1, wf_has w2, wf_has w3, wf_has w4, wf_has w5, wf_has w6, wf_has w7⟩
theorem open_line {W : World} {fuel : Nat} {cs : List Value} {x : DataW H × List MemPlace} (hl : cs.length = 19) (h : DataW.trod enc Tryz.prog W 0 (fun _ => true) true fuel 49 cs = some x) (hw : Lgt Tryz.prog 49 x.1) :
    ∃ (y : Lw) (e0 e1 e2 e3 : Value), okW y ∧ cs = (lwC y e0 e1 e2 e3).toList ∧ ExAt W (fun g => g < W.heap.size) y.ex (.agg #[e0, e1, e2, e3]) := by
  have hc1 : Tryz.prog.cellsOf 3 = 1 := by kernel_rfl
  have hc2 : Tryz.prog.cellsOf 9 = 1 := by kernel_rfl
  have hc3 : Tryz.prog.cellsOf 4 = 1 := by kernel_rfl
  have hc4 : Tryz.prog.cellsOf 47 = 4 := by kernel_rfl
  have hc5 : Tryz.prog.cellsOf 44 = 9 := by kernel_rfl
  obtain ⟨ys, n', hf, hx, _, hyl, hg⟩ := DataW.trod_struct Tryz.underlying49 h
  match cs, hl, ys, hyl with
  | [c0, c1, c2, c3, c4, c5, c6, c7, c8, c9, c10, c11, c12, c13, c14, c15, c16, c17, c18], _, [z0, z1, z2, z3, z4, z5, z6, z7], _ =>
    subst hx
    have g0 := hg 0 _ rfl
    simp [hc2] at g0
    have g1 := hg 1 _ rfl
    simp [hc1] at g1
    have g2 := hg 2 _ rfl
    simp [hc5] at g2
    have g3 := hg 3 _ rfl
    simp [hc1] at g3
    have g4 := hg 4 _ rfl
    simp [hc2] at g4
    have g5 := hg 5 _ rfl
    simp [hc3] at g5
    have g6 := hg 6 _ rfl
    simp [hc1] at g6
    have g7 := hg 7 _ rfl
    simp [hc4] at g7
    have w0 := hw.part Tryz.underlying49 (j := 0) rfl rfl
    have w4 := hw.part Tryz.underlying49 (j := 4) rfl rfl
    have w7 := hw.part Tryz.underlying49 (j := 7) rfl rfl
    obtain ⟨s0, e0, rfl, _⟩ := DataW.trod_string Tryz.underlying9 g0
    obtain ⟨k, e1, _, u1⟩ := DataW.trod_int Tryz.underlying3 g1
    obtain ⟨q0, q1, q2, q3, q4, q5, q6, q7, s, e2, v0, v1, v2, v3, v4, v5, v6, v7⟩ := open_insL rfl g2
    obtain ⟨c, e3, _, u3⟩ := DataW.trod_int Tryz.underlying3 g3
    obtain ⟨s4, e4, rfl, _⟩ := DataW.trod_string Tryz.underlying9 g4
    obtain ⟨wd, e5, _⟩ := DataW.trod_bool Tryz.underlying4 g5
    obtain ⟨sz, e6, _, u6⟩ := DataW.trod_int Tryz.underlying3 g6
    obtain ⟨ex, C, hex, e7, hC⟩ := open_expr _ (Nat.le_refl _) rfl g7 w7
    simp only [List.cons.injEq, and_true] at e0 e1 e2 e3 e4 e5 e6
    obtain ⟨rfl, rfl, rfl, rfl, rfl, rfl, rfl, rfl, rfl⟩ := e2
    subst e0 e1 e3 e4 e5 e6
    obtain ⟨C⟩ := C
    simp only at e7
    subst e7
    have b0 : s0.data.toList.length ≤ lenMax := by have := w0.str; unfold reachBytes at this; unfold lenMax; omega
    have b4 : s4.data.toList.length ≤ lenMax := by have := w4.str; unfold reachBytes at this; unfold lenMax; omega
    exact ⟨⟨s0.data.toList, k, q0, q1, q2, q3, q4, q5, q6, q7, s, c, s4.data.toList, wd, sz, ex⟩, c15, c16, c17, c18, ⟨⟨b0, b4⟩, wf_has u1, v0, v1, v2, v3, v4, v5, v6, v7, wf_has u3, wf_has u6⟩, by simp [tx_data], hex⟩
theorem open_lines {W : World} {fuel : Nat} {cs : List Value} {x : DataW H × List MemPlace} (h : DataW.trod enc Tryz.prog W 0 (fun _ => true) true fuel 22 cs = some x) (hw : Lgt Tryz.prog 22 x.1) :
    ∃ (A : Option Addr) (cap : Nat) (L : List Lw), cs = [.slice A L.length cap] ∧ LsAt W (fun g => g < W.heap.size) A L ∧ L.length ≤ lenMax := by
  have hcc : Tryz.prog.cellsOf 49 = 19 := by kernel_rfl
  have hb : 1 ≤ Tryz.prog.bytesOf 49 := of_decide_eq_true (by kernel_rfl)
  rcases DataW.trod_slice Tryz.underlying22 h with ⟨e3, _⟩ | ⟨a, len, cap, elems, rest, n, hn, e3, rfl, _, hlc, _, hel, hi, _⟩
  · exact ⟨none, 0, [], e3, fun h => absurd rfl h, Nat.zero_le _⟩
  · subst e3
    have hlen : len ≤ lenMax := by
      have h1 := hw.len Tryz.underlying22
      simp only [List.length_map] at h1
      have h2 : len * 1 ≤ (elems.length + rest.length) * Tryz.prog.bytesOf 49 := Nat.mul_le_mul (by omega) hb
      unfold reachBytes at h1
      unfold lenMax
      omega
    have each : ∀ i, ∃ y : Lw × Value × Value × Value × Value, i < len → okW y.1 ∧ ExAt W (fun g => g < W.heap.size) y.1.ex (.agg #[y.2.1, y.2.2.1, y.2.2.2.1, y.2.2.2.2]) ∧ ∀ (j : Nat) (u : Value), (lwC y.1 y.2.1 y.2.2.1 y.2.2.2.1 y.2.2.2.2)[j]? = some u → W.cell? ((a.add (i * 19)).add j) = some u := by
      intro i
      by_cases hil : i < len
      · have h1 := hi i hil
        rw [List.getElem?_eq_getElem (by omega), Option.bind_eq_some_iff] at h1
        obtain ⟨cs', h2, h3⟩ := h1
        rw [hcc] at h2
        obtain ⟨_, hl4, hat⟩ := World.cells?_some h2
        have hm : (elems[i]'(by omega)).1 ∈ elems.map (·.1) := List.mem_map_of_mem (List.getElem_mem _)
        obtain ⟨y, e0, e1, e2, e3, k1, k2, k3⟩ := open_line hl4 h3 (hw.elem Tryz.underlying22 hm)
        refine ⟨(y, e0, e1, e2, e3), fun _ => ⟨k1, k3, fun j u hu => ?_⟩⟩
        have hj : j < 19 := by have h := (Array.getElem?_eq_some_iff.1 hu).1; simpa using h
        rw [hat j hj, k2]
        simpa using hu
      · exact ⟨(lw0, undef, undef, undef, undef), fun h => absurd h hil⟩
    obtain ⟨F, hF⟩ : ∃ F : Nat → Lw × Value × Value × Value × Value, ∀ i, i < len → okW (F i).1 ∧ ExAt W (fun g => g < W.heap.size) (F i).1.ex (.agg #[(F i).2.1, (F i).2.2.1, (F i).2.2.2.1, (F i).2.2.2.2]) ∧ ∀ (j : Nat) (u : Value), (lwC (F i).1 (F i).2.1 (F i).2.2.1 (F i).2.2.2.1 (F i).2.2.2.2)[j]? = some u → W.cell? ((a.add (i * 19)).add j) = some u := ⟨fun i => Classical.choose (each i), fun i => Classical.choose_spec (each i)⟩
    refine ⟨some a, cap, (List.range len).map fun i => (F i).1, by simp, fun hne => ?_, by simpa using hlen⟩
    have hn0 : 0 < len := by
      rcases Nat.eq_zero_or_pos len with e | e
      · subst e; simp at hne
      · exact e
    have k0 := (hF 0 hn0).2.2 0 (.string (tx (F 0).1.lab)) rfl
    have h0 : (a.add (0 * 19)).add 0 = a := by simp [Addr.add]
    rw [h0] at k0
    have hsp := noSpot k0
    have hab := World.block_lt_of_cell? W _ k0
    obtain ⟨g, off, sp⟩ := a
    simp only at hsp hab
    subst hsp
    have hadd : ∀ m n, (⟨g, m, none⟩ : Addr).add n = ⟨g, m + n, none⟩ := fun m n => by unfold Addr.add; split <;> simp_all
    refine ⟨g, off, rfl, hab, fun i hi' => ?_⟩
    have hil : i < len := by simpa using hi'
    obtain ⟨k1, k2, k3⟩ := hF i hil
    have he : ((List.range len).map fun i => (F i).1)[i] = (F i).1 := by simp
    rw [he]
    refine ⟨k1, _, _, _, _, fun j v hv => ?_, k2⟩
    have := k3 j v hv
    rwa [hadd, hadd] at this
end
end Go.Proofs.YtpdkpkabdkefcaaGreatDoor
