/- For the seat: texts joined: Cf, Args, KerG, Int2. -/
import Derived.Test.YtnpfihlaocpcfaaGreatDoorJL2e
import Derived.Deep.RegionHeld3
import Derived.Laws.IdiomStrings
import Derived.Lib.ConvBytes
import Derived.Test.YtnpfihlaocpcfaaGreatDoorJL1b
import Derived.Test.YtnpfihlaocpcfaaGreatDoorJL2a
/- For the seat: the law's function: an image in which one bit of an instruction is turned is refused. -/
namespace Go.Proofs.YtnpfihlaocpcfaaGreatDoor
open Go.Sx Go.ChangeShapes Go.WideShapes Go.RowKit Go.Joins Go.Deep

set_option maxRecDepth 100000 in
theorem xor_all : ((List.range 256).all fun n => (List.range 8).all fun k => decide (bits .xor .u8 (n : Int) (IntKind.u8.wrap ((2 : Int) ^ k)) = ((n ^^^ 2 ^ k : Nat) : Int))) = true := by decide +kernel
set_option maxRecDepth 100000 in
theorem xor_flip (b : UInt8) {k : Nat} (hk : k < 8) : bits .xor .u8 (b.toNat : Int) (IntKind.u8.wrap ((2 : Int) ^ k)) = ((flipB b k).toNat : Int) := by
  rw [flip_nat b hk]
  exact of_decide_eq_true (List.all_eq_true.1 (List.all_eq_true.1 xor_all b.toNat (List.mem_range.2 b.toNat_lt)) k (List.mem_range.2 hk))

set_option maxRecDepth 100000 in
/-- A text as bytes. -/
theorem conv_str (w : World) {ops : Array Oper} {rest : List Oper} {o : Oper} {a : Act} {Q : Exit → Act → World → Prop} (hgd : o.guard = none) (x : Operand) (ho : o.op = .convert 9 35 x) (s : ByteArray) (v : Value) (w' : World)
    (hx : a.eval x = .string s) (hc : (convert 9 35 (.string s)).run Tryz.prog w = .ok v w') (h : wpList Tryz.prog ops Q rest (a.put o.dst v) w') :
    wpList Tryz.prog ops Q (o :: rest) a w := by
  refine wpList_plain hgd fun K hK => ?_
  unfold Oper.wp execOp
  simp only [ho, hx, Sem.run_bind, Sem.run_pure, Result.andThen_ok, hc]
  exact hK _ _ h

set_option maxRecDepth 100000 in
/-- Bytes as a text. -/
theorem conv_back (w : World) {ops : Array Oper} {rest : List Oper} {o : Oper} {a : Act} {Q : Exit → Act → World → Prop} (hgd : o.guard = none) (x : Operand) (ho : o.op = .convert 35 9 x) (ad : Addr) (n cp : Nat) (s : ByteArray)
    (hx : a.eval x = .slice (some ad) n cp) (hc : (convert 35 9 (.slice (some ad) n cp)).run Tryz.prog w = .ok (.string s) w) (h : wpList Tryz.prog ops Q rest (a.put o.dst (.string s)) w) :
    wpList Tryz.prog ops Q (o :: rest) a w := by
  refine wpList_plain hgd fun K hK => ?_
  unfold Oper.wp execOp
  simp only [ho, hx, Sem.run_bind, Sem.run_pure, Result.andThen_ok, hc]
  exact hK _ _ h

set_option maxRecDepth 100000 in
set_option maxHeartbeats 8000000 in
theorem flips_r (s : ByteArray) (l : List Itm) (A : Option Addr) (cap : Nat) (n m : Int) (w : World) (hA : ItAt w w.heap.size A l) (hk : ∀ y ∈ l, y.Ok) (hl : l.length ≤ maxLen) (hw : Laid w) :
    Calls Tryz.prog 3 #[.agg #[.string s, .slice A l.length cap], .agg #[.int .i64 n, .int .i64 m]] w fun e w' => e = .returned (.bool true) ∧ Below w.heap.size w w' := by
  have b0 : Below w.heap.size w ((w.alloc (.cells #[.string s, .slice A l.length cap] 24)).alloc (.cells #[.int .i64 n, .int .i64 m] 25)) := ((Below.refl _ _).alloc (Nat.le_refl _) _).alloc (by simp) _
  have hsz : ((w.alloc (.cells #[.string s, .slice A l.length cap] 24)).alloc (.cells #[.int .i64 n, .int .i64 m] 25)).heap.size = w.heap.size + 2 := by simp
  have cA := cell_allocN w #[.string s, .slice A l.length cap] 24
  have cB := cell_allocN (w.alloc (.cells #[.string s, .slice A l.length cap] 24)) #[.int .i64 n, .int .i64 m] 25
  have hz1 : (w.alloc (.cells #[.string s, .slice A l.length cap] 24)).heap.size = w.heap.size + 1 := by simp
  have cA' : ∀ j, ((w.alloc (.cells #[.string s, .slice A l.length cap] 24)).alloc (.cells #[.int .i64 n, .int .i64 m] 25)).cell? ⟨w.heap.size, j, none⟩ = #[Value.string s, .slice A l.length cap][j]? := fun j =>
    (((Below.refl (w.alloc (.cells #[.string s, .slice A l.length cap] 24)).heap.size _).alloc (Nat.le_refl _) _).cell (p := ⟨w.heap.size, j, none⟩) (by show w.heap.size < _; omega)).trans (cA j)
  rw [hz1] at cB
  generalize hW : (w.alloc (.cells #[.string s, .slice A l.length cap] 24)).alloc (.cells #[.int .i64 n, .int .i64 m] 25) = W0 at b0 hsz cA' cB
  have U : ∀ W : World, Below W0.heap.size W0 W → Below w.heap.size w W := fun W h => b0.trans (h.mono (by omega))
  have K : ∀ W : World, Below W0.heap.size W0 W → W.cell? ⟨w.heap.size, 0, none⟩ = some (.string s) ∧ W.cell? ⟨w.heap.size, 1, none⟩ = some (.slice A l.length cap) ∧ W.cell? ⟨w.heap.size + 1, 0, none⟩ = some (.int .i64 n) ∧ W.cell? ⟨w.heap.size + 1, 1, none⟩ = some (.int .i64 m) := fun W h =>
    ⟨(h.cell (p := ⟨w.heap.size, 0, none⟩) (by show w.heap.size < W0.heap.size; omega)).trans (cA' 0), (h.cell (p := ⟨w.heap.size, 1, none⟩) (by show w.heap.size < W0.heap.size; omega)).trans (cA' 1),
      (h.cell (p := ⟨w.heap.size + 1, 0, none⟩) (by show w.heap.size + 1 < W0.heap.size; omega)).trans (cB 0), (h.cell (p := ⟨w.heap.size + 1, 1, none⟩) (by show w.heap.size + 1 < W0.heap.size; omega)).trans (cB 1)⟩
  have at_ : ∀ W : World, Below w.heap.size w W → ItAt W W.heap.size A l := fun W h => (hA.below h (Nat.le_refl _)).more h.size
  have hAw := fun (W : World) (h : Below w.heap.size w W) => awake_ok W (laid_below hw h)
  have hF := few_any s l A cap W0 (at_ _ b0) hl
  obtain ⟨c0, c1, c2, c3⟩ := K W0 (Below.refl _ _)
  clear cA cA' cB hz1
  go_enter Tryz.func3, Tryz.ntmps3
  go_wp2_with fail
  ((with_reducible refine hF.mono ?_); rintro e w1 ⟨rfl, hb1⟩)
  clear hF c0 c1 c2 c3
  obtain ⟨c0, c1, c2, c3⟩ := K w1 hb1
  by_cases hf : fewI s.size l = 0
  · have hq : (fewI s.size l == 0) = true := by rw [hf]; rfl
    have hAw1 := hAw w1 (U _ hb1)
    generalize fewI s.size l = fI at hq
    clear hf
    go_wp2_with fail
    ((with_reducible refine hAw1.mono ?_); rintro e w2 ⟨rfl, hb2⟩)
    go_wp2_with fail
    exact bodyPost_ret (results_tmp rfl _ _ _) rfl ⟨rfl, (U _ hb1).trans (hb2.mono (U _ hb1).size)⟩
  have I := Img.of_few hk hf
  have hfn : (fewI s.size l == 0) = false := by simpa using hf
  have hC := checkR_any s l A cap w1 (at_ _ (U _ hb1)) hl (by have := I.hs; omega) hk (fun y hy => by have := I.vs y hy; omega) (laid_below hw (U _ hb1))
  generalize fewI s.size l = fI at hfn
  clear hf
  go_wp2_with fail
  ((with_reducible refine hC.mono ?_); rintro e w2 ⟨r, rfl, hr, hb2⟩)
  have B2 := hb1.trans (hb2.mono hb1.size)
  have hAw2 := hAw w2 (U _ B2)
  clear hC c0 c1 c2 c3
  obtain ⟨c0, c1, c2, c3⟩ := K w2 B2
  cases r
  · go_wp2_with fail
    ((with_reducible refine hAw2.mono ?_); rintro e w3 ⟨rfl, hb3⟩)
    go_wp2_with fail
    exact bodyPost_ret (results_tmp rfl _ _ _) rfl ⟨rfl, (U _ B2).trans (hb3.mono (U _ B2).size)⟩
  have hg := Lib.hid (hr rfl)
  clear hr
  by_cases hl0 : l.length = 0
  · have q0 : ((l.length : Int) == 0) = true := by rw [hl0]; rfl
    clear hl0
    go_wp2_with fail
    ((with_reducible refine hAw2.mono ?_); rintro e w3 ⟨rfl, hb3⟩)
    go_wp2_with fail
    exact bodyPost_ret (results_tmp rfl _ _ _) rfl ⟨rfl, (U _ B2).trans (hb3.mono (U _ B2).size)⟩
  have q0 : ((l.length : Int) == 0) = false := by simpa using hl0
  obtain ⟨N, hN⟩ := Int.eq_ofNat_of_zero_le (show 0 ≤ n % 18446744073709551616 by omega)
  obtain ⟨M, hM⟩ := Int.eq_ofNat_of_zero_le (show 0 ≤ m % 18446744073709551616 by omega)
  have wN : IntKind.u64.wrap n = (N : Int) := hN
  have wM : IntKind.u64.wrap m = (M : Int) := hM
  have wL : IntKind.u64.wrap (l.length : Int) = (l.length : Int) := by
    show (l.length : Int) % 18446744073709551616 = _
    have := I.hl
    omega
  have hLpos : 0 < l.length := by omega
  obtain ⟨i, hi⟩ : ∃ i, N % l.length = i := ⟨_, rfl⟩
  have hil : i < l.length := by rw [← hi]; exact Nat.mod_lt _ hLpos
  have hrem : (N : Int) % (l.length : Int) = (i : Int) := by rw [← hi]; exact (Int.natCast_emod N l.length).symm
  have hremT : (N : Int).tmod (l.length : Int) = (i : Int) := by rw [Int.tmod_eq_emod_of_nonneg (by omega), hrem]
  have hN64 : (N : Int) < 18446744073709551616 := by omega
  have hM64 : (M : Int) < 18446744073709551616 := by omega
  obtain ⟨g, off, rfl, hgl, hc⟩ := (hA.below (U _ B2) (Nat.le_refl _)).at_ hil
  have hk0 : (0 : Int) ≤ (i : Int) := by omega
  have hkl : (i : Int) < (l.length : Int) := by omega
  have IN := itIn_of hc
  have hyk := hk l[i] (List.getElem_mem hil)
  have hym : l[i] ∈ l := List.getElem_mem hil
  generalize l[i] = y at IN hyk hym
  obtain ⟨k, a, sz, f, ln, x, V, vc, vs⟩ := y
  obtain ⟨x0, x1, x2, x3, x4, x5, x6, x7, xb⟩ := x
  have kS : ∀ w' : World, Below w2.heap.size w2 w' → (w'.cell? ⟨w.heap.size, 1, none⟩ = some (.slice (some ⟨g, off, none⟩) l.length cap) ∧ w'.cell? ⟨w.heap.size + 1, 0, none⟩ = some (.int .i64 n) ∧ w'.cell? ⟨g, off + i * 15, none⟩ = some (.int .i64 k) ∧ w'.cell? ⟨g, off + i * 15 + 1, none⟩ = some (.int .i64 a) ∧ w'.cell? ⟨g, off + i * 15 + 2, none⟩ = some (.int .i64 sz) ∧ w'.cell? ⟨g, off + i * 15 + 3, none⟩ = some (.int .i64 f) ∧ w'.cell? ⟨g, off + i * 15 + 4, none⟩ = some (.int .i64 ln) ∧ w'.cell? ⟨g, off + i * 15 + 5, none⟩ = some (.int .i64 x0) ∧ w'.cell? ⟨g, off + i * 15 + 6, none⟩ = some (.int .i64 x1) ∧ w'.cell? ⟨g, off + i * 15 + 7, none⟩ = some (.int .i64 x2) ∧ w'.cell? ⟨g, off + i * 15 + 8, none⟩ = some (.int .i64 x3) ∧ w'.cell? ⟨g, off + i * 15 + 9, none⟩ = some (.int .i64 x4) ∧ w'.cell? ⟨g, off + i * 15 + 10, none⟩ = some (.int .i64 x5) ∧ w'.cell? ⟨g, off + i * 15 + 11, none⟩ = some (.int .i64 x6) ∧ w'.cell? ⟨g, off + i * 15 + 12, none⟩ = some (.int .i64 x7) ∧ w'.cell? ⟨g, off + i * 15 + 13, none⟩ = some (.bool xb) ∧ w'.cell? ⟨g, off + i * 15 + 14, none⟩ = some (.slice V vs.length vc)) := fun w' h => by
    obtain ⟨_, q1, q2, _⟩ := K w' (B2.trans (h.mono B2.size))
    exact ⟨q1, q2, IN.below h (Nat.lt_of_lt_of_le hgl (U _ B2).size)⟩
  obtain ⟨p0, p1, p2, p3, p4, p5, p6, p7, p8, p9, p10, p11, p12, p13, p14⟩ := IN
  dsimp only at p0 p1 p2 p3 p4 p5 p6 p7 p8 p9 p10 p11 p12 p13 p14
  have hl300 := I.hl
  have hi64 : (i : Int) < 300 := by omega
  have wi : IntKind.i64.wrap (i : Int) = (i : Int) := IntWalk.i64_in _ (by omega)
  clear hc hN hM
  go_wp2_with fail
  go_region_held3 (fun w' => w'.cell? ⟨w.heap.size, 1, none⟩ = some (.slice (some ⟨g, off, none⟩) l.length cap) ∧ w'.cell? ⟨w.heap.size + 1, 0, none⟩ = some (.int .i64 n) ∧ w'.cell? ⟨g, off + i * 15, none⟩ = some (.int .i64 k) ∧ w'.cell? ⟨g, off + i * 15 + 1, none⟩ = some (.int .i64 a) ∧ w'.cell? ⟨g, off + i * 15 + 2, none⟩ = some (.int .i64 sz) ∧ w'.cell? ⟨g, off + i * 15 + 3, none⟩ = some (.int .i64 f) ∧ w'.cell? ⟨g, off + i * 15 + 4, none⟩ = some (.int .i64 ln) ∧ w'.cell? ⟨g, off + i * 15 + 5, none⟩ = some (.int .i64 x0) ∧ w'.cell? ⟨g, off + i * 15 + 6, none⟩ = some (.int .i64 x1) ∧ w'.cell? ⟨g, off + i * 15 + 7, none⟩ = some (.int .i64 x2) ∧ w'.cell? ⟨g, off + i * 15 + 8, none⟩ = some (.int .i64 x3) ∧ w'.cell? ⟨g, off + i * 15 + 9, none⟩ = some (.int .i64 x4) ∧ w'.cell? ⟨g, off + i * 15 + 10, none⟩ = some (.int .i64 x5) ∧ w'.cell? ⟨g, off + i * 15 + 11, none⟩ = some (.int .i64 x6) ∧ w'.cell? ⟨g, off + i * 15 + 12, none⟩ = some (.int .i64 x7) ∧ w'.cell? ⟨g, off + i * 15 + 13, none⟩ = some (.bool xb) ∧ w'.cell? ⟨g, off + i * 15 + 14, none⟩ = some (.slice V vs.length vc))
    (first
      | (exact kS _ ((Below.refl _ _).drew.alloc (Nat.le_refl _) _))
      | go_keep)
    (first
      | fail)
  have B3 : Below W0.heap.size W0 (w2.alloc (.cells #[.int .i64 k, .int .i64 a, .int .i64 sz, .int .i64 f, .int .i64 ln, .int .i64 x0, .int .i64 x1, .int .i64 x2, .int .i64 x3, .int .i64 x4, .int .i64 x5, .int .i64 x6, .int .i64 x7, .bool xb, .slice V vs.length vc] 33)).drew := (B2.alloc B2.size _).drew
  have cN := cell_allocN w2 #[.int .i64 k, .int .i64 a, .int .i64 sz, .int .i64 f, .int .i64 ln, .int .i64 x0, .int .i64 x1, .int .i64 x2, .int .i64 x3, .int .i64 x4, .int .i64 x5, .int .i64 x6, .int .i64 x7, .bool xb, .slice V vs.length vc] 33
  have h3s : (w2.alloc (.cells #[.int .i64 k, .int .i64 a, .int .i64 sz, .int .i64 f, .int .i64 ln, .int .i64 x0, .int .i64 x1, .int .i64 x2, .int .i64 x3, .int .i64 x4, .int .i64 x5, .int .i64 x6, .int .i64 x7, .bool xb, .slice V vs.length vc] 33)).drew.heap.size = w2.heap.size + 1 := by simp
  have t0 : (w2.alloc (.cells #[.int .i64 k, .int .i64 a, .int .i64 sz, .int .i64 f, .int .i64 ln, .int .i64 x0, .int .i64 x1, .int .i64 x2, .int .i64 x3, .int .i64 x4, .int .i64 x5, .int .i64 x6, .int .i64 x7, .bool xb, .slice V vs.length vc] 33)).drew.cell? ⟨w2.heap.size, 0, none⟩ = some (.int .i64 k) := cN 0
  have t1 : (w2.alloc (.cells #[.int .i64 k, .int .i64 a, .int .i64 sz, .int .i64 f, .int .i64 ln, .int .i64 x0, .int .i64 x1, .int .i64 x2, .int .i64 x3, .int .i64 x4, .int .i64 x5, .int .i64 x6, .int .i64 x7, .bool xb, .slice V vs.length vc] 33)).drew.cell? ⟨w2.heap.size, 1, none⟩ = some (.int .i64 a) := cN 1
  have t2 : (w2.alloc (.cells #[.int .i64 k, .int .i64 a, .int .i64 sz, .int .i64 f, .int .i64 ln, .int .i64 x0, .int .i64 x1, .int .i64 x2, .int .i64 x3, .int .i64 x4, .int .i64 x5, .int .i64 x6, .int .i64 x7, .bool xb, .slice V vs.length vc] 33)).drew.cell? ⟨w2.heap.size, 2, none⟩ = some (.int .i64 sz) := cN 2
  generalize (w2.alloc (.cells #[.int .i64 k, .int .i64 a, .int .i64 sz, .int .i64 f, .int .i64 ln, .int .i64 x0, .int .i64 x1, .int .i64 x2, .int .i64 x3, .int .i64 x4, .int .i64 x5, .int .i64 x6, .int .i64 x7, .bool xb, .slice V vs.length vc] 33)).drew = W3 at B3 h3s t0 t1 t2 ⊢
  clear cN kS p0 p1 p2 p3 p4 p5 p6 p7 p8 p9 p10 p11 p12 p13 p14 c0 c1 c2 c3
  obtain ⟨c0, c1, c2, c3⟩ := K W3 B3
  have hw2z : W0.heap.size ≤ w2.heap.size := B2.size
  by_cases hk1 : k = 1
  rotate_left
  · have q1 : (k != 1) = true := by simpa using hk1
    have hAw3 := hAw W3 (U _ B3)
    clear hk1
    go_wp2_with fail
    ((with_reducible refine hAw3.mono ?_); rintro e w4 ⟨rfl, hb4⟩)
    go_wp2_with fail
    exact bodyPost_ret (results_tmp rfl _ _ _) rfl ⟨rfl, (U _ B3).trans (hb4.mono (U _ B3).size)⟩
  have q1 : (k != 1) = false := by rw [hk1]; rfl
  have hone := hg.out.2 _ hym
  have hpart := of_decide_eq_true hone.1
  obtain ⟨bb, r0, _, r2, _⟩ := hone.2 hk1
  dsimp only at hpart r0 r2
  obtain ⟨nn, hnn, hnn1, _, hnn2⟩ := decR_num r0
  rw [hnn] at r2
  obtain ⟨z, hz⟩ := Int.eq_ofNat_of_zero_le (show 0 ≤ sz by omega)
  obtain ⟨aN, haN⟩ := Int.eq_ofNat_of_zero_le hpart.1
  subst hz haN
  have HK1 := Lib.hid hk1
  have hz2 : 2 ≤ z := by omega
  clear hk1 r0 r2 hnn hone
  have hzs : aN + z ≤ s.size := by omega
  have hss := I.hs
  obtain ⟨J, hJ⟩ : ∃ J, M % z = J := ⟨_, rfl⟩
  have hJz : J < z := by rw [← hJ]; exact Nat.mod_lt _ (by omega)
  have wz : IntKind.u64.wrap (z : Int) = (z : Int) := by
    show (z : Int) % 18446744073709551616 = _
    omega
  have hremS : (M : Int) % (z : Int) = (J : Int) := by rw [← hJ]; exact (Int.natCast_emod M z).symm
  have hremST : (M : Int).tmod (z : Int) = (J : Int) := by rw [Int.tmod_eq_emod_of_nonneg (by omega), hremS]
  have wJ : IntKind.i64.wrap (J : Int) = (J : Int) := IntWalk.i64_in _ (by omega)
  have wat : IntKind.i64.wrap ((aN : Int) + (J : Int)) = (aN : Int) + (J : Int) := IntWalk.i64_in _ (by omega)
  have hz0 : ¬ z = 0 := by omega
  clear hpart
  have hcv := Lib.run_convert_string_bytes (P := Tryz.prog) W3 9 35 5 s Tryz.underlying9 Tryz.underlying35 Tryz.underlying5
  have B5 : Below W3.heap.size W3 (Lib.bytesWorld W3 5 s) := ⟨rfl, rfl, rfl, by rw [Lib.bytesWorld_size]; omega, fun k hk => Lib.bytesWorld_at_old W3 _ s k hk⟩
  have h5s := Lib.bytesWorld_size W3 5 s
  have h5c := Lib.bytesWorld_cell W3 5 s
  have h5n := Lib.bytesWorld_at_new W3 5 s
  generalize Lib.bytesWorld W3 5 s = W5 at hcv B5 h5s h5c h5n
  generalize grownCap W3 s.size 0 5 = cp at hcv
  go_wp2_with (refine conv_str W3 rfl _ rfl s _ _ rfl hcv ?_)
  have B50 : Below W0.heap.size W0 W5 := B3.trans (B5.mono B3.size)
  have k7 : ∀ X : World, Below W5.heap.size W5 X → X.cell? ⟨w2.heap.size, 1, none⟩ = some (.int .i64 (aN : Int)) ∧ X.cell? ⟨w2.heap.size, 2, none⟩ = some (.int .i64 (z : Int)) ∧ X.cell? ⟨w.heap.size + 1, 1, none⟩ = some (.int .i64 m) := fun X h =>
    ⟨(h.cell (p := ⟨w2.heap.size, 1, none⟩) (by show w2.heap.size < W5.heap.size; omega)).trans ((B5.cell (p := ⟨w2.heap.size, 1, none⟩) (by show w2.heap.size < W3.heap.size; omega)).trans t1),
      (h.cell (p := ⟨w2.heap.size, 2, none⟩) (by show w2.heap.size < W5.heap.size; omega)).trans ((B5.cell (p := ⟨w2.heap.size, 2, none⟩) (by show w2.heap.size < W3.heap.size; omega)).trans t2), (K X (B50.trans (h.mono B50.size))).2.2.2⟩
  obtain ⟨u1, u2, u3⟩ := k7 W5 (Below.refl _ _)
  clear hcv t0 t1 t2 c0 c1 c2 c3
  go_region_held3 (fun w' => w'.cell? ⟨w2.heap.size, 1, none⟩ = some (.int .i64 (aN : Int)) ∧ w'.cell? ⟨w2.heap.size, 2, none⟩ = some (.int .i64 (z : Int)) ∧ w'.cell? ⟨w.heap.size + 1, 1, none⟩ = some (.int .i64 m))
    (first
      | (exact k7 _ (Below.refl _ _).drew)
      | go_keep)
    (first
      | fail)
  clear u1 u2 u3
  have B6 : Below W5.heap.size W5 W5.drew := (Below.refl _ _).drew
  obtain ⟨Kk, hKk⟩ : ∃ Kk, M / 256 % 8 = Kk := ⟨_, rfl⟩
  have hK8 : Kk < 8 := by omega
  have hKm : (M : Int) / 256 % 8 = (Kk : Int) := by rw [← hKk]; omega
  have hKt : ((M : Int) / 256).tmod 8 = (Kk : Int) := by rw [Int.tmod_eq_emod_of_nonneg (by omega), hKm]
  obtain ⟨bt, hbt⟩ : ∃ bt : UInt8, s.data.toList.getD (aN + J) 0 = bt := ⟨_, rfl⟩
  have hxor := xor_flip bt hK8
  have hat0 : (0 : Int) ≤ (aN : Int) + (J : Int) := by omega
  have hat1 : (aN : Int) + (J : Int) < (s.size : Int) := by omega
  have hatN : ((aN : Int) + (J : Int)).toNat = aN + J := by omega
  have h5at := h5c (aN + J) (by omega)
  rw [hbt] at h5at
  have h5f : W5.frozen? ⟨W3.heap.size, aN + J, none⟩ = false := by
    unfold World.frozen?
    simp only [h5n]
    simp [Lib.bytesCells]
    omega
  rw [h3s] at h5at h5f h5n h5s
  have k8 : ∀ X : World, Below W5.heap.size W5 X → X.cell? ⟨w2.heap.size + 1, aN + J, none⟩ = some (.int .u8 (bt.toNat : Int)) ∧ X.cell? ⟨w.heap.size + 1, 1, none⟩ = some (.int .i64 m) := fun X h =>
    ⟨(h.cell (p := ⟨w2.heap.size + 1, aN + J, none⟩) (by show w2.heap.size + 1 < W5.heap.size; omega)).trans h5at, (k7 X h).2.2⟩
  obtain ⟨u1, u2⟩ := k8 W5 (Below.refl _ _)
  have hAt64 : (aN : Int) + (J : Int) < 4000000000 := by omega
  have Hbt := Lib.hid hbt
  clear hbt hKk
  go_wp2_with fail
  go_region_with (fail)
  all_goals
    have B36 : Below W3.heap.size W3 (W5.setCell ⟨w2.heap.size + 1, aN + J, none⟩ (.int .u8 ((flipB bt Kk).toNat : Int))).drew.drew := (B5.setCell (p := ⟨w2.heap.size + 1, aN + J, none⟩) (by show W3.heap.size ≤ w2.heap.size + 1; omega) _).drew.drew
    have hb6 : ∀ j (hj : j < (s.data.toList.set (aN + J) (flipB bt Kk)).length), (W5.setCell ⟨w2.heap.size + 1, aN + J, none⟩ (.int .u8 ((flipB bt Kk).toNat : Int))).drew.drew.cell? ⟨w2.heap.size + 1, j, none⟩ = some (.int .u8 ((s.data.toList.set (aN + J) (flipB bt Kk))[j].toNat : Int)) := fun j hj => by
      rw [List.length_set] at hj
      have hjs : j < s.size := hj
      show (W5.setCell ⟨w2.heap.size + 1, aN + J, none⟩ (.int .u8 ((flipB bt Kk).toNat : Int))).cell? ⟨w2.heap.size + 1, j, none⟩ = _
      by_cases e : j = aN + J
      · subst e
        rw [World.cell?_setCell_same W5 _ _ h5at]
        simp
      · have h5j := h5c j hjs
        rw [h3s] at h5j
        rw [World.cell?_setCell_other W5 _ _ _ (by simp <;> omega), h5j, List.getElem_set_ne (by omega), List.getD_eq_getElem?_getD, List.getElem?_eq_getElem hj]
        rfl
    have h6s : (W5.setCell ⟨w2.heap.size + 1, aN + J, none⟩ (.int .u8 ((flipB bt Kk).toNat : Int))).drew.drew.heap.size = w2.heap.size + 2 := by
      show (W5.setCell ⟨w2.heap.size + 1, aN + J, none⟩ (.int .u8 ((flipB bt Kk).toNat : Int))).heap.size = _
      simp [World.setCell]
      omega
    generalize (W5.setCell ⟨w2.heap.size + 1, aN + J, none⟩ (.int .u8 ((flipB bt Kk).toNat : Int))).drew.drew = W6 at B36 hb6 h6s ⊢
    have B6 : Below W0.heap.size W0 W6 := B3.trans (B36.mono B3.size)
    have hTn : ∀ s' : ByteArray, s'.data.toList = s.data.toList.set (aN + J) (flipB bt Kk) → chkB s' l = false := fun s' h => turned hg.out hym HK1.out (j := J) (k := Kk) (by show (J : Int) < (z : Int); omega) hK8 (by rw [h, ← Hbt.out]; rfl)
    obtain ⟨s', hs'⟩ : ∃ s' : ByteArray, s' = ⟨(s.data.toList.set (aN + J) (flipB bt Kk)).toArray⟩ := ⟨_, rfl⟩
    have hs'l : s'.data.toList = s.data.toList.set (aN + J) (flipB bt Kk) := by rw [hs']
    have hs'n : (s.data.toList.set (aN + J) (flipB bt Kk)).length = s.size := List.length_set ..
    have hs'z : s'.size = s.size := by
      show s'.data.size = s.size
      rw [← Array.length_toList, hs'l, hs'n]
    have hchk := hTn s' hs'l
    have I' : Img s' l := ⟨by rw [hs'z]; exact I.hs, I.hl, I.ok, I.vs⟩
    have W7b : ∀ o, Below W6.heap.size W6 (W6.alloc o) := fun o => (Below.refl _ _).alloc (Nat.le_refl _) o
    have hcb := fun o => run_convert_bytes_back (P := Tryz.prog) (W6.alloc o) 35 9 5 ⟨w2.heap.size + 1, 0, none⟩ cp (s.data.toList.set (aN + J) (flipB bt Kk)) Tryz.underlying35 Tryz.underlying5 Tryz.underlying9 (fun j hj => by
      rw [Addr.add_mid, Nat.zero_add]
      exact ((W7b o).cell (p := ⟨w2.heap.size + 1, j, none⟩) (by show w2.heap.size + 1 < W6.heap.size; omega)).trans (hb6 j hj))
    rw [hs'n, ← hs'] at hcb
    have hC := fun (o : Obj) => check_img I' (some ⟨g, off, none⟩) cap (W6.alloc o) (at_ _ (U _ (B6.alloc B6.size o))) (laid_below hw (U _ (B6.alloc B6.size o)))
    rw [hchk] at hC
    obtain ⟨c0, c1, -, -⟩ := K W6 B6
    clear h5c h5n h5at h5f hxor u1 u2 k7 k8 hb6 hTn hs' hs'l hs'n hchk hAw2 hyk
    go_wp2_with (refine conv_back _ rfl _ rfl ⟨w2.heap.size + 1, 0, none⟩ s.size cp s' rfl (hcb _) ?_)
    ((with_reducible refine (hC _).mono ?_); rintro e w8 ⟨rfl, hb8⟩)
    have B8 : Below W0.heap.size W0 w8 := (B6.alloc B6.size _).trans (hb8.mono (B6.alloc B6.size _).size)
    have hAw8 := hAw w8 (U _ B8)
    go_wp2_with fail
    ((with_reducible refine hAw8.mono ?_); rintro e w9 ⟨rfl, hb9⟩)
    go_wp2_with fail
    exact bodyPost_ret (results_tmp rfl _ _ _) rfl ⟨rfl, (U _ B8).trans (hb9.mono (U _ B8).size)⟩
end Go.Proofs.YtnpfihlaocpcfaaGreatDoor
/- For the seat: an argument that is a row of instructions; one that is a row of numbers. -/
namespace Go.Proofs.YtnpfihlaocpcfaaGreatDoor
open Go.Sx Go.ChangeShapes Go.WideShapes Go.RowKit Go.Joins Go.Deep

section
variable {H : Type} {enc : TypeId × Value → H}

set_option maxRecDepth 100000 in
theorem oneNone {w : World} {a : Addr} {v : Value} (h : w.cell? a = some v) : a.spot = none := by
  unfold World.cell? at h
  split at h
  · cases hs : a.spot with
    | none => rfl
    | some x => simp [hs] at h
  · cases h

set_option maxRecDepth 100000 in
/-- The cells of an instruction in a row. -/
theorem open_cellsI {W : World} {fuel : Nat} {cs : List Value} {x : DataW H × List MemPlace} (hl : cs.length = 9) (h : DataW.trod enc Tryz.prog W 0 (fun _ => true) true fuel 30 cs = some x) : ∃ y : Fields, y.Ok ∧ cs = y.cells.toList := by
  have hc1 : Tryz.prog.cellsOf 3 = 1 := by kernel_rfl
  have hc2 : Tryz.prog.cellsOf 4 = 1 := by kernel_rfl
  obtain ⟨ys, n', _, _, _, hyl, hg⟩ := DataW.trod_struct Tryz.underlying30 h
  match cs, hl, ys, hyl with
  | [c0, c1, c2, c3, c4, c5, c6, c7, c8], _, [z0, z1, z2, z3, z4, z5, z6, z7, z8], _ =>
    have g0 := hg 0 _ rfl
    simp [hc1] at g0
    have g1 := hg 1 _ rfl
    simp [hc1] at g1
    have g2 := hg 2 _ rfl
    simp [hc1] at g2
    have g3 := hg 3 _ rfl
    simp [hc1] at g3
    have g4 := hg 4 _ rfl
    simp [hc1] at g4
    have g5 := hg 5 _ rfl
    simp [hc1] at g5
    have g6 := hg 6 _ rfl
    simp [hc1] at g6
    have g7 := hg 7 _ rfl
    simp [hc1] at g7
    have g8 := hg 8 _ rfl
    simp [hc2] at g8
    obtain ⟨q0, e0, _, w0⟩ := DataW.trod_int Tryz.underlying3 g0
    obtain ⟨q1, e1, _, w1⟩ := DataW.trod_int Tryz.underlying3 g1
    obtain ⟨q2, e2, _, w2⟩ := DataW.trod_int Tryz.underlying3 g2
    obtain ⟨q3, e3, _, w3⟩ := DataW.trod_int Tryz.underlying3 g3
    obtain ⟨q4, e4, _, w4⟩ := DataW.trod_int Tryz.underlying3 g4
    obtain ⟨q5, e5, _, w5⟩ := DataW.trod_int Tryz.underlying3 g5
    obtain ⟨q6, e6, _, w6⟩ := DataW.trod_int Tryz.underlying3 g6
    obtain ⟨q7, e7, _, w7⟩ := DataW.trod_int Tryz.underlying3 g7
    obtain ⟨q8, e8, _⟩ := DataW.trod_bool Tryz.underlying4 g8
    simp only [List.cons.injEq, and_true] at e0 e1 e2 e3 e4 e5 e6 e7 e8
    subst e0 e1 e2 e3 e4 e5 e6 e7 e8
    exact ⟨⟨q0, q1, q2, q3, q4, q5, q6, q7, q8⟩, ⟨wf_has w0, wf_has w1, wf_has w2, wf_has w3, wf_has w4, wf_has w5, wf_has w6, wf_has w7⟩, rfl⟩


set_option maxRecDepth 100000 in
/-- An argument that is a slice of numbers. -/
theorem open_ints {W : World} {r : Reach} {b0 : Nat} {v : Value} {d : DataW H} {p : List MemPlace} (hv : Value.okWide Tryz.prog W r b0 31 v)
    (h : DataW.Trod enc Tryz.prog W 0 (fun _ => true) true 31 v d p) : ∃ (A : Option Addr) (cap : Nat) (l : List Int), v = .slice A l.length cap ∧ IAt W W.heap.size A l ∧ (∀ x ∈ l, kHas .i64 x) ∧ l.length ≤ maxLen ∧ l.length ≤ cap ∧ (A = none → cap = 0) := by
  obtain ⟨fuel, hf⟩ := h
  obtain ⟨a0, n0, c0, rfl⟩ := okWide_slice Tryz.underlying31 hv
  rcases open_slice1 Tryz.underlying31 (by kernel_rfl) hf with ⟨hc, _⟩ | ⟨a, len, cap, m, n, V, D, Pl, hc, _, hl, hm, hmm, hx, hi⟩
  · simp [Value.cells] at hc
    obtain ⟨rfl, rfl, rfl⟩ := hc
    exact ⟨none, 0, [], rfl, fun h => absurd rfl h, by simp, Nat.zero_le _, Nat.zero_le _, fun _ => rfl⟩
  · simp [Value.cells] at hc
    obtain ⟨rfl, rfl, rfl⟩ := hc
    simp only [if_true] at hmm
    subst hmm
    have each : ∀ i, i < n0 → ∃ y : Int, kHas .i64 y ∧ W.cell? (a.add i) = some (.int .i64 y) := by
      intro i hin
      obtain ⟨h1, h2⟩ := hi i (by omega)
      obtain ⟨q, e, _, w⟩ := DataW.trod_int Tryz.underlying3 h2
      simp only [List.cons.injEq, and_true] at e
      exact ⟨q, wf_has w, by rw [h1, e]⟩
    have hch : ∃ F : Nat → Int, ∀ i, i < n0 → kHas .i64 (F i) ∧ W.cell? (a.add i) = some (.int .i64 (F i)) := by
      refine ⟨fun i => if h : i < n0 then Classical.choose (each i h) else 0, fun i hin => ?_⟩
      simp only [hin, dif_pos]
      exact Classical.choose_spec (each i hin)
    obtain ⟨F, hF⟩ := hch
    refine ⟨some a, _, (List.range n0).map F, by rw [List.length_map, List.length_range], ?_, ?_, by simp; omega, by simpa using hl, fun h => by cases h⟩
    · intro hne
      have hn0 : 0 < n0 := by
        rcases Nat.eq_zero_or_pos n0 with e | e
        · subst e; simp at hne
        · exact e
      have k0 := (hF 0 hn0).2
      have hsp : a.spot = none := by
        have : a.add 0 = a := by simp [Addr.add]
        rw [this] at k0
        exact oneNone k0
      have hab : a.block < W.heap.size := by
        have := World.block_lt_of_cell? W _ k0
        simpa [Addr.add] using this
      obtain ⟨ab, ao, asp⟩ := a
      simp only at hsp hab
      subst hsp
      have hadd : ∀ m n, (⟨ab, m, none⟩ : Addr).add n = ⟨ab, m + n, none⟩ := fun m n => by unfold Addr.add; split <;> simp_all
      refine ⟨ab, ao, rfl, hab, fun i x hx => ?_⟩
      have hin : i < n0 := by
        have := (List.getElem?_eq_some_iff.1 hx).1
        simpa using this
      have hx' : F i = x := by simpa [hin] using hx
      have := (hF i hin).2
      rw [hx', hadd] at this
      exact this
    · intro x hx
      obtain ⟨i, hin, rfl⟩ := List.mem_map.1 hx
      exact (hF i (by simpa using hin)).1
end
end Go.Proofs.YtnpfihlaocpcfaaGreatDoor
/- For the seat: an argument that is an image. -/
namespace Go.Proofs.YtnpfihlaocpcfaaGreatDoor
open Go.Sx Go.ChangeShapes Go.WideShapes Go.RowKit Go.Joins Go.Deep

section
variable {H : Type} {enc : TypeId × Value → H}

set_option maxRecDepth 100000 in
/-- Cells of a slice of numbers. -/
theorem open_ints' {W : World} {fuel : Nat} {cs : List Value} {x : DataW H × List MemPlace} (h : DataW.trod enc Tryz.prog W 0 (fun _ => true) true fuel 31 cs = some x) :
    ∃ (A : Option Addr) (cap : Nat) (l : List Int), cs = [.slice A l.length cap] ∧ IAt W W.heap.size A l ∧ (∀ x ∈ l, kHas .i64 x) ∧ l.length ≤ maxLen ∧ l.length ≤ cap := by
  rcases open_slice1 Tryz.underlying31 (by kernel_rfl) h with ⟨hc, _⟩ | ⟨a, n0, cap, m, n, V, D, Pl, hc, _, hl, hm, hmm, hx, hi⟩
  · exact ⟨none, 0, [], hc, fun h => absurd rfl h, by simp, Nat.zero_le _, Nat.zero_le _⟩
  · simp only [if_true] at hmm
    subst hmm
    have each : ∀ i, i < n0 → ∃ y : Int, kHas .i64 y ∧ W.cell? (a.add i) = some (.int .i64 y) := by
      intro i hin
      obtain ⟨h1, h2⟩ := hi i (by omega)
      obtain ⟨q, e, _, w⟩ := DataW.trod_int Tryz.underlying3 h2
      simp only [List.cons.injEq, and_true] at e
      exact ⟨q, wf_has w, by rw [h1, e]⟩
    have hch : ∃ F : Nat → Int, ∀ i, i < n0 → kHas .i64 (F i) ∧ W.cell? (a.add i) = some (.int .i64 (F i)) := by
      refine ⟨fun i => if h : i < n0 then Classical.choose (each i h) else 0, fun i hin => ?_⟩
      simp only [hin, dif_pos]
      exact Classical.choose_spec (each i hin)
    obtain ⟨F, hF⟩ := hch
    refine ⟨some a, _, (List.range n0).map F, by rw [List.length_map, List.length_range]; exact hc, ?_, ?_, by simp; omega, by simpa using hl⟩
    · intro hne
      have hn0 : 0 < n0 := by
        rcases Nat.eq_zero_or_pos n0 with e | e
        · subst e; simp at hne
        · exact e
      have k0 := (hF 0 hn0).2
      have hsp : a.spot = none := by
        have : a.add 0 = a := by simp [Addr.add]
        rw [this] at k0
        exact oneNone k0
      have hab : a.block < W.heap.size := by
        have := World.block_lt_of_cell? W _ k0
        simpa [Addr.add] using this
      obtain ⟨ab, ao, asp⟩ := a
      simp only at hsp hab
      subst hsp
      have hadd : ∀ m n, (⟨ab, m, none⟩ : Addr).add n = ⟨ab, m + n, none⟩ := fun m n => by unfold Addr.add; split <;> simp_all
      refine ⟨ab, ao, rfl, hab, fun i x hx => ?_⟩
      have hin : i < n0 := by
        have := (List.getElem?_eq_some_iff.1 hx).1
        simpa using this
      have hx' : F i = x := by simpa [hin] using hx
      have := (hF i hin).2
      rw [hx', hadd] at this
      exact this
    · intro x hx
      obtain ⟨i, hin, rfl⟩ := List.mem_map.1 hx
      exact (hF i (by simpa using hin)).1

set_option maxRecDepth 100000 in
/-- The cells of an item. -/
theorem open_itm {W : World} {fuel : Nat} {cs : List Value} {x : DataW H × List MemPlace} (hl : cs.length = 15) (h : DataW.trod enc Tryz.prog W 0 (fun _ => true) true fuel 33 cs = some x) :
    ∃ y : Itm, y.Ok ∧ IAt W W.heap.size y.V y.vs ∧ cs = y.cells.toList := by
  have hc1 : Tryz.prog.cellsOf 3 = 1 := by kernel_rfl
  have hc2 : Tryz.prog.cellsOf 30 = 9 := by kernel_rfl
  have hc3 : Tryz.prog.cellsOf 31 = 1 := by kernel_rfl
  obtain ⟨ys, n', _, _, _, hyl, hg⟩ := DataW.trod_struct Tryz.underlying33 h
  match cs, hl, ys, hyl with
  | [c0, c1, c2, c3, c4, c5, c6, c7, c8, c9, c10, c11, c12, c13, c14], _, [z0, z1, z2, z3, z4, z5, z6], _ =>
    have g0 := hg 0 _ rfl
    simp [hc1] at g0
    have g1 := hg 1 _ rfl
    simp [hc1] at g1
    have g2 := hg 2 _ rfl
    simp [hc1] at g2
    have g3 := hg 3 _ rfl
    simp [hc1] at g3
    have g4 := hg 4 _ rfl
    simp [hc1] at g4
    have g5 := hg 5 _ rfl
    simp [hc2] at g5
    have g6 := hg 6 _ rfl
    simp [hc3] at g6
    obtain ⟨q0, e0, _, w0⟩ := DataW.trod_int Tryz.underlying3 g0
    obtain ⟨q1, e1, _, w1⟩ := DataW.trod_int Tryz.underlying3 g1
    obtain ⟨q2, e2, _, w2⟩ := DataW.trod_int Tryz.underlying3 g2
    obtain ⟨q3, e3, _, w3⟩ := DataW.trod_int Tryz.underlying3 g3
    obtain ⟨q4, e4, _, w4⟩ := DataW.trod_int Tryz.underlying3 g4
    obtain ⟨f, hf, e5⟩ := open_cellsI rfl g5
    obtain ⟨V, vc, vs, e6, hV, hvs, hvl, hvc⟩ := open_ints' g6
    obtain ⟨f0, f1, f2, f3, f4, f5, f6, f7, fb⟩ := f
    simp only [List.cons.injEq, and_true] at e0 e1 e2 e3 e4 e5 e6
    obtain ⟨rfl, rfl, rfl, rfl, rfl, rfl, rfl, rfl, rfl⟩ := e5
    subst e0 e1 e2 e3 e4 e6
    exact ⟨⟨q0, q1, q2, q3, q4, ⟨f0, f1, f2, f3, f4, f5, f6, f7, fb⟩, V, vc, vs⟩, ⟨wf_has w0, wf_has w1, wf_has w2, wf_has w3, wf_has w4, hf, hvs, hvl, hvc⟩, hV, rfl⟩

set_option maxRecDepth 100000 in
/-- The cells of a slice of items. -/
theorem open_items {W : World} {fuel : Nat} {cs : List Value} {x : DataW H × List MemPlace} (h : DataW.trod enc Tryz.prog W 0 (fun _ => true) true fuel 22 cs = some x) :
    ∃ (A : Option Addr) (cap : Nat) (l : List Itm), cs = [.slice A l.length cap] ∧ ItAt W W.heap.size A l ∧ (∀ y ∈ l, y.Ok) ∧ l.length ≤ maxLen := by
  rcases open_slice Tryz.underlying22 h with ⟨hc, _⟩ | ⟨a, n0, cap, m, n, D, Pl, hc, _, hl, hm, hmm, hx, hi⟩
  · exact ⟨none, 0, [], hc, ⟨fun h => absurd rfl h, by simp⟩, by simp, Nat.zero_le _⟩
  · simp only [if_true] at hmm
    subst hmm
    have hcc : Tryz.prog.cellsOf 33 = 15 := by kernel_rfl
    have each : ∀ i, i < n0 → ∃ y : Itm, y.Ok ∧ IAt W W.heap.size y.V y.vs ∧ ∀ (j : Nat) (v : Value), y.cells[j]? = some v → W.cell? ((a.add (i * 15)).add j) = some v := by
      intro i hin
      obtain ⟨cs, h1, h2⟩ := hi i (by omega)
      rw [hcc] at h1
      obtain ⟨_, hlen, hat⟩ := World.cells?_some h1
      obtain ⟨y, hy, hV, rfl⟩ := open_itm hlen h2
      refine ⟨y, hy, hV, fun j v hv => ?_⟩
      have hj : j < 15 := by have := (Array.getElem?_eq_some_iff.1 hv).1; simpa using this
      rw [hat j hj]
      simpa using hv
    have hch : ∃ F : Nat → Itm, ∀ i, i < n0 → (F i).Ok ∧ IAt W W.heap.size (F i).V (F i).vs ∧ ∀ (j : Nat) (v : Value), (F i).cells[j]? = some v → W.cell? ((a.add (i * 15)).add j) = some v := by
      refine ⟨fun i => if h : i < n0 then Classical.choose (each i h) else kerI, fun i hin => ?_⟩
      simp only [hin, dif_pos]
      exact Classical.choose_spec (each i hin)
    obtain ⟨F, hF⟩ := hch
    refine ⟨some a, _, (List.range n0).map F, by rw [List.length_map, List.length_range]; exact hc, ⟨?_, ?_⟩, ?_, by simp; omega⟩
    · intro hne
      have hn0 : 0 < n0 := by
        rcases Nat.eq_zero_or_pos n0 with e | e
        · subst e; simp at hne
        · exact e
      have k0 := (hF 0 hn0).2.2 0 _ rfl
      have hsp : a.spot = none := by
        have : (a.add (0 * 15)).add 0 = a := by simp [Addr.add]
        rw [this] at k0
        exact oneNone k0
      have hab : a.block < W.heap.size := by
        have := World.block_lt_of_cell? W _ k0
        simpa [Addr.add] using this
      obtain ⟨ab, ao, asp⟩ := a
      simp only at hsp hab
      subst hsp
      have hadd : ∀ m n, (⟨ab, m, none⟩ : Addr).add n = ⟨ab, m + n, none⟩ := fun m n => by unfold Addr.add; split <;> simp_all
      refine ⟨ab, ao, rfl, hab, fun i x hx j v hv => ?_⟩
      have hin : i < n0 := by
        have := (List.getElem?_eq_some_iff.1 hx).1
        simpa using this
      have hx' : F i = x := by simpa [hin] using hx
      have := (hF i hin).2.2 j v (by rw [hx']; exact hv)
      rw [hadd, hadd] at this
      exact this
    · intro x hx
      obtain ⟨i, hin, rfl⟩ := List.mem_map.1 hx
      exact (hF i (by simpa using hin)).2.1
    · intro x hx
      obtain ⟨i, hin, rfl⟩ := List.mem_map.1 hx
      exact (hF i (by simpa using hin)).1

set_option maxRecDepth 100000 in
/-- An argument that is an image. -/
theorem open_code {W : World} {r : Reach} {b0 : Nat} {v : Value} {d : DataW H} {p : List MemPlace} (hv : Value.okWide Tryz.prog W r b0 24 v)
    (h : DataW.Trod enc Tryz.prog W 0 (fun _ => true) true 24 v d p) : ∃ (s : ByteArray) (A : Option Addr) (cap : Nat) (l : List Itm), v = .agg #[.string s, .slice A l.length cap] ∧ ItAt W W.heap.size A l ∧ (∀ x ∈ l, x.Ok) ∧ l.length ≤ maxLen ∧ s.size ≤ maxLen := by
  obtain ⟨fuel, hf⟩ := h
  have hc1 : Tryz.prog.cellsOf 9 = 1 := by kernel_rfl
  have hc2 : Tryz.prog.cellsOf 22 = 1 := by kernel_rfl
  have hcc : Tryz.prog.cellsOf 24 = 2 := by kernel_rfl
  obtain ⟨cs, rfl, _⟩ := okWide_struct Tryz.underlying24 hv
  obtain ⟨ys, n', _, _, hcl, hyl, hg⟩ := DataW.trod_struct Tryz.underlying24 hf
  rw [hcc] at hcl
  obtain ⟨c0, c1, hcs⟩ : ∃ c0 c1, (Value.agg cs).cells.toList = [c0, c1] := by
    match hq : (Value.agg cs).cells.toList, hcl with
    | [c0, c1], _ => exact ⟨c0, c1, rfl⟩
  rw [hcs] at hg
  match ys, hyl with
  | [z0, z1], _ =>
    have g0 := hg 0 _ rfl
    simp [hc1] at g0
    have g1 := hg 1 _ rfl
    simp [hc2] at g1
    obtain ⟨s, e0, _, hs⟩ := DataW.trod_string Tryz.underlying9 g0
    obtain ⟨A, cap, l, e1, hI, hk, hl⟩ := open_items g1
    simp only [List.cons.injEq, and_true] at e0 e1
    subst e0 e1
    refine ⟨s, A, cap, l, ?_, hI, hk, hl, hs⟩
    have : cs = #[.string s, .slice A l.length cap] := by
      have h2 : cs.toList = [.string s, .slice A l.length cap] := hcs
      rw [← Array.toList_inj]; exact h2
    rw [this]
end
end Go.Proofs.YtnpfihlaocpcfaaGreatDoor
/- For the seat: an argument of two numbers. -/
namespace Go.Proofs.YtnpfihlaocpcfaaGreatDoor
open Go.ChangeShapes Go.WideShapes Go.RowKit Go.Sx
variable {H : Type} {enc : TypeId × Value → H}
set_option maxRecDepth 100000 in
theorem open_int2 {W : World} {v : Value} {dt : DataW H} {p : List MemPlace} {r : Reach} {b0 : Nat} (hv : Value.okWide Tryz.prog W r b0 25 v)
    (h : DataW.Trod enc Tryz.prog W 0 (fun _ => true) true 25 v dt p) : ∃ n m : Int, v = .agg #[.int .i64 n, .int .i64 m] ∧ kHas .i64 n ∧ kHas .i64 m := by
  obtain ⟨fuel, hf⟩ := h
  have hc1 : Tryz.prog.cellsOf 3 = 1 := by kernel_rfl
  have hcc : Tryz.prog.cellsOf 25 = 2 := by kernel_rfl
  simp only [Value.okWide, Tryz.underlying25] at hv
  obtain ⟨cs, rfl, _⟩ := hv
  obtain ⟨ys, n', _, _, hcl, hyl, hg⟩ := DataW.trod_array Tryz.underlying25 hf
  rw [hcc] at hcl
  obtain ⟨c0, c1, hcs⟩ : ∃ c0 c1, (Value.agg cs).cells.toList = [c0, c1] := by
    match hq : (Value.agg cs).cells.toList, hcl with
    | [c0, c1], _ => exact ⟨c0, c1, rfl⟩
  rw [hcs] at hg
  match ys, hyl with
  | [z0, z1], _ =>
    have g0 := hg 0 (by omega)
    simp [hc1] at g0
    have g1 := hg 1 (by omega)
    simp [hc1] at g1
    obtain ⟨q0, e0, _, w0⟩ := DataW.trod_int Tryz.underlying3 g0
    obtain ⟨q1, e1, _, w1⟩ := DataW.trod_int Tryz.underlying3 g1
    simp only [List.cons.injEq, and_true] at e0 e1
    subst e0 e1
    refine ⟨q0, q1, ?_, wf_has w0, wf_has w1⟩
    have : cs = #[.int .i64 q0, .int .i64 q1] := by
      have h2 : cs.toList = [.int .i64 q0, .int .i64 q1] := hcs
      rw [← Array.toList_inj]; exact h2
    rw [this]
end Go.Proofs.YtnpfihlaocpcfaaGreatDoor
