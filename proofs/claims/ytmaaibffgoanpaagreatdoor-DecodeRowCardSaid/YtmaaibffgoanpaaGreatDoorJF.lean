/- For the seat: texts joined: RowDef, Row, Args. -/
import Derived.Test.YtmaaibffgoanpaaGreatDoorJE
import Derived.Test.YtmaaibffgoanpaaGreatDoorJD
import Derived.LoopNIn
/- For the seat: a row of instructions, each at its shortest, is read as that row: the plain law. -/
namespace Go.Proofs.YtmaaibffgoanpaaGreatDoor
open Go.Sx Go.ChangeShapes Go.WideShapes Go.RowKit Go.Joins Go.Deep

noncomputable def itEnd : List Fields → Int → Int
  | [], it => it
  | x :: r, it => itEnd r (aftI it x)
noncomputable def encR : List Fields → Int → List Int
  | [], _ => []
  | x :: r, it => (bestOf x (itB it)).1 ++ encR r (aftI it x)
def okR : List Fields → Int → Prop
  | [], _ => True
  | x :: r, it => (bestOf x (itB it)).2 = 0 ∧ okR r (aftI it x)

set_option maxRecDepth 100000 in
theorem itEnd_snoc : ∀ (l : List Fields) (x : Fields) (it : Int), itEnd (l ++ [x]) it = aftI (itEnd l it) x
  | [], _, _ => rfl
  | _ :: r, x, _ => itEnd_snoc r x _
set_option maxRecDepth 100000 in
theorem encR_snoc : ∀ (l : List Fields) (x : Fields) (it : Int), encR (l ++ [x]) it = encR l it ++ (bestOf x (itB (itEnd l it))).1
  | [], _, _ => by simp [encR, itEnd]
  | y :: r, x, it => by
    show (bestOf y (itB it)).1 ++ encR (r ++ [x]) _ = ((bestOf y (itB it)).1 ++ encR r _) ++ _
    rw [encR_snoc r x, List.append_assoc]
    rfl
set_option maxRecDepth 100000 in
theorem okR_snoc : ∀ (l : List Fields) (x : Fields) (it : Int), okR l it → (bestOf x (itB (itEnd l it))).2 = 0 → okR (l ++ [x]) it
  | [], _, _, _, h => ⟨h, trivial⟩
  | _ :: r, x, _, hl, h => ⟨hl.1, okR_snoc r x _ hl.2 h⟩

set_option maxRecDepth 100000 in
theorem best_law {x : Fields} (hx : x.Ok) {it : Bool} (he : (bestOf x it).2 = 0) :
    (∀ a ∈ (bestOf x it).1, kHas .i64 a) ∧ 1 ≤ (bestOf x it).1.length ∧ (bestOf x it).1.length ≤ 2 ∧ ∀ r, decOf ((bestOf x it).1 ++ r) it = (x, ((bestOf x it).1.length : Int), 0) := by
  unfold bestOf at he ⊢
  split
  · rename_i h0
    exact back_law hx h0
  · rename_i h0
    rw [if_neg h0] at he
    exact back_law hx he
set_option maxRecDepth 100000 in
theorem bestOf_err (x : Fields) (it : Bool) : (bestOf x it).2 = 0 ∨ (bestOf x it).2 = 6 := by
  unfold bestOf
  split
  · exact .inl rfl
  · exact encOf_err x true it

set_option maxRecDepth 100000 in
theorem encR_has : ∀ (l : List Fields) (it : Int), (∀ x ∈ l, x.Ok) → okR l it → (∀ a ∈ encR l it, kHas .i64 a) ∧ (encR l it).length ≤ 2 * l.length
  | [], _, _, _ => ⟨fun a h => by simp [encR] at h, by simp [encR]⟩
  | x :: r, it, hx, ho => by
    obtain ⟨h1, _, h2, _⟩ := best_law (hx x (by simp)) ho.1
    obtain ⟨h3, h4⟩ := encR_has r (aftI it x) (fun y hy => hx y (by simp [hy])) ho.2
    refine ⟨fun a ha => ?_, ?_⟩
    · rcases List.mem_append.1 (show a ∈ (bestOf x (itB it)).1 ++ encR r (aftI it x) from ha) with h | h
      · exact h1 a h
      · exact h3 a h
    · show ((bestOf x (itB it)).1 ++ encR r (aftI it x)).length ≤ _
      rw [List.length_append, List.length_cons]
      omega

set_option maxRecDepth 100000 in
theorem row_law : ∀ (r : List Fields) (it : Int) (P : List Int), (∀ x ∈ r, x.Ok) → okR r it → (strmA (P ++ encR r it) P.length it).map Prod.snd = r
  | [], it, P, _, _ => by
    rw [strmA_stop (by simp [encR])]
    rfl
  | x :: r, it, P, hx, ho => by
    obtain ⟨h1, h2, h3, h4⟩ := best_law (hx x (by simp)) ho.1
    have hH : P ++ encR (x :: r) it = (P ++ (bestOf x (itB it)).1) ++ encR r (aftI it x) := by
      rw [List.append_assoc]
      rfl
    have hd : (P ++ encR (x :: r) it).drop P.length = (bestOf x (itB it)).1 ++ encR r (aftI it x) := by
      rw [List.drop_left]
      rfl
    have hdec := h4 (encR r (aftI it x))
    have hlt : P.length < (P ++ encR (x :: r) it).length := by
      rw [hH]
      simp only [List.length_append]
      omega
    rw [strmA_go (n := (bestOf x (itB it)).1.length) hlt (by rw [hd, hdec]) (by rw [hd, hdec])]
    rw [hd, hdec]
    have ih := row_law r (aftI it x) (P ++ (bestOf x (itB it)).1) (fun y hy => hx y (by simp [hy])) ho.2
    rw [List.length_append, ← hH] at ih
    rw [List.map_cons, ih]
end Go.Proofs.YtmaaibffgoanpaaGreatDoor
/- For the seat: the law's function: a row of instructions is read back. -/
namespace Go.Proofs.YtmaaibffgoanpaaGreatDoor
open Go.Sx Go.ChangeShapes Go.WideShapes Go.RowKit Go.Joins Go.Deep

set_option maxRecDepth 100000 in
theorem snoc_take {l : List Fields} {i : Nat} (hi : i < l.length) : l.take (i + 1) = l.take i ++ [l[i]] := List.take_succ_eq_append_getElem hi

set_option maxRecDepth 100000 in
set_option maxHeartbeats 1000000 in
theorem row_r (l : List Fields) (hx : ∀ x ∈ l, x.Ok) (A : Option Addr) (cap : Nat) (w : World) (hA : FAt w w.heap.size A l) (hlen : l.length ≤ maxLen) (hcap : l.length ≤ cap) (hw : Laid w) :
    Calls Tryz.prog 4 #[.slice A l.length cap] w fun e w' => e = .returned (.bool true) ∧ Below w.heap.size w w' := by
  unfold maxLen at hlen
  go_enter Tryz.func4, Tryz.ntmps4
  by_cases hbig : 200 < l.length
  · have hb : (200 : Int) < (l.length : Int) := by omega
    have hAw := awake_ok w hw
    go_wp2_with fail
    ((with_reducible refine hAw.mono ?_); rintro e w5 ⟨rfl, hb5⟩)
    go_wp2_with fail
    exact bodyPost_ret (results_tmp rfl _ _ _) rfl ⟨rfl, hb5⟩
  · have hb : ¬ (200 : Int) < (l.length : Int) := by omega
    have hb' : (l.length : Int) ≤ 200 := by omega
    go_wp2
    go_loopw [3, 4, 5] (fun o it k wr => ∃ (i : Nat) (s : Int), i ≤ l.length ∧ k = .int .i64 i ∧ it = .int .i64 s ∧ Hid (s = itEnd (l.take i) 0 ∧ kHas .i64 s ∧ okR (l.take i) 0) ∧ wr.ownsRow w.heap.size 3 1 o (encR (l.take i) 0).length (encI (encR (l.take i) 0)) ∧ Below w.heap.size w wr) (fun _ _ k _ => l.length - (intOf k).toNat)
    case atStart => exact ⟨0, 0, by omega, rfl, rfl, Lib.hid ⟨rfl, zero_has, trivial⟩, World.ownsRow_nil _ _ _ _, Below.refl _ _⟩
    case round =>
      obtain ⟨i, s, hi, rfl, rfl, HI, hown, hbr⟩ := hrel
      have hlr := laid_below hw hbr
      by_cases hlt : i < l.length
      · obtain ⟨g, off, rfl, hg, hc⟩ := hA.at_ hlt
        have hk0 : (0 : Int) ≤ (i : Int) := by omega
        have hkl : (i : Int) < (l.length : Int) := by omega
        have hxi := hx l[i] (List.getElem_mem hlt)
        have hsn := snoc_take hlt
        have hBst := best_any hxi (itB s) wr hlr
        have herr := bestOf_err l[i] (itB s)
        have hlaw := best_law (it := itB s) hxi
        have hAft := aft_r HI.out.2.1 hxi
        have hhas := aft_has HI.out.2.1 hxi
        have hend : encR (l.take (i + 1)) 0 = encR (l.take i) 0 ++ (bestOf l[i] (itB s)).1 := by rw [hsn, encR_snoc, ← HI.out.1]
        have hite : aftI s l[i] = itEnd (l.take (i + 1)) 0 := by rw [hsn, itEnd_snoc, ← HI.out.1]
        have hok : (bestOf l[i] (itB s)).2 = 0 → okR (l.take (i + 1)) 0 := fun h => by
          rw [hsn]
          exact okR_snoc (l.take i) l[i] 0 HI.out.2.2 (by rw [← HI.out.1]; exact h)
        obtain ⟨_, hel⟩ := encR_has (l.take i) 0 (fun x h => hx x (List.mem_of_mem_take h)) HI.out.2.2
        have hel' : (encR (l.take i) 0).length ≤ 400 := by rw [List.length_take] at hel; omega
        have IN : InsIn w g (off + i * 9) l[i] := insIn_of hc
        clear hsn hc hel
        unfold itB at hBst herr hlaw hend hok
        generalize l[i] = x at *
        generalize bestOf x (bits BinOp.and IntKind.i64 s 15 != 0) = p at *
        obtain ⟨m, err⟩ := p
        have HO := Lib.hid hok
        have HE := Lib.hid hend
        have HT := Lib.hid (And.intro hite hhas)
        have HL := Lib.hid hlaw
        have IW := Lib.hid IN
        have hAf := fun w1 h1 => hAft.go (w := w1) h1
        clear hok hend hite hhas hlaw hAft hxi
        obtain ⟨x0, x1, x2, x3, x4, x5, x6, x7, xb⟩ := x
        obtain ⟨a0, a1, a2, a3, a4, a5, a6, a7, a8⟩ := IN.below hbr hg
        dsimp only [Fields.val] at hBst hAf
        simp only at a0 a1 a2 a3 a4 a5 a6 a7 a8
        clear IN
        go_wp2_with fail
        ((with_reducible refine hBst.mono ?_); rintro e w1 ⟨A1, cap1, rfl, hA1, hcap1, hb1⟩)
        have hb01 := hbr.trans (hb1.mono hbr.size)
        have hl1 := laid_below hw hb01
        clear a0 a1 a2 a3 a4 a5 a6 a7 a8 hBst
        rcases herr with he | he
        · obtain rfl : err = 0 := he
          obtain ⟨_, hn1, hn2, _⟩ := HL.out rfl
          have hne : m ≠ [] := by rintro rfl; simp at hn1
          have hown1 := own_below hown hb1
          have hbs1 := Nat.le_trans hbr.size hb1.size
          have HX : Hid (∀ w2, Below w.heap.size w1 w2 → InsIn w2 g (off + i * 9) ⟨x0, x1, x2, x3, x4, x5, x6, x7, xb⟩) := Lib.hid fun w2 h2 => (IW.out.below hb01 hg).below h2 hg
          dsimp only at hA1 hcap1
          clear HL IW hown hA
          go_wp2_with (at_builtin; refine app_ints w1 rfl _ _ rfl w.heap.size hbs1 (encR (l.take i) 0) m (by omega) hne _ rfl hown1 A1 _ cap1 w1.heap.size rfl rfl hA1 ?_; intro v2 w2 hown2 hb2; obtain ⟨a0, a1, a2, a3, a4, a5, a6, a7, a8⟩ := HX.out w2 hb2; simp only at a0 a1 a2 a3 a4 a5 a6 a7 a8)
          have hb02 := hb01.trans hb2
          ((with_reducible refine (hAf w2 (laid_below hw hb02)).mono ?_); rintro e w3 ⟨rfl, hb3⟩)
          have hown3 := own_below hown2 hb3
          rw [← HE.out] at hown3
          clear a0 a1 a2 a3 a4 a5 a6 a7 a8 hAf
          go_wp2_with fail
          go_roundw
          case rel => exact ⟨i + 1, _, by omega, by go_num, rfl, Lib.hid ⟨HT.out.1, HT.out.2, HO.out (by trivial)⟩, hown3, hb02.trans (hb3.mono hb02.size)⟩
          case measure => simp [intOf]; omega
        · obtain rfl : err = 6 := he
          have hAw := awake_ok _ hl1
          go_wp2_with fail
          ((with_reducible refine hAw.mono ?_); rintro e w5 ⟨rfl, hb5⟩)
          go_wp2_with fail
          exact bodyPost_ret (results_tmp rfl _ _ _) rfl ⟨rfl, hb01.trans (hb5.mono hb01.size)⟩
      · have e : i = l.length := by omega
        subst e
        have hA' := hA.below hbr (Nat.le_refl _)
        rw [List.take_length] at HI hown
        obtain ⟨hh, hel⟩ := encR_has l 0 hx HI.out.2.2
        have hlaw := row_law l 0 [] hx HI.out.2.2
        simp only [List.nil_append, List.length_nil] at hlaw
        obtain ⟨B, cb, rfl, hcb⟩ : ∃ B cb, u3 = .slice B (encR l 0).length cb ∧ (encR l 0).length ≤ cb := by
          rcases hown.2 with ⟨rfl, h0⟩ | ⟨g, cap, cur, rfl, _, _, hc, _⟩
          · exact ⟨none, 0, by rw [h0], by omega⟩
          · exact ⟨_, _, rfl, hc⟩
        have hS := stream_calls (encR l 0) B cb wr (IAt.of_own hown) hh (by omega) hcb hlr
        have hll : (strmA (encR l 0) 0 0).length = l.length := by rw [← hlaw, List.length_map, hlaw]
        clear hown HI hh hcb
        generalize encR l 0 = h at *
        generalize strmA h 0 0 = st at *
        go_wp2_with fail
        ((with_reducible refine hS.mono ?_); rintro e w1 ⟨v1, v2, rfl, hR, hb1⟩)
        obtain ⟨C, D, cc, cd, rfl, rfl, hF, hI, hcc, hcd⟩ := str_rows hR
        rw [hlaw] at hF
        rw [hll] at hcc
        have c1 := hbr.trans (hb1.mono hbr.size)
        have hM := same_r l l A C cap cc w1 ((hA.below c1 (Nat.le_refl _)).more c1.size) hF (by omega) hcap hcc (by omega)
        rw [show decide (l = l) = true from decide_eq_true rfl] at hM
        have hl1 := laid_below hw c1
        rw [hll]
        clear hS hR hI hF hA hA' hcd
        go_wp2_with fail
        ((with_reducible refine hM.mono ?_); rintro e w2 ⟨rfl, hb2⟩)
        have c2 := c1.trans (hb2.mono c1.size)
        have hAw := awake_ok w2 (laid_below hw c2)
        go_wp2_with fail
        ((with_reducible refine hAw.mono ?_); rintro e w3 ⟨rfl, hb3⟩)
        go_wp2_with fail
        exact bodyPost_ret (results_tmp rfl _ _ _) rfl ⟨rfl, c2.trans (hb3.mono c2.size)⟩
#print axioms row_r
end Go.Proofs.YtmaaibffgoanpaaGreatDoor
/- For the seat: an argument that is a row of instructions; one that is a row of numbers. -/
namespace Go.Proofs.YtmaaibffgoanpaaGreatDoor
open Go.Sx Go.ChangeShapes Go.WideShapes Go.RowKit Go.Joins Go.Deep

section
variable {H : Type} {enc : TypeId × Value → H}

set_option maxRecDepth 100000 in
theorem oneNone {w : World} {a : Addr} {v : Value} (h : w.cell? a = some v) : a.spot = none := by
  unfold World.cell? at h
  split at h
  · cases hs : a.spot with
    | none => rfl
    | some x => simp [hs] at h
  · cases h

set_option maxRecDepth 100000 in
/-- The cells of an instruction in a row. -/
theorem open_cellsI {W : World} {fuel : Nat} {cs : List Value} {x : DataW H × List MemPlace} (hl : cs.length = 9) (h : DataW.trod enc Tryz.prog W 0 (fun _ => true) true fuel 23 cs = some x) : ∃ y : Fields, y.Ok ∧ cs = y.cells.toList := by
  have hc1 : Tryz.prog.cellsOf 3 = 1 := by kernel_rfl
  have hc2 : Tryz.prog.cellsOf 4 = 1 := by kernel_rfl
  obtain ⟨ys, n', _, _, _, hyl, hg⟩ := DataW.trod_struct Tryz.underlying23 h
  match cs, hl, ys, hyl with
  | [c0, c1, c2, c3, c4, c5, c6, c7, c8], _, [z0, z1, z2, z3, z4, z5, z6, z7, z8], _ =>
    have g0 := hg 0 _ rfl
    simp [hc1] at g0
    have g1 := hg 1 _ rfl
    simp [hc1] at g1
    have g2 := hg 2 _ rfl
    simp [hc1] at g2
    have g3 := hg 3 _ rfl
    simp [hc1] at g3
    have g4 := hg 4 _ rfl
    simp [hc1] at g4
    have g5 := hg 5 _ rfl
    simp [hc1] at g5
    have g6 := hg 6 _ rfl
    simp [hc1] at g6
    have g7 := hg 7 _ rfl
    simp [hc1] at g7
    have g8 := hg 8 _ rfl
    simp [hc2] at g8
    obtain ⟨q0, e0, _, w0⟩ := DataW.trod_int Tryz.underlying3 g0
    obtain ⟨q1, e1, _, w1⟩ := DataW.trod_int Tryz.underlying3 g1
    obtain ⟨q2, e2, _, w2⟩ := DataW.trod_int Tryz.underlying3 g2
    obtain ⟨q3, e3, _, w3⟩ := DataW.trod_int Tryz.underlying3 g3
    obtain ⟨q4, e4, _, w4⟩ := DataW.trod_int Tryz.underlying3 g4
    obtain ⟨q5, e5, _, w5⟩ := DataW.trod_int Tryz.underlying3 g5
    obtain ⟨q6, e6, _, w6⟩ := DataW.trod_int Tryz.underlying3 g6
    obtain ⟨q7, e7, _, w7⟩ := DataW.trod_int Tryz.underlying3 g7
    obtain ⟨q8, e8, _⟩ := DataW.trod_bool Tryz.underlying4 g8
    simp only [List.cons.injEq, and_true] at e0 e1 e2 e3 e4 e5 e6 e7 e8
    subst e0 e1 e2 e3 e4 e5 e6 e7 e8
    exact ⟨⟨q0, q1, q2, q3, q4, q5, q6, q7, q8⟩, ⟨wf_has w0, wf_has w1, wf_has w2, wf_has w3, wf_has w4, wf_has w5, wf_has w6, wf_has w7⟩, rfl⟩

set_option maxRecDepth 100000 in
/-- An argument that is a slice of instructions. -/
theorem open_rowI {W : World} {r : Reach} {b0 : Nat} {v : Value} {d : DataW H} {p : List MemPlace} (hv : Value.okWide Tryz.prog W r b0 32 v)
    (h : DataW.Trod enc Tryz.prog W 0 (fun _ => true) true 32 v d p) : ∃ (A : Option Addr) (cap : Nat) (l : List Fields), v = .slice A l.length cap ∧ FAt W W.heap.size A l ∧ (∀ x ∈ l, x.Ok) ∧ l.length ≤ maxLen ∧ l.length ≤ cap := by
  obtain ⟨fuel, hf⟩ := h
  obtain ⟨a0, n0, c0, rfl⟩ := okWide_slice Tryz.underlying32 hv
  rcases open_slice Tryz.underlying32 hf with ⟨hc, _⟩ | ⟨a, len, cap, m, n, D, Pl, hc, _, hl, hm, hmm, hx, hi⟩
  · simp [Value.cells] at hc
    obtain ⟨rfl, rfl, rfl⟩ := hc
    exact ⟨none, 0, [], rfl, fun h => absurd rfl h, by simp, Nat.zero_le _, Nat.zero_le _⟩
  · simp [Value.cells] at hc
    obtain ⟨rfl, rfl, rfl⟩ := hc
    simp only [if_true] at hmm
    subst hmm
    have hcc : Tryz.prog.cellsOf 23 = 9 := by kernel_rfl
    have each : ∀ i, i < n0 → ∃ y : Fields, y.Ok ∧ ∀ (j : Nat) (v : Value), y.cells[j]? = some v → W.cell? ((a.add (i * 9)).add j) = some v := by
      intro i hin
      obtain ⟨cs, h1, h2⟩ := hi i (by omega)
      rw [hcc] at h1
      obtain ⟨_, hlen, hat⟩ := World.cells?_some h1
      obtain ⟨y, hy, rfl⟩ := open_cellsI hlen h2
      refine ⟨y, hy, fun j v hv => ?_⟩
      have hj : j < 9 := by have := (Array.getElem?_eq_some_iff.1 hv).1; simpa using this
      rw [hat j hj]
      simpa using hv
    have hch : ∃ F : Nat → Fields, ∀ i, i < n0 → (F i).Ok ∧ ∀ (j : Nat) (v : Value), (F i).cells[j]? = some v → W.cell? ((a.add (i * 9)).add j) = some v := by
      refine ⟨fun i => if h : i < n0 then Classical.choose (each i h) else zeroF, fun i hin => ?_⟩
      simp only [hin, dif_pos]
      exact Classical.choose_spec (each i hin)
    obtain ⟨F, hF⟩ := hch
    refine ⟨some a, _, (List.range n0).map F, by rw [List.length_map, List.length_range], ?_, ?_, by simp; omega, by simpa using hl⟩
    · intro hne
      have hn0 : 0 < n0 := by
        rcases Nat.eq_zero_or_pos n0 with e | e
        · subst e; simp at hne
        · exact e
      have k0 := (hF 0 hn0).2 0 _ rfl
      have hsp : a.spot = none := by
        have : (a.add (0 * 9)).add 0 = a := by simp [Addr.add]
        rw [this] at k0
        exact oneNone k0
      have hab : a.block < W.heap.size := by
        have := World.block_lt_of_cell? W _ k0
        simpa [Addr.add] using this
      obtain ⟨ab, ao, asp⟩ := a
      simp only at hsp hab
      subst hsp
      have hadd : ∀ m n, (⟨ab, m, none⟩ : Addr).add n = ⟨ab, m + n, none⟩ := fun m n => by unfold Addr.add; split <;> simp_all
      refine ⟨ab, ao, rfl, hab, fun i x hx j v hv => ?_⟩
      have hin : i < n0 := by
        have := (List.getElem?_eq_some_iff.1 hx).1
        simpa using this
      have hx' : F i = x := by simpa [hin] using hx
      have := (hF i hin).2 j v (by rw [hx']; exact hv)
      rw [hadd, hadd] at this
      exact this
    · intro x hx
      obtain ⟨i, hin, rfl⟩ := List.mem_map.1 hx
      exact (hF i (by simpa using hin)).1

set_option maxRecDepth 100000 in
/-- An argument that is a slice of numbers. -/
theorem open_ints {W : World} {r : Reach} {b0 : Nat} {v : Value} {d : DataW H} {p : List MemPlace} (hv : Value.okWide Tryz.prog W r b0 24 v)
    (h : DataW.Trod enc Tryz.prog W 0 (fun _ => true) true 24 v d p) : ∃ (A : Option Addr) (cap : Nat) (l : List Int), v = .slice A l.length cap ∧ IAt W W.heap.size A l ∧ (∀ x ∈ l, kHas .i64 x) ∧ l.length ≤ maxLen ∧ l.length ≤ cap ∧ (A = none → cap = 0) := by
  obtain ⟨fuel, hf⟩ := h
  obtain ⟨a0, n0, c0, rfl⟩ := okWide_slice Tryz.underlying24 hv
  rcases open_slice1 Tryz.underlying24 (by kernel_rfl) hf with ⟨hc, _⟩ | ⟨a, len, cap, m, n, V, D, Pl, hc, _, hl, hm, hmm, hx, hi⟩
  · simp [Value.cells] at hc
    obtain ⟨rfl, rfl, rfl⟩ := hc
    exact ⟨none, 0, [], rfl, fun h => absurd rfl h, by simp, Nat.zero_le _, Nat.zero_le _, fun _ => rfl⟩
  · simp [Value.cells] at hc
    obtain ⟨rfl, rfl, rfl⟩ := hc
    simp only [if_true] at hmm
    subst hmm
    have each : ∀ i, i < n0 → ∃ y : Int, kHas .i64 y ∧ W.cell? (a.add i) = some (.int .i64 y) := by
      intro i hin
      obtain ⟨h1, h2⟩ := hi i (by omega)
      obtain ⟨q, e, _, w⟩ := DataW.trod_int Tryz.underlying3 h2
      simp only [List.cons.injEq, and_true] at e
      exact ⟨q, wf_has w, by rw [h1, e]⟩
    have hch : ∃ F : Nat → Int, ∀ i, i < n0 → kHas .i64 (F i) ∧ W.cell? (a.add i) = some (.int .i64 (F i)) := by
      refine ⟨fun i => if h : i < n0 then Classical.choose (each i h) else 0, fun i hin => ?_⟩
      simp only [hin, dif_pos]
      exact Classical.choose_spec (each i hin)
    obtain ⟨F, hF⟩ := hch
    refine ⟨some a, _, (List.range n0).map F, by rw [List.length_map, List.length_range], ?_, ?_, by simp; omega, by simpa using hl, fun h => by cases h⟩
    · intro hne
      have hn0 : 0 < n0 := by
        rcases Nat.eq_zero_or_pos n0 with e | e
        · subst e; simp at hne
        · exact e
      have k0 := (hF 0 hn0).2
      have hsp : a.spot = none := by
        have : a.add 0 = a := by simp [Addr.add]
        rw [this] at k0
        exact oneNone k0
      have hab : a.block < W.heap.size := by
        have := World.block_lt_of_cell? W _ k0
        simpa [Addr.add] using this
      obtain ⟨ab, ao, asp⟩ := a
      simp only at hsp hab
      subst hsp
      have hadd : ∀ m n, (⟨ab, m, none⟩ : Addr).add n = ⟨ab, m + n, none⟩ := fun m n => by unfold Addr.add; split <;> simp_all
      refine ⟨ab, ao, rfl, hab, fun i x hx => ?_⟩
      have hin : i < n0 := by
        have := (List.getElem?_eq_some_iff.1 hx).1
        simpa using this
      have hx' : F i = x := by simpa [hin] using hx
      have := (hF i hin).2
      rw [hx', hadd] at this
      exact this
    · intro x hx
      obtain ⟨i, hin, rfl⟩ := List.mem_map.1 hx
      exact (hF i (by simpa using hin)).1
end
end Go.Proofs.YtmaaibffgoanpaaGreatDoor
