/- For the seat: texts joined: RsQ. -/
import Derived.Test.YtpdkpkabdkefcaaGreatDoorJAg
import Derived.Test.YtpdkpkabdkefcaaGreatDoorJAk
import Derived.Test.YtpdkpkabdkefcaaGreatDoorJAl
set_option maxRecDepth 100000
namespace Go.Proofs.YtpdkpkabdkefcaaGreatDoor
open Go.Sx Go.ChangeShapes Go.WideShapes Go.RowKit Go.Joins Go.Deep Go.Rp
theorem setCells_heap (g : Nat) : ∀ (vs : List Value) (o : Nat) (w : World), (∀ q, q ≠ g → (w.setCells g o vs).heap[q]? = w.heap[q]?) ∧ (w.setCells g o vs).heap.size = w.heap.size ∧ (w.setCells g o vs).os = w.os ∧ (w.setCells g o vs).tape = w.tape ∧ (w.setCells g o vs).output = w.output ∧
    ∀ cs t fr, w.heap[g]? = some (.cells cs t fr) → ∃ cs', (w.setCells g o vs).heap[g]? = some (.cells cs' t fr) ∧ cs'.size = cs.size
  | [], _, w => ⟨fun _ _ => rfl, rfl, rfl, rfl, rfl, fun cs _ _ h => ⟨cs, h, rfl⟩⟩
  | v :: r, o, w => by
    obtain ⟨h1, h2, h3, h4, h5, h6⟩ := setCells_heap g r (o + 1) (w.setCell ⟨g, o, none⟩ v)
    refine ⟨fun q hq => (h1 q hq).trans (Below.heap_setCell _ _ _ _ hq), h2.trans (by simp [World.setCell]), h3, h4, h5, fun cs t fr h => ?_⟩
    obtain ⟨cs', k1, k2⟩ := h6 _ t fr (setCell_at h v)
    exact ⟨cs', k1, by rw [k2]; simp⟩
theorem setCells_all {w : World} {g : Nat} {cs : Array Value} {t : TypeId} {fr : Nat × Nat} (h : w.heap[g]? = some (.cells cs t fr)) (vs : List Value) (hl : vs.length = cs.size) : (w.setCells g 0 vs).heap[g]? = some (.cells vs.toArray t fr) := by
  obtain ⟨cs', h1, h2⟩ := (setCells_heap g vs 0 w).2.2.2.2.2 cs t fr h
  rw [h1]
  have hz : cs' = vs.toArray := by
    refine Array.ext (by simp; omega) fun j hj hj' => ?_
    have hj2 : j < vs.length := by simpa using hj'
    have := World.cell?_setCells_in g vs 0 w (fun i hi => by simp [World.cell?, h]; omega) j hj2
    rw [show (⟨g, 0 + j, none⟩ : Addr) = ⟨g, j, none⟩ by simp] at this
    simp only [World.cell?, h1] at this
    simp [hj] at this
    simpa using this
  rw [hz]
theorem there_of {w : World} {g : Nat} {cs : Array Value} {t : TypeId} (h : w.heap[g]? = some (.cells cs t (0, 0))) : w.there g 0 cs.size := fun j hj => by
  constructor
  · simp [World.cell?, h]; omega
  · simp [World.frozen?, h]
theorem below_setCells {B g : Nat} {w w' : World} (h : Below B w w') (hg : B ≤ g) (vs : List Value) : Below B w (w'.setCells g 0 vs) := by
  obtain ⟨h1, h2, h3, h4, h5, _⟩ := setCells_heap g vs 0 w'
  exact ⟨h3.trans h.os, h4.trans h.tape, h5.trans h.output, by rw [h2]; exact h.size, fun k hk => (h1 k (by omega)).trans (h.block k hk)⟩
theorem results_cell_row2 {P : Program} {fn : Func} {p u : Tmp} {ty : TypeId} (h : fn.results = #[.cell p ty, .tmp u]) (tmps : Array Value) (w : World) (g : Nat) (t : TypeId) (cs : Array Value) (fr : Nat × Nat) (d : TypeDesc)
    (hp : tmps.getD p undef = .pointer (some ⟨g, 0, none⟩)) (hg : w.heap[g]? = some (.cells cs t fr))
    (hu : P.underlying ty = some d) (hd : (match d with | .struct _ | .array _ _ => true | _ => false) = true) (hi : (P.info? ty).map (·.size) = some cs.size) :
    (results fn tmps).run P w = .ok (.tuple #[.agg cs, tmps.getD u undef]) w := by
  have hp' : tmps[p]?.getD undef = .pointer (some ⟨g, 0, none⟩) := by simpa using hp
  simp [results, h, hp', asAddr, run_loadVar_row w g t ty cs fr d hg hu hd hi]
def LinePost (R : Lw × Int) (w : World) (e : Ending) (w' : World) : Prop :=
  ∃ e0 e1 e2 e3, e = .returned (.tuple #[.agg (lwC R.1 e0 e1 e2 e3), .int .i64 R.2]) ∧ ExAt w' (fun q => w.heap.size ≤ q ∧ q < w'.heap.size) R.1.ex (.agg #[e0, e1, e2, e3]) ∧ Below w.heap.size w w'
theorem blockF_len : ∀ {r : Bs} {m : List Bool}, blockF r = some m → m.length = r.length
  | [], m, h => by simp [blockF] at h; subst h; rfl
  | b :: r, m, h => by
    unfold blockF at h
    split at h
    · rw [Option.map_eq_some_iff] at h
      obtain ⟨m', h1, rfl⟩ := h
      simp [blockF_len h1]
    · cases h
theorem blockP_len {r : Bs} {m : List Bool} (h : blockP r = some m) : m.length ≤ 3 := by
  unfold blockP at h
  split at h
  · cases h
  · rename_i hn
    have := blockF_len h
    simp at this
    omega
theorem ready_one {P : Program} {ops : Array Oper} {Q : Exit → Act → World → Prop} {md : Region.Mode} {S : World → Prop} {fuel : Nat} {listed : Array Bool} {a : Act} {w : World} {i : Nat} {o : Oper} (hr : Region.ready md ops listed = [i]) (ho : ops[i]? = some o) (hg : o.guard = none)
    (h : ∀ K' : Act → World → Prop, Shut (∀ a w, S w → (S w → wpAnyH P md ops Q S fuel (listed.setIfInBounds i true) a w) → K' a w) → Oper.wp P o a w K' Q) : wpAnyH P md ops Q S (fuel + 1) listed a w := by
  refine wpAnyH_ready hr (by simp) ?_
  refine AllReadyH.cons ho (fun K hK => ?_) (fun _ h => by cases h)
  rw [if_pos (by unfold Region.wanted; rw [hg])]
  exact h K hK
theorem wpList_store_blk {P : Program} {ops : Array Oper} {rest : List Oper} {op : Oper} {a : Act} {w : World} {Q : Exit → Act → World → Prop} (hgd : op.guard = none) (ty : TypeId) (x y : Operand) (ho : op.op = .store ty x y)
    (b : Nat) (C : Array Value) (hx : a.eval x = .pointer (some ⟨b, 0, none⟩)) (hy : a.eval y = .agg C) {C0 : Array Value} {t : TypeId} (hb : w.heap[b]? = some (.cells C0 t (0, 0))) (hs : C.size = C0.size)
    (hi : (P.info? ty).map (·.size) = some C.size) (h1 : C.all (·.oneCell') = true)
    (h : wpList P ops Q rest (a.put op.dst undef) (w.setCells b 0 C.toList)) : wpList P ops Q (op :: rest) a w :=
  wpList_store_mid hgd ty x y ho b 0 C hx hy (by rw [hs]; exact there_of hb) hi h1 h
theorem wpList_allocW {P : Program} {ops : Array Oper} {rest : List Oper} {o : Oper} {a : Act} {w : World} {Q : Exit → Act → World → Prop} (hg : o.guard = none) (ob : Obj) (N : Nat) (hN : w.heap.size = N) (hrun : (execOp a.eval o).run P w = .ok (.value (.pointer (some ⟨w.heap.size, 0, none⟩))) (w.alloc ob))
    (h : wpList P ops Q rest (a.put o.dst (.pointer (some ⟨N, 0, none⟩))) (w.alloc ob)) : wpList P ops Q (o :: rest) a w :=
  wpList_plain hg fun K hK => by
    unfold Oper.wp
    rw [hrun, Oper.upon_value, hN]
    exact hK _ _ h
theorem finL_bad {T : List Tok} {i : Nat} {e : Int} {y : Lw} (h : e ≠ 0) : finL T (⟨i, e⟩, y) = (lw0, e) := by
  have he : endE T ⟨i, e⟩ = e := by unfold endE; rw [if_neg (fun k => h k.1)]
  unfold finL
  rw [he, if_neg h]
theorem finL_end {T : List Tok} {i : Nat} {y : Lw} (h : i ≠ T.length) : finL T (⟨i, 0⟩, y) = (lw0, 3) := by
  have he : endE T ⟨i, 0⟩ = 3 := by unfold endE; rw [if_pos ⟨rfl, h⟩]
  unfold finL
  rw [he, if_neg (by decide)]
theorem finL_ok {T : List Tok} {y : Lw} : finL T (⟨T.length, 0⟩, y) = (y, 0) := by
  have he : endE T ⟨T.length, 0⟩ = 0 := by unfold endE; rw [if_neg (fun k => k.2 rfl)]
  unfold finL
  rw [he, if_pos rfl]
abbrev lwZ : Array Value := lwC lw0 (.int .i64 0) (.int .i64 0) (.string (tx [])) (.slice none 0 0)
abbrev lwJ : Array Value := lwC lwI (.int .i64 0) (.int .i64 0) (.string (tx [])) (.slice none 0 0)
theorem alloc_line (ev : Operand → Value) (d : Option Tmp) (ty : TypeId) (p : String) (af : Array Edge) (w : World) : (execOp ev { dst := d, op := .alloc 49, type := ty, pos := p, after := af, guard := none }).run Tryz.prog w = .ok (.value (.pointer (some ⟨w.heap.size, 0, none⟩))) (w.alloc (.cells lwZ 49)) := by kernel_rfl
theorem lwC_one (y : Lw) (o n : Int) (s : ByteArray) (A : Option Addr) (k c : Nat) : (lwC y (.int .i64 o) (.int .i64 n) (.string s) (.slice A k c)).all (·.oneCell') = true := by
  simp [Value.oneCell']
theorem agg4 {x0 x1 x2 x3 y0 y1 y2 y3 : Value} (h : (.agg #[x0, x1, x2, x3] : Value) = .agg #[y0, y1, y2, y3]) : x0 = y0 ∧ x1 = y1 ∧ x2 = y2 ∧ x3 = y3 := by simpa using h
theorem Fill.out {T : List Tok} {b g : Nat} {A : Option Addr} {cap : Nat} {B : Nat} {w V w' : World} {p : Fs} (F : Fill T b g A cap V w' p) (h : Below B w V) (hb : B ≤ b) (hg : B ≤ g) (hw : B ≤ w.heap.size := by omega) : Below B w w' :=
  ⟨F.st.os.trans h.os, F.st.tape.trans h.tape, F.st.output.trans h.output, Nat.le_trans h.size F.st.size, fun k hk => (F.st.block k (by have := h.size; omega) (by omega) (by omega)).trans (h.block k hk)⟩
set_option maxHeartbeats 8000000 in
theorem read18 (T : List Tok) (hT : T.length ≤ 900000) (hT2 : ∀ t ∈ T, t.t.length ≤ 1000000000000) (A : Option Addr) (cap : Nat) (n : Nat) (_hn : n ≤ T.length) (w : World) (hA : RAt tokE w w.heap.size A T) :
    Calls Tryz.prog 78 #[.slice A T.length cap, .int .i64 n] w (LinePost (readLn T n) w) := by
  have hR : readLn T n = if (tokA T n).k = 1 then
    (match blockP (tokA T n).t with
    | some m => finL T (itP T m (⟨n + 1, 0⟩, lwI))
    | none => if (wordP (tokA T n).t).2.2.2.2 then finL T (stOps T (⟨n + 1, 0⟩, lwW (wordP (tokA T n).t))) else (lw0, 4))
  else (lw0, 3) := rfl
  generalize readLn T n = R at hR
  have b1 : Below w.heap.size w ((w.alloc (.cells lwZ 49)).alloc (.cells #[.slice A T.length cap, .int .i64 n, .int .i64 0] 117)) := ((Below.refl _ _).alloc (Nat.le_refl _) _).alloc (by simp) _
  have hr1 : RdS ((w.alloc (.cells lwZ 49)).alloc (.cells #[.slice A T.length cap, .int .i64 n, .int .i64 0] 117)) (w.heap.size + 1) A cap T ⟨n, 0⟩ := by
    refine ⟨?_, (hA.below b1 (Nat.le_refl _)).more (by omega)⟩
    have := heap_alloc_new (w.alloc (.cells lwZ 49)) (.cells #[.slice A T.length cap, .int .i64 n, .int .i64 0] 117)
    simpa using this
  have hz1 : ((w.alloc (.cells lwZ 49)).alloc (.cells #[.slice A T.length cap, .int .i64 n, .int .i64 0] 117)).heap[w.heap.size]? = some (.cells lwZ 49 (0, 0)) := alloc_blk (heap_alloc_new w _) _
  have hs1 : ((w.alloc (.cells lwZ 49)).alloc (.cells #[.slice A T.length cap, .int .i64 n, .int .i64 0] 117)).heap.size = w.heap.size + 2 := by simp
  have ht := tt18 hr1
  dsimp only [lwZ, lwC, lw0] at ht b1 hr1 hz1 hs1
  have hlt : (tokA T n).k = 1 → n < T.length := fun h => tokA_lt (by omega)
  have hyt : (tokA T n).t.length ≤ 1000000000000 := by
    rcases Nat.lt_or_ge n T.length with h | h
    · have e : tokA T n = T[n] := by simp [tokA, h]
      rw [e]; exact hT2 _ (List.getElem_mem h)
    · simp [tokA, List.getD, h, tok0]
  generalize tokA T n = y at ht hR hlt hyt
  have HR := Lib.hid hR
  clear hR
  go_enter Tryz.func78, Tryz.ntmps78
  go_wp2_with (fail)
  ((with_reducible refine ht.mono ?_); rintro e w2 ⟨rfl, hb2⟩)
  have b2 := b1.trans (hb2.mono b1.size)
  have hr2 := hr1.below hb2
  have hz2 : w2.heap[w.heap.size]? = some (.cells lwZ 49 (0, 0)) := (hb2.block w.heap.size (by omega)).trans hz1
  have hs2 : w.heap.size + 2 ≤ w2.heap.size := by have := hb2.size; omega
  clear hr1 hz1 hs1 b1 hb2 ht
  cases e1 : (y.k == 1)
  · have hR := HR.out
    rw [if_neg (ne_of_beq_false e1)] at hR
    subst hR
    clear HR
    have e1' : (y.k != 1) = true := by simpa using ne_of_beq_false e1
    have hth := there_of (alloc_blk hz2 (.cells #[.int .i64 y.k, .int .i64 y.n, .string (tx y.t)] 90))
    have hz3 := setCells_all (alloc_blk hz2 (.cells #[.int .i64 y.k, .int .i64 y.n, .string (tx y.t)] 90)) lwZ.toList rfl
    go_wp2_with (refine wpList_store_mid rfl 49 (.tmp 4) (.tmp 25) rfl w.heap.size 0 lwZ (by rfl) (by rfl) hth (by kernel_rfl) (lwC_one _ _ _ _ _ _ _) ?_)
    have hb7 := below_setCells (b2.alloc b2.size (.cells #[.int .i64 y.k, .int .i64 y.n, .string (tx y.t)] 90)) (Nat.le_refl _) lwZ.toList
    generalize hW7 : World.setCells _ _ _ _ = W7
    have hz8 : W7.heap[w.heap.size]? = some (.cells lwZ 49 (0, 0)) := by rw [← hW7]; exact hz3
    have hb8 : Below w.heap.size w W7 := by rw [← hW7]; exact hb7
    exact bodyPost_ret (results_cell_row2 rfl _ _ w.heap.size 49 _ (0, 0) _ rfl hz8 Tryz.underlying49 rfl (by kernel_rfl)) rfl ⟨_, _, _, _, rfl, exAt0 _ _, hb8⟩
  · have e1' : (y.k != 1) = false := by simpa using eq_of_beq e1
    have hy1 := eq_of_beq e1
    have hnl := hlt hy1
    have hR := HR.out
    rw [if_pos hy1] at hR
    obtain ⟨k, m, s⟩ := y
    dsimp only at hy1 hR hyt
    subst hy1
    clear e1 e1' hlt
    have HR2 := Lib.hid hR
    clear HR hR
    have hbl := fun W => block18 s hyt W
    generalize hB : blockP s = B at hbl HR2
    have hs3 : (w2.alloc (.cells #[.int .i64 1, .int .i64 m, .string (tx s)] 90)).heap.size = w2.heap.size + 1 := by simp
    have hn4 := heap_alloc_new (w2.alloc (.cells #[.int .i64 1, .int .i64 m, .string (tx s)] 90)) (.cells lwZ 49)
    rw [hs3] at hn4
    have hth4 := there_of hn4
    obtain ⟨W4, hW4⟩ : ∃ W4, Hid (W4 = ((w2.alloc (.cells #[.int .i64 1, .int .i64 m, .string (tx s)] 90)).alloc (.cells lwZ 49)).setCells (w2.heap.size + 1) 0 lwJ.toList) := ⟨_, Lib.hid rfl⟩
    have b3 : Below w2.heap.size w2 W4 := by rw [hW4.out]; exact below_setCells (((Below.refl _ _).alloc (Nat.le_refl _) _).alloc (by simp) _) (by omega) _
    have hr4 := hr2.below b3
    have hk4 : W4.heap[w2.heap.size]? = some (.cells #[.int .i64 1, .int .i64 m, .string (tx s)] 90 (0, 0)) := by
      rw [hW4.out, (setCells_heap (w2.heap.size + 1) lwJ.toList 0 _).1 _ (by omega)]
      exact alloc_blk (heap_alloc_new w2 _) _
    have hl4 : W4.heap[w2.heap.size + 1]? = some (.cells lwJ 49 (0, 0)) := by
      rw [hW4.out]; exact setCells_all hn4 lwJ.toList rfl
    have c1 := hr4.c1
    have f1 := hr4.fz 1
    have d2 : ∀ v, (W4.setCell ⟨w.heap.size + 1, 1, none⟩ v).cell? ⟨w2.heap.size, 2, none⟩ = some (.string (tx s)) := fun v => by
      have h := set_blk hk4 (show w2.heap.size ≠ w.heap.size + 1 by omega) 1 v
      simp [World.cell?, h]
    go_wp2_with (refine wpList_allocW rfl (.cells lwZ 49) (w2.heap.size + 1) (by simp) (alloc_line _ _ _ _ _ _) ?_; refine wpList_store_mid rfl 49 (.tmp 8) (.tmp 26) rfl (w2.heap.size + 1) 0 lwJ (by rfl) (by rfl) hth4 (by kernel_rfl) (lwC_one _ _ _ _ _ _ _) ?_; rw [← hW4.out])
    ((with_reducible refine (hbl _).mono ?_); rintro e w5 ⟨hret, hb5⟩)
    have hbg : w.heap.size + 1 < w2.heap.size + 1 := by omega
    have F4 : Fill T (w.heap.size + 1) (w2.heap.size + 1) A cap (W4.setCell ⟨w.heap.size + 1, 1, none⟩ (.int .i64 ((n : Int) + 1))) (W4.setCell ⟨w.heap.size + 1, 1, none⟩ (.int .i64 ((n : Int) + 1))) (⟨n + 1, 0⟩, lwI) :=
      ⟨RdS.step hr4, ⟨_, _, _, _, set_blk hl4 (by omega) 1 _, exAt0 _ _⟩, hnl, Stay2.refl _ _ _⟩
    have F5 := F4.below hb5 hbg
    have hbV : Below w.heap.size w (W4.setCell ⟨w.heap.size + 1, 1, none⟩ (.int .i64 ((n : Int) + 1))) := (b2.trans (b3.mono b2.size)).setCell (by show w.heap.size ≤ w.heap.size + 1; omega) _
    have hzV : (W4.setCell ⟨w.heap.size + 1, 1, none⟩ (.int .i64 ((n : Int) + 1))).heap[w.heap.size]? = some (.cells lwZ 49 (0, 0)) := set_blk ((b3.block _ (by omega)).trans hz2) (by omega) 1 _
    have hkV : (W4.setCell ⟨w.heap.size + 1, 1, none⟩ (.int .i64 ((n : Int) + 1))).heap[w2.heap.size]? = some (.cells #[.int .i64 1, .int .i64 m, .string (tx s)] 90 (0, 0)) := set_blk hk4 (by omega) 1 _
    have hsV : w2.heap.size + 1 < (W4.setCell ⟨w.heap.size + 1, 1, none⟩ (.int .i64 ((n : Int) + 1))).heap.size := by
      have h := (Array.getElem?_eq_some_iff.1 hl4).1
      simpa [World.setCell] using h
    generalize W4.setCell ⟨w.heap.size + 1, 1, none⟩ (.int .i64 ((n : Int) + 1)) = V at F5 hbV hzV hkV hsV hret hb5
    clear F4 hl4 hk4 d2 c1 f1 hr4 b3 hth4 hn4 hW4 W4 hs3 hr2 hz2 b2 hbl
    cases B with
    | some M =>
      have hM := blockP_len hB
      obtain ⟨A', c', rfl, _, hrow, hnew⟩ := hret
      have HR3 : Hid (R = finL T (itP T M (⟨n + 1, 0⟩, lwI))) := Lib.hid HR2.out
      clear HR2 hB
      have hit := F5.it hbg hT M A' c' (by omega) hrow (fun q o e => by have := hnew q o e; omega)
      clear hrow hnew
      go_wp2_with (fail)
      ((with_reducible refine hit.mono ?_); rintro e w6 ⟨rfl, F6⟩)
      generalize itP T M (⟨n + 1, 0⟩, lwI) = p at F6 HR3
      obtain ⟨⟨i, er⟩, y⟩ := p
      have c1 := F6.rd.c1
      have c2' := F6.rd.c2
      dsimp only at c1 c2'
      have hR := HR3.out
      clear HR3
      cases e0 : (er == 0)
      · have e0' : (er != 0) = true := by simpa using ne_of_beq_false e0
        rw [finL_bad (ne_of_beq_false e0)] at hR
        subst hR
        have c2 := F6.rd.c2
        have hz6 : w6.heap[w.heap.size]? = some (.cells lwZ 49 (0, 0)) := (F6.st.block _ (by omega) (by omega) (by omega)).trans hzV
        have hb6 := Fill.out F6 hbV (by omega) (by omega)
        dsimp only at c2
        go_wp2_with (fail)
        have hth6 := there_of (w := w6.drew) hz6
        have hz7 := setCells_all (w := w6.drew) hz6 lwZ.toList rfl
        have hc7 : (w6.drew.setCells w.heap.size 0 lwZ.toList).cell? ⟨w.heap.size + 1, 2, none⟩ = some (.int .i64 er) := (World.cell?_of_block ((setCells_heap w.heap.size lwZ.toList 0 w6.drew).1 _ (by simp))).trans c2
        refine wp_region_held_drew (S := (fun w' => w'.cell? ⟨w.heap.size + 1, 2, none⟩ = some (.int .i64 er))) (by kernel_rfl) c2 (fun hHeld => ?_)
        refine wpAnyH_take (i := 0) (oi := ⟨some 94, .build 49 #[], 49, _, _, none⟩) (v := .agg lwZ) rfl (by kernel_rfl) (by kernel_rfl) (by kernel_rfl) (fun _ _ _ h => h) (Or.inl ⟨by rfl, fun _ _ => by kernel_rfl⟩) (by assumption) ?_
        simp only [Act.put, List.setIfInBounds_toArray, List.set_cons_zero, List.set_cons_succ]
        refine wpAnyH_take (i := 1) (oi := ⟨some 95, .move (.tmp 6), _, _, _, none⟩) (v := .pointer (some ⟨w.heap.size + 1, 0, none⟩)) rfl (by kernel_rfl) (by kernel_rfl) (by kernel_rfl) (fun _ _ _ h => h) (Or.inl ⟨by rfl, fun _ _ => by kernel_rfl⟩) (by assumption) ?_
        simp only [Act.put, List.setIfInBounds_toArray, List.set_cons_zero, List.set_cons_succ]
        refine wpAnyH_take (i := 2) (oi := ⟨some 96, .nilCheck (.tmp 95), _, _, _, none⟩) (v := .pointer (some ⟨w.heap.size + 1, 0, none⟩)) rfl (by kernel_rfl) (by kernel_rfl) (by kernel_rfl) (fun _ _ _ h => h) (Or.inl ⟨by rfl, fun _ _ => by kernel_rfl⟩) (by assumption) ?_
        simp only [Act.put, List.setIfInBounds_toArray, List.set_cons_zero, List.set_cons_succ]
        refine wpAnyH_take (i := 3) (oi := ⟨some 97, .fieldAddr 117 (.tmp 96) 2, _, _, _, none⟩) (v := .pointer (some ⟨w.heap.size + 1, 2, none⟩)) rfl (by kernel_rfl) (by kernel_rfl) (by kernel_rfl) (fun _ _ _ h => h) (Or.inl ⟨by rfl, fun _ _ => by kernel_rfl⟩) (by assumption) ?_
        simp only [Act.put, List.setIfInBounds_toArray, List.set_cons_zero, List.set_cons_succ]
        refine wpAnyH_take (i := 4) (oi := ⟨some 98, .load _ (.tmp 97), _, _, _, none⟩) (v := .int .i64 er) rfl (by kernel_rfl) (by kernel_rfl) (by kernel_rfl) (fun _ _ _ h => h) (Or.inl ⟨by rfl, fun w' h => by go_simp⟩) (by assumption) ?_
        simp only [Act.put, List.setIfInBounds_toArray, List.set_cons_zero, List.set_cons_succ]
        refine ready_one (i := 5) (o := ⟨none, .store 49 (.tmp 4) (.tmp 94), _, _, _, none⟩) (by kernel_rfl) rfl rfl (fun K hK => ?_)
        refine wp_store_mid 49 (.tmp 4) (.tmp 94) rfl w.heap.size 0 lwZ rfl rfl hth6 (by kernel_rfl) (lwC_one _ _ _ _ _ _ _) ?_
        refine hK.out _ _ hc7 (fun hHeld => ?_)
        refine wpAnyH_take (i := 6) (oi := ⟨some 5, .assign (.tmp 98), _, _, _, none⟩) (v := .int .i64 er) rfl (by kernel_rfl) (by kernel_rfl) (by kernel_rfl) (fun _ _ _ h => h) (Or.inl ⟨by rfl, fun _ _ => by kernel_rfl⟩) (by assumption) ?_
        simp only [Act.put, List.setIfInBounds_toArray, List.set_cons_zero, List.set_cons_succ]
        refine wpAnyH_done (by kernel_rfl) ?_ _
        go_wp2_with (fail)
        have hb7 := below_setCells hb6.drew (Nat.le_refl _) lwZ.toList
        generalize hW7 : World.setCells _ _ _ _ = W7
        have hz8 : W7.heap[w.heap.size]? = some (.cells lwZ 49 (0, 0)) := by rw [← hW7]; exact hz7
        have hb8 : Below w.heap.size w W7 := by rw [← hW7]; exact hb7
        exact bodyPost_ret (results_cell_row2 rfl _ _ w.heap.size 49 _ (0, 0) _ rfl hz8 Tryz.underlying49 rfl (by kernel_rfl)) rfl ⟨_, _, _, _, rfl, exAt0 _ _, hb8⟩
      obtain rfl := eq_of_beq e0
      have e0' : ((0 : Int) != 0) = false := rfl
      cases e9 : ((i : Int) == (T.length : Int))
      · have e9' : ((i : Int) != (T.length : Int)) = true := by simpa using ne_of_beq_false e9
        rw [finL_end (by have := ne_of_beq_false e9; omega)] at hR
        subst hR
        go_wp2_with (fail)
        ((with_reducible refine (bad18 F6.rd 3).mono ?_); rintro e w7 ⟨rfl, h7, s7⟩)
        have F7 : Fill T (w.heap.size + 1) (w2.heap.size + 1) A cap V w7 (⟨i, 3⟩, y) := F6.step hbg h7 (badS_in F6.inn _) s7
        have e3' : ((3 : Int) != 0) = true := rfl
        clear c1 c2' h7 s7
        have c2 := F7.rd.c2
        have hz6 : w7.heap[w.heap.size]? = some (.cells lwZ 49 (0, 0)) := (F7.st.block _ (by omega) (by omega) (by omega)).trans hzV
        have hb6 := Fill.out F7 hbV (by omega) (by omega)
        dsimp only at c2
        go_wp2_with (fail)
        have hth6 := there_of (w := w7.drew) hz6
        have hz7 := setCells_all (w := w7.drew) hz6 lwZ.toList rfl
        have hc7 : (w7.drew.setCells w.heap.size 0 lwZ.toList).cell? ⟨w.heap.size + 1, 2, none⟩ = some (.int .i64 3) := (World.cell?_of_block ((setCells_heap w.heap.size lwZ.toList 0 w7.drew).1 _ (by simp))).trans c2
        refine wp_region_held_drew (S := (fun w' => w'.cell? ⟨w.heap.size + 1, 2, none⟩ = some (.int .i64 3))) (by kernel_rfl) c2 (fun hHeld => ?_)
        refine wpAnyH_take (i := 0) (oi := ⟨some 94, .build 49 #[], 49, _, _, none⟩) (v := .agg lwZ) rfl (by kernel_rfl) (by kernel_rfl) (by kernel_rfl) (fun _ _ _ h => h) (Or.inl ⟨by rfl, fun _ _ => by kernel_rfl⟩) (by assumption) ?_
        simp only [Act.put, List.setIfInBounds_toArray, List.set_cons_zero, List.set_cons_succ]
        refine wpAnyH_take (i := 1) (oi := ⟨some 95, .move (.tmp 6), _, _, _, none⟩) (v := .pointer (some ⟨w.heap.size + 1, 0, none⟩)) rfl (by kernel_rfl) (by kernel_rfl) (by kernel_rfl) (fun _ _ _ h => h) (Or.inl ⟨by rfl, fun _ _ => by kernel_rfl⟩) (by assumption) ?_
        simp only [Act.put, List.setIfInBounds_toArray, List.set_cons_zero, List.set_cons_succ]
        refine wpAnyH_take (i := 2) (oi := ⟨some 96, .nilCheck (.tmp 95), _, _, _, none⟩) (v := .pointer (some ⟨w.heap.size + 1, 0, none⟩)) rfl (by kernel_rfl) (by kernel_rfl) (by kernel_rfl) (fun _ _ _ h => h) (Or.inl ⟨by rfl, fun _ _ => by kernel_rfl⟩) (by assumption) ?_
        simp only [Act.put, List.setIfInBounds_toArray, List.set_cons_zero, List.set_cons_succ]
        refine wpAnyH_take (i := 3) (oi := ⟨some 97, .fieldAddr 117 (.tmp 96) 2, _, _, _, none⟩) (v := .pointer (some ⟨w.heap.size + 1, 2, none⟩)) rfl (by kernel_rfl) (by kernel_rfl) (by kernel_rfl) (fun _ _ _ h => h) (Or.inl ⟨by rfl, fun _ _ => by kernel_rfl⟩) (by assumption) ?_
        simp only [Act.put, List.setIfInBounds_toArray, List.set_cons_zero, List.set_cons_succ]
        refine wpAnyH_take (i := 4) (oi := ⟨some 98, .load _ (.tmp 97), _, _, _, none⟩) (v := .int .i64 3) rfl (by kernel_rfl) (by kernel_rfl) (by kernel_rfl) (fun _ _ _ h => h) (Or.inl ⟨by rfl, fun w' h => by go_simp⟩) (by assumption) ?_
        simp only [Act.put, List.setIfInBounds_toArray, List.set_cons_zero, List.set_cons_succ]
        refine ready_one (i := 5) (o := ⟨none, .store 49 (.tmp 4) (.tmp 94), _, _, _, none⟩) (by kernel_rfl) rfl rfl (fun K hK => ?_)
        refine wp_store_mid 49 (.tmp 4) (.tmp 94) rfl w.heap.size 0 lwZ rfl rfl hth6 (by kernel_rfl) (lwC_one _ _ _ _ _ _ _) ?_
        refine hK.out _ _ hc7 (fun hHeld => ?_)
        refine wpAnyH_take (i := 6) (oi := ⟨some 5, .assign (.tmp 98), _, _, _, none⟩) (v := .int .i64 3) rfl (by kernel_rfl) (by kernel_rfl) (by kernel_rfl) (fun _ _ _ h => h) (Or.inl ⟨by rfl, fun _ _ => by kernel_rfl⟩) (by assumption) ?_
        simp only [Act.put, List.setIfInBounds_toArray, List.set_cons_zero, List.set_cons_succ]
        refine wpAnyH_done (by kernel_rfl) ?_ _
        go_wp2_with (fail)
        have hb7 := below_setCells hb6.drew (Nat.le_refl _) lwZ.toList
        generalize hW7 : World.setCells _ _ _ _ = W7
        have hz8 : W7.heap[w.heap.size]? = some (.cells lwZ 49 (0, 0)) := by rw [← hW7]; exact hz7
        have hb8 : Below w.heap.size w W7 := by rw [← hW7]; exact hb7
        exact bodyPost_ret (results_cell_row2 rfl _ _ w.heap.size 49 _ (0, 0) _ rfl hz8 Tryz.underlying49 rfl (by kernel_rfl)) rfl ⟨_, _, _, _, rfl, exAt0 _ _, hb8⟩
      · have e9' : ((i : Int) != (T.length : Int)) = false := by simpa using eq_of_beq e9
        obtain rfl : i = T.length := by have := eq_of_beq e9; omega
        rw [finL_ok] at hR
        subst hR
        have hz6 : w6.heap[w.heap.size]? = some (.cells lwZ 49 (0, 0)) := (F6.st.block _ (by omega) (by omega) (by omega)).trans hzV
        have hb6 := Fill.out F6 hbV (by omega) (by omega)
        obtain ⟨x0, x1, x2, x3, hl6, hx6⟩ := F6.ln
        obtain ⟨o, k, s', A', q, c', hC⟩ := hx6.cells
        obtain ⟨rfl, rfl, rfl, rfl⟩ := agg4 hC
        clear hC
        go_wp2_with (first
          | (refine wpList_load_blk rfl 49 (.tmp 8) rfl (w2.heap.size + 1) (by rfl) _ hl6 _ Tryz.underlying49 rfl (by kernel_rfl) ?_)
          | (refine wpList_store_blk rfl 49 (.tmp 4) (.tmp 99) rfl w.heap.size (lwC y (.int .i64 o) (.int .i64 k) (.string (tx s')) (.slice A' q c')) (by rfl) (by rfl) hz6 rfl (by kernel_rfl) (lwC_one _ _ _ _ _ _ _) ?_))
        have hz7 := setCells_all hz6 (lwC y (.int .i64 o) (.int .i64 k) (.string (tx s')) (.slice A' q c')).toList rfl
        have hb7 := below_setCells hb6 (Nat.le_refl _) (lwC y (.int .i64 o) (.int .i64 k) (.string (tx s')) (.slice A' q c')).toList
        have hx7 : ExAt (w6.setCells w.heap.size 0 (lwC y (.int .i64 o) (.int .i64 k) (.string (tx s')) (.slice A' q c')).toList) (fun j => w.heap.size ≤ j ∧ j < (w6.setCells w.heap.size 0 (lwC y (.int .i64 o) (.int .i64 k) (.string (tx s')) (.slice A' q c')).toList).heap.size) y.ex (.agg #[.int .i64 o, .int .i64 k, .string (tx s'), .slice A' q c']) := ExAt.keep (fun q hq => ⟨by omega, by rw [(setCells_heap _ _ _ _).2.1]; exact hq.2⟩) (fun q hq => (setCells_heap _ _ _ _).1 q (by omega)) _ _ hx6
        generalize hW7 : World.setCells _ _ _ _ = W7
        have hz8 : W7.heap[w.heap.size]? = some (.cells (lwC y (.int .i64 o) (.int .i64 k) (.string (tx s')) (.slice A' q c')) 49 (0, 0)) := by rw [← hW7]; exact hz7
        have hb8 : Below w.heap.size w W7 := by rw [← hW7]; exact hb7
        have e7 : W7 = w6.setCells w.heap.size 0 (lwC y (.int .i64 o) (.int .i64 k) (.string (tx s')) (.slice A' q c')).toList := hW7.symm
        subst e7
        exact bodyPost_ret (results_cell_row2 rfl _ _ w.heap.size 49 _ (0, 0) _ rfl hz8 Tryz.underlying49 rfl (by kernel_rfl)) rfl ⟨_, _, _, _, rfl, hx7, hb8⟩
    | none =>
      unfold BooRet at hret
      subst hret
      have hwd := word18 s hyt
      have HR3 : Hid (R = if (wordP s).2.2.2.2 then finL T (stOps T (⟨n + 1, 0⟩, lwW (wordP s))) else (lw0, 4)) := Lib.hid HR2.out
      clear HR2 hB
      have d2 : w5.cell? ⟨w2.heap.size, 2, none⟩ = some (.string (tx s)) := by
        have h := (hb5.block w2.heap.size (by omega)).trans hkV
        simp [World.cell?, h]
      generalize wordP s = W at hwd HR3
      obtain ⟨o, q, c, wd, ok⟩ := W
      dsimp only at hwd HR3
      go_wp2_with (fail)
      ((with_reducible refine (hwd _).mono ?_); rintro e w6 ⟨rfl, hb6⟩)
      have F6 := F5.below hb6 hbg
      clear d2 hwd
      cases ok
      · have hR := HR3.out
        clear HR3
        rw [if_neg (by decide)] at hR
        subst hR
        have hz6 : w6.heap[w.heap.size]? = some (.cells lwZ 49 (0, 0)) := (F6.st.block _ (by omega) (by omega) (by omega)).trans hzV
        have hb6 := Fill.out F6 hbV (by omega) (by omega)
        have hth6 := there_of hz6
        have hz7 := setCells_all hz6 lwZ.toList rfl
        go_wp2_with (refine wpList_store_mid rfl 49 (.tmp 4) (.tmp 55) rfl w.heap.size 0 lwZ (by rfl) (by rfl) hth6 (by kernel_rfl) (lwC_one _ _ _ _ _ _ _) ?_)
        have hb7 := below_setCells hb6 (Nat.le_refl _) lwZ.toList
        generalize hW7 : World.setCells _ _ _ _ = W7
        have hz8 : W7.heap[w.heap.size]? = some (.cells lwZ 49 (0, 0)) := by rw [← hW7]; exact hz7
        have hb8 : Below w.heap.size w W7 := by rw [← hW7]; exact hb7
        exact bodyPost_ret (results_cell_row2 rfl _ _ w.heap.size 49 _ (0, 0) _ rfl hz8 Tryz.underlying49 rfl (by kernel_rfl)) rfl ⟨_, _, _, _, rfl, exAt0 _ _, hb8⟩
      · have HR4 : Hid (R = finL T (stOps T (⟨n + 1, 0⟩, lwW (o, q, c, wd, true)))) := Lib.hid (HR3.out.trans (if_pos rfl))
        clear HR3
        obtain ⟨a1, a2, a3, a4, a5, a6, a7, a8, a9, a10⟩ := F6.ci
        have b11 : w6.cell? ⟨w2.heap.size + 1, 11, none⟩ = some (.int .i64 lwI.c) := F6.ln.c.2.2.2.2.2.2.2.2.2.2.1
        have b13 : w6.cell? ⟨w2.heap.size + 1, 13, none⟩ = some (.bool lwI.wd) := F6.ln.c.2.2.2.2.2.2.2.2.2.2.2.2
        have z6 := fun j => F6.ln.fz j
        have G1 := F6.set hbg (y' := { lwI with op := o }) 2 (.int .i64 o) rfl fun _ _ _ _ => rfl
        have G2 := G1.set hbg (y' := { lwI with op := o, s := q }) 10 (.bool q) rfl fun _ _ _ _ => rfl
        have G3 := G2.set hbg (y' := { lwI with op := o, s := q, c := c }) 11 (.int .i64 c) rfl fun _ _ _ _ => rfl
        have G4 := G3.set hbg (y' := { lwI with op := o, s := q, c := c, wd := wd }) 13 (.bool wd) rfl fun _ _ _ _ => rfl
        cases e35 : (o == 35)
        · have hW : lwW (o, q, c, wd, true) = { lwI with op := o, s := q, c := c, wd := wd } := by
            unfold lwW
            rw [if_neg (ne_of_beq_false e35)]
            rfl
          rw [hW] at HR4
          have hops := G4.ops hbg hT hT2
          go_wp2_with (fail)
          ((with_reducible refine hops.mono ?_); rintro e w8 ⟨rfl, F8⟩)
          clear hops a1 a2 a3 a4 a5 a6 a7 a8 a9 a10 b11 b13 z6 G1 G2 G3 G4 hW
          have HR3 := HR4
          clear HR4
          generalize stOps T (⟨n + 1, 0⟩, _) = p at F8 HR3
          obtain ⟨⟨i, er⟩, y⟩ := p
          have c1 := F8.rd.c1
          have c2' := F8.rd.c2
          dsimp only at c1 c2'
          have hR := HR3.out
          clear HR3
          cases e0 : (er == 0)
          · have e0' : (er != 0) = true := by simpa using ne_of_beq_false e0
            rw [finL_bad (ne_of_beq_false e0)] at hR
            subst hR
            have c2 := F8.rd.c2
            have hz6 : w8.heap[w.heap.size]? = some (.cells lwZ 49 (0, 0)) := (F8.st.block _ (by omega) (by omega) (by omega)).trans hzV
            have hb6 := Fill.out F8 hbV (by omega) (by omega)
            dsimp only at c2
            go_wp2_with (fail)
            have hth6 := there_of (w := w8.drew) hz6
            have hz7 := setCells_all (w := w8.drew) hz6 lwZ.toList rfl
            have hc7 : (w8.drew.setCells w.heap.size 0 lwZ.toList).cell? ⟨w.heap.size + 1, 2, none⟩ = some (.int .i64 er) := (World.cell?_of_block ((setCells_heap w.heap.size lwZ.toList 0 w8.drew).1 _ (by simp))).trans c2
            refine wp_region_held_drew (S := (fun w' => w'.cell? ⟨w.heap.size + 1, 2, none⟩ = some (.int .i64 er))) (by kernel_rfl) c2 (fun hHeld => ?_)
            refine wpAnyH_take (i := 0) (oi := ⟨some 94, .build 49 #[], 49, _, _, none⟩) (v := .agg lwZ) rfl (by kernel_rfl) (by kernel_rfl) (by kernel_rfl) (fun _ _ _ h => h) (Or.inl ⟨by rfl, fun _ _ => by kernel_rfl⟩) (by assumption) ?_
            simp only [Act.put, List.setIfInBounds_toArray, List.set_cons_zero, List.set_cons_succ]
            refine wpAnyH_take (i := 1) (oi := ⟨some 95, .move (.tmp 6), _, _, _, none⟩) (v := .pointer (some ⟨w.heap.size + 1, 0, none⟩)) rfl (by kernel_rfl) (by kernel_rfl) (by kernel_rfl) (fun _ _ _ h => h) (Or.inl ⟨by rfl, fun _ _ => by kernel_rfl⟩) (by assumption) ?_
            simp only [Act.put, List.setIfInBounds_toArray, List.set_cons_zero, List.set_cons_succ]
            refine wpAnyH_take (i := 2) (oi := ⟨some 96, .nilCheck (.tmp 95), _, _, _, none⟩) (v := .pointer (some ⟨w.heap.size + 1, 0, none⟩)) rfl (by kernel_rfl) (by kernel_rfl) (by kernel_rfl) (fun _ _ _ h => h) (Or.inl ⟨by rfl, fun _ _ => by kernel_rfl⟩) (by assumption) ?_
            simp only [Act.put, List.setIfInBounds_toArray, List.set_cons_zero, List.set_cons_succ]
            refine wpAnyH_take (i := 3) (oi := ⟨some 97, .fieldAddr 117 (.tmp 96) 2, _, _, _, none⟩) (v := .pointer (some ⟨w.heap.size + 1, 2, none⟩)) rfl (by kernel_rfl) (by kernel_rfl) (by kernel_rfl) (fun _ _ _ h => h) (Or.inl ⟨by rfl, fun _ _ => by kernel_rfl⟩) (by assumption) ?_
            simp only [Act.put, List.setIfInBounds_toArray, List.set_cons_zero, List.set_cons_succ]
            refine wpAnyH_take (i := 4) (oi := ⟨some 98, .load _ (.tmp 97), _, _, _, none⟩) (v := .int .i64 er) rfl (by kernel_rfl) (by kernel_rfl) (by kernel_rfl) (fun _ _ _ h => h) (Or.inl ⟨by rfl, fun w' h => by go_simp⟩) (by assumption) ?_
            simp only [Act.put, List.setIfInBounds_toArray, List.set_cons_zero, List.set_cons_succ]
            refine ready_one (i := 5) (o := ⟨none, .store 49 (.tmp 4) (.tmp 94), _, _, _, none⟩) (by kernel_rfl) rfl rfl (fun K hK => ?_)
            refine wp_store_mid 49 (.tmp 4) (.tmp 94) rfl w.heap.size 0 lwZ rfl rfl hth6 (by kernel_rfl) (lwC_one _ _ _ _ _ _ _) ?_
            refine hK.out _ _ hc7 (fun hHeld => ?_)
            refine wpAnyH_take (i := 6) (oi := ⟨some 5, .assign (.tmp 98), _, _, _, none⟩) (v := .int .i64 er) rfl (by kernel_rfl) (by kernel_rfl) (by kernel_rfl) (fun _ _ _ h => h) (Or.inl ⟨by rfl, fun _ _ => by kernel_rfl⟩) (by assumption) ?_
            simp only [Act.put, List.setIfInBounds_toArray, List.set_cons_zero, List.set_cons_succ]
            refine wpAnyH_done (by kernel_rfl) ?_ _
            go_wp2_with (fail)
            have hb7 := below_setCells hb6.drew (Nat.le_refl _) lwZ.toList
            generalize hW7 : World.setCells _ _ _ _ = W7
            have hz8 : W7.heap[w.heap.size]? = some (.cells lwZ 49 (0, 0)) := by rw [← hW7]; exact hz7
            have hb8 : Below w.heap.size w W7 := by rw [← hW7]; exact hb7
            exact bodyPost_ret (results_cell_row2 rfl _ _ w.heap.size 49 _ (0, 0) _ rfl hz8 Tryz.underlying49 rfl (by kernel_rfl)) rfl ⟨_, _, _, _, rfl, exAt0 _ _, hb8⟩
          obtain rfl := eq_of_beq e0
          have e0' : ((0 : Int) != 0) = false := rfl
          cases e9 : ((i : Int) == (T.length : Int))
          · have e9' : ((i : Int) != (T.length : Int)) = true := by simpa using ne_of_beq_false e9
            rw [finL_end (by have := ne_of_beq_false e9; omega)] at hR
            subst hR
            go_wp2_with (fail)
            ((with_reducible refine (bad18 F8.rd 3).mono ?_); rintro e w7 ⟨rfl, h7, s7⟩)
            have F7 : Fill T (w.heap.size + 1) (w2.heap.size + 1) A cap V w7 (⟨i, 3⟩, y) := F8.step hbg h7 (badS_in F8.inn _) s7
            have e3' : ((3 : Int) != 0) = true := rfl
            clear c1 c2' h7 s7
            have c2 := F7.rd.c2
            have hz6 : w7.heap[w.heap.size]? = some (.cells lwZ 49 (0, 0)) := (F7.st.block _ (by omega) (by omega) (by omega)).trans hzV
            have hb6 := Fill.out F7 hbV (by omega) (by omega)
            dsimp only at c2
            go_wp2_with (fail)
            have hth6 := there_of (w := w7.drew) hz6
            have hz7 := setCells_all (w := w7.drew) hz6 lwZ.toList rfl
            have hc7 : (w7.drew.setCells w.heap.size 0 lwZ.toList).cell? ⟨w.heap.size + 1, 2, none⟩ = some (.int .i64 3) := (World.cell?_of_block ((setCells_heap w.heap.size lwZ.toList 0 w7.drew).1 _ (by simp))).trans c2
            refine wp_region_held_drew (S := (fun w' => w'.cell? ⟨w.heap.size + 1, 2, none⟩ = some (.int .i64 3))) (by kernel_rfl) c2 (fun hHeld => ?_)
            refine wpAnyH_take (i := 0) (oi := ⟨some 94, .build 49 #[], 49, _, _, none⟩) (v := .agg lwZ) rfl (by kernel_rfl) (by kernel_rfl) (by kernel_rfl) (fun _ _ _ h => h) (Or.inl ⟨by rfl, fun _ _ => by kernel_rfl⟩) (by assumption) ?_
            simp only [Act.put, List.setIfInBounds_toArray, List.set_cons_zero, List.set_cons_succ]
            refine wpAnyH_take (i := 1) (oi := ⟨some 95, .move (.tmp 6), _, _, _, none⟩) (v := .pointer (some ⟨w.heap.size + 1, 0, none⟩)) rfl (by kernel_rfl) (by kernel_rfl) (by kernel_rfl) (fun _ _ _ h => h) (Or.inl ⟨by rfl, fun _ _ => by kernel_rfl⟩) (by assumption) ?_
            simp only [Act.put, List.setIfInBounds_toArray, List.set_cons_zero, List.set_cons_succ]
            refine wpAnyH_take (i := 2) (oi := ⟨some 96, .nilCheck (.tmp 95), _, _, _, none⟩) (v := .pointer (some ⟨w.heap.size + 1, 0, none⟩)) rfl (by kernel_rfl) (by kernel_rfl) (by kernel_rfl) (fun _ _ _ h => h) (Or.inl ⟨by rfl, fun _ _ => by kernel_rfl⟩) (by assumption) ?_
            simp only [Act.put, List.setIfInBounds_toArray, List.set_cons_zero, List.set_cons_succ]
            refine wpAnyH_take (i := 3) (oi := ⟨some 97, .fieldAddr 117 (.tmp 96) 2, _, _, _, none⟩) (v := .pointer (some ⟨w.heap.size + 1, 2, none⟩)) rfl (by kernel_rfl) (by kernel_rfl) (by kernel_rfl) (fun _ _ _ h => h) (Or.inl ⟨by rfl, fun _ _ => by kernel_rfl⟩) (by assumption) ?_
            simp only [Act.put, List.setIfInBounds_toArray, List.set_cons_zero, List.set_cons_succ]
            refine wpAnyH_take (i := 4) (oi := ⟨some 98, .load _ (.tmp 97), _, _, _, none⟩) (v := .int .i64 3) rfl (by kernel_rfl) (by kernel_rfl) (by kernel_rfl) (fun _ _ _ h => h) (Or.inl ⟨by rfl, fun w' h => by go_simp⟩) (by assumption) ?_
            simp only [Act.put, List.setIfInBounds_toArray, List.set_cons_zero, List.set_cons_succ]
            refine ready_one (i := 5) (o := ⟨none, .store 49 (.tmp 4) (.tmp 94), _, _, _, none⟩) (by kernel_rfl) rfl rfl (fun K hK => ?_)
            refine wp_store_mid 49 (.tmp 4) (.tmp 94) rfl w.heap.size 0 lwZ rfl rfl hth6 (by kernel_rfl) (lwC_one _ _ _ _ _ _ _) ?_
            refine hK.out _ _ hc7 (fun hHeld => ?_)
            refine wpAnyH_take (i := 6) (oi := ⟨some 5, .assign (.tmp 98), _, _, _, none⟩) (v := .int .i64 3) rfl (by kernel_rfl) (by kernel_rfl) (by kernel_rfl) (fun _ _ _ h => h) (Or.inl ⟨by rfl, fun _ _ => by kernel_rfl⟩) (by assumption) ?_
            simp only [Act.put, List.setIfInBounds_toArray, List.set_cons_zero, List.set_cons_succ]
            refine wpAnyH_done (by kernel_rfl) ?_ _
            go_wp2_with (fail)
            have hb7 := below_setCells hb6.drew (Nat.le_refl _) lwZ.toList
            generalize hW7 : World.setCells _ _ _ _ = W7
            have hz8 : W7.heap[w.heap.size]? = some (.cells lwZ 49 (0, 0)) := by rw [← hW7]; exact hz7
            have hb8 : Below w.heap.size w W7 := by rw [← hW7]; exact hb7
            exact bodyPost_ret (results_cell_row2 rfl _ _ w.heap.size 49 _ (0, 0) _ rfl hz8 Tryz.underlying49 rfl (by kernel_rfl)) rfl ⟨_, _, _, _, rfl, exAt0 _ _, hb8⟩
          · have e9' : ((i : Int) != (T.length : Int)) = false := by simpa using eq_of_beq e9
            obtain rfl : i = T.length := by have := eq_of_beq e9; omega
            rw [finL_ok] at hR
            subst hR
            have hz6 : w8.heap[w.heap.size]? = some (.cells lwZ 49 (0, 0)) := (F8.st.block _ (by omega) (by omega) (by omega)).trans hzV
            have hb6 := Fill.out F8 hbV (by omega) (by omega)
            obtain ⟨x0, x1, x2, x3, hl6, hx6⟩ := F8.ln
            obtain ⟨o, k, s', A', q, c', hC⟩ := hx6.cells
            obtain ⟨rfl, rfl, rfl, rfl⟩ := agg4 hC
            clear hC
            go_wp2_with (first
              | (refine wpList_load_blk rfl 49 (.tmp 8) rfl (w2.heap.size + 1) (by rfl) _ hl6 _ Tryz.underlying49 rfl (by kernel_rfl) ?_)
              | (refine wpList_store_blk rfl 49 (.tmp 4) (.tmp 99) rfl w.heap.size (lwC y (.int .i64 o) (.int .i64 k) (.string (tx s')) (.slice A' q c')) (by rfl) (by rfl) hz6 rfl (by kernel_rfl) (lwC_one _ _ _ _ _ _ _) ?_))
            have hz7 := setCells_all hz6 (lwC y (.int .i64 o) (.int .i64 k) (.string (tx s')) (.slice A' q c')).toList rfl
            have hb7 := below_setCells hb6 (Nat.le_refl _) (lwC y (.int .i64 o) (.int .i64 k) (.string (tx s')) (.slice A' q c')).toList
            have hx7 : ExAt (w8.setCells w.heap.size 0 (lwC y (.int .i64 o) (.int .i64 k) (.string (tx s')) (.slice A' q c')).toList) (fun j => w.heap.size ≤ j ∧ j < (w8.setCells w.heap.size 0 (lwC y (.int .i64 o) (.int .i64 k) (.string (tx s')) (.slice A' q c')).toList).heap.size) y.ex (.agg #[.int .i64 o, .int .i64 k, .string (tx s'), .slice A' q c']) := ExAt.keep (fun q hq => ⟨by omega, by rw [(setCells_heap _ _ _ _).2.1]; exact hq.2⟩) (fun q hq => (setCells_heap _ _ _ _).1 q (by omega)) _ _ hx6
            generalize hW7 : World.setCells _ _ _ _ = W7
            have hz8 : W7.heap[w.heap.size]? = some (.cells (lwC y (.int .i64 o) (.int .i64 k) (.string (tx s')) (.slice A' q c')) 49 (0, 0)) := by rw [← hW7]; exact hz7
            have hb8 : Below w.heap.size w W7 := by rw [← hW7]; exact hb7
            have e7 : W7 = w8.setCells w.heap.size 0 (lwC y (.int .i64 o) (.int .i64 k) (.string (tx s')) (.slice A' q c')).toList := hW7.symm
            subst e7
            exact bodyPost_ret (results_cell_row2 rfl _ _ w.heap.size 49 _ (0, 0) _ rfl hz8 Tryz.underlying49 rfl (by kernel_rfl)) rfl ⟨_, _, _, _, rfl, hx7, hb8⟩
        · have hW : lwW (o, q, c, wd, true) = { lwI with op := o, s := q, c := c, wd := wd, ic := c } := by
            unfold lwW
            rw [if_pos (eq_of_beq e35)]
          rw [hW] at HR4
          have G5 := G4.set hbg (y' := { lwI with op := o, s := q, c := c, wd := wd, ic := c }) 3 (.int .i64 c) rfl fun _ _ _ _ => rfl
          have hops := G5.ops hbg hT hT2
          go_wp2_with (fail)
          ((with_reducible refine hops.mono ?_); rintro e w8 ⟨rfl, F8⟩)
          clear hops a1 a2 a3 a4 a5 a6 a7 a8 a9 a10 b11 b13 z6 G1 G2 G3 G4 G5 hW
          have HR3 := HR4
          clear HR4
          generalize stOps T (⟨n + 1, 0⟩, _) = p at F8 HR3
          obtain ⟨⟨i, er⟩, y⟩ := p
          have c1 := F8.rd.c1
          have c2' := F8.rd.c2
          dsimp only at c1 c2'
          have hR := HR3.out
          clear HR3
          cases e0 : (er == 0)
          · have e0' : (er != 0) = true := by simpa using ne_of_beq_false e0
            rw [finL_bad (ne_of_beq_false e0)] at hR
            subst hR
            have c2 := F8.rd.c2
            have hz6 : w8.heap[w.heap.size]? = some (.cells lwZ 49 (0, 0)) := (F8.st.block _ (by omega) (by omega) (by omega)).trans hzV
            have hb6 := Fill.out F8 hbV (by omega) (by omega)
            dsimp only at c2
            go_wp2_with (fail)
            have hth6 := there_of (w := w8.drew) hz6
            have hz7 := setCells_all (w := w8.drew) hz6 lwZ.toList rfl
            have hc7 : (w8.drew.setCells w.heap.size 0 lwZ.toList).cell? ⟨w.heap.size + 1, 2, none⟩ = some (.int .i64 er) := (World.cell?_of_block ((setCells_heap w.heap.size lwZ.toList 0 w8.drew).1 _ (by simp))).trans c2
            refine wp_region_held_drew (S := (fun w' => w'.cell? ⟨w.heap.size + 1, 2, none⟩ = some (.int .i64 er))) (by kernel_rfl) c2 (fun hHeld => ?_)
            refine wpAnyH_take (i := 0) (oi := ⟨some 94, .build 49 #[], 49, _, _, none⟩) (v := .agg lwZ) rfl (by kernel_rfl) (by kernel_rfl) (by kernel_rfl) (fun _ _ _ h => h) (Or.inl ⟨by rfl, fun _ _ => by kernel_rfl⟩) (by assumption) ?_
            simp only [Act.put, List.setIfInBounds_toArray, List.set_cons_zero, List.set_cons_succ]
            refine wpAnyH_take (i := 1) (oi := ⟨some 95, .move (.tmp 6), _, _, _, none⟩) (v := .pointer (some ⟨w.heap.size + 1, 0, none⟩)) rfl (by kernel_rfl) (by kernel_rfl) (by kernel_rfl) (fun _ _ _ h => h) (Or.inl ⟨by rfl, fun _ _ => by kernel_rfl⟩) (by assumption) ?_
            simp only [Act.put, List.setIfInBounds_toArray, List.set_cons_zero, List.set_cons_succ]
            refine wpAnyH_take (i := 2) (oi := ⟨some 96, .nilCheck (.tmp 95), _, _, _, none⟩) (v := .pointer (some ⟨w.heap.size + 1, 0, none⟩)) rfl (by kernel_rfl) (by kernel_rfl) (by kernel_rfl) (fun _ _ _ h => h) (Or.inl ⟨by rfl, fun _ _ => by kernel_rfl⟩) (by assumption) ?_
            simp only [Act.put, List.setIfInBounds_toArray, List.set_cons_zero, List.set_cons_succ]
            refine wpAnyH_take (i := 3) (oi := ⟨some 97, .fieldAddr 117 (.tmp 96) 2, _, _, _, none⟩) (v := .pointer (some ⟨w.heap.size + 1, 2, none⟩)) rfl (by kernel_rfl) (by kernel_rfl) (by kernel_rfl) (fun _ _ _ h => h) (Or.inl ⟨by rfl, fun _ _ => by kernel_rfl⟩) (by assumption) ?_
            simp only [Act.put, List.setIfInBounds_toArray, List.set_cons_zero, List.set_cons_succ]
            refine wpAnyH_take (i := 4) (oi := ⟨some 98, .load _ (.tmp 97), _, _, _, none⟩) (v := .int .i64 er) rfl (by kernel_rfl) (by kernel_rfl) (by kernel_rfl) (fun _ _ _ h => h) (Or.inl ⟨by rfl, fun w' h => by go_simp⟩) (by assumption) ?_
            simp only [Act.put, List.setIfInBounds_toArray, List.set_cons_zero, List.set_cons_succ]
            refine ready_one (i := 5) (o := ⟨none, .store 49 (.tmp 4) (.tmp 94), _, _, _, none⟩) (by kernel_rfl) rfl rfl (fun K hK => ?_)
            refine wp_store_mid 49 (.tmp 4) (.tmp 94) rfl w.heap.size 0 lwZ rfl rfl hth6 (by kernel_rfl) (lwC_one _ _ _ _ _ _ _) ?_
            refine hK.out _ _ hc7 (fun hHeld => ?_)
            refine wpAnyH_take (i := 6) (oi := ⟨some 5, .assign (.tmp 98), _, _, _, none⟩) (v := .int .i64 er) rfl (by kernel_rfl) (by kernel_rfl) (by kernel_rfl) (fun _ _ _ h => h) (Or.inl ⟨by rfl, fun _ _ => by kernel_rfl⟩) (by assumption) ?_
            simp only [Act.put, List.setIfInBounds_toArray, List.set_cons_zero, List.set_cons_succ]
            refine wpAnyH_done (by kernel_rfl) ?_ _
            go_wp2_with (fail)
            have hb7 := below_setCells hb6.drew (Nat.le_refl _) lwZ.toList
            generalize hW7 : World.setCells _ _ _ _ = W7
            have hz8 : W7.heap[w.heap.size]? = some (.cells lwZ 49 (0, 0)) := by rw [← hW7]; exact hz7
            have hb8 : Below w.heap.size w W7 := by rw [← hW7]; exact hb7
            exact bodyPost_ret (results_cell_row2 rfl _ _ w.heap.size 49 _ (0, 0) _ rfl hz8 Tryz.underlying49 rfl (by kernel_rfl)) rfl ⟨_, _, _, _, rfl, exAt0 _ _, hb8⟩
          obtain rfl := eq_of_beq e0
          have e0' : ((0 : Int) != 0) = false := rfl
          cases e9 : ((i : Int) == (T.length : Int))
          · have e9' : ((i : Int) != (T.length : Int)) = true := by simpa using ne_of_beq_false e9
            rw [finL_end (by have := ne_of_beq_false e9; omega)] at hR
            subst hR
            go_wp2_with (fail)
            ((with_reducible refine (bad18 F8.rd 3).mono ?_); rintro e w7 ⟨rfl, h7, s7⟩)
            have F7 : Fill T (w.heap.size + 1) (w2.heap.size + 1) A cap V w7 (⟨i, 3⟩, y) := F8.step hbg h7 (badS_in F8.inn _) s7
            have e3' : ((3 : Int) != 0) = true := rfl
            clear c1 c2' h7 s7
            have c2 := F7.rd.c2
            have hz6 : w7.heap[w.heap.size]? = some (.cells lwZ 49 (0, 0)) := (F7.st.block _ (by omega) (by omega) (by omega)).trans hzV
            have hb6 := Fill.out F7 hbV (by omega) (by omega)
            dsimp only at c2
            go_wp2_with (fail)
            have hth6 := there_of (w := w7.drew) hz6
            have hz7 := setCells_all (w := w7.drew) hz6 lwZ.toList rfl
            have hc7 : (w7.drew.setCells w.heap.size 0 lwZ.toList).cell? ⟨w.heap.size + 1, 2, none⟩ = some (.int .i64 3) := (World.cell?_of_block ((setCells_heap w.heap.size lwZ.toList 0 w7.drew).1 _ (by simp))).trans c2
            refine wp_region_held_drew (S := (fun w' => w'.cell? ⟨w.heap.size + 1, 2, none⟩ = some (.int .i64 3))) (by kernel_rfl) c2 (fun hHeld => ?_)
            refine wpAnyH_take (i := 0) (oi := ⟨some 94, .build 49 #[], 49, _, _, none⟩) (v := .agg lwZ) rfl (by kernel_rfl) (by kernel_rfl) (by kernel_rfl) (fun _ _ _ h => h) (Or.inl ⟨by rfl, fun _ _ => by kernel_rfl⟩) (by assumption) ?_
            simp only [Act.put, List.setIfInBounds_toArray, List.set_cons_zero, List.set_cons_succ]
            refine wpAnyH_take (i := 1) (oi := ⟨some 95, .move (.tmp 6), _, _, _, none⟩) (v := .pointer (some ⟨w.heap.size + 1, 0, none⟩)) rfl (by kernel_rfl) (by kernel_rfl) (by kernel_rfl) (fun _ _ _ h => h) (Or.inl ⟨by rfl, fun _ _ => by kernel_rfl⟩) (by assumption) ?_
            simp only [Act.put, List.setIfInBounds_toArray, List.set_cons_zero, List.set_cons_succ]
            refine wpAnyH_take (i := 2) (oi := ⟨some 96, .nilCheck (.tmp 95), _, _, _, none⟩) (v := .pointer (some ⟨w.heap.size + 1, 0, none⟩)) rfl (by kernel_rfl) (by kernel_rfl) (by kernel_rfl) (fun _ _ _ h => h) (Or.inl ⟨by rfl, fun _ _ => by kernel_rfl⟩) (by assumption) ?_
            simp only [Act.put, List.setIfInBounds_toArray, List.set_cons_zero, List.set_cons_succ]
            refine wpAnyH_take (i := 3) (oi := ⟨some 97, .fieldAddr 117 (.tmp 96) 2, _, _, _, none⟩) (v := .pointer (some ⟨w.heap.size + 1, 2, none⟩)) rfl (by kernel_rfl) (by kernel_rfl) (by kernel_rfl) (fun _ _ _ h => h) (Or.inl ⟨by rfl, fun _ _ => by kernel_rfl⟩) (by assumption) ?_
            simp only [Act.put, List.setIfInBounds_toArray, List.set_cons_zero, List.set_cons_succ]
            refine wpAnyH_take (i := 4) (oi := ⟨some 98, .load _ (.tmp 97), _, _, _, none⟩) (v := .int .i64 3) rfl (by kernel_rfl) (by kernel_rfl) (by kernel_rfl) (fun _ _ _ h => h) (Or.inl ⟨by rfl, fun w' h => by go_simp⟩) (by assumption) ?_
            simp only [Act.put, List.setIfInBounds_toArray, List.set_cons_zero, List.set_cons_succ]
            refine ready_one (i := 5) (o := ⟨none, .store 49 (.tmp 4) (.tmp 94), _, _, _, none⟩) (by kernel_rfl) rfl rfl (fun K hK => ?_)
            refine wp_store_mid 49 (.tmp 4) (.tmp 94) rfl w.heap.size 0 lwZ rfl rfl hth6 (by kernel_rfl) (lwC_one _ _ _ _ _ _ _) ?_
            refine hK.out _ _ hc7 (fun hHeld => ?_)
            refine wpAnyH_take (i := 6) (oi := ⟨some 5, .assign (.tmp 98), _, _, _, none⟩) (v := .int .i64 3) rfl (by kernel_rfl) (by kernel_rfl) (by kernel_rfl) (fun _ _ _ h => h) (Or.inl ⟨by rfl, fun _ _ => by kernel_rfl⟩) (by assumption) ?_
            simp only [Act.put, List.setIfInBounds_toArray, List.set_cons_zero, List.set_cons_succ]
            refine wpAnyH_done (by kernel_rfl) ?_ _
            go_wp2_with (fail)
            have hb7 := below_setCells hb6.drew (Nat.le_refl _) lwZ.toList
            generalize hW7 : World.setCells _ _ _ _ = W7
            have hz8 : W7.heap[w.heap.size]? = some (.cells lwZ 49 (0, 0)) := by rw [← hW7]; exact hz7
            have hb8 : Below w.heap.size w W7 := by rw [← hW7]; exact hb7
            exact bodyPost_ret (results_cell_row2 rfl _ _ w.heap.size 49 _ (0, 0) _ rfl hz8 Tryz.underlying49 rfl (by kernel_rfl)) rfl ⟨_, _, _, _, rfl, exAt0 _ _, hb8⟩
          · have e9' : ((i : Int) != (T.length : Int)) = false := by simpa using eq_of_beq e9
            obtain rfl : i = T.length := by have := eq_of_beq e9; omega
            rw [finL_ok] at hR
            subst hR
            have hz6 : w8.heap[w.heap.size]? = some (.cells lwZ 49 (0, 0)) := (F8.st.block _ (by omega) (by omega) (by omega)).trans hzV
            have hb6 := Fill.out F8 hbV (by omega) (by omega)
            obtain ⟨x0, x1, x2, x3, hl6, hx6⟩ := F8.ln
            obtain ⟨o, k, s', A', q, c', hC⟩ := hx6.cells
            obtain ⟨rfl, rfl, rfl, rfl⟩ := agg4 hC
            clear hC
            go_wp2_with (first
              | (refine wpList_load_blk rfl 49 (.tmp 8) rfl (w2.heap.size + 1) (by rfl) _ hl6 _ Tryz.underlying49 rfl (by kernel_rfl) ?_)
              | (refine wpList_store_blk rfl 49 (.tmp 4) (.tmp 99) rfl w.heap.size (lwC y (.int .i64 o) (.int .i64 k) (.string (tx s')) (.slice A' q c')) (by rfl) (by rfl) hz6 rfl (by kernel_rfl) (lwC_one _ _ _ _ _ _ _) ?_))
            have hz7 := setCells_all hz6 (lwC y (.int .i64 o) (.int .i64 k) (.string (tx s')) (.slice A' q c')).toList rfl
            have hb7 := below_setCells hb6 (Nat.le_refl _) (lwC y (.int .i64 o) (.int .i64 k) (.string (tx s')) (.slice A' q c')).toList
            have hx7 : ExAt (w8.setCells w.heap.size 0 (lwC y (.int .i64 o) (.int .i64 k) (.string (tx s')) (.slice A' q c')).toList) (fun j => w.heap.size ≤ j ∧ j < (w8.setCells w.heap.size 0 (lwC y (.int .i64 o) (.int .i64 k) (.string (tx s')) (.slice A' q c')).toList).heap.size) y.ex (.agg #[.int .i64 o, .int .i64 k, .string (tx s'), .slice A' q c']) := ExAt.keep (fun q hq => ⟨by omega, by rw [(setCells_heap _ _ _ _).2.1]; exact hq.2⟩) (fun q hq => (setCells_heap _ _ _ _).1 q (by omega)) _ _ hx6
            generalize hW7 : World.setCells _ _ _ _ = W7
            have hz8 : W7.heap[w.heap.size]? = some (.cells (lwC y (.int .i64 o) (.int .i64 k) (.string (tx s')) (.slice A' q c')) 49 (0, 0)) := by rw [← hW7]; exact hz7
            have hb8 : Below w.heap.size w W7 := by rw [← hW7]; exact hb7
            have e7 : W7 = w8.setCells w.heap.size 0 (lwC y (.int .i64 o) (.int .i64 k) (.string (tx s')) (.slice A' q c')).toList := hW7.symm
            subst e7
            exact bodyPost_ret (results_cell_row2 rfl _ _ w.heap.size 49 _ (0, 0) _ rfl hz8 Tryz.underlying49 rfl (by kernel_rfl)) rfl ⟨_, _, _, _, rfl, hx7, hb8⟩
end Go.Proofs.YtpdkpkabdkefcaaGreatDoor
