/- For the seat: texts joined: SxSound7. -/
import Derived.Test.YthbdmlcbdibiiaaGreatDoorJSxSound4
import Derived.Laws.BytesString
import Derived.Laws.CopyRow
import Derived.Laws.AppendOwn
import Derived.Orders
import Derived.Scope
import Derived.LoopN
/- The executor is right: operations that leave the heap alone, in one theorem. -/
namespace Go.Sx
section
variable {ρ : Env} {G : Globs} {K : Nat → Prop} {w0 w : World} {ι : Nm} {h : Heap} {P : Program}
theorem addr_add (b off j : Nat) : (⟨b, off, none⟩ : Addr).add j = ⟨b, off + j, none⟩ := by
  unfold Addr.add
  split
  · rename_i e; subst e; simp
  · rfl
def CellsAt (w : World) (b : Nat) (l : List Value) : Prop := ∀ j v, l[j]? = some v → w.cell? ⟨b, j, none⟩ = some v
theorem HR.cellsAt (H : HR ρ G K w0 ι h w) {n : Nat} {b : Blk} (hb : h[n]? = some (some b)) : CellsAt w (ι.blk n) (b.cells.concL ρ ι) := by
  intro j v hv
  rw [SVal.concL_nth] at hv
  simp only [Option.map_eq_some_iff] at hv
  obtain ⟨u, hu, rfl⟩ := hv
  exact H.cell hb hu
theorem HR.globAt (H : HR ρ G K w0 ι h w) {g : Nat} {cs : SVal} (hg : (g, cs) ∈ G) : CellsAt w g (cs.concL ρ ι) := by
  obtain ⟨h1, _, arr, t, fz, h3, h4⟩ := H.globs g cs hg
  intro j v hv
  rw [← h4] at hv
  have hk := H.kept g h1
  rw [h3] at hk
  simp only [World.cell?, hk]
  simpa using hv
theorem run_load_one {b off : Nat} {cs v : SVal} {t : TypeId} (hc : CellsAt w b (cs.concL ρ ι)) (ha : isAggT P t = some false) (hv : cs.nth off = some v) :
    (Instr.loadAt t (.pointer (some ⟨b, off, none⟩))).run P w = .ok (v.conc ρ ι) w := by
  have h1 := hc off (v.conc ρ ι) (by rw [SVal.concL_nth, hv]; rfl)
  simp [Instr.loadAt, Instr.sureAddr, loadVar, run_isAggT w ha, h1]
theorem run_load_agg {b off z : Nat} {cs : SVal} {t : TypeId} (hc : CellsAt w b (cs.concL ρ ι)) (ha : isAggT P t = some true) (hz : sizeT P t = some z) (hl : off + z ≤ cs.len) :
    (Instr.loadAt t (.pointer (some ⟨b, off, none⟩))).run P w = .ok (.agg (((cs.dropN off).takeN z).concL ρ ι).toArray) w := by
  have hlen : (((cs.dropN off).takeN z).concL ρ ι).length = z := by
    rw [SVal.concL_takeN, SVal.concL_dropN]
    simp [SVal.concL_length]; omega
  have h1 := run_loadCells_list (P := P) w ⟨b, off, none⟩ (((cs.dropN off).takeN z).concL ρ ι) (by
    intro j v hv
    rw [addr_add]
    refine hc _ _ ?_
    rw [SVal.concL_takeN, SVal.concL_dropN] at hv
    rw [List.getElem?_take] at hv
    split at hv
    · rw [List.getElem?_drop] at hv; exact hv
    · cases hv)
  rw [hlen] at h1
  simp [Instr.loadAt, Instr.sureAddr, loadVar, run_isAggT w ha, run_sizeT w hz, h1]
theorem mem_of_lookup {g : Nat} {cs : SVal} : ∀ {G : Globs}, G.lookup g = some cs → (g, cs) ∈ G
  | [], h => by simp [List.lookup] at h
  | (k, v) :: G, h => by
    simp only [List.lookup] at h
    split at h
    · rename_i e; simp at h; subst h; simp at e; subst e; simp
    · exact List.mem_cons_of_mem _ (mem_of_lookup h)
def CellsFrom (w : World) (b o : Nat) (l : List Value) : Prop := ∀ j v, l[j]? = some v → w.cell? ⟨b, o + j, none⟩ = some v
theorem run_load_oneF {b o off : Nat} {cs v : SVal} {t : TypeId} (hc : CellsFrom w b o (cs.concL ρ ι)) (ha : isAggT P t = some false) (hv : cs.nth off = some v) :
    (Instr.loadAt t (.pointer (some ⟨b, o + off, none⟩))).run P w = .ok (v.conc ρ ι) w := by
  have h1 := hc off (v.conc ρ ι) (by rw [SVal.concL_nth, hv]; rfl)
  simp [Instr.loadAt, Instr.sureAddr, loadVar, run_isAggT w ha, h1]
theorem run_load_aggF {b o off z : Nat} {cs : SVal} {t : TypeId} (hc : CellsFrom w b o (cs.concL ρ ι)) (ha : isAggT P t = some true) (hz : sizeT P t = some z) (hl : off + z ≤ cs.len) :
    (Instr.loadAt t (.pointer (some ⟨b, o + off, none⟩))).run P w = .ok (.agg (((cs.dropN off).takeN z).concL ρ ι).toArray) w := by
  have hlen : (((cs.dropN off).takeN z).concL ρ ι).length = z := by
    rw [SVal.concL_takeN, SVal.concL_dropN]
    simp [SVal.concL_length]; omega
  have h1 := run_loadCells_list (P := P) w ⟨b, o + off, none⟩ (((cs.dropN off).takeN z).concL ρ ι) (by
    intro j v hv
    rw [addr_add, Nat.add_assoc]
    refine hc _ _ ?_
    rw [SVal.concL_takeN, SVal.concL_dropN] at hv
    rw [List.getElem?_take] at hv
    split at hv
    · rw [List.getElem?_drop] at hv; exact hv
    · cases hv)
  rw [hlen] at h1
  simp [Instr.loadAt, Instr.sureAddr, loadVar, run_isAggT w ha, run_sizeT w hz, h1]
theorem foldl_chr : ∀ (ns : List Int) (r : ByteArray), ns.foldl (fun r n => r.push (UInt8.ofNat n.toNat)) r = ⟨r.data ++ (ns.map fun n => UInt8.ofNat n.toNat).toArray⟩
  | [], r => by simp
  | n :: ns, r => by
    rw [List.foldl_cons, foldl_chr ns]
    simp [ByteArray.push]
theorem chrsT_spec : ∀ (v : SVal) (t : Tm), chrsT v = some t → ∃ ns : List Int, v.concL ρ ι = ns.map (Value.int .u8) ∧ (t.den ρ).asStr = ns.map fun n => UInt8.ofNat n.toNat := by
  intro v
  induction v with
  | nil =>
    intro t h
    simp only [chrsT, Option.some.injEq] at h
    subst h
    exact ⟨[], rfl, rfl⟩
  | cons a r _ ih =>
    intro t h
    cases a with
    | int k s =>
      cases k <;> simp only [chrsT] at h <;> try cases h
      split at h
      · rename_i u hu
        simp only [Option.some.injEq] at h
        subst h
        obtain ⟨ns, h1, h2⟩ := ih u hu
        refine ⟨(s.den ρ).asInt :: ns, by simp [SVal.concL, SVal.conc, h1], ?_⟩
        rw [mk2_den, mk1_den]
        simp [Op2.ev, Op1.ev, h2]
      · cases h
    | _ => simp [chrsT] at h
  | _ => intro t h; simp [chrsT] at h
theorem run_strOf {cx : Cx} (H : HR ρ cx.globs K w0 ι h w) {s d : TypeId} {b off n : Nat} {c : Cap} {v : SVal} (hv : strOf cx.P h s d b off n = some v) :
    (convert s d ((SVal.slice b off n c).conc ρ ι)).run cx.P w = .ok (v.conc ρ ι) w ∧ ∀ n, v.sc n = true := by
  unfold strOf at hv
  split at hv
  · rename_i e blk hs hd hb
    split at hv
    · rename_i he hle
      split at hv
      · rename_i t ht
        simp only [Option.some.injEq] at hv
        subst hv
        refine ⟨?_, fun _ => rfl⟩
        obtain ⟨ns, h1, h2⟩ := chrsT_spec (ρ := ρ) (ι := ι) _ t ht
        have hlen : ns.length = n := by
          have := congrArg List.length h1
          rw [SVal.concL_takeN, SVal.concL_dropN] at this
          have hle := Nat.le_of_ble_eq_true hle
          simp [SVal.concL_length] at this
          omega
        have hl := run_loadCells_list (P := cx.P) w ⟨ι.blk b, off, none⟩ (ns.map (Value.int .u8)) (by
          intro j u hu
          rw [addr_add]
          refine H.cellsAt hb _ _ ?_
          rw [← h1, SVal.concL_takeN, SVal.concL_dropN, List.getElem?_take] at hu
          split at hu
          · rw [List.getElem?_drop] at hu; exact hu
          · cases hu)
        rw [List.length_map, hlen] at hl
        show (convert s d (.slice (some ⟨ι.blk b, off, none⟩) n (c.ev ι))).run cx.P w = _
        rw [run_convert_bytes_string w s d e _ _ _ hs he hd, run_bytesToString w _ _ _ ns hl, foldl_chr]
        simp [SVal.conc, h2]
      · cases hv
    · cases hv
  · cases hv
theorem cksT_conc (d i : Tm) : ∀ (l : List CK) (j : Nat), (cksT d i j l).concL ρ ι = (l.zipIdx j).map fun p => p.1.val (((d.den ρ).asList.getD (i.den ρ).asInt.toNat (.int 0)).asList.getD p.2 (.int 0))
  | [], j => rfl
  | c :: r, j => by
    have ih := cksT_conc d i r (j + 1)
    simp only [cksT, SVal.concL, ih, List.zipIdx_cons, List.map_cons, List.cons.injEq, and_true]
    cases c <;> simp [ckT, SVal.conc, mk1_den, mk2_den, Op1.ev, Op2.ev, CK.val]
theorem cksT_sc (d i : Tm) (n : Nat) : ∀ (l : List CK) (j : Nat), (cksT d i j l).sc n = true
  | [], j => rfl
  | c :: r, j => by
    simp only [cksT, SVal.sc, cksT_sc d i n r (j + 1), Bool.and_true]
    cases c <;> rfl
theorem cksT_len (d i : Tm) : ∀ (l : List CK) (j : Nat), (cksT d i j l).len = l.length
  | [], j => rfl
  | c :: r, j => by simp [cksT, SVal.len, cksT_len d i r (j + 1)]
theorem HR.rowAt {cx : Cx} (H : HR ρ cx.globs K w0 ι h w) {n : Nat} {b : Blk} {own : Bool} {k : Nat} {d : Tm} (hb : h[n]? = some (some b)) (ha : b.abs = some (own, k, d)) (hk : rowK k ≠ []) :
    ∃ (A : Option Addr) (c : Nat), (ι.val n).v = .slice A (d.den ρ).asList.length c ∧ ((d.den ρ).asList ≠ [] → ∃ g off, A = some ⟨g, off, none⟩ ∧
      ∀ (i j : Nat) (ck : CK), i < (d.den ρ).asList.length → (rowK k)[j]? = some ck → w.cell? ⟨g, off + i * (rowK k).length + j, none⟩ = some (ck.val (((d.den ρ).asList.getD i (.int 0)).asList.getD j (.int 0)))) := by
  obtain ⟨_, h2, _⟩ := H.blocks _ _ hb
  unfold Blk.Ok at h2
  rw [ha] at h2
  have : ∃ F, RowOk (rowK k) (d.den ρ) (ι.val n).v F w := by
    cases own
    · obtain ⟨_, _, F, h3, _⟩ := h2
      exact ⟨F, ρ.ab.rows _ _ _ _ _ hk h3⟩
    · exact ⟨_, ρ.ab.rows _ _ _ _ _ hk h2.2⟩
  obtain ⟨F, _, A, c, h3, h4⟩ := this
  refine ⟨A, c, h3, fun hn => ?_⟩
  obtain ⟨g, off, e, _, hc⟩ := h4 hn
  exact ⟨g, off, e, hc⟩
theorem row_len {k z : Nat} (h : (Nat.beq (rowK k).length z && Nat.blt 0 z) = true) : (rowK k).length = z ∧ rowK k ≠ [] := by
  simp only [Bool.and_eq_true] at h
  have h1 := Nat.eq_of_beq_eq_true h.1
  have h2 : 0 < z := Nat.le_of_ble_eq_true h.2
  refine ⟨h1, fun e => ?_⟩
  rw [e] at h1
  simp at h1
  omega
theorem run_loadA {cx : Cx} (H : HR ρ cx.globs K w0 ι h w) {t : TypeId} {n off z : Nat} {i : Tm} {v : SVal} {cs : List Tm} (hl : loadA cx.P h t n off i z = some (v, cs)) (hc : ∀ c ∈ cs, (c.den ρ).asBool = true) :
    (Instr.loadAt t ((SVal.ptrA n off i z).conc ρ ι)).run cx.P w = .ok (v.conc ρ ι) w ∧ v.sc h.length = true := by
  unfold loadA at hl
  split at hl
  · rename_i b hb
    split at hl
    · rename_i own k d ha
      split at hl
      · rename_i hz
        obtain ⟨hz1, hk⟩ := row_len hz
        obtain ⟨A, c, hv, hrow⟩ := H.rowAt hb ha hk
        have key : cs = [mk2 .le (.num 0) i, mk2 .lt i (mk1 .llen d)] → ∃ g o, (SVal.ptrA n off i z).conc ρ ι = .pointer (some ⟨g, o + off, none⟩) ∧ CellsFrom w g o ((cksT d i 0 (rowK k)).concL ρ ι) := by
          rintro rfl
          have h0 := hc _ (List.mem_cons_self ..)
          have h1 := hc _ (List.mem_cons_of_mem _ (List.mem_singleton.2 rfl))
          rw [mk2_den] at h0 h1
          rw [mk1_den] at h1
          have h0' : (0 : Int) ≤ (i.den ρ).asInt := of_decide_eq_true h0
          have h1' : (i.den ρ).asInt < (((d.den ρ).asList.length : Nat) : Int) := of_decide_eq_true h1
          have hne : (d.den ρ).asList ≠ [] := by intro e; rw [e] at h1'; simp at h1'; omega
          obtain ⟨g, o, rfl, hcell⟩ := hrow hne
          refine ⟨g, o + (i.den ρ).asInt.toNat * z, ?_, fun j u hu => ?_⟩
          · simp only [SVal.conc, rowPtr, hv, rowBase, Nat.add_assoc]
          · rw [cksT_conc] at hu
            simp only [List.getElem?_map, Option.map_eq_some_iff] at hu
            obtain ⟨⟨ck, j'⟩, hj, rfl⟩ := hu
            rw [List.getElem?_zipIdx] at hj
            simp only [Option.map_eq_some_iff, Prod.mk.injEq, Nat.zero_add] at hj
            obtain ⟨ck', hj, rfl, rfl⟩ := hj
            have := hcell (i.den ρ).asInt.toNat j ck' (by omega) hj
            rw [hz1] at this
            exact this
        split at hl
        · rename_i m ha' hm
          split at hl
          · rename_i hle
            simp only [Option.some.injEq, Prod.mk.injEq] at hl
            obtain ⟨rfl, rfl⟩ := hl
            obtain ⟨g, o, e, hcf⟩ := key rfl
            rw [e]
            exact ⟨run_load_aggF hcf ha' hm (by rw [cksT_len, hz1]; exact Nat.le_of_ble_eq_true hle), by simp only [SVal.sc]; exact SVal.sc_takeN _ _ (SVal.sc_dropN _ _ (cksT_sc _ _ _ _ _))⟩
          · cases hl
        · rename_i ha'
          simp only [Option.map_eq_some_iff, Prod.mk.injEq] at hl
          obtain ⟨u, hu, rfl, rfl⟩ := hl
          obtain ⟨g, o, e, hcf⟩ := key rfl
          rw [e]
          exact ⟨run_load_oneF hcf ha' hu, SVal.sc_nth _ _ _ (cksT_sc _ _ _ _ _) hu⟩
        · cases hl
      · cases hl
    · cases hl
  · cases hl
theorem run_loadT {cx : Cx} (H : HR ρ cx.globs K w0 ι h w) {t : TypeId} {a v : SVal} {cs : List Tm} (hl : loadT cx h t a = some (v, cs)) (hc : ∀ c ∈ cs, (c.den ρ).asBool = true) :
    (Instr.loadAt t (a.conc ρ ι)).run cx.P w = .ok (v.conc ρ ι) w ∧ v.sc h.length = true := by
  unfold loadT at hl
  split at hl
  · exact run_loadA H hl hc
  · rename_i b off
    split at hl
    · rename_i blk hb
      have hca := H.cellsAt hb
      have hsc := (H.blocks _ _ hb).2.2
      split at hl
      · rename_i z ha hz
        split at hl
        · rename_i hle
          simp only [Option.some.injEq, Prod.mk.injEq] at hl
          obtain ⟨rfl, rfl⟩ := hl
          exact ⟨run_load_agg hca ha hz (Nat.le_of_ble_eq_true hle), by simp only [SVal.sc]; exact SVal.sc_takeN _ _ (SVal.sc_dropN _ _ hsc)⟩
        · cases hl
      · rename_i ha
        simp only [Option.map_eq_some_iff, Prod.mk.injEq] at hl
        obtain ⟨u, hu, rfl, rfl⟩ := hl
        exact ⟨run_load_one hca ha hu, SVal.sc_nth _ _ _ hsc hu⟩
      · cases hl
    · cases hl
  · rename_i g off
    split at hl
    · rename_i cells hg
      have hca := H.globAt (mem_of_lookup hg)
      have hsc := (H.globs _ _ (mem_of_lookup hg)).2.1
      split at hl
      · rename_i z ha hz
        split at hl
        · rename_i hle
          simp only [Option.some.injEq, Prod.mk.injEq] at hl
          obtain ⟨rfl, rfl⟩ := hl
          exact ⟨run_load_agg hca ha hz (Nat.le_of_ble_eq_true hle), by simp only [SVal.sc]; exact SVal.sc_takeN _ _ (SVal.sc_dropN _ _ (SVal.sc_mono (Nat.zero_le _) _ hsc))⟩
        · cases hl
      · rename_i ha
        simp only [Option.map_eq_some_iff, Prod.mk.injEq] at hl
        obtain ⟨u, hu, rfl, rfl⟩ := hl
        exact ⟨run_load_one hca ha hu, SVal.sc_nth _ _ _ (SVal.sc_mono (Nat.zero_le _) _ hsc) hu⟩
      · cases hl
    · cases hl
  · rename_i b off i z
    split at hl
    · rename_i blk hb
      have hca := H.cellsAt hb
      have hsc := (H.blocks _ _ hb).2.2
      simp only at hl
      split at hl
      · rename_i ha hz
        split at hl
        · rename_i l hch
          simp only [Option.map_eq_some_iff, Prod.mk.injEq] at hl
          obtain ⟨u, hu, rfl, rfl⟩ := hl
          have h0 := hc _ (List.mem_cons_self ..)
          have h1 := hc _ (List.mem_cons_of_mem _ (List.mem_singleton.2 rfl))
          rw [mk2_den] at h0 h1
          have h0' : (0 : Int) ≤ (i.den ρ).asInt := of_decide_eq_true h0
          have h1' : (i.den ρ).asInt < (((headOf i l).length : Nat) : Int) := of_decide_eq_true h1
          obtain ⟨hlen, hch'⟩ := chunks_spec hch
          obtain ⟨y, hy1, hy2⟩ := selectV_conc (ρ := ρ) (ι := ι) i (headOf i l) 0 u hu (by simpa using h0') (by simpa using h1')
          have hp := hch' _ _ (headOf_get hy1)
          have e0 : ((i.den ρ).asInt - ((0 : Nat) : Int)).toNat = (i.den ρ).asInt.toNat := by simp
          rw [e0] at hp
          unfold partT at hp
          rw [ha] at hp
          simp only at hp
          refine ⟨?_, selectV_sc i _ (headOf i l) 0 u hu (fun u hu => chunks_sc hch hsc u (headOf_mem hu))⟩
          rw [hy2]
          exact run_load_one hca ha hp
        · cases hl
      · cases hl
    · cases hl
  · cases hl
theorem run_fieldAddrT {s : TypeId} {x v : SVal} {f n : Nat} (hx : x.sc n = true) (h : fieldAddrT P s x f = some v) :
    (Instr.fieldAt s (x.conc ρ ι) f).run P w = .ok (v.conc ρ ι) w ∧ v.sc n = true := by
  unfold fieldAddrT at h
  split at h
  · rename_i fs hu
    split at h
    · rename_i fd hf
      split at h
      · rename_i z hz
        have hfp : ∀ a : Addr, (fieldPlace a fd).run P w = .ok (a.add fd.offset) w := by
          intro a; simp [fieldPlace, run_sizeT w hz]
        split at h <;> simp only [Option.some.injEq, reduceCtorEq] at h <;> subst h
        all_goals
          refine ⟨?_, by first | exact hx | simpa [SVal.sc] using hx⟩
          simp only [Instr.fieldAt, Sem.run_bind, run_underlying hu, Result.andThen_ok, hf, SVal.conc, rowPtr, Instr.sureAddr, Sem.run_pure, hfp, addr_add]
        · rw [Nat.add_right_comm]
        · simp only [Nat.add_assoc]
      · cases h
    · cases h
  · cases h
theorem run_fieldT {s : TypeId} {x v : SVal} {f n : Nat} (hx : x.sc n = true) (h : fieldT P s x f = some v) :
    (Instr.field s (x.conc ρ ι) f).run P w = .ok (v.conc ρ ι) w ∧ v.sc n = true := by
  unfold fieldT at h
  split at h
  · rename_i fs hu
    split at h
    · rename_i fd hf
      split at h
      · refine ⟨?_, partT_sc h hx⟩
        simp only [Instr.field, Sem.run_bind, run_underlying hu, Result.andThen_ok, hf, SVal.conc, asAgg, Sem.run_pure, run_partT w h]
      · cases h
    · cases h
  · cases h
theorem below?_spec {k : Int} {n j : Nat} (h : below? k n = some j) : k = j ∧ j < n := by
  unfold below? at h
  split at h
  · split at h
    · rename_i hb
      simp at h; subst h
      exact ⟨rfl, Nat.lt_of_lt_of_le (Nat.lt_of_succ_le (Nat.le_of_ble_eq_true hb)) (Nat.le_refl _)⟩
    · cases h
  · cases h
theorem lit?_spec {t : Tm} {k : Int} (h : lit? t = some k) : t = .num k := by
  cases t <;> simp [lit?] at h; subst h; rfl
theorem run_idxA {cx : Cx} (H : HR ρ cx.globs K w0 ι h w) {t : TypeId} {n : Nat} {i v : SVal} {cs : List Tm} (hl : idxA cx.P h t n i = some (v, cs)) (hc : ∀ c ∈ cs, (c.den ρ).asBool = true) (hn : n < h.length) :
    (Instr.indexAt t ((SVal.abs n).conc ρ ι) (i.conc ρ ι)).run cx.P w = .ok (v.conc ρ ι) w ∧ v.sc h.length = true := by
  unfold idxA at hl
  split at hl
  · rename_i ki ti e b hu hb
    split at hl
    · rename_i own k d z ha hz
      split at hl
      · rename_i hz'
        simp only [Option.some.injEq, Prod.mk.injEq] at hl
        obtain ⟨rfl, rfl⟩ := hl
        obtain ⟨hz1, hk⟩ := row_len hz'
        obtain ⟨A, c, hv, hrow⟩ := H.rowAt hb ha hk
        have h0 := hc _ (List.mem_cons_self ..)
        have h1 := hc _ (List.mem_cons_of_mem _ (List.mem_singleton.2 rfl))
        rw [mk2_den] at h0 h1
        rw [mk1_den] at h1
        have h0' : (0 : Int) ≤ (ti.den ρ).asInt := of_decide_eq_true h0
        have h1' : (ti.den ρ).asInt < (((d.den ρ).asList.length : Nat) : Int) := of_decide_eq_true h1
        have hne : (d.den ρ).asList ≠ [] := by intro e; rw [e] at h1'; simp at h1'; omega
        obtain ⟨g, o, rfl, _⟩ := hrow hne
        refine ⟨?_, by simpa [SVal.sc] using hn⟩
        simp only [SVal.conc, rowPtr, hv, rowBase, Nat.add_zero]
        simp [Instr.indexAt, asIntOf, run_underlying hu, run_sizeT w hz, h0', h1', addr_add]
      · cases hl
    · cases hl
  · cases hl
theorem run_indexAddrT {t : TypeId} {x i v : SVal} {cs : List Tm} {n : Nat} (hx : x.sc n = true) (h : indexAddrT P t x i = some (v, cs)) (hc : ∀ c ∈ cs, (c.den ρ).asBool = true) :
    (Instr.indexAt t (x.conc ρ ι) (i.conc ρ ι)).run P w = .ok (v.conc ρ ι) w ∧ v.sc n = true := by
  unfold indexAddrT at h
  split at h
  · rename_i ki ti
    have two : ∀ (m : Nat), cs = [mk2 .le (.num 0) ti, mk2 .lt ti (.num m)] → (0 : Int) ≤ (ti.den ρ).asInt ∧ (ti.den ρ).asInt < m := by
      rintro m rfl
      have h0 := hc _ (List.mem_cons_self ..)
      have h1 := hc _ (List.mem_cons_of_mem _ (List.mem_singleton.2 rfl))
      rw [mk2_den] at h0 h1
      exact ⟨of_decide_eq_true h0, of_decide_eq_true h1⟩
    split at h
    · rename_i m e b off hu
      split at h
      · rename_i z hz
        split at h
        · rename_i k hk
          simp only [Option.map_eq_some_iff, Prod.mk.injEq] at h
          obtain ⟨j, hj, rfl, rfl⟩ := h
          obtain ⟨rfl, hjm⟩ := below?_spec hj
          rw [lit?_spec hk]
          refine ⟨?_, by simpa [SVal.sc] using hx⟩
          simp [Instr.indexAt, SVal.conc, asIntOf, run_underlying hu, Instr.sureAddr, run_sizeT w hz, Tm.den, hjm, addr_add]
        · simp only [Option.some.injEq, Prod.mk.injEq] at h
          obtain ⟨rfl, rfl⟩ := h
          obtain ⟨h0, h1⟩ := two m rfl
          refine ⟨?_, by simpa [SVal.sc] using hx⟩
          simp [Instr.indexAt, SVal.conc, asIntOf, run_underlying hu, Instr.sureAddr, run_sizeT w hz, h0, h1, addr_add]
      · cases h
    · rename_i m e g off hu
      split at h
      · rename_i z k hz hk
        simp only [Option.map_eq_some_iff, Prod.mk.injEq] at h
        obtain ⟨j, hj, rfl, rfl⟩ := h
        obtain ⟨rfl, hjm⟩ := below?_spec hj
        rw [lit?_spec hk]
        refine ⟨?_, by simp [SVal.sc]⟩
        simp [Instr.indexAt, SVal.conc, asIntOf, run_underlying hu, Instr.sureAddr, run_sizeT w hz, Tm.den, hjm, addr_add]
      · cases h
    · rename_i e b off m cap hu
      have hb : b < n := by
        simp only [SVal.sc, Bool.and_eq_true, decide_eq_true_eq] at hx
        exact hx.1
      split at h
      · rename_i z hz
        split at h
        · rename_i k hk
          simp only [Option.map_eq_some_iff, Prod.mk.injEq] at h
          obtain ⟨j, hj, rfl, rfl⟩ := h
          obtain ⟨rfl, hjm⟩ := below?_spec hj
          rw [lit?_spec hk]
          refine ⟨?_, by simpa [SVal.sc] using hb⟩
          simp [Instr.indexAt, SVal.conc, asIntOf, run_underlying hu, run_sizeT w hz, Tm.den, hjm, addr_add]
        · simp only [Option.some.injEq, Prod.mk.injEq] at h
          obtain ⟨rfl, rfl⟩ := h
          obtain ⟨h0, h1⟩ := two m rfl
          refine ⟨?_, by simpa [SVal.sc] using hb⟩
          simp [Instr.indexAt, SVal.conc, asIntOf, run_underlying hu, run_sizeT w hz, h0, h1, addr_add]
      · cases h
    · cases h
  · cases h
theorem run_indexT {t : TypeId} {x i v : SVal} {cs : List Tm} {n : Nat} (hx : x.sc n = true) (h : indexT P t x i = some (v, cs)) (hc : ∀ c ∈ cs, (c.den ρ).asBool = true) :
    (Instr.index t (x.conc ρ ι) (i.conc ρ ι)).run P w = .ok (v.conc ρ ι) w ∧ v.sc n = true := by
  unfold indexT at h
  split at h
  · rename_i ki ti
    split at h
    · rename_i m e l hu
      split at h
      · rename_i z hz
        split at h
        · rename_i k hk
          split at h
          · rename_i j hj
            simp only [Option.map_eq_some_iff, Prod.mk.injEq] at h
            obtain ⟨u, hu', rfl, rfl⟩ := h
            obtain ⟨rfl, hjm⟩ := below?_spec hj
            rw [lit?_spec hk]
            refine ⟨?_, partT_sc hu' hx⟩
            have := run_partT (ρ := ρ) (ι := ι) w hu'
            simp [Instr.index, SVal.conc, asIntOf, run_underlying hu, run_sizeT w hz, Tm.den, hjm, this]
          · cases h
        · split at h
          · rename_i cl hch
            simp only [Option.map_eq_some_iff, Prod.mk.injEq] at h
            obtain ⟨u, hu', rfl, rfl⟩ := h
            have h0 := hc _ (List.mem_cons_self ..)
            have h1 := hc _ (List.mem_cons_of_mem _ (List.mem_singleton.2 rfl))
            rw [mk2_den] at h0 h1
            have h0' : (0 : Int) ≤ (ti.den ρ).asInt := of_decide_eq_true h0
            have h1' : (ti.den ρ).asInt < (m : Int) := of_decide_eq_true h1
            obtain ⟨hlen, hch'⟩ := chunks_spec hch
            obtain ⟨y, hy1, hy2⟩ := selectV_conc (ρ := ρ) (ι := ι) ti cl 0 u hu' (by simpa using h0') (by rw [hlen]; simpa using h1')
            have hp := hch' _ _ hy1
            simp only [Nat.zero_add] at hp
            refine ⟨?_, selectV_sc ti _ cl 0 u hu' (chunks_sc hch hx)⟩
            have := run_partT (ρ := ρ) (ι := ι) w hp
            rw [hy2]
            simp at this
            simp [Instr.index, SVal.conc, asIntOf, run_underlying hu, run_sizeT w hz, h0', h1', this]
          · cases h
      · cases h
    · rename_i s hu
      simp only [Option.some.injEq, Prod.mk.injEq] at h
      obtain ⟨rfl, rfl⟩ := h
      have h0 := hc _ (List.mem_cons_self ..)
      have h1 := hc _ (List.mem_cons_of_mem _ (List.mem_singleton.2 rfl))
      rw [mk2_den] at h0 h1
      rw [mk1_den] at h1
      have h0' : (0 : Int) ≤ (ti.den ρ).asInt := of_decide_eq_true h0
      have h1' : (ti.den ρ).asInt < ((s.den ρ).asStr.length : Int) := of_decide_eq_true h1
      refine ⟨?_, rfl⟩
      simp only [SVal.conc, mk2_den, Op2.ev, Sc.asInt_int]
      generalize (s.den ρ).asStr = l at *
      generalize (ti.den ρ).asInt = q at *
      have hq : q.toNat < l.length := by omega
      have e : (ByteArray.mk l.toArray)[q.toNat]? = some (l.getD q.toNat 0) := by
        have hsz : q.toNat < (ByteArray.mk l.toArray).size := by simp [ByteArray.size, hq]
        rw [getElem?_pos (ByteArray.mk l.toArray) q.toNat hsz]
        congr 1
        have : l.getD q.toNat 0 = l[q.toNat] := by simp [List.getD, hq]
        rw [this]
        rfl
      simp [Instr.index, asIntOf, run_underlying hu, h0', e]
    · cases h
  · cases h
theorem run_lenA {cx : Cx} (H : HR ρ cx.globs K w0 ι h w) {t : TypeId} {n : Nat} {v : SVal} (ty : TypeId) (hl : lenA cx.P h t n = some v) :
    (Builtin.len_ #[t] ty #[(SVal.abs n).conc ρ ι]).run cx.P w = .ok (v.conc ρ ι) w ∧ ∀ n, v.sc n = true := by
  unfold lenA at hl
  split at hl
  · rename_i b hu hb
    split at hl
    · rename_i own k d ha
      split at hl
      · rename_i hk
        simp only [Option.some.injEq] at hl
        subst hl
        have hk : k < 100 := Nat.le_of_ble_eq_true hk
        obtain ⟨_, h2, _⟩ := H.blocks _ _ hb
        unfold Blk.Ok at h2
        rw [ha] at h2
        have : ∃ (p : Option Addr) (c : Nat), (ι.val n).v = .slice p (d.den ρ).asList.length c := by
          cases own
          · obtain ⟨_, _, F, h3, _⟩ := h2
            exact ρ.ab.len _ _ _ _ _ hk h3
          · exact ρ.ab.len _ _ _ _ _ hk h2.2
        obtain ⟨p, c, hv⟩ := this
        refine ⟨?_, fun n => rfl⟩
        simp only [SVal.conc, mk1_den, Op1.ev, Sc.asInt_int, hv]
        simp [Builtin.len_, run_underlying hu, goInt]
      · split at hl
        · cases hl
        · rename_i _ _ hk
          simp only [Option.some.injEq] at hl
          subst hl
          obtain ⟨p, c, hv, _⟩ := H.rowAt hb ha (by rw [hk]; simp)
          refine ⟨?_, fun n => rfl⟩
          simp only [SVal.conc, mk1_den, Op1.ev, Sc.asInt_int, hv]
          simp [Builtin.len_, run_underlying hu, goInt]
    · cases hl
  · cases hl
theorem knowV_conc {ρ : Env} {ι : Nm} {pc : Tm} (hp : (pc.den ρ).asBool = true) (v : SVal) : (knowV pc v).conc ρ ι = v.conc ρ ι ∧ ∀ n, (knowV pc v).sc n = v.sc n := by
  unfold knowV
  split
  · rename_i t
    split
    · rename_i b hb
      exact ⟨by simp only [SVal.conc, Tm.den, decideT_den hp hb, Sc.asBool_bool], fun _ => rfl⟩
    · exact ⟨rfl, fun _ => rfl⟩
  · exact ⟨rfl, fun _ => rfl⟩
def BoundAt (d n : Nat) : Option Value → Prop
  | none => n = d
  | some v => ∃ k : IntKind, v = .int k n
theorem boundE_ok {n : Nat} {slots : Slots} {a : Act} (hs : SlotsOk ρ ι n slots a) {d m : Nat} {b : Option Operand} (h : boundE slots d b = some m) : BoundAt d m (b.map a.eval) := by
  unfold boundE at h
  split at h
  · simp only [Option.some.injEq] at h
    exact h.symm
  · split at h
    · rename_i x k z hz
      split at h
      · rename_i h0
        have h0 := of_decide_eq_true h0
        simp only [Option.some.injEq] at h
        subst h
        have := (evO_conc hs hz).1
        refine ⟨k, ?_⟩
        rw [this]
        simp only [SVal.conc, Tm.den, Sc.asInt_int, Int.toNat_of_nonneg h0]
      · cases h
    · cases h
theorem run_bound {P : Program} (w : World) (k : IntKind) {n y : Nat} (h : n ≤ y) (code : BoundsCode) : (Instr.sliceBound (.int k n) y code).run P w = .ok n w := by
  have h2 : (0 : Int) ≤ (n : Int) ∧ (n : Int) ≤ (y : Int) := ⟨by omega, by omega⟩
  simp [Instr.sliceBound, asIntOf, h2]
theorem run_sliceT {P : Program} (w : World) {t : TypeId} {s : List UInt8} {lo hi : Option Value} {l h : Nat} (hu : P.underlying t = some .string) (hl : BoundAt 0 l lo) (hh : BoundAt s.length h hi) (h1 : l ≤ h) (h2 : h ≤ s.length) :
    (Instr.sliceAt t (.string ⟨s.toArray⟩) lo hi none).run P w = .ok (.string ⟨((s.drop l).take (h - l)).toArray⟩) w := by
  have hsz : (⟨s.toArray⟩ : ByteArray).size = s.length := by simp [ByteArray.size]
  have hb : (Instr.sliceBounds false (⟨s.toArray⟩ : ByteArray).size (⟨s.toArray⟩ : ByteArray).size lo hi none).run P w = .ok (l, h, s.length) w := by
    rw [hsz]
    cases lo with
    | none =>
      have hl : l = 0 := hl
      subst hl
      cases hi with
      | none =>
        have hh : h = s.length := hh
        subst hh
        simp [Instr.sliceBounds]
      | some v =>
        obtain ⟨k, rfl⟩ := hh
        simp [Instr.sliceBounds, run_bound w k h2]
    | some u =>
      obtain ⟨k', rfl⟩ := hl
      cases hi with
      | none =>
        have hh : h = s.length := hh
        subst hh
        simp [Instr.sliceBounds, run_bound w k' h1]
      | some v =>
        obtain ⟨k, rfl⟩ := hh
        simp [Instr.sliceBounds, run_bound w k h2, run_bound w k' h1]
  have hx : (⟨s.toArray⟩ : ByteArray).extract l h = ⟨((s.drop l).take (h - l)).toArray⟩ := by
    apply ByteArray.ext
    simp [ByteArray.data_extract]
  simp only [Instr.sliceAt, Sem.run_bind, run_underlying hu, Result.andThen_ok]
  simp [Instr.slice, run_underlying hu, hb, hx]
theorem run_pureOp {cx : Cx} (ok : cx.Ok) {slots : Slots} {a : Act} {pc : Tm} {o : Oper} {v : SVal} {cs : List Tm}
    (hp : pureOp cx slots h pc o = some (v, cs)) (hs : SlotsOk ρ ι h.length slots a) (H : HR ρ cx.globs K w0 ι h w) (hpc : (pc.den ρ).asBool = true) (hc : ∀ c ∈ cs, (c.den ρ).asBool = true) :
    (execOp a.eval o).run cx.P w = .ok (.value (v.conc ρ ι)) w ∧ v.sc h.length = true := by
  unfold pureOp at hp
  unfold execOp
  split at hp
  · -- move
    rename_i x ho
    simp only [Option.map_eq_some_iff, Prod.mk.injEq] at hp
    obtain ⟨u, hu, rfl, rfl⟩ := hp
    obtain ⟨h1, h2⟩ := evO_conc hs hu
    simp [ho, h1, h2]
  · rename_i x ho
    simp only [Option.map_eq_some_iff, Prod.mk.injEq] at hp
    obtain ⟨u, hu, rfl, rfl⟩ := hp
    obtain ⟨h1, h2⟩ := evO_conc hs hu
    simp [ho, h1, h2]
  · rename_i c x y ho
    split at hp
    · rename_i t ht
      have hcb := (evO_conc hs ht).1
      simp only [SVal.conc] at hcb
      split at hp
      · rename_i hd
        simp only [Option.map_eq_some_iff, Prod.mk.injEq] at hp
        obtain ⟨u, hu, rfl, rfl⟩ := hp
        obtain ⟨h1, h2⟩ := evO_conc hs hu
        simp [ho, hcb, asBool, decideT_den hpc hd, h1, h2]
      · rename_i hd
        simp only [Option.map_eq_some_iff, Prod.mk.injEq] at hp
        obtain ⟨u, hu, rfl, rfl⟩ := hp
        obtain ⟨h1, h2⟩ := evO_conc hs hu
        simp [ho, hcb, asBool, decideT_den hpc hd, h1, h2]
      · split at hp
        · rename_i u v' hu hv
          simp only [Option.map_eq_some_iff, Prod.mk.injEq] at hp
          obtain ⟨m, hm, rfl, rfl⟩ := hp
          obtain ⟨h1, h2⟩ := evO_conc hs hu
          obtain ⟨h3, h4⟩ := evO_conc hs hv
          obtain ⟨k1, _, k3⟩ := mergeV_conc (ρ := ρ) (ι := ι) t h.length _ _ _ hm
          refine ⟨?_, k3 h2 h4⟩
          simp only [ho, hcb, asBool, Sem.run_bind, Sem.run_pure, Result.andThen_ok, h1, h3, k1]
          cases (t.den ρ).asBool <;> rfl
        · cases hp
    · cases hp
  · rename_i t parts ho
    split at hp
    · rename_i ps hps
      simp only [Option.map_eq_some_iff, Prod.mk.injEq] at hp
      obtain ⟨u, hu, rfl, rfl⟩ := hp
      obtain ⟨h1, h2⟩ := evParts_conc hs hps
      obtain ⟨k1, k2⟩ := run_buildT (ρ := ρ) (ι := ι) w hu
      have e : (parts.map fun (x : Nat × Operand) => (x.1, a.eval x.2)) = (ps.map fun p => (p.1, p.2.conc ρ ι)).toArray := by
        apply Array.ext'
        simp [h1]
      refine ⟨?_, k2 _ h2⟩
      simp only [ho, Sem.run_bind]
      rw [show (parts.map fun x => match x with | (i, x) => (i, a.eval x)) = (parts.map fun (x : Nat × Operand) => (x.1, a.eval x.2)) from rfl, e, k1]
      rfl
    · cases hp
  · rename_i t x ho
    split at hp
    · rename_i p hx
      obtain ⟨h1, h2⟩ := evO_conc hs hx
      obtain ⟨k1, k2⟩ := run_loadT H hp hc
      exact ⟨by simp [ho, h1, k1], k2⟩
    · cases hp
  · rename_i x ho
    split at hp
    · rename_i b off hx
      obtain ⟨h1, h2⟩ := evO_conc hs hx
      simp only [Option.some.injEq, Prod.mk.injEq] at hp
      obtain ⟨rfl, rfl⟩ := hp
      simp only [SVal.conc] at h1
      exact ⟨by simp [ho, h1, SVal.conc], h2⟩
    · rename_i b off hx
      obtain ⟨h1, h2⟩ := evO_conc hs hx
      simp only [Option.some.injEq, Prod.mk.injEq] at hp
      obtain ⟨rfl, rfl⟩ := hp
      simp only [SVal.conc] at h1
      exact ⟨by simp [ho, h1, SVal.conc], h2⟩
    · rename_i f x y hx
      obtain ⟨h1, h2⟩ := evO_conc hs hx
      simp only [Option.some.injEq, Prod.mk.injEq] at hp
      obtain ⟨rfl, rfl⟩ := hp
      simp only [SVal.conc] at h1
      exact ⟨by simp [ho, h1, SVal.conc], h2⟩
    · cases hp
  · rename_i op t x y ty ho
    split at hp
    · rename_i u v' hu hv
      obtain ⟨h1, h2⟩ := evO_conc hs hu
      obtain ⟨h3, h4⟩ := evO_conc hs hv
      simp only [Option.map_eq_some_iff, Prod.mk.injEq] at hp
      obtain ⟨⟨r1, r2⟩, hp, rfl, rfl⟩ := hp
      obtain ⟨k1, k2⟩ := run_binT (ρ := ρ) (ι := ι) w ok (X := x) (Y := y) hp hc
      obtain ⟨q1, q2⟩ := knowV_conc (ι := ι) hpc r1
      have q : (match cx.fold with | true => knowV pc r1 | false => r1).conc ρ ι = r1.conc ρ ι ∧ (match cx.fold with | true => knowV pc r1 | false => r1).sc h.length = r1.sc h.length := by
        cases cx.fold
        · exact ⟨rfl, rfl⟩
        · exact ⟨q1, q2 _⟩
      refine ⟨?_, q.2.trans (k2 _)⟩
      refine Eq.trans (b := .ok (.value (r1.conc ρ ι)) w) ?_ (congrArg (fun v => Result.ok (Next.value v) w) q.1.symm)
      simp only [ho, h1, h3]
      have e : (do eqGuard op t x y (SVal.conc ρ ι u) (SVal.conc ρ ι v'); binOp op t (SVal.conc ρ ι u) (SVal.conc ρ ι v') : Sem Value) = (eqGuard op t x y (SVal.conc ρ ι u) (SVal.conc ρ ι v')).bind fun _ => binOp op t (SVal.conc ρ ι u) (SVal.conc ρ ι v') := rfl
      rw [e, Sem.run_bind, k1]
      rfl
    · cases hp
  · rename_i op t x ho
    split at hp
    · rename_i u hu
      simp only [Option.map_eq_some_iff, Prod.mk.injEq] at hp
      obtain ⟨m, hm, rfl, rfl⟩ := hp
      obtain ⟨h1, h2⟩ := evO_conc hs hu
      obtain ⟨k1, k2⟩ := run_unT (ρ := ρ) (ι := ι) (P := cx.P) w hm
      exact ⟨by simp [ho, h1, k1], k2 _⟩
    · cases hp
  · rename_i s d x ho
    split at hp
    · rename_i b off n c hu
      obtain ⟨h1, h2⟩ := evO_conc hs hu
      split at hp
      · rename_i v hv
        simp only [Option.some.injEq, Prod.mk.injEq] at hp
        obtain ⟨rfl, rfl⟩ := hp
        obtain ⟨k1, k2⟩ := run_strOf (c := c) H hv
        exact ⟨by simp [ho, h1, k1], k2 _⟩
      · simp only [Option.map_eq_some_iff, Prod.mk.injEq] at hp
        obtain ⟨m, hm, rfl, rfl⟩ := hp
        obtain ⟨k1, k2⟩ := run_convT (ρ := ρ) (ι := ι) (P := cx.P) w hm
        exact ⟨by simp [ho, h1, k1], k2 _⟩
    · rename_i u _ hu
      simp only [Option.map_eq_some_iff, Prod.mk.injEq] at hp
      obtain ⟨m, hm, rfl, rfl⟩ := hp
      obtain ⟨h1, h2⟩ := evO_conc hs hu
      obtain ⟨k1, k2⟩ := run_convT (ρ := ρ) (ι := ι) (P := cx.P) w hm
      exact ⟨by simp [ho, h1, k1], k2 _⟩
    · cases hp
  · rename_i fn first captured ho
    split at hp
    · rename_i x y hx hy
      simp only [Option.some.injEq, Prod.mk.injEq] at hp
      obtain ⟨rfl, rfl⟩ := hp
      obtain ⟨h1, h2⟩ := evs_conc hs hx
      obtain ⟨h3, h4⟩ := evs_conc hs hy
      refine ⟨?_, by simp [SVal.sc, SVal.sc_ofList _ h2, SVal.sc_ofList _ h4]⟩
      have e1 : first.map a.eval = (x.map (·.conc ρ ι)).toArray := by apply Array.ext'; simp [h1]
      have e2 : captured.map a.eval = (y.map (·.conc ρ ι)).toArray := by apply Array.ext'; simp [h3]
      simp [ho, Instr.makeFunc, SVal.conc, SVal.concL_ofList, e1, e2]
    · cases hp
  · rename_i s x f ho
    split at hp
    · rename_i u hu
      simp only [Option.map_eq_some_iff, Prod.mk.injEq] at hp
      obtain ⟨m, hm, rfl, rfl⟩ := hp
      obtain ⟨h1, h2⟩ := evO_conc hs hu
      obtain ⟨k1, k2⟩ := run_fieldAddrT (ρ := ρ) (ι := ι) (w := w) h2 hm
      exact ⟨by simp [ho, h1, k1], k2⟩
    · cases hp
  · rename_i s x f ho
    split at hp
    · rename_i u hu
      simp only [Option.map_eq_some_iff, Prod.mk.injEq] at hp
      obtain ⟨m, hm, rfl, rfl⟩ := hp
      obtain ⟨h1, h2⟩ := evO_conc hs hu
      obtain ⟨k1, k2⟩ := run_fieldT (ρ := ρ) (ι := ι) (w := w) h2 hm
      exact ⟨by simp [ho, h1, k1], k2⟩
    · cases hp
  · rename_i t x i ho
    split at hp
    · rename_i n v' hu hv
      obtain ⟨h1, h2⟩ := evO_conc hs hu
      obtain ⟨h3, h4⟩ := evO_conc hs hv
      obtain ⟨k1, k2⟩ := run_idxA H hp hc (by simpa [SVal.sc] using h2)
      exact ⟨by simp [ho, h1, h3, k1], k2⟩
    · rename_i u v' _ hu hv
      obtain ⟨h1, h2⟩ := evO_conc hs hu
      obtain ⟨h3, h4⟩ := evO_conc hs hv
      obtain ⟨k1, k2⟩ := run_indexAddrT (ρ := ρ) (ι := ι) (w := w) h2 hp hc
      exact ⟨by simp [ho, h1, h3, k1], k2⟩
    · cases hp
  · rename_i t x i ho
    split at hp
    · rename_i u v' hu hv
      obtain ⟨h1, h2⟩ := evO_conc hs hu
      obtain ⟨h3, h4⟩ := evO_conc hs hv
      obtain ⟨k1, k2⟩ := run_indexT (ρ := ρ) (ι := ι) (w := w) h2 hp hc
      exact ⟨by simp [ho, h1, h3, k1], k2⟩
    · cases hp
  · rename_i x i ho
    split at hp
    · rename_i l hu
      simp only [Option.map_eq_some_iff, Prod.mk.injEq] at hp
      obtain ⟨m, hm, rfl, rfl⟩ := hp
      obtain ⟨h1, h2⟩ := evO_conc hs hu
      simp only [SVal.conc] at h1
      have := SVal.concL_nth ρ ι l i
      rw [hm] at this
      exact ⟨by simp [ho, h1, Instr.extract, this], SVal.sc_nth l _ _ (by simpa only [SVal.sc] using h2) hm⟩
    · cases hp
  · rename_i t x lo hi ho
    split at hp
    · rename_i tx hu hx
      split at hp
      · rename_i l hh hl hh'
        split at hp
        · rename_i hle
          simp only [Option.some.injEq, Prod.mk.injEq] at hp
          obtain ⟨rfl, rfl⟩ := hp
          rw [Bool.and_eq_true] at hle
          have h1 := (evO_conc hs hx).1
          refine ⟨?_, rfl⟩
          simp only [ho, h1, Option.map_none]
          have := run_sliceT (P := cx.P) w hu (boundE_ok hs hl) (boundE_ok hs hh') (Nat.le_of_ble_eq_true hle.1) (Nat.le_of_ble_eq_true hle.2)
          simp [SVal.conc, Tm.den, Sc.asStr_str, this]
        · cases hp
      · cases hp
    · cases hp
  · rename_i c ho
    split at hp
    · rename_i hcal
      split at hp
      · rename_i x t hx ht
        split at hp
        · rename_i n hu
          simp only [Option.map_eq_some_iff, Prod.mk.injEq] at hp
          obtain ⟨m, hm, rfl, rfl⟩ := hp
          obtain ⟨h1, h2⟩ := evO_conc hs hu
          obtain ⟨k1, k2⟩ := run_lenA (cx := cx) H o.type hm
          have e1 : c.args = #[x] := by apply Array.ext'; simpa using hx
          have e2 : c.argTypes = #[t] := by apply Array.ext'; simpa using ht
          refine ⟨?_, k2 _⟩
          simp only [ho, resolve, hcal, e1, e2]
          simp [invoke, builtin, h1, k1]
        · rename_i u _ hu
          simp only [Option.map_eq_some_iff, Prod.mk.injEq] at hp
          obtain ⟨m, hm, rfl, rfl⟩ := hp
          obtain ⟨h1, h2⟩ := evO_conc hs hu
          obtain ⟨k1, k2⟩ := run_lenT (ρ := ρ) (ι := ι) (P := cx.P) w o.type hm
          have e1 : c.args = #[x] := by apply Array.ext'; simpa using hx
          have e2 : c.argTypes = #[t] := by apply Array.ext'; simpa using ht
          refine ⟨?_, k2 _⟩
          simp only [ho, resolve, hcal, e1, e2]
          simp [invoke, builtin, h1, k1]
        · cases hp
      · cases hp
    · rename_i hcal
      split at hp
      · rename_i k x k' y he
        simp only [Option.some.injEq, Prod.mk.injEq] at hp
        obtain ⟨rfl, rfl⟩ := hp
        have hv := evs_conc hs he
        have e : c.args.map a.eval = #[.int k (x.den ρ).asInt, .int k' (y.den ρ).asInt] := by
          apply Array.ext'
          simpa [SVal.conc] using hv.1
        refine ⟨?_, rfl⟩
        simp only [ho, resolve, hcal]
        simp only [invoke, builtin, e, Builtin.min_, SVal.conc, mkIte_den, mk2_den, Op2.ev, Sc.asBool_bool]
        by_cases h : (y.den ρ).asInt < (x.den ρ).asInt
        · simp [h, Builtin.min2]
        · simp [h, Builtin.min2]
      · cases hp
    · rename_i hcal
      split at hp
      · rename_i k x k' y he
        simp only [Option.some.injEq, Prod.mk.injEq] at hp
        obtain ⟨rfl, rfl⟩ := hp
        have hv := evs_conc hs he
        have e : c.args.map a.eval = #[.int k (x.den ρ).asInt, .int k' (y.den ρ).asInt] := by
          apply Array.ext'
          simpa [SVal.conc] using hv.1
        refine ⟨?_, rfl⟩
        simp only [ho, resolve, hcal]
        simp only [invoke, builtin, e, Builtin.max_, SVal.conc, mkIte_den, mk2_den, Op2.ev, Sc.asBool_bool]
        by_cases h : (x.den ρ).asInt < (y.den ρ).asInt
        · simp [h, Builtin.max2]
        · simp [h, Builtin.max2]
      · cases hp
    · cases hp
  · cases hp
end
end Go.Sx
/- The executor is right: operations on the heap. -/
namespace Go.Sx
section
variable {ρ : Env} {G : Globs} {K : Nat → Prop} {w0 w : World} {ι : Nm} {h : Heap} {P : Program}
theorem isReal_none {b : Blk} (h : b.isReal = true) : b.abs = none := by
  unfold Blk.isReal at h
  split at h
  · assumption
  · cases h
theorem getElem?_set_cases {n m : Nat} {b c : Blk} (hn : n < h.length) (hc : (h.set n (some b))[m]? = some (some c)) : (m ≠ n ∧ h[m]? = some (some c)) ∨ (m = n ∧ c = b) := by
  by_cases hm : m = n
  · subst hm; rw [List.getElem?_set_self hn] at hc; simp at hc; exact .inr ⟨rfl, hc.symm⟩
  · rw [List.getElem?_set_ne (Ne.symm hm)] at hc; exact .inl ⟨hm, hc⟩
theorem HR.row (H : HR ρ G K w0 ι h w) {n : Nat} {b b' : Blk} (hb : h[n]? = some (some b)) (ha : b.abs = none) (ha' : b'.abs = none) (he : b'.elem = b.elem) (cs' : Array Value) (hf : b'.Fits ρ ι (ι.cap n) cs') (hs : b'.cells.sc h.length = true) :
    HR ρ G K w0 ι (h.set n (some b')) (w.setRow (ι.blk n) cs') := by
  obtain ⟨_, _, ⟨cur, hcur, _⟩, _⟩ := H.real hb ha
  refine H.change hb ha ha' rfl rfl rfl (by simp [World.setRow]) (fun q hq => setRow_other _ _ _ _ (fun e => hq e)) ⟨cs', ?_, hf⟩ hs
  rw [setRow_heap w _ cur cs' b.elem (0, 0) hcur, he]
theorem HR.move (H : HR ρ G K w0 ι h w) {n : Nat} {b : Blk} (hb : h[n]? = some (some b)) (ha : b.abs = none) :
    HR ρ G K w0 (ι.put h.length (ι.blk n) (ι.cap n)) ((h.set n none) ++ [some b]) w := by
  have hn : n < h.length := (List.getElem?_eq_some_iff.1 hb).1
  let ι' : Nm := ι.put h.length (ι.blk n) (ι.cap n)
  have e : Nm.Ext h.length ι ι' := Nm.ext_put ι _ _ _
  have H' := H.ext e
  have hblkn : ι'.blk h.length = ι.blk n := by simp [ι', Nm.put]
  have hcapn : ι'.cap h.length = ι.cap n := by simp [ι', Nm.put]
  have hfoot : ι'.foot h.length = (· = ι.blk n) := by simp [ι', Nm.put]
  obtain ⟨k1, kf, ⟨cs, k2, k3⟩, k4⟩ := H.real hb ha
  have hfn : ι'.foot n = (· = ι.blk n) := by rw [(e n hn).2.2.2]; exact kf
  have key : ∀ (m : Nat) (c : Blk), ((h.set n none) ++ [some b])[m]? = some (some c) → (m ≠ n ∧ h[m]? = some (some c)) ∨ (m = h.length ∧ c = b) := by
    intro m c hc
    rcases getElem?_append_new hc with h1 | ⟨h1, h2⟩
    · left
      by_cases hm : m = n
      · subst hm; rw [List.getElem?_set_self hn] at h1; simp at h1
      · rw [List.getElem?_set_ne (Ne.symm hm)] at h1; exact ⟨hm, h1⟩
    · right; exact ⟨by simpa using h1, h2⟩
  refine ⟨H.os, H.tape, H.output, H.size, H.kept, H.old, H.base, ?_, ?_, H'.globs⟩
  · intro m c hc
    rcases key m c hc with ⟨hm, h1⟩ | ⟨rfl, rfl⟩
    · obtain ⟨k1, k2, k3⟩ := H'.blocks m c h1
      exact ⟨k1, k2, SVal.sc_mono (by simp) _ k3⟩
    · refine ⟨fun q hq hK => ?_, ?_, SVal.sc_mono (by simp) _ k4⟩
      · have hq' : ι'.foot h.length q := hq
        rw [hfoot] at hq'
        obtain rfl : q = ι.blk n := hq'
        exact k1 hK
      · show c.Ok ρ K ι' h.length w
        unfold Blk.Ok
        rw [ha]
        exact ⟨by rw [hfoot, hblkn], cs, by rw [hblkn]; exact k2, by rw [hcapn]; exact k3.ext e k4⟩
  · intro m1 m2 c1 c2 hc1 hc2 q hq hq'
    rcases key m1 c1 hc1 with ⟨hm1, h1⟩ | ⟨rfl, rfl⟩ <;> rcases key m2 c2 hc2 with ⟨hm2, h2⟩ | ⟨rfl, rfl⟩
    · exact H'.inj m1 m2 c1 c2 h1 h2 q hq hq'
    · have hq2 : ι'.foot h.length q := hq'
      rw [hfoot] at hq2
      exact (hm1 (H'.inj m1 n c1 c2 h1 hb q hq (by rw [hfn]; exact hq2))).elim
    · have hq2 : ι'.foot h.length q := hq
      rw [hfoot] at hq2
      exact (hm2 (H'.inj m2 n c2 c1 h2 hb q hq' (by rw [hfn]; exact hq2))).elim
    · rfl
theorem concL_setCells' : ∀ {vs cs cs' : SVal} {i : Nat}, setCells cs i vs = some cs' → i ≤ cs.len →
    cs'.concL ρ ι = (cs.concL ρ ι).take i ++ vs.concL ρ ι ++ (cs.concL ρ ι).drop (i + vs.len) := by
  intro vs
  induction vs with
  | cons v r _ ih =>
    intro cs cs' i h hi
    simp only [setCells] at h
    split at h
    · rename_i u hu
      have hi' : i < cs.len := by
        have := SVal.concL_nth ρ ι cs i
        rw [hu] at this
        have := (List.getElem?_eq_some_iff.1 this).1
        rwa [SVal.concL_length] at this
      have hl : (cs.setAt i v).len = cs.len := by
        have := congrArg List.length (SVal.concL_setAt ρ ι cs i v)
        simpa [SVal.concL_length] using this
      rw [ih h (by omega), SVal.concL_setAt]
      have hlen := SVal.concL_length ρ ι cs
      generalize cs.concL ρ ι = l at *
      simp only [SVal.concL, SVal.len]
      have h1 : (l.set i (v.conc ρ ι)).take (i + 1) = l.take i ++ [v.conc ρ ι] := by
        rw [List.take_add_one, List.take_set_of_le (by omega)]
        simp [List.getElem?_set_self (show i < l.length by omega)]
      have h2 : (l.set i (v.conc ρ ι)).drop (i + 1 + r.len) = l.drop (i + (r.len + 1)) := by
        rw [List.drop_set_of_lt (by omega)]
        congr 1; omega
      rw [h1, h2]
      simp
    · cases h
  | _ =>
    intro cs cs' i h hi
    simp only [setCells, Option.some.injEq] at h
    subst h
    simp [SVal.concL, SVal.len]
theorem one_conc {v : SVal} (h : v.one = true) : (v.conc ρ ι).oneCell' = true := by
  cases v with
  | abs n => exact (ι.val n).one
  | _ => simp_all [SVal.one, SVal.conc, Value.oneCell', rowPtr]
theorem allOne_conc : ∀ {l : SVal}, l.allOne = true → ∀ u ∈ l.concL ρ ι, u.oneCell' = true := by
  intro l
  induction l with
  | cons a r _ ih =>
    intro h u hu
    simp only [SVal.allOne, Bool.and_eq_true] at h
    simp only [SVal.concL, List.mem_cons] at hu
    rcases hu with rfl | hu
    · exact one_conc h.1
    · exact ih h.2 u hu
  | _ => intro h u hu; simp [SVal.concL] at hu
def HeapStep (ρ : Env) (G : Globs) (K : Nat → Prop) (w0 : World) (P : Program) (ι : Nm) (h : Heap) (w : World) (s : Sem Next) (v : SVal) (h' : Heap) : Prop :=
  ∃ (ι' : Nm) (w' : World) (x : Next), s.run P w = .ok x w' ∧ (x = .value (v.conc ρ ι') ∨ (x = .skip ∧ v = undefS)) ∧ Nm.Ext h.length ι ι' ∧ h.length ≤ h'.length ∧ HR ρ G K w0 ι' h' w' ∧ v.sc h'.length = true
theorem sliceCells_spec {z : Nat} {s l : SVal} (H : HR ρ G K w0 ι h w) (hs : sliceCells h z s = some l) :
    l.len = s.sliceLen * z ∧ l.sc h.length = true ∧ (∀ b off n c, s = .slice b off n c → ∀ j v, (l.concL ρ ι)[j]? = some v → w.cell? ((⟨ι.blk b, off, none⟩ : Addr).add j) = some v) := by
  unfold sliceCells at hs
  split at hs
  · rename_i b off n c
    split at hs
    · rename_i blk hb
      split at hs
      · rename_i hle
        have hle := Nat.le_of_ble_eq_true hle
        simp only [Option.some.injEq] at hs; subst hs
        refine ⟨?_, SVal.sc_takeN _ _ (SVal.sc_dropN _ _ (H.blocks _ _ hb).2.2), ?_⟩
        · have := SVal.concL_length ρ ι ((blk.cells.dropN off).takeN (n * z))
          rw [SVal.concL_takeN, SVal.concL_dropN] at this
          simp [SVal.concL_length] at this
          simp only [SVal.sliceLen]; omega
        · rintro b' off' n' c' ⟨⟩ j v hv
          rw [addr_add]
          refine H.cellsAt hb _ _ ?_
          rw [SVal.concL_takeN, SVal.concL_dropN, List.getElem?_take] at hv
          split at hv
          · rw [List.getElem?_drop] at hv; exact hv
          · cases hv
      · cases hs
    · cases hs
  · simp at hs; subst hs
    exact ⟨by simp [SVal.len, SVal.sliceLen], rfl, by rintro _ _ _ _ ⟨⟩⟩
  · cases hs
theorem HR.drew1 (H : HR ρ G K w0 ι h w) : HR ρ G K w0 ι h w.drew := H.drew _
theorem le_grownCap (w : World) (need old : Nat) (e : TypeId) : need ≤ grownCap w need old e := by
  simp only [grownCap, Question.cut]; omega
theorem run_appendT (H : HR ρ G K w0 ι h w) {t : TypeId} {s x v : SVal} {h' : Heap} (ty : TypeId) (ha : appendT P h t s x = some (v, h')) :
    ∃ (ι' : Nm) (w' : World), (Builtin.append_ #[t, t] ty #[s.conc ρ ι, x.conc ρ ι]).run P w = .ok (v.conc ρ ι') w' ∧ Nm.Ext h.length ι ι' ∧ h.length ≤ h'.length ∧ HR ρ G K w0 ι' h' w' ∧ v.sc h'.length = true := by
  unfold appendT at ha
  split at ha
  · rename_i e hu
    split at ha
    · rename_i i hi
      split at ha
      · rename_i zv hzv
        split at ha
        · rename_i old new hold hnew
          split at ha
          · rename_i bx offx m cx'
            split at ha
            · cases ha
            · rename_i hcond
              simp only [Bool.and_eq_true] at hcond
              obtain ⟨⟨⟨⟨⟨hm, h48⟩, h63⟩, hzs⟩, hsz⟩, hone⟩ := hcond
              have hm : 0 < m := Nat.lt_of_succ_le (Nat.le_of_ble_eq_true hm)
              have h48 := Nat.le_of_ble_eq_true h48
              have h63 := Nat.le_of_ble_eq_true h63
              have hzs := Nat.eq_of_beq_eq_true hzs
              have hsz : 0 < i.size := Nat.lt_of_succ_le (Nat.le_of_ble_eq_true hsz)
              obtain ⟨o1, o2, o3⟩ := sliceCells_spec H hold
              obtain ⟨n1, n2, n3⟩ := sliceCells_spec H hnew
              have n3' := n3 bx offx m cx' rfl
              simp only [SVal.sliceLen] at n1
              have hln : (new.concL ρ ι).length = m * i.size := by rw [SVal.concL_length]; exact n1
              have hsc : (old.app new).sc h.length = true := SVal.sc_app _ _ o2 n2
              have grown : ∀ (cap' : Nat) (need : Nat), need = s.sliceLen + m → need ≤ cap' →
                  HR ρ G K w0 (ι.put h.length w.heap.size cap') (h ++ [some { cells := old.app new, elem := e, spare := some i.size }])
                    (w.drew.alloc (.cells ((old.concL ρ ι).toArray ++ (new.concL ρ ι).toArray ++ Builtin.zeroCells zv.cells (cap' - need)) e)) := by
                intro cap' need hneed hcap
                refine HR.alloc (b := { cells := old.app new, elem := e, spare := some i.size }) H.drew1 _ cap' hsc ?_
                refine ⟨⟨(Builtin.zeroCells zv.cells (cap' - need)).toList, by simp [SVal.concL_app]⟩, ?_⟩
                simp only [Array.size_append, List.size_toArray, size_zeroCells, SVal.concL_length, o1, n1, hzs]
                rw [← Nat.add_mul, ← hneed, ← Nat.add_mul]
                congr 1; omega
              cases s with
              | nilslice =>
                simp only [Option.some.injEq, Prod.mk.injEq] at ha
                obtain ⟨rfl, rfl⟩ := ha
                simp only [SVal.sliceLen, Nat.zero_mul, Nat.zero_add] at *
                have hold0 : old.concL ρ ι = [] := by
                  have := SVal.concL_length ρ ι old
                  rw [o1] at this
                  exact List.length_eq_zero_iff.1 this
                have hr := run_append_nil (P := P) w t ty e i zv hu hi hzv ⟨ι.blk bx, offx, none⟩ m (cx'.ev ι) (new.concL ρ ι) hln n3' hm (by omega) (by
                  have : m * i.bytes ≤ 2 * m * i.bytes := Nat.mul_le_mul_right _ (by omega)
                  omega)
                have hg := grown (grownCap w m 0 e) m rfl (le_grownCap w m 0 e)
                rw [hold0] at hg
                simp only [Array.empty_append] at hg
                refine ⟨_, _, ?_, Nm.ext_put ι _ _ _, by simp, hg, by simp [SVal.sc]⟩
                simp only [SVal.conc]
                rw [hr]
                simp [Cap.ev, Nm.put]
              | slice bs offs n cap =>
               cases cap with
               | known c =>
                simp only at ha
                split at ha
                · rename_i hlt
                  have hlt : c < n + m := Nat.lt_of_succ_le (Nat.le_of_ble_eq_true hlt)
                  simp only [Option.some.injEq, Prod.mk.injEq] at ha
                  obtain ⟨rfl, rfl⟩ := ha
                  simp only [SVal.sliceLen] at *
                  have hlo : (old.concL ρ ι).length = n * i.size := by rw [SVal.concL_length]; exact o1
                  have hcap := nextslicecap_le hlt
                  have hr := run_append_grow (P := P) w t ty e i zv hu hi hzv ⟨ι.blk bs, offs, none⟩ n c (old.concL ρ ι) hlo (o3 _ _ _ _ rfl) ⟨ι.blk bx, offx, none⟩ m (cx'.ev ι) (new.concL ρ ι) hln n3' hlt (by omega) (by
                    have : Builtin.nextslicecap (n + m) c * i.bytes ≤ 2 * (n + m) * i.bytes := Nat.mul_le_mul_right _ hcap
                    omega)
                  have hg := grown (grownCap w (n + m) c e) (n + m) rfl (le_grownCap w (n + m) c e)
                  refine ⟨_, _, ?_, Nm.ext_put ι _ _ _, by simp, hg, by simp [SVal.sc]⟩
                  simp only [SVal.conc]
                  rw [show Cap.ev ι (Cap.known c) = c from rfl, hr]
                  simp [Nm.put, Cap.ev]
                · cases ha
               | of b' =>
                cases offs with
                | succ q => simp at ha
                | zero =>
                simp only at ha
                split at ha
                · rename_i ob hbb hob
                  have hbb := Nat.eq_of_beq_eq_true hbb
                  subst hbb
                  split at ha
                  · rename_i z' hsp
                    split at ha
                    · rename_i hcond2
                      simp only [Bool.and_eq_true] at hcond2
                      obtain ⟨⟨⟨hz', hoblen⟩, hobe⟩, hreal⟩ := hcond2
                      have hreal := isReal_none hreal
                      have hz' := Nat.eq_of_beq_eq_true hz'
                      have hoblen := Nat.eq_of_beq_eq_true hoblen
                      have hobe := Nat.eq_of_beq_eq_true hobe
                      simp only [Option.some.injEq, Prod.mk.injEq] at ha
                      obtain ⟨rfl, rfl⟩ := ha
                      simp only [SVal.sliceLen] at *
                      have hbs : bs < h.length := (List.getElem?_eq_some_iff.1 hob).1
                      have hlo : (old.concL ρ ι).length = n * i.size := by rw [SVal.concL_length]; exact o1
                      have hle2 : h.length ≤ (h.set bs none ++ [some ({ cells := old.app new, elem := e, spare := some i.size } : Blk)]).length := by simp
                      by_cases hroom : n + m ≤ ι.cap bs
                      · obtain ⟨k1, _, ⟨cur, k2, k3⟩, k4⟩ := H.real hob hreal
                        unfold Blk.Fits at k3
                        rw [hsp] at k3
                        simp only at k3
                        obtain ⟨⟨rest, hrest⟩, hsize⟩ := k3
                        rw [← hz'] at hsize
                        rw [hobe] at k2
                        have hfit : n * i.size + (new.concL ρ ι).length ≤ cur.size := by
                          rw [hln, hsize, ← Nat.add_mul]
                          exact Nat.mul_le_mul_right _ hroom
                        have hr := run_append_room (P := P) w t ty e i hu hi (ι.blk bs) n (ι.cap bs) cur k2 ⟨ι.blk bx, offx, none⟩ m (cx'.ev ι) (new.concL ρ ι) hln n3' (allOne_conc hone) hroom hfit
                        have hold' : old.concL ρ ι = ob.cells.concL ρ ι := by
                          simp only [sliceCells, hob] at hold
                          split at hold
                          · simp only [Option.some.injEq] at hold
                            rw [← hold, SVal.concL_takeN, SVal.concL_dropN, ← hoblen]
                            rw [List.drop_zero, List.take_of_length_le (by rw [SVal.concL_length]; exact Nat.le_refl _)]
                          · cases hold
                        have htake : cur.toList.take (n * i.size) = old.concL ρ ι := by
                          rw [hrest, hold', List.take_append_of_le_length (by rw [SVal.concL_length]; omega), List.take_of_length_le (by rw [SVal.concL_length]; omega)]
                        rw [htake] at hr
                        have H2 := H.row hob hreal (b' := { cells := old.app new, elem := e, spare := some i.size }) rfl hobe.symm
                          ((old.concL ρ ι ++ new.concL ρ ι ++ cur.toList.drop (n * i.size + (new.concL ρ ι).length)).toArray)
                          (by
                            refine ⟨⟨cur.toList.drop (n * i.size + (new.concL ρ ι).length), by simp [SVal.concL_app]⟩, ?_⟩
                            rw [← hsize]
                            simp only [List.size_toArray, List.length_append, List.length_drop, Array.length_toList, hlo]
                            omega) hsc
                        have hob2 : (h.set bs (some ({ cells := old.app new, elem := e, spare := some i.size } : Blk)))[bs]? = some (some { cells := old.app new, elem := e, spare := some i.size }) := by simp [hbs]
                        have H3 := H2.move hob2 rfl
                        simp only [List.length_set, List.set_set] at H3
                        refine ⟨_, _, ?_, Nm.ext_put ι _ _ _, hle2, H3, by simp [SVal.sc]⟩
                        simp only [SVal.conc]
                        rw [show Cap.ev ι (Cap.of bs) = ι.cap bs from rfl, hr]
                        simp [Nm.put, Cap.ev]
                      · have hlt : ι.cap bs < n + m := by omega
                        have hcap := nextslicecap_le hlt
                        have hr := run_append_grow (P := P) w t ty e i zv hu hi hzv ⟨ι.blk bs, 0, none⟩ n (ι.cap bs) (old.concL ρ ι) hlo (o3 _ _ _ _ rfl) ⟨ι.blk bx, offx, none⟩ m (cx'.ev ι) (new.concL ρ ι) hln n3' hlt (by omega) (by
                          have : Builtin.nextslicecap (n + m) (ι.cap bs) * i.bytes ≤ 2 * (n + m) * i.bytes := Nat.mul_le_mul_right _ hcap
                          omega)
                        have hg := grown (grownCap w (n + m) (ι.cap bs) e) (n + m) rfl (le_grownCap w (n + m) (ι.cap bs) e)
                        have hg2 := hg.forget (h' := h.set bs none ++ [some { cells := old.app new, elem := e, spare := some i.size }]) (by
                          intro k b hk
                          rcases getElem?_append_new hk with h1 | ⟨h1, h2⟩
                          · by_cases hkb : k = bs
                            · subst hkb; rw [List.getElem?_set_self hbs] at h1; simp at h1
                            · rw [List.getElem?_set_ne (Ne.symm hkb)] at h1
                              exact ⟨by rw [List.getElem?_append_left (List.getElem?_eq_some_iff.1 h1).1]; exact h1, by
                                have := (H.blocks k b h1).2.2
                                exact SVal.sc_mono (by simp) _ this⟩
                          · subst h2
                            simp only [List.length_set] at h1
                            subst h1
                            exact ⟨by simp, SVal.sc_mono (by simp) _ hsc⟩)
                        refine ⟨_, _, ?_, Nm.ext_put ι _ _ _, hle2, hg2, by simp [SVal.sc]⟩
                        simp only [SVal.conc]
                        rw [show Cap.ev ι (Cap.of bs) = ι.cap bs from rfl, hr]
                        simp [Nm.put, Cap.ev]
                    · cases ha
                  · cases ha
                · cases ha
              | _ => simp at ha
          · cases ha
        · cases ha
      · cases ha
    · cases ha
  · cases ha
theorem repeatS_concL (z : SVal) : ∀ n : Nat, (repeatS z n).concL ρ ι = (List.replicate n (z.concL ρ ι)).flatten
  | 0 => by simp [repeatS, SVal.concL]
  | n + 1 => by simp [repeatS, SVal.concL_app, repeatS_concL z n, List.replicate_succ]
theorem repeatS_sc {z : SVal} {k : Nat} (hz : z.sc k = true) : ∀ n : Nat, (repeatS z n).sc k = true
  | 0 => rfl
  | n + 1 => SVal.sc_app _ _ hz (repeatS_sc hz n)
theorem flatten_replicate_getElem? (l : List Value) : ∀ (n i : Nat), i < n * l.length → ((List.replicate n l).flatten)[i]? = l[i % l.length]?
  | 0, i, h => by simp at h
  | n + 1, i, h => by
    rw [List.replicate_succ, List.flatten_cons]
    by_cases hi : i < l.length
    · rw [List.getElem?_append_left hi, Nat.mod_eq_of_lt hi]
    · rw [List.getElem?_append_right (by omega), flatten_replicate_getElem? l n (i - l.length) (by rw [Nat.succ_mul] at h; omega)]
      congr 1
      rw [Nat.mod_eq_sub_mod (by omega : i ≥ l.length)]
theorem run_heapOp {cx : Cx} {slots : Slots} {a : Act} {o : Oper} {v : SVal} {h' : Heap} (hp : heapOp cx slots h o = some (v, h')) (hs : SlotsOk ρ ι h.length slots a) (H : HR ρ cx.globs K w0 ι h w) :
    HeapStep ρ cx.globs K w0 cx.P ι h w (execOp a.eval o) v h' := by
  unfold heapOp at hp
  unfold HeapStep execOp
  split at hp
  · -- alloc
    rename_i e ho
    split at hp
    · rename_i z hz
      simp only [Option.some.injEq, Prod.mk.injEq] at hp
      obtain ⟨rfl, rfl⟩ := hp
      obtain ⟨z1, z2, z3⟩ := zeroT_conc (ρ := ρ) (ι := ι) w hz
      have hzc := cells_conc' (ρ := ρ) (ι := ι) z z3
      have hg := HR.alloc (b := { cells := z.cellsOf, elem := e, spare := none }) H (z.cellsOf.concL ρ ι).toArray 0 (SVal.sc_mono (Nat.zero_le _) _ (cellsOf_sc z2)) (by simp [Blk.Fits])
      refine ⟨_, _, _, ?_, .inl rfl, Nm.ext_put ι _ _ _, by simp, hg, by simp [SVal.sc]⟩
      simp only [ho, Instr.alloc, Sem.run_bind, z1, Result.andThen_ok, newVar, newRow, hzc]
      simp [SVal.conc, Nm.put]
    · cases hp
  · rename_i e x ho
    split at hp
    · rename_i u hu
      split at hp
      · rename_i hpl
        simp only [Option.some.injEq, Prod.mk.injEq] at hp
        obtain ⟨rfl, rfl⟩ := hp
        obtain ⟨h1, h2⟩ := evO_conc hs hu
        have hzc := cells_conc' (ρ := ρ) (ι := ι) u hpl
        have hg := HR.alloc (b := { cells := u.cellsOf, elem := e, spare := none }) H (u.cellsOf.concL ρ ι).toArray 0 (cellsOf_sc h2) (by simp [Blk.Fits])
        refine ⟨_, _, _, ?_, .inl rfl, Nm.ext_put ι _ _ _, by simp, hg, by simp [SVal.sc]⟩
        simp only [ho, Instr.box, Sem.run_bind, newVar, newRow, h1, hzc]
        simp [SVal.conc, Nm.put]
      · cases hp
    · cases hp
  · rename_i t n parts ho
    split at hp
    · rename_i e ps hu hps
      split at hp
      · rename_i z zv hz hzv
        split at hp
        · rename_i hcond
          simp only [Bool.and_eq_true] at hcond
          obtain ⟨⟨h24, hzl⟩, hz0⟩ := hcond
          have h24 := Nat.le_of_ble_eq_true h24
          have hzl := Nat.eq_of_beq_eq_true hzl
          have hz0 : 0 < z := Nat.lt_of_succ_le (Nat.le_of_ble_eq_true hz0)
          split at hp
          · rename_i cells hf
            simp only [Option.some.injEq, Prod.mk.injEq] at hp
            obtain ⟨rfl, rfl⟩ := hp
            obtain ⟨h1, h2⟩ := evParts_conc hs hps
            obtain ⟨z1, z2, z3⟩ := zeroT_conc (ρ := ρ) (ι := ι) w hzv
            have hzc := cells_conc' (ρ := ρ) (ι := ι) zv z3
            obtain ⟨f1, f2⟩ := fillT_conc (ρ := ρ) (ι := ι) hf
            have hcs := f2 h.length (repeatS_sc (SVal.sc_mono (Nat.zero_le _) _ (cellsOf_sc z2)) n) h2
            have hg := HR.alloc (b := { cells := cells, elem := e, spare := none }) H (cells.concL ρ ι).toArray 0 hcs (by simp [Blk.Fits])
            refine ⟨_, _, _, ?_, .inl rfl, Nm.ext_put ι _ _ _, by simp, hg, by simp [SVal.sc]⟩
            have hpe : (parts.map fun x => match x with | (i, x) => (i, a.eval x)).toList = ps.map fun p => (p.1, p.2.conc ρ ι) := by
              rw [← h1]; simp
            have hll : (zv.cellsOf.concL ρ ι).length = z := by rw [SVal.concL_length]; exact hzl
            have hinit : ((Array.range (n * z)).map fun i => (zv.cellsOf.concL ρ ι).toArray[i % (zv.cellsOf.concL ρ ι).toArray.size]!) = ((repeatS zv.cellsOf n).concL ρ ι).toArray := by
              apply Array.ext'
              apply List.ext_getElem?
              intro k
              rw [repeatS_concL]
              by_cases hk : k < n * z
              · rw [flatten_replicate_getElem? _ n k (by rw [hll]; exact hk), hll]
                have hmod : k % z < (zv.cellsOf.concL ρ ι).length := by rw [hll]; exact Nat.mod_lt _ hz0
                simp [hk, hll]
                rw [List.getElem?_eq_getElem hmod]
                simp
              · rw [List.getElem?_eq_none (by simp; omega), List.getElem?_eq_none (by simp [hll]; omega)]
            simp only [ho, Instr.buildSlice, Sem.run_bind, run_underlying hu, Result.andThen_ok, run_sizeT w hz]
            rw [if_neg (by omega)]
            by_cases hnz : n * z = 0
            · have hn0 : n = 0 := by
                rcases Nat.mul_eq_zero.1 hnz with h | h
                · exact h
                · omega
              subst hn0
              simp only [repeatS, SVal.concL] at f1
              have hr0 : Array.range 0 = #[] := rfl
              simp only [Nat.zero_mul, if_true, Sem.run_bind, Sem.run_pure, Result.andThen_ok, hpe, hr0, Array.map_empty, f1]
              simp [SVal.conc, Nm.put, newRow, Cap.ev]
            · simp only [Sem.run_pure, Result.andThen_ok, Sem.run_bind, hnz, if_false, z1, hzc, hinit, hpe, f1]
              simp [SVal.conc, Nm.put, newRow, Cap.ev]
          · cases hp
        · cases hp
      · cases hp
    · cases hp
  · rename_i t x y ho
    split at hp
    · rename_i b off u hx hy
      split at hp
      · rename_i blk z hb hz
        split at hp
        · rename_i hcond
          simp only [Bool.and_eq_true] at hcond
          obtain ⟨⟨⟨hl, hone⟩, hpl⟩, hreal⟩ := hcond
          have hreal := isReal_none hreal
          have hl := Nat.eq_of_beq_eq_true hl
          split at hp
          · rename_i cells hset
            simp only [Option.some.injEq, Prod.mk.injEq] at hp
            obtain ⟨rfl, rfl⟩ := hp
            obtain ⟨h1, _⟩ := evO_conc hs hx
            obtain ⟨h3, h4⟩ := evO_conc hs hy
            simp only [SVal.conc] at h1
            have hzc := cells_conc' (ρ := ρ) (ι := ι) u hpl
            obtain ⟨k1, _, ⟨cur, k2, k3⟩, k4⟩ := H.real hb hreal
            obtain ⟨_, c2, c3, c4⟩ := concL_setCells (ρ := ρ) (ι := ι) hset
            obtain ⟨rest, hrest⟩ := k3.starts
            have hcl : blk.cells.len ≤ cur.size := by
              have := congrArg List.length hrest
              simp [SVal.concL_length] at this
              omega
            by_cases hz0 : z = 0
            · subst hz0
              have hnil : u.cellsOf.concL ρ ι = [] := List.length_eq_zero_iff.1 (by rw [SVal.concL_length]; exact hl)
              have hcells : cells = blk.cells := by
                have hu0 : ∀ q q', u.cellsOf ≠ .cons q q' := by intro q q' e; rw [e] at hl; simp [SVal.len] at hl
                cases huc : u.cellsOf <;> first | (exact (hu0 _ _ huc).elim) | (rw [huc] at hset; simp only [setCells, Option.some.injEq] at hset; exact hset.symm)
              subst hcells
              refine ⟨ι, w, .skip, ?_, .inr ⟨rfl, rfl⟩, Nm.Ext.refl _ _, by simp, ?_, by simp [undefS, SVal.sc]⟩
              · simp only [ho, h1, h3, Instr.storeAt, Instr.sureAddr, Sem.run_bind, Sem.run_pure, Result.andThen_ok, storeVar, run_sizeT w hz, hzc, hnil]
                simp [storeCells]
              · have : h.set b (some { blk with cells := blk.cells }) = h := by
                  apply List.ext_getElem?
                  intro k
                  by_cases hk : b = k
                  · subst hk
                    rw [List.getElem?_set_self (List.getElem?_eq_some_iff.1 hb).1, hb]
                  · rw [List.getElem?_set_ne hk]
                rw [this]; exact H
            · have hfit : off + z ≤ blk.cells.len := by rcases c4 with c4 | c4 <;> omega
              have hcl' := concL_setCells' (ρ := ρ) (ι := ι) hset (by omega)
              have hst := run_storeCells_at cx.P (ι.blk b) off blk.elem (u.cellsOf.concL ρ ι) 0 cur w k2 (by rw [SVal.concL_length]; omega) (allOne_conc hone)
              simp only [Nat.add_zero] at hst
              have H2 := H.row hb hreal (b' := { blk with cells := cells }) hreal rfl
                ((cur.toList.take off ++ u.cellsOf.concL ρ ι ++ cur.toList.drop (off + (u.cellsOf.concL ρ ι).length)).toArray) (by
                  have e1 : cur.toList.take off = (blk.cells.concL ρ ι).take off := by rw [hrest, List.take_append_of_le_length (by rw [SVal.concL_length]; omega)]
                  have e2 : cur.toList.drop (off + (u.cellsOf.concL ρ ι).length) = (blk.cells.concL ρ ι).drop (off + u.cellsOf.len) ++ rest := by
                    rw [hrest, SVal.concL_length, List.drop_append_of_le_length (by rw [SVal.concL_length]; omega)]
                  have e3 : cur.toList.take off ++ u.cellsOf.concL ρ ι ++ cur.toList.drop (off + (u.cellsOf.concL ρ ι).length) = cells.concL ρ ι ++ rest := by
                    rw [e1, e2, hcl']; simp
                  rw [e3]
                  unfold Blk.Fits at k3 ⊢
                  simp only
                  cases hsp : blk.spare with
                  | none =>
                    rw [hsp] at k3
                    simp only at k3 ⊢
                    rw [hrest] at k3
                    have : rest = [] := by
                      have := congrArg List.length k3
                      simp at this
                      exact this
                    simp [this]
                  | some q =>
                    rw [hsp] at k3
                    simp only at k3 ⊢
                    refine ⟨⟨rest, by simp⟩, ?_⟩
                    rw [← k3.2]
                    have := congrArg List.length hrest
                    simp [SVal.concL_length] at this
                    simp [SVal.concL_length, c2]
                    omega) (c3 _ k4 (cellsOf_sc h4))
              refine ⟨ι, _, .skip, ?_, .inr ⟨rfl, rfl⟩, Nm.Ext.refl _ _, by simp, H2, by simp [undefS, SVal.sc]⟩
              simp only [ho, h1, h3, Instr.storeAt, Instr.sureAddr, Sem.run_bind, Sem.run_pure, Result.andThen_ok, storeVar, run_sizeT w hz, hzc]
              rw [if_neg (by simp [SVal.concL_length, hl])]
              rw [hst]
              rfl
          · cases hp
        · cases hp
      · cases hp
    · cases hp
  · rename_i c ho
    split at hp
    · rename_i hcal
      split at hp
      · rename_i s x t u hargs htys
        split at hp
        · rename_i sv xv hsv hxv htu
          have htu := Nat.eq_of_beq_eq_true htu
          subst htu
          obtain ⟨h1, _⟩ := evO_conc hs hsv
          obtain ⟨h3, _⟩ := evO_conc hs hxv
          obtain ⟨ι', w', r1, r2, r3, r4, r5⟩ := run_appendT (ρ := ρ) (P := cx.P) H o.type hp
          have e1 : c.args = #[s, x] := by apply Array.ext'; simpa using hargs
          have e2 : c.argTypes = #[t, t] := by apply Array.ext'; simpa using htys
          refine ⟨ι', w', _, ?_, .inl rfl, r2, r3, r4, r5⟩
          simp only [ho, resolve, hcal, e1, e2]
          simp [invoke, builtin, h1, h3, r1]
        · cases hp
      · cases hp
    · cases hp
  · cases hp
/-! ### A store at a place that a number tells -/
theorem HR.sim {h' : Heap} (H : HR ρ G K w0 ι h w) (hl : ∀ (n : Nat) (b' : Blk), h'[n]? = some (some b') → ∃ b, h[n]? = some (some b) ∧ (b.Ok ρ K ι n w → b'.Ok ρ K ι n w) ∧ b'.cells.sc h'.length = true) :
    HR ρ G K w0 ι h' w := by
  refine ⟨H.os, H.tape, H.output, H.size, H.kept, H.old, H.base, fun n b' hb' => ?_, fun n m b c hb hc he => ?_, H.globs⟩
  · obtain ⟨b, h1, h2, h5⟩ := hl n b' hb'
    obtain ⟨k1, k2, _⟩ := H.blocks n b h1
    exact ⟨k1, h2 k2, h5⟩
  · obtain ⟨b1, h1, _⟩ := hl n b hb
    obtain ⟨b2, h2, _⟩ := hl m c hc
    exact H.inj n m b1 b2 h1 h2 he
theorem one_plain {v : SVal} (h : v.one = true) : v.plain = true ∧ v.cellsOf = .cons v .nil := by
  cases v <;> simp_all [SVal.one, SVal.plain, SVal.cellsOf]
theorem run_store1 {P : Program} {t : TypeId} {b off : Nat} {u x : SVal} {blk : Blk} (H : HR ρ G K w0 ι h w) (hb : h[b]? = some (some blk)) (hz : sizeT P t = some 1) (hone : u.one = true)
    (hx : blk.cells.nth off = some x) (h4 : u.sc h.length = true) :
    ∃ w', (Instr.storeAt t (.pointer (some ⟨ι.blk b, off, none⟩)) (u.conc ρ ι)).run P w = .ok () w' ∧ HR ρ G K w0 ι (h.set b (some { blk with cells := blk.cells.setAt off u })) w' := by
  have hreal := H.real_of hb (ne_nil_of_nth hx)
  obtain ⟨hpl, hcs⟩ := one_plain hone
  have hset : setCells blk.cells off u.cellsOf = some (blk.cells.setAt off u) := by rw [hcs]; simp [setCells, hx]
  have hl : u.cellsOf.len = 1 := by rw [hcs]; rfl
  have hao : u.cellsOf.allOne = true := by rw [hcs]; simp [SVal.allOne, hone]
  have hzc := cells_conc' (ρ := ρ) (ι := ι) u hpl
  obtain ⟨k1, _, ⟨cur, k2, k3⟩, k4⟩ := H.real hb hreal
  obtain ⟨_, c2, c3, c4⟩ := concL_setCells (ρ := ρ) (ι := ι) hset
  obtain ⟨rest, hrest⟩ := k3.starts
  have hcl : blk.cells.len ≤ cur.size := by
    have := congrArg List.length hrest
    simp [SVal.concL_length] at this
    omega
  have hfit : off + 1 ≤ blk.cells.len := by rcases c4 with c4 | c4 <;> omega
  have hcl' := concL_setCells' (ρ := ρ) (ι := ι) hset (by omega)
  have hst := run_storeCells_at P (ι.blk b) off blk.elem (u.cellsOf.concL ρ ι) 0 cur w k2 (by rw [SVal.concL_length]; omega) (allOne_conc hao)
  simp only [Nat.add_zero] at hst
  have H2 := H.row hb hreal (b' := { blk with cells := blk.cells.setAt off u }) hreal rfl
    ((cur.toList.take off ++ u.cellsOf.concL ρ ι ++ cur.toList.drop (off + (u.cellsOf.concL ρ ι).length)).toArray) (by
      have e1 : cur.toList.take off = (blk.cells.concL ρ ι).take off := by rw [hrest, List.take_append_of_le_length (by rw [SVal.concL_length]; omega)]
      have e2 : cur.toList.drop (off + (u.cellsOf.concL ρ ι).length) = (blk.cells.concL ρ ι).drop (off + u.cellsOf.len) ++ rest := by
        rw [hrest, SVal.concL_length, List.drop_append_of_le_length (by rw [SVal.concL_length]; omega)]
      have e3 : cur.toList.take off ++ u.cellsOf.concL ρ ι ++ cur.toList.drop (off + (u.cellsOf.concL ρ ι).length) = (blk.cells.setAt off u).concL ρ ι ++ rest := by
        rw [e1, e2, hcl']; simp
      rw [e3]
      unfold Blk.Fits at k3 ⊢
      simp only
      cases hsp : blk.spare with
      | none =>
        rw [hsp] at k3
        simp only at k3 ⊢
        rw [hrest] at k3
        have : rest = [] := by
          have := congrArg List.length k3
          simp at this
          exact this
        simp [this]
      | some q =>
        rw [hsp] at k3
        simp only at k3 ⊢
        refine ⟨⟨rest, by simp⟩, ?_⟩
        rw [← k3.2]
        have := congrArg List.length hrest
        simp [SVal.concL_length] at this
        simp [SVal.concL_length, c2]
        omega) (c3 _ k4 (cellsOf_sc h4))
  refine ⟨_, ?_, H2⟩
  simp only [Instr.storeAt, Instr.sureAddr, Sem.run_bind, Sem.run_pure, Result.andThen_ok, storeVar, run_sizeT w hz, hzc]
  rw [if_neg (by simp [SVal.concL_length, hl])]
  rw [hst]
theorem setI_spec {ti : Tm} {v : SVal} {off z : Nat} (hz : 0 < z) (h0 : 0 ≤ (ti.den ρ).asInt) : ∀ (n j : Nat) (cs cs' : SVal), setI ti v off z n j cs = some cs' →
    (∀ m, v.sc m = true → cs.sc m = true → cs'.sc m = true) ∧
    (cs'.concL ρ ι = if j ≤ (ti.den ρ).asInt.toNat ∧ (ti.den ρ).asInt.toNat < j + n then (cs.concL ρ ι).set (off + (ti.den ρ).asInt.toNat * z) (v.conc ρ ι) else cs.concL ρ ι) ∧
    (∀ k, k < n → ∃ u, cs.nth (off + (j + k) * z) = some u) := by
  intro n
  induction n with
  | zero =>
    intro j cs cs' h
    simp only [setI, Option.some.injEq] at h
    subst h
    exact ⟨fun _ _ h => h, by rw [if_neg (by omega)], fun k hk => by omega⟩
  | succ n ih =>
    intro j cs cs' h
    simp only [setI] at h
    split at h
    · rename_i u hu
      split at h
      · rename_i x hx
        obtain ⟨s1, s2, s3⟩ := ih _ _ _ h
        have hm := fun m => mergeV_conc (ρ := ρ) (ι := ι) (mk2 .eq ti (.num j)) m v u x hx
        have hlt : off + j * z < (cs.concL ρ ι).length := by
          have := SVal.concL_nth ρ ι cs (off + j * z)
          rw [hu] at this
          exact (List.getElem?_eq_some_iff.1 this).1
        have hget : (cs.concL ρ ι)[off + j * z]? = some (u.conc ρ ι) := by
          have := SVal.concL_nth ρ ι cs (off + j * z)
          rw [hu] at this
          exact this
        have hden : ((mk2 .eq ti (.num j)).den ρ).asBool = ((ti.den ρ).asInt == (j : Int)) := by rw [mk2_den]; rfl
        refine ⟨fun m hv hc => s1 m hv (SVal.sc_setAt _ _ _ hc ((hm m).2.2 hv (SVal.sc_nth _ _ _ hc hu))), ?_, ?_⟩
        · rw [s2, SVal.concL_setAt, (hm 0).1, hden]
          by_cases he : (ti.den ρ).asInt.toNat = j
          · have e1 : ((ti.den ρ).asInt == (j : Int)) = true := by rw [beq_iff_eq]; omega
            rw [e1, if_neg (by omega), if_pos (by omega), he]
          · have e1 : ((ti.den ρ).asInt == (j : Int)) = false := by rw [beq_eq_false_iff_ne]; omega
            rw [e1]
            simp only
            have e2 : (cs.concL ρ ι).set (off + j * z) (u.conc ρ ι) = cs.concL ρ ι := by
              apply List.ext_getElem?
              intro k
              by_cases hk : off + j * z = k
              · subst hk; rw [List.getElem?_set_self hlt, hget]
              · rw [List.getElem?_set_ne hk]
            rw [e2]
            by_cases hin : j + 1 ≤ (ti.den ρ).asInt.toNat ∧ (ti.den ρ).asInt.toNat < j + 1 + n
            · rw [if_pos hin, if_pos (by omega)]
            · rw [if_neg hin, if_neg (by omega)]
        · intro k hk
          rcases Nat.eq_zero_or_pos k with rfl | hp
          · exact ⟨u, by simpa using hu⟩
          · obtain ⟨u', hu'⟩ := s3 (k - 1) (by omega)
            have e : j + 1 + (k - 1) = j + k := by omega
            rw [e] at hu'
            have hne : off + j * z ≠ off + (j + k) * z := by
              rw [Nat.add_mul]
              have : 0 < k * z := Nat.mul_pos hp hz
              omega
            have hg : (cs.setAt (off + j * z) x).nth (off + (j + k) * z) ≠ none := by rw [hu']; simp
            have := SVal.concL_nth ρ ι cs (off + (j + k) * z)
            have h2 := SVal.concL_nth ρ ι (cs.setAt (off + j * z) x) (off + (j + k) * z)
            rw [SVal.concL_setAt, List.getElem?_set_ne hne, hu'] at h2
            cases hc : cs.nth (off + (j + k) * z) with
            | some y => exact ⟨y, rfl⟩
            | none => rw [hc] at this; rw [this] at h2; cases h2
      · cases h
    · cases h
theorem run_storeOp {cx : Cx} {slots : Slots} {a : Act} {o : Oper} {h' : Heap} {cs : List Tm} (hp : storeOp cx slots h o = some (h', cs)) (hs : SlotsOk ρ ι h.length slots a) (H : HR ρ cx.globs K w0 ι h w)
    (hc : ∀ c ∈ cs, (c.den ρ).asBool = true) : ∃ w', (execOp a.eval o).run cx.P w = .ok .skip w' ∧ h'.length = h.length ∧ HR ρ cx.globs K w0 ι h' w' := by
  unfold storeOp at hp
  split at hp
  · rename_i t pa px ho
    split at hp
    · rename_i b off ti z v hx hy
      split at hp
      · rename_i blk hb hz
        split at hp
        · rename_i hcond
          simp only [Bool.and_eq_true] at hcond
          obtain ⟨⟨hzp, hone⟩, _⟩ := hcond
          have hzp : 0 < z := Nat.le_of_ble_eq_true hzp
          split at hp
          · rename_i cells hset
            simp only [Option.some.injEq, Prod.mk.injEq] at hp
            obtain ⟨rfl, rfl⟩ := hp
            have h0 := hc _ (List.mem_cons_self ..)
            have h1 := hc _ (List.mem_cons_of_mem _ (List.mem_singleton.2 rfl))
            rw [mk2_den] at h0 h1
            have h0' : (0 : Int) ≤ (ti.den ρ).asInt := of_decide_eq_true h0
            have h1' : (ti.den ρ).asInt < ((alikeN v z blk.cells blk.cells.len off : Nat) : Int) := of_decide_eq_true h1
            obtain ⟨s1, s2, s3⟩ := setI_spec (ρ := ρ) (ι := ι) hzp h0' _ _ _ _ hset
            obtain ⟨u, hu⟩ := s3 (ti.den ρ).asInt.toNat (by omega)
            rw [Nat.zero_add] at hu
            rw [if_pos (by omega)] at s2
            obtain ⟨e1, _⟩ := evO_conc hs hx
            obtain ⟨e3, e4⟩ := evO_conc hs hy
            simp only [SVal.conc] at e1
            obtain ⟨w', r1, r2⟩ := run_store1 (P := cx.P) (t := t) H hb hz hone hu e4
            refine ⟨w', ?_, by simp, ?_⟩
            · simp only [execOp, ho, e1, e3, Sem.run_bind, r1, Result.andThen_ok, Sem.run_pure]
            · have hbl : b < h.length := (List.getElem?_eq_some_iff.1 hb).1
              have hsc := (H.blocks _ _ hb).2.2
              refine HR.sim r2 ?_
              intro n b' hb'
              rcases getElem?_set_cases hbl hb' with ⟨hn, hh⟩ | ⟨rfl, rfl⟩
              · exact ⟨b', by rw [List.getElem?_set_ne (Ne.symm hn)]; exact hh, fun h => h, by simpa using (H.blocks _ _ hh).2.2⟩
              · refine ⟨_, List.getElem?_set_self hbl, fun hk => ?_, by simpa using s1 _ e4 hsc⟩
                have ha := H.real_of hb (ne_nil_of_nth hu)
                unfold Blk.Ok at hk ⊢
                simp only [ha] at hk ⊢
                obtain ⟨k1, cur, k2, k3⟩ := hk
                refine ⟨k1, cur, k2, ?_⟩
                unfold Blk.Fits at k3 ⊢
                simp only [SVal.concL_setAt] at k3 ⊢
                rw [s2]
                exact k3
          · cases hp
        · cases hp
      · cases hp
    · cases hp
  · cases hp
end
end Go.Sx
/- The executor is right: ways that become one; calls; regions in the order of the text; code. -/
namespace Go.Sx
section
variable {ρ : Env} {G : Globs} {K : Nat → Prop} {w0 w : World} {ι : Nm} {h h' : Heap}
/-! ### Heaps of two ways -/
theorem mergeB_spec {c : Tm} {n : Nat} {a b : Option Blk} {x : Blk} {way : Bool} (hc : (c.den ρ).asBool = way) (hm : mergeB c n a b = some (some x)) :
    ∃ a' b', a = some a' ∧ b = some b' ∧ (∀ (K : Nat → Prop) (ι : Nm) (m : Nat) (w : World), (cond way a' b').Ok ρ K ι m w → x.Ok ρ K ι m w) ∧ x.cells.sc n = true := by
  unfold mergeB at hm
  split at hm
  · rename_i a' b'
    split at hm
    · rename_i e
      subst e
      split at hm
      · rename_i hsc
        simp at hm; subst hm
        exact ⟨a', a', rfl, rfl, fun K ι m w h => by cases way <;> exact h, hsc⟩
      · simp at hm
    · split at hm
      · rename_i ha hb
        split at hm
        · rename_i e
          split at hm
          · rename_i l hl
            split at hm
            · rename_i hsc
              simp at hm; subst hm
              refine ⟨a', b', rfl, rfl, fun K ι m w h => ?_, hsc⟩
              have hv := (mergeV_conc (ρ := ρ) (ι := ι) c n _ _ _ hl).2.1
              rw [hc] at hv
              cases way
              · have h : b'.Ok ρ K ι m w := h
                unfold Blk.Ok at h ⊢
                rw [hb] at h
                rw [show ({ a' with cells := l } : Blk).abs = none from ha]
                obtain ⟨h1, cs, h2, h3⟩ := h
                refine ⟨h1, cs, by rw [show ({ a' with cells := l } : Blk).elem = b'.elem from e.1]; exact h2, ?_⟩
                unfold Blk.Fits at *
                simp only
                rw [e.2, hv]
                exact h3
              · have h : a'.Ok ρ K ι m w := h
                unfold Blk.Ok at h ⊢
                rw [ha] at h
                rw [show ({ a' with cells := l } : Blk).abs = none from ha]
                obtain ⟨h1, cs, h2, h3⟩ := h
                refine ⟨h1, cs, h2, ?_⟩
                unfold Blk.Fits at *
                simp only
                rw [hv]
                exact h3
            · simp at hm
          · simp at hm
        · simp at hm
      · rename_i o k s o' k' u ha hb
        split at hm
        · rename_i e
          simp at hm; subst hm
          obtain ⟨rfl, rfl, e3, e4⟩ := e
          refine ⟨a', b', rfl, rfl, fun K ι m w h => ?_, by simp only; rw [e3]; rfl⟩
          have hd := mkIte_den ρ c s u
          rw [hc] at hd
          cases way
          · have h : b'.Ok ρ K ι m w := h
            have hd : (mkIte c s u).den ρ = u.den ρ := hd
            unfold Blk.Ok at h ⊢
            rw [hb] at h
            cases o
            · simp only at h ⊢; rw [hd]; exact ⟨e3, h.2⟩
            · simp only at h ⊢; rw [hd]; exact ⟨e3, h.2⟩
          · have h : a'.Ok ρ K ι m w := h
            have hd : (mkIte c s u).den ρ = s.den ρ := hd
            unfold Blk.Ok at h ⊢
            rw [ha] at h
            cases o
            · simp only at h ⊢; rw [hd]; exact ⟨e3, h.2⟩
            · simp only at h ⊢; rw [hd]; exact ⟨e3, h.2⟩
        · simp at hm
      · simp at hm
  · simp at hm
theorem mergeH_spec {c : Tm} {n : Nat} : ∀ {k : Nat} {h1 h2 hm : Heap}, mergeH c n k h1 h2 = some hm → hm.length = k ∧ ∀ (i : Nat) (x : Blk), hm[i]? = some (some x) → ∃ a b, h1[i]? = some a ∧ h2[i]? = some b ∧ mergeB c n a b = some (some x)
  | 0, h1, h2, hm, e => by simp [mergeH] at e; subst e; simp
  | k + 1, [], h2, hm, e => by simp [mergeH] at e
  | k + 1, a :: h1, [], hm, e => by simp [mergeH] at e
  | k + 1, a :: h1, b :: h2, hm, e => by
    simp only [mergeH] at e
    split at e
    · rename_i x r hx hr
      simp at e; subst e
      obtain ⟨k1, k2⟩ := mergeH_spec hr
      refine ⟨by simp [k1], ?_⟩
      intro i y hy
      cases i with
      | zero => simp at hy; subst hy; exact ⟨a, b, by simp, by simp, hx⟩
      | succ i => simpa using k2 i y (by simpa using hy)
    · cases e
theorem HR.merged {c : Tm} {ha hb hm : Heap} {n : Nat} (hmm : mergeH c n n ha hb = some hm) (way : Bool) (hc : (c.den ρ).asBool = way)
    (H : HR ρ G K w0 ι (cond way ha hb) w) : HR ρ G K w0 ι hm w ∧ hm.length = n := by
  obtain ⟨hlen, hspec⟩ := mergeH_spec hmm
  refine ⟨H.sim fun i x hx => ?_, hlen⟩
  obtain ⟨a, b, h1, h2, h3⟩ := hspec i x hx
  obtain ⟨a', b', rfl, rfl, e5, e6⟩ := mergeB_spec (ρ := ρ) hc h3
  cases way
  · exact ⟨b', h2, e5 K ι i w, by rw [hlen]; exact e6⟩
  · exact ⟨a', h1, e5 K ι i w, by rw [hlen]; exact e6⟩
/-! ### Ways that become one -/
theorem Tree.single_get {α : Type} {t : Tree α} : ∀ {cs : List Tm} {a : α}, t.single = some (cs, a) → ((∀ c ∈ cs, (c.den ρ).asBool = true) → t.get ρ = some a) := by
  induction t with
  | leaf a => intro cs b h _; simp [Tree.single] at h; obtain ⟨_, rfl⟩ := h; rfl
  | assert c t ih =>
    intro cs b h hc
    simp only [Tree.single, Option.map_eq_some_iff] at h
    obtain ⟨⟨ds, a⟩, h1, h2⟩ := h
    simp only [Prod.mk.injEq] at h2
    obtain ⟨rfl, rfl⟩ := h2
    simp only [Tree.get, hc c (by simp)]
    exact ih h1 (fun d hd => hc d (by simp [hd]))
  | ite c t e _ _ => intro cs b h; simp [Tree.single] at h
  | fail w => intro cs b h; simp [Tree.single] at h
theorem impT_den (c t : Tm) : ((impT c t).den ρ).asBool = (!(c.den ρ).asBool || (t.den ρ).asBool) := by
  simp [impT, mkOr_den, mkNot_den]
theorem squash_get {α : Type} {join : Tm → α → α → Option α} (R : α → α → Prop) (hr : ∀ a, R a a) (ht : ∀ a b c, R a b → R b c → R a c)
    (hj : ∀ c a b x, join c a b = some x → ((c.den ρ).asBool = true → R a x) ∧ ((c.den ρ).asBool = false → R b x)) :
    ∀ (t : Tree α) (x : α), (squash join t).get ρ = some x → ∃ a, t.get ρ = some a ∧ R a x := by
  intro t
  induction t with
  | leaf a => intro x h; exact ⟨x, h, hr x⟩
  | fail w => intro x h; simp [squash, Tree.get] at h
  | assert c t ih =>
    intro x h
    simp only [squash, Tree.get] at h
    split at h
    · rename_i hc
      obtain ⟨a, h1, h2⟩ := ih x h
      exact ⟨a, by simp [Tree.get, hc, h1], h2⟩
    · cases h
  | ite c t e iht ihe =>
    intro x h
    simp only [squash] at h
    have plain : (Tree.ite c (squash join t) (squash join e)).get ρ = some x → ∃ a, (Tree.ite c t e).get ρ = some a ∧ R a x := by
      intro h
      simp only [Tree.get] at h ⊢
      cases hc : (c.den ρ).asBool
      · rw [hc] at h; exact ihe x h
      · rw [hc] at h; exact iht x h
    split at h
    · rename_i cs a ds b ha hb
      split at h
      · rename_i y hy
        obtain ⟨h1, h2⟩ := Tree.get_must ρ _ _ _ h
        simp only [Tree.get, Option.some.injEq] at h1
        subst h1
        obtain ⟨j1, j2⟩ := hj c a b y hy
        simp only [Tree.get]
        cases hc : (c.den ρ).asBool
        · have : (squash join e).get ρ = some b := Tree.single_get hb (fun d hd => by
            have := h2 (impT (mkNot c) d) (List.mem_append_right _ (List.mem_map_of_mem hd))
            rw [impT_den, mkNot_den, hc] at this
            simpa using this)
          obtain ⟨z, z1, z2⟩ := ihe b this
          exact ⟨z, z1, ht _ _ _ z2 (j2 hc)⟩
        · have : (squash join t).get ρ = some a := Tree.single_get ha (fun d hd => by
            have := h2 (impT c d) (List.mem_append_left _ (List.mem_map_of_mem hd))
            rw [impT_den, hc] at this
            simpa using this)
          obtain ⟨z, z1, z2⟩ := iht a this
          exact ⟨z, z1, ht _ _ _ z2 (j1 hc)⟩
      · exact plain h
    · exact plain h
/-! ### States -/
structure Gam (ρ : Env) (G : Globs) (K : Nat → Prop) (w0 : World) (ι : Nm) (σ : St) (a : Act) (w : World) : Prop where
  size : a.tmps.size = σ.n
  defers : a.defers = []
  slots : SlotsOk ρ ι σ.heap.length σ.slots a
  heap : HR ρ G K w0 ι σ.heap w
  pc : (σ.pc.den ρ).asBool = true
structure StepS (σ σ' : St) : Prop where
  len : σ.heap.length ≤ σ'.heap.length
  slots : ∃ new, σ'.slots = new ++ σ.slots
  n : σ'.n = σ.n
theorem StepS.refl (σ : St) : StepS σ σ := ⟨Nat.le_refl _, ⟨[], rfl⟩, rfl⟩
theorem StepS.trans {a b c : St} (h : StepS a b) (k : StepS b c) : StepS a c := by
  obtain ⟨x, hx⟩ := h.slots
  obtain ⟨y, hy⟩ := k.slots
  exact ⟨Nat.le_trans h.len k.len, ⟨y ++ x, by rw [hy, hx, List.append_assoc]⟩, k.n.trans h.n⟩
theorem beq_false {i j : Nat} (h : i ≠ j) : Nat.beq i j = false := by
  cases hb : Nat.beq i j
  · rfl
  · exact (h (Nat.eq_of_beq_eq_true hb)).elim
theorem Slots.get_cons_ne {s : Slots} {i j : Nat} {v : Option SVal} (h : i ≠ j) : Slots.get ((j, v) :: s) i = s.get i := by
  simp only [Slots.get, beq_false h]
theorem Slots.get_cons_self {s : Slots} {i : Nat} {v : Option SVal} : Slots.get ((i, v) :: s) i = v := by
  simp only [Slots.get, Nat.beq_refl]
theorem Slots.get_append_left {s new : Slots} {i : Nat} (h : ∀ p ∈ new, p.1 ≠ i) : Slots.get (new ++ s) i = s.get i := by
  induction new with
  | nil => rfl
  | cons p r ih =>
    obtain ⟨j, v⟩ := p
    have hne : i ≠ j := fun e => h (j, v) (by simp) e.symm
    rw [List.cons_append, Slots.get_cons_ne hne]
    exact ih (fun q hq => h q (by simp [hq]))
theorem mergeS_spec {c : Tm} {n : Nat} {s1 s2 : Slots} : ∀ {keys acc s : Slots}, mergeS c n s1 s2 keys acc = some s →
    (∃ new, s = new ++ acc) ∧ ∀ i v, s.get i = some v → (∃ a b, s1.get i = some a ∧ s2.get i = some b ∧ mergeV c a b = some v ∧ v.sc n = true) ∨ ((∀ p ∈ keys, p.1 ≠ i) ∧ acc.get i = some v)
  | [], acc, s, h => by
    simp [mergeS] at h; subst h
    exact ⟨⟨[], rfl⟩, fun i v hv => .inr ⟨by simp, hv⟩⟩
  | (k, u) :: r, acc, s, h => by
    have forget : mergeS c n s1 s2 r ((k, none) :: acc) = some s → (∃ new, s = new ++ acc) ∧ ∀ i v, s.get i = some v → (∃ a b, s1.get i = some a ∧ s2.get i = some b ∧ mergeV c a b = some v ∧ v.sc n = true) ∨ ((∀ p ∈ (k, u) :: r, p.1 ≠ i) ∧ acc.get i = some v) := by
      intro h
      obtain ⟨⟨new, hn⟩, hs⟩ := mergeS_spec h
      refine ⟨⟨new ++ [(k, none)], by simp [hn]⟩, fun i v hv => ?_⟩
      rcases hs i v hv with h1 | ⟨h1, h2⟩
      · exact .inl h1
      · by_cases hik : i = k
        · subst hik; rw [Slots.get_cons_self] at h2; cases h2
        · rw [Slots.get_cons_ne hik] at h2
          refine .inr ⟨fun p hp => ?_, h2⟩
          rcases List.mem_cons.1 hp with rfl | hp
          · exact fun e => hik e.symm
          · exact h1 p hp
    unfold mergeS at h
    split at h
    · rename_i a b ha hb
      split at h
      · rename_i v hv
        split at h
        · rename_i hsc
          obtain ⟨⟨new, hn⟩, hs⟩ := mergeS_spec h
          refine ⟨⟨new ++ [(k, some v)], by simp [hn]⟩, fun i v' hv' => ?_⟩
          rcases hs i v' hv' with h1 | ⟨h1, h2⟩
          · exact .inl h1
          · by_cases hik : i = k
            · subst hik; rw [Slots.get_cons_self] at h2; simp at h2; subst h2
              exact .inl ⟨a, b, ha, hb, hv, hsc⟩
            · rw [Slots.get_cons_ne hik] at h2
              refine .inr ⟨fun p hp => ?_, h2⟩
              rcases List.mem_cons.1 hp with rfl | hp
              · exact fun e => hik e.symm
              · exact h1 p hp
        · cases h
      · split at h
        · exact forget h
        · cases h
    · exact forget h
def CovS (ρ : Env) (σ a x : St) : Prop := StepS σ a → StepS σ x ∧ ∀ (G : Globs) (K : Nat → Prop) (w0 : World) (ι : Nm) (act : Act) (w : World), Gam ρ G K w0 ι a act w → Gam ρ G K w0 ι x act w
theorem CovS.refl (σ a : St) : CovS ρ σ a a := fun h => ⟨h, fun _ _ _ _ _ _ h => h⟩
theorem CovS.trans {σ a b c : St} (h : CovS ρ σ a b) (k : CovS ρ σ b c) : CovS ρ σ a c := fun s =>
  ⟨(k (h s).1).1, fun G K w0 ι act w g => (k (h s).1).2 G K w0 ι act w ((h s).2 G K w0 ι act w g)⟩
theorem joinS_spec {σ : St} {c : Tm} {a b x : St} (hj : joinS σ c a b = some x) (hsc : ∀ i v, σ.slots.get i = some v → v.sc σ.heap.length = true) (hpc : (σ.pc.den ρ).asBool = true) (way : Bool) (hc : (c.den ρ).asBool = way) :
    CovS ρ σ (cond way a b) x := by
  intro sy
  unfold joinS at hj
  simp only at hj
  split at hj
  · rename_i s hs
    split at hj
    · rename_i hm hmm
      simp only [Option.some.injEq] at hj
      subst hj
      obtain ⟨⟨new, hnew⟩, hspec⟩ := mergeS_spec hs
      obtain ⟨ny, hny⟩ := sy.slots
      have hlen := (mergeH_spec hmm).1
      refine ⟨⟨by simp [hlen], ⟨new, hnew⟩, rfl⟩, ?_⟩
      intro G K w0 ι act w hy'
      have hH : HR ρ G K w0 ι (cond way a.heap b.heap) w := by
        have := hy'.heap
        cases way <;> exact this
      obtain ⟨H', _⟩ := HR.merged (ρ := ρ) hmm way hc hH
      refine ⟨by rw [hy'.size, sy.n], hy'.defers, ?_, H', hpc⟩
      intro i v hv
      simp only at hv ⊢
      rw [hlen]
      rcases hspec i v hv with ⟨u, u', hu, hu', hm', hsc'⟩ | ⟨h1, h2⟩
      · refine ⟨?_, hsc'⟩
        have hmc := (mergeV_conc (ρ := ρ) (ι := ι) c 0 _ _ _ hm').1
        rw [hc] at hmc
        cases way
        · rw [hmc]; exact (hy'.slots i u' hu').1
        · rw [hmc]; exact (hy'.slots i u hu).1
      · refine ⟨(hy'.slots i v ?_).1, hsc i v h2⟩
        rw [hny, Slots.get_append_left (fun p hp => h1 p ?_)]
        · exact h2
        · cases way
          · have htb : b.slots.take (b.slots.length - σ.slots.length) = ny := by
              have : b.slots = ny ++ σ.slots := hny
              rw [this]; simp
            rw [htb]; simp [hp]
          · have hta : a.slots.take (a.slots.length - σ.slots.length) = ny := by
              have : a.slots = ny ++ σ.slots := hny
              rw [this]; simp
            rw [hta]; simp [hp]
    · cases hj
  · cases hj
/-! ### Answers of calls -/
def CovR (ρ : Env) (n : Nat) (a x : Res) : Prop := ∀ (G : Globs) (K : Nat → Prop) (w0 : World) (ι : Nm) (w : World), HR ρ G K w0 ι a.h w → a.v.sc a.h.length = true → n ≤ a.h.length → (a.pc.den ρ).asBool = true →
  HR ρ G K w0 ι x.h w ∧ x.v.sc x.h.length = true ∧ n ≤ x.h.length ∧ (x.pc.den ρ).asBool = true ∧ x.v.conc ρ ι = a.v.conc ρ ι
theorem CovR.refl (n : Nat) (a : Res) : CovR ρ n a a := fun _ _ _ _ _ h1 h2 h3 h4 => ⟨h1, h2, h3, h4, rfl⟩
theorem CovR.trans {n : Nat} {a b c : Res} (h : CovR ρ n a b) (k : CovR ρ n b c) : CovR ρ n a c := fun G K w0 ι w h1 h2 h3 h4 => by
  obtain ⟨a1, a2, a3, a4, a5⟩ := h G K w0 ι w h1 h2 h3 h4
  obtain ⟨b1, b2, b3, b4, b5⟩ := k G K w0 ι w a1 a2 a3 a4
  exact ⟨b1, b2, b3, b4, b5.trans a5⟩
theorem joinR_spec {h0 : Heap} {pc c : Tm} {a b x : Res} (hj : joinR h0 pc c a b = some x) (hpc : (pc.den ρ).asBool = true) (way : Bool) (hc : (c.den ρ).asBool = way) : CovR ρ h0.length (cond way a b) x := by
  unfold joinR at hj
  split at hj
  · rename_i v hv
    split at hj
    · rename_i hsc
      split at hj
      · rename_i hm hmm
        simp only [Option.some.injEq] at hj
        subst hj
        intro G K w0 ι w h1 h2 h3 h4
        have hH : HR ρ G K w0 ι (cond way a.h b.h) w := by cases way <;> exact h1
        obtain ⟨H', hlen⟩ := HR.merged (ρ := ρ) hmm way hc hH
        refine ⟨H', by rw [hlen]; exact hsc, by rw [hlen]; exact Nat.le_refl _, hpc, ?_⟩
        have hmc := (mergeV_conc (ρ := ρ) (ι := ι) c 0 _ _ _ hv).1
        rw [hc] at hmc
        rw [hmc]
        cases way <;> rfl
      · cases hj
    · cases hj
  · cases hj
def CallOk (ρ : Env) (G : Globs) (P : Program) (f : FuncId) (args : List SVal) (h : Heap) (x : Res) : Prop :=
  ∀ (K : Nat → Prop) (w0 : World) (ι : Nm) (w : World), HR ρ G K w0 ι h w → (∀ v ∈ args, v.sc h.length = true) →
    Calls P f (args.map (·.conc ρ ι)).toArray w fun e w' => ∃ ι' : Nm, Nm.Ext h.length ι ι' ∧ h.length ≤ x.h.length ∧ HR ρ G K w0 ι' x.h w' ∧ x.v.sc x.h.length = true ∧ (x.pc.den ρ).asBool = true ∧ e = .returned (x.v.conc ρ ι')
def Specs.Ok (ρ : Env) (cx : Cx) (S : Specs) : Prop :=
  ∀ f sp, S f = some sp → ∀ args h pc x, (pc.den ρ).asBool = true → (sp args h pc).get ρ = some x → CallOk ρ cx.globs cx.P f args h x
def Ex.exit' : Ex → Exit
  | .normal => .normal
  | .exit id => .exit id
  | .ret => .ret
def RunOk (ρ : Env) (cx : Cx) (runC : Code → St → Tree (Ex × St)) : Prop :=
  ∀ c σ e σ', (runC c σ).get ρ = some (e, σ') → ∀ (K : Nat → Prop) (w0 : World) (ι : Nm) (a : Act) (w : World), Gam ρ cx.globs K w0 ι σ a w →
    ∀ Q : Exit → Act → World → Prop, (∀ ι' a' w', StepS σ σ' → Nm.Ext σ.heap.length ι ι' → Gam ρ cx.globs K w0 ι' σ' a' w' → Q e.exit' a' w') → c.wp cx.P Q a w
theorem argSlots_get : ∀ (args : List SVal) (k i : Nat) (v : SVal), (argSlots k args).get i = some v → k ≤ i ∧ args[i - k]? = some v
  | [], k, i, v, h => by simp [argSlots, Slots.get] at h
  | a :: r, k, i, v, h => by
    simp only [argSlots] at h
    by_cases hik : i = k
    · subst hik
      rw [Slots.get_cons_self] at h
      simp at h; subst h
      exact ⟨Nat.le_refl _, by simp⟩
    · rw [Slots.get_cons_ne hik] at h
      obtain ⟨h1, h2⟩ := argSlots_get r (k + 1) i v h
      refine ⟨by omega, ?_⟩
      have : i - k = (i - (k + 1)) + 1 := by omega
      rw [this]; simpa using h2
theorem resultsT_spec {cx : Cx} {σ : St} {a : Act} (H : Gam ρ cx.globs K w0 ι σ a w) (f : ResultVar → Sem Value) (hf1 : ∀ t, f (.tmp t) = pure (a.tmps.getD t undef)) (hf2 : ∀ p t, f (.cell p t) = (do loadVar t (← asAddr (a.tmps.getD p undef)))) :
    ∀ {rs : List ResultVar} {vs : List SVal}, resultsT cx σ rs = some vs → (rs.mapM f).run cx.P w = .ok (vs.map (·.conc ρ ι)) w ∧ ∀ v ∈ vs, v.sc σ.heap.length = true
  | [], vs, h => by simp [resultsT] at h; subst h; simp
  | .tmp t :: r, vs, h => by
    unfold resultsT at h
    split at h
    · rename_i v l hv hl
      simp at h; subst h
      obtain ⟨h1, h2⟩ := H.slots t v hv
      obtain ⟨h3, h4⟩ := resultsT_spec H f hf1 hf2 hl
      have e : a.tmps.getD t undef = v.conc ρ ι := by simp [Array.getD_eq_getD_getElem?, h1]
      refine ⟨by rw [List.mapM_cons, hf1]; simp only [Sem.run_bind, Sem.run_pure, Result.andThen_ok, h3, e, List.map_cons], ?_⟩
      intro u hu
      rcases List.mem_cons.1 hu with rfl | hu
      · exact h2
      · exact h4 u hu
    · cases h
  | .cell p t :: r, vs, h => by
    unfold resultsT at h
    split at h
    · rename_i b off l hv hl
      split at h
      · rename_i v hld
        simp at h; subst h
        obtain ⟨h1, h2⟩ := H.slots p _ hv
        obtain ⟨h3, h4⟩ := resultsT_spec H f hf1 hf2 hl
        obtain ⟨h5, h6⟩ := run_loadT H.heap hld (by simp)
        have e : a.tmps.getD p undef = (SVal.ptr b off).conc ρ ι := by simp [Array.getD_eq_getD_getElem?, h1]
        have h5' : (loadVar t ⟨ι.blk b, off, none⟩).run cx.P w = .ok (v.conc ρ ι) w := by
          simpa [Instr.loadAt, SVal.conc, Instr.sureAddr] using h5
        have ha : (asAddr ((SVal.ptr b off).conc ρ ι)).run cx.P w = .ok ⟨ι.blk b, off, none⟩ w := by simp [SVal.conc, asAddr]
        refine ⟨by rw [List.mapM_cons, hf2]; simp only [Sem.run_bind, Sem.run_pure, Result.andThen_ok, h3, e, ha, h5', List.map_cons], ?_⟩
        intro u hu
        rcases List.mem_cons.1 hu with rfl | hu
        · exact h6
        · exact h4 u hu
      · cases h
    · cases h
theorem resultT_spec {cx : Cx} {σ : St} {a : Act} {fn : Func} {v : SVal} (H : Gam ρ cx.globs K w0 ι σ a w) (h : resultT cx fn σ = some v) :
    (results fn a.tmps).run cx.P w = .ok (v.conc ρ ι) w ∧ v.sc σ.heap.length = true := by
  have key : ∀ vs, resultsT cx σ fn.results.toList = some vs → (results fn a.tmps).run cx.P w = .ok (if hh : (vs.map (·.conc ρ ι)).toArray.size = 1 then (vs.map (·.conc ρ ι)).toArray[0] else .tuple (vs.map (·.conc ρ ι)).toArray) w ∧ ∀ u ∈ vs, u.sc σ.heap.length = true := by
    intro vs hvs
    have h2 := (resultsT_spec H (fun r => ResultVar.rec (fun t => pure (a.tmps.getD t undef)) (fun p t => do loadVar t (← asAddr (a.tmps.getD p undef))) r) (fun _ => rfl) (fun _ _ => rfl) hvs).2
    refine ⟨?_, h2⟩
    unfold results
    rw [Array.mapM_eq_mapM_toList]
    simp only [Sem.run_bind, Sem.run_map]
    have h1 := fun f hf1 hf2 => (resultsT_spec H f hf1 hf2 hvs).1
    rw [h1 _ (fun _ => rfl) (fun _ _ => rfl)]
    rfl
  unfold resultT at h
  split at h
  · rename_i u hu
    simp at h; subst h
    obtain ⟨h1, h2⟩ := key _ hu
    exact ⟨by rw [h1]; simp, h2 u (by simp)⟩
  · rename_i l hne hu
    simp at h; subst h
    obtain ⟨h1, h2⟩ := key _ hu
    refine ⟨?_, by simp only [SVal.sc]; exact SVal.sc_ofList _ h2⟩
    rw [h1]
    have : (l.map (·.conc ρ ι)).toArray.size ≠ 1 := by
      intro e
      simp at e
      match l, e with
      | [x], _ => exact hne x rfl
    rw [dif_neg this]
    simp [SVal.conc, SVal.concL_ofList]
  · cases h
theorem callT_ok {cx : Cx} {S : Specs} (hS : S.Ok ρ cx) {runC : Code → St → Tree (Ex × St)} (hR : RunOk ρ cx runC) {f : FuncId} {args : List SVal} {h : Heap} {pc : Tm} {x : Res}
    (hpc : (pc.den ρ).asBool = true) (hx : (callT cx S runC f args h pc).get ρ = some x) : CallOk ρ cx.globs cx.P f args h x := by
  unfold callT at hx
  split at hx
  · rename_i sp hsp
    exact hS f sp hsp args h pc x hpc hx
  · split at hx
    · simp [Tree.get] at hx
    · rename_i fn hfn
      split at hx
      · simp [Tree.get] at hx
      · rename_i c hc
        split at hx
        · simp [Tree.get] at hx
        · rename_i hle
          have hle := Nat.le_of_ble_eq_true hle
          obtain ⟨y, hy1, hy2⟩ := squash_get (ρ := ρ) (CovR ρ h.length) (CovR.refl _) (fun _ _ _ => CovR.trans) (fun c a b z hz => ⟨fun hc => joinR_spec (joinRs_eq hz) hpc true hc, fun hc => joinR_spec (joinRs_eq hz) hpc false hc⟩) _ _ hx
          rw [Tree.get_bind] at hy1
          simp only [Option.bind_eq_some_iff] at hy1
          obtain ⟨⟨e, σ⟩, hr1, hr2⟩ := hy1
          have entry : ∀ (K : Nat → Prop) (w0 : World) (ι : Nm) (w : World), HR ρ cx.globs K w0 ι h w → (∀ v ∈ args, v.sc h.length = true) →
              Gam ρ cx.globs K w0 ι { n := fn.ntmps, slots := argSlots 0 args, heap := h, pc := pc } { tmps := (args.map (·.conc ρ ι)).toArray ++ Array.replicate (fn.ntmps - (args.map (·.conc ρ ι)).toArray.size) undef, defers := [] } w := by
            intro K w0 ι w H hsc
            refine ⟨by simp; omega, rfl, ?_, H, hpc⟩
            intro i v hv
            obtain ⟨_, h2⟩ := argSlots_get args 0 i v hv
            simp only [Nat.sub_zero] at h2
            refine ⟨?_, hsc v (List.mem_of_getElem? h2)⟩
            have hi := (List.getElem?_eq_some_iff.1 h2).1
            rw [Array.getElem?_append_left (by simpa using hi)]
            simp [h2]
          cases e with
          | exit id => simp [Tree.get] at hr2
          | _ =>
            simp only at hr2
            split at hr2
            · rename_i v hv
              simp only [Tree.get, Option.some.injEq] at hr2
              subst hr2
              intro K w0 ι w H hsc
              refine calls_of_wp hfn hc (hR _ _ _ _ hr1 K w0 ι _ w (entry K w0 ι w H hsc) _ ?_)
              intro ι' a' w' s1 hext g
              obtain ⟨r1, r2⟩ := resultT_spec g hv
              obtain ⟨c1, c2, c3, c4, c5⟩ := hy2 cx.globs K w0 ι' w' g.heap r2 s1.len g.pc
              exact ⟨g.defers, _, r1, ι', hext, c3, c1, c2, c4, by rw [c5]⟩
            · simp [Tree.get] at hr2
/-! ### Operations -/
theorem Sem_run_invoke_enter {cx : Cx} (ok : cx.Ok) {f : FuncId} {fn : Func} {c : Code} (hf : cx.P.funcs[f]? = some fn) (hb : fn.body = some c) (args : Array Value) (w : World) : (callFunc f args).run cx.P w = .ok (.enter f args) w := by
  have hn := ok.names f fn hf
  simp only [callFunc, Sem.run_bind, run_program, Result.andThen_ok, hf, hn, hb, Option.isNone_some, Bool.false_eq_true, if_false, Sem.run_pure]
theorem opT_ok {cx : Cx} (ok : cx.Ok) {S : Specs} (hS : S.Ok ρ cx) (hB : ∀ f, S f ≠ none → ∃ fn c, cx.P.funcs[f]? = some fn ∧ fn.body = some c) {runC : Code → St → Tree (Ex × St)} (hR : RunOk ρ cx runC) {σ : St} {o : Oper} {x : Res} (hx : (opT cx S runC σ o).get ρ = some x)
    {a : Act} (hs : SlotsOk ρ ι σ.heap.length σ.slots a) (H : HR ρ cx.globs K w0 ι σ.heap w) (hpc : (σ.pc.den ρ).asBool = true) (next : Act → World → Prop) (Q : Exit → Act → World → Prop)
    (hn : ∀ ι' w', Nm.Ext σ.heap.length ι ι' → σ.heap.length ≤ x.h.length → HR ρ cx.globs K w0 ι' x.h w' → x.v.sc x.h.length = true → (x.pc.den ρ).asBool = true → next (a.put o.dst (x.v.conc ρ ι')) w') :
    o.wp cx.P a w next Q := by
  unfold opT at hx
  split at hx
  · rename_i v cs hp
    obtain ⟨h1, h2⟩ := Tree.get_mustP hpc _ _ _ hx
    simp only [Tree.get, Option.some.injEq] at h1
    subst h1
    obtain ⟨r1, r2⟩ := run_pureOp ok hp hs H hpc h2
    unfold Oper.wp
    rw [r1]
    exact hn ι w (Nm.Ext.refl _ _) (Nat.le_refl _) H r2 hpc
  · split at hx
    · rename_i v h' hp
      simp only [Tree.get, Option.some.injEq] at hx
      subst hx
      obtain ⟨ι', w', nx, r1, r2, r3, r4, r5, r6⟩ := run_heapOp hp hs H
      unfold Oper.wp
      rw [r1]
      rcases r2 with rfl | ⟨rfl, rfl⟩
      · exact hn ι' w' r3 r4 r5 r6 hpc
      · have := hn ι' w' r3 r4 r5 r6 hpc
        simpa [Oper.upon, undefS, SVal.conc, SVal.concL, undef] using this
    · split at hx
      · rename_i h' cs hp
        obtain ⟨h1, h2⟩ := Tree.get_mustP hpc _ _ _ hx
        simp only [Tree.get, Option.some.injEq] at h1
        subst h1
        obtain ⟨w', r1, r2, r3⟩ := run_storeOp hp hs H h2
        unfold Oper.wp
        rw [r1]
        have := hn ι w' (Nm.Ext.refl _ _) (Nat.le_of_eq r2.symm) r3 rfl hpc
        simpa [Oper.upon, undefS, SVal.conc, SVal.concL, undef] using this
      split at hx
      · rename_i c ho
        split at hx
        · rename_i f hcal
          split at hx
          · rename_i g first captured args hf hargs
            have hcall := callT_ok hS hR hpc hx
            obtain ⟨f1, f2⟩ := evO_conc hs hf
            obtain ⟨a1, a2⟩ := evs_conc hs hargs
            simp only [SVal.sc, Bool.and_eq_true] at f2
            have hsc : ∀ v ∈ first.toList ++ args ++ captured.toList, v.sc σ.heap.length = true := by
              intro v hv
              simp only [List.mem_append] at hv
              rcases hv with (hv | hv) | hv
              · exact SVal.sc_toList _ f2.1 v hv
              · exact a2 v hv
              · exact SVal.sc_toList _ f2.2 v hv
            have hc := hcall K w0 ι w H hsc
            have hbody : ∃ fn c, cx.P.funcs[g]? = some fn ∧ fn.body = some c := by
              cases hSg : S g with
              | some sp => exact hB g (by simp [hSg])
              | none =>
                unfold callT at hx
                rw [hSg] at hx
                simp only at hx
                split at hx
                · simp [Tree.get] at hx
                · rename_i fn hfn
                  split at hx
                  · simp [Tree.get] at hx
                  · rename_i c' hc'
                    exact ⟨fn, c', hfn, hc'⟩
            obtain ⟨fn, cb, hfn, hcb⟩ := hbody
            have hrun : (execOp a.eval o).run cx.P w = .ok (.enter g ((first.toList ++ args ++ captured.toList).map (·.conc ρ ι)).toArray) w := by
              have eargs : c.args.map a.eval = (args.map (·.conc ρ ι)).toArray := by apply Array.ext'; simp [a1]
              simp only [SVal.conc] at f1
              simp only [execOp, ho, resolve, hcal, f1, Deferred.ofValue, Sem.run_bind, Sem.run_pure, Result.andThen_ok, invoke, eargs]
              rw [Sem_run_invoke_enter ok hfn hcb]
              congr 2
              apply Array.ext'
              simp [SVal.concL_toList]
            unfold Oper.wp
            rw [hrun]
            simp only [Oper.upon]
            refine hc.mono fun e w' he => ?_
            obtain ⟨ι', e1, e2, e3, e4, e5, rfl⟩ := he
            exact hn ι' w' e1 e2 e3 e4 e5
          · simp [Tree.get] at hx
        · simp [Tree.get] at hx
      · simp [Tree.get] at hx
theorem guardT_ok {ops : Array Oper} {σ : St} {o : Oper} {g : Tm} {a : Act} (hs : SlotsOk ρ ι σ.heap.length σ.slots a) (hg : guardT ops.toList σ o = some g) :
    Region.wanted o (yielded ops a.tmps) = (g.den ρ).asBool := by
  unfold guardT at hg
  unfold Region.wanted
  split at hg
  · rename_i h0; simp at hg; subst hg; simp [h0, Tm.den]
  · rename_i j want h0
    split at hg
    · rename_i oj hoj
      have hoj' : ops[j]? = some oj := by simpa using hoj
      split at hg
      · rename_i d hd
        split at hg
        · rename_i t ht
          obtain ⟨h1, _⟩ := hs d _ ht
          simp only [SVal.conc] at h1
          have hy : yielded ops a.tmps j = some (t.den ρ).asBool := by simp [yielded, hoj', hd, h1]
          simp only [Option.some.injEq] at hg
          subst hg
          simp only [h0, hy]
          cases want
          · simp only [mkNot_den]; cases (t.den ρ).asBool <;> rfl
          · cases (t.den ρ).asBool <;> rfl
        · rename_i ht
          obtain ⟨h1, _⟩ := hs d _ ht
          simp only [SVal.conc, SVal.concL] at h1
          have hy : yielded ops a.tmps j = none := by simp [yielded, hoj', hd, h1]
          simp at hg; subst hg
          simp [h0, hy, Tm.den]
        · cases hg
      · cases hg
    · cases hg
theorem put_slots {n : Nat} {σ : St} {a : Act} {d : Option Nat} {v : SVal} (hsz : a.tmps.size = σ.n) (hs : SlotsOk ρ ι n σ.slots a) (hv : v.sc n = true) :
    SlotsOk ρ ι n (σ.put d v).slots (a.put d (v.conc ρ ι)) ∧ (a.put d (v.conc ρ ι)).tmps.size = σ.n ∧ (a.put d (v.conc ρ ι)).defers = a.defers := by
  cases d with
  | none => exact ⟨hs, hsz, rfl⟩
  | some d =>
    refine ⟨?_, by simp [Act.put, hsz], rfl⟩
    intro i u hu
    simp only [St.put] at hu
    by_cases hid : i = d
    · subst hid
      rw [Slots.get_cons_self] at hu
      split at hu
      · rename_i hlt
        have hlt : i < σ.n := Nat.lt_of_succ_le (Nat.le_of_ble_eq_true hlt)
        simp at hu; subst hu
        exact ⟨by simp [Act.put, hsz, hlt], hv⟩
      · cases hu
    · rw [Slots.get_cons_ne hid] at hu
      obtain ⟨h1, h2⟩ := hs i u hu
      refine ⟨?_, h2⟩
      simp only [Act.put]
      rw [Array.getElem?_setIfInBounds_ne (by omega)]
      exact h1
theorem SlotsOk.ext {n m : Nat} {ι' : Nm} {s : Slots} {a : Act} (hs : SlotsOk ρ ι n s a) (e : Nm.Ext n ι ι') (hnm : n ≤ m) : SlotsOk ρ ι' m s a := by
  intro i v hv
  obtain ⟨h1, h2⟩ := hs i v hv
  exact ⟨by rw [(SVal.conc_ext (ρ := ρ) e v h2).1]; exact h1, SVal.sc_mono hnm _ h2⟩
theorem put_step (σ : St) (h' : Heap) (pc' : Tm) (d : Option Nat) (v : SVal) (hl : σ.heap.length ≤ h'.length) : StepS σ ({ σ with heap := h', pc := pc' }.put d v) := by
  cases d with
  | none => exact ⟨hl, ⟨[], rfl⟩, rfl⟩
  | some d => exact ⟨hl, ⟨[_], rfl⟩, rfl⟩
theorem opsT_ok {cx : Cx} (ok : cx.Ok) {S : Specs} (hS : S.Ok ρ cx) (hB : ∀ f, S f ≠ none → ∃ fn c, cx.P.funcs[f]? = some fn ∧ fn.body = some c) {runC : Code → St → Tree (Ex × St)} (hR : RunOk ρ cx runC) {ops : Array Oper} (Q : Exit → Act → World → Prop) :
    ∀ (r : List Oper) (i : Nat) (σ : St) (σ' : St), (∀ j, r[j]? = ops[i + j]?) → (opsT cx S runC ops.toList r σ).get ρ = some σ' →
    ∀ (K : Nat → Prop) (w0 : World) (ι : Nm) (a : Act) (w : World), Gam ρ cx.globs K w0 ι σ a w → (∀ ι' a' w', StepS σ σ' → Nm.Ext σ.heap.length ι ι' → Gam ρ cx.globs K w0 ι' σ' a' w' → Q .normal a' w') → wpOps cx.P ops Q (List.range' i r.length) a w
  | [], i, σ, σ', _, hx, K, w0, ι, a, w, g, hq => by
    simp only [opsT, Tree.get, Option.some.injEq] at hx
    subst hx
    simp only [List.length_nil, List.range'_zero, wpOps]
    exact hq ι a w (StepS.refl _) (Nm.Ext.refl _ _) g
  | o :: r, i, σ, σ', hr, hx, K, w0, ι, a, w, g, hq => by
    have hoi : ops[i]? = some o := by have := hr 0; simpa using this.symm
    have hr' : ∀ j, r[j]? = ops[(i + 1) + j]? := fun j => by
      have := hr (j + 1)
      rw [show i + (j + 1) = i + 1 + j by omega] at this
      simpa using this
    simp only [List.length_cons, List.range'_succ, wpOps, hoi]
    -- the two ways
    have go : ∀ pc', (pc'.den ρ).asBool = true → ((opT cx S runC { σ with pc := pc' } o).bind fun x => opsT cx S runC ops.toList r ({ { σ with pc := pc' } with heap := x.h, pc := x.pc }.put o.dst x.v)).get ρ = some σ' →
        o.wp cx.P a w (wpOps cx.P ops Q (List.range' (i + 1) r.length)) Q := by
      intro pc' hpc' hh
      rw [Tree.get_bind] at hh
      simp only [Option.bind_eq_some_iff] at hh
      obtain ⟨x, hx1, hx2⟩ := hh
      refine opT_ok ok hS hB hR hx1 g.slots g.heap hpc' _ _ ?_
      intro ι' w' e1 e2 e3 e4 e5
      have hs1 := SlotsOk.ext g.slots e1 e2
      obtain ⟨p1, p2, p3⟩ := put_slots (σ := { { σ with pc := pc' } with heap := x.h, pc := x.pc }) (d := o.dst) (v := x.v) g.size hs1 e4
      have hst : StepS σ ({ { σ with pc := pc' } with heap := x.h, pc := x.pc }.put o.dst x.v) := put_step σ x.h x.pc o.dst x.v e2
      have hheap : ({ { σ with pc := pc' } with heap := x.h, pc := x.pc }.put o.dst x.v).heap = x.h := by cases o.dst <;> rfl
      have hpcx : ({ { σ with pc := pc' } with heap := x.h, pc := x.pc }.put o.dst x.v).pc = x.pc := by cases o.dst <;> rfl
      have hnx : ({ { σ with pc := pc' } with heap := x.h, pc := x.pc }.put o.dst x.v).n = σ.n := by cases o.dst <;> rfl
      refine opsT_ok ok hS hB hR Q r (i + 1) _ σ' hr' hx2 K w0 ι' _ w' ⟨by rw [p2, hnx], by rw [p3]; exact g.defers, by rw [hheap]; exact p1, by rw [hheap]; exact e3, by rw [hpcx]; exact e5⟩ ?_
      intro ι'' a'' w'' s'' e'' g''
      refine hq ι'' a'' w'' (hst.trans s'') ?_ g''
      exact e1.trans (by rw [hheap]; exact e2) e''
    have skip : ∀ pc', (pc'.den ρ).asBool = true → (opsT cx S runC ops.toList r ({ σ with pc := pc' }.put o.dst undefS)).get ρ = some σ' → wpOps cx.P ops Q (List.range' (i + 1) r.length) (a.put o.dst undef) w := by
      intro pc' hpc' hh
      have hu : (undefS.conc ρ ι) = undef := by simp [undefS, SVal.conc, SVal.concL, undef]
      obtain ⟨p1, p2, p3⟩ := put_slots (σ := { σ with pc := pc' }) (d := o.dst) (v := undefS) (ρ := ρ) (ι := ι) (n := σ.heap.length) g.size g.slots rfl
      rw [hu] at p1 p2 p3
      have hst : StepS σ ({ σ with pc := pc' }.put o.dst undefS) := put_step σ σ.heap pc' o.dst undefS (Nat.le_refl _)
      have hheap : ({ σ with pc := pc' }.put o.dst undefS).heap = σ.heap := by cases o.dst <;> rfl
      have hpcx : ({ σ with pc := pc' }.put o.dst undefS).pc = pc' := by cases o.dst <;> rfl
      have hnx : ({ σ with pc := pc' }.put o.dst undefS).n = σ.n := by cases o.dst <;> rfl
      refine opsT_ok ok hS hB hR Q r (i + 1) _ σ' hr' hh K w0 ι _ w ⟨by rw [p2, hnx], by rw [p3]; exact g.defers, by rw [hheap]; exact p1, by rw [hheap]; exact g.heap, by rw [hpcx]; exact hpc'⟩ ?_
      intro ι'' a'' w'' s'' e'' g''
      refine hq ι'' a'' w'' (hst.trans s'') ?_ g''
      rw [hheap] at e''; exact e''
    simp only [opsT] at hx
    split at hx
    · simp [Tree.get] at hx
    · rename_i gt hgt
      have hw := guardT_ok g.slots hgt
      split at hx
      · rename_i hd
        rw [hw, decideT_den g.pc hd]
        simp only [if_true]
        exact .inl (go σ.pc g.pc hx)
      · rename_i hd
        rw [hw, decideT_den g.pc hd]
        simp only [Bool.false_eq_true, if_false]
        exact skip σ.pc g.pc hx
      · simp only [Tree.get] at hx
        rw [hw]
        cases hg : (gt.den ρ).asBool
        · rw [hg] at hx
          simp only [Bool.false_eq_true, if_false]
          exact skip _ (by rw [mkAnd_den, mkNot_den, g.pc, hg]; rfl) hx
        · rw [hg] at hx
          simp only [if_true]
          exact .inl (go _ (by rw [mkAnd_den, g.pc, hg]; rfl) hx)
end
end Go.Sx
