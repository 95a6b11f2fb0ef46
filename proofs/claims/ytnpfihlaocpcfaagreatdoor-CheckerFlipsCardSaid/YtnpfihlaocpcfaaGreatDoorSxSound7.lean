/- The executor is right: operations that leave the heap alone, in one theorem. -/
import Derived.Test.YtnpfihlaocpcfaaGreatDoorSxSound4
import Derived.Laws.BytesString
import Derived.Laws.CopyRow
import Derived.Laws.AppendOwn
import Derived.Lib.Builder
import Derived.Laws.MakeOwn
import Derived.Laws.NewFold
import Derived.Deep.AppendSrc
import Derived.MapKept
import Derived.Lib.ConvBytes
import Derived.Lib.UnsafeStr
import Derived.Orders
import Derived.Scope
import Derived.LoopN
namespace Go.Sx
noncomputable section

section
variable {ρ : Env} {G : Globs} {K : Nat → Prop} {w0 w : World} {ι : Nm} {h : Heap} {P : Program}

theorem addr_add (b off j : Nat) : (⟨b, off, none⟩ : Addr).add j = ⟨b, off + j, none⟩ := by
  unfold Addr.add
  split
  · rename_i e; subst e; simp
  · rfl

/-- Cells of a block of the world. -/
def CellsAt (w : World) (b : Nat) (l : List Value) : Prop := ∀ j v, l[j]? = some v → w.cell? ⟨b, j, none⟩ = some v

theorem HR.cellsAt (H : HR ρ G K w0 ι h w) {n : Nat} {b : Blk} (hb : h[n]? = some (some b)) : CellsAt w (ι.blk n) (b.cells.concL ρ ι) := by
  intro j v hv
  rw [SVal.concL_nth] at hv
  simp only [Option.map_eq_some_iff] at hv
  obtain ⟨u, hu, rfl⟩ := hv
  exact H.cell hb hu

theorem HR.globAt (H : HR ρ G K w0 ι h w) {g : Nat} {cs : SVal} (hg : (g, cs) ∈ G) : CellsAt w g (cs.concL ρ ι) := by
  obtain ⟨h1, _, arr, t, fz, h3, h4⟩ := H.globs g cs hg
  intro j v hv
  rw [← h4] at hv
  have hk := H.kept g h1
  rw [h3] at hk
  simp only [World.cell?, hk]
  simpa using hv

theorem run_load_one {b off : Nat} {cs v : SVal} {t : TypeId} (hc : CellsAt w b (cs.concL ρ ι)) (ha : isAggT P t = some false) (hv : cs.nth off = some v) :
    (Instr.loadAt t (.pointer (some ⟨b, off, none⟩))).run P w = .ok (v.conc ρ ι) w := by
  have h1 := hc off (v.conc ρ ι) (by rw [SVal.concL_nth, hv]; rfl)
  simp [Instr.loadAt, Instr.sureAddr, loadVar, run_isAggT w ha, h1]

theorem run_load_agg {b off z : Nat} {cs : SVal} {t : TypeId} (hc : CellsAt w b (cs.concL ρ ι)) (ha : isAggT P t = some true) (hz : sizeT P t = some z) (hl : off + z ≤ cs.len) :
    (Instr.loadAt t (.pointer (some ⟨b, off, none⟩))).run P w = .ok (.agg (((cs.dropN off).takeN z).concL ρ ι).toArray) w := by
  have hlen : (((cs.dropN off).takeN z).concL ρ ι).length = z := by
    rw [SVal.concL_takeN, SVal.concL_dropN]
    simp [SVal.concL_length]; omega
  have h1 := run_loadCells_list (P := P) w ⟨b, off, none⟩ (((cs.dropN off).takeN z).concL ρ ι) (by
    intro j v hv
    rw [addr_add]
    refine hc _ _ ?_
    rw [SVal.concL_takeN, SVal.concL_dropN] at hv
    rw [List.getElem?_take] at hv
    split at hv
    · rw [List.getElem?_drop] at hv; exact hv
    · cases hv)
  rw [hlen] at h1
  simp [Instr.loadAt, Instr.sureAddr, loadVar, run_isAggT w ha, run_sizeT w hz, h1]

theorem mem_of_lookup {g : Nat} {cs : SVal} : ∀ {G : Globs}, G.lookup g = some cs → (g, cs) ∈ G
  | [], h => by simp [List.lookup] at h
  | (k, v) :: G, h => by
    simp only [List.lookup] at h
    split at h
    · rename_i e; simp at h; subst h; simp at e; subst e; simp
    · exact List.mem_cons_of_mem _ (mem_of_lookup h)

/-- Cells from a place on. -/
def CellsFrom (w : World) (b o : Nat) (l : List Value) : Prop := ∀ j v, l[j]? = some v → w.cell? ⟨b, o + j, none⟩ = some v

theorem run_load_oneF {b o off : Nat} {cs v : SVal} {t : TypeId} (hc : CellsFrom w b o (cs.concL ρ ι)) (ha : isAggT P t = some false) (hv : cs.nth off = some v) :
    (Instr.loadAt t (.pointer (some ⟨b, o + off, none⟩))).run P w = .ok (v.conc ρ ι) w := by
  have h1 := hc off (v.conc ρ ι) (by rw [SVal.concL_nth, hv]; rfl)
  simp [Instr.loadAt, Instr.sureAddr, loadVar, run_isAggT w ha, h1]

theorem run_load_aggF {b o off z : Nat} {cs : SVal} {t : TypeId} (hc : CellsFrom w b o (cs.concL ρ ι)) (ha : isAggT P t = some true) (hz : sizeT P t = some z) (hl : off + z ≤ cs.len) :
    (Instr.loadAt t (.pointer (some ⟨b, o + off, none⟩))).run P w = .ok (.agg (((cs.dropN off).takeN z).concL ρ ι).toArray) w := by
  have hlen : (((cs.dropN off).takeN z).concL ρ ι).length = z := by
    rw [SVal.concL_takeN, SVal.concL_dropN]
    simp [SVal.concL_length]; omega
  have h1 := run_loadCells_list (P := P) w ⟨b, o + off, none⟩ (((cs.dropN off).takeN z).concL ρ ι) (by
    intro j v hv
    rw [addr_add, Nat.add_assoc]
    refine hc _ _ ?_
    rw [SVal.concL_takeN, SVal.concL_dropN] at hv
    rw [List.getElem?_take] at hv
    split at hv
    · rw [List.getElem?_drop] at hv; exact hv
    · cases hv)
  rw [hlen] at h1
  simp [Instr.loadAt, Instr.sureAddr, loadVar, run_isAggT w ha, run_sizeT w hz, h1]

theorem foldl_chr : ∀ (ns : List Int) (r : ByteArray), ns.foldl (fun r n => r.push (UInt8.ofNat n.toNat)) r = ⟨r.data ++ (ns.map fun n => UInt8.ofNat n.toNat).toArray⟩
  | [], r => by simp
  | n :: ns, r => by
    rw [List.foldl_cons, foldl_chr ns]
    simp [ByteArray.push]

theorem chrsT_spec : ∀ (v : SVal) (t : Tm), chrsT v = some t → ∃ ns : List Int, v.concL ρ ι = ns.map (Value.int .u8) ∧ (t.den ρ).asStr = ns.map fun n => UInt8.ofNat n.toNat := by
  intro v
  induction v with
  | nil =>
    intro t h
    simp only [chrsT, Option.some.injEq] at h
    subst h
    exact ⟨[], rfl, rfl⟩
  | cons a r _ ih =>
    intro t h
    cases a with
    | int k s =>
      cases k <;> simp only [chrsT] at h <;> try cases h
      split at h
      · rename_i u hu
        simp only [Option.some.injEq] at h
        subst h
        obtain ⟨ns, h1, h2⟩ := ih u hu
        refine ⟨(s.den ρ).asInt :: ns, by simp [SVal.concL, SVal.conc, h1], ?_⟩
        rw [mk2_den, mk1_den]
        simp [Op2.ev, Op1.ev, h2]
      · cases h
    | _ => simp [chrsT] at h
  | _ => intro t h; simp [chrsT] at h

theorem run_strOf {cx : Cx} (H : HR ρ cx.globs K w0 ι h w) {s d : TypeId} {b off n : Nat} {c : Cap} {v : SVal} (hv : strOf cx.P h s d b off n = some v) :
    (convert s d ((SVal.slice b off n c).conc ρ ι)).run cx.P w = .ok (v.conc ρ ι) w ∧ ∀ n, v.sc n = true := by
  unfold strOf at hv
  split at hv
  · rename_i e blk hs hd hb
    split at hv
    · rename_i he hle
      split at hv
      · rename_i t ht
        simp only [Option.some.injEq] at hv
        subst hv
        refine ⟨?_, fun _ => rfl⟩
        obtain ⟨ns, h1, h2⟩ := chrsT_spec (ρ := ρ) (ι := ι) _ t ht
        have hlen : ns.length = n := by
          have := congrArg List.length h1
          rw [SVal.concL_takeN, SVal.concL_dropN] at this
          have hle := Nat.le_of_ble_eq_true hle
          simp [SVal.concL_length] at this
          omega
        have hl := run_loadCells_list (P := cx.P) w ⟨ι.blk b, off, none⟩ (ns.map (Value.int .u8)) (by
          intro j u hu
          rw [addr_add]
          refine H.cellsAt hb _ _ ?_
          rw [← h1, SVal.concL_takeN, SVal.concL_dropN, List.getElem?_take] at hu
          split at hu
          · rw [List.getElem?_drop] at hu; exact hu
          · cases hu)
        rw [List.length_map, hlen] at hl
        show (convert s d (.slice (some ⟨ι.blk b, off, none⟩) n (c.ev ι))).run cx.P w = _
        rw [run_convert_bytes_string w s d e _ _ _ hs he hd, run_bytesToString w _ _ _ ns hl, foldl_chr]
        simp [SVal.conc, h2]
      · cases hv
    · cases hv
  · cases hv

theorem cksT_conc (d i : Tm) : ∀ (l : List CK) (j : Nat), (cksT d i j l).concL ρ ι = (l.zipIdx j).map fun p => p.1.val (((d.den ρ).asList.getD (i.den ρ).asInt.toNat (.int 0)).asList.getD p.2 (.int 0))
  | [], j => rfl
  | c :: r, j => by
    have ih := cksT_conc d i r (j + 1)
    simp only [cksT, SVal.concL, ih, List.zipIdx_cons, List.map_cons, List.cons.injEq, and_true]
    cases c <;> simp [ckT, SVal.conc, mk1_den, mk2_den, Op1.ev, Op2.ev, CK.val]

theorem cksT_sc (d i : Tm) (n : Nat) : ∀ (l : List CK) (j : Nat), (cksT d i j l).sc n = true
  | [], j => rfl
  | c :: r, j => by
    simp only [cksT, SVal.sc, cksT_sc d i n r (j + 1), Bool.and_true]
    cases c <;> rfl

theorem cksT_len (d i : Tm) : ∀ (l : List CK) (j : Nat), (cksT d i j l).len = l.length
  | [], j => rfl
  | c :: r, j => by simp [cksT, SVal.len, cksT_len d i r (j + 1)]

/-- What is so of a row that is read. -/
theorem HR.rowAt {cx : Cx} (H : HR ρ cx.globs K w0 ι h w) {n : Nat} {b : Blk} {own : Bool} {k : Nat} {d : Tm} (hb : h[n]? = some (some b)) (ha : b.abs = some (own, k, d)) (hk : rowK k ≠ []) :
    ∃ (A : Option Addr) (c : Nat), (ι.val n).v = .slice A (d.den ρ).asList.length c ∧ ((d.den ρ).asList ≠ [] → ∃ g off, A = some ⟨g, off, none⟩ ∧
      ∀ (i j : Nat) (ck : CK), i < (d.den ρ).asList.length → (rowK k)[j]? = some ck → w.cell? ⟨g, off + i * (rowK k).length + j, none⟩ = some (ck.val (((d.den ρ).asList.getD i (.int 0)).asList.getD j (.int 0)))) := by
  obtain ⟨_, h2, _⟩ := H.blocks _ _ hb
  unfold Blk.Ok at h2
  rw [ha] at h2
  have : ∃ F, RowOk (rowK k) (d.den ρ) (ι.val n).v F w := by
    cases own
    · obtain ⟨_, _, F, h3, _⟩ := h2
      exact ⟨F, ρ.ab.rows _ _ _ _ _ hk h3⟩
    · exact ⟨_, ρ.ab.rows _ _ _ _ _ hk h2.2⟩
  obtain ⟨F, _, A, c, h3, h4⟩ := this
  refine ⟨A, c, h3, fun hn => ?_⟩
  obtain ⟨g, off, e, _, hc⟩ := h4 hn
  exact ⟨g, off, e, hc⟩

theorem row_len {k z : Nat} (h : (Nat.beq (rowK k).length z && Nat.blt 0 z) = true) : (rowK k).length = z ∧ rowK k ≠ [] := by
  simp only [Bool.and_eq_true] at h
  have h1 := Nat.eq_of_beq_eq_true h.1
  have h2 : 0 < z := Nat.le_of_ble_eq_true h.2
  refine ⟨h1, fun e => ?_⟩
  rw [e] at h1
  simp at h1
  omega

theorem run_loadA {cx : Cx} (H : HR ρ cx.globs K w0 ι h w) {t : TypeId} {n off z : Nat} {i : Tm} {v : SVal} {cs : List Tm} (hl : loadA cx.P h t n off i z = some (v, cs)) (hc : ∀ c ∈ cs, (c.den ρ).asBool = true) :
    (Instr.loadAt t ((SVal.ptrA n off i z).conc ρ ι)).run cx.P w = .ok (v.conc ρ ι) w ∧ v.sc h.length = true := by
  unfold loadA at hl
  split at hl
  · rename_i b hb
    split at hl
    · rename_i own k d ha
      split at hl
      · rename_i hz
        obtain ⟨hz1, hk⟩ := row_len hz
        obtain ⟨A, c, hv, hrow⟩ := H.rowAt hb ha hk
        have key : cs = [mk2 .le (.num 0) i, mk2 .lt i (mk1 .llen d)] → ∃ g o, (SVal.ptrA n off i z).conc ρ ι = .pointer (some ⟨g, o + off, none⟩) ∧ CellsFrom w g o ((cksT d i 0 (rowK k)).concL ρ ι) := by
          rintro rfl
          have h0 := hc _ (List.mem_cons_self ..)
          have h1 := hc _ (List.mem_cons_of_mem _ (List.mem_singleton.2 rfl))
          rw [mk2_den] at h0 h1
          rw [mk1_den] at h1
          have h0' : (0 : Int) ≤ (i.den ρ).asInt := of_decide_eq_true h0
          have h1' : (i.den ρ).asInt < (((d.den ρ).asList.length : Nat) : Int) := of_decide_eq_true h1
          have hne : (d.den ρ).asList ≠ [] := by intro e; rw [e] at h1'; simp at h1'; omega
          obtain ⟨g, o, rfl, hcell⟩ := hrow hne
          refine ⟨g, o + (i.den ρ).asInt.toNat * z, ?_, fun j u hu => ?_⟩
          · simp only [SVal.conc, rowPtr, hv, rowBase, Nat.add_assoc]
          · rw [cksT_conc] at hu
            simp only [List.getElem?_map, Option.map_eq_some_iff] at hu
            obtain ⟨⟨ck, j'⟩, hj, rfl⟩ := hu
            rw [List.getElem?_zipIdx] at hj
            simp only [Option.map_eq_some_iff, Prod.mk.injEq, Nat.zero_add] at hj
            obtain ⟨ck', hj, rfl, rfl⟩ := hj
            have := hcell (i.den ρ).asInt.toNat j ck' (by omega) hj
            rw [hz1] at this
            exact this
        split at hl
        · rename_i m ha' hm
          split at hl
          · rename_i hle
            simp only [Option.some.injEq, Prod.mk.injEq] at hl
            obtain ⟨rfl, rfl⟩ := hl
            obtain ⟨g, o, e, hcf⟩ := key rfl
            rw [e]
            exact ⟨run_load_aggF hcf ha' hm (by rw [cksT_len, hz1]; exact Nat.le_of_ble_eq_true hle), by simp only [SVal.sc]; exact SVal.sc_takeN _ _ (SVal.sc_dropN _ _ (cksT_sc _ _ _ _ _))⟩
          · cases hl
        · rename_i ha'
          simp only [Option.map_eq_some_iff, Prod.mk.injEq] at hl
          obtain ⟨u, hu, rfl, rfl⟩ := hl
          obtain ⟨g, o, e, hcf⟩ := key rfl
          rw [e]
          exact ⟨run_load_oneF hcf ha' hu, SVal.sc_nth _ _ _ (cksT_sc _ _ _ _ _) hu⟩
        · cases hl
      · cases hl
    · cases hl
  · cases hl

theorem run_loadT {cx : Cx} (H : HR ρ cx.globs K w0 ι h w) {t : TypeId} {a v : SVal} {cs : List Tm} (hl : loadT cx h t a = some (v, cs)) (hc : ∀ c ∈ cs, (c.den ρ).asBool = true) :
    (Instr.loadAt t (a.conc ρ ι)).run cx.P w = .ok (v.conc ρ ι) w ∧ v.sc h.length = true := by
  unfold loadT at hl
  split at hl
  · exact run_loadA H hl hc
  · rename_i b off
    split at hl
    · rename_i blk hb
      have hca := H.cellsAt hb
      have hsc := (H.blocks _ _ hb).2.2
      split at hl
      · rename_i z ha hz
        split at hl
        · rename_i hle
          simp only [Option.some.injEq, Prod.mk.injEq] at hl
          obtain ⟨rfl, rfl⟩ := hl
          exact ⟨run_load_agg hca ha hz (Nat.le_of_ble_eq_true hle), by simp only [SVal.sc]; exact SVal.sc_takeN _ _ (SVal.sc_dropN _ _ hsc)⟩
        · cases hl
      · rename_i ha
        simp only [Option.map_eq_some_iff, Prod.mk.injEq] at hl
        obtain ⟨u, hu, rfl, rfl⟩ := hl
        exact ⟨run_load_one hca ha hu, SVal.sc_nth _ _ _ hsc hu⟩
      · cases hl
    · cases hl
  · rename_i g off
    split at hl
    · rename_i cells hg
      have hca := H.globAt (mem_of_lookup hg)
      have hsc := (H.globs _ _ (mem_of_lookup hg)).2.1
      split at hl
      · rename_i z ha hz
        split at hl
        · rename_i hle
          simp only [Option.some.injEq, Prod.mk.injEq] at hl
          obtain ⟨rfl, rfl⟩ := hl
          exact ⟨run_load_agg hca ha hz (Nat.le_of_ble_eq_true hle), by simp only [SVal.sc]; exact SVal.sc_takeN _ _ (SVal.sc_dropN _ _ (SVal.sc_mono (Nat.zero_le _) _ hsc))⟩
        · cases hl
      · rename_i ha
        simp only [Option.map_eq_some_iff, Prod.mk.injEq] at hl
        obtain ⟨u, hu, rfl, rfl⟩ := hl
        exact ⟨run_load_one hca ha hu, SVal.sc_nth _ _ _ (SVal.sc_mono (Nat.zero_le _) _ hsc) hu⟩
      · cases hl
    · cases hl
  · rename_i b off i z
    split at hl
    · rename_i blk hb
      have hca := H.cellsAt hb
      have hsc := (H.blocks _ _ hb).2.2
      simp only at hl
      split at hl
      · rename_i ha hz
        split at hl
        · rename_i l hch
          simp only [Option.map_eq_some_iff, Prod.mk.injEq] at hl
          obtain ⟨u, hu, rfl, rfl⟩ := hl
          have h0 := hc _ (List.mem_cons_self ..)
          have h1 := hc _ (List.mem_cons_of_mem _ (List.mem_singleton.2 rfl))
          rw [mk2_den] at h0 h1
          have h0' : (0 : Int) ≤ (i.den ρ).asInt := of_decide_eq_true h0
          have h1' : (i.den ρ).asInt < (((headOf i l).length : Nat) : Int) := of_decide_eq_true h1
          obtain ⟨hlen, hch'⟩ := chunks_spec hch
          obtain ⟨y, hy1, hy2⟩ := selectV_conc (ρ := ρ) (ι := ι) i (headOf i l) 0 u hu (by simpa using h0') (by simpa using h1')
          have hp := hch' _ _ (headOf_get hy1)
          have e0 : ((i.den ρ).asInt - ((0 : Nat) : Int)).toNat = (i.den ρ).asInt.toNat := by simp
          rw [e0] at hp
          unfold partT at hp
          rw [ha] at hp
          simp only at hp
          refine ⟨?_, selectV_sc i _ (headOf i l) 0 u hu (fun u hu => chunks_sc hch hsc u (headOf_mem hu))⟩
          rw [hy2]
          exact run_load_one hca ha hp
        · cases hl
      · cases hl
    · cases hl
  · cases hl

theorem run_fieldAddrT {s : TypeId} {x v : SVal} {f n : Nat} (hx : x.sc n = true) (h : fieldAddrT P s x f = some v) :
    (Instr.fieldAt s (x.conc ρ ι) f).run P w = .ok (v.conc ρ ι) w ∧ v.sc n = true := by
  unfold fieldAddrT at h
  split at h
  · rename_i fs hu
    split at h
    · rename_i fd hf
      split at h
      · rename_i z hz
        have hfp : ∀ a : Addr, (fieldPlace a fd).run P w = .ok (a.add fd.offset) w := by
          intro a; simp [fieldPlace, run_sizeT w hz]
        split at h <;> simp only [Option.some.injEq, reduceCtorEq] at h <;> subst h
        all_goals
          refine ⟨?_, by first | exact hx | simpa [SVal.sc] using hx⟩
          simp only [Instr.fieldAt, Sem.run_bind, run_underlying hu, Result.andThen_ok, hf, SVal.conc, rowPtr, Instr.sureAddr, Sem.run_pure, hfp, addr_add]
        · rw [Nat.add_right_comm]
        · simp only [Nat.add_assoc]
      · cases h
    · cases h
  · cases h

theorem run_fieldT {s : TypeId} {x v : SVal} {f n : Nat} (hx : x.sc n = true) (h : fieldT P s x f = some v) :
    (Instr.field s (x.conc ρ ι) f).run P w = .ok (v.conc ρ ι) w ∧ v.sc n = true := by
  unfold fieldT at h
  split at h
  · rename_i fs hu
    split at h
    · rename_i fd hf
      split at h
      · refine ⟨?_, partT_sc h hx⟩
        simp only [Instr.field, Sem.run_bind, run_underlying hu, Result.andThen_ok, hf, SVal.conc, asAgg, Sem.run_pure, run_partT w h]
      · cases h
    · cases h
  · cases h

theorem below?_spec {k : Int} {n j : Nat} (h : below? k n = some j) : k = j ∧ j < n := by
  unfold below? at h
  split at h
  · split at h
    · rename_i hb
      simp at h; subst h
      exact ⟨rfl, Nat.lt_of_lt_of_le (Nat.lt_of_succ_le (Nat.le_of_ble_eq_true hb)) (Nat.le_refl _)⟩
    · cases h
  · cases h

theorem lit?_spec {t : Tm} {k : Int} (h : lit? t = some k) : t = .num k := by
  cases t <;> simp [lit?] at h; subst h; rfl

theorem run_idxA {cx : Cx} (H : HR ρ cx.globs K w0 ι h w) {t : TypeId} {n : Nat} {i v : SVal} {cs : List Tm} (hl : idxA cx.P h t n i = some (v, cs)) (hc : ∀ c ∈ cs, (c.den ρ).asBool = true) (hn : n < h.length) :
    (Instr.indexAt t ((SVal.abs n).conc ρ ι) (i.conc ρ ι)).run cx.P w = .ok (v.conc ρ ι) w ∧ v.sc h.length = true := by
  unfold idxA at hl
  split at hl
  · rename_i ki ti e b hu hb
    split at hl
    · rename_i own k d z ha hz
      split at hl
      · rename_i hz'
        simp only [Option.some.injEq, Prod.mk.injEq] at hl
        obtain ⟨rfl, rfl⟩ := hl
        obtain ⟨hz1, hk⟩ := row_len hz'
        obtain ⟨A, c, hv, hrow⟩ := H.rowAt hb ha hk
        have h0 := hc _ (List.mem_cons_self ..)
        have h1 := hc _ (List.mem_cons_of_mem _ (List.mem_singleton.2 rfl))
        rw [mk2_den] at h0 h1
        rw [mk1_den] at h1
        have h0' : (0 : Int) ≤ (ti.den ρ).asInt := of_decide_eq_true h0
        have h1' : (ti.den ρ).asInt < (((d.den ρ).asList.length : Nat) : Int) := of_decide_eq_true h1
        have hne : (d.den ρ).asList ≠ [] := by intro e; rw [e] at h1'; simp at h1'; omega
        obtain ⟨g, o, rfl, _⟩ := hrow hne
        refine ⟨?_, by simpa [SVal.sc] using hn⟩
        simp only [SVal.conc, rowPtr, hv, rowBase, Nat.add_zero]
        simp [Instr.indexAt, asIntOf, run_underlying hu, run_sizeT w hz, h0', h1', addr_add]
      · cases hl
    · cases hl
  · cases hl

theorem run_indexAddrT {t : TypeId} {x i v : SVal} {cs : List Tm} {n : Nat} (hx : x.sc n = true) (h : indexAddrT P t x i = some (v, cs)) (hc : ∀ c ∈ cs, (c.den ρ).asBool = true) :
    (Instr.indexAt t (x.conc ρ ι) (i.conc ρ ι)).run P w = .ok (v.conc ρ ι) w ∧ v.sc n = true := by
  unfold indexAddrT at h
  split at h
  · rename_i ki ti
    have two : ∀ (m : Nat), cs = [mk2 .le (.num 0) ti, mk2 .lt ti (.num m)] → (0 : Int) ≤ (ti.den ρ).asInt ∧ (ti.den ρ).asInt < m := by
      rintro m rfl
      have h0 := hc _ (List.mem_cons_self ..)
      have h1 := hc _ (List.mem_cons_of_mem _ (List.mem_singleton.2 rfl))
      rw [mk2_den] at h0 h1
      exact ⟨of_decide_eq_true h0, of_decide_eq_true h1⟩
    split at h
    · rename_i m e b off hu
      split at h
      · rename_i z hz
        split at h
        · rename_i k hk
          simp only [Option.map_eq_some_iff, Prod.mk.injEq] at h
          obtain ⟨j, hj, rfl, rfl⟩ := h
          obtain ⟨rfl, hjm⟩ := below?_spec hj
          rw [lit?_spec hk]
          refine ⟨?_, by simpa [SVal.sc] using hx⟩
          simp [Instr.indexAt, SVal.conc, asIntOf, run_underlying hu, Instr.sureAddr, run_sizeT w hz, Tm.den, hjm, addr_add]
        · simp only [Option.some.injEq, Prod.mk.injEq] at h
          obtain ⟨rfl, rfl⟩ := h
          obtain ⟨h0, h1⟩ := two m rfl
          refine ⟨?_, by simpa [SVal.sc] using hx⟩
          simp [Instr.indexAt, SVal.conc, asIntOf, run_underlying hu, Instr.sureAddr, run_sizeT w hz, h0, h1, addr_add]
      · cases h
    · rename_i m e g off hu
      split at h
      · rename_i z k hz hk
        simp only [Option.map_eq_some_iff, Prod.mk.injEq] at h
        obtain ⟨j, hj, rfl, rfl⟩ := h
        obtain ⟨rfl, hjm⟩ := below?_spec hj
        rw [lit?_spec hk]
        refine ⟨?_, by simp [SVal.sc]⟩
        simp [Instr.indexAt, SVal.conc, asIntOf, run_underlying hu, Instr.sureAddr, run_sizeT w hz, Tm.den, hjm, addr_add]
      · cases h
    · rename_i e b off m cap hu
      have hb : b < n := by
        simp only [SVal.sc, Bool.and_eq_true, decide_eq_true_eq] at hx
        exact hx.1
      split at h
      · rename_i z hz
        split at h
        · rename_i k hk
          simp only [Option.map_eq_some_iff, Prod.mk.injEq] at h
          obtain ⟨j, hj, rfl, rfl⟩ := h
          obtain ⟨rfl, hjm⟩ := below?_spec hj
          rw [lit?_spec hk]
          refine ⟨?_, by simpa [SVal.sc] using hb⟩
          simp [Instr.indexAt, SVal.conc, asIntOf, run_underlying hu, run_sizeT w hz, Tm.den, hjm, addr_add]
        · simp only [Option.some.injEq, Prod.mk.injEq] at h
          obtain ⟨rfl, rfl⟩ := h
          obtain ⟨h0, h1⟩ := two m rfl
          refine ⟨?_, by simpa [SVal.sc] using hb⟩
          simp [Instr.indexAt, SVal.conc, asIntOf, run_underlying hu, run_sizeT w hz, h0, h1, addr_add]
      · cases h
    · cases h
  · cases h

theorem run_indexT {t : TypeId} {x i v : SVal} {cs : List Tm} {n : Nat} (hx : x.sc n = true) (h : indexT P t x i = some (v, cs)) (hc : ∀ c ∈ cs, (c.den ρ).asBool = true) :
    (Instr.index t (x.conc ρ ι) (i.conc ρ ι)).run P w = .ok (v.conc ρ ι) w ∧ v.sc n = true := by
  unfold indexT at h
  split at h
  · rename_i ki ti
    split at h
    · rename_i m e l hu
      split at h
      · rename_i z hz
        split at h
        · rename_i k hk
          split at h
          · rename_i j hj
            simp only [Option.map_eq_some_iff, Prod.mk.injEq] at h
            obtain ⟨u, hu', rfl, rfl⟩ := h
            obtain ⟨rfl, hjm⟩ := below?_spec hj
            rw [lit?_spec hk]
            refine ⟨?_, partT_sc hu' hx⟩
            have := run_partT (ρ := ρ) (ι := ι) w hu'
            simp [Instr.index, SVal.conc, asIntOf, run_underlying hu, run_sizeT w hz, Tm.den, hjm, this]
          · cases h
        · split at h
          · rename_i cl hch
            simp only [Option.map_eq_some_iff, Prod.mk.injEq] at h
            obtain ⟨u, hu', rfl, rfl⟩ := h
            have h0 := hc _ (List.mem_cons_self ..)
            have h1 := hc _ (List.mem_cons_of_mem _ (List.mem_singleton.2 rfl))
            rw [mk2_den] at h0 h1
            have h0' : (0 : Int) ≤ (ti.den ρ).asInt := of_decide_eq_true h0
            have h1' : (ti.den ρ).asInt < (m : Int) := of_decide_eq_true h1
            obtain ⟨hlen, hch'⟩ := chunks_spec hch
            obtain ⟨y, hy1, hy2⟩ := selectV_conc (ρ := ρ) (ι := ι) ti cl 0 u hu' (by simpa using h0') (by rw [hlen]; simpa using h1')
            have hp := hch' _ _ hy1
            simp only [Nat.zero_add] at hp
            refine ⟨?_, selectV_sc ti _ cl 0 u hu' (chunks_sc hch hx)⟩
            have := run_partT (ρ := ρ) (ι := ι) w hp
            rw [hy2]
            simp at this
            simp [Instr.index, SVal.conc, asIntOf, run_underlying hu, run_sizeT w hz, h0', h1', this]
          · cases h
      · cases h
    · rename_i s hu
      simp only [Option.some.injEq, Prod.mk.injEq] at h
      obtain ⟨rfl, rfl⟩ := h
      have h0 := hc _ (List.mem_cons_self ..)
      have h1 := hc _ (List.mem_cons_of_mem _ (List.mem_singleton.2 rfl))
      rw [mk2_den] at h0 h1
      rw [mk1_den] at h1
      have h0' : (0 : Int) ≤ (ti.den ρ).asInt := of_decide_eq_true h0
      have h1' : (ti.den ρ).asInt < ((s.den ρ).asStr.length : Int) := of_decide_eq_true h1
      refine ⟨?_, rfl⟩
      simp only [SVal.conc, mk2_den, Op2.ev, Sc.asInt_int]
      generalize (s.den ρ).asStr = l at *
      generalize (ti.den ρ).asInt = q at *
      have hq : q.toNat < l.length := by omega
      have e : (ByteArray.mk l.toArray)[q.toNat]? = some (l.getD q.toNat 0) := by
        have hsz : q.toNat < (ByteArray.mk l.toArray).size := by simp [ByteArray.size, hq]
        rw [getElem?_pos (ByteArray.mk l.toArray) q.toNat hsz]
        congr 1
        have : l.getD q.toNat 0 = l[q.toNat] := by simp [List.getD, hq]
        rw [this]
        rfl
      simp [Instr.index, asIntOf, run_underlying hu, h0', e]
    · cases h
  · cases h

/-- OPERATIONS THAT LEAVE THE HEAP ALONE. -/
theorem run_lenA {cx : Cx} (H : HR ρ cx.globs K w0 ι h w) {t : TypeId} {n : Nat} {v : SVal} (ty : TypeId) (hl : lenA cx.P h t n = some v) :
    (Builtin.len_ #[t] ty #[(SVal.abs n).conc ρ ι]).run cx.P w = .ok (v.conc ρ ι) w ∧ ∀ n, v.sc n = true := by
  unfold lenA at hl
  split at hl
  · rename_i b hu hb
    split at hl
    · rename_i own k d ha
      split at hl
      · rename_i hk
        simp only [Option.some.injEq] at hl
        subst hl
        have hk : k < 100 := Nat.le_of_ble_eq_true hk
        obtain ⟨_, h2, _⟩ := H.blocks _ _ hb
        unfold Blk.Ok at h2
        rw [ha] at h2
        have : ∃ (p : Option Addr) (c : Nat), (ι.val n).v = .slice p (d.den ρ).asList.length c := by
          cases own
          · obtain ⟨_, _, F, h3, _⟩ := h2
            exact ρ.ab.len _ _ _ _ _ hk h3
          · exact ρ.ab.len _ _ _ _ _ hk h2.2
        obtain ⟨p, c, hv⟩ := this
        refine ⟨?_, fun n => rfl⟩
        simp only [SVal.conc, mk1_den, Op1.ev, Sc.asInt_int, hv]
        simp [Builtin.len_, run_underlying hu, goInt]
      · split at hl
        · cases hl
        · rename_i _ _ hk
          simp only [Option.some.injEq] at hl
          subst hl
          obtain ⟨p, c, hv, _⟩ := H.rowAt hb ha (by rw [hk]; simp)
          refine ⟨?_, fun n => rfl⟩
          simp only [SVal.conc, mk1_den, Op1.ev, Sc.asInt_int, hv]
          simp [Builtin.len_, run_underlying hu, goInt]
    · cases hl
  · cases hl

theorem knowV_conc {ρ : Env} {ι : Nm} {pc : Tm} (hp : (pc.den ρ).asBool = true) (v : SVal) : (knowV pc v).conc ρ ι = v.conc ρ ι ∧ ∀ n, (knowV pc v).sc n = v.sc n := by
  unfold knowV
  split
  · rename_i t
    split
    · rename_i b hb
      exact ⟨by simp only [SVal.conc, Tm.den, decideT_den hp hb, Sc.asBool_bool], fun _ => rfl⟩
    · exact ⟨rfl, fun _ => rfl⟩
  · exact ⟨rfl, fun _ => rfl⟩

/-- A bound that is given. -/
def BoundAt (d n : Nat) : Option Value → Prop
  | none => n = d
  | some v => ∃ k : IntKind, v = .int k n

theorem boundE_ok {n : Nat} {slots : Slots} {a : Act} (hs : SlotsOk ρ ι n slots a) {d m : Nat} {b : Option Operand} (h : boundE slots d b = some m) : BoundAt d m (b.map a.eval) := by
  unfold boundE at h
  split at h
  · simp only [Option.some.injEq] at h
    exact h.symm
  · split at h
    · rename_i x k z hz
      split at h
      · rename_i h0
        have h0 := of_decide_eq_true h0
        simp only [Option.some.injEq] at h
        subst h
        have := (evO_conc hs hz).1
        refine ⟨k, ?_⟩
        rw [this]
        simp only [SVal.conc, Tm.den, Sc.asInt_int, Int.toNat_of_nonneg h0]
      · cases h
    · cases h

theorem run_bound {P : Program} (w : World) (k : IntKind) {n y : Nat} (h : n ≤ y) (code : BoundsCode) : (Instr.sliceBound (.int k n) y code).run P w = .ok n w := by
  have h2 : (0 : Int) ≤ (n : Int) ∧ (n : Int) ≤ (y : Int) := ⟨by omega, by omega⟩
  simp [Instr.sliceBound, asIntOf, h2]

theorem run_sliceT {P : Program} (w : World) {t : TypeId} {s : List UInt8} {lo hi : Option Value} {l h : Nat} (hu : P.underlying t = some .string) (hl : BoundAt 0 l lo) (hh : BoundAt s.length h hi) (h1 : l ≤ h) (h2 : h ≤ s.length) :
    (Instr.sliceAt t (.string ⟨s.toArray⟩) lo hi none).run P w = .ok (.string ⟨((s.drop l).take (h - l)).toArray⟩) w := by
  have hsz : (⟨s.toArray⟩ : ByteArray).size = s.length := by simp [ByteArray.size]
  have hb : (Instr.sliceBounds false (⟨s.toArray⟩ : ByteArray).size (⟨s.toArray⟩ : ByteArray).size lo hi none).run P w = .ok (l, h, s.length) w := by
    rw [hsz]
    cases lo with
    | none =>
      have hl : l = 0 := hl
      subst hl
      cases hi with
      | none =>
        have hh : h = s.length := hh
        subst hh
        simp [Instr.sliceBounds]
      | some v =>
        obtain ⟨k, rfl⟩ := hh
        simp [Instr.sliceBounds, run_bound w k h2]
    | some u =>
      obtain ⟨k', rfl⟩ := hl
      cases hi with
      | none =>
        have hh : h = s.length := hh
        subst hh
        simp [Instr.sliceBounds, run_bound w k' h1]
      | some v =>
        obtain ⟨k, rfl⟩ := hh
        simp [Instr.sliceBounds, run_bound w k h2, run_bound w k' h1]
  have hx : (⟨s.toArray⟩ : ByteArray).extract l h = ⟨((s.drop l).take (h - l)).toArray⟩ := by
    apply ByteArray.ext
    simp [ByteArray.data_extract]
  simp only [Instr.sliceAt, Sem.run_bind, run_underlying hu, Result.andThen_ok]
  simp [Instr.slice, run_underlying hu, hb, hx]

theorem run_pureOp {cx : Cx} (ok : cx.Ok) {slots : Slots} {a : Act} {pc : Tm} {o : Oper} {v : SVal} {cs : List Tm}
    (hp : pureOp cx slots h pc o = some (v, cs)) (hs : SlotsOk ρ ι h.length slots a) (H : HR ρ cx.globs K w0 ι h w) (hpc : (pc.den ρ).asBool = true) (hc : ∀ c ∈ cs, (c.den ρ).asBool = true) :
    (execOp a.eval o).run cx.P w = .ok (.value (v.conc ρ ι)) w ∧ v.sc h.length = true := by
  unfold pureOp at hp
  unfold execOp
  split at hp
  · -- move
    rename_i x ho
    simp only [Option.map_eq_some_iff, Prod.mk.injEq] at hp
    obtain ⟨u, hu, rfl, rfl⟩ := hp
    obtain ⟨h1, h2⟩ := evO_conc hs hu
    simp [ho, h1, h2]
  · rename_i x ho
    simp only [Option.map_eq_some_iff, Prod.mk.injEq] at hp
    obtain ⟨u, hu, rfl, rfl⟩ := hp
    obtain ⟨h1, h2⟩ := evO_conc hs hu
    simp [ho, h1, h2]
  · rename_i c x y ho
    split at hp
    · rename_i t ht
      have hcb := (evO_conc hs ht).1
      simp only [SVal.conc] at hcb
      split at hp
      · rename_i hd
        simp only [Option.map_eq_some_iff, Prod.mk.injEq] at hp
        obtain ⟨u, hu, rfl, rfl⟩ := hp
        obtain ⟨h1, h2⟩ := evO_conc hs hu
        simp [ho, hcb, asBool, decideT_den hpc hd, h1, h2]
      · rename_i hd
        simp only [Option.map_eq_some_iff, Prod.mk.injEq] at hp
        obtain ⟨u, hu, rfl, rfl⟩ := hp
        obtain ⟨h1, h2⟩ := evO_conc hs hu
        simp [ho, hcb, asBool, decideT_den hpc hd, h1, h2]
      · split at hp
        · rename_i u v' hu hv
          simp only [Option.map_eq_some_iff, Prod.mk.injEq] at hp
          obtain ⟨m, hm, rfl, rfl⟩ := hp
          obtain ⟨h1, h2⟩ := evO_conc hs hu
          obtain ⟨h3, h4⟩ := evO_conc hs hv
          obtain ⟨k1, _, k3⟩ := mergeV_conc (ρ := ρ) (ι := ι) t h.length _ _ _ hm
          refine ⟨?_, k3 h2 h4⟩
          simp only [ho, hcb, asBool, Sem.run_bind, Sem.run_pure, Result.andThen_ok, h1, h3, k1]
          cases (t.den ρ).asBool <;> rfl
        · cases hp
    · cases hp
  · rename_i t parts ho
    split at hp
    · rename_i ps hps
      simp only [Option.map_eq_some_iff, Prod.mk.injEq] at hp
      obtain ⟨u, hu, rfl, rfl⟩ := hp
      obtain ⟨h1, h2⟩ := evParts_conc hs hps
      obtain ⟨k1, k2⟩ := run_buildT (ρ := ρ) (ι := ι) w hu
      have e : (parts.map fun (x : Nat × Operand) => (x.1, a.eval x.2)) = (ps.map fun p => (p.1, p.2.conc ρ ι)).toArray := by
        apply Array.ext'
        simp [h1]
      refine ⟨?_, k2 _ h2⟩
      simp only [ho, Sem.run_bind]
      rw [show (parts.map fun x => match x with | (i, x) => (i, a.eval x)) = (parts.map fun (x : Nat × Operand) => (x.1, a.eval x.2)) from rfl, e, k1]
      rfl
    · cases hp
  · rename_i t x ho
    split at hp
    · rename_i p hx
      obtain ⟨h1, h2⟩ := evO_conc hs hx
      obtain ⟨k1, k2⟩ := run_loadT H hp hc
      exact ⟨by simp [ho, h1, k1], k2⟩
    · cases hp
  · rename_i x ho
    split at hp
    · rename_i b off hx
      obtain ⟨h1, h2⟩ := evO_conc hs hx
      simp only [Option.some.injEq, Prod.mk.injEq] at hp
      obtain ⟨rfl, rfl⟩ := hp
      simp only [SVal.conc] at h1
      exact ⟨by simp [ho, h1, SVal.conc], h2⟩
    · rename_i b off hx
      obtain ⟨h1, h2⟩ := evO_conc hs hx
      simp only [Option.some.injEq, Prod.mk.injEq] at hp
      obtain ⟨rfl, rfl⟩ := hp
      simp only [SVal.conc] at h1
      exact ⟨by simp [ho, h1, SVal.conc], h2⟩
    · rename_i f x y hx
      obtain ⟨h1, h2⟩ := evO_conc hs hx
      simp only [Option.some.injEq, Prod.mk.injEq] at hp
      obtain ⟨rfl, rfl⟩ := hp
      simp only [SVal.conc] at h1
      exact ⟨by simp [ho, h1, SVal.conc], h2⟩
    · cases hp
  · rename_i op t x y ty ho
    split at hp
    · rename_i u v' hu hv
      obtain ⟨h1, h2⟩ := evO_conc hs hu
      obtain ⟨h3, h4⟩ := evO_conc hs hv
      simp only [Option.map_eq_some_iff, Prod.mk.injEq] at hp
      obtain ⟨⟨r1, r2⟩, hp, rfl, rfl⟩ := hp
      obtain ⟨k1, k2⟩ := run_binT (ρ := ρ) (ι := ι) w ok (X := x) (Y := y) hp hc
      obtain ⟨q1, q2⟩ := knowV_conc (ι := ι) hpc r1
      have q : (match cx.fold with | true => knowV pc r1 | false => r1).conc ρ ι = r1.conc ρ ι ∧ (match cx.fold with | true => knowV pc r1 | false => r1).sc h.length = r1.sc h.length := by
        cases cx.fold
        · exact ⟨rfl, rfl⟩
        · exact ⟨q1, q2 _⟩
      refine ⟨?_, q.2.trans (k2 _)⟩
      refine Eq.trans (b := .ok (.value (r1.conc ρ ι)) w) ?_ (congrArg (fun v => Result.ok (Next.value v) w) q.1.symm)
      simp only [ho, h1, h3]
      have e : (do eqGuard op t x y (SVal.conc ρ ι u) (SVal.conc ρ ι v'); binOp op t (SVal.conc ρ ι u) (SVal.conc ρ ι v') : Sem Value) = (eqGuard op t x y (SVal.conc ρ ι u) (SVal.conc ρ ι v')).bind fun _ => binOp op t (SVal.conc ρ ι u) (SVal.conc ρ ι v') := rfl
      rw [e, Sem.run_bind, k1]
      rfl
    · cases hp
  · rename_i op t x ho
    split at hp
    · rename_i u hu
      simp only [Option.map_eq_some_iff, Prod.mk.injEq] at hp
      obtain ⟨m, hm, rfl, rfl⟩ := hp
      obtain ⟨h1, h2⟩ := evO_conc hs hu
      obtain ⟨k1, k2⟩ := run_unT (ρ := ρ) (ι := ι) (P := cx.P) w hm
      exact ⟨by simp [ho, h1, k1], k2 _⟩
    · cases hp
  · rename_i s d x ho
    split at hp
    · rename_i b off n c hu
      obtain ⟨h1, h2⟩ := evO_conc hs hu
      split at hp
      · rename_i v hv
        simp only [Option.some.injEq, Prod.mk.injEq] at hp
        obtain ⟨rfl, rfl⟩ := hp
        obtain ⟨k1, k2⟩ := run_strOf (c := c) H hv
        exact ⟨by simp [ho, h1, k1], k2 _⟩
      · simp only [Option.map_eq_some_iff, Prod.mk.injEq] at hp
        obtain ⟨m, hm, rfl, rfl⟩ := hp
        obtain ⟨k1, k2⟩ := run_convT (ρ := ρ) (ι := ι) (P := cx.P) w hm
        exact ⟨by simp [ho, h1, k1], k2 _⟩
    · rename_i u _ hu
      simp only [Option.map_eq_some_iff, Prod.mk.injEq] at hp
      obtain ⟨m, hm, rfl, rfl⟩ := hp
      obtain ⟨h1, h2⟩ := evO_conc hs hu
      obtain ⟨k1, k2⟩ := run_convT (ρ := ρ) (ι := ι) (P := cx.P) w hm
      exact ⟨by simp [ho, h1, k1], k2 _⟩
    · cases hp
  · rename_i fn first captured ho
    split at hp
    · rename_i x y hx hy
      simp only [Option.some.injEq, Prod.mk.injEq] at hp
      obtain ⟨rfl, rfl⟩ := hp
      obtain ⟨h1, h2⟩ := evs_conc hs hx
      obtain ⟨h3, h4⟩ := evs_conc hs hy
      refine ⟨?_, by simp [SVal.sc, SVal.sc_ofList _ h2, SVal.sc_ofList _ h4]⟩
      have e1 : first.map a.eval = (x.map (·.conc ρ ι)).toArray := by apply Array.ext'; simp [h1]
      have e2 : captured.map a.eval = (y.map (·.conc ρ ι)).toArray := by apply Array.ext'; simp [h3]
      simp [ho, Instr.makeFunc, SVal.conc, SVal.concL_ofList, e1, e2]
    · cases hp
  · rename_i s x f ho
    split at hp
    · rename_i u hu
      simp only [Option.map_eq_some_iff, Prod.mk.injEq] at hp
      obtain ⟨m, hm, rfl, rfl⟩ := hp
      obtain ⟨h1, h2⟩ := evO_conc hs hu
      obtain ⟨k1, k2⟩ := run_fieldAddrT (ρ := ρ) (ι := ι) (w := w) h2 hm
      exact ⟨by simp [ho, h1, k1], k2⟩
    · cases hp
  · rename_i s x f ho
    split at hp
    · rename_i u hu
      simp only [Option.map_eq_some_iff, Prod.mk.injEq] at hp
      obtain ⟨m, hm, rfl, rfl⟩ := hp
      obtain ⟨h1, h2⟩ := evO_conc hs hu
      obtain ⟨k1, k2⟩ := run_fieldT (ρ := ρ) (ι := ι) (w := w) h2 hm
      exact ⟨by simp [ho, h1, k1], k2⟩
    · cases hp
  · rename_i t x i ho
    split at hp
    · rename_i n v' hu hv
      obtain ⟨h1, h2⟩ := evO_conc hs hu
      obtain ⟨h3, h4⟩ := evO_conc hs hv
      obtain ⟨k1, k2⟩ := run_idxA H hp hc (by simpa [SVal.sc] using h2)
      exact ⟨by simp [ho, h1, h3, k1], k2⟩
    · rename_i u v' _ hu hv
      obtain ⟨h1, h2⟩ := evO_conc hs hu
      obtain ⟨h3, h4⟩ := evO_conc hs hv
      obtain ⟨k1, k2⟩ := run_indexAddrT (ρ := ρ) (ι := ι) (w := w) h2 hp hc
      exact ⟨by simp [ho, h1, h3, k1], k2⟩
    · cases hp
  · rename_i t x i ho
    split at hp
    · rename_i u v' hu hv
      obtain ⟨h1, h2⟩ := evO_conc hs hu
      obtain ⟨h3, h4⟩ := evO_conc hs hv
      obtain ⟨k1, k2⟩ := run_indexT (ρ := ρ) (ι := ι) (w := w) h2 hp hc
      exact ⟨by simp [ho, h1, h3, k1], k2⟩
    · cases hp
  · rename_i x i ho
    split at hp
    · rename_i l hu
      simp only [Option.map_eq_some_iff, Prod.mk.injEq] at hp
      obtain ⟨m, hm, rfl, rfl⟩ := hp
      obtain ⟨h1, h2⟩ := evO_conc hs hu
      simp only [SVal.conc] at h1
      have := SVal.concL_nth ρ ι l i
      rw [hm] at this
      exact ⟨by simp [ho, h1, Instr.extract, this], SVal.sc_nth l _ _ (by simpa only [SVal.sc] using h2) hm⟩
    · cases hp
  · rename_i t x lo hi ho
    split at hp
    · rename_i tx hu hx
      split at hp
      · rename_i l hh hl hh'
        split at hp
        · rename_i hle
          simp only [Option.some.injEq, Prod.mk.injEq] at hp
          obtain ⟨rfl, rfl⟩ := hp
          rw [Bool.and_eq_true] at hle
          have h1 := (evO_conc hs hx).1
          refine ⟨?_, rfl⟩
          simp only [ho, h1, Option.map_none]
          have := run_sliceT (P := cx.P) w hu (boundE_ok hs hl) (boundE_ok hs hh') (Nat.le_of_ble_eq_true hle.1) (Nat.le_of_ble_eq_true hle.2)
          simp [SVal.conc, Tm.den, Sc.asStr_str, this]
        · cases hp
      · cases hp
    · cases hp
  · rename_i c ho
    split at hp
    · rename_i hcal
      split at hp
      · rename_i x t hx ht
        split at hp
        · rename_i n hu
          simp only [Option.map_eq_some_iff, Prod.mk.injEq] at hp
          obtain ⟨m, hm, rfl, rfl⟩ := hp
          obtain ⟨h1, h2⟩ := evO_conc hs hu
          obtain ⟨k1, k2⟩ := run_lenA (cx := cx) H o.type hm
          have e1 : c.args = #[x] := by apply Array.ext'; simpa using hx
          have e2 : c.argTypes = #[t] := by apply Array.ext'; simpa using ht
          refine ⟨?_, k2 _⟩
          simp only [ho, resolve, hcal, e1, e2]
          simp [invoke, builtin, h1, k1]
        · rename_i u _ hu
          simp only [Option.map_eq_some_iff, Prod.mk.injEq] at hp
          obtain ⟨m, hm, rfl, rfl⟩ := hp
          obtain ⟨h1, h2⟩ := evO_conc hs hu
          obtain ⟨k1, k2⟩ := run_lenT (ρ := ρ) (ι := ι) (P := cx.P) w o.type hm
          have e1 : c.args = #[x] := by apply Array.ext'; simpa using hx
          have e2 : c.argTypes = #[t] := by apply Array.ext'; simpa using ht
          refine ⟨?_, k2 _⟩
          simp only [ho, resolve, hcal, e1, e2]
          simp [invoke, builtin, h1, k1]
        · cases hp
      · cases hp
    · rename_i hcal
      split at hp
      · rename_i k x k' y he
        simp only [Option.some.injEq, Prod.mk.injEq] at hp
        obtain ⟨rfl, rfl⟩ := hp
        have hv := evs_conc hs he
        have e : c.args.map a.eval = #[.int k (x.den ρ).asInt, .int k' (y.den ρ).asInt] := by
          apply Array.ext'
          simpa [SVal.conc] using hv.1
        refine ⟨?_, rfl⟩
        simp only [ho, resolve, hcal]
        simp only [invoke, builtin, e, Builtin.min_, SVal.conc, mkIte_den, mk2_den, Op2.ev, Sc.asBool_bool]
        by_cases h : (y.den ρ).asInt < (x.den ρ).asInt
        · simp [h, Builtin.min2]
        · simp [h, Builtin.min2]
      · cases hp
    · rename_i hcal
      split at hp
      · rename_i k x k' y he
        simp only [Option.some.injEq, Prod.mk.injEq] at hp
        obtain ⟨rfl, rfl⟩ := hp
        have hv := evs_conc hs he
        have e : c.args.map a.eval = #[.int k (x.den ρ).asInt, .int k' (y.den ρ).asInt] := by
          apply Array.ext'
          simpa [SVal.conc] using hv.1
        refine ⟨?_, rfl⟩
        simp only [ho, resolve, hcal]
        simp only [invoke, builtin, e, Builtin.max_, SVal.conc, mkIte_den, mk2_den, Op2.ev, Sc.asBool_bool]
        by_cases h : (x.den ρ).asInt < (y.den ρ).asInt
        · simp [h, Builtin.max2]
        · simp [h, Builtin.max2]
      · cases hp
    · cases hp
  · cases hp

end
end
end Go.Sx

/- The executor is right: operations on the heap. -/
namespace Go.Sx
noncomputable section

section
variable {ρ : Env} {G : Globs} {K : Nat → Prop} {w0 w : World} {ι : Nm} {h : Heap} {P : Program}

theorem isReal_none {b : Blk} (h : b.isReal = true) : b.abs = none := by
  unfold Blk.isReal at h
  split at h
  · assumption
  · cases h

theorem getElem?_set_cases {n m : Nat} {b c : Blk} (hn : n < h.length) (hc : (h.set n (some b))[m]? = some (some c)) : (m ≠ n ∧ h[m]? = some (some c)) ∨ (m = n ∧ c = b) := by
  by_cases hm : m = n
  · subst hm; rw [List.getElem?_set_self hn] at hc; simp at hc; exact .inr ⟨rfl, hc.symm⟩
  · rw [List.getElem?_set_ne (Ne.symm hm)] at hc; exact .inl ⟨hm, hc⟩

/-- A block's cells are others. -/
theorem HR.row (H : HR ρ G K w0 ι h w) {n : Nat} {b b' : Blk} (hb : h[n]? = some (some b)) (ha : b.abs = none) (ha' : b'.abs = none) (he : b'.elem = b.elem) (cs' : Array Value) (hf : b'.Fits ρ ι (ι.cap n) cs') (hs : b'.cells.sc h.length = true) :
    HR ρ G K w0 ι (h.set n (some b')) (w.setRow (ι.blk n) cs') := by
  obtain ⟨_, _, ⟨cur, hcur, _⟩, _⟩ := H.real hb ha
  refine H.change hb ha ha' rfl rfl rfl (by simp [World.setRow]) (fun q hq => setRow_other _ _ _ _ (fun e => hq e)) ⟨cs', ?_, hf⟩ hs
  rw [setRow_heap w _ cur cs' b.elem (0, 0) hcur, he]

/-- A block gets another name. -/
theorem HR.move (H : HR ρ G K w0 ι h w) {n : Nat} {b : Blk} (hb : h[n]? = some (some b)) (ha : b.abs = none) :
    HR ρ G K w0 (ι.put h.length (ι.blk n) (ι.cap n)) ((h.set n none) ++ [some b]) w := by
  have hn : n < h.length := (List.getElem?_eq_some_iff.1 hb).1
  let ι' : Nm := ι.put h.length (ι.blk n) (ι.cap n)
  have e : Nm.Ext h.length ι ι' := Nm.ext_put ι _ _ _
  have H' := H.ext e
  have hblkn : ι'.blk h.length = ι.blk n := by simp [ι', Nm.put]
  have hcapn : ι'.cap h.length = ι.cap n := by simp [ι', Nm.put]
  have hfoot : ι'.foot h.length = (· = ι.blk n) := by simp [ι', Nm.put]
  obtain ⟨k1, kf, ⟨cs, k2, k3⟩, k4⟩ := H.real hb ha
  have hfn : ι'.foot n = (· = ι.blk n) := by rw [(e n hn).2.2.2]; exact kf
  have key : ∀ (m : Nat) (c : Blk), ((h.set n none) ++ [some b])[m]? = some (some c) → (m ≠ n ∧ h[m]? = some (some c)) ∨ (m = h.length ∧ c = b) := by
    intro m c hc
    rcases getElem?_append_new hc with h1 | ⟨h1, h2⟩
    · left
      by_cases hm : m = n
      · subst hm; rw [List.getElem?_set_self hn] at h1; simp at h1
      · rw [List.getElem?_set_ne (Ne.symm hm)] at h1; exact ⟨hm, h1⟩
    · right; exact ⟨by simpa using h1, h2⟩
  refine ⟨H.os, H.tape, H.output, H.size, H.kept, H.old, H.base, ?_, ?_, H'.globs⟩
  · intro m c hc
    rcases key m c hc with ⟨hm, h1⟩ | ⟨rfl, rfl⟩
    · obtain ⟨k1, k2, k3⟩ := H'.blocks m c h1
      exact ⟨k1, k2, SVal.sc_mono (by simp) _ k3⟩
    · refine ⟨fun q hq hK => ?_, ?_, SVal.sc_mono (by simp) _ k4⟩
      · have hq' : ι'.foot h.length q := hq
        rw [hfoot] at hq'
        obtain rfl : q = ι.blk n := hq'
        exact k1 hK
      · show c.Ok ρ K ι' h.length w
        unfold Blk.Ok
        rw [ha]
        exact ⟨by rw [hfoot, hblkn], cs, by rw [hblkn]; exact k2, by rw [hcapn]; exact k3.ext e k4⟩
  · intro m1 m2 c1 c2 hc1 hc2 q hq hq'
    rcases key m1 c1 hc1 with ⟨hm1, h1⟩ | ⟨rfl, rfl⟩ <;> rcases key m2 c2 hc2 with ⟨hm2, h2⟩ | ⟨rfl, rfl⟩
    · exact H'.inj m1 m2 c1 c2 h1 h2 q hq hq'
    · have hq2 : ι'.foot h.length q := hq'
      rw [hfoot] at hq2
      exact (hm1 (H'.inj m1 n c1 c2 h1 hb q hq (by rw [hfn]; exact hq2))).elim
    · have hq2 : ι'.foot h.length q := hq
      rw [hfoot] at hq2
      exact (hm2 (H'.inj m2 n c2 c1 h2 hb q hq' (by rw [hfn]; exact hq2))).elim
    · rfl

theorem concL_setCells' : ∀ {vs cs cs' : SVal} {i : Nat}, setCells cs i vs = some cs' → i ≤ cs.len →
    cs'.concL ρ ι = (cs.concL ρ ι).take i ++ vs.concL ρ ι ++ (cs.concL ρ ι).drop (i + vs.len) := by
  intro vs
  induction vs with
  | cons v r _ ih =>
    intro cs cs' i h hi
    simp only [setCells] at h
    split at h
    · rename_i u hu
      have hi' : i < cs.len := by
        have := SVal.concL_nth ρ ι cs i
        rw [hu] at this
        have := (List.getElem?_eq_some_iff.1 this).1
        rwa [SVal.concL_length] at this
      have hl : (cs.setAt i v).len = cs.len := by
        have := congrArg List.length (SVal.concL_setAt ρ ι cs i v)
        simpa [SVal.concL_length] using this
      rw [ih h (by omega), SVal.concL_setAt]
      have hlen := SVal.concL_length ρ ι cs
      generalize cs.concL ρ ι = l at *
      simp only [SVal.concL, SVal.len]
      have h1 : (l.set i (v.conc ρ ι)).take (i + 1) = l.take i ++ [v.conc ρ ι] := by
        rw [List.take_add_one, List.take_set_of_le (by omega)]
        simp [List.getElem?_set_self (show i < l.length by omega)]
      have h2 : (l.set i (v.conc ρ ι)).drop (i + 1 + r.len) = l.drop (i + (r.len + 1)) := by
        rw [List.drop_set_of_lt (by omega)]
        congr 1; omega
      rw [h1, h2]
      simp
    · cases h
  | _ =>
    intro cs cs' i h hi
    simp only [setCells, Option.some.injEq] at h
    subst h
    simp [SVal.concL, SVal.len]

theorem one_conc {v : SVal} (h : v.one = true) : (v.conc ρ ι).oneCell' = true := by
  cases v with
  | abs n => exact (ι.val n).one
  | _ => simp_all [SVal.one, SVal.conc, Value.oneCell', rowPtr]

theorem allOne_conc : ∀ {l : SVal}, l.allOne = true → ∀ u ∈ l.concL ρ ι, u.oneCell' = true := by
  intro l
  induction l with
  | cons a r _ ih =>
    intro h u hu
    simp only [SVal.allOne, Bool.and_eq_true] at h
    simp only [SVal.concL, List.mem_cons] at hu
    rcases hu with rfl | hu
    · exact one_conc h.1
    · exact ih h.2 u hu
  | _ => intro h u hu; simp [SVal.concL] at hu

/-- What an operation on the heap does. -/
def HeapStep (ρ : Env) (G : Globs) (K : Nat → Prop) (w0 : World) (P : Program) (ι : Nm) (h : Heap) (w : World) (s : Sem Next) (v : SVal) (h' : Heap) : Prop :=
  ∃ (ι' : Nm) (w' : World) (x : Next), s.run P w = .ok x w' ∧ (x = .value (v.conc ρ ι') ∨ (x = .skip ∧ v = undefS)) ∧ Nm.Ext h.length ι ι' ∧ h.length ≤ h'.length ∧ HR ρ G K w0 ι' h' w' ∧ v.sc h'.length = true

theorem sliceCells_spec {z : Nat} {s l : SVal} (H : HR ρ G K w0 ι h w) (hs : sliceCells h z s = some l) :
    l.len = s.sliceLen * z ∧ l.sc h.length = true ∧ (∀ b off n c, s = .slice b off n c → ∀ j v, (l.concL ρ ι)[j]? = some v → w.cell? ((⟨ι.blk b, off, none⟩ : Addr).add j) = some v) := by
  unfold sliceCells at hs
  split at hs
  · rename_i b off n c
    split at hs
    · rename_i blk hb
      split at hs
      · rename_i hle
        have hle := Nat.le_of_ble_eq_true hle
        simp only [Option.some.injEq] at hs; subst hs
        refine ⟨?_, SVal.sc_takeN _ _ (SVal.sc_dropN _ _ (H.blocks _ _ hb).2.2), ?_⟩
        · have := SVal.concL_length ρ ι ((blk.cells.dropN off).takeN (n * z))
          rw [SVal.concL_takeN, SVal.concL_dropN] at this
          simp [SVal.concL_length] at this
          simp only [SVal.sliceLen]; omega
        · rintro b' off' n' c' ⟨⟩ j v hv
          rw [addr_add]
          refine H.cellsAt hb _ _ ?_
          rw [SVal.concL_takeN, SVal.concL_dropN, List.getElem?_take] at hv
          split at hv
          · rw [List.getElem?_drop] at hv; exact hv
          · cases hv
      · cases hs
    · cases hs
  · simp at hs; subst hs
    exact ⟨by simp [SVal.len, SVal.sliceLen], rfl, by rintro _ _ _ _ ⟨⟩⟩
  · cases hs

theorem HR.drew1 (H : HR ρ G K w0 ι h w) : HR ρ G K w0 ι h w.drew := H.drew _

theorem le_grownCap (w : World) (need old : Nat) (e : TypeId) : need ≤ grownCap w need old e := by
  simp only [grownCap, Question.cut]; omega

theorem run_appendT (H : HR ρ G K w0 ι h w) {t : TypeId} {s x v : SVal} {h' : Heap} (ty : TypeId) (ha : appendT P h t s x = some (v, h')) :
    ∃ (ι' : Nm) (w' : World), (Builtin.append_ #[t, t] ty #[s.conc ρ ι, x.conc ρ ι]).run P w = .ok (v.conc ρ ι') w' ∧ Nm.Ext h.length ι ι' ∧ h.length ≤ h'.length ∧ HR ρ G K w0 ι' h' w' ∧ v.sc h'.length = true := by
  unfold appendT at ha
  split at ha
  · rename_i e hu
    split at ha
    · rename_i i hi
      split at ha
      · rename_i zv hzv
        split at ha
        · rename_i old new hold hnew
          split at ha
          · rename_i bx offx m cx'
            split at ha
            · cases ha
            · rename_i hcond
              simp only [Bool.and_eq_true] at hcond
              obtain ⟨⟨⟨⟨⟨hm, h48⟩, h63⟩, hzs⟩, hsz⟩, hone⟩ := hcond
              have hm : 0 < m := Nat.lt_of_succ_le (Nat.le_of_ble_eq_true hm)
              have h48 := Nat.le_of_ble_eq_true h48
              have h63 := Nat.le_of_ble_eq_true h63
              have hzs := Nat.eq_of_beq_eq_true hzs
              have hsz : 0 < i.size := Nat.lt_of_succ_le (Nat.le_of_ble_eq_true hsz)
              obtain ⟨o1, o2, o3⟩ := sliceCells_spec H hold
              obtain ⟨n1, n2, n3⟩ := sliceCells_spec H hnew
              have n3' := n3 bx offx m cx' rfl
              simp only [SVal.sliceLen] at n1
              have hln : (new.concL ρ ι).length = m * i.size := by rw [SVal.concL_length]; exact n1
              have hsc : (old.app new).sc h.length = true := SVal.sc_app _ _ o2 n2
              have grown : ∀ (cap' : Nat) (need : Nat), need = s.sliceLen + m → need ≤ cap' →
                  HR ρ G K w0 (ι.put h.length w.heap.size cap') (h ++ [some { cells := old.app new, elem := e, spare := some i.size }])
                    (w.drew.alloc (.cells ((old.concL ρ ι).toArray ++ (new.concL ρ ι).toArray ++ Builtin.zeroCells zv.cells (cap' - need)) e)) := by
                intro cap' need hneed hcap
                refine HR.alloc (b := { cells := old.app new, elem := e, spare := some i.size }) H.drew1 _ cap' hsc ?_
                refine ⟨⟨(Builtin.zeroCells zv.cells (cap' - need)).toList, by simp [SVal.concL_app]⟩, ?_⟩
                simp only [Array.size_append, List.size_toArray, size_zeroCells, SVal.concL_length, o1, n1, hzs]
                rw [← Nat.add_mul, ← hneed, ← Nat.add_mul]
                congr 1; omega
              cases s with
              | nilslice =>
                simp only [Option.some.injEq, Prod.mk.injEq] at ha
                obtain ⟨rfl, rfl⟩ := ha
                simp only [SVal.sliceLen, Nat.zero_mul, Nat.zero_add] at *
                have hold0 : old.concL ρ ι = [] := by
                  have := SVal.concL_length ρ ι old
                  rw [o1] at this
                  exact List.length_eq_zero_iff.1 this
                have hr := run_append_nil (P := P) w t ty e i zv hu hi hzv ⟨ι.blk bx, offx, none⟩ m (cx'.ev ι) (new.concL ρ ι) hln n3' hm (by omega) (by
                  have : m * i.bytes ≤ 2 * m * i.bytes := Nat.mul_le_mul_right _ (by omega)
                  omega)
                have hg := grown (grownCap w m 0 e) m rfl (le_grownCap w m 0 e)
                rw [hold0] at hg
                simp only [Array.empty_append] at hg
                refine ⟨_, _, ?_, Nm.ext_put ι _ _ _, by simp, hg, by simp [SVal.sc]⟩
                simp only [SVal.conc]
                rw [hr]
                simp [Cap.ev, Nm.put]
              | slice bs offs n cap =>
               cases cap with
               | known c =>
                simp only at ha
                split at ha
                · rename_i hlt
                  have hlt : c < n + m := Nat.lt_of_succ_le (Nat.le_of_ble_eq_true hlt)
                  simp only [Option.some.injEq, Prod.mk.injEq] at ha
                  obtain ⟨rfl, rfl⟩ := ha
                  simp only [SVal.sliceLen] at *
                  have hlo : (old.concL ρ ι).length = n * i.size := by rw [SVal.concL_length]; exact o1
                  have hcap := nextslicecap_le hlt
                  have hr := run_append_grow (P := P) w t ty e i zv hu hi hzv ⟨ι.blk bs, offs, none⟩ n c (old.concL ρ ι) hlo (o3 _ _ _ _ rfl) ⟨ι.blk bx, offx, none⟩ m (cx'.ev ι) (new.concL ρ ι) hln n3' hlt (by omega) (by
                    have : Builtin.nextslicecap (n + m) c * i.bytes ≤ 2 * (n + m) * i.bytes := Nat.mul_le_mul_right _ hcap
                    omega)
                  have hg := grown (grownCap w (n + m) c e) (n + m) rfl (le_grownCap w (n + m) c e)
                  refine ⟨_, _, ?_, Nm.ext_put ι _ _ _, by simp, hg, by simp [SVal.sc]⟩
                  simp only [SVal.conc]
                  rw [show Cap.ev ι (Cap.known c) = c from rfl, hr]
                  simp [Nm.put, Cap.ev]
                · cases ha
               | sub b' k => simp at ha
               | of b' =>
                cases offs with
                | succ q => simp at ha
                | zero =>
                simp only at ha
                split at ha
                · rename_i ob hbb hob
                  have hbb := Nat.eq_of_beq_eq_true hbb
                  subst hbb
                  split at ha
                  · rename_i z' hsp
                    split at ha
                    · rename_i hcond2
                      simp only [Bool.and_eq_true] at hcond2
                      obtain ⟨⟨⟨hz', hoblen⟩, hobe⟩, hreal⟩ := hcond2
                      have hreal := isReal_none hreal
                      have hz' := Nat.eq_of_beq_eq_true hz'
                      have hoblen := Nat.eq_of_beq_eq_true hoblen
                      have hobe := Nat.eq_of_beq_eq_true hobe
                      simp only [Option.some.injEq, Prod.mk.injEq] at ha
                      obtain ⟨rfl, rfl⟩ := ha
                      simp only [SVal.sliceLen] at *
                      have hbs : bs < h.length := (List.getElem?_eq_some_iff.1 hob).1
                      have hlo : (old.concL ρ ι).length = n * i.size := by rw [SVal.concL_length]; exact o1
                      have hle2 : h.length ≤ (h.set bs none ++ [some ({ cells := old.app new, elem := e, spare := some i.size } : Blk)]).length := by simp
                      by_cases hroom : n + m ≤ ι.cap bs
                      · obtain ⟨k1, _, ⟨cur, k2, k3⟩, k4⟩ := H.real hob hreal
                        unfold Blk.Fits at k3
                        rw [hsp] at k3
                        simp only at k3
                        obtain ⟨⟨rest, hrest⟩, hsize⟩ := k3
                        rw [← hz'] at hsize
                        rw [hobe] at k2
                        have hfit : n * i.size + (new.concL ρ ι).length ≤ cur.size := by
                          rw [hln, hsize, ← Nat.add_mul]
                          exact Nat.mul_le_mul_right _ hroom
                        have hr := run_append_room (P := P) w t ty e i hu hi (ι.blk bs) n (ι.cap bs) cur k2 ⟨ι.blk bx, offx, none⟩ m (cx'.ev ι) (new.concL ρ ι) hln n3' (allOne_conc hone) hroom hfit
                        have hold' : old.concL ρ ι = ob.cells.concL ρ ι := by
                          simp only [sliceCells, hob] at hold
                          split at hold
                          · simp only [Option.some.injEq] at hold
                            rw [← hold, SVal.concL_takeN, SVal.concL_dropN, ← hoblen]
                            rw [List.drop_zero, List.take_of_length_le (by rw [SVal.concL_length]; exact Nat.le_refl _)]
                          · cases hold
                        have htake : cur.toList.take (n * i.size) = old.concL ρ ι := by
                          rw [hrest, hold', List.take_append_of_le_length (by rw [SVal.concL_length]; omega), List.take_of_length_le (by rw [SVal.concL_length]; omega)]
                        rw [htake] at hr
                        have H2 := H.row hob hreal (b' := { cells := old.app new, elem := e, spare := some i.size }) rfl hobe.symm
                          ((old.concL ρ ι ++ new.concL ρ ι ++ cur.toList.drop (n * i.size + (new.concL ρ ι).length)).toArray)
                          (by
                            refine ⟨⟨cur.toList.drop (n * i.size + (new.concL ρ ι).length), by simp [SVal.concL_app]⟩, ?_⟩
                            rw [← hsize]
                            simp only [List.size_toArray, List.length_append, List.length_drop, Array.length_toList, hlo]
                            omega) hsc
                        have hob2 : (h.set bs (some ({ cells := old.app new, elem := e, spare := some i.size } : Blk)))[bs]? = some (some { cells := old.app new, elem := e, spare := some i.size }) := by simp [hbs]
                        have H3 := H2.move hob2 rfl
                        simp only [List.length_set, List.set_set] at H3
                        refine ⟨_, _, ?_, Nm.ext_put ι _ _ _, hle2, H3, by simp [SVal.sc]⟩
                        simp only [SVal.conc]
                        rw [show Cap.ev ι (Cap.of bs) = ι.cap bs from rfl, hr]
                        simp [Nm.put, Cap.ev]
                      · have hlt : ι.cap bs < n + m := by omega
                        have hcap := nextslicecap_le hlt
                        have hr := run_append_grow (P := P) w t ty e i zv hu hi hzv ⟨ι.blk bs, 0, none⟩ n (ι.cap bs) (old.concL ρ ι) hlo (o3 _ _ _ _ rfl) ⟨ι.blk bx, offx, none⟩ m (cx'.ev ι) (new.concL ρ ι) hln n3' hlt (by omega) (by
                          have : Builtin.nextslicecap (n + m) (ι.cap bs) * i.bytes ≤ 2 * (n + m) * i.bytes := Nat.mul_le_mul_right _ hcap
                          omega)
                        have hg := grown (grownCap w (n + m) (ι.cap bs) e) (n + m) rfl (le_grownCap w (n + m) (ι.cap bs) e)
                        have hg2 := hg.forget (h' := h.set bs none ++ [some { cells := old.app new, elem := e, spare := some i.size }]) (by
                          intro k b hk
                          rcases getElem?_append_new hk with h1 | ⟨h1, h2⟩
                          · by_cases hkb : k = bs
                            · subst hkb; rw [List.getElem?_set_self hbs] at h1; simp at h1
                            · rw [List.getElem?_set_ne (Ne.symm hkb)] at h1
                              exact ⟨by rw [List.getElem?_append_left (List.getElem?_eq_some_iff.1 h1).1]; exact h1, by
                                have := (H.blocks k b h1).2.2
                                exact SVal.sc_mono (by simp) _ this⟩
                          · subst h2
                            simp only [List.length_set] at h1
                            subst h1
                            exact ⟨by simp, SVal.sc_mono (by simp) _ hsc⟩)
                        refine ⟨_, _, ?_, Nm.ext_put ι _ _ _, hle2, hg2, by simp [SVal.sc]⟩
                        simp only [SVal.conc]
                        rw [show Cap.ev ι (Cap.of bs) = ι.cap bs from rfl, hr]
                        simp [Nm.put, Cap.ev]
                    · cases ha
                  · cases ha
                · cases ha
              | _ => simp at ha
          · cases ha
        · cases ha
      · cases ha
    · cases ha
  · cases ha

theorem repeatS_concL (z : SVal) : ∀ n : Nat, (repeatS z n).concL ρ ι = (List.replicate n (z.concL ρ ι)).flatten
  | 0 => by simp [repeatS, SVal.concL]
  | n + 1 => by simp [repeatS, SVal.concL_app, repeatS_concL z n, List.replicate_succ]

theorem repeatS_sc {z : SVal} {k : Nat} (hz : z.sc k = true) : ∀ n : Nat, (repeatS z n).sc k = true
  | 0 => rfl
  | n + 1 => SVal.sc_app _ _ hz (repeatS_sc hz n)

theorem flatten_replicate_getElem? (l : List Value) : ∀ (n i : Nat), i < n * l.length → ((List.replicate n l).flatten)[i]? = l[i % l.length]?
  | 0, i, h => by simp at h
  | n + 1, i, h => by
    rw [List.replicate_succ, List.flatten_cons]
    by_cases hi : i < l.length
    · rw [List.getElem?_append_left hi, Nat.mod_eq_of_lt hi]
    · rw [List.getElem?_append_right (by omega), flatten_replicate_getElem? l n (i - l.length) (by rw [Nat.succ_mul] at h; omega)]
      congr 1
      rw [Nat.mod_eq_sub_mod (by omega : i ≥ l.length)]

theorem run_heapOp {cx : Cx} {slots : Slots} {a : Act} {o : Oper} {v : SVal} {h' : Heap} (hp : heapOp cx slots h o = some (v, h')) (hs : SlotsOk ρ ι h.length slots a) (H : HR ρ cx.globs K w0 ι h w) :
    HeapStep ρ cx.globs K w0 cx.P ι h w (execOp a.eval o) v h' := by
  unfold heapOp at hp
  unfold HeapStep execOp
  split at hp
  · -- alloc
    rename_i e ho
    split at hp
    · rename_i z hz
      simp only [Option.some.injEq, Prod.mk.injEq] at hp
      obtain ⟨rfl, rfl⟩ := hp
      obtain ⟨z1, z2, z3⟩ := zeroT_conc (ρ := ρ) (ι := ι) w hz
      have hzc := cells_conc' (ρ := ρ) (ι := ι) z z3
      have hg := HR.alloc (b := { cells := z.cellsOf, elem := e, spare := none }) H (z.cellsOf.concL ρ ι).toArray 0 (SVal.sc_mono (Nat.zero_le _) _ (cellsOf_sc z2)) (by simp [Blk.Fits])
      refine ⟨_, _, _, ?_, .inl rfl, Nm.ext_put ι _ _ _, by simp, hg, by simp [SVal.sc]⟩
      simp only [ho, Instr.alloc, Sem.run_bind, z1, Result.andThen_ok, newVar, newRow, hzc]
      simp [SVal.conc, Nm.put]
    · cases hp
  · rename_i e x ho
    split at hp
    · rename_i u hu
      split at hp
      · rename_i hpl
        simp only [Option.some.injEq, Prod.mk.injEq] at hp
        obtain ⟨rfl, rfl⟩ := hp
        obtain ⟨h1, h2⟩ := evO_conc hs hu
        have hzc := cells_conc' (ρ := ρ) (ι := ι) u hpl
        have hg := HR.alloc (b := { cells := u.cellsOf, elem := e, spare := none }) H (u.cellsOf.concL ρ ι).toArray 0 (cellsOf_sc h2) (by simp [Blk.Fits])
        refine ⟨_, _, _, ?_, .inl rfl, Nm.ext_put ι _ _ _, by simp, hg, by simp [SVal.sc]⟩
        simp only [ho, Instr.box, Sem.run_bind, newVar, newRow, h1, hzc]
        simp [SVal.conc, Nm.put]
      · cases hp
    · cases hp
  · rename_i t n parts ho
    split at hp
    · rename_i e ps hu hps
      split at hp
      · rename_i z zv hz hzv
        split at hp
        · rename_i hcond
          simp only [Bool.and_eq_true] at hcond
          obtain ⟨⟨h24, hzl⟩, hz0⟩ := hcond
          have h24 := Nat.le_of_ble_eq_true h24
          have hzl := Nat.eq_of_beq_eq_true hzl
          have hz0 : 0 < z := Nat.lt_of_succ_le (Nat.le_of_ble_eq_true hz0)
          split at hp
          · rename_i cells hf
            simp only [Option.some.injEq, Prod.mk.injEq] at hp
            obtain ⟨rfl, rfl⟩ := hp
            obtain ⟨h1, h2⟩ := evParts_conc hs hps
            obtain ⟨z1, z2, z3⟩ := zeroT_conc (ρ := ρ) (ι := ι) w hzv
            have hzc := cells_conc' (ρ := ρ) (ι := ι) zv z3
            obtain ⟨f1, f2⟩ := fillT_conc (ρ := ρ) (ι := ι) hf
            have hcs := f2 h.length (repeatS_sc (SVal.sc_mono (Nat.zero_le _) _ (cellsOf_sc z2)) n) h2
            have hg := HR.alloc (b := { cells := cells, elem := e, spare := none }) H (cells.concL ρ ι).toArray 0 hcs (by simp [Blk.Fits])
            refine ⟨_, _, _, ?_, .inl rfl, Nm.ext_put ι _ _ _, by simp, hg, by simp [SVal.sc]⟩
            have hpe : (parts.map fun x => match x with | (i, x) => (i, a.eval x)).toList = ps.map fun p => (p.1, p.2.conc ρ ι) := by
              rw [← h1]; simp
            have hll : (zv.cellsOf.concL ρ ι).length = z := by rw [SVal.concL_length]; exact hzl
            have hinit : ((Array.range (n * z)).map fun i => (zv.cellsOf.concL ρ ι).toArray[i % (zv.cellsOf.concL ρ ι).toArray.size]!) = ((repeatS zv.cellsOf n).concL ρ ι).toArray := by
              apply Array.ext'
              apply List.ext_getElem?
              intro k
              rw [repeatS_concL]
              by_cases hk : k < n * z
              · rw [flatten_replicate_getElem? _ n k (by rw [hll]; exact hk), hll]
                have hmod : k % z < (zv.cellsOf.concL ρ ι).length := by rw [hll]; exact Nat.mod_lt _ hz0
                simp [hk, hll]
                rw [List.getElem?_eq_getElem hmod]
                simp
              · rw [List.getElem?_eq_none (by simp; omega), List.getElem?_eq_none (by simp [hll]; omega)]
            simp only [ho, Instr.buildSlice, Sem.run_bind, run_underlying hu, Result.andThen_ok, run_sizeT w hz]
            rw [if_neg (by omega)]
            by_cases hnz : n * z = 0
            · have hn0 : n = 0 := by
                rcases Nat.mul_eq_zero.1 hnz with h | h
                · exact h
                · omega
              subst hn0
              simp only [repeatS, SVal.concL] at f1
              have hr0 : Array.range 0 = #[] := rfl
              simp only [Nat.zero_mul, if_true, Sem.run_bind, Sem.run_pure, Result.andThen_ok, hpe, hr0, Array.map_empty, f1]
              simp [SVal.conc, Nm.put, newRow, Cap.ev]
            · simp only [Sem.run_pure, Result.andThen_ok, Sem.run_bind, hnz, if_false, z1, hzc, hinit, hpe, f1]
              simp [SVal.conc, Nm.put, newRow, Cap.ev]
          · cases hp
        · cases hp
      · cases hp
    · cases hp
  · rename_i t x y ho
    split at hp
    · rename_i b off u hx hy
      split at hp
      · rename_i blk z hb hz
        split at hp
        · rename_i hcond
          simp only [Bool.and_eq_true] at hcond
          obtain ⟨⟨⟨hl, hone⟩, hpl⟩, hreal⟩ := hcond
          have hreal := isReal_none hreal
          have hl := Nat.eq_of_beq_eq_true hl
          split at hp
          · rename_i cells hset
            simp only [Option.some.injEq, Prod.mk.injEq] at hp
            obtain ⟨rfl, rfl⟩ := hp
            obtain ⟨h1, _⟩ := evO_conc hs hx
            obtain ⟨h3, h4⟩ := evO_conc hs hy
            simp only [SVal.conc] at h1
            have hzc := cells_conc' (ρ := ρ) (ι := ι) u hpl
            obtain ⟨k1, _, ⟨cur, k2, k3⟩, k4⟩ := H.real hb hreal
            obtain ⟨_, c2, c3, c4⟩ := concL_setCells (ρ := ρ) (ι := ι) hset
            obtain ⟨rest, hrest⟩ := k3.starts
            have hcl : blk.cells.len ≤ cur.size := by
              have := congrArg List.length hrest
              simp [SVal.concL_length] at this
              omega
            by_cases hz0 : z = 0
            · subst hz0
              have hnil : u.cellsOf.concL ρ ι = [] := List.length_eq_zero_iff.1 (by rw [SVal.concL_length]; exact hl)
              have hcells : cells = blk.cells := by
                have hu0 : ∀ q q', u.cellsOf ≠ .cons q q' := by intro q q' e; rw [e] at hl; simp [SVal.len] at hl
                cases huc : u.cellsOf <;> first | (exact (hu0 _ _ huc).elim) | (rw [huc] at hset; simp only [setCells, Option.some.injEq] at hset; exact hset.symm)
              subst hcells
              refine ⟨ι, w, .skip, ?_, .inr ⟨rfl, rfl⟩, Nm.Ext.refl _ _, by simp, ?_, by simp [undefS, SVal.sc]⟩
              · simp only [ho, h1, h3, Instr.storeAt, Instr.sureAddr, Sem.run_bind, Sem.run_pure, Result.andThen_ok, storeVar, run_sizeT w hz, hzc, hnil]
                simp [storeCells]
              · have : h.set b (some { blk with cells := blk.cells }) = h := by
                  apply List.ext_getElem?
                  intro k
                  by_cases hk : b = k
                  · subst hk
                    rw [List.getElem?_set_self (List.getElem?_eq_some_iff.1 hb).1, hb]
                  · rw [List.getElem?_set_ne hk]
                rw [this]; exact H
            · have hfit : off + z ≤ blk.cells.len := by rcases c4 with c4 | c4 <;> omega
              have hcl' := concL_setCells' (ρ := ρ) (ι := ι) hset (by omega)
              have hst := run_storeCells_at cx.P (ι.blk b) off blk.elem (u.cellsOf.concL ρ ι) 0 cur w k2 (by rw [SVal.concL_length]; omega) (allOne_conc hone)
              simp only [Nat.add_zero] at hst
              have H2 := H.row hb hreal (b' := { blk with cells := cells }) hreal rfl
                ((cur.toList.take off ++ u.cellsOf.concL ρ ι ++ cur.toList.drop (off + (u.cellsOf.concL ρ ι).length)).toArray) (by
                  have e1 : cur.toList.take off = (blk.cells.concL ρ ι).take off := by rw [hrest, List.take_append_of_le_length (by rw [SVal.concL_length]; omega)]
                  have e2 : cur.toList.drop (off + (u.cellsOf.concL ρ ι).length) = (blk.cells.concL ρ ι).drop (off + u.cellsOf.len) ++ rest := by
                    rw [hrest, SVal.concL_length, List.drop_append_of_le_length (by rw [SVal.concL_length]; omega)]
                  have e3 : cur.toList.take off ++ u.cellsOf.concL ρ ι ++ cur.toList.drop (off + (u.cellsOf.concL ρ ι).length) = cells.concL ρ ι ++ rest := by
                    rw [e1, e2, hcl']; simp
                  rw [e3]
                  unfold Blk.Fits at k3 ⊢
                  simp only
                  cases hsp : blk.spare with
                  | none =>
                    rw [hsp] at k3
                    simp only at k3 ⊢
                    rw [hrest] at k3
                    have : rest = [] := by
                      have := congrArg List.length k3
                      simp at this
                      exact this
                    simp [this]
                  | some q =>
                    rw [hsp] at k3
                    simp only at k3 ⊢
                    refine ⟨⟨rest, by simp⟩, ?_⟩
                    rw [← k3.2]
                    have := congrArg List.length hrest
                    simp [SVal.concL_length] at this
                    simp [SVal.concL_length, c2]
                    omega) (c3 _ k4 (cellsOf_sc h4))
              refine ⟨ι, _, .skip, ?_, .inr ⟨rfl, rfl⟩, Nm.Ext.refl _ _, by simp, H2, by simp [undefS, SVal.sc]⟩
              simp only [ho, h1, h3, Instr.storeAt, Instr.sureAddr, Sem.run_bind, Sem.run_pure, Result.andThen_ok, storeVar, run_sizeT w hz, hzc]
              rw [if_neg (by simp [SVal.concL_length, hl])]
              rw [hst]
              rfl
          · cases hp
        · cases hp
      · cases hp
    · cases hp
  · rename_i c ho
    split at hp
    · rename_i hcal
      split at hp
      · rename_i s x t u hargs htys
        split at hp
        · rename_i sv xv hsv hxv htu
          have htu := Nat.eq_of_beq_eq_true htu
          subst htu
          obtain ⟨h1, _⟩ := evO_conc hs hsv
          obtain ⟨h3, _⟩ := evO_conc hs hxv
          obtain ⟨ι', w', r1, r2, r3, r4, r5⟩ := run_appendT (ρ := ρ) (P := cx.P) H o.type hp
          have e1 : c.args = #[s, x] := by apply Array.ext'; simpa using hargs
          have e2 : c.argTypes = #[t, t] := by apply Array.ext'; simpa using htys
          refine ⟨ι', w', _, ?_, .inl rfl, r2, r3, r4, r5⟩
          simp only [ho, resolve, hcal, e1, e2]
          simp [invoke, builtin, h1, h3, r1]
        · cases hp
      · cases hp
    · cases hp
  · cases hp

/-! ### A store at a place that a number tells -/

theorem HR.sim {h' : Heap} (H : HR ρ G K w0 ι h w) (hl : ∀ (n : Nat) (b' : Blk), h'[n]? = some (some b') → ∃ b, h[n]? = some (some b) ∧ (b.Ok ρ K ι n w → b'.Ok ρ K ι n w) ∧ b'.cells.sc h'.length = true) :
    HR ρ G K w0 ι h' w := by
  refine ⟨H.os, H.tape, H.output, H.size, H.kept, H.old, H.base, fun n b' hb' => ?_, fun n m b c hb hc he => ?_, H.globs⟩
  · obtain ⟨b, h1, h2, h5⟩ := hl n b' hb'
    obtain ⟨k1, k2, _⟩ := H.blocks n b h1
    exact ⟨k1, h2 k2, h5⟩
  · obtain ⟨b1, h1, _⟩ := hl n b hb
    obtain ⟨b2, h2, _⟩ := hl m c hc
    exact H.inj n m b1 b2 h1 h2 he


theorem one_plain {v : SVal} (h : v.one = true) : v.plain = true ∧ v.cellsOf = .cons v .nil := by
  cases v <;> simp_all [SVal.one, SVal.plain, SVal.cellsOf]

theorem run_store1 {P : Program} {t : TypeId} {b off : Nat} {u x : SVal} {blk : Blk} (H : HR ρ G K w0 ι h w) (hb : h[b]? = some (some blk)) (hz : sizeT P t = some 1) (hone : u.one = true)
    (hx : blk.cells.nth off = some x) (h4 : u.sc h.length = true) :
    ∃ w', (Instr.storeAt t (.pointer (some ⟨ι.blk b, off, none⟩)) (u.conc ρ ι)).run P w = .ok () w' ∧ HR ρ G K w0 ι (h.set b (some { blk with cells := blk.cells.setAt off u })) w' := by
  have hreal := H.real_of hb (ne_nil_of_nth hx)
  obtain ⟨hpl, hcs⟩ := one_plain hone
  have hset : setCells blk.cells off u.cellsOf = some (blk.cells.setAt off u) := by rw [hcs]; simp [setCells, hx]
  have hl : u.cellsOf.len = 1 := by rw [hcs]; rfl
  have hao : u.cellsOf.allOne = true := by rw [hcs]; simp [SVal.allOne, hone]
  have hzc := cells_conc' (ρ := ρ) (ι := ι) u hpl
  obtain ⟨k1, _, ⟨cur, k2, k3⟩, k4⟩ := H.real hb hreal
  obtain ⟨_, c2, c3, c4⟩ := concL_setCells (ρ := ρ) (ι := ι) hset
  obtain ⟨rest, hrest⟩ := k3.starts
  have hcl : blk.cells.len ≤ cur.size := by
    have := congrArg List.length hrest
    simp [SVal.concL_length] at this
    omega
  have hfit : off + 1 ≤ blk.cells.len := by rcases c4 with c4 | c4 <;> omega
  have hcl' := concL_setCells' (ρ := ρ) (ι := ι) hset (by omega)
  have hst := run_storeCells_at P (ι.blk b) off blk.elem (u.cellsOf.concL ρ ι) 0 cur w k2 (by rw [SVal.concL_length]; omega) (allOne_conc hao)
  simp only [Nat.add_zero] at hst
  have H2 := H.row hb hreal (b' := { blk with cells := blk.cells.setAt off u }) hreal rfl
    ((cur.toList.take off ++ u.cellsOf.concL ρ ι ++ cur.toList.drop (off + (u.cellsOf.concL ρ ι).length)).toArray) (by
      have e1 : cur.toList.take off = (blk.cells.concL ρ ι).take off := by rw [hrest, List.take_append_of_le_length (by rw [SVal.concL_length]; omega)]
      have e2 : cur.toList.drop (off + (u.cellsOf.concL ρ ι).length) = (blk.cells.concL ρ ι).drop (off + u.cellsOf.len) ++ rest := by
        rw [hrest, SVal.concL_length, List.drop_append_of_le_length (by rw [SVal.concL_length]; omega)]
      have e3 : cur.toList.take off ++ u.cellsOf.concL ρ ι ++ cur.toList.drop (off + (u.cellsOf.concL ρ ι).length) = (blk.cells.setAt off u).concL ρ ι ++ rest := by
        rw [e1, e2, hcl']; simp
      rw [e3]
      unfold Blk.Fits at k3 ⊢
      simp only
      cases hsp : blk.spare with
      | none =>
        rw [hsp] at k3
        simp only at k3 ⊢
        rw [hrest] at k3
        have : rest = [] := by
          have := congrArg List.length k3
          simp at this
          exact this
        simp [this]
      | some q =>
        rw [hsp] at k3
        simp only at k3 ⊢
        refine ⟨⟨rest, by simp⟩, ?_⟩
        rw [← k3.2]
        have := congrArg List.length hrest
        simp [SVal.concL_length] at this
        simp [SVal.concL_length, c2]
        omega) (c3 _ k4 (cellsOf_sc h4))
  refine ⟨_, ?_, H2⟩
  simp only [Instr.storeAt, Instr.sureAddr, Sem.run_bind, Sem.run_pure, Result.andThen_ok, storeVar, run_sizeT w hz, hzc]
  rw [if_neg (by simp [SVal.concL_length, hl])]
  rw [hst]

theorem setI_spec {ti : Tm} {v : SVal} {off z : Nat} (hz : 0 < z) (h0 : 0 ≤ (ti.den ρ).asInt) : ∀ (n j : Nat) (cs cs' : SVal), setI ti v off z n j cs = some cs' →
    (∀ m, v.sc m = true → cs.sc m = true → cs'.sc m = true) ∧
    (cs'.concL ρ ι = if j ≤ (ti.den ρ).asInt.toNat ∧ (ti.den ρ).asInt.toNat < j + n then (cs.concL ρ ι).set (off + (ti.den ρ).asInt.toNat * z) (v.conc ρ ι) else cs.concL ρ ι) ∧
    (∀ k, k < n → ∃ u, cs.nth (off + (j + k) * z) = some u) := by
  intro n
  induction n with
  | zero =>
    intro j cs cs' h
    simp only [setI, Option.some.injEq] at h
    subst h
    exact ⟨fun _ _ h => h, by rw [if_neg (by omega)], fun k hk => by omega⟩
  | succ n ih =>
    intro j cs cs' h
    simp only [setI] at h
    split at h
    · rename_i u hu
      split at h
      · rename_i x hx
        obtain ⟨s1, s2, s3⟩ := ih _ _ _ h
        have hm := fun m => mergeV_conc (ρ := ρ) (ι := ι) (mk2 .eq ti (.num j)) m v u x hx
        have hlt : off + j * z < (cs.concL ρ ι).length := by
          have := SVal.concL_nth ρ ι cs (off + j * z)
          rw [hu] at this
          exact (List.getElem?_eq_some_iff.1 this).1
        have hget : (cs.concL ρ ι)[off + j * z]? = some (u.conc ρ ι) := by
          have := SVal.concL_nth ρ ι cs (off + j * z)
          rw [hu] at this
          exact this
        have hden : ((mk2 .eq ti (.num j)).den ρ).asBool = ((ti.den ρ).asInt == (j : Int)) := by rw [mk2_den]; rfl
        refine ⟨fun m hv hc => s1 m hv (SVal.sc_setAt _ _ _ hc ((hm m).2.2 hv (SVal.sc_nth _ _ _ hc hu))), ?_, ?_⟩
        · rw [s2, SVal.concL_setAt, (hm 0).1, hden]
          by_cases he : (ti.den ρ).asInt.toNat = j
          · have e1 : ((ti.den ρ).asInt == (j : Int)) = true := by rw [beq_iff_eq]; omega
            rw [e1, if_neg (by omega), if_pos (by omega), he]
          · have e1 : ((ti.den ρ).asInt == (j : Int)) = false := by rw [beq_eq_false_iff_ne]; omega
            rw [e1]
            simp only
            have e2 : (cs.concL ρ ι).set (off + j * z) (u.conc ρ ι) = cs.concL ρ ι := by
              apply List.ext_getElem?
              intro k
              by_cases hk : off + j * z = k
              · subst hk; rw [List.getElem?_set_self hlt, hget]
              · rw [List.getElem?_set_ne hk]
            rw [e2]
            by_cases hin : j + 1 ≤ (ti.den ρ).asInt.toNat ∧ (ti.den ρ).asInt.toNat < j + 1 + n
            · rw [if_pos hin, if_pos (by omega)]
            · rw [if_neg hin, if_neg (by omega)]
        · intro k hk
          rcases Nat.eq_zero_or_pos k with rfl | hp
          · exact ⟨u, by simpa using hu⟩
          · obtain ⟨u', hu'⟩ := s3 (k - 1) (by omega)
            have e : j + 1 + (k - 1) = j + k := by omega
            rw [e] at hu'
            have hne : off + j * z ≠ off + (j + k) * z := by
              rw [Nat.add_mul]
              have : 0 < k * z := Nat.mul_pos hp hz
              omega
            have hg : (cs.setAt (off + j * z) x).nth (off + (j + k) * z) ≠ none := by rw [hu']; simp
            have := SVal.concL_nth ρ ι cs (off + (j + k) * z)
            have h2 := SVal.concL_nth ρ ι (cs.setAt (off + j * z) x) (off + (j + k) * z)
            rw [SVal.concL_setAt, List.getElem?_set_ne hne, hu'] at h2
            cases hc : cs.nth (off + (j + k) * z) with
            | some y => exact ⟨y, rfl⟩
            | none => rw [hc] at this; rw [this] at h2; cases h2
      · cases h
    · cases h

theorem run_storeOp {cx : Cx} {slots : Slots} {a : Act} {o : Oper} {h' : Heap} {cs : List Tm} (hp : storeOp cx slots h o = some (h', cs)) (hs : SlotsOk ρ ι h.length slots a) (H : HR ρ cx.globs K w0 ι h w)
    (hc : ∀ c ∈ cs, (c.den ρ).asBool = true) : ∃ w', (execOp a.eval o).run cx.P w = .ok .skip w' ∧ h'.length = h.length ∧ HR ρ cx.globs K w0 ι h' w' := by
  unfold storeOp at hp
  split at hp
  · rename_i t pa px ho
    split at hp
    · rename_i b off ti z v hx hy
      split at hp
      · rename_i blk hb hz
        split at hp
        · rename_i hcond
          simp only [Bool.and_eq_true] at hcond
          obtain ⟨⟨hzp, hone⟩, _⟩ := hcond
          have hzp : 0 < z := Nat.le_of_ble_eq_true hzp
          split at hp
          · rename_i cells hset
            simp only [Option.some.injEq, Prod.mk.injEq] at hp
            obtain ⟨rfl, rfl⟩ := hp
            have h0 := hc _ (List.mem_cons_self ..)
            have h1 := hc _ (List.mem_cons_of_mem _ (List.mem_singleton.2 rfl))
            rw [mk2_den] at h0 h1
            have h0' : (0 : Int) ≤ (ti.den ρ).asInt := of_decide_eq_true h0
            have h1' : (ti.den ρ).asInt < ((alikeN v z blk.cells blk.cells.len off : Nat) : Int) := of_decide_eq_true h1
            obtain ⟨s1, s2, s3⟩ := setI_spec (ρ := ρ) (ι := ι) hzp h0' _ _ _ _ hset
            obtain ⟨u, hu⟩ := s3 (ti.den ρ).asInt.toNat (by omega)
            rw [Nat.zero_add] at hu
            rw [if_pos (by omega)] at s2
            obtain ⟨e1, _⟩ := evO_conc hs hx
            obtain ⟨e3, e4⟩ := evO_conc hs hy
            simp only [SVal.conc] at e1
            obtain ⟨w', r1, r2⟩ := run_store1 (P := cx.P) (t := t) H hb hz hone hu e4
            refine ⟨w', ?_, by simp, ?_⟩
            · simp only [execOp, ho, e1, e3, Sem.run_bind, r1, Result.andThen_ok, Sem.run_pure]
            · have hbl : b < h.length := (List.getElem?_eq_some_iff.1 hb).1
              have hsc := (H.blocks _ _ hb).2.2
              refine HR.sim r2 ?_
              intro n b' hb'
              rcases getElem?_set_cases hbl hb' with ⟨hn, hh⟩ | ⟨rfl, rfl⟩
              · exact ⟨b', by rw [List.getElem?_set_ne (Ne.symm hn)]; exact hh, fun h => h, by simpa using (H.blocks _ _ hh).2.2⟩
              · refine ⟨_, List.getElem?_set_self hbl, fun hk => ?_, by simpa using s1 _ e4 hsc⟩
                have ha := H.real_of hb (ne_nil_of_nth hu)
                unfold Blk.Ok at hk ⊢
                simp only [ha] at hk ⊢
                obtain ⟨k1, cur, k2, k3⟩ := hk
                refine ⟨k1, cur, k2, ?_⟩
                unfold Blk.Fits at k3 ⊢
                simp only [SVal.concL_setAt] at k3 ⊢
                rw [s2]
                exact k3
          · cases hp
        · cases hp
      · cases hp
    · cases hp
  · cases hp

end
end
end Go.Sx

/- The executor is right: more operations that leave the heap as it is. -/
namespace Go.Sx
noncomputable section

section
variable {ρ : Env} {G : Globs} {K : Nat → Prop} {w0 w : World} {ι : Nm} {h : Heap} {P : Program}

theorem roomT_ok (H : HR ρ G K w0 ι h w) {z n : Nat} {c : Cap} (hr : roomT h z n c = true) : n ≤ c.ev ι := by
  have key : ∀ (b' m : Nat) (blk : Blk) (z' : Nat), h[b']? = some (some blk) → blk.spare = some z' → (Nat.beq z z' && Nat.blt 0 z && Nat.ble (m * z) blk.cells.len && blk.isReal) = true → m ≤ ι.cap b' := by
    intro b' m blk z' hb hs hc
    simp only [Bool.and_eq_true] at hc
    obtain ⟨⟨⟨h1, h2⟩, h3⟩, h4⟩ := hc
    have h1 := Nat.eq_of_beq_eq_true h1
    have h2 : 0 < z := Nat.le_of_ble_eq_true h2
    have h3 := Nat.le_of_ble_eq_true h3
    obtain ⟨_, _, ⟨cs, _, k3⟩, _⟩ := H.real hb (isReal_none h4)
    unfold Blk.Fits at k3
    rw [hs] at k3
    obtain ⟨⟨rest, k5⟩, k6⟩ := k3
    have := congrArg List.length k5
    simp only [Array.length_toList, List.length_append, SVal.concL_length] at this
    rw [← h1] at k6
    have hle : m * z ≤ ι.cap b' * z := by omega
    exact Nat.le_of_mul_le_mul_right hle h2
  unfold roomT at hr
  split at hr
  · exact Nat.le_of_ble_eq_true hr
  · split at hr
    · rename_i blk hb
      split at hr
      · rename_i z' hs
        exact key _ _ _ _ hb hs hr
      · cases hr
    · cases hr
  · split at hr
    · rename_i blk hb
      split at hr
      · rename_i z' hs
        have := key _ _ _ _ hb hs hr
        show n ≤ ι.cap _ - _
        omega
      · cases hr
    · cases hr

theorem capSub_ev (c : Cap) (l : Nat) : (capSub c l).ev ι = c.ev ι - l := by
  cases c with
  | known m => rfl
  | of b => cases l <;> rfl
  | sub b k => show ι.cap b - (k + l) = ι.cap b - k - l; omega

theorem capSub_sc {c : Cap} {l n b off k : Nat} (h : (SVal.slice b off k c).sc n = true) (off' k' : Nat) : (SVal.slice b off' k' (capSub c l)).sc n = true := by
  cases c with
  | known m => exact h
  | of b => cases l <;> exact h
  | sub b k => exact h

theorem run_sliceBounds {n c l u : Nat} {lo hi : Option Value} (w : World) (isS : Bool) (hl : BoundAt 0 l lo) (hu : BoundAt n u hi) (h1 : l ≤ u) (h2 : u ≤ c) :
    (Instr.sliceBounds isS n c lo hi none).run P w = .ok (l, u, c) w := by
  cases lo with
  | none =>
    have hl : l = 0 := hl
    subst hl
    cases hi with
    | none =>
      have hu : u = n := hu
      subst hu
      simp [Instr.sliceBounds]
    | some v =>
      obtain ⟨k, rfl⟩ := hu
      simp [Instr.sliceBounds, run_bound w k h2]
  | some x =>
    obtain ⟨k', rfl⟩ := hl
    cases hi with
    | none =>
      have hu : u = n := hu
      subst hu
      simp [Instr.sliceBounds, run_bound w k' h1]
    | some v =>
      obtain ⟨k, rfl⟩ := hu
      simp [Instr.sliceBounds, run_bound w k h2, run_bound w k' h1]

theorem run_sliceBounds3 {n c l u m : Nat} {lo hi : Option Value} {v : Value} (w : World) (isS : Bool) (hl : BoundAt 0 l lo) (hu : BoundAt n u hi) (hs : hi.isSome = true) (hm : BoundAt 0 m (some v)) (h1 : l ≤ u) (h2 : u ≤ m) (h3 : m ≤ c) :
    (Instr.sliceBounds isS n c lo hi (some v)).run P w = .ok (l, u, m) w := by
  obtain ⟨km, rfl⟩ := hm
  cases hi with
  | none => cases hs
  | some y =>
    obtain ⟨k, rfl⟩ := hu
    cases lo with
    | none =>
      have hl : l = 0 := hl
      subst hl
      simp [Instr.sliceBounds, run_bound w k h2, run_bound w km h3]
    | some x =>
      obtain ⟨k', rfl⟩ := hl
      simp [Instr.sliceBounds, run_bound w k h2, run_bound w k' h1, run_bound w km h3]

theorem run_cutT (H : HR ρ G K w0 ι h w) {slots : Slots} {a : Act} (hs : SlotsOk ρ ι h.length slots a) {z b off n : Nat} {c : Cap} {lo hi mx : Option Operand} {v : SVal} (hc : cutT h slots z b off n c lo hi mx = some v) (isS : Bool) (hsc : (SVal.slice b off n c).sc h.length = true) :
    ∃ l u m, (Instr.sliceBounds isS n (c.ev ι) (lo.map a.eval) (hi.map a.eval) (mx.map a.eval)).run P w = .ok (l, u, m) w ∧
      Value.slice (some (if m = l then ⟨ι.blk b, off, none⟩ else (⟨ι.blk b, off, none⟩ : Addr).add (l * z))) (u - l) (m - l) = v.conc ρ ι ∧ v.sc h.length = true := by
  unfold cutT at hc
  split at hc
  · rename_i l u hl hu
    split at hc
    · split at hc
      · rename_i hcond
        simp only [Bool.and_eq_true, Bool.or_eq_true] at hcond
        obtain ⟨⟨h1, h2⟩, h3⟩ := hcond
        have h1 := Nat.le_of_ble_eq_true h1
        have h2 := roomT_ok H h2
        simp only [Option.some.injEq] at hc
        subst hc
        refine ⟨l, u, c.ev ι, run_sliceBounds w isS (boundE_ok hs hl) (boundE_ok hs hu) h1 h2, ?_, capSub_sc hsc _ _⟩
        simp only [SVal.conc, capSub_ev, addr_add]
        rcases h3 with h3 | h3
        · have h3 := Nat.eq_of_beq_eq_true h3
          subst h3
          simp
        · have h3 : l < u := Nat.le_of_ble_eq_true h3
          rw [if_neg (by omega)]
      · cases hc
    · rename_i m'
      split at hc
      · rename_i m hm
        split at hc
        · rename_i hcond
          simp only [Bool.and_eq_true, Bool.or_eq_true] at hcond
          obtain ⟨⟨⟨⟨h1, h2⟩, h3⟩, h4⟩, h5⟩ := hcond
          have h1 := Nat.le_of_ble_eq_true h1
          have h2 := Nat.le_of_ble_eq_true h2
          have h3 := roomT_ok H h3
          simp only [Option.some.injEq] at hc
          subst hc
          have hb := boundE_ok hs hm
          refine ⟨l, u, m, run_sliceBounds3 w isS (boundE_ok hs hl) (boundE_ok hs hu) (by simpa using h5) (by simpa using hb) h1 h2 h3, ?_, ?_⟩
          · simp only [SVal.conc, Cap.ev, addr_add]
            rcases h4 with h4 | h4
            · have h4 := Nat.eq_of_beq_eq_true h4
              subst h4
              simp
            · have h4 : l < m := Nat.le_of_ble_eq_true h4
              rw [if_neg (by omega)]
          · simp only [SVal.sc, Bool.and_eq_true, decide_eq_true_eq, and_true] at hsc ⊢
            exact hsc.1
        · cases hc
      · cases hc
  · cases hc

theorem run_encode {c : Nat} (h : c < 128) : Utf8.encode (c : Int) = ⟨#[UInt8.ofNat c]⟩ := by
  have hv : Utf8.valid (c : Int) = true := by unfold Utf8.valid; simp; omega
  unfold Utf8.encode
  simp only [hv, if_true]
  rw [if_pos (by simpa using h)]
  simp


theorem run_cutS (H : HR ρ G K w0 ι h w) {slots : Slots} {a : Act} (hs : SlotsOk ρ ι h.length slots a) {t : TypeId} {x v : SVal} {lo hi mx : Option Operand} (hx : x.sc h.length = true) (hc : sliceT P slots h t x lo hi mx = some v) :
    (Instr.sliceAt t (x.conc ρ ι) (lo.map a.eval) (hi.map a.eval) (mx.map a.eval)).run P w = .ok (v.conc ρ ι) w ∧ v.sc h.length = true := by
  unfold sliceT at hc
  split at hc
  · rename_i e b off n c hu
    split at hc
    · rename_i z hz
      obtain ⟨l, u, m, r1, r2, r3⟩ := run_cutT (P := P) H hs hc true hx
      refine ⟨?_, r3⟩
      simp only [Instr.sliceAt, Sem.run_bind, run_underlying hu, Result.andThen_ok, SVal.conc, Instr.slice, r1, run_sizeT w hz, Sem.run_pure, Option.map_some]
      rw [← r2]
      by_cases hml : m = l <;> simp [hml]
    · cases hc
  · rename_i e hu
    split at hc
    · rename_i z hz h0 h1 h2 h3
      simp only [Option.some.injEq] at hc
      subst hc
      refine ⟨?_, rfl⟩
      have e0 : (Instr.sliceBounds true 0 0 (lo.map a.eval) (hi.map a.eval) (mx.map a.eval)).run P w = .ok (0, 0, 0) w := by
        cases mx with
        | none => exact run_sliceBounds w true (boundE_ok hs h0) (boundE_ok hs h1) (Nat.le_refl _) (Nat.le_refl _)
        | some m =>
          have hb := boundE_ok hs h2
          exact run_sliceBounds3 w true (boundE_ok hs h0) (boundE_ok hs h1) (by simpa using h3) (by simpa using hb) (Nat.le_refl _) (Nat.le_refl _) (Nat.le_refl _)
      simp only [Instr.sliceAt, Sem.run_bind, run_underlying hu, Result.andThen_ok, SVal.conc, Instr.slice, e0, run_sizeT w hz, Sem.run_pure]
      simp
    · cases hc
  · rename_i n e b off hu
    split at hc
    · rename_i z hz
      obtain ⟨l, u, m, r1, r2, r3⟩ := run_cutT (P := P) H hs hc false (by simpa [SVal.sc] using hx)
      refine ⟨?_, r3⟩
      simp only [Cap.ev, Option.map_none] at r1
      simp only [Instr.sliceAt, Sem.run_bind, run_underlying hu, Result.andThen_ok, SVal.conc, Instr.sureAddr, Sem.run_pure, Option.map_none, r1, run_sizeT w hz]
      rw [← r2]
    · cases hc
  · cases hc

theorem memNat_mem {k : Nat} : ∀ {l : List Nat}, memNat k l = true → k ∈ l
  | [], h => by cases h
  | a :: r, h => by
    simp only [memNat] at h
    split at h
    · rename_i e
      obtain rfl := Nat.eq_of_beq_eq_true e
      exact List.mem_cons_self ..
    · exact List.mem_cons_of_mem _ (memNat_mem h)

theorem run_eq_nn {t : TypeId} {ms} (w : World) (hu : P.underlying t = some (.interface ms)) : (Op.equal t .nilIface .nilIface).run P w = .ok true w := by
  have : ∀ D, (Op.equalIn (D + 1) t .nilIface .nilIface).run P w = .ok true w := by
    intro D
    simp [Op.equalIn, run_underlying hu]
  exact this 9999
theorem run_eq_ni {t : TypeId} {ms} {u : TypeId} {v : Value} (w : World) (hu : P.underlying t = some (.interface ms)) : (Op.equal t .nilIface (.iface u v)).run P w = .ok false w := by
  have : ∀ D, (Op.equalIn (D + 1) t .nilIface (.iface u v)).run P w = .ok false w := by
    intro D
    simp [Op.equalIn, run_underlying hu]
  exact this 9999
theorem run_eq_in {t : TypeId} {ms} {u : TypeId} {v : Value} (w : World) (hu : P.underlying t = some (.interface ms)) : (Op.equal t (.iface u v) .nilIface).run P w = .ok false w := by
  have : ∀ D, (Op.equalIn (D + 1) t (.iface u v) .nilIface).run P w = .ok false w := by
    intro D
    simp [Op.equalIn, run_underlying hu]
  exact this 9999

def eqR (op : BinOp) (r : Bool) : Bool := match op with | .eql => r | _ => !r

theorem run_binIface {op : BinOp} {t : TypeId} {x y : Operand} {X Y : Value} {r : Bool} (w : World) (hop : op = .eql ∨ op = .neq) (hg : (eqGuard op t x y X Y).run P w = .ok () w) (hx : X = .nilIface ∨ ∃ u v, X = .iface u v)
    (he : (Op.equal t X Y).run P w = .ok r w) : (do eqGuard op t x y X Y; binOp op t X Y : Sem Value).run P w = .ok (.bool (eqR op r)) w := by
  have hb : (binOp op t X Y).run P w = .ok (.bool (eqR op r)) w := by
    rcases hop with rfl | rfl <;> rcases hx with rfl | ⟨u, v, rfl⟩ <;> simp only [binOp, Sem.run_bind, he, Result.andThen_ok, Sem.run_pure, eqR]
  simp only [Sem.run_bind, hg, Result.andThen_ok]
  exact hb

theorem run_sliceData1 (ts : Array TypeId) (ty : TypeId) (a : Addr) (n c : Nat) (h0 : c ≠ 0) (w : World) : (Builtin.unsafeSliceData_ ts ty #[.slice (some a) n c]).run P w = .ok (.pointer (some a)) w := by
  have e : Builtin.unsafeSliceData_ ts ty #[.slice (some a) n c] = (if c ≠ 0 then pure (.pointer (some a)) else do
    if (← viewAt a.block).isSome then pure (.pointer (some a)) else pure (.pointer (some ⟨← newObj (.view a (← elemOf ty)), 0, none⟩))) := rfl
  rw [e, if_pos h0]
  rfl
theorem run_sliceData0 (ts : Array TypeId) (ty : TypeId) (n c : Nat) (w : World) : (Builtin.unsafeSliceData_ ts ty #[.slice none n c]).run P w = .ok (.pointer none) w := rfl

/-- Such a pointer is the same behind the conversion. -/
theorem run_unsafeT {P : Program} {s d : TypeId} {b o : Nat} {G : Globs} (hu : unsafeT P h s d b o = true) (H : HR ρ G K w0 ι h w) :
    (convert s d (.pointer (some ⟨ι.blk b, o, none⟩))).run P w = .ok (.pointer (some ⟨ι.blk b, o, none⟩)) w := by
  unfold unsafeT at hu
  split at hu
  · rename_i blk hb
    split at hu
    · rename_i ha hsp
      obtain ⟨_, _, ⟨cs, hw, hf⟩, _⟩ := H.real hb ha
      have hlen : cs.size = blk.cells.len := by
        unfold Blk.Fits at hf
        rw [hsp] at hf
        rw [← SVal.concL_length (ρ := ρ) (ι := ι), ← hf]
        simp
      have hsh : w.shape? (ι.blk b) = some (blk.elem, blk.cells.len) := by
        unfold World.shape?
        rw [hw]
        simp only [hlen]
      split at hu
      · rename_i t hs hd
        split at hu
        · rename_i j hj
          simp only [Bool.and_eq_true, Bool.not_eq_true', ← Bool.not_eq_true] at hu
          have h1 : j.size ≠ 0 := fun e => hu.1 (by rw [e]; rfl)
          have h2 : o < blk.cells.len := Nat.le_of_ble_eq_true hu.2
          exact Lib.run_to_unsafe w ⟨ι.blk b, o, none⟩ hs hd hj h1 hsh h2
        · cases hu
      · rename_i u hs hd
        split at hu
        · rename_i j hj
          exact Lib.run_from_unsafe w ⟨ι.blk b, o, none⟩ hs hd hj hsh hu
        · cases hu
      · cases hu
    · cases hu
  · cases hu

theorem run_pureOp2 {cx : Cx} (ok : cx.Ok) {slots : Slots} {a : Act} {o : Oper} {v : SVal}
    (hp : pureOp2 cx slots h o = some v) (hs : SlotsOk ρ ι h.length slots a) (H : HR ρ cx.globs K w0 ι h w) :
    (execOp a.eval o).run cx.P w = .ok (.value (v.conc ρ ι)) w ∧ v.sc h.length = true := by
  unfold pureOp2 at hp
  unfold execOp
  split at hp
  · rename_i s d x ho
    split at hp
    · rename_i us ks c hus hud hx
      split at hp
      · rename_i hlt
        have hlt : c < 128 := Nat.le_of_ble_eq_true hlt
        simp only [Option.some.injEq] at hp
        subst hp
        have h1 := (evO_conc hs hx).1
        refine ⟨?_, rfl⟩
        have e1 : a.eval x = .int ks (c : Int) := by rw [h1]; rfl
        simp only [ho, e1, convert, Sem.run_bind, run_underlying hus, run_underlying hud, Result.andThen_ok, Conv.intToString, Sem.run_pure, run_encode hlt]
        rfl
      · cases hp
    · rename_i b o' hus hud hx
      split at hp
      · rename_i hu
        simp only [Option.some.injEq] at hp
        subst hp
        have h1 := (evO_conc hs hx).1
        refine ⟨?_, (evO_conc hs hx).2⟩
        have e1 : a.eval x = .pointer (some ⟨ι.blk b, o', none⟩) := h1
        simp only [ho, e1, Sem.run_bind, run_unsafeT hu H, Result.andThen_ok, Sem.run_pure]
        rfl
      · cases hp
    · cases hp
  · rename_i op t x y yt ho
    split at hp
    · rename_i ms hu hx hy
      have e1 : a.eval x = .nilIface := (evO_conc hs hx).1
      have e2 : a.eval y = .nilIface := (evO_conc hs hy).1
      have hg : (isConst x || isConst y) = true → ∀ op, (eqGuard op t x y .nilIface .nilIface).run cx.P w = .ok () w := by
        intro hc op
        simp only [Bool.or_eq_true] at hc
        rcases hc with hc | hc
        · cases x <;> simp [isConst] at hc
          simp [eqGuard]
        · cases y <;> simp [isConst] at hc
          cases x <;> simp [eqGuard]
      split at hp
      · rename_i hc
        simp only [Option.some.injEq] at hp
        subst hp
        refine ⟨?_, rfl⟩
        simp only [ho, e1, e2, Sem.run_bind, run_binIface w (.inl rfl) (hg hc _) (.inl rfl) (run_eq_nn w hu), Result.andThen_ok, Sem.run_pure]
        rfl
      · rename_i hc
        simp only [Option.some.injEq] at hp
        subst hp
        refine ⟨?_, rfl⟩
        simp only [ho, e1, e2, Sem.run_bind, run_binIface w (.inr rfl) (hg hc _) (.inl rfl) (run_eq_nn w hu), Result.andThen_ok, Sem.run_pure]
        rfl
      · cases hp
    · rename_i ms t2 v2 hu hx hy
      have e1 : a.eval x = .nilIface := (evO_conc hs hx).1
      have e2 : a.eval y = .iface t2 (v2.conc ρ ι) := (evO_conc hs hy).1
      have hg : ∀ op, (eqGuard op t x y .nilIface (.iface t2 (v2.conc ρ ι))).run cx.P w = .ok () w := fun op => by simp [eqGuard]
      split at hp
      · simp only [Option.some.injEq] at hp
        subst hp
        refine ⟨?_, rfl⟩
        simp only [ho, e1, e2, Sem.run_bind, run_binIface w (.inl rfl) (hg _) (.inl rfl) (run_eq_ni w hu), Result.andThen_ok, Sem.run_pure]
        rfl
      · simp only [Option.some.injEq] at hp
        subst hp
        refine ⟨?_, rfl⟩
        simp only [ho, e1, e2, Sem.run_bind, run_binIface w (.inr rfl) (hg _) (.inl rfl) (run_eq_ni w hu), Result.andThen_ok, Sem.run_pure]
        rfl
      · cases hp
    · rename_i ms t2 v2 hu hx hy
      have e1 : a.eval x = .iface t2 (v2.conc ρ ι) := (evO_conc hs hx).1
      have e2 : a.eval y = .nilIface := (evO_conc hs hy).1
      have hg : ∀ op, (eqGuard op t x y (.iface t2 (v2.conc ρ ι)) .nilIface).run cx.P w = .ok () w := fun op => by simp [eqGuard]
      split at hp
      · simp only [Option.some.injEq] at hp
        subst hp
        refine ⟨?_, rfl⟩
        simp only [ho, e1, e2, Sem.run_bind, run_binIface w (.inl rfl) (hg _) (.inr ⟨_, _, rfl⟩) (run_eq_in w hu), Result.andThen_ok, Sem.run_pure]
        rfl
      · simp only [Option.some.injEq] at hp
        subst hp
        refine ⟨?_, rfl⟩
        simp only [ho, e1, e2, Sem.run_bind, run_binIface w (.inr rfl) (hg _) (.inr ⟨_, _, rfl⟩) (run_eq_in w hu), Result.andThen_ok, Sem.run_pure]
        rfl
      · cases hp
    · cases hp
  · rename_i t x lo hi mx ho
    split at hp
    · rename_i u hx
      obtain ⟨h1, h2⟩ := evO_conc hs hx
      obtain ⟨r1, r2⟩ := run_cutS (P := cx.P) H hs h2 hp
      refine ⟨?_, r2⟩
      simp only [ho, h1, Sem.run_bind, r1, Result.andThen_ok, Sem.run_pure]
    · cases hp
  · rename_i t x ho
    split at hp
    · cases hp
    · rename_i d u hx hd hu
      simp only [Option.some.injEq] at hp
      subst hp
      obtain ⟨h1, h2⟩ := evO_conc hs hu
      refine ⟨?_, h2⟩
      have e : (Instr.makeInterface t (u.conc ρ ι)).run cx.P w = .ok (.iface t (u.conc ρ ι)) w := by
        unfold Instr.makeInterface
        simp only [Sem.run_bind, run_underlying hd, Result.andThen_ok]
        cases d <;> first | rfl | exact (hx _ rfl).elim
      simp only [ho, h1, Sem.run_bind, e, Result.andThen_ok, Sem.run_pure]
      rfl
    · cases hp
  · rename_i x xt asserted okb ho
    split at hp
    · cases hp
    · rename_i d t u hni hd hu
      obtain ⟨h1, h2⟩ := evO_conc hs hu
      have e1 : a.eval x = .iface t (u.conc ρ ι) := h1
      have h2 : u.sc h.length = true := h2
      have red : ∀ (r : Value), ((if t = asserted then (pure (if okb then Value.tuple #[u.conc ρ ι, .bool true] else u.conc ρ ι) : Sem Value) else (if okb then (do pure (.tuple #[← zeroValue asserted, .bool false])) else runtimePanic (.typeAssertion (some xt) (some t) asserted "")))).run cx.P w = .ok r w → (Instr.typeAssert (a.eval x) xt asserted okb).run cx.P w = .ok r w := by
        intro r hr
        rw [e1]
        unfold Instr.typeAssert
        simp only [Sem.run_bind, run_underlying hd, Result.andThen_ok]
        cases d <;> first | exact hr | exact (hni _ rfl).elim
      split at hp
      · rename_i ht
        have ht := of_decide_eq_true ht
        simp only [Option.some.injEq] at hp
        subst hp
        refine ⟨?_, by simp [SVal.sc, h2]⟩
        have := red (.tuple #[u.conc ρ ι, .bool true]) (by rw [if_pos ht]; rfl)
        simp only [ho, Sem.run_bind, this, Result.andThen_ok, Sem.run_pure]
        rfl
      · rename_i ht
        have ht := of_decide_eq_true ht
        simp only [Option.some.injEq] at hp
        subst hp
        refine ⟨?_, h2⟩
        have := red (u.conc ρ ι) (by rw [if_pos ht]; rfl)
        simp only [ho, Sem.run_bind, this, Result.andThen_ok, Sem.run_pure]
      · rename_i ht
        have ht := of_decide_eq_false ht
        simp only [Option.map_eq_some_iff] at hp
        obtain ⟨z, hz, rfl⟩ := hp
        obtain ⟨z1, z2, _⟩ := zeroT_conc (ρ := ρ) (ι := ι) w hz
        refine ⟨?_, by simp [SVal.sc, SVal.sc_mono (Nat.zero_le _) _ z2]⟩
        have := red (.tuple #[z.conc ρ ι, .bool false]) (by rw [if_neg ht]; simp only [if_true, Sem.run_bind, z1, Result.andThen_ok, Sem.run_pure])
        simp only [ho, Sem.run_bind, this, Result.andThen_ok, Sem.run_pure]
        rfl
      · cases hp
    · rename_i d hni hd hu
      have e1 : a.eval x = .nilIface := (evO_conc hs hu).1
      split at hp
      · simp only [Option.map_eq_some_iff] at hp
        obtain ⟨z, hz, rfl⟩ := hp
        obtain ⟨z1, z2, _⟩ := zeroT_conc (ρ := ρ) (ι := ι) w hz
        refine ⟨?_, by simp [SVal.sc, SVal.sc_mono (Nat.zero_le _) _ z2]⟩
        have e : (Instr.typeAssert (a.eval x) xt asserted true).run cx.P w = .ok (.tuple #[z.conc ρ ι, .bool false]) w := by
          rw [e1]
          unfold Instr.typeAssert
          simp only [Sem.run_bind, run_underlying hd, Result.andThen_ok]
          cases d <;> first | (exact (hni _ rfl).elim) | (simp only [if_true, Sem.run_bind, z1, Result.andThen_ok, Sem.run_pure])
        simp only [ho, Sem.run_bind, e, Result.andThen_ok, Sem.run_pure]
        rfl
      · cases hp
    · cases hp
  · rename_i c ho
    split at hp
    · rename_i hcal
      split at hp
      · rename_i x t hx ht
        have e1 : c.args = #[x] := by apply Array.ext'; simpa using hx
        have e2 : c.argTypes = #[t] := by apply Array.ext'; simpa using ht
        split at hp
        · rename_i e b off n m hu hxv
          simp only [Option.some.injEq] at hp
          subst hp
          have h1 := (evO_conc hs hxv).1
          refine ⟨?_, rfl⟩
          simp only [SVal.conc, Cap.ev] at h1
          simp only [ho, resolve, hcal, e1, e2]
          simp [invoke, builtin, Builtin.cap_, h1, run_underlying hu, SVal.conc, Tm.den, goInt]
        · rename_i e hu hxv
          simp only [Option.some.injEq] at hp
          subst hp
          have h1 := (evO_conc hs hxv).1
          refine ⟨?_, rfl⟩
          simp only [SVal.conc] at h1
          simp only [ho, resolve, hcal, e1, e2]
          simp [invoke, builtin, Builtin.cap_, h1, run_underlying hu, SVal.conc, Tm.den, goInt]
        · cases hp
      · cases hp
    · rename_i hcal
      split at hp
      · rename_i x t hx ht
        have e1 : c.args = #[x] := by apply Array.ext'; simpa using hx
        have e2 : c.argTypes = #[t] := by apply Array.ext'; simpa using ht
        split at hp
        · rename_i e n hu hxv
          split at hp
          · rename_i blk hb
            split at hp
            · rename_i k d ha
              split at hp
              · rename_i hk
                obtain rfl := Nat.eq_of_beq_eq_true hk
                simp only [Option.some.injEq] at hp
                subst hp
                have h1 := (evO_conc hs hxv).1
                refine ⟨?_, rfl⟩
                have hO : ρ.ab.P 2007 (d.den ρ) (ι.val n).v (ι.foot n) w := by
                  have h2 := (H.blocks n blk hb).2.1
                  unfold Blk.Ok at h2
                  rw [ha] at h2
                  exact h2.2
                rcases (ρ.ab.objs 2007 _ _ _ _ (by omega)).1 hO with ⟨h0, _⟩ | ⟨h0, _⟩ | ⟨h0, _⟩ | ⟨h0, _⟩ | ⟨_, _, p, c', hv⟩
                · omega
                · omega
                · omega
                · omega
                · have h1 : a.eval x = .slice p 0 c' := by rw [h1]; exact hv
                  simp only [ho, resolve, hcal, e1, e2]
                  simp [invoke, builtin, Builtin.len_, h1, run_underlying hu, SVal.conc, Tm.den, goInt]
              · cases hp
            · cases hp
          · cases hp
        · cases hp
      · cases hp
    · rename_i hcal
      split at hp
      · rename_i x hx
        have e1 : c.args = #[x] := by apply Array.ext'; simpa using hx
        have fin : ∀ (b off n cap : Nat), a.eval x = .slice (some ⟨b, off, none⟩) n cap → cap ≠ 0 → (do let d ← resolve a.eval c o.type; invoke d.target d.args : Sem Next).run cx.P w = .ok (.value (.pointer (some ⟨b, off, none⟩))) w := by
          intro b off n cap h1 h0
          simp only [resolve, hcal, e1]
          simp [invoke, builtin, run_sliceData1, h1, h0]
        split at hp
        · rename_i b off n m hxv
          split at hp
          · rename_i hlt
            have hlt : 0 < m := Nat.le_of_ble_eq_true hlt
            simp only [Option.some.injEq] at hp
            subst hp
            obtain ⟨h1, h2⟩ := evO_conc hs hxv
            refine ⟨?_, by simpa [SVal.sc] using h2⟩
            simp only [ho]
            exact fin _ _ _ _ h1 (by simp only [Cap.ev]; omega)
          · cases hp
        · rename_i b off n b' hxv
          split at hp
          · rename_i hlt
            simp only [Bool.and_eq_true] at hlt
            have h0 : 0 < n := Nat.le_of_ble_eq_true hlt.1
            have h3 := roomT_ok H hlt.2
            simp only [Option.some.injEq] at hp
            subst hp
            obtain ⟨h1, h2⟩ := evO_conc hs hxv
            refine ⟨?_, by simp only [SVal.sc, Bool.and_eq_true] at h2 ⊢; exact h2.1⟩
            simp only [ho]
            exact fin _ _ _ _ h1 (by omega)
          · cases hp
        · rename_i hxv
          simp only [Option.some.injEq] at hp
          subst hp
          have h1 := (evO_conc hs hxv).1
          refine ⟨?_, rfl⟩
          simp only [SVal.conc] at h1
          simp only [ho, resolve, hcal, e1]
          simp [invoke, builtin, run_sliceData0, h1, SVal.conc]
        · cases hp
      · cases hp
    · rename_i f hcal
      split at hp
      · rename_i g x y hf hxy
        split at hp
        · rename_i s k hg hx hy
          split at hp
          · rename_i hk
            have hk : k < 256 := Nat.le_of_ble_eq_true hk
            simp only [Option.some.injEq] at hp
            subst hp
            have h1 := (evO_conc hs hf).1
            have h2 := (evO_conc hs hx).1
            have h3 := (evO_conc hs hy).1
            simp only [SVal.conc, SVal.concL] at h1 h2 h3
            have e1 : c.args = #[x, y] := by apply Array.ext'; simpa using hxy
            refine ⟨?_, rfl⟩
            have := ok.idx g (memNat_mem hg) s k hk w
            simp only [ho, resolve, hcal, h1, e1, Deferred.ofValue, Sem.run_bind, Sem.run_pure, Result.andThen_ok, invoke]
            simp only [List.map_toArray, List.map_cons, List.map_nil, h2, h3]
            simpa [Tm.den, SVal.conc] using this
          · cases hp
        · cases hp
      · rename_i g x hf hxy
        split at hp
        · rename_i hg
          have h1 := (evO_conc hs hf).1
          have h2 := (evO_conc hs hp).1
          simp only [SVal.conc, SVal.concL] at h1
          have e1 : c.args = #[x] := by apply Array.ext'; simpa using hxy
          refine ⟨?_, (evO_conc hs hp).2⟩
          have := ok.same g (memNat_mem hg) (v.conc ρ ι) w
          simp only [ho, resolve, hcal, h1, e1, Deferred.ofValue, Sem.run_bind, Sem.run_pure, Result.andThen_ok, invoke]
          simp only [List.map_toArray, List.map_cons, List.map_nil, h2]
          simpa [SVal.conc] using this
        · cases hp
      · cases hp
    · cases hp
  · cases hp

end
end
end Go.Sx

/- The executor is right: more operations on the heap. -/
namespace Go.Sx
noncomputable section
open Go.RowKit

section
variable {ρ : Env} {G : Globs} {K : Nat → Prop} {w0 w w' : World} {ι ι' : Nm} {h h' : Heap}

/-- What an entry with a datum says. -/
theorem HR.absAt (H : HR ρ G K w0 ι h w) {n k : Nat} {b : Blk} {own : Bool} {t : Tm} (hb : h[n]? = some (some b)) (ha : b.abs = some (own, k, t)) :
    ∃ F : Nat → Prop, ρ.ab.P k (t.den ρ) (ι.val n).v F w ∧ (own = true → F = ι.foot n) := by
  obtain ⟨_, h2, _⟩ := H.blocks _ _ hb
  unfold Blk.Ok at h2
  rw [ha] at h2
  cases own
  · obtain ⟨_, _, F, h3, _⟩ := h2
    exact ⟨F, h3, by simp⟩
  · exact ⟨_, h2.2, fun _ => rfl⟩

/-- Some entries are changed. -/
theorem HR.upd (H : HR ρ G K w0 ι h w) (C : Nat → Prop) (hl : h'.length = h.length) (hos : w'.os = w.os) (htape : w'.tape = w.tape) (hout : w'.output = w.output) (hsz : w.heap.size ≤ w'.heap.size)
    (hst : ∀ q, q < w.heap.size → (∀ n b, C n → h[n]? = some (some b) → ¬ ι.foot n q) → w'.heap[q]? = w.heap[q]?)
    (hb : ∀ n b', h'[n]? = some (some b') → (¬ C n ∧ h[n]? = some (some b')) ∨ (C n ∧ (∃ b, h[n]? = some (some b)) ∧ b'.Ok ρ K ι n w' ∧ b'.cells.sc h.length = true)) :
    HR ρ G K w0 ι h' w' := by
  have at_ : ∀ (m : Nat) (c : Blk), h'[m]? = some (some c) → ∃ d : Blk, h[m]? = some (some d) := by
    intro m c hc
    rcases hb m c hc with ⟨_, h1⟩ | ⟨_, h1, _⟩
    · exact ⟨c, h1⟩
    · exact h1
  have hK : ∀ k, K k → w'.heap[k]? = w.heap[k]? := fun k hk => hst k (by have := H.old k hk; have := H.size; omega) (fun n b _ hn hf => (H.blocks n b hn).1 k hf hk)
  refine ⟨hos.trans H.os, htape.trans H.tape, hout.trans H.output, Nat.le_trans H.size hsz, fun k hk => (hK k hk).trans (H.kept k hk), H.old, H.base, ?_, ?_, H.globs⟩
  · intro m c hc
    rcases hb m c hc with ⟨hm, h1⟩ | ⟨_, ⟨d, hd⟩, h2, h3⟩
    · obtain ⟨k1, k2, k4⟩ := H.blocks m c h1
      refine ⟨k1, k2.still (fun q hq => hst q (H.footLt h1 hq) (fun n b hn hnb hf => ?_)) hK H.base, by rw [hl]; exact k4⟩
      have := H.inj m n c b h1 hnb q hq hf
      subst this
      exact hm hn
    · exact ⟨(H.blocks m d hd).1, h2, by rw [hl]; exact h3⟩
  · intro m1 m2 c1 c2 hc1 hc2 q hq hq'
    obtain ⟨d1, e1⟩ := at_ m1 c1 hc1
    obtain ⟨d2, e2⟩ := at_ m2 c2 hc2
    exact H.inj m1 m2 d1 d2 e1 e2 q hq hq'

/-- One entry with a datum has another one. -/
theorem HR.updV (H : HR ρ G K w0 ι h w) {n k : Nat} {b : Blk} {t t' : Tm} (hb : h[n]? = some (some b)) (ha : b.abs = some (true, k, t)) (hos : w'.os = w.os) (htape : w'.tape = w.tape) (hout : w'.output = w.output)
    (hsz : w.heap.size ≤ w'.heap.size) (hst : ∀ q, q < w.heap.size → ¬ ι.foot n q → w'.heap[q]? = w.heap[q]?) (hP : ρ.ab.P k (t'.den ρ) (ι.val n).v (ι.foot n) w') :
    HR ρ G K w0 ι (h.set n (some { b with abs := some (true, k, t') })) w' := by
  have hn : n < h.length := (List.getElem?_eq_some_iff.1 hb).1
  refine H.upd (fun m => m = n) (by simp) hos htape hout hsz (fun q hq hf => hst q hq (hf n b rfl hb)) ?_
  intro m c hc
  by_cases hm : m = n
  · subst hm
    rw [List.getElem?_set_self hn] at hc
    simp only [Option.some.injEq] at hc
    subst hc
    have h2 := (H.blocks _ _ hb).2
    refine .inr ⟨rfl, ⟨b, hb⟩, ?_, h2.2⟩
    have h3 := h2.1
    unfold Blk.Ok at h3 ⊢
    rw [ha] at h3
    exact ⟨h3.1, hP⟩
  · rw [List.getElem?_set_ne (Ne.symm hm)] at hc
    exact .inl ⟨hm, hc⟩

/-- A new entry with a datum. -/
def absNew (k : Nat) (t : Tm) : Blk := { cells := .nil, elem := 0, spare := none, abs := some (true, k, t) }

theorem HR.newV (H : HR ρ G K w0 ι h w) (hb : Below w.heap.size w w') (v : OneV) (F : Nat → Prop) {k : Nat} {t : Tm} (hP : ρ.ab.P k (t.den ρ) v.v F w') (hF : ∀ q, F q → w.heap.size ≤ q) :
    HR ρ G K w0 (ι.putV h.length v F) (h ++ [some (absNew k t)]) w' := by
  have hf : (ι.putV h.length v F).foot h.length = F := by simp [Nm.putV]
  have hv : (ι.putV h.length v F).val h.length = v := by simp [Nm.putV]
  refine H.new (absNew k t) (Nm.ext_putV ι _ _ _) hb.os hb.tape hb.output hb.size hb.block (fun q hq => hF q (by rw [hf] at hq; exact hq)) ?_ rfl
  show Blk.Ok ρ K (ι.putV h.length v F) h.length (absNew k t) w'
  unfold Blk.Ok absNew
  simp only
  exact ⟨trivial, by rw [hf, hv]; exact hP⟩


/-- A new entry with a datum; it takes the blocks of another one. -/
theorem HR.newC (H : HR ρ G K w0 ι h w) {n : Nat} {c : Blk} (hn : h[n]? = some (some c)) (hb : Below w.heap.size w w') (v : OneV) (F : Nat → Prop) {k : Nat} {t : Tm} (hP : ρ.ab.P k (t.den ρ) v.v F w') (hF : ∀ q, F q → w.heap.size ≤ q ∨ ι.foot n q) :
    HR ρ G K w0 (ι.putV h.length v F) ((h.set n none) ++ [some (absNew k t)]) w' := by
  have hnl : n < h.length := (List.getElem?_eq_some_iff.1 hn).1
  have e := Nm.ext_putV ι h.length v F
  have H' := H.ext e
  have hf : (ι.putV h.length v F).foot h.length = F := by simp [Nm.putV]
  have hv : (ι.putV h.length v F).val h.length = v := by simp [Nm.putV]
  have hfn : (ι.putV h.length v F).foot n = ι.foot n := (e n hnl).2.2.2
  have key : ∀ (m : Nat) (b : Blk), ((h.set n none) ++ [some (absNew k t)])[m]? = some (some b) → (m ≠ n ∧ h[m]? = some (some b)) ∨ (m = h.length ∧ b = absNew k t) := by
    intro m b hm
    rcases getElem?_append_new hm with h1 | ⟨h1, h2⟩
    · left
      by_cases hmn : m = n
      · subst hmn; rw [List.getElem?_set_self hnl] at h1; simp at h1
      · rw [List.getElem?_set_ne (Ne.symm hmn)] at h1; exact ⟨hmn, h1⟩
    · right; exact ⟨by simpa using h1, h2⟩
  refine ⟨hb.os.trans H.os, hb.tape.trans H.tape, hb.output.trans H.output, Nat.le_trans H.size hb.size, ?_, H.old, H.base, ?_, ?_, H'.globs⟩
  · intro q hq
    have := H.old q hq
    have := H.size
    rw [hb.block q (by omega)]
    exact H.kept q hq
  · intro m b hm
    rcases key m b hm with ⟨hmn, h1⟩ | ⟨rfl, rfl⟩
    · obtain ⟨k1, k2, k4⟩ := H'.blocks m b h1
      exact ⟨k1, k2.still (fun q hq => hb.block q (H'.footLt h1 hq)) (fun q hq => hb.block q (by have := H.old q hq; have := H.size; omega)) H.base, SVal.sc_mono (by simp) _ k4⟩
    · refine ⟨fun q hq hK => ?_, ?_, rfl⟩
      · rw [hf] at hq
        rcases hF q hq with h1 | h1
        · have := H.old q hK
          have := H.size
          omega
        · exact (H.blocks n c hn).1 q h1 hK
      · show Blk.Ok ρ K (ι.putV h.length v F) h.length (absNew k t) w'
        unfold Blk.Ok absNew
        simp only
        exact ⟨trivial, by rw [hf, hv]; exact hP⟩
  · intro m1 m2 b1 b2 hb1 hb2 q hq hq'
    have clash : ∀ m b, m ≠ n → h[m]? = some (some b) → (ι.putV h.length v F).foot m q → F q → False := by
      intro m b hmn hm hq hFq
      have hml : m < h.length := (List.getElem?_eq_some_iff.1 hm).1
      rw [(e m hml).2.2.2] at hq
      rcases hF q hFq with h1 | h1
      · have := H.footLt hm hq
        omega
      · exact hmn (H.inj m n b c hm hn q hq h1)
    rcases key m1 b1 hb1 with ⟨hm1, h1⟩ | ⟨rfl, rfl⟩ <;> rcases key m2 b2 hb2 with ⟨hm2, h2⟩ | ⟨rfl, rfl⟩
    · exact H'.inj m1 m2 b1 b2 h1 h2 q hq hq'
    · rw [hf] at hq'; exact (clash m1 b1 hm1 h1 hq hq').elim
    · rw [hf] at hq; exact (clash m2 b2 hm2 h2 hq' hq).elim
    · rfl

/-- A block's cells are stored. -/
theorem HR.storeRow {P : Program} {off b : Nat} {blk : Blk} {vs cells : SVal} (H : HR ρ G K w0 ι h w) (hb : h[b]? = some (some blk)) (hreal : blk.abs = none) (hset : setCells blk.cells off vs = some cells) (hone : vs.allOne = true) (hsc : vs.sc h.length = true) (h0 : 0 < vs.len) :
    ∃ w', (storeCells ⟨ι.blk b, off, none⟩ (vs.concL ρ ι)).run P w = .ok () w' ∧ HR ρ G K w0 ι (h.set b (some { blk with cells := cells })) w' := by
  obtain ⟨k1, _, ⟨cur, k2, k3⟩, k4⟩ := H.real hb hreal
  obtain ⟨_, c2, c3, c4⟩ := concL_setCells (ρ := ρ) (ι := ι) hset
  obtain ⟨rest, hrest⟩ := k3.starts
  have hcl : blk.cells.len ≤ cur.size := by
    have := congrArg List.length hrest
    simp [SVal.concL_length] at this
    omega
  have hfit : off + vs.len ≤ blk.cells.len := by rcases c4 with c4 | c4 <;> omega
  have hcl' := concL_setCells' (ρ := ρ) (ι := ι) hset (by omega)
  have hst := run_storeCells_at P (ι.blk b) off blk.elem (vs.concL ρ ι) 0 cur w k2 (by rw [SVal.concL_length]; omega) (allOne_conc hone)
  simp only [Nat.add_zero] at hst
  have H2 := H.row hb hreal (b' := { blk with cells := cells }) hreal rfl
    ((cur.toList.take off ++ vs.concL ρ ι ++ cur.toList.drop (off + (vs.concL ρ ι).length)).toArray) (by
      have e1 : cur.toList.take off = (blk.cells.concL ρ ι).take off := by rw [hrest, List.take_append_of_le_length (by rw [SVal.concL_length]; omega)]
      have e2 : cur.toList.drop (off + (vs.concL ρ ι).length) = (blk.cells.concL ρ ι).drop (off + vs.len) ++ rest := by
        rw [hrest, SVal.concL_length, List.drop_append_of_le_length (by rw [SVal.concL_length]; omega)]
      have e3 : cur.toList.take off ++ vs.concL ρ ι ++ cur.toList.drop (off + (vs.concL ρ ι).length) = cells.concL ρ ι ++ rest := by
        rw [e1, e2, hcl']; simp
      rw [e3]
      unfold Blk.Fits at k3 ⊢
      simp only
      cases hsp : blk.spare with
      | none =>
        rw [hsp] at k3
        simp only at k3 ⊢
        rw [hrest] at k3
        have : rest = [] := by
          have := congrArg List.length k3
          simp at this
          exact this
        simp [this]
      | some q =>
        rw [hsp] at k3
        simp only at k3 ⊢
        refine ⟨⟨rest, by simp⟩, ?_⟩
        rw [← k3.2]
        have := congrArg List.length hrest
        simp [SVal.concL_length] at this
        simp [SVal.concL_length, c2]
        omega) (c3 _ k4 hsc)
  exact ⟨_, hst, H2⟩

/-- Zeros, side by side. -/
theorem repeat_init {z : Nat} (zv : SVal) (n : Nat) (hz : zv.len = z) (h0 : 0 < z) :
    ((Array.range (n * z)).map fun i => (zv.concL ρ ι).toArray[i % (zv.concL ρ ι).toArray.size]!) = ((repeatS zv n).concL ρ ι).toArray := by
  have hll : (zv.concL ρ ι).length = z := by rw [SVal.concL_length]; exact hz
  apply Array.ext'
  apply List.ext_getElem?
  intro k
  rw [repeatS_concL]
  by_cases hk : k < n * z
  · rw [flatten_replicate_getElem? _ n k (by rw [hll]; exact hk), hll]
    have hmod : k % z < (zv.concL ρ ι).length := by rw [hll]; exact Nat.mod_lt _ h0
    simp [hk, hll]
    rw [List.getElem?_eq_getElem hmod]
    simp
  · rw [List.getElem?_eq_none (by simp; omega), List.getElem?_eq_none (by simp [hll]; omega)]

theorem len_app : ∀ (a b : SVal), (a.app b).len = a.len + b.len := by
  intro a
  induction a with
  | cons x r _ ih =>
    intro b
    simp only [SVal.app, SVal.len, ih]
    omega
  | _ => intro b; simp [SVal.app, SVal.len]

theorem repeatS_len (z : SVal) : ∀ n : Nat, (repeatS z n).len = n * z.len
  | 0 => by simp [repeatS, SVal.len]
  | n + 1 => by rw [repeatS, len_app, repeatS_len z n, Nat.succ_mul, Nat.add_comm]

theorem allOne_app : ∀ {a b : SVal}, a.allOne = true → b.allOne = true → (a.app b).allOne = true := by
  intro a
  induction a with
  | cons x r _ ih =>
    intro b ha hb
    simp only [SVal.allOne, Bool.and_eq_true] at ha
    simp [SVal.app, SVal.allOne, ha.1, ih ha.2 hb]
  | _ => intro b _ hb; simpa [SVal.app] using hb

theorem repeatS_one {z : SVal} (hz : z.allOne = true) : ∀ n : Nat, (repeatS z n).allOne = true
  | 0 => rfl
  | n + 1 => allOne_app hz (repeatS_one hz n)

theorem run_makeSliceT (H : HR ρ G K w0 ι h w) {P : Program} {t e : TypeId} {i : TypeInfo} {v : SVal} {n m : Nat} (k k' : IntKind) (hu : P.underlying t = some (.slice e)) (hi : P.info? e = some i) (hv : zeroT P e = some v)
    (hnm : n ≤ m) (hm : m ≤ 4294967296) (hb : m * i.bytes ≤ 281474976710656) (hc : m * i.size ≤ 16777216) (hl : v.cellsOf.len = i.size) (h0 : 0 < i.size) (_hp : v.plain = true) :
    ∃ ι' w', (Instr.makeSlice t (.int k n) (.int k' m)).run P w = .ok ((SVal.slice h.length 0 n (.known m)).conc ρ ι') w' ∧ Nm.Ext h.length ι ι' ∧ HR ρ G K w0 ι' (h ++ [some { cells := repeatS v.cellsOf m, elem := e, spare := none }]) w' := by
  obtain ⟨z1, z2, z3⟩ := zeroT_conc (ρ := ρ) (ι := ι) w hv
  have hzc := cells_conc' (ρ := ρ) (ι := ι) v z3
  have hz : ∃ zv, i.zero = some zv ∧ zv = v.conc ρ ι := by
    unfold zeroT at hv
    rw [hi] at hv
    simp only at hv
    split at hv
    · rename_i zv hzv
      exact ⟨zv, hzv, ((ofValue_conc (ρ := ρ) (ι := ι) hv).1).symm⟩
    · cases hv
  obtain ⟨zv, hzv, rfl⟩ := hz
  have hr := run_makeSlice (P := P) w t e i _ hu hi hzv k k' (n : Int) (m : Int) (by omega) (by omega) (by simpa using hc) (by
    have : ((m * i.bytes : Nat) : Int) ≤ 281474976710656 := by omega
    rw [Int.natCast_mul] at this
    rw [Int.mul_comm]; exact this) (by omega)
  simp only [Int.toNat_natCast] at hr
  have hg := HR.alloc (b := { cells := repeatS v.cellsOf m, elem := e, spare := none }) H ((repeatS v.cellsOf m).concL ρ ι).toArray 0 (repeatS_sc (SVal.sc_mono (Nat.zero_le _) _ (cellsOf_sc z2)) m) (by simp [Blk.Fits])
  refine ⟨_, _, ?_, Nm.ext_put ι _ _ _, hg⟩
  rw [hr, hzc]
  have := repeat_init (ρ := ρ) (ι := ι) v.cellsOf m hl h0
  unfold madeCells
  rw [this]
  simp [SVal.conc, Nm.put, Cap.ev]

theorem bytesS_conc : ∀ l : List UInt8, (bytesS l).concL ρ ι = l.map fun b => Value.int .u8 b.toNat
  | [] => rfl
  | c :: r => by simp [bytesS, SVal.concL, SVal.conc, Tm.den, bytesS_conc r]
theorem bytesS_sc (n : Nat) : ∀ l : List UInt8, (bytesS l).sc n = true
  | [] => rfl
  | c :: r => by simp [bytesS, SVal.sc, bytesS_sc n r]

theorem newsT_src (H : HR ρ G K w0 ι h w) {P : Program} {z : Nat} {u : TypeId} {x new : SVal} {m : Nat} (hn : newsT P h z u x = some (m, new)) (h1 : new.allOne = true) :
    Src P z u (x.conc ρ ι) m (new.concL ρ ι) w ∧ new.sc h.length = true := by
  unfold newsT at hn
  split at hn
  · rename_i l
    split at hn
    · rename_i hu hz
      obtain rfl := Nat.eq_of_beq_eq_true hz
      simp only [Option.some.injEq, Prod.mk.injEq] at hn
      obtain ⟨rfl, rfl⟩ := hn
      have := Src.ofString (w := w) hu ⟨l.toArray⟩
      have e1 : (⟨l.toArray⟩ : ByteArray).size = l.length := by simp [ByteArray.size]
      have e2 : byteCells ⟨l.toArray⟩ = (bytesS l).concL ρ ι := by simp [byteCells, bytesS_conc]
      rw [e1, e2] at this
      exact ⟨this, bytesS_sc _ _⟩
    · cases hn
  · split at hn
    · rename_i e hu
      simp only [Option.some.injEq, Prod.mk.injEq] at hn
      obtain ⟨rfl, rfl⟩ := hn
      exact ⟨Src.ofNil w hu 0, rfl⟩
    · cases hn
  · rename_i b off n c
    split at hn
    · rename_i e l hu hl
      simp only [Option.some.injEq, Prod.mk.injEq] at hn
      obtain ⟨rfl, rfl⟩ := hn
      obtain ⟨n1, n2, n3⟩ := sliceCells_spec H hl
      exact ⟨Src.ofSlice w hu _ n _ _ (by rw [SVal.concL_length]; exact n1) (n3 b off n c rfl) (allOne_conc h1), n2⟩
    · cases hn
  · rename_i n
    split at hn
    · rename_i e blk hu hb hz
      obtain rfl := Nat.eq_of_beq_eq_true hz
      split at hn
      · rename_i k l ha
        split at hn
        · rename_i hk
          obtain rfl := Nat.eq_of_beq_eq_true hk
          simp only [Option.some.injEq, Prod.mk.injEq] at hn
          obtain ⟨rfl, rfl⟩ := hn
          obtain ⟨F, hP, hF⟩ := H.absAt hb ha
          rcases (ρ.ab.objs 2005 _ _ _ _ (by omega)).1 hP with ⟨h0, _⟩ | ⟨h0, _⟩ | ⟨h0, _⟩ | ⟨_, r, l', c, _, hv, hd, hr, hc⟩ | ⟨h0, _⟩
          · omega
          · omega
          · omega
          · have hd : Sc.list [.str l] = .list [.str l'] := hd
            simp only [Sc.list.injEq, List.cons.injEq, Sc.str.injEq, and_true] at hd
            subst hd
            have hx : (SVal.abs n).conc ρ ι = .slice (some ⟨r, 0, none⟩) l.length c := hv
            rw [hx]
            refine ⟨Src.ofSlice w hu _ l.length _ _ (by rw [bytesS_conc]; simp) (fun j u hj => ?_) (allOne_conc h1), bytesS_sc _ _⟩
            rw [bytesS_conc, List.getElem?_map] at hj
            rw [addr_add, Nat.zero_add]
            cases hl : l[j]? with
            | none => rw [hl] at hj; cases hj
            | some b =>
              rw [hl] at hj
              simp only [Option.map_some, Option.some.injEq] at hj
              subst hj
              exact hc j b hl
          · omega
        · cases hn
      · cases hn
    · cases hn
  · cases hn

end
end
end Go.Sx

/- The executor is right: more operations on the heap, in one theorem. -/
namespace Go.Sx
noncomputable section
open Go.RowKit

section
variable {ρ : Env} {G : Globs} {K : Nat → Prop} {w0 w : World} {ι : Nm} {h : Heap} {P : Program}

theorem run_clearT (H : HR ρ G K w0 ι h w) {t e ty : TypeId} {v cells : SVal} {b off n z : Nat} {c : Cap} {blk : Blk} (hu : P.underlying t = some (.slice e)) (hb : h[b]? = some (some blk)) (hv : zeroT P e = some v)
    (hl : v.cellsOf.len = z) (hz : 0 < z) (hn : 0 < n) (_hp : v.plain = true) (ho : v.cellsOf.allOne = true) (hr : blk.isReal = true) (hs : setCells blk.cells off (repeatS v.cellsOf n) = some cells) :
    ∃ w', (Builtin.clear_ #[t] ty #[(SVal.slice b off n c).conc ρ ι]).run P w = .ok (.tuple #[]) w' ∧ HR ρ G K w0 ι (h.set b (some { blk with cells := cells })) w' := by
  obtain ⟨z1, z2, z3⟩ := zeroT_conc (ρ := ρ) (ι := ι) w hv
  have hzc := cells_conc' (ρ := ρ) (ι := ι) v z3
  obtain ⟨w', r1, r2⟩ := HR.storeRow (P := P) H hb (isReal_none hr) hs (repeatS_one ho n) (repeatS_sc (SVal.sc_mono (Nat.zero_le _) _ (cellsOf_sc z2)) n) (by rw [repeatS_len, hl]; exact Nat.mul_pos hn hz)
  refine ⟨w', ?_, r2⟩
  have he : (Builtin.zeroCells (v.conc ρ ι).cells n).toList = (repeatS v.cellsOf n).concL ρ ι := by
    have := repeat_init (ρ := ρ) (ι := ι) v.cellsOf n hl hz
    unfold Builtin.zeroCells
    rw [hzc]
    have e : (v.cellsOf.concL ρ ι).toArray.size = z := by simp [SVal.concL_length, hl]
    rw [e] at this ⊢
    rw [this]
  match n, hn with
  | n + 1, _ =>
    simp only [SVal.conc, Builtin.clear_]
    simp [run_underlying hu, z1, he, r1]

theorem run_copyT (H : HR ρ G K w0 ι h w) {t u e ty : TypeId} {cells : SVal} {b off n b2 off2 n2 z : Nat} {c c2 : Cap} {blk blk2 : Blk} (hu : P.underlying t = some (.slice e)) (hb : h[b]? = some (some blk)) (hb2 : h[b2]? = some (some blk2)) (hz : sizeT P e = some z)
    (hl : off2 + min n2 n * z ≤ blk2.cells.len) (h1 : ((blk2.cells.dropN off2).takeN (min n2 n * z)).allOne = true) (hr : blk.isReal = true) (_hr2 : blk2.isReal = true) (hs : setCells blk.cells off ((blk2.cells.dropN off2).takeN (min n2 n * z)) = some cells) :
    ∃ w', (Builtin.copy_ #[t, u] ty #[(SVal.slice b off n c).conc ρ ι, (SVal.slice b2 off2 n2 c2).conc ρ ι]).run P w = .ok (.int .i64 ((min n2 n : Nat) : Int)) w' ∧ HR ρ G K w0 ι (h.set b (some { blk with cells := cells })) w' := by
  obtain ⟨n1, n2', n3⟩ := sliceCells_spec (s := .slice b2 off2 (min n2 n) c2) (z := z) (l := (blk2.cells.dropN off2).takeN (min n2 n * z)) H (by
    simp only [sliceCells, hb2, show Nat.ble (off2 + min n2 n * z) blk2.cells.len = true from Nat.ble_eq_true_of_le hl])
  have n3 := n3 _ _ _ _ rfl
  simp only [SVal.sliceLen] at n1
  have hf := run_firstCells_some (P := P) w z (min n2 n) ⟨ι.blk b2, off2, none⟩ n2 (c2.ev ι) _ (by rw [SVal.concL_length]; exact n1) n3
  have hi : ∃ i, P.info? e = some i ∧ i.size = z := by
    unfold sizeT at hz
    simpa using hz
  obtain ⟨i, hi, rfl⟩ := hi
  by_cases h0 : 0 < ((blk2.cells.dropN off2).takeN (min n2 n * i.size)).len
  · obtain ⟨w', r1, r2⟩ := HR.storeRow (P := P) H hb (isReal_none hr) hs h1 n2' h0
    refine ⟨w', ?_, r2⟩
    have em : Nat.min n2 n = min n2 n := rfl
    simp only [SVal.conc]
    simp [Builtin.copy_, run_underlying hu, Builtin.lenOf, sizeOf, typeInfo, hi, em, hf, r1, goInt]
  · have hnil : (((blk2.cells.dropN off2).takeN (min n2 n * i.size)).concL ρ ι).length = 0 := by rw [SVal.concL_length]; omega
    have hnil := List.eq_nil_of_length_eq_zero hnil
    rw [hnil] at hf
    have hcells : cells = blk.cells := by
      generalize (blk2.cells.dropN off2).takeN (min n2 n * i.size) = vs at hs h0
      cases vs with
      | cons p q => exact (h0 (Nat.succ_pos _)).elim
      | _ => simp only [setCells, Option.some.injEq] at hs; exact hs.symm
    subst hcells
    refine ⟨w, ?_, ?_⟩
    · have em : Nat.min n2 n = min n2 n := rfl
      simp only [SVal.conc]
      simp [Builtin.copy_, run_underlying hu, Builtin.lenOf, sizeOf, typeInfo, hi, em, hf, goInt, storeCells]
    · have : h.set b (some { blk with cells := blk.cells }) = h := by
        apply List.ext_getElem?
        intro k
        by_cases hk : b = k
        · subst hk
          rw [List.getElem?_set_self (List.getElem?_eq_some_iff.1 hb).1, hb]
        · rw [List.getElem?_set_ne hk]
      rw [this]; exact H

theorem run_copyNil (w : World) {t u e ty : TypeId} {z : Nat} {a a2 : Option Addr} {n c n2 c2 : Nat} (hu : P.underlying t = some (.slice e)) (hz : sizeT P e = some z) (h0 : min n2 n = 0) (hx : a2 = none ∨ ∃ p, a2 = some p) :
    (Builtin.copy_ #[t, u] ty #[.slice a n c, .slice a2 n2 c2]).run P w = .ok (.int .i64 0) w := by
  have hi : ∃ i, P.info? e = some i ∧ i.size = z := by
    unfold sizeT at hz
    simpa using hz
  obtain ⟨i, hi, rfl⟩ := hi
  have em : Nat.min n2 n = 0 := h0
  have hl : ∀ (x : Addr), (loadCells x 0).run P w = .ok #[] w := fun x => by simpa using run_loadCells_list (P := P) w x [] (by simp)
  cases a <;> cases a2 <;> simp [Builtin.copy_, run_underlying hu, Builtin.lenOf, Builtin.firstCells, sizeOf, typeInfo, hi, em, storeCells, hl, goInt]

theorem run_appendX (H : HR ρ G K w0 ι h w) {t u e ty : TypeId} {i : TypeInfo} {zv : Value} {s x v new : SVal} {m : Nat} {h' : Heap} (hu : P.underlying t = some (.slice e)) (hi : P.info? e = some i) (hz : i.zero = some zv)
    (hn : newsT P h i.size u x = some (m, new)) (ha : appendX h i zv e s m new = some (v, h')) (hsc : s.sc h.length = true) :
    ∃ (ι' : Nm) (w' : World), (Builtin.append_ #[t, u] ty #[s.conc ρ ι, x.conc ρ ι]).run P w = .ok (v.conc ρ ι') w' ∧ Nm.Ext h.length ι ι' ∧ h.length ≤ h'.length ∧ HR ρ G K w0 ι' h' w' ∧ v.sc h'.length = true := by
  unfold appendX at ha
  have none0 : ∀ (o : new.allOne = true) (sl sc : Nat) (a : Option Addr), sl ≤ sc → m = 0 → (Builtin.append_ #[t, u] ty #[.slice a sl sc, x.conc ρ ι]).run P w = .ok (.slice a sl sc) w := by
    intro o sl sc a hle hm
    subst hm
    obtain ⟨S, _⟩ := newsT_src (P := P) H hn o
    have hnil : new.concL ρ ι = [] := List.eq_nil_of_length_eq_zero (by rw [S.newsLen]; simp)
    have hc := S.cells
    rw [hnil] at hc
    rcases S.kind with ⟨e', hk⟩ | hk <;> cases a <;> simp [Builtin.append_, run_underlying hu, run_underlying hk, sizeOf, typeInfo, hi, S.len, hle, hc, storeCells]
  have hm0 : m = 0 → new.allOne = true := by
    intro hm
    subst hm
    unfold newsT at hn
    split at hn
    · rename_i l
      split at hn
      · simp only [Option.some.injEq, Prod.mk.injEq] at hn
        obtain ⟨h1, rfl⟩ := hn
        have : l = [] := List.eq_nil_of_length_eq_zero h1
        subst this
        rfl
      · cases hn
    · split at hn
      · simp only [Option.some.injEq, Prod.mk.injEq] at hn
        obtain ⟨_, rfl⟩ := hn
        rfl
      · cases hn
    · split at hn
      · rename_i e l hu' hl
        simp only [Option.some.injEq, Prod.mk.injEq] at hn
        obtain ⟨rfl, rfl⟩ := hn
        obtain ⟨n1, _, _⟩ := sliceCells_spec H hl
        simp only [SVal.sliceLen, Nat.zero_mul] at n1
        cases hl2 : l <;> first | rfl | (rw [hl2] at n1; simp [SVal.len] at n1)
      · cases hn
    · split at hn
      · split at hn
        · rename_i k l ha
          split at hn
          · simp only [Option.some.injEq, Prod.mk.injEq] at hn
            obtain ⟨hl, rfl⟩ := hn
            have : l = [] := List.eq_nil_of_length_eq_zero hl
            subst this
            rfl
          · cases hn
        · cases hn
      · cases hn
    · cases hn
  split at ha
  · split at ha
    · rename_i hm
      have hm := Nat.eq_of_beq_eq_true hm
      simp only [Option.some.injEq, Prod.mk.injEq] at ha
      obtain ⟨rfl, rfl⟩ := ha
      exact ⟨ι, w, none0 (hm0 hm) 0 0 none (Nat.le_refl _) hm, Nm.Ext.refl _ _, Nat.le_refl _, H, rfl⟩
    · rename_i hm
      have hm : m ≠ 0 := by
        rintro rfl
        simp at hm
      split at ha
      · rename_i hcond
        simp only [Bool.and_eq_true] at hcond
        obtain ⟨⟨⟨⟨h48, h63⟩, hzs⟩, hsz⟩, hone⟩ := hcond
        have h48 := Nat.le_of_ble_eq_true h48
        have h63 := Nat.le_of_ble_eq_true h63
        have hzs := Nat.eq_of_beq_eq_true hzs
        have hsz : 0 < i.size := Nat.le_of_ble_eq_true hsz
        simp only [Option.some.injEq, Prod.mk.injEq] at ha
        obtain ⟨rfl, rfl⟩ := ha
        obtain ⟨S, hns⟩ := newsT_src (P := P) H hn hone
        have hold : (Builtin.firstCells i.size 0 (.slice none 0 0)).run P w.drew = .ok ([] : List Value).toArray w.drew := run_firstCells_none w.drew i.size 0 0 0
        have hr := run_append_grow_src (P := P) w t u ty e i zv hu hi hz none 0 0 [] hold (x.conc ρ ι) m (new.concL ρ ι) S (by omega) (by omega) (by
          rw [Nat.zero_add, nextslicecap_zero (by omega)]
          have : m * i.bytes ≤ 2 * m * i.bytes := Nat.mul_le_mul_right _ (by omega)
          omega)
        simp only [Nat.zero_add, List.nil_append] at hr
        have hg := HR.alloc (b := { cells := new, elem := e, spare := some i.size }) H.drew1 ((new.concL ρ ι).toArray ++ Builtin.zeroCells zv.cells (grownCap w m 0 e - m)) (grownCap w m 0 e) hns (by
          refine ⟨⟨(Builtin.zeroCells zv.cells (grownCap w m 0 e - m)).toList, by simp⟩, ?_⟩
          have hle := le_grownCap w m 0 e
          simp only [Array.size_append, List.size_toArray, size_zeroCells, S.newsLen, hzs]
          rw [← Nat.add_mul]
          congr 1
          omega)
        refine ⟨_, _, ?_, Nm.ext_put ι _ _ _, by simp, hg, by simp [SVal.sc]⟩
        simp only [SVal.conc]
        rw [hr]
        simp [Cap.ev, Nm.put]
      · cases ha
  · rename_i b off n c
    split at ha
    · rename_i hle
      have hle := Nat.le_of_ble_eq_true hle
      split at ha
      · rename_i _ hm
        have hm := Nat.eq_of_beq_eq_true hm
        simp only [Option.some.injEq, Prod.mk.injEq] at ha
        obtain ⟨rfl, rfl⟩ := ha
        exact ⟨ι, w, none0 (hm0 hm) n c _ (by omega) hm, Nm.Ext.refl _ _, Nat.le_refl _, H, hsc⟩
      · rename_i blk hm hb
        have hm : m ≠ 0 := by
          rintro rfl
          simp at hm
        split at ha
        · rename_i hcond
          simp only [Bool.and_eq_true] at hcond
          obtain ⟨⟨hreal, hone⟩, hsz⟩ := hcond
          have hsz : 0 < i.size := Nat.le_of_ble_eq_true hsz
          split at ha
          · rename_i cells hset
            simp only [Option.some.injEq, Prod.mk.injEq] at ha
            obtain ⟨rfl, rfl⟩ := ha
            obtain ⟨S, hns⟩ := newsT_src (P := P) H hn hone
            have hlen : new.len = m * i.size := by rw [← S.newsLen, SVal.concL_length]
            obtain ⟨w', r1, r2⟩ := HR.storeRow (P := P) H hb (isReal_none hreal) hset hone hns (by rw [hlen]; exact Nat.mul_pos (by omega) hsz)
            refine ⟨ι, w', ?_, Nm.Ext.refl _ _, by simp, r2, by simpa [SVal.sc] using hsc⟩
            have ha2 : (⟨ι.blk b, off, none⟩ : Addr).add (n * i.size) = ⟨ι.blk b, off + n * i.size, none⟩ := addr_add _ _ _
            simp only [SVal.conc, Cap.ev]
            rcases S.kind with ⟨e', hk⟩ | hk <;> simp [Builtin.append_, run_underlying hu, run_underlying hk, sizeOf, typeInfo, hi, S.len, hle, S.cells, ha2, r1]
          · cases ha
        · cases ha
      · cases ha
    · cases ha
  · rename_i b n b'
    split at ha
    · rename_i hm
      have hm := Nat.eq_of_beq_eq_true hm
      split at ha
      · rename_i hroom
        have hroom := roomT_ok H hroom
        simp only [Option.some.injEq, Prod.mk.injEq] at ha
        obtain ⟨rfl, rfl⟩ := ha
        exact ⟨ι, w, none0 (hm0 hm) n _ _ hroom hm, Nm.Ext.refl _ _, Nat.le_refl _, H, hsc⟩
      · cases ha
    · rename_i hm
      have hm : m ≠ 0 := by
        rintro rfl
        simp at hm
      split at ha
      · rename_i ob hbb hob
        obtain rfl := Nat.eq_of_beq_eq_true hbb
        split at ha
        · rename_i z' hsp
          split at ha
          · rename_i hcond
            simp only [Bool.and_eq_true] at hcond
            obtain ⟨⟨⟨⟨⟨⟨⟨⟨hz', hoblen⟩, hobe⟩, hreal⟩, h48⟩, h63⟩, hzs⟩, hsz⟩, hone⟩ := hcond
            have hreal := isReal_none hreal
            have hz' := Nat.eq_of_beq_eq_true hz'
            have hoblen := Nat.eq_of_beq_eq_true hoblen
            have hobe := Nat.eq_of_beq_eq_true hobe
            have h48 := Nat.le_of_ble_eq_true h48
            have h63 := Nat.le_of_ble_eq_true h63
            have hzs := Nat.eq_of_beq_eq_true hzs
            have hsz : 0 < i.size := Nat.le_of_ble_eq_true hsz
            simp only [Option.some.injEq, Prod.mk.injEq] at ha
            obtain ⟨rfl, rfl⟩ := ha
            obtain ⟨S, hns⟩ := newsT_src (P := P) H hn hone
            have hbs : b < h.length := (List.getElem?_eq_some_iff.1 hob).1
            obtain ⟨k1, _, ⟨cur, k2, k3⟩, k4⟩ := H.real hob hreal
            have hsca : (ob.cells.app new).sc h.length = true := SVal.sc_app _ _ k4 hns
            have hle2 : h.length ≤ (h.set b none ++ [some ({ cells := ob.cells.app new, elem := e, spare := some i.size } : Blk)]).length := by simp
            unfold Blk.Fits at k3
            rw [hsp] at k3
            simp only at k3
            obtain ⟨⟨rest, hrest⟩, hsize⟩ := k3
            rw [← hz'] at hsize
            rw [hobe] at k2
            have hlo : (ob.cells.concL ρ ι).length = n * i.size := by rw [SVal.concL_length]; exact hoblen
            have htake : cur.toList.take (n * i.size) = ob.cells.concL ρ ι := by
              rw [hrest, List.take_append_of_le_length (by omega), List.take_of_length_le (by omega)]
            by_cases hroom : n + m ≤ ι.cap b
            · have hfit : n * i.size + (new.concL ρ ι).length ≤ cur.size := by
                rw [S.newsLen, hsize, ← Nat.add_mul]
                exact Nat.mul_le_mul_right _ hroom
              have hst := run_storeCells_at P (ι.blk b) (n * i.size) e (new.concL ρ ι) 0 cur w k2 (by omega) (allOne_conc hone)
              simp only [Nat.add_zero, htake] at hst
              have hadd : (⟨ι.blk b, 0, none⟩ : Addr).add (n * i.size) = ⟨ι.blk b, n * i.size, none⟩ := by rw [addr_add, Nat.zero_add]
              have H2 := H.row hob hreal (b' := { cells := ob.cells.app new, elem := e, spare := some i.size }) rfl hobe.symm
                ((ob.cells.concL ρ ι ++ new.concL ρ ι ++ cur.toList.drop (n * i.size + (new.concL ρ ι).length)).toArray)
                (by
                  refine ⟨⟨cur.toList.drop (n * i.size + (new.concL ρ ι).length), by simp [SVal.concL_app]⟩, ?_⟩
                  rw [← hsize]
                  simp only [List.size_toArray, List.length_append, List.length_drop, Array.length_toList, hlo]
                  omega) hsca
              have hob2 : (h.set b (some ({ cells := ob.cells.app new, elem := e, spare := some i.size } : Blk)))[b]? = some (some { cells := ob.cells.app new, elem := e, spare := some i.size }) := by simp [hbs]
              have H3 := H2.move hob2 rfl
              simp only [List.length_set, List.set_set] at H3
              refine ⟨_, _, ?_, Nm.ext_put ι _ _ _, hle2, H3, by simp [SVal.sc]⟩
              simp only [SVal.conc, Cap.ev]
              rcases S.kind with ⟨e', hk⟩ | hk <;> simp [Builtin.append_, run_underlying hu, run_underlying hk, sizeOf, typeInfo, hi, S.len, hroom, S.cells, hadd, hst, Nm.put]
            · have hlt : ι.cap b < n + m := by omega
              have hcap := nextslicecap_le hlt
              have hold : (Builtin.firstCells i.size n (.slice (some ⟨ι.blk b, 0, none⟩) n (ι.cap b))).run P w.drew = .ok (ob.cells.concL ρ ι).toArray w.drew := by
                refine run_firstCells_some w.drew i.size n ⟨ι.blk b, 0, none⟩ n (ι.cap b) _ hlo fun j u hu => ?_
                rw [addr_add, Nat.zero_add]
                exact H.cellsAt hob _ _ hu
              have hr := run_append_grow_src (P := P) w t u ty e i zv hu hi hz (some ⟨ι.blk b, 0, none⟩) n (ι.cap b) (ob.cells.concL ρ ι) hold (x.conc ρ ι) m (new.concL ρ ι) S hlt (by omega) (by
                have : Builtin.nextslicecap (n + m) (ι.cap b) * i.bytes ≤ 2 * (n + m) * i.bytes := Nat.mul_le_mul_right _ hcap
                omega)
              have hg := HR.alloc (b := { cells := ob.cells.app new, elem := e, spare := some i.size }) H.drew1 ((ob.cells.concL ρ ι ++ new.concL ρ ι).toArray ++ Builtin.zeroCells zv.cells (grownCap w (n + m) (ι.cap b) e - (n + m))) (grownCap w (n + m) (ι.cap b) e) hsca (by
                refine ⟨⟨(Builtin.zeroCells zv.cells (grownCap w (n + m) (ι.cap b) e - (n + m))).toList, by simp [SVal.concL_app]⟩, ?_⟩
                have hle := le_grownCap w (n + m) (ι.cap b) e
                simp only [Array.size_append, List.size_toArray, List.length_append, size_zeroCells, S.newsLen, hzs, hlo]
                rw [← Nat.add_mul, ← Nat.add_mul]
                congr 1
                omega)
              have hg2 := hg.forget (h' := h.set b none ++ [some { cells := ob.cells.app new, elem := e, spare := some i.size }]) (by
                intro k bb hk
                rcases getElem?_append_new hk with h1 | ⟨h1, h2⟩
                · by_cases hkb : k = b
                  · subst hkb; rw [List.getElem?_set_self hbs] at h1; simp at h1
                  · rw [List.getElem?_set_ne (Ne.symm hkb)] at h1
                    exact ⟨by rw [List.getElem?_append_left (List.getElem?_eq_some_iff.1 h1).1]; exact h1, by
                      have := (H.blocks k bb h1).2.2
                      exact SVal.sc_mono (by simp) _ this⟩
                · subst h2
                  simp only [List.length_set] at h1
                  subst h1
                  exact ⟨by simp, SVal.sc_mono (by simp) _ hsca⟩)
              refine ⟨_, _, ?_, Nm.ext_put ι _ _ _, hle2, hg2, by simp [SVal.sc]⟩
              simp only [SVal.conc]
              rw [show Cap.ev ι (Cap.of b) = ι.cap b from rfl, hr]
              simp [Nm.put, Cap.ev]
          · cases ha
        · cases ha
      · cases ha
  · cases ha


theorem decode_low {s : List UInt8} {pos : Nat} {c : UInt8} (hs : s[pos]? = some c) (hc : c.toNat < 128) : Utf8.decode ⟨s.toArray⟩ pos = (c.toNat, 1) := by
  have hp : pos < s.length := (List.getElem?_eq_some_iff.1 hs).1
  have hg : (⟨s.toArray⟩ : ByteArray).get! (pos + 0) = c := by
    show s.toArray[pos + 0]! = c
    simp [hs]
  unfold Utf8.decode
  simp only [hg]
  rw [if_pos (by simpa using hc)]

theorem run_forIn_unit {P : Program} {w : World} {fs : List Field} (B : Field → PUnit → Sem (ForInStep PUnit)) (hB : ∀ f ∈ fs, ∀ r, (B f r).run P w = .ok (.yield PUnit.unit) w) : ∀ l : List Field, (∀ f ∈ l, f ∈ fs) → (forIn l PUnit.unit B).run P w = .ok PUnit.unit w
  | [], _ => rfl
  | f :: r, hm => by
    rw [List.forIn_cons]
    simp only [Sem.run_bind, hB f (hm f (List.mem_cons_self ..)), Result.andThen_ok]
    exact run_forIn_unit B hB r fun g hg => hm g (List.mem_cons_of_mem _ hg)

theorem run_checkKey_ints {P : Program} {w : World} {t : TypeId} {fs : Array Field} {cs : Array Value} {e : Bool} {n : Nat} (hu : P.underlying t = some (.struct fs))
    (h : ∀ f ∈ fs, ∃ k v, P.underlying f.type = some (.int k) ∧ (part f.type cs f.offset).run P w = .ok v w) : (Instr.checkKey e (n + 2) t (.agg cs)).run P w = .ok () w := by
  unfold Instr.checkKey
  simp only [Sem.run_bind, run_underlying hu, Result.andThen_ok]
  rw [← Array.forIn_toList]
  rw [run_forIn_unit (fs := fs.toList) _ (fun f hf r => ?_) fs.toList (fun f hf => hf)]
  · rfl
  · obtain ⟨k, v, h1, h2⟩ := h f (by simpa using hf)
    have hc : (Instr.checkKey e (n + 1) f.type v).run P w = .ok () w := by
      unfold Instr.checkKey
      simp only [Sem.run_bind, run_underlying h1, Result.andThen_ok]
      rfl
    by_cases hn : f.name ≠ "_"
    · rw [if_pos hn]
      simp only [Sem.run_bind, h2, hc, Result.andThen_ok, Sem.run_pure]
    · rw [if_neg hn]
      rfl
theorem lookF_list {s : List UInt8} {d : Tm} {r : Option Bool} (h : lookF s d = some r) : d.den ρ = .list (d.den ρ).asList := by
  unfold lookF at h
  split at h
  · rfl
  · rfl
  · cases h

theorem snocT_den {s : List UInt8} {x : Tm} : ∀ {d : Tm}, lookF s d = some none → (snocT d x).den ρ = .list ((d.den ρ).asList ++ [x.den ρ]) := by
  intro d
  induction d with
  | cons a r _ ih =>
    intro h
    unfold lookF at h
    split at h
    · rename_i e; cases e
    · rename_i a' b' d' e
      simp only [Tm.cons.injEq] at e
      obtain ⟨rfl, rfl⟩ := e
      split at h
      · simp at h
      · simp only [snocT, Tm.den, ih h]
        rfl
    · cases h
  | nil =>
    intro h
    rfl
  | _ => intro h; simp [lookF] at h

theorem litBytes_spec : ∀ {v : SVal} {l : List UInt8}, litBytes v = some l → v.concL ρ ι = l.map (fun b => Value.int .u8 b.toNat)
  | .nil, l, h => by simp [litBytes] at h; subst h; rfl
  | .cons a r, l, h => by
    unfold litBytes at h
    split at h
    · rename_i e; cases e
    · rename_i c r' e
      simp only [SVal.cons.injEq] at e
      obtain ⟨rfl, rfl⟩ := e
      split at h
      · rename_i l' hl hc
        simp only [Option.some.injEq] at h
        subst h
        have hc : c < 256 := Nat.le_of_ble_eq_true hc
        simp only [SVal.concL, litBytes_spec hl, List.map_cons]
        congr 1
        simp [SVal.conc, Tm.den, Nat.mod_eq_of_lt hc]
      · cases h
    · cases h
  | .int .., l, h | .bool _, l, h | .str _, l, h | .ptr .., l, h | .nilptr, l, h | .gptr .., l, h | .slice .., l, h | .nilslice, l, h | .agg _, l, h | .tup _, l, h | .func .., l, h | .nilfunc, l, h | .iface .., l, h | .nilIface, l, h | .nilmap, l, h | .val _, l, h | .ptrI .., l, h | .abs _, l, h | .ptrA .., l, h => by simp [litBytes] at h

/-- A map's entries. -/
def ents (l : List (List UInt8 × Bool)) (j : Nat) : List MapEntry := (l.zipIdx j).map fun p => { key := .string ⟨p.1.1.toArray⟩, val := .bool p.1.2, born := p.2 }

theorem findNow_ents (s : List UInt8) : ∀ (l : List (List UInt8 × Bool)) (i j : Nat) (r : Option Bool) (d : Tm), (d.den ρ) = .list (l.map fun p => .list [.str p.1, .bool p.2]) → lookF s d = some r →
    ∃ o, Instr.findNow .string (.string ⟨s.toArray⟩) (ents l j) i = some o ∧ o.map (·.2) = r.map Value.bool
  | [], i, j, r, d, hd, h => by
    unfold lookF at h
    split at h
    · simp only [Option.some.injEq] at h
      subst h
      exact ⟨none, rfl, rfl⟩
    · rename_i a b d'
      have : Sc.list [] = Sc.list (.list [.str a, .bool b] :: (d'.den ρ).asList) := hd.symm
      simp at this
    · cases h
  | (a, b) :: l, i, j, r, d, hd, h => by
    unfold lookF at h
    split at h
    · have : Sc.list [] = Sc.list (.list [.str a, .bool b] :: l.map fun p => .list [.str p.1, .bool p.2]) := hd
      simp at this
    · rename_i a' b' d'
      have e : Sc.list (.list [.str a', .bool b'] :: (d'.den ρ).asList) = Sc.list (.list [.str a, .bool b] :: l.map fun p => .list [.str p.1, .bool p.2]) := hd
      simp only [Sc.list.injEq, List.cons.injEq, Sc.str.injEq, Sc.bool.injEq, and_true] at e
      obtain ⟨⟨rfl, rfl⟩, e3⟩ := e
      have hbe : ((⟨s.toArray⟩ : ByteArray) == ⟨a'.toArray⟩) = decide (s = a') := by
        cases hd : decide (s = a')
        · have hd := of_decide_eq_false hd
          cases hb : ((⟨s.toArray⟩ : ByteArray) == ⟨a'.toArray⟩)
          · rfl
          · have := (MapKept.bytes_beq _ _).1 hb
            simp only [ByteArray.mk.injEq] at this
            exact (hd (by simpa using congrArg Array.toList this)).elim
        · have hd := of_decide_eq_true hd
          subst hd
          exact (MapKept.bytes_beq _ _).2 rfl
      split at h
      · rename_i hs
        simp only [Option.some.injEq] at h
        subst h
        refine ⟨some (i, .bool b'), ?_, rfl⟩
        simp only [ents, List.zipIdx_cons, List.map_cons, Instr.findNow, Instr.sameNow, hbe, hs]
      · rename_i hs
        obtain ⟨o, h1, h2⟩ := findNow_ents s l (i + 1) (j + 1) r d' (by
          have hdd : d'.den ρ = .list (d'.den ρ).asList := lookF_list h
          rw [hdd, e3]) h
        refine ⟨o, ?_, h2⟩
        simp only [ents, List.zipIdx_cons, List.map_cons, Instr.findNow, Instr.sameNow, hbe, hs]
        exact h1
    · cases h

def gotV : Option (Nat × Value) → Value → Value × Bool
  | some (_, u), _ => (u, true)
  | none, z => (z, false)

theorem run_heapOp2 {cx : Cx} {slots : Slots} {a : Act} {o : Oper} {v : SVal} {h' : Heap} (hp : heapOp2 cx slots h o = some (v, h')) (hs : SlotsOk ρ ι h.length slots a) (H : HR ρ cx.globs K w0 ι h w) :
    HeapStep ρ cx.globs K w0 cx.P ι h w (execOp a.eval o) v h' := by
  unfold heapOp2 at hp
  unfold HeapStep execOp
  split at hp
  · rename_i t l c ho
    split at hp
    · rename_i e kn n km m hu hn hm
      split at hp
      · rename_i i zv hi hv
        split at hp
        · rename_i hcond
          simp only [Bool.and_eq_true] at hcond
          obtain ⟨⟨⟨⟨⟨⟨h1, h2⟩, h3⟩, h4⟩, h5⟩, h6⟩, h7⟩ := hcond
          simp only [Option.some.injEq, Prod.mk.injEq] at hp
          obtain ⟨rfl, rfl⟩ := hp
          obtain ⟨ι', w', r1, r2, r3⟩ := run_makeSliceT (P := cx.P) H kn km hu hi hv (Nat.le_of_ble_eq_true h1) (Nat.le_of_ble_eq_true h2) (Nat.le_of_ble_eq_true h3) (Nat.le_of_ble_eq_true h4) (Nat.eq_of_beq_eq_true h5) (Nat.le_of_ble_eq_true h6) h7
          have e1 : a.eval l = .int kn (n : Int) := (evO_conc hs hn).1
          have e2 : a.eval c = .int km (m : Int) := (evO_conc hs hm).1
          refine ⟨ι', w', _, ?_, .inl rfl, r2, by simp, r3, by simp [SVal.sc]⟩
          simp only [ho, e1, e2, Sem.run_bind, r1, Result.andThen_ok, Sem.run_pure]
        · cases hp
      · cases hp
    · cases hp
  · rename_i c ho
    split at hp
    · rename_i hcal
      split at hp
      · rename_i x t hx ht
        have e1 : c.args = #[x] := by apply Array.ext'; simpa using hx
        have e2 : c.argTypes = #[t] := by apply Array.ext'; simpa using ht
        split at hp
        · rename_i e b off n cc hu hxv
          split at hp
          · rename_i blk zv z hb hv hz
            split at hp
            · rename_i hcond
              simp only [Bool.and_eq_true] at hcond
              obtain ⟨⟨⟨⟨⟨h1, h2⟩, h3⟩, h4⟩, h5⟩, h6⟩ := hcond
              split at hp
              · rename_i cells hset
                simp only [Option.some.injEq, Prod.mk.injEq] at hp
                obtain ⟨rfl, rfl⟩ := hp
                have hxe := (evO_conc hs hxv).1
                obtain ⟨w', r1, r2⟩ := run_clearT (P := cx.P) (ty := o.type) (c := cc) H hu hb hv (Nat.eq_of_beq_eq_true h1) (Nat.le_of_ble_eq_true h2) (Nat.le_of_ble_eq_true h3) h4 h5 h6 hset
                refine ⟨ι, w', _, ?_, .inl rfl, Nm.Ext.refl _ _, by simp, r2, rfl⟩
                simp only [ho, resolve, hcal, e1, e2]
                simp only [invoke, builtin, List.map_toArray, List.map_cons, List.map_nil, hxe, Sem.run_bind, Sem.run_pure, Result.andThen_ok, r1]
                rfl
              · cases hp
            · cases hp
          · cases hp
        · rename_i e hu hxv
          simp only [Option.some.injEq, Prod.mk.injEq] at hp
          obtain ⟨rfl, rfl⟩ := hp
          have hxe := (evO_conc hs hxv).1
          refine ⟨ι, w, _, ?_, .inl rfl, Nm.Ext.refl _ _, Nat.le_refl _, H, rfl⟩
          simp only [SVal.conc] at hxe
          simp only [ho, resolve, hcal, e1, e2]
          simp [invoke, builtin, hxe, Builtin.clear_, run_underlying hu, undefS, SVal.conc, SVal.concL]
        · cases hp
      · cases hp
    · rename_i hcal
      split at hp
      · rename_i x y t u hxy htu
        have e1 : c.args = #[x, y] := by apply Array.ext'; simpa using hxy
        have e2 : c.argTypes = #[t, u] := by apply Array.ext'; simpa using htu
        split at hp
        · rename_i e b off n cc b2 off2 n2 cc2 hu hxv hyv
          split at hp
          · rename_i blk blk2 z hb hb2 hz
            split at hp
            · rename_i hcond
              simp only [Bool.and_eq_true] at hcond
              obtain ⟨⟨⟨h1, h2⟩, h3⟩, h4⟩ := hcond
              split at hp
              · rename_i cells hset
                simp only [Option.some.injEq, Prod.mk.injEq] at hp
                obtain ⟨rfl, rfl⟩ := hp
                have hxe := (evO_conc hs hxv).1
                have hye := (evO_conc hs hyv).1
                obtain ⟨w', r1, r2⟩ := run_copyT (P := cx.P) (u := u) (ty := o.type) (c := cc) (c2 := cc2) (n := n) (n2 := n2) H hu hb hb2 hz (Nat.le_of_ble_eq_true h1) h2 h3 h4 hset
                refine ⟨ι, w', _, ?_, .inl rfl, Nm.Ext.refl _ _, by simp, r2, rfl⟩
                simp only [ho, resolve, hcal, e1, e2]
                simp only [invoke, builtin, List.map_toArray, List.map_cons, List.map_nil, hxe, hye, Sem.run_bind, Sem.run_pure, Result.andThen_ok, r1]
                rfl
              · cases hp
            · cases hp
          · cases hp
        all_goals
          try (cases hp; done)
        all_goals
          rename_i e hu hxv hyv
          split at hp
          · rename_i z hz
            simp only [Option.some.injEq, Prod.mk.injEq] at hp
            obtain ⟨rfl, rfl⟩ := hp
            have hxe := (evO_conc hs hxv).1
            have hye := (evO_conc hs hyv).1
            refine ⟨ι, w, _, ?_, .inl rfl, Nm.Ext.refl _ _, Nat.le_refl _, H, rfl⟩
            simp only [SVal.conc] at hxe hye
            simp only [ho, resolve, hcal, e1, e2]
            simp only [invoke, builtin, List.map_toArray, List.map_cons, List.map_nil, hxe, hye, Sem.run_bind, Sem.run_pure, Result.andThen_ok]
            rw [run_copyNil w hu hz (by simp) (by first | exact .inl rfl | exact .inr ⟨_, rfl⟩)]
            rfl
          · cases hp
      · cases hp
    · rename_i hcal
      split at hp
      · rename_i p n pt it hpn hpt
        have e1 : c.args = #[p, n] := by apply Array.ext'; simpa using hpn
        have e2 : c.argTypes = #[pt, it] := by apply Array.ext'; simpa using hpt
        split at hp
        · rename_i b m e hpv hnv hue
          split at hp
          · rename_i blk hb
            split at hp
            · rename_i l hl
              split at hp
              · rename_i hcond
                simp only [Bool.and_eq_true] at hcond
                obtain ⟨⟨⟨⟨⟨h1, h2⟩, h3⟩, h4⟩, h5⟩, h6⟩ := hcond
                have h1 := Nat.eq_of_beq_eq_true h1
                have h2 : 0 < m := Nat.le_of_ble_eq_true h2
                have h3 := Nat.eq_of_beq_eq_true h3
                have h4 := Nat.eq_of_beq_eq_true h4
                have h6 := Nat.le_of_ble_eq_true h6
                have hreal := isReal_none h5
                subst h3
                simp only [Option.some.injEq, Prod.mk.injEq] at hp
                obtain ⟨rfl, rfl⟩ := hp
                have q1 : a.eval p = .pointer (some ⟨ι.blk b, 0, none⟩) := (evO_conc hs hpv).1
                have q2 : a.eval n = .int .i64 (m : Int) := (evO_conc hs hnv).1
                obtain ⟨_, hft, ⟨cs, k2, k3⟩, _⟩ := H.real hb hreal
                obtain ⟨rest, hrest⟩ := k3.starts
                have hcs : (blk.cells.takeN m).concL ρ ι = l.map (fun b => Value.int .u8 b.toNat) := litBytes_spec hl
                rw [SVal.concL_takeN] at hcs
                have hle : l.length ≤ cs.size := by
                  have e1 := congrArg List.length hcs
                  have e2 := congrArg List.length hrest
                  simp only [List.length_take, List.length_map, Array.length_toList, List.length_append] at e1 e2
                  omega
                have hcell : ∀ j x, l[j]? = some x → w.cell? ((⟨ι.blk b, 0, none⟩ : Addr).add j) = some (.int .u8 x.toNat) := by
                  intro j x hj
                  rw [addr_add, Nat.zero_add]
                  refine H.cellsAt hb j _ ?_
                  have e1 : (l.map (fun b => Value.int .u8 b.toNat))[j]? = some (.int .u8 x.toNat) := by rw [List.getElem?_map, hj]; rfl
                  rw [← hcs, List.getElem?_take] at e1
                  split at e1
                  · exact e1
                  · cases e1
                have hr := Lib.run_unsafeString_row (P := cx.P) w pt it o.type blk.elem hue h4 (ι.blk b) cs.size (by simp [World.shape?, k2]) l (by rintro rfl; simp at h1; omega) hle (by omega) hcell
                rw [h1] at hr
                have hbl : b < h.length := (List.getElem?_eq_some_iff.1 hb).1
                have hother : ∀ q, q ≠ ι.blk b → (w.freeze ⟨ι.blk b, 0, none⟩ m).heap[q]? = w.heap[q]? := by
                  intro q hq
                  unfold World.freeze
                  split
                  · rfl
                  · simp [Array.getElem?_modify, Ne.symm hq]
                have hH : HR ρ cx.globs K w0 ι (h.set b none) (w.freeze ⟨ι.blk b, 0, none⟩ m) := by
                  refine H.upd (fun n => n = b) (by simp) ?_ ?_ ?_ ?_ ?_ ?_
                  · unfold World.freeze; split <;> rfl
                  · unfold World.freeze; split <;> rfl
                  · unfold World.freeze; split <;> rfl
                  · unfold World.freeze; split <;> simp
                  · intro q hq hno
                    exact hother q (fun e => hno b blk rfl hb (by rw [hft]; exact e))
                  · intro n b' hn
                    left
                    by_cases hnb : n = b
                    · subst hnb
                      rw [List.getElem?_set_self hbl] at hn
                      simp at hn
                    · rw [List.getElem?_set_ne (Ne.symm hnb)] at hn
                      exact ⟨hnb, hn⟩
                refine ⟨ι, _, _, ?_, .inl rfl, Nm.Ext.refl _ _, by simp, hH, rfl⟩
                simp only [ho, resolve, hcal, e1, e2]
                simp only [invoke, builtin, List.map_toArray, List.map_cons, List.map_nil, q1, q2, Sem.run_bind, Sem.run_pure, Result.andThen_ok, hr]
                rfl
              · cases hp
            · cases hp
          · cases hp
        · cases hp
      · cases hp
    · rename_i hcal
      split at hp
      · rename_i s x t u hsx htu
        have e1 : c.args = #[s, x] := by apply Array.ext'; simpa using hsx
        have e2 : c.argTypes = #[t, u] := by apply Array.ext'; simpa using htu
        split at hp
        · rename_i e sv xv hu hsv hxv
          split at hp
          · rename_i i hi
            split at hp
            · rename_i m new hn
              split at hp
              · rename_i zv hz
                obtain ⟨q1, q2⟩ := evO_conc hs hsv
                obtain ⟨q3, _⟩ := evO_conc hs hxv
                obtain ⟨ι', w', r1, r2, r3, r4, r5⟩ := run_appendX (P := cx.P) (ty := o.type) H hu hi hz hn hp q2
                refine ⟨ι', w', _, ?_, .inl rfl, r2, r3, r4, r5⟩
                simp only [ho, resolve, hcal, e1, e2]
                simp [invoke, builtin, q1, q3, r1]
              · cases hp
            · cases hp
          · cases hp
        · cases hp
      · cases hp
    · cases hp
  · rename_i t x ho
    split at hp
    · rename_i s hu hxv
      simp only [Option.some.injEq, Prod.mk.injEq] at hp
      obtain ⟨rfl, rfl⟩ := hp
      have hxe := (evO_conc hs hxv).1
      have hP : ρ.ab.P 2000 ((Tm.cons (.text s) (.cons (.num 0) .nil)).den ρ) (.pointer (some ⟨w.heap.size, 0, none⟩)) (· = w.heap.size) (w.alloc (.stringIter ⟨s.toArray⟩ 0)) :=
        (ρ.ab.objs 2000 _ _ _ _ (Nat.le_refl _)).2 (.inl ⟨rfl, _, s, 0, rfl, rfl, rfl, heap_alloc_new w _⟩)
      have hg := HR.newV H ((Below.refl w.heap.size w).alloc (Nat.le_refl _) (.stringIter ⟨s.toArray⟩ 0)) ⟨.pointer (some ⟨w.heap.size, 0, none⟩), rfl⟩ (· = w.heap.size) hP (fun q hq => Nat.le_of_eq (Eq.symm hq))
      refine ⟨_, _, _, ?_, .inl rfl, Nm.ext_putV ι _ _ _, by simp, hg, by simp [SVal.sc]⟩
      have hxe : a.eval x = .string ⟨s.toArray⟩ := hxe
      simp only [ho, hxe, SVal.conc, Instr.range, Sem.run_bind, run_underlying hu, Result.andThen_ok, Sem.run_pure, run_newObj_alloc]
      simp [Nm.putV]
    · rename_i kt et n hu hxv
      split at hp
      · rename_i blk hb
        split at hp
        · rename_i k ha
          split at hp
          · rename_i hk
            obtain rfl := Nat.eq_of_beq_eq_true hk
            simp only [Option.some.injEq, Prod.mk.injEq] at hp
            obtain ⟨rfl, rfl⟩ := hp
            obtain ⟨F, hP, hF⟩ := H.absAt hb ha
            obtain rfl := hF rfl
            rcases (ρ.ab.objs 2001 _ _ _ _ (by omega)).1 hP with ⟨h0, _⟩ | ⟨_, m, l, hfoot, hv, hd, hw⟩ | ⟨h0, _⟩ | ⟨h0, _⟩ | ⟨h0, _⟩
            · omega
            · have hl : l = [] := by
                have hd : Sc.list [] = Sc.list (l.map fun p => .list [.str p.1, .bool p.2]) := hd
                simp only [Sc.list.injEq] at hd
                exact List.map_eq_nil_iff.1 hd.symm
              subst hl
              have hw : w.heap[m]? = some (.map #[] 0) := hw
              have hm : m < w.heap.size := (Array.getElem?_eq_some_iff.1 hw).1
              have hie : a.eval x = .map (some m) := by rw [(evO_conc hs hxv).1]; exact hv
              have hnl : n < h.length := (List.getElem?_eq_some_iff.1 hb).1
              have hP2 : ρ.ab.P 2004 (Tm.nil.den ρ) (.pointer (some ⟨w.heap.size, 0, none⟩)) (fun q => q = w.heap.size ∨ q = m) (w.alloc (.mapIter (some m) 0 #[] 0)) :=
                (ρ.ab.objs 2004 _ _ _ _ (by omega)).2 (.inr (.inr (.inl ⟨rfl, _, m, rfl, rfl, heap_alloc_new w _, (heap_alloc_old w _ hm).trans hw⟩)))
              have hg := HR.newC H hb ((Below.refl w.heap.size w).alloc (Nat.le_refl _) (.mapIter (some m) 0 #[] 0)) ⟨.pointer (some ⟨w.heap.size, 0, none⟩), rfl⟩ (fun q => q = w.heap.size ∨ q = m) hP2 (fun q hq => by
                rcases hq with rfl | rfl
                · exact .inl (Nat.le_refl _)
                · exact .inr (by rw [hfoot]))
              refine ⟨_, _, _, ?_, .inl rfl, Nm.ext_putV ι _ _ _, by simp, hg, by simp [SVal.sc]⟩
              have hget : (getObj m).run cx.P w = .ok (.map #[] 0) w := by simp [getObj, Sem.run, hw]
              simp only [ho, hie, SVal.conc, Instr.range, Sem.run_bind, run_underlying hu, Result.andThen_ok, hget, Sem.run_pure, run_newObj_alloc]
              simp [Nm.putV]
            · omega
            · omega
            · omega
          · cases hp
        · cases hp
      · cases hp
    · cases hp
  · rename_i it ho
    split at hp
    · rename_i n hit
      split at hp
      · rename_i blk hb
        split at hp
        · rename_i k d ha
          split at hp
          · rename_i hk
            obtain rfl := Nat.eq_of_beq_eq_true hk
            simp only [Option.some.injEq, Prod.mk.injEq] at hp
            obtain ⟨rfl, rfl⟩ := hp
            obtain ⟨F, hP, hF⟩ := H.absAt hb ha
            rcases (ρ.ab.objs 2004 _ _ _ _ (by omega)).1 hP with ⟨h0, _⟩ | ⟨h0, _⟩ | ⟨_, r, m, _, hv, hr, hm⟩ | ⟨h0, _⟩ | ⟨h0, _⟩
            · omega
            · omega
            · have hie : a.eval it = .pointer (some ⟨r, 0, none⟩) := by rw [(evO_conc hs hit).1]; exact hv
              have hg1 : (getObj r).run cx.P w = .ok (.mapIter (some m) 0 #[] 0) w := by simp [getObj, Sem.run, hr]
              have hg2 : (getObj m).run cx.P w = .ok (.map #[] 0) w := by simp [getObj, Sem.run, hm]
              refine ⟨ι, w, _, ?_, .inl rfl, Nm.Ext.refl _ _, Nat.le_refl _, H, rfl⟩
              have hf0 : ∀ p : MapEntry → Bool, Array.filter p (#[] : Array MapEntry) 0 0 = #[] := fun p => by simp [Array.filter]
              simp only [ho, hie, Instr.next, Sem.run_bind, hg1, hg2, Result.andThen_ok]
              simp [hf0, Question.forced, SVal.conc, SVal.concL, Tm.den]
            · omega
            · omega
          · cases hp
        · cases hp
      · cases hp
    · cases hp
  · rename_i it ho
    split at hp
    · rename_i n hit
      split at hp
      · rename_i blk hb
        split at hp
        · rename_i k s pos ha
          split at hp
          · rename_i hk
            obtain rfl := Nat.eq_of_beq_eq_true hk
            obtain ⟨F, hP, hF⟩ := H.absAt hb ha
            obtain rfl := hF rfl
            rcases (ρ.ab.objs 2000 _ _ _ _ (Nat.le_refl _)).1 hP with ⟨_, r, s', pos', hfoot, hv, hd, hw⟩ | ⟨h0, _⟩ | ⟨h0, _⟩ | ⟨h0, _⟩ | ⟨h0, _⟩
            · have hd' : Sc.list [.str s, .int (pos : Int)] = .list [.str s', .int (pos' : Int)] := hd
              simp only [Sc.list.injEq, List.cons.injEq, Sc.str.injEq, Sc.int.injEq, and_true] at hd'
              obtain ⟨rfl, hpos⟩ := hd'
              obtain rfl : pos = pos' := by omega
              have hie := (evO_conc hs hit).1
              have hie : a.eval it = .pointer (some ⟨r, 0, none⟩) := by rw [hie]; exact hv
              have hsz : (⟨s.toArray⟩ : ByteArray).size = s.length := by simp [ByteArray.size]
              have hget : (getObj r).run cx.P w = .ok (.stringIter ⟨s.toArray⟩ pos) w := by simp [getObj, Sem.run, hw]
              split at hp
              · rename_i c hc
                split at hp
                · rename_i hlt
                  have hlt : c.toNat < 128 := Nat.le_of_ble_eq_true hlt
                  simp only [Option.some.injEq, Prod.mk.injEq] at hp
                  obtain ⟨rfl, rfl⟩ := hp
                  have hpl : pos < s.length := (List.getElem?_eq_some_iff.1 hc).1
                  have hr : r < w.heap.size := (Array.getElem?_eq_some_iff.1 hw).1
                  have hset : (setObj r (.stringIter ⟨s.toArray⟩ (pos + 1))).run cx.P w = .ok () { w with heap := w.heap.setIfInBounds r (.stringIter ⟨s.toArray⟩ (pos + 1)) } := by simp [setObj, Sem.run, hw]
                  have hH := HR.updV (t' := .cons (.text s) (.cons (.num (.ofNat (pos + 1))) .nil)) (w' := { w with heap := w.heap.setIfInBounds r (.stringIter ⟨s.toArray⟩ (pos + 1)) }) H hb ha rfl rfl rfl (by simp) (fun q hq hf => by
                    have hne : r ≠ q := fun e => hf (by rw [hfoot]; exact e.symm)
                    simp [hne]) ((ρ.ab.objs 2000 _ _ _ _ (Nat.le_refl _)).2 (.inl ⟨rfl, r, s, pos + 1, hfoot, hv, by rfl, by simp [hr]⟩))
                  refine ⟨ι, _, _, ?_, .inl rfl, Nm.Ext.refl _ _, by simp, hH, rfl⟩
                  simp only [ho, hie, Instr.next, Sem.run_bind, hget, Result.andThen_ok]
                  rw [if_pos (by rw [hsz]; exact hpl)]
                  simp only [decode_low hc hlt, Sem.run_bind, hset, Result.andThen_ok, Sem.run_pure]
                  rfl
                · cases hp
              · rename_i hc
                simp only [Option.some.injEq, Prod.mk.injEq] at hp
                obtain ⟨rfl, rfl⟩ := hp
                refine ⟨ι, w, _, ?_, .inl rfl, Nm.Ext.refl _ _, Nat.le_refl _, H, rfl⟩
                simp only [ho, hie, Instr.next, Sem.run_bind, hget, Result.andThen_ok]
                rw [if_neg (by rw [hsz]; simpa using hc)]
                rfl
            · omega
            · omega
            · omega
            · omega
          · cases hp
        · cases hp
      · cases hp
    · cases hp
  · rename_i s d x ho
    split at hp
    · rename_i us e l hus hud hx
      split at hp
      · rename_i hue
        simp only [Option.some.injEq, Prod.mk.injEq] at hp
        obtain ⟨rfl, rfl⟩ := hp
        have hxe : a.eval x = .string ⟨l.toArray⟩ := (evO_conc hs hx).1
        have hr := Lib.run_convert_string_bytes (P := cx.P) w s d e ⟨l.toArray⟩ hus hud hue
        have hsz : (⟨l.toArray⟩ : ByteArray).size = l.length := by simp [ByteArray.size]
        rw [hsz] at hr
        have hP : ρ.ab.P 2005 ((Tm.cons (.text l) .nil).den ρ) (.slice (some ⟨w.heap.size, 0, none⟩) l.length (grownCap w l.length 0 e)) (· = w.heap.size) (Lib.bytesWorld w e ⟨l.toArray⟩) := by
          refine (ρ.ab.objs 2005 _ _ _ _ (by omega)).2 (.inr (.inr (.inr (.inl ⟨rfl, _, l, _, rfl, rfl, rfl, by rw [Lib.bytesWorld_size]; omega, fun j b hj => ?_⟩))))
          have hjl := (List.getElem?_eq_some_iff.1 hj).1
          rw [Lib.bytesWorld_cell w e ⟨l.toArray⟩ j (by rw [hsz]; exact hjl)]
          have : l.getD j 0 = b := by rw [List.getD_eq_getElem?_getD, hj]; rfl
          simp only [this]
        have hbel : Below w.heap.size w (Lib.bytesWorld w e ⟨l.toArray⟩) := by
          refine ⟨?_, ?_, ?_, by rw [Lib.bytesWorld_size]; omega, fun q hq => Lib.bytesWorld_at_old w e _ q hq⟩
          all_goals (unfold Lib.bytesWorld World.freeze; split <;> rfl)
        have hg := HR.newV H hbel ⟨.slice (some ⟨w.heap.size, 0, none⟩) l.length (grownCap w l.length 0 e), rfl⟩ (· = w.heap.size) hP (fun q hq => Nat.le_of_eq (Eq.symm hq))
        refine ⟨_, _, _, ?_, .inl rfl, Nm.ext_putV ι _ _ _, by simp, hg, by simp [SVal.sc]⟩
        simp only [ho, hxe, Sem.run_bind, hr, Result.andThen_ok, Sem.run_pure]
        simp [Nm.putV, SVal.conc]
      · cases hp
    · cases hp
  · rename_i t x i ok ho
    split at hp
    · rename_i kt et n s hu hx hi
      split at hp
      · rename_i z blk hkt hz hb
        split at hp
        · rename_i k d ha
          split at hp
          · rename_i r hk hlk
            obtain rfl := Nat.eq_of_beq_eq_true hk
            obtain ⟨F, hP, hF⟩ := H.absAt hb ha
            rcases (ρ.ab.objs 2001 _ _ _ _ (by omega)).1 hP with ⟨h0, _⟩ | ⟨_, m, l, hfoot, hv, hd, hw⟩ | ⟨h0, _⟩ | ⟨h0, _⟩ | ⟨h0, _⟩
            · omega
            · have hxe : a.eval x = .map (some m) := by rw [(evO_conc hs hx).1]; exact hv
              have hie : a.eval i = .string ⟨s.toArray⟩ := (evO_conc hs hi).1
              obtain ⟨o', f1, f2⟩ := findNow_ents (ρ := ρ) s l 0 0 r d hd hlk
              have hget := MapKept.run_getObj_map (P := cx.P) hw
              have hck : ∀ e, (Instr.checkKey e 10000 kt (.string ⟨s.toArray⟩)).run cx.P w = .ok () w := fun e => MapKept.run_checkKey (w := w) hkt (by exact trivial) e 9999
              have hfk : (Instr.findKey kt (.string ⟨s.toArray⟩) (l.zipIdx.map fun p => ({ key := .string ⟨p.1.1.toArray⟩, val := .bool p.1.2, born := p.2 } : MapEntry))).run cx.P w = .ok o' w := MapKept.run_findKey hkt f1
              obtain ⟨z1, z2, z3⟩ := zeroT_conc (ρ := ρ) (ι := ι) w hz
              have hrun : ∀ (v : Value) (okv : Bool), gotV o' (z.conc ρ ι) = (v, okv) → (Instr.lookup t (.map (some m)) (.string ⟨s.toArray⟩) ok).run cx.P w = .ok (if ok then .tuple #[v, .bool okv] else v) w := by
                intro v okv hvo
                unfold Instr.lookup
                simp only [Sem.run_bind, run_underlying hu, Result.andThen_ok, hget, Sem.run_pure, hck, hfk]
                cases o' with
                | none =>
                  simp only [gotV, Prod.mk.injEq] at hvo
                  obtain ⟨rfl, rfl⟩ := hvo
                  simp only [Sem.run_bind, z1, Result.andThen_ok, Sem.run_pure]
                | some q =>
                  obtain ⟨j, u⟩ := q
                  simp only [gotV, Prod.mk.injEq] at hvo
                  obtain ⟨rfl, rfl⟩ := hvo
                  rfl
              have fin : ∀ (v : Value) (okv : Bool) (u : SVal) , gotV o' (z.conc ρ ι) = (v, okv) → (if ok then .tuple #[v, .bool okv] else v) = u.conc ρ ι → u.sc h.length = true →
                  ∃ ι' w' x', (do let v ← Instr.lookup t (a.eval x) (a.eval i) ok; pure (Next.value v) : Sem Next).run cx.P w = .ok x' w' ∧ (x' = .value (u.conc ρ ι') ∨ (x' = .skip ∧ u = undefS)) ∧ Nm.Ext h.length ι ι' ∧ h.length ≤ h.length ∧ HR ρ cx.globs K w0 ι' h w' ∧ u.sc h.length = true := by
                intro v okv u hvo hu' hsc
                refine ⟨ι, w, _, ?_, .inl rfl, Nm.Ext.refl _ _, Nat.le_refl _, H, hsc⟩
                simp only [hxe, hie, Sem.run_bind, hrun v okv hvo, Result.andThen_ok, Sem.run_pure, hu']
              simp only [ho]
              have z2' := SVal.sc_mono (Nat.zero_le h.length) _ z2
              split at hp
              · rename_i b
                simp only [Option.some.injEq, Prod.mk.injEq] at hp
                obtain ⟨rfl, rfl⟩ := hp
                cases o' with
                | none => simp at f2
                | some q =>
                  obtain ⟨j, u⟩ := q
                  simp only [Option.map_some, Option.some.injEq] at f2
                  subst f2
                  exact fin _ _ _ rfl rfl rfl
              · rename_i b
                simp only [Option.some.injEq, Prod.mk.injEq] at hp
                obtain ⟨rfl, rfl⟩ := hp
                cases o' with
                | none => simp at f2
                | some q =>
                  obtain ⟨j, u⟩ := q
                  simp only [Option.map_some, Option.some.injEq] at f2
                  subst f2
                  exact fin _ _ _ rfl rfl rfl
              · simp only [Option.some.injEq, Prod.mk.injEq] at hp
                obtain ⟨rfl, rfl⟩ := hp
                cases o' with
                | none => exact fin _ _ _ rfl rfl (by simp [SVal.sc, z2'])
                | some q => simp at f2
              · simp only [Option.some.injEq, Prod.mk.injEq] at hp
                obtain ⟨rfl, rfl⟩ := hp
                cases o' with
                | none => exact fin _ _ _ rfl rfl z2'
                | some q => simp at f2
            · omega
            · omega
            · omega
          · cases hp
        · cases hp
      · cases hp
    · rename_i kt et n l hu hx hi
      split at hp
      · rename_i fs z blk hkt hz hb
        split at hp
        · rename_i k ha
          have fin : (Nat.beq k 2001 && fs.toList.all (intPart cx.P l)) = true → ∃ m, a.eval x = .map (some m) ∧ (Instr.lookup t (.map (some m)) (a.eval i) ok).run cx.P w = .ok (if ok then .tuple #[z.conc ρ ι, .bool false] else z.conc ρ ι) w := by
            intro hc
            rw [Bool.and_eq_true] at hc
            obtain rfl := Nat.eq_of_beq_eq_true hc.1
            obtain ⟨F, hP, hF⟩ := H.absAt hb ha
            rcases (ρ.ab.objs 2001 _ _ _ _ (by omega)).1 hP with ⟨h0, _⟩ | ⟨_, m, l', hfoot, hv, hd, hw⟩ | ⟨h0, _⟩ | ⟨h0, _⟩ | ⟨h0, _⟩
            · omega
            · have hl' : l' = [] := by
                have hd : Sc.list [] = Sc.list (l'.map fun p => .list [.str p.1, .bool p.2]) := hd
                simp only [Sc.list.injEq] at hd
                exact List.map_eq_nil_iff.1 hd.symm
              subst hl'
              have hw : w.heap[m]? = some (.map #[] 0) := hw
              refine ⟨m, by rw [(evO_conc hs hx).1]; exact hv, ?_⟩
              have hie : a.eval i = .agg (l.concL ρ ι).toArray := (evO_conc hs hi).1
              have hget := MapKept.run_getObj_map (P := cx.P) hw
              have hck : ∀ e, (Instr.checkKey e 10000 kt (.agg (l.concL ρ ι).toArray)).run cx.P w = .ok () w := fun e => run_checkKey_ints (n := 9998) hkt (fun f hf => by
                have := List.all_eq_true.1 hc.2 f (by simpa using hf)
                unfold intPart at this
                split at this
                · rename_i kk v1 h1 h2
                  exact ⟨kk, _, h1, run_partT w h2⟩
                · cases this)
              obtain ⟨z1, _, _⟩ := zeroT_conc (ρ := ρ) (ι := ι) w hz
              have hfk : (Instr.findKey kt (.agg (l.concL ρ ι).toArray) []).run cx.P w = .ok none w := by
                simp [Instr.findKey, run_underlying hkt, Instr.findNow]
              rw [hie]
              unfold Instr.lookup
              simp only [Sem.run_bind, run_underlying hu, Result.andThen_ok, hget, Sem.run_pure, hck, hfk, z1]
            · omega
            · omega
            · omega
          obtain ⟨z1, z2, z3⟩ := zeroT_conc (ρ := ρ) (ι := ι) w hz
          have z2' := SVal.sc_mono (Nat.zero_le h.length) _ z2
          split at hp
          · rename_i hc
            simp only [Option.some.injEq, Prod.mk.injEq] at hp
            obtain ⟨rfl, rfl⟩ := hp
            obtain ⟨m, h1, h2⟩ := fin hc
            refine ⟨ι, w, _, ?_, .inl rfl, Nm.Ext.refl _ _, Nat.le_refl _, H, by simp [SVal.sc, z2']⟩
            simp only [ho, h1, Sem.run_bind, h2, Result.andThen_ok, Sem.run_pure]
            rfl
          · rename_i hc
            simp only [Option.some.injEq, Prod.mk.injEq] at hp
            obtain ⟨rfl, rfl⟩ := hp
            obtain ⟨m, h1, h2⟩ := fin hc
            refine ⟨ι, w, _, ?_, .inl rfl, Nm.Ext.refl _ _, Nat.le_refl _, H, z2'⟩
            simp only [ho, h1, Sem.run_bind, h2, Result.andThen_ok, Sem.run_pure]
            rfl
          · cases hp
        · cases hp
      · cases hp
    · cases hp
  · rename_i t m k v' ho
    split at hp
    · rename_i kt et n s b hu hm hk hv
      split at hp
      · rename_i blk hkt hb
        split at hp
        · rename_i kk d ha
          split at hp
          · rename_i hkk hlk
            obtain rfl := Nat.eq_of_beq_eq_true hkk
            simp only [Option.some.injEq, Prod.mk.injEq] at hp
            obtain ⟨rfl, rfl⟩ := hp
            obtain ⟨F, hP, hF⟩ := H.absAt hb ha
            obtain rfl := hF rfl
            rcases (ρ.ab.objs 2001 _ _ _ _ (by omega)).1 hP with ⟨h0, _⟩ | ⟨_, r, l, hfoot, hval, hd, hw⟩ | ⟨h0, _⟩ | ⟨h0, _⟩ | ⟨h0, _⟩
            · omega
            · have hme : a.eval m = .map (some r) := by rw [(evO_conc hs hm).1]; exact hval
              have hke : a.eval k = .string ⟨s.toArray⟩ := (evO_conc hs hk).1
              have hve : a.eval v' = .bool b := (evO_conc hs hv).1
              obtain ⟨o', f1, f2⟩ := findNow_ents (ρ := ρ) s l 0 0 none d hd hlk
              have ho' : o' = none := by
                cases o' with
                | none => rfl
                | some q => simp at f2
              subst ho'
              have hget := MapKept.run_getObj_map (P := cx.P) hw
              have hck : ∀ e, (Instr.checkKey e 10000 kt (.string ⟨s.toArray⟩)).run cx.P w = .ok () w := fun e => MapKept.run_checkKey (w := w) hkt (by exact trivial) e 9999
              have hfk : (Instr.findKey kt (.string ⟨s.toArray⟩) (l.zipIdx.map fun p => ({ key := .string ⟨p.1.1.toArray⟩, val := .bool p.1.2, born := p.2 } : MapEntry))).run cx.P w = .ok none w := MapKept.run_findKey hkt f1
              have hset := fun o => MapKept.run_setObj_map (P := cx.P) o hw
              have hr : r < w.heap.size := (Array.getElem?_eq_some_iff.1 hw).1
              have hpush : (l.zipIdx.map fun p => ({ key := .string ⟨p.1.1.toArray⟩, val := .bool p.1.2, born := p.2 } : MapEntry)).toArray.push { key := .string ⟨s.toArray⟩, val := .bool b, born := l.length } = ((l ++ [(s, b)]).zipIdx.map fun p => ({ key := .string ⟨p.1.1.toArray⟩, val := .bool p.1.2, born := p.2 } : MapEntry)).toArray := by
                apply Array.ext'
                simp [List.zipIdx_append]
              have hlen : l.length + 1 = (l ++ [(s, b)]).length := by simp
              have hH := HR.updV (t' := snocT d (.cons (.text s) (.cons (.bit b) .nil))) (w' := { w with heap := w.heap.setIfInBounds r (.map ((l ++ [(s, b)]).zipIdx.map fun p => ({ key := .string ⟨p.1.1.toArray⟩, val := .bool p.1.2, born := p.2 } : MapEntry)).toArray (l ++ [(s, b)]).length) }) H hb ha rfl rfl rfl (by simp) (fun q hq hf => by
                have hne : r ≠ q := fun e => hf (by rw [hfoot]; exact e.symm)
                simp [hne]) ((ρ.ab.objs 2001 _ _ _ _ (by omega)).2 (.inr (.inl ⟨rfl, r, l ++ [(s, b)], hfoot, hval, by
                  rw [snocT_den hlk, hd]
                  simp [Tm.den, Sc.asList], by simp [hr]⟩)))
              refine ⟨ι, _, _, ?_, .inr ⟨rfl, rfl⟩, Nm.Ext.refl _ _, by simp, hH, rfl⟩
              simp only [ho, hme, hke, hve, Instr.mapUpdate, Sem.run_bind, run_underlying hu, Result.andThen_ok, hget, hck, hfk, hset, hpush, hlen, Sem.run_pure]
            · omega
            · omega
            · omega
          · cases hp
        · cases hp
      · cases hp
    · cases hp
  · rename_i t x lo hi ho
    split at hp
    · rename_i e b off n c hu hx
      split at hp
      · rename_i z l u hz hl hh
        split at hp
        · rename_i hcond
          rw [Bool.and_eq_true] at hcond
          have h1 := Nat.eq_of_beq_eq_true hcond.1
          have h2 := roomT_ok H hcond.2
          subst h1
          simp only [Option.some.injEq, Prod.mk.injEq] at hp
          obtain ⟨rfl, rfl⟩ := hp
          have hxe : a.eval x = .slice (some ⟨ι.blk b, off, none⟩) n (c.ev ι) := (evO_conc hs hx).1
          have hb := run_sliceBounds (P := cx.P) w true (boundE_ok hs hl) (boundE_ok hs hh) (Nat.le_refl _) h2
          have hrun : (Instr.sliceAt t (a.eval x) (lo.map a.eval) (hi.map a.eval) none).run cx.P w = .ok (.slice (if c.ev ι = l then some ⟨ι.blk b, off, none⟩ else (some ((⟨ι.blk b, off, none⟩ : Addr).add (l * z)))) 0 (c.ev ι - l)) w := by
            simp only [Instr.sliceAt, Sem.run_bind, run_underlying hu, Result.andThen_ok, hxe, Instr.slice, hb, run_sizeT w hz, Sem.run_pure, Nat.sub_self]
            by_cases hml : c.ev ι = l <;> simp [hml]
          generalize (if c.ev ι = l then some ⟨ι.blk b, off, none⟩ else (some ((⟨ι.blk b, off, none⟩ : Addr).add (l * z)))) = p at hrun
          have hP : ρ.ab.P 2007 (Tm.nil.den ρ) (.slice p 0 (c.ev ι - l)) (fun _ => False) w :=
            (ρ.ab.objs 2007 _ _ _ _ (by omega)).2 (.inr (.inr (.inr (.inr ⟨rfl, rfl, _, _, rfl⟩))))
          have hg := HR.newV H (Below.refl w.heap.size w) ⟨.slice p 0 (c.ev ι - l), rfl⟩ (fun _ => False) hP (fun q hq => hq.elim)
          refine ⟨_, _, _, ?_, .inl rfl, Nm.ext_putV ι _ _ _, by simp, hg, by simp [SVal.sc]⟩
          simp only [ho, Option.map_none, Sem.run_bind, hrun, Result.andThen_ok, Sem.run_pure]
          simp [Nm.putV, SVal.conc]
        · cases hp
      · cases hp
    · cases hp
  · rename_i t ho
    simp only [Option.some.injEq, Prod.mk.injEq] at hp
    obtain ⟨rfl, rfl⟩ := hp
    have hP : ρ.ab.P 2001 (Tm.nil.den ρ) (.map (some w.heap.size)) (· = w.heap.size) (w.alloc (.map #[] 0)) :=
      (ρ.ab.objs 2001 _ _ _ _ (by omega)).2 (.inr (.inl ⟨rfl, _, [], rfl, rfl, rfl, heap_alloc_new w _⟩))
    have hg := HR.newV H ((Below.refl w.heap.size w).alloc (Nat.le_refl _) (.map #[] 0)) ⟨.map (some w.heap.size), rfl⟩ (· = w.heap.size) hP (fun q hq => Nat.le_of_eq (Eq.symm hq))
    refine ⟨_, _, _, ?_, .inl rfl, Nm.ext_putV ι _ _ _, by simp, hg, by simp [SVal.sc]⟩
    simp only [ho, Option.map_none, Instr.makeMap, Sem.run_bind, run_newObj_alloc, Result.andThen_ok, Sem.run_pure]
    simp [Nm.putV, SVal.conc]
  · cases hp

end
end
end Go.Sx

/- The executor is right: ways that become one; calls; regions in the order of the text; code. -/
namespace Go.Sx
noncomputable section

section
variable {ρ : Env} {G : Globs} {K : Nat → Prop} {w0 w : World} {ι : Nm} {h h' : Heap}

/-! ### Heaps of two ways -/

/-- A heap whose blocks read the same. -/
theorem mergeB_spec {c : Tm} {n : Nat} {a b : Option Blk} {x : Blk} {way : Bool} (hc : (c.den ρ).asBool = way) (hm : mergeB c n a b = some (some x)) :
    ∃ a' b', a = some a' ∧ b = some b' ∧ (∀ (K : Nat → Prop) (ι : Nm) (m : Nat) (w : World), (cond way a' b').Ok ρ K ι m w → x.Ok ρ K ι m w) ∧ x.cells.sc n = true := by
  unfold mergeB at hm
  split at hm
  · rename_i a' b'
    split at hm
    · rename_i e
      subst e
      split at hm
      · rename_i hsc
        simp at hm; subst hm
        exact ⟨a', a', rfl, rfl, fun K ι m w h => by cases way <;> exact h, hsc⟩
      · simp at hm
    · split at hm
      · rename_i ha hb
        split at hm
        · rename_i e
          split at hm
          · rename_i l hl
            split at hm
            · rename_i hsc
              simp at hm; subst hm
              refine ⟨a', b', rfl, rfl, fun K ι m w h => ?_, hsc⟩
              have hv := (mergeV_conc (ρ := ρ) (ι := ι) c n _ _ _ hl).2.1
              rw [hc] at hv
              cases way
              · have h : b'.Ok ρ K ι m w := h
                unfold Blk.Ok at h ⊢
                rw [hb] at h
                rw [show ({ a' with cells := l } : Blk).abs = none from ha]
                obtain ⟨h1, cs, h2, h3⟩ := h
                refine ⟨h1, cs, by rw [show ({ a' with cells := l } : Blk).elem = b'.elem from e.1]; exact h2, ?_⟩
                unfold Blk.Fits at *
                simp only
                rw [e.2, hv]
                exact h3
              · have h : a'.Ok ρ K ι m w := h
                unfold Blk.Ok at h ⊢
                rw [ha] at h
                rw [show ({ a' with cells := l } : Blk).abs = none from ha]
                obtain ⟨h1, cs, h2, h3⟩ := h
                refine ⟨h1, cs, h2, ?_⟩
                unfold Blk.Fits at *
                simp only
                rw [hv]
                exact h3
            · simp at hm
          · simp at hm
        · simp at hm
      · rename_i o k s o' k' u ha hb
        split at hm
        · rename_i e
          simp at hm; subst hm
          obtain ⟨rfl, rfl, e3, e4⟩ := e
          refine ⟨a', b', rfl, rfl, fun K ι m w h => ?_, by simp only; rw [e3]; rfl⟩
          have hd := mkIte_den ρ c s u
          rw [hc] at hd
          cases way
          · have h : b'.Ok ρ K ι m w := h
            have hd : (mkIte c s u).den ρ = u.den ρ := hd
            unfold Blk.Ok at h ⊢
            rw [hb] at h
            cases o
            · simp only at h ⊢; rw [hd]; exact ⟨e3, h.2⟩
            · simp only at h ⊢; rw [hd]; exact ⟨e3, h.2⟩
          · have h : a'.Ok ρ K ι m w := h
            have hd : (mkIte c s u).den ρ = s.den ρ := hd
            unfold Blk.Ok at h ⊢
            rw [ha] at h
            cases o
            · simp only at h ⊢; rw [hd]; exact ⟨e3, h.2⟩
            · simp only at h ⊢; rw [hd]; exact ⟨e3, h.2⟩
        · simp at hm
      · simp at hm
  · simp at hm

theorem mergeH_spec {c : Tm} {n : Nat} : ∀ {k : Nat} {h1 h2 hm : Heap}, mergeH c n k h1 h2 = some hm → hm.length = k ∧ ∀ (i : Nat) (x : Blk), hm[i]? = some (some x) → ∃ a b, h1[i]? = some a ∧ h2[i]? = some b ∧ mergeB c n a b = some (some x)
  | 0, h1, h2, hm, e => by simp [mergeH] at e; subst e; simp
  | k + 1, [], h2, hm, e => by simp [mergeH] at e
  | k + 1, a :: h1, [], hm, e => by simp [mergeH] at e
  | k + 1, a :: h1, b :: h2, hm, e => by
    simp only [mergeH] at e
    split at e
    · rename_i x r hx hr
      simp at e; subst e
      obtain ⟨k1, k2⟩ := mergeH_spec hr
      refine ⟨by simp [k1], ?_⟩
      intro i y hy
      cases i with
      | zero => simp at hy; subst hy; exact ⟨a, b, by simp, by simp, hx⟩
      | succ i => simpa using k2 i y (by simpa using hy)
    · cases e

/-- The heaps of two ways: on the way that was gone. -/
theorem HR.merged {c : Tm} {ha hb hm : Heap} {n : Nat} (hmm : mergeH c n n ha hb = some hm) (way : Bool) (hc : (c.den ρ).asBool = way)
    (H : HR ρ G K w0 ι (cond way ha hb) w) : HR ρ G K w0 ι hm w ∧ hm.length = n := by
  obtain ⟨hlen, hspec⟩ := mergeH_spec hmm
  refine ⟨H.sim fun i x hx => ?_, hlen⟩
  obtain ⟨a, b, h1, h2, h3⟩ := hspec i x hx
  obtain ⟨a', b', rfl, rfl, e5, e6⟩ := mergeB_spec (ρ := ρ) hc h3
  cases way
  · exact ⟨b', h2, e5 K ι i w, by rw [hlen]; exact e6⟩
  · exact ⟨a', h1, e5 K ι i w, by rw [hlen]; exact e6⟩

/-! ### Ways that become one -/

theorem Tree.single_get {α : Type} {t : Tree α} : ∀ {cs : List Tm} {a : α}, t.single = some (cs, a) → ((∀ c ∈ cs, (c.den ρ).asBool = true) → t.get ρ = some a) := by
  induction t with
  | leaf a => intro cs b h _; simp [Tree.single] at h; obtain ⟨_, rfl⟩ := h; rfl
  | assert c t ih =>
    intro cs b h hc
    simp only [Tree.single, Option.map_eq_some_iff] at h
    obtain ⟨⟨ds, a⟩, h1, h2⟩ := h
    simp only [Prod.mk.injEq] at h2
    obtain ⟨rfl, rfl⟩ := h2
    simp only [Tree.get, hc c (by simp)]
    exact ih h1 (fun d hd => hc d (by simp [hd]))
  | ite c t e _ _ => intro cs b h; simp [Tree.single] at h
  | fail w => intro cs b h; simp [Tree.single] at h

theorem impT_den (c t : Tm) : ((impT c t).den ρ).asBool = (!(c.den ρ).asBool || (t.den ρ).asBool) := by
  simp [impT, mkOr_den, mkNot_den]

/-- What covers: a relation that a join keeps. -/
theorem squash_get {α : Type} {join : Tm → α → α → Option α} (R : α → α → Prop) (hr : ∀ a, R a a) (ht : ∀ a b c, R a b → R b c → R a c)
    (hj : ∀ c a b x, join c a b = some x → ((c.den ρ).asBool = true → R a x) ∧ ((c.den ρ).asBool = false → R b x)) :
    ∀ (t : Tree α) (x : α), (squash join t).get ρ = some x → ∃ a, t.get ρ = some a ∧ R a x := by
  intro t
  induction t with
  | leaf a => intro x h; exact ⟨x, h, hr x⟩
  | fail w => intro x h; simp [squash, Tree.get] at h
  | assert c t ih =>
    intro x h
    simp only [squash, Tree.get] at h
    split at h
    · rename_i hc
      obtain ⟨a, h1, h2⟩ := ih x h
      exact ⟨a, by simp [Tree.get, hc, h1], h2⟩
    · cases h
  | ite c t e iht ihe =>
    intro x h
    simp only [squash] at h
    have plain : (Tree.ite c (squash join t) (squash join e)).get ρ = some x → ∃ a, (Tree.ite c t e).get ρ = some a ∧ R a x := by
      intro h
      simp only [Tree.get] at h ⊢
      cases hc : (c.den ρ).asBool
      · rw [hc] at h; exact ihe x h
      · rw [hc] at h; exact iht x h
    split at h
    · rename_i cs a ds b ha hb
      split at h
      · rename_i y hy
        obtain ⟨h1, h2⟩ := Tree.get_must ρ _ _ _ h
        simp only [Tree.get, Option.some.injEq] at h1
        subst h1
        obtain ⟨j1, j2⟩ := hj c a b y hy
        simp only [Tree.get]
        cases hc : (c.den ρ).asBool
        · have : (squash join e).get ρ = some b := Tree.single_get hb (fun d hd => by
            have := h2 (impT (mkNot c) d) (List.mem_append_right _ (List.mem_map_of_mem hd))
            rw [impT_den, mkNot_den, hc] at this
            simpa using this)
          obtain ⟨z, z1, z2⟩ := ihe b this
          exact ⟨z, z1, ht _ _ _ z2 (j2 hc)⟩
        · have : (squash join t).get ρ = some a := Tree.single_get ha (fun d hd => by
            have := h2 (impT c d) (List.mem_append_left _ (List.mem_map_of_mem hd))
            rw [impT_den, hc] at this
            simpa using this)
          obtain ⟨z, z1, z2⟩ := iht a this
          exact ⟨z, z1, ht _ _ _ z2 (j1 hc)⟩
      · exact plain h
    · exact plain h

/-! ### States -/

/-- Calls that are put off: of these functions. -/
def DfsOk : List FuncId → List Deferred → Prop
  | [], l => l = []
  | f :: r, l => ∃ d l', l = d :: l' ∧ (∃ cap, d.target = .fn (.func f) cap) ∧ DfsOk r l'

theorem sameDfs_eq : ∀ {a b : List Nat}, sameDfs a b = true → a = b
  | [], [], _ => rfl
  | x :: r, y :: s, h => by
    simp only [sameDfs, Bool.and_eq_true] at h
    rw [Nat.eq_of_beq_eq_true h.1, sameDfs_eq h.2]
  | [], _ :: _, h => by cases h
  | _ :: _, [], h => by cases h

structure Gam (ρ : Env) (G : Globs) (K : Nat → Prop) (w0 : World) (ι : Nm) (σ : St) (a : Act) (w : World) : Prop where
  size : a.tmps.size = σ.n
  defers : DfsOk σ.dfs a.defers
  slots : SlotsOk ρ ι σ.heap.length σ.slots a
  heap : HR ρ G K w0 ι σ.heap w
  pc : (σ.pc.den ρ).asBool = true

/-- A state that came of another one. -/
structure StepS (σ σ' : St) : Prop where
  len : σ.heap.length ≤ σ'.heap.length
  slots : ∃ new, σ'.slots = new ++ σ.slots
  n : σ'.n = σ.n

theorem StepS.refl (σ : St) : StepS σ σ := ⟨Nat.le_refl _, ⟨[], rfl⟩, rfl⟩
theorem StepS.trans {a b c : St} (h : StepS a b) (k : StepS b c) : StepS a c := by
  obtain ⟨x, hx⟩ := h.slots
  obtain ⟨y, hy⟩ := k.slots
  exact ⟨Nat.le_trans h.len k.len, ⟨y ++ x, by rw [hy, hx, List.append_assoc]⟩, k.n.trans h.n⟩

theorem beq_false {i j : Nat} (h : i ≠ j) : Nat.beq i j = false := by
  cases hb : Nat.beq i j
  · rfl
  · exact (h (Nat.eq_of_beq_eq_true hb)).elim

theorem Slots.get_cons_ne {s : Slots} {i j : Nat} {v : Option SVal} (h : i ≠ j) : Slots.get ((j, v) :: s) i = s.get i := by
  simp only [Slots.get_c, beq_false h]

theorem Slots.get_cons_self {s : Slots} {i : Nat} {v : Option SVal} : Slots.get ((i, v) :: s) i = v := by
  simp only [Slots.get_c, Nat.beq_refl]

theorem Slots.get_append_left {s new : Slots} {i : Nat} (h : ∀ p ∈ new, p.1 ≠ i) : Slots.get (new ++ s) i = s.get i := by
  induction new with
  | nil => rfl
  | cons p r ih =>
    obtain ⟨j, v⟩ := p
    have hne : i ≠ j := fun e => h (j, v) (by simp) e.symm
    rw [List.cons_append, Slots.get_cons_ne hne]
    exact ih (fun q hq => h q (by simp [hq]))

theorem mergeS_spec {c : Tm} {n : Nat} {s1 s2 : Slots} : ∀ {keys acc s : Slots}, mergeS c n s1 s2 keys acc = some s →
    (∃ new, s = new ++ acc) ∧ ∀ i v, s.get i = some v → (∃ a b, s1.get i = some a ∧ s2.get i = some b ∧ mergeV c a b = some v ∧ v.sc n = true) ∨ ((∀ p ∈ keys, p.1 ≠ i) ∧ acc.get i = some v)
  | [], acc, s, h => by
    simp [mergeS] at h; subst h
    exact ⟨⟨[], rfl⟩, fun i v hv => .inr ⟨by simp, hv⟩⟩
  | (k, u) :: r, acc, s, h => by
    have forget : mergeS c n s1 s2 r ((k, none) :: acc) = some s → (∃ new, s = new ++ acc) ∧ ∀ i v, s.get i = some v → (∃ a b, s1.get i = some a ∧ s2.get i = some b ∧ mergeV c a b = some v ∧ v.sc n = true) ∨ ((∀ p ∈ (k, u) :: r, p.1 ≠ i) ∧ acc.get i = some v) := by
      intro h
      obtain ⟨⟨new, hn⟩, hs⟩ := mergeS_spec h
      refine ⟨⟨new ++ [(k, none)], by simp [hn]⟩, fun i v hv => ?_⟩
      rcases hs i v hv with h1 | ⟨h1, h2⟩
      · exact .inl h1
      · by_cases hik : i = k
        · subst hik; rw [Slots.get_cons_self] at h2; cases h2
        · rw [Slots.get_cons_ne hik] at h2
          refine .inr ⟨fun p hp => ?_, h2⟩
          rcases List.mem_cons.1 hp with rfl | hp
          · exact fun e => hik e.symm
          · exact h1 p hp
    unfold mergeS at h
    split at h
    · rename_i a b ha hb
      split at h
      · rename_i v hv
        split at h
        · rename_i hsc
          obtain ⟨⟨new, hn⟩, hs⟩ := mergeS_spec h
          refine ⟨⟨new ++ [(k, some v)], by simp [hn]⟩, fun i v' hv' => ?_⟩
          rcases hs i v' hv' with h1 | ⟨h1, h2⟩
          · exact .inl h1
          · by_cases hik : i = k
            · subst hik; rw [Slots.get_cons_self] at h2; simp at h2; subst h2
              exact .inl ⟨a, b, ha, hb, hv, hsc⟩
            · rw [Slots.get_cons_ne hik] at h2
              refine .inr ⟨fun p hp => ?_, h2⟩
              rcases List.mem_cons.1 hp with rfl | hp
              · exact fun e => hik e.symm
              · exact h1 p hp
        · cases h
      · split at h
        · exact forget h
        · cases h
    · exact forget h

/-- A state that covers another one. -/
def CovS (ρ : Env) (σ a x : St) : Prop := StepS σ a → StepS σ x ∧ ∀ (G : Globs) (K : Nat → Prop) (w0 : World) (ι : Nm) (act : Act) (w : World), Gam ρ G K w0 ι a act w → Gam ρ G K w0 ι x act w

theorem CovS.refl (σ a : St) : CovS ρ σ a a := fun h => ⟨h, fun _ _ _ _ _ _ h => h⟩
theorem CovS.trans {σ a b c : St} (h : CovS ρ σ a b) (k : CovS ρ σ b c) : CovS ρ σ a c := fun s =>
  ⟨(k (h s).1).1, fun G K w0 ι act w g => (k (h s).1).2 G K w0 ι act w ((h s).2 G K w0 ι act w g)⟩

theorem joinS_spec {σ : St} {c : Tm} {a b x : St} (hj : joinS σ c a b = some x) (hsc : ∀ i v, σ.slots.get i = some v → v.sc σ.heap.length = true) (hpc : (σ.pc.den ρ).asBool = true) (way : Bool) (hc : (c.den ρ).asBool = way) :
    CovS ρ σ (cond way a b) x := by
  intro sy
  unfold joinS at hj
  simp only at hj
  split at hj
  · rename_i s hs hdd
    rw [Bool.and_eq_true] at hdd
    have hda := sameDfs_eq hdd.1
    have hdb := sameDfs_eq hdd.2
    split at hj
    · rename_i hm hmm
      simp only [Option.some.injEq] at hj
      subst hj
      obtain ⟨⟨new, hnew⟩, hspec⟩ := mergeS_spec hs
      obtain ⟨ny, hny⟩ := sy.slots
      have hlen := (mergeH_spec hmm).1
      refine ⟨⟨by simp [hlen], ⟨new, hnew⟩, rfl⟩, ?_⟩
      intro G K w0 ι act w hy'
      have hH : HR ρ G K w0 ι (cond way a.heap b.heap) w := by
        have := hy'.heap
        cases way <;> exact this
      obtain ⟨H', _⟩ := HR.merged (ρ := ρ) hmm way hc hH
      refine ⟨by rw [hy'.size, sy.n], ?_, ?_, H', hpc⟩
      · have hd := hy'.defers
        cases way
        · have hd : DfsOk b.dfs act.defers := hd
          rw [hdb] at hd; exact hd
        · have hd : DfsOk a.dfs act.defers := hd
          rw [hda] at hd; exact hd
      intro i v hv
      simp only at hv ⊢
      rw [hlen]
      rcases hspec i v hv with ⟨u, u', hu, hu', hm', hsc'⟩ | ⟨h1, h2⟩
      · refine ⟨?_, hsc'⟩
        have hmc := (mergeV_conc (ρ := ρ) (ι := ι) c 0 _ _ _ hm').1
        rw [hc] at hmc
        cases way
        · rw [hmc]; exact (hy'.slots i u' hu').1
        · rw [hmc]; exact (hy'.slots i u hu).1
      · refine ⟨(hy'.slots i v ?_).1, hsc i v h2⟩
        rw [hny, Slots.get_append_left (fun p hp => h1 p ?_)]
        · exact h2
        · cases way
          · have htb : b.slots.take (b.slots.length - σ.slots.length) = ny := by
              have : b.slots = ny ++ σ.slots := hny
              rw [this]; simp
            rw [htb]; simp [hp]
          · have hta : a.slots.take (a.slots.length - σ.slots.length) = ny := by
              have : a.slots = ny ++ σ.slots := hny
              rw [this]; simp
            rw [hta]; simp [hp]
    · cases hj
  · cases hj

/-! ### Answers of calls -/

def CovR (ρ : Env) (n : Nat) (a x : Res) : Prop := ∀ (G : Globs) (K : Nat → Prop) (w0 : World) (ι : Nm) (w : World), HR ρ G K w0 ι a.h w → a.v.sc a.h.length = true → n ≤ a.h.length → (a.pc.den ρ).asBool = true →
  HR ρ G K w0 ι x.h w ∧ x.v.sc x.h.length = true ∧ n ≤ x.h.length ∧ (x.pc.den ρ).asBool = true ∧ x.v.conc ρ ι = a.v.conc ρ ι

theorem CovR.refl (n : Nat) (a : Res) : CovR ρ n a a := fun _ _ _ _ _ h1 h2 h3 h4 => ⟨h1, h2, h3, h4, rfl⟩
theorem CovR.trans {n : Nat} {a b c : Res} (h : CovR ρ n a b) (k : CovR ρ n b c) : CovR ρ n a c := fun G K w0 ι w h1 h2 h3 h4 => by
  obtain ⟨a1, a2, a3, a4, a5⟩ := h G K w0 ι w h1 h2 h3 h4
  obtain ⟨b1, b2, b3, b4, b5⟩ := k G K w0 ι w a1 a2 a3 a4
  exact ⟨b1, b2, b3, b4, b5.trans a5⟩

theorem joinR_spec {h0 : Heap} {pc c : Tm} {a b x : Res} (hj : joinR h0 pc c a b = some x) (hpc : (pc.den ρ).asBool = true) (way : Bool) (hc : (c.den ρ).asBool = way) : CovR ρ h0.length (cond way a b) x := by
  unfold joinR at hj
  split at hj
  · rename_i v hv
    split at hj
    · rename_i hsc
      split at hj
      · rename_i hm hmm
        simp only [Option.some.injEq] at hj
        subst hj
        intro G K w0 ι w h1 h2 h3 h4
        have hH : HR ρ G K w0 ι (cond way a.h b.h) w := by cases way <;> exact h1
        obtain ⟨H', hlen⟩ := HR.merged (ρ := ρ) hmm way hc hH
        refine ⟨H', by rw [hlen]; exact hsc, by rw [hlen]; exact Nat.le_refl _, hpc, ?_⟩
        have hmc := (mergeV_conc (ρ := ρ) (ι := ι) c 0 _ _ _ hv).1
        rw [hc] at hmc
        rw [hmc]
        cases way <;> rfl
      · cases hj
    · cases hj
  · cases hj

/-- A function does what an answer says. -/
def CallOk (ρ : Env) (G : Globs) (P : Program) (f : FuncId) (args : List SVal) (h : Heap) (x : Res) : Prop :=
  ∀ (K : Nat → Prop) (w0 : World) (ι : Nm) (w : World), HR ρ G K w0 ι h w → (∀ v ∈ args, v.sc h.length = true) →
    Calls P f (args.map (·.conc ρ ι)).toArray w fun e w' => ∃ ι' : Nm, Nm.Ext h.length ι ι' ∧ h.length ≤ x.h.length ∧ HR ρ G K w0 ι' x.h w' ∧ x.v.sc x.h.length = true ∧ (x.pc.den ρ).asBool = true ∧ e = .returned (x.v.conc ρ ι')

/-- What is known of functions is so. -/
def Specs.Ok (ρ : Env) (cx : Cx) (S : Specs) : Prop :=
  ∀ f sp, S f = some sp → ∀ args h pc x, (pc.den ρ).asBool = true → (sp args h pc).get ρ = some x → CallOk ρ cx.globs cx.P f args h x

def Ex.exit' : Ex → Exit
  | .normal => .normal
  | .exit id => .exit id
  | .ret => .ret
  | .goto l => .goto l

/-- The executor of code is right. -/
def RunOk (ρ : Env) (cx : Cx) (runC : Code → St → Tree (Ex × St)) : Prop :=
  ∀ c σ e σ', (runC c σ).get ρ = some (e, σ') → ∀ (K : Nat → Prop) (w0 : World) (ι : Nm) (a : Act) (w : World), Gam ρ cx.globs K w0 ι σ a w →
    ∀ Q : Exit → Act → World → Prop, (∀ ι' a' w', StepS σ σ' → Nm.Ext σ.heap.length ι ι' → Gam ρ cx.globs K w0 ι' σ' a' w' → Q e.exit' a' w') → c.wp cx.P Q a w

theorem argSlots_get : ∀ (args : List SVal) (k i : Nat) (v : SVal), (argSlots k args).get i = some v → k ≤ i ∧ args[i - k]? = some v
  | [], k, i, v, h => by simp [argSlots, Slots.get_nil] at h
  | a :: r, k, i, v, h => by
    simp only [argSlots] at h
    by_cases hik : i = k
    · subst hik
      rw [Slots.get_cons_self] at h
      simp at h; subst h
      exact ⟨Nat.le_refl _, by simp⟩
    · rw [Slots.get_cons_ne hik] at h
      obtain ⟨h1, h2⟩ := argSlots_get r (k + 1) i v h
      refine ⟨by omega, ?_⟩
      have : i - k = (i - (k + 1)) + 1 := by omega
      rw [this]; simpa using h2

theorem resultsT_spec {cx : Cx} {σ : St} {a : Act} (H : Gam ρ cx.globs K w0 ι σ a w) (f : ResultVar → Sem Value) (hf1 : ∀ t, f (.tmp t) = pure (a.tmps.getD t undef)) (hf2 : ∀ p t, f (.cell p t) = (do loadVar t (← asAddr (a.tmps.getD p undef)))) :
    ∀ {rs : List ResultVar} {vs : List SVal}, resultsT cx σ rs = some vs → (rs.mapM f).run cx.P w = .ok (vs.map (·.conc ρ ι)) w ∧ ∀ v ∈ vs, v.sc σ.heap.length = true
  | [], vs, h => by simp [resultsT] at h; subst h; simp
  | .tmp t :: r, vs, h => by
    unfold resultsT at h
    split at h
    · rename_i v l hv hl
      simp at h; subst h
      obtain ⟨h1, h2⟩ := H.slots t v hv
      obtain ⟨h3, h4⟩ := resultsT_spec H f hf1 hf2 hl
      have e : a.tmps.getD t undef = v.conc ρ ι := by simp [Array.getD_eq_getD_getElem?, h1]
      refine ⟨by rw [List.mapM_cons, hf1]; simp only [Sem.run_bind, Sem.run_pure, Result.andThen_ok, h3, e, List.map_cons], ?_⟩
      intro u hu
      rcases List.mem_cons.1 hu with rfl | hu
      · exact h2
      · exact h4 u hu
    · cases h
  | .cell p t :: r, vs, h => by
    unfold resultsT at h
    split at h
    · rename_i b off l hv hl
      split at h
      · rename_i v hld
        simp at h; subst h
        obtain ⟨h1, h2⟩ := H.slots p _ hv
        obtain ⟨h3, h4⟩ := resultsT_spec H f hf1 hf2 hl
        obtain ⟨h5, h6⟩ := run_loadT H.heap hld (by simp)
        have e : a.tmps.getD p undef = (SVal.ptr b off).conc ρ ι := by simp [Array.getD_eq_getD_getElem?, h1]
        have h5' : (loadVar t ⟨ι.blk b, off, none⟩).run cx.P w = .ok (v.conc ρ ι) w := by
          simpa [Instr.loadAt, SVal.conc, Instr.sureAddr] using h5
        have ha : (asAddr ((SVal.ptr b off).conc ρ ι)).run cx.P w = .ok ⟨ι.blk b, off, none⟩ w := by simp [SVal.conc, asAddr]
        refine ⟨by rw [List.mapM_cons, hf2]; simp only [Sem.run_bind, Sem.run_pure, Result.andThen_ok, h3, e, ha, h5', List.map_cons], ?_⟩
        intro u hu
        rcases List.mem_cons.1 hu with rfl | hu
        · exact h6
        · exact h4 u hu
      · cases h
    · cases h

theorem resultT_spec {cx : Cx} {σ : St} {a : Act} {fn : Func} {v : SVal} (H : Gam ρ cx.globs K w0 ι σ a w) (h : resultT cx fn σ = some v) :
    (results fn a.tmps).run cx.P w = .ok (v.conc ρ ι) w ∧ v.sc σ.heap.length = true := by
  have key : ∀ vs, resultsT cx σ fn.results.toList = some vs → (results fn a.tmps).run cx.P w = .ok (if hh : (vs.map (·.conc ρ ι)).toArray.size = 1 then (vs.map (·.conc ρ ι)).toArray[0] else .tuple (vs.map (·.conc ρ ι)).toArray) w ∧ ∀ u ∈ vs, u.sc σ.heap.length = true := by
    intro vs hvs
    have h2 := (resultsT_spec H (fun r => ResultVar.rec (fun t => pure (a.tmps.getD t undef)) (fun p t => do loadVar t (← asAddr (a.tmps.getD p undef))) r) (fun _ => rfl) (fun _ _ => rfl) hvs).2
    refine ⟨?_, h2⟩
    unfold results
    rw [Array.mapM_eq_mapM_toList]
    simp only [Sem.run_bind, Sem.run_map]
    have h1 := fun f hf1 hf2 => (resultsT_spec H f hf1 hf2 hvs).1
    rw [h1 _ (fun _ => rfl) (fun _ _ => rfl)]
    rfl
  unfold resultT at h
  split at h
  · rename_i u hu
    simp at h; subst h
    obtain ⟨h1, h2⟩ := key _ hu
    exact ⟨by rw [h1]; simp, h2 u (by simp)⟩
  · rename_i l hne hu
    simp at h; subst h
    obtain ⟨h1, h2⟩ := key _ hu
    refine ⟨?_, by simp only [SVal.sc]; exact SVal.sc_ofList _ h2⟩
    rw [h1]
    have : (l.map (·.conc ρ ι)).toArray.size ≠ 1 := by
      intro e
      simp at e
      match l, e with
      | [x], _ => exact hne x rfl
    rw [dif_neg this]
    simp [SVal.conc, SVal.concL_ofList]
  · cases h

theorem Sem_run_invoke_enter {cx : Cx} (ok : cx.Ok) {f : FuncId} {fn : Func} {c : Code} (hf : cx.P.funcs[f]? = some fn) (hb : fn.body = some c) (args : Array Value) (w : World) : (callFunc f args).run cx.P w = .ok (.enter f args) w := by
  have hn := ok.names f fn hf
  simp only [callFunc, Sem.run_bind, run_program, Result.andThen_ok, hf, hn, hb, Option.isNone_some, Bool.false_eq_true, if_false, Sem.run_pure]

theorem leaves_quiet {cx : Cx} (ok : cx.Ok) {fn : Func} {tmps : Array Value} {R : Ending → World → Prop} {v : Value} {w1 : World} (hr : (results fn tmps).run cx.P w1 = .ok v w1) (hR : R (.returned v) w1) (dfs : List FuncId) :
    ∀ (l : List Deferred), (dfs.all fun f => memNat f cx.quiet) = true → DfsOk dfs l → Leaves cx.P fn tmps R l .returning w1 := by
  induction dfs with
  | nil =>
    intro l _ hd
    have hd : l = [] := hd
    subst hd
    exact ⟨v, hr, hR⟩
  | cons f r ih =>
    intro l hq hd
    obtain ⟨d, l', rfl, ⟨cap, ht⟩, hd'⟩ := hd
    rw [List.all_cons, Bool.and_eq_true] at hq
    obtain ⟨⟨fn', c, hf, hb⟩, hcall⟩ := ok.quiet f (memNat_mem hq.1)
    have key := ih l' hq.2 hd'
    refine ⟨by simp, .func f, cap, f, d.args ++ cap, ht, ?_, (hcall (d.args ++ cap) w1).mono ?_⟩
    · rw [ht]
      exact Sem_run_invoke_enter ok hf hb _ _
    · rintro e u' w' ⟨⟨v', rfl⟩, rfl, rfl⟩
      exact key

theorem heapSc_spec {n : Nat} : ∀ {h : Heap}, heapSc n h = true → ∀ (m : Nat) (b : Blk), h[m]? = some (some b) → b.cells.sc n = true
  | none :: r, hh, 0, b, e => by simp at e
  | none :: r, hh, m + 1, b, e => heapSc_spec (h := r) hh m b (by simpa using e)
  | some c :: r, hh, 0, b, e => by
    simp only [heapSc, Bool.and_eq_true] at hh
    simp only [List.getElem?_cons_zero, Option.some.injEq] at e
    subst e
    exact hh.1
  | some c :: r, hh, m + 1, b, e => by
    simp only [heapSc, Bool.and_eq_true] at hh
    exact heapSc_spec (h := r) hh.2 m b (by simpa using e)

theorem gcR_spec {ι : Nm} {w0 w : World} {K : Nat → Prop} {G : Globs} {n : Nat} {r : Res} (H : HR ρ G K w0 ι r.h w) (hs : r.v.sc r.h.length = true) (hl : n ≤ r.h.length) :
    HR ρ G K w0 ι (gcR n r).h w ∧ (gcR n r).v = r.v ∧ (gcR n r).v.sc (gcR n r).h.length = true ∧ n ≤ (gcR n r).h.length ∧ (gcR n r).pc = r.pc := by
  unfold gcR
  split
  · exact ⟨H, rfl, hs, hl, rfl⟩
  · split
    · exact ⟨H, rfl, hs, hl, rfl⟩
    · rename_i hv
      split
      · exact ⟨H, rfl, hs, hl, rfl⟩
      · rename_i hh
        have hlen : (r.h.take n).length = n := by rw [List.length_take]; omega
        have hget : ∀ (m : Nat) (b : Blk), (r.h.take n)[m]? = some (some b) → r.h[m]? = some (some b) := by
          intro m b e
          rw [List.getElem?_take] at e
          split at e
          · exact e
          · cases e
        refine ⟨⟨H.os, H.tape, H.output, H.size, H.kept, H.old, H.base, ?_, ?_, H.globs⟩, rfl, by rw [hlen]; exact hv, by rw [hlen]; exact Nat.le_refl _, rfl⟩
        · intro m b e
          obtain ⟨h1, h2, _⟩ := H.blocks m b (hget m b e)
          exact ⟨h1, h2, by rw [hlen]; exact heapSc_spec hh m b e⟩
        · intro m k b c e1 e2
          exact H.inj m k b c (hget m b e1) (hget k c e2)

theorem callT_ok {cx : Cx} (ok : cx.Ok) {S : Specs} (hS : S.Ok ρ cx) {runC : Code → St → Tree (Ex × St)} (hR : RunOk ρ cx runC) {f : FuncId} {args : List SVal} {h : Heap} {pc : Tm} {x : Res}
    (hpc : (pc.den ρ).asBool = true) (hx : (callT cx S runC f args h pc).get ρ = some x) : CallOk ρ cx.globs cx.P f args h x := by
  unfold callT at hx
  split at hx
  · rename_i sp hsp
    exact hS f sp hsp args h pc x hpc hx
  · split at hx
    · simp [Tree.get] at hx
    · rename_i fn hfn
      split at hx
      · simp [Tree.get] at hx
      · rename_i c hc
        split at hx
        · simp [Tree.get] at hx
        · rename_i hle
          have hle := Nat.le_of_ble_eq_true hle
          obtain ⟨y, hy1, hy2⟩ := squash_get (ρ := ρ) (CovR ρ h.length) (CovR.refl _) (fun _ _ _ => CovR.trans) (fun c a b z hz => ⟨fun hc => joinR_spec (joinRs_eq hz) hpc true hc, fun hc => joinR_spec (joinRs_eq hz) hpc false hc⟩) _ _ hx
          rw [Tree.get_bind] at hy1
          simp only [Option.bind_eq_some_iff] at hy1
          obtain ⟨⟨e, σ⟩, hr1, hr2⟩ := hy1
          have entry : ∀ (K : Nat → Prop) (w0 : World) (ι : Nm) (w : World), HR ρ cx.globs K w0 ι h w → (∀ v ∈ args, v.sc h.length = true) →
              Gam ρ cx.globs K w0 ι { n := fn.ntmps, slots := argSlots 0 args, heap := h, pc := pc } { tmps := (args.map (·.conc ρ ι)).toArray ++ Array.replicate (fn.ntmps - (args.map (·.conc ρ ι)).toArray.size) undef, defers := [] } w := by
            intro K w0 ι w H hsc
            refine ⟨by simp; omega, show DfsOk [] [] from rfl, ?_, H, hpc⟩
            intro i v hv
            obtain ⟨_, h2⟩ := argSlots_get args 0 i v hv
            simp only [Nat.sub_zero] at h2
            refine ⟨?_, hsc v (List.mem_of_getElem? h2)⟩
            have hi := (List.getElem?_eq_some_iff.1 h2).1
            rw [Array.getElem?_append_left (by simpa using hi)]
            simp [h2]
          cases e with
          | exit id => simp [Tree.get] at hr2
          | goto l => simp [Tree.get] at hr2
          | _ =>
            simp only at hr2
            split at hr2
            · rename_i v hq hv
              simp only [Tree.get, Option.some.injEq] at hr2
              subst hr2
              intro K w0 ι w H hsc
              refine calls_of_wp_defers hfn hc (hR _ _ _ _ hr1 K w0 ι _ w (entry K w0 ι w H hsc) _ ?_)
              intro ι' a' w' s1 hext g
              obtain ⟨r1, r2⟩ := resultT_spec g hv
              obtain ⟨q1, q2, q3, q4, q5⟩ := gcR_spec (n := h.length) (r := ⟨v, σ.heap, σ.pc⟩) g.heap r2 s1.len
              obtain ⟨c1, c2, c3, c4, c5⟩ := hy2 cx.globs K w0 ι' w' q1 q3 q4 (by rw [q5]; exact g.pc)
              rw [q2] at c5
              exact leaves_quiet ok r1 ⟨ι', hext, c3, c1, c2, c4, by rw [c5]⟩ _ _ hq g.defers
            · simp [Tree.get] at hr2
            · simp [Tree.get] at hr2

/-! ### Operations -/

theorem run_methodT {P : Program} {t : TypeId} {name : String} {g : FuncId} {v : Value} (h : methodT P t name = some g) : (method (P.types.size + Made.depth) t v name).run P w = .ok (g, v) w := by
  unfold methodT at h
  split at h
  · rename_i i hi
    split at h
    · rename_i m hm
      have key : ∀ D, (method (D + 1) t v name).run P w = .ok (g, v) w := by
        intro D
        have hti := run_typeInfoT (w := w) hi
        split at h
        · rename_i g' e hp hf hu
          simp only [Option.some.injEq] at h
          subst h
          simp only [method, Sem.run_bind, hti, Result.andThen_ok, hm, hp, follow, Sem.run_pure, hf, receiverAt, run_underlying hu, Place.get]
        · cases h
        · rename_i g' d hne hp hf hu
          simp only [Option.some.injEq] at h
          subst h
          have hr : ∀ wr, (receiverAt t (.val v) false wr).run P w = .ok v w := by
            intro wr
            unfold receiverAt
            simp only [Sem.run_bind, run_underlying hu, Result.andThen_ok]
            cases d <;> first | rfl | exact (hne _ _ _ hf hu).elim
          simp only [method, Sem.run_bind, hti, Result.andThen_ok, hm, hp, follow, Sem.run_pure, hf, hr]
        · cases h
      have hd : P.types.size + Made.depth = (P.types.size + Made.depth - 1) + 1 := by
        have : 0 < Made.depth := by decide
        omega
      rw [hd]
      exact key _
    · cases h
  · cases h

/-- AN OPERATION. -/
theorem opT_ok {cx : Cx} (ok : cx.Ok) {S : Specs} (hS : S.Ok ρ cx) (hB : ∀ f, S f ≠ none → ∃ fn c, cx.P.funcs[f]? = some fn ∧ fn.body = some c) {runC : Code → St → Tree (Ex × St)} (hR : RunOk ρ cx runC) {σ : St} {o : Oper} {x : Res} (hx : (opT cx S runC σ o).get ρ = some x)
    {a : Act} (hs : SlotsOk ρ ι σ.heap.length σ.slots a) (H : HR ρ cx.globs K w0 ι σ.heap w) (hpc : (σ.pc.den ρ).asBool = true) (next : Act → World → Prop) (Q : Exit → Act → World → Prop)
    (hn : ∀ ι' w', Nm.Ext σ.heap.length ι ι' → σ.heap.length ≤ x.h.length → HR ρ cx.globs K w0 ι' x.h w' → x.v.sc x.h.length = true → (x.pc.den ρ).asBool = true → next (a.put o.dst (x.v.conc ρ ι')) w') :
    o.wp cx.P a w next Q := by
  unfold opT at hx
  split at hx
  · rename_i v cs hp
    obtain ⟨h1, h2⟩ := Tree.get_mustP hpc _ _ _ hx
    simp only [Tree.get, Option.some.injEq] at h1
    subst h1
    obtain ⟨r1, r2⟩ := run_pureOp ok hp hs H hpc h2
    unfold Oper.wp
    rw [r1]
    exact hn ι w (Nm.Ext.refl _ _) (Nat.le_refl _) H r2 hpc
  · split at hx
    · rename_i v h' hp
      simp only [Tree.get, Option.some.injEq] at hx
      subst hx
      obtain ⟨ι', w', nx, r1, r2, r3, r4, r5, r6⟩ := run_heapOp hp hs H
      unfold Oper.wp
      rw [r1]
      rcases r2 with rfl | ⟨rfl, rfl⟩
      · exact hn ι' w' r3 r4 r5 r6 hpc
      · have := hn ι' w' r3 r4 r5 r6 hpc
        simpa [Oper.upon, undefS, SVal.conc, SVal.concL, undef] using this
    · split at hx
      · rename_i h' cs hp
        obtain ⟨h1, h2⟩ := Tree.get_mustP hpc _ _ _ hx
        simp only [Tree.get, Option.some.injEq] at h1
        subst h1
        obtain ⟨w', r1, r2, r3⟩ := run_storeOp hp hs H h2
        unfold Oper.wp
        rw [r1]
        have := hn ι w' (Nm.Ext.refl _ _) (Nat.le_of_eq r2.symm) r3 rfl hpc
        simpa [Oper.upon, undefS, SVal.conc, SVal.concL, undef] using this
      split at hx
      · rename_i v hp
        simp only [Tree.get, Option.some.injEq] at hx
        subst hx
        obtain ⟨r1, r2⟩ := run_pureOp2 ok hp hs H
        unfold Oper.wp
        rw [r1]
        exact hn ι w (Nm.Ext.refl _ _) (Nat.le_refl _) H r2 hpc
      split at hx
      · rename_i v h' hp
        simp only [Tree.get, Option.some.injEq] at hx
        subst hx
        obtain ⟨ι', w', nx, r1, r2, r3, r4, r5, r6⟩ := run_heapOp2 hp hs H
        unfold Oper.wp
        rw [r1]
        rcases r2 with rfl | ⟨rfl, rfl⟩
        · exact hn ι' w' r3 r4 r5 r6 hpc
        · have := hn ι' w' r3 r4 r5 r6 hpc
          simpa [Oper.upon, undefS, SVal.conc, SVal.concL, undef] using this
      have hbody : ∀ {g : FuncId} {as : List SVal}, (callT cx S runC g as σ.heap σ.pc).get ρ = some x → ∃ fn c, cx.P.funcs[g]? = some fn ∧ fn.body = some c := by
        intro g as hx
        cases hSg : S g with
        | some sp => exact hB g (by simp [hSg])
        | none =>
          unfold callT at hx
          rw [hSg] at hx
          simp only at hx
          split at hx
          · simp [Tree.get] at hx
          · rename_i fn hfn
            split at hx
            · simp [Tree.get] at hx
            · rename_i c' hc'
              exact ⟨fn, c', hfn, hc'⟩
      split at hx
      · rename_i c ho
        split at hx
        · rename_i f hcal
          split at hx
          · rename_i g first captured args hf hargs
            have hcall := callT_ok ok hS hR hpc hx
            obtain ⟨f1, f2⟩ := evO_conc hs hf
            obtain ⟨a1, a2⟩ := evs_conc hs hargs
            simp only [SVal.sc, Bool.and_eq_true] at f2
            have hsc : ∀ v ∈ first.toList ++ args ++ captured.toList, v.sc σ.heap.length = true := by
              intro v hv
              simp only [List.mem_append] at hv
              rcases hv with (hv | hv) | hv
              · exact SVal.sc_toList _ f2.1 v hv
              · exact a2 v hv
              · exact SVal.sc_toList _ f2.2 v hv
            have hc := hcall K w0 ι w H hsc
            obtain ⟨fn, cb, hfn, hcb⟩ := hbody hx
            have hrun : (execOp a.eval o).run cx.P w = .ok (.enter g ((first.toList ++ args ++ captured.toList).map (·.conc ρ ι)).toArray) w := by
              have eargs : c.args.map a.eval = (args.map (·.conc ρ ι)).toArray := by apply Array.ext'; simp [a1]
              simp only [SVal.conc] at f1
              simp only [execOp, ho, resolve, hcal, f1, Deferred.ofValue, Sem.run_bind, Sem.run_pure, Result.andThen_ok, invoke, eargs]
              rw [Sem_run_invoke_enter ok hfn hcb]
              congr 2
              apply Array.ext'
              simp [SVal.concL_toList]
            unfold Oper.wp
            rw [hrun]
            simp only [Oper.upon]
            refine hc.mono fun e w' he => ?_
            obtain ⟨ι', e1, e2, e3, e4, e5, rfl⟩ := he
            exact hn ι' w' e1 e2 e3 e4 e5
          · simp [Tree.get] at hx
        · rename_i r name hcal
          split at hx
          · rename_i t v args hf hargs
            split at hx
            · rename_i g hg
              have hcall := callT_ok ok hS hR hpc hx
              obtain ⟨f1, f2⟩ := evO_conc hs hf
              obtain ⟨a1, a2⟩ := evs_conc hs hargs
              have f2 : v.sc σ.heap.length = true := f2
              have hsc : ∀ u ∈ v :: args, u.sc σ.heap.length = true := by
                intro u hu
                rcases List.mem_cons.1 hu with rfl | hu
                · exact f2
                · exact a2 u hu
              have hc := hcall K w0 ι w H hsc
              obtain ⟨fn, cb, hfn, hcb⟩ := hbody hx
              have hrun : (execOp a.eval o).run cx.P w = .ok (.enter g ((v :: args).map (·.conc ρ ι)).toArray) w := by
                have eargs : c.args.map a.eval = (args.map (·.conc ρ ι)).toArray := by apply Array.ext'; simp [a1]
                have f1 : a.eval r = .iface t (v.conc ρ ι) := f1
                have hm := run_methodT (w := w) (v := v.conc ρ ι) hg
                simp only [execOp, ho, resolve, hcal, f1, Sem.run_bind, Sem.run_pure, Result.andThen_ok, invoke, eargs]
                have e2 : #[Value.iface t (v.conc ρ ι)] ++ (args.map (·.conc ρ ι)).toArray = (Value.iface t (v.conc ρ ι) :: args.map (·.conc ρ ι)).toArray := by
                  apply Array.ext'
                  simp
                rw [e2]
                have e0 : ((Value.iface t (v.conc ρ ι) :: args.map (·.conc ρ ι)).toArray : Array Value)[0]? = some (.iface t (v.conc ρ ι)) := rfl
                have e1 : (Value.iface t (v.conc ρ ι) :: args.map (·.conc ρ ι)).toArray.extract 1 (Value.iface t (v.conc ρ ι) :: args.map (·.conc ρ ι)).toArray.size = (args.map (·.conc ρ ι)).toArray := by
                  apply Array.ext'
                  simp
                  exact List.take_of_length_le (by simp)
                have e3 : #[v.conc ρ ι] ++ (args.map (·.conc ρ ι)).toArray = ((v :: args).map (·.conc ρ ι)).toArray := by
                  apply Array.ext'
                  simp
                rw [e0]
                simp only [callMethod, Sem.run_bind, run_program, Result.andThen_ok, hm, e1, e3]
                exact Sem_run_invoke_enter ok hfn hcb _ _
              unfold Oper.wp
              rw [hrun]
              simp only [Oper.upon]
              refine hc.mono fun e w' he => ?_
              obtain ⟨ι', e1, e2, e3, e4, e5, rfl⟩ := he
              exact hn ι' w' e1 e2 e3 e4 e5
            · simp [Tree.get] at hx
          · simp [Tree.get] at hx
        · simp [Tree.get] at hx
      · simp [Tree.get] at hx

theorem guardT_ok {ops : Array Oper} {σ : St} {o : Oper} {g : Tm} {a : Act} (hs : SlotsOk ρ ι σ.heap.length σ.slots a) (hg : guardT ops.toList σ o = some g) :
    Region.wanted o (yielded ops a.tmps) = (g.den ρ).asBool := by
  unfold guardT at hg
  unfold Region.wanted
  split at hg
  · rename_i h0; simp at hg; subst hg; simp [h0, Tm.den]
  · rename_i j want h0
    split at hg
    · rename_i oj hoj
      have hoj' : ops[j]? = some oj := by simpa using hoj
      split at hg
      · rename_i d hd
        split at hg
        · rename_i t ht
          obtain ⟨h1, _⟩ := hs d _ ht
          simp only [SVal.conc] at h1
          have hy : yielded ops a.tmps j = some (t.den ρ).asBool := by simp [yielded, hoj', hd, h1]
          simp only [Option.some.injEq] at hg
          subst hg
          simp only [h0, hy]
          cases want
          · simp only [mkNot_den]; cases (t.den ρ).asBool <;> rfl
          · cases (t.den ρ).asBool <;> rfl
        · rename_i ht
          obtain ⟨h1, _⟩ := hs d _ ht
          simp only [SVal.conc, SVal.concL] at h1
          have hy : yielded ops a.tmps j = none := by simp [yielded, hoj', hd, h1]
          simp at hg; subst hg
          simp [h0, hy, Tm.den]
        · cases hg
      · cases hg
    · cases hg

theorem put_slots {n : Nat} {σ : St} {a : Act} {d : Option Nat} {v : SVal} (hsz : a.tmps.size = σ.n) (hs : SlotsOk ρ ι n σ.slots a) (hv : v.sc n = true) :
    SlotsOk ρ ι n (σ.put d v).slots (a.put d (v.conc ρ ι)) ∧ (a.put d (v.conc ρ ι)).tmps.size = σ.n ∧ (a.put d (v.conc ρ ι)).defers = a.defers := by
  cases d with
  | none => exact ⟨hs, hsz, rfl⟩
  | some d =>
    refine ⟨?_, by simp [Act.put, hsz], rfl⟩
    intro i u hu
    simp only [St.put_eq] at hu
    by_cases hid : i = d
    · subst hid
      rw [Slots.get_cons_self] at hu
      split at hu
      · rename_i hlt
        have hlt : i < σ.n := Nat.lt_of_succ_le (Nat.le_of_ble_eq_true hlt)
        simp at hu; subst hu
        exact ⟨by simp [Act.put, hsz, hlt], hv⟩
      · cases hu
    · rw [Slots.get_cons_ne hid] at hu
      obtain ⟨h1, h2⟩ := hs i u hu
      refine ⟨?_, h2⟩
      simp only [Act.put]
      rw [Array.getElem?_setIfInBounds_ne (by omega)]
      exact h1

theorem SlotsOk.ext {n m : Nat} {ι' : Nm} {s : Slots} {a : Act} (hs : SlotsOk ρ ι n s a) (e : Nm.Ext n ι ι') (hnm : n ≤ m) : SlotsOk ρ ι' m s a := by
  intro i v hv
  obtain ⟨h1, h2⟩ := hs i v hv
  exact ⟨by rw [(SVal.conc_ext (ρ := ρ) e v h2).1]; exact h1, SVal.sc_mono hnm _ h2⟩

theorem put_step (σ : St) (h' : Heap) (pc' : Tm) (d : Option Nat) (v : SVal) (hl : σ.heap.length ≤ h'.length) : StepS σ ({ σ with heap := h', pc := pc' }.put d v) := by
  rw [St.put_eq]
  cases d with
  | none => exact ⟨hl, ⟨[], rfl⟩, rfl⟩
  | some d => exact ⟨hl, ⟨[_], rfl⟩, rfl⟩

theorem run_deferT {P : Program} {slots : Slots} {n : Nat} {o : Oper} {f : FuncId} {a : Act} (h : deferT slots o = some f) (hs : SlotsOk ρ ι n slots a) :
    ∃ cap args, (execOp a.eval o).run P w = .ok (.defer { target := .fn (.func f) cap, args := args }) w := by
  unfold deferT at h
  split at h
  · rename_i c ho
    split at h
    · rename_i x hcal hargs
      split at h
      · rename_i g captured hx
        simp only [Option.some.injEq] at h
        subst h
        have h1 := (evO_conc hs hx).1
        simp only [SVal.conc, SVal.concL] at h1
        have e : c.args = #[] := by apply Array.ext'; simpa using hargs
        refine ⟨(captured.concL ρ ι).toArray, #[] ++ Array.map a.eval #[], ?_⟩
        simp only [execOp, ho, resolve, hcal, h1, e, Deferred.ofValue, Sem.run_bind, Sem.run_pure, Result.andThen_ok]
      · cases h
    · cases h
  · cases h

/-- A REGION IN THE ORDER OF THE TEXT. -/
theorem opsT_ok {cx : Cx} (ok : cx.Ok) {S : Specs} (hS : S.Ok ρ cx) (hB : ∀ f, S f ≠ none → ∃ fn c, cx.P.funcs[f]? = some fn ∧ fn.body = some c) {runC : Code → St → Tree (Ex × St)} (hR : RunOk ρ cx runC) {ops : Array Oper} (Q : Exit → Act → World → Prop) :
    ∀ (r : List Oper) (i : Nat) (σ : St) (σ' : St), (∀ j, r[j]? = ops[i + j]?) → (opsT cx S runC ops.toList r σ).get ρ = some σ' →
    ∀ (K : Nat → Prop) (w0 : World) (ι : Nm) (a : Act) (w : World), Gam ρ cx.globs K w0 ι σ a w → (∀ ι' a' w', StepS σ σ' → Nm.Ext σ.heap.length ι ι' → Gam ρ cx.globs K w0 ι' σ' a' w' → Q .normal a' w') → wpOps cx.P ops Q (List.range' i r.length) a w
  | [], i, σ, σ', _, hx, K, w0, ι, a, w, g, hq => by
    simp only [opsT, Tree.get, Option.some.injEq] at hx
    subst hx
    simp only [List.length_nil, List.range'_zero, wpOps]
    exact hq ι a w (StepS.refl _) (Nm.Ext.refl _ _) g
  | o :: r, i, σ, σ', hr, hx, K, w0, ι, a, w, g, hq => by
    have hoi : ops[i]? = some o := by have := hr 0; simpa using this.symm
    have hr' : ∀ j, r[j]? = ops[(i + 1) + j]? := fun j => by
      have := hr (j + 1)
      rw [show i + (j + 1) = i + 1 + j by omega] at this
      simpa using this
    simp only [List.length_cons, List.range'_succ, wpOps, hoi]
    -- the two ways
    have go : ∀ pc', (pc'.den ρ).asBool = true → (match deferT ({ σ with pc := pc' } : St).slots o with
      | some f => opsT cx S runC ops.toList r ({ ({ σ with pc := pc' } : St) with dfs := f :: ({ σ with pc := pc' } : St).dfs }.put o.dst undefS)
      | none => (opT cx S runC { σ with pc := pc' } o).bind fun x => opsT cx S runC ops.toList r ({ { σ with pc := pc' } with heap := x.h, pc := x.pc }.put o.dst x.v)).get ρ = some σ' →
        o.wp cx.P a w (wpOps cx.P ops Q (List.range' (i + 1) r.length)) Q := by
      intro pc' hpc' hh
      split at hh
      · rename_i f hdf
        obtain ⟨cap, args, hrun⟩ := run_deferT (P := cx.P) (w := w) hdf g.slots
        unfold Oper.wp
        rw [hrun]
        simp only [Oper.upon]
        have hu : (undefS.conc ρ ι) = undef := by simp [undefS, SVal.conc, SVal.concL, undef]
        have hs0 : SlotsOk ρ ι σ.heap.length σ.slots { a with defers := { target := .fn (.func f) cap, args := args } :: a.defers } := fun i v hv => g.slots i v hv
        obtain ⟨p1, p2, p3⟩ := put_slots (σ := { ({ σ with pc := pc' } : St) with dfs := f :: σ.dfs }) (d := o.dst) (v := undefS) (ρ := ρ) (ι := ι) (n := σ.heap.length) (a := { a with defers := { target := .fn (.func f) cap, args := args } :: a.defers }) g.size hs0 rfl
        rw [hu] at p1 p2 p3
        have hst : StepS σ ({ ({ σ with pc := pc' } : St) with dfs := f :: σ.dfs }.put o.dst undefS) := by
          rw [St.put_eq]
          cases o.dst with
          | none => exact ⟨Nat.le_refl _, ⟨[], rfl⟩, rfl⟩
          | some d => exact ⟨Nat.le_refl _, ⟨[_], rfl⟩, rfl⟩
        have hheap : ({ ({ σ with pc := pc' } : St) with dfs := f :: σ.dfs }.put o.dst undefS).heap = σ.heap := by rw [St.put_eq]; cases o.dst <;> rfl
        have hpcx : ({ ({ σ with pc := pc' } : St) with dfs := f :: σ.dfs }.put o.dst undefS).pc = pc' := by rw [St.put_eq]; cases o.dst <;> rfl
        have hnx : ({ ({ σ with pc := pc' } : St) with dfs := f :: σ.dfs }.put o.dst undefS).n = σ.n := by rw [St.put_eq]; cases o.dst <;> rfl
        have hdx : ({ ({ σ with pc := pc' } : St) with dfs := f :: σ.dfs }.put o.dst undefS).dfs = f :: σ.dfs := by rw [St.put_eq]; cases o.dst <;> rfl
        refine opsT_ok ok hS hB hR Q r (i + 1) _ σ' hr' hh K w0 ι _ w ⟨by rw [p2, hnx], by rw [p3, hdx]; exact ⟨_, _, rfl, ⟨cap, rfl⟩, g.defers⟩, by rw [hheap]; exact p1, by rw [hheap]; exact g.heap, by rw [hpcx]; exact hpc'⟩ ?_
        intro ι'' a'' w'' s'' e'' g''
        refine hq ι'' a'' w'' (hst.trans s'') ?_ g''
        rw [hheap] at e''; exact e''
      rw [Tree.get_bind] at hh
      simp only [Option.bind_eq_some_iff] at hh
      obtain ⟨x, hx1, hx2⟩ := hh
      refine opT_ok ok hS hB hR hx1 g.slots g.heap hpc' _ _ ?_
      intro ι' w' e1 e2 e3 e4 e5
      have hs1 := SlotsOk.ext g.slots e1 e2
      obtain ⟨p1, p2, p3⟩ := put_slots (σ := { { σ with pc := pc' } with heap := x.h, pc := x.pc }) (d := o.dst) (v := x.v) g.size hs1 e4
      have hst : StepS σ ({ { σ with pc := pc' } with heap := x.h, pc := x.pc }.put o.dst x.v) := put_step σ x.h x.pc o.dst x.v e2
      have hheap : ({ { σ with pc := pc' } with heap := x.h, pc := x.pc }.put o.dst x.v).heap = x.h := by rw [St.put_eq]; cases o.dst <;> rfl
      have hpcx : ({ { σ with pc := pc' } with heap := x.h, pc := x.pc }.put o.dst x.v).pc = x.pc := by rw [St.put_eq]; cases o.dst <;> rfl
      have hnx : ({ { σ with pc := pc' } with heap := x.h, pc := x.pc }.put o.dst x.v).n = σ.n := by rw [St.put_eq]; cases o.dst <;> rfl
      have hdx : ({ { σ with pc := pc' } with heap := x.h, pc := x.pc }.put o.dst x.v).dfs = σ.dfs := by rw [St.put_eq]; cases o.dst <;> rfl
      refine opsT_ok ok hS hB hR Q r (i + 1) _ σ' hr' hx2 K w0 ι' _ w' ⟨by rw [p2, hnx], by rw [p3, hdx]; exact g.defers, by rw [hheap]; exact p1, by rw [hheap]; exact e3, by rw [hpcx]; exact e5⟩ ?_
      intro ι'' a'' w'' s'' e'' g''
      refine hq ι'' a'' w'' (hst.trans s'') ?_ g''
      exact e1.trans (by rw [hheap]; exact e2) e''
    have skip : ∀ pc', (pc'.den ρ).asBool = true → (opsT cx S runC ops.toList r ({ σ with pc := pc' }.put o.dst undefS)).get ρ = some σ' → wpOps cx.P ops Q (List.range' (i + 1) r.length) (a.put o.dst undef) w := by
      intro pc' hpc' hh
      have hu : (undefS.conc ρ ι) = undef := by simp [undefS, SVal.conc, SVal.concL, undef]
      obtain ⟨p1, p2, p3⟩ := put_slots (σ := { σ with pc := pc' }) (d := o.dst) (v := undefS) (ρ := ρ) (ι := ι) (n := σ.heap.length) g.size g.slots rfl
      rw [hu] at p1 p2 p3
      have hst : StepS σ ({ σ with pc := pc' }.put o.dst undefS) := put_step σ σ.heap pc' o.dst undefS (Nat.le_refl _)
      have hheap : ({ σ with pc := pc' }.put o.dst undefS).heap = σ.heap := by rw [St.put_eq]; cases o.dst <;> rfl
      have hpcx : ({ σ with pc := pc' }.put o.dst undefS).pc = pc' := by rw [St.put_eq]; cases o.dst <;> rfl
      have hnx : ({ σ with pc := pc' }.put o.dst undefS).n = σ.n := by rw [St.put_eq]; cases o.dst <;> rfl
      have hdx : ({ σ with pc := pc' }.put o.dst undefS).dfs = σ.dfs := by rw [St.put_eq]; cases o.dst <;> rfl
      refine opsT_ok ok hS hB hR Q r (i + 1) _ σ' hr' hh K w0 ι _ w ⟨by rw [p2, hnx], by rw [p3, hdx]; exact g.defers, by rw [hheap]; exact p1, by rw [hheap]; exact g.heap, by rw [hpcx]; exact hpc'⟩ ?_
      intro ι'' a'' w'' s'' e'' g''
      refine hq ι'' a'' w'' (hst.trans s'') ?_ g''
      rw [hheap] at e''; exact e''
    simp only [opsT] at hx
    split at hx
    · simp [Tree.get] at hx
    · rename_i gt hgt
      have hw := guardT_ok g.slots hgt
      split at hx
      · rename_i hd
        rw [hw, decideT_den g.pc hd]
        simp only [if_true]
        exact .inl (go σ.pc g.pc hx)
      · rename_i hd
        rw [hw, decideT_den g.pc hd]
        simp only [Bool.false_eq_true, if_false]
        exact skip σ.pc g.pc hx
      · simp only [Tree.get] at hx
        rw [hw]
        cases hg : (gt.den ρ).asBool
        · rw [hg] at hx
          simp only [Bool.false_eq_true, if_false]
          exact skip (mkAnd σ.pc (mkNot gt)) (by rw [mkAnd_den, mkNot_den, g.pc, hg]; rfl) hx
        · rw [hg] at hx
          simp only [if_true]
          exact .inl (go (mkAnd σ.pc gt) (by rw [mkAnd_den, g.pc, hg]; rfl) hx)

end
end
end Go.Sx
