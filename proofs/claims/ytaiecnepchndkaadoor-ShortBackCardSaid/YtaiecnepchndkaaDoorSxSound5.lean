/- The executor is right: operations that leave the heap alone, in one theorem. -/
import Derived.Test.YtaiecnepchndkaaDoorSxSound4
namespace Go.Sx

section
variable {ρ : Env} {G : Globs} {K : Nat → Prop} {w0 w : World} {ι : Nm} {h : Heap} {P : Program}

theorem addr_add (b off j : Nat) : (⟨b, off, none⟩ : Addr).add j = ⟨b, off + j, none⟩ := by
  unfold Addr.add
  split
  · rename_i e; subst e; simp
  · rfl

/-- Cells of a block of the world. -/
def CellsAt (w : World) (b : Nat) (l : List Value) : Prop := ∀ j v, l[j]? = some v → w.cell? ⟨b, j, none⟩ = some v

theorem HR.cellsAt (H : HR ρ G K w0 ι h w) {n : Nat} {b : Blk} (hb : h[n]? = some (some b)) : CellsAt w (ι.blk n) (b.cells.concL ρ ι) := by
  intro j v hv
  rw [SVal.concL_nth] at hv
  simp only [Option.map_eq_some_iff] at hv
  obtain ⟨u, hu, rfl⟩ := hv
  exact H.cell hb hu

theorem HR.globAt (H : HR ρ G K w0 ι h w) {g : Nat} {cs : SVal} (hg : (g, cs) ∈ G) : CellsAt w g (cs.concL ρ ι) := by
  obtain ⟨h1, _, arr, t, fz, h3, h4⟩ := H.globs g cs hg
  intro j v hv
  rw [← h4] at hv
  have hk := H.kept g h1
  rw [h3] at hk
  simp only [World.cell?, hk]
  simpa using hv

theorem run_load_one {b off : Nat} {cs v : SVal} {t : TypeId} (hc : CellsAt w b (cs.concL ρ ι)) (ha : isAggT P t = some false) (hv : cs.nth off = some v) :
    (Instr.loadAt t (.pointer (some ⟨b, off, none⟩))).run P w = .ok (v.conc ρ ι) w := by
  have h1 := hc off (v.conc ρ ι) (by rw [SVal.concL_nth, hv]; rfl)
  simp [Instr.loadAt, Instr.sureAddr, loadVar, run_isAggT w ha, h1]

theorem run_load_agg {b off z : Nat} {cs : SVal} {t : TypeId} (hc : CellsAt w b (cs.concL ρ ι)) (ha : isAggT P t = some true) (hz : sizeT P t = some z) (hl : off + z ≤ cs.len) :
    (Instr.loadAt t (.pointer (some ⟨b, off, none⟩))).run P w = .ok (.agg (((cs.dropN off).takeN z).concL ρ ι).toArray) w := by
  have hlen : (((cs.dropN off).takeN z).concL ρ ι).length = z := by
    rw [SVal.concL_takeN, SVal.concL_dropN]
    simp [SVal.concL_length]; omega
  have h1 := run_loadCells_list (P := P) w ⟨b, off, none⟩ (((cs.dropN off).takeN z).concL ρ ι) (by
    intro j v hv
    rw [addr_add]
    refine hc _ _ ?_
    rw [SVal.concL_takeN, SVal.concL_dropN] at hv
    rw [List.getElem?_take] at hv
    split at hv
    · rw [List.getElem?_drop] at hv; exact hv
    · cases hv)
  rw [hlen] at h1
  simp [Instr.loadAt, Instr.sureAddr, loadVar, run_isAggT w ha, run_sizeT w hz, h1]

theorem mem_of_lookup {g : Nat} {cs : SVal} : ∀ {G : Globs}, G.lookup g = some cs → (g, cs) ∈ G
  | [], h => by simp [List.lookup] at h
  | (k, v) :: G, h => by
    simp only [List.lookup] at h
    split at h
    · rename_i e; simp at h; subst h; simp at e; subst e; simp
    · exact List.mem_cons_of_mem _ (mem_of_lookup h)

theorem run_loadT {cx : Cx} (H : HR ρ cx.globs K w0 ι h w) {t : TypeId} {a v : SVal} {cs : List Tm} (hl : loadT cx h t a = some (v, cs)) (hc : ∀ c ∈ cs, (c.den ρ).asBool = true) :
    (Instr.loadAt t (a.conc ρ ι)).run cx.P w = .ok (v.conc ρ ι) w ∧ v.sc h.length = true := by
  unfold loadT at hl
  split at hl
  · rename_i b off
    split at hl
    · rename_i blk hb
      have hca := H.cellsAt hb
      have hsc := (H.blocks _ _ hb).2.2
      split at hl
      · rename_i z ha hz
        split at hl
        · rename_i hle
          simp only [Option.some.injEq, Prod.mk.injEq] at hl
          obtain ⟨rfl, rfl⟩ := hl
          exact ⟨run_load_agg hca ha hz (Nat.le_of_ble_eq_true hle), by simp only [SVal.sc]; exact SVal.sc_takeN _ _ (SVal.sc_dropN _ _ hsc)⟩
        · cases hl
      · rename_i ha
        simp only [Option.map_eq_some_iff, Prod.mk.injEq] at hl
        obtain ⟨u, hu, rfl, rfl⟩ := hl
        exact ⟨run_load_one hca ha hu, SVal.sc_nth _ _ _ hsc hu⟩
      · cases hl
    · cases hl
  · rename_i g off
    split at hl
    · rename_i cells hg
      have hca := H.globAt (mem_of_lookup hg)
      have hsc := (H.globs _ _ (mem_of_lookup hg)).2.1
      split at hl
      · rename_i z ha hz
        split at hl
        · rename_i hle
          simp only [Option.some.injEq, Prod.mk.injEq] at hl
          obtain ⟨rfl, rfl⟩ := hl
          exact ⟨run_load_agg hca ha hz (Nat.le_of_ble_eq_true hle), by simp only [SVal.sc]; exact SVal.sc_takeN _ _ (SVal.sc_dropN _ _ (SVal.sc_mono (Nat.zero_le _) _ hsc))⟩
        · cases hl
      · rename_i ha
        simp only [Option.map_eq_some_iff, Prod.mk.injEq] at hl
        obtain ⟨u, hu, rfl, rfl⟩ := hl
        exact ⟨run_load_one hca ha hu, SVal.sc_nth _ _ _ (SVal.sc_mono (Nat.zero_le _) _ hsc) hu⟩
      · cases hl
    · cases hl
  · rename_i b off i z
    split at hl
    · rename_i blk hb
      have hca := H.cellsAt hb
      have hsc := (H.blocks _ _ hb).2.2
      simp only at hl
      split at hl
      · rename_i ha hz
        split at hl
        · rename_i l hch
          simp only [Option.map_eq_some_iff, Prod.mk.injEq] at hl
          obtain ⟨u, hu, rfl, rfl⟩ := hl
          have h0 := hc _ (List.mem_cons_self ..)
          have h1 := hc _ (List.mem_cons_of_mem _ (List.mem_singleton.2 rfl))
          rw [mk2_den] at h0 h1
          have h0' : (0 : Int) ≤ (i.den ρ).asInt := of_decide_eq_true h0
          have h1' : (i.den ρ).asInt < (((blk.cells.len - off + z - 1) / z : Nat) : Int) := of_decide_eq_true h1
          obtain ⟨hlen, hch'⟩ := chunks_spec hch
          obtain ⟨y, hy1, hy2⟩ := selectV_conc (ρ := ρ) (ι := ι) i l 0 u hu (by simpa using h0') (by rw [hlen]; simpa using h1')
          have hp := hch' _ _ hy1
          have e0 : ((i.den ρ).asInt - ((0 : Nat) : Int)).toNat = (i.den ρ).asInt.toNat := by simp
          rw [e0] at hp
          unfold partT at hp
          rw [ha] at hp
          simp only at hp
          refine ⟨?_, selectV_sc i _ l 0 u hu (chunks_sc hch hsc)⟩
          rw [hy2]
          exact run_load_one hca ha hp
        · cases hl
      · cases hl
    · cases hl
  · cases hl

theorem run_fieldAddrT {s : TypeId} {x v : SVal} {f n : Nat} (hx : x.sc n = true) (h : fieldAddrT P s x f = some v) :
    (Instr.fieldAt s (x.conc ρ ι) f).run P w = .ok (v.conc ρ ι) w ∧ v.sc n = true := by
  unfold fieldAddrT at h
  split at h
  · rename_i fs hu
    split at h
    · rename_i fd hf
      split at h
      · rename_i z hz
        have hfp : ∀ a : Addr, (fieldPlace a fd).run P w = .ok (a.add fd.offset) w := by
          intro a; simp [fieldPlace, run_sizeT w hz]
        split at h <;> simp only [Option.some.injEq, reduceCtorEq] at h <;> subst h
        all_goals
          refine ⟨?_, by first | exact hx | simpa [SVal.sc] using hx⟩
          simp only [Instr.fieldAt, Sem.run_bind, run_underlying hu, Result.andThen_ok, hf, SVal.conc, Instr.sureAddr, Sem.run_pure, hfp, addr_add]
        rw [Nat.add_right_comm]
      · cases h
    · cases h
  · cases h

theorem run_fieldT {s : TypeId} {x v : SVal} {f n : Nat} (hx : x.sc n = true) (h : fieldT P s x f = some v) :
    (Instr.field s (x.conc ρ ι) f).run P w = .ok (v.conc ρ ι) w ∧ v.sc n = true := by
  unfold fieldT at h
  split at h
  · rename_i fs hu
    split at h
    · rename_i fd hf
      split at h
      · refine ⟨?_, partT_sc h hx⟩
        simp only [Instr.field, Sem.run_bind, run_underlying hu, Result.andThen_ok, hf, SVal.conc, asAgg, Sem.run_pure, run_partT w h]
      · cases h
    · cases h
  · cases h

theorem below?_spec {k : Int} {n j : Nat} (h : below? k n = some j) : k = j ∧ j < n := by
  unfold below? at h
  split at h
  · split at h
    · rename_i hb
      simp at h; subst h
      exact ⟨rfl, Nat.lt_of_lt_of_le (Nat.lt_of_succ_le (Nat.le_of_ble_eq_true hb)) (Nat.le_refl _)⟩
    · cases h
  · cases h

theorem lit?_spec {t : Tm} {k : Int} (h : lit? t = some k) : t = .num k := by
  cases t <;> simp [lit?] at h; subst h; rfl

theorem run_indexAddrT {t : TypeId} {x i v : SVal} {cs : List Tm} {n : Nat} (hx : x.sc n = true) (h : indexAddrT P t x i = some (v, cs)) (hc : ∀ c ∈ cs, (c.den ρ).asBool = true) :
    (Instr.indexAt t (x.conc ρ ι) (i.conc ρ ι)).run P w = .ok (v.conc ρ ι) w ∧ v.sc n = true := by
  unfold indexAddrT at h
  split at h
  · rename_i ki ti
    have two : ∀ (m : Nat), cs = [mk2 .le (.num 0) ti, mk2 .lt ti (.num m)] → (0 : Int) ≤ (ti.den ρ).asInt ∧ (ti.den ρ).asInt < m := by
      rintro m rfl
      have h0 := hc _ (List.mem_cons_self ..)
      have h1 := hc _ (List.mem_cons_of_mem _ (List.mem_singleton.2 rfl))
      rw [mk2_den] at h0 h1
      exact ⟨of_decide_eq_true h0, of_decide_eq_true h1⟩
    split at h
    · rename_i m e b off hu
      split at h
      · rename_i z hz
        split at h
        · rename_i k hk
          simp only [Option.map_eq_some_iff, Prod.mk.injEq] at h
          obtain ⟨j, hj, rfl, rfl⟩ := h
          obtain ⟨rfl, hjm⟩ := below?_spec hj
          rw [lit?_spec hk]
          refine ⟨?_, by simpa [SVal.sc] using hx⟩
          simp [Instr.indexAt, SVal.conc, asIntOf, run_underlying hu, Instr.sureAddr, run_sizeT w hz, Tm.den, hjm, addr_add]
        · simp only [Option.some.injEq, Prod.mk.injEq] at h
          obtain ⟨rfl, rfl⟩ := h
          obtain ⟨h0, h1⟩ := two m rfl
          refine ⟨?_, by simpa [SVal.sc] using hx⟩
          simp [Instr.indexAt, SVal.conc, asIntOf, run_underlying hu, Instr.sureAddr, run_sizeT w hz, h0, h1, addr_add]
      · cases h
    · rename_i m e g off hu
      split at h
      · rename_i z k hz hk
        simp only [Option.map_eq_some_iff, Prod.mk.injEq] at h
        obtain ⟨j, hj, rfl, rfl⟩ := h
        obtain ⟨rfl, hjm⟩ := below?_spec hj
        rw [lit?_spec hk]
        refine ⟨?_, by simp [SVal.sc]⟩
        simp [Instr.indexAt, SVal.conc, asIntOf, run_underlying hu, Instr.sureAddr, run_sizeT w hz, Tm.den, hjm, addr_add]
      · cases h
    · rename_i e b off m cap hu
      have hb : b < n := by
        simp only [SVal.sc, Bool.and_eq_true, decide_eq_true_eq] at hx
        exact hx.1
      split at h
      · rename_i z hz
        split at h
        · rename_i k hk
          simp only [Option.map_eq_some_iff, Prod.mk.injEq] at h
          obtain ⟨j, hj, rfl, rfl⟩ := h
          obtain ⟨rfl, hjm⟩ := below?_spec hj
          rw [lit?_spec hk]
          refine ⟨?_, by simpa [SVal.sc] using hb⟩
          simp [Instr.indexAt, SVal.conc, asIntOf, run_underlying hu, run_sizeT w hz, Tm.den, hjm, addr_add]
        · simp only [Option.some.injEq, Prod.mk.injEq] at h
          obtain ⟨rfl, rfl⟩ := h
          obtain ⟨h0, h1⟩ := two m rfl
          refine ⟨?_, by simpa [SVal.sc] using hb⟩
          simp [Instr.indexAt, SVal.conc, asIntOf, run_underlying hu, run_sizeT w hz, h0, h1, addr_add]
      · cases h
    · cases h
  · cases h

theorem run_indexT {t : TypeId} {x i v : SVal} {cs : List Tm} {n : Nat} (hx : x.sc n = true) (h : indexT P t x i = some (v, cs)) (hc : ∀ c ∈ cs, (c.den ρ).asBool = true) :
    (Instr.index t (x.conc ρ ι) (i.conc ρ ι)).run P w = .ok (v.conc ρ ι) w ∧ v.sc n = true := by
  unfold indexT at h
  split at h
  · rename_i ki ti
    split at h
    · rename_i m e l hu
      split at h
      · rename_i z hz
        split at h
        · rename_i k hk
          split at h
          · rename_i j hj
            simp only [Option.map_eq_some_iff, Prod.mk.injEq] at h
            obtain ⟨u, hu', rfl, rfl⟩ := h
            obtain ⟨rfl, hjm⟩ := below?_spec hj
            rw [lit?_spec hk]
            refine ⟨?_, partT_sc hu' hx⟩
            have := run_partT (ρ := ρ) (ι := ι) w hu'
            simp [Instr.index, SVal.conc, asIntOf, run_underlying hu, run_sizeT w hz, Tm.den, hjm, this]
          · cases h
        · split at h
          · rename_i cl hch
            simp only [Option.map_eq_some_iff, Prod.mk.injEq] at h
            obtain ⟨u, hu', rfl, rfl⟩ := h
            have h0 := hc _ (List.mem_cons_self ..)
            have h1 := hc _ (List.mem_cons_of_mem _ (List.mem_singleton.2 rfl))
            rw [mk2_den] at h0 h1
            have h0' : (0 : Int) ≤ (ti.den ρ).asInt := of_decide_eq_true h0
            have h1' : (ti.den ρ).asInt < (m : Int) := of_decide_eq_true h1
            obtain ⟨hlen, hch'⟩ := chunks_spec hch
            obtain ⟨y, hy1, hy2⟩ := selectV_conc (ρ := ρ) (ι := ι) ti cl 0 u hu' (by simpa using h0') (by rw [hlen]; simpa using h1')
            have hp := hch' _ _ hy1
            simp only [Nat.zero_add] at hp
            refine ⟨?_, selectV_sc ti _ cl 0 u hu' (chunks_sc hch hx)⟩
            have := run_partT (ρ := ρ) (ι := ι) w hp
            rw [hy2]
            simp at this
            simp [Instr.index, SVal.conc, asIntOf, run_underlying hu, run_sizeT w hz, h0', h1', this]
          · cases h
      · cases h
    · rename_i s hu
      simp only [Option.some.injEq, Prod.mk.injEq] at h
      obtain ⟨rfl, rfl⟩ := h
      have h0 := hc _ (List.mem_cons_self ..)
      have h1 := hc _ (List.mem_cons_of_mem _ (List.mem_singleton.2 rfl))
      rw [mk2_den] at h0 h1
      rw [mk1_den] at h1
      have h0' : (0 : Int) ≤ (ti.den ρ).asInt := of_decide_eq_true h0
      have h1' : (ti.den ρ).asInt < ((s.den ρ).asStr.length : Int) := of_decide_eq_true h1
      refine ⟨?_, rfl⟩
      simp only [SVal.conc, mk2_den, Op2.ev, Sc.asInt_int]
      generalize (s.den ρ).asStr = l at *
      generalize (ti.den ρ).asInt = q at *
      have hq : q.toNat < l.length := by omega
      have e : (ByteArray.mk l.toArray)[q.toNat]? = some (l.getD q.toNat 0) := by
        have hsz : q.toNat < (ByteArray.mk l.toArray).size := by simp [ByteArray.size, hq]
        rw [getElem?_pos (ByteArray.mk l.toArray) q.toNat hsz]
        congr 1
        have : l.getD q.toNat 0 = l[q.toNat] := by simp [List.getD, hq]
        rw [this]
        rfl
      simp [Instr.index, asIntOf, run_underlying hu, h0', e]
    · cases h
  · cases h

/-- OPERATIONS THAT LEAVE THE HEAP ALONE. -/
theorem run_pureOp {cx : Cx} (ok : cx.Ok) {slots : Slots} {a : Act} {pc : Tm} {o : Oper} {v : SVal} {cs : List Tm}
    (hp : pureOp cx slots h pc o = some (v, cs)) (hs : SlotsOk ρ ι h.length slots a) (H : HR ρ cx.globs K w0 ι h w) (hpc : (pc.den ρ).asBool = true) (hc : ∀ c ∈ cs, (c.den ρ).asBool = true) :
    (execOp a.eval o).run cx.P w = .ok (.value (v.conc ρ ι)) w ∧ v.sc h.length = true := by
  unfold pureOp at hp
  unfold execOp
  split at hp
  · -- move
    rename_i x ho
    simp only [Option.map_eq_some_iff, Prod.mk.injEq] at hp
    obtain ⟨u, hu, rfl, rfl⟩ := hp
    obtain ⟨h1, h2⟩ := evO_conc hs hu
    simp [ho, h1, h2]
  · rename_i x ho
    simp only [Option.map_eq_some_iff, Prod.mk.injEq] at hp
    obtain ⟨u, hu, rfl, rfl⟩ := hp
    obtain ⟨h1, h2⟩ := evO_conc hs hu
    simp [ho, h1, h2]
  · rename_i c x y ho
    split at hp
    · rename_i t ht
      have hcb := (evO_conc hs ht).1
      simp only [SVal.conc] at hcb
      split at hp
      · rename_i hd
        simp only [Option.map_eq_some_iff, Prod.mk.injEq] at hp
        obtain ⟨u, hu, rfl, rfl⟩ := hp
        obtain ⟨h1, h2⟩ := evO_conc hs hu
        simp [ho, hcb, asBool, decideT_den hpc hd, h1, h2]
      · rename_i hd
        simp only [Option.map_eq_some_iff, Prod.mk.injEq] at hp
        obtain ⟨u, hu, rfl, rfl⟩ := hp
        obtain ⟨h1, h2⟩ := evO_conc hs hu
        simp [ho, hcb, asBool, decideT_den hpc hd, h1, h2]
      · split at hp
        · rename_i u v' hu hv
          simp only [Option.map_eq_some_iff, Prod.mk.injEq] at hp
          obtain ⟨m, hm, rfl, rfl⟩ := hp
          obtain ⟨h1, h2⟩ := evO_conc hs hu
          obtain ⟨h3, h4⟩ := evO_conc hs hv
          obtain ⟨k1, _, k3⟩ := mergeV_conc (ρ := ρ) (ι := ι) t h.length _ _ _ hm
          refine ⟨?_, k3 h2 h4⟩
          simp only [ho, hcb, asBool, Sem.run_bind, Sem.run_pure, Result.andThen_ok, h1, h3, k1]
          cases (t.den ρ).asBool <;> rfl
        · cases hp
    · cases hp
  · rename_i t parts ho
    split at hp
    · rename_i ps hps
      simp only [Option.map_eq_some_iff, Prod.mk.injEq] at hp
      obtain ⟨u, hu, rfl, rfl⟩ := hp
      obtain ⟨h1, h2⟩ := evParts_conc hs hps
      obtain ⟨k1, k2⟩ := run_buildT (ρ := ρ) (ι := ι) w hu
      have e : (parts.map fun (x : Nat × Operand) => (x.1, a.eval x.2)) = (ps.map fun p => (p.1, p.2.conc ρ ι)).toArray := by
        apply Array.ext'
        simp [h1]
      refine ⟨?_, k2 _ h2⟩
      simp only [ho, Sem.run_bind]
      rw [show (parts.map fun x => match x with | (i, x) => (i, a.eval x)) = (parts.map fun (x : Nat × Operand) => (x.1, a.eval x.2)) from rfl, e, k1]
      rfl
    · cases hp
  · rename_i t x ho
    split at hp
    · rename_i p hx
      obtain ⟨h1, h2⟩ := evO_conc hs hx
      obtain ⟨k1, k2⟩ := run_loadT H hp hc
      exact ⟨by simp [ho, h1, k1], k2⟩
    · cases hp
  · rename_i x ho
    split at hp
    · rename_i b off hx
      obtain ⟨h1, h2⟩ := evO_conc hs hx
      simp only [Option.some.injEq, Prod.mk.injEq] at hp
      obtain ⟨rfl, rfl⟩ := hp
      simp only [SVal.conc] at h1
      exact ⟨by simp [ho, h1, SVal.conc], h2⟩
    · rename_i b off hx
      obtain ⟨h1, h2⟩ := evO_conc hs hx
      simp only [Option.some.injEq, Prod.mk.injEq] at hp
      obtain ⟨rfl, rfl⟩ := hp
      simp only [SVal.conc] at h1
      exact ⟨by simp [ho, h1, SVal.conc], h2⟩
    · rename_i f x y hx
      obtain ⟨h1, h2⟩ := evO_conc hs hx
      simp only [Option.some.injEq, Prod.mk.injEq] at hp
      obtain ⟨rfl, rfl⟩ := hp
      simp only [SVal.conc] at h1
      exact ⟨by simp [ho, h1, SVal.conc], h2⟩
    · cases hp
  · rename_i op t x y ty ho
    split at hp
    · rename_i u v' hu hv
      obtain ⟨h1, h2⟩ := evO_conc hs hu
      obtain ⟨h3, h4⟩ := evO_conc hs hv
      obtain ⟨k1, k2⟩ := run_binT (ρ := ρ) (ι := ι) w ok (X := x) (Y := y) hp hc
      refine ⟨?_, k2 _⟩
      simp only [ho, h1, h3]
      have e : (do eqGuard op t x y (SVal.conc ρ ι u) (SVal.conc ρ ι v'); binOp op t (SVal.conc ρ ι u) (SVal.conc ρ ι v') : Sem Value) = (eqGuard op t x y (SVal.conc ρ ι u) (SVal.conc ρ ι v')).bind fun _ => binOp op t (SVal.conc ρ ι u) (SVal.conc ρ ι v') := rfl
      rw [e, Sem.run_bind, k1]
      rfl
    · cases hp
  · rename_i op t x ho
    split at hp
    · rename_i u hu
      simp only [Option.map_eq_some_iff, Prod.mk.injEq] at hp
      obtain ⟨m, hm, rfl, rfl⟩ := hp
      obtain ⟨h1, h2⟩ := evO_conc hs hu
      obtain ⟨k1, k2⟩ := run_unT (ρ := ρ) (ι := ι) (P := cx.P) w hm
      exact ⟨by simp [ho, h1, k1], k2 _⟩
    · cases hp
  · rename_i s d x ho
    split at hp
    · rename_i u hu
      simp only [Option.map_eq_some_iff, Prod.mk.injEq] at hp
      obtain ⟨m, hm, rfl, rfl⟩ := hp
      obtain ⟨h1, h2⟩ := evO_conc hs hu
      obtain ⟨k1, k2⟩ := run_convT (ρ := ρ) (ι := ι) (P := cx.P) w hm
      exact ⟨by simp [ho, h1, k1], k2 _⟩
    · cases hp
  · rename_i fn first captured ho
    split at hp
    · rename_i x y hx hy
      simp only [Option.some.injEq, Prod.mk.injEq] at hp
      obtain ⟨rfl, rfl⟩ := hp
      obtain ⟨h1, h2⟩ := evs_conc hs hx
      obtain ⟨h3, h4⟩ := evs_conc hs hy
      refine ⟨?_, by simp [SVal.sc, SVal.sc_ofList _ h2, SVal.sc_ofList _ h4]⟩
      have e1 : first.map a.eval = (x.map (·.conc ρ ι)).toArray := by apply Array.ext'; simp [h1]
      have e2 : captured.map a.eval = (y.map (·.conc ρ ι)).toArray := by apply Array.ext'; simp [h3]
      simp [ho, Instr.makeFunc, SVal.conc, SVal.concL_ofList, e1, e2]
    · cases hp
  · rename_i s x f ho
    split at hp
    · rename_i u hu
      simp only [Option.map_eq_some_iff, Prod.mk.injEq] at hp
      obtain ⟨m, hm, rfl, rfl⟩ := hp
      obtain ⟨h1, h2⟩ := evO_conc hs hu
      obtain ⟨k1, k2⟩ := run_fieldAddrT (ρ := ρ) (ι := ι) (w := w) h2 hm
      exact ⟨by simp [ho, h1, k1], k2⟩
    · cases hp
  · rename_i s x f ho
    split at hp
    · rename_i u hu
      simp only [Option.map_eq_some_iff, Prod.mk.injEq] at hp
      obtain ⟨m, hm, rfl, rfl⟩ := hp
      obtain ⟨h1, h2⟩ := evO_conc hs hu
      obtain ⟨k1, k2⟩ := run_fieldT (ρ := ρ) (ι := ι) (w := w) h2 hm
      exact ⟨by simp [ho, h1, k1], k2⟩
    · cases hp
  · rename_i t x i ho
    split at hp
    · rename_i u v' hu hv
      obtain ⟨h1, h2⟩ := evO_conc hs hu
      obtain ⟨h3, h4⟩ := evO_conc hs hv
      obtain ⟨k1, k2⟩ := run_indexAddrT (ρ := ρ) (ι := ι) (w := w) h2 hp hc
      exact ⟨by simp [ho, h1, h3, k1], k2⟩
    · cases hp
  · rename_i t x i ho
    split at hp
    · rename_i u v' hu hv
      obtain ⟨h1, h2⟩ := evO_conc hs hu
      obtain ⟨h3, h4⟩ := evO_conc hs hv
      obtain ⟨k1, k2⟩ := run_indexT (ρ := ρ) (ι := ι) (w := w) h2 hp hc
      exact ⟨by simp [ho, h1, h3, k1], k2⟩
    · cases hp
  · rename_i x i ho
    split at hp
    · rename_i l hu
      simp only [Option.map_eq_some_iff, Prod.mk.injEq] at hp
      obtain ⟨m, hm, rfl, rfl⟩ := hp
      obtain ⟨h1, h2⟩ := evO_conc hs hu
      simp only [SVal.conc] at h1
      have := SVal.concL_nth ρ ι l i
      rw [hm] at this
      exact ⟨by simp [ho, h1, Instr.extract, this], SVal.sc_nth l _ _ (by simpa only [SVal.sc] using h2) hm⟩
    · cases hp
  · rename_i c ho
    split at hp
    · rename_i hcal
      split at hp
      · rename_i x t hx ht
        split at hp
        · rename_i u hu
          simp only [Option.map_eq_some_iff, Prod.mk.injEq] at hp
          obtain ⟨m, hm, rfl, rfl⟩ := hp
          obtain ⟨h1, h2⟩ := evO_conc hs hu
          obtain ⟨k1, k2⟩ := run_lenT (ρ := ρ) (ι := ι) (P := cx.P) w o.type hm
          have e1 : c.args = #[x] := by apply Array.ext'; simpa using hx
          have e2 : c.argTypes = #[t] := by apply Array.ext'; simpa using ht
          refine ⟨?_, k2 _⟩
          simp only [ho, resolve, hcal, e1, e2]
          simp [invoke, builtin, h1, k1]
        · cases hp
      · cases hp
    · cases hp
  · cases hp

end
end Go.Sx
