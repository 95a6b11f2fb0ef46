/- The executor is right: values and operations that leave the heap alone. -/
import Derived.Test.YtnpfihlaocpcfaaGreatDoorSxExec
import Derived.Laws.StructEq
import Derived.ChangeKeysEq
import Derived.Defers
import Derived.Lib.Builder
namespace Go.Sx
noncomputable section

section
variable {ρ : Env} {ι : Nm} {P : Program}

theorem ofCell_conc {v : Value} {s : SVal} (h : ofCell v = some s) : s.conc ρ ι = v ∧ s.sc 0 = true := by
  unfold ofCell at h
  split at h <;> simp at h <;> subst h <;> simp [SVal.conc, SVal.sc, Tm.den]

theorem ofCells_conc : ∀ {l : List Value} {s : SVal}, ofCells l = some s → s.concL ρ ι = l ∧ s.sc 0 = true
  | [], s, h => by simp [ofCells] at h; subst h; simp [SVal.concL, SVal.sc]
  | v :: r, s, h => by
    unfold ofCells at h
    split at h
    · rename_i a l ha hl
      simp at h; subst h
      have h1 := ofCell_conc (ρ := ρ) (ι := ι) ha
      have h2 := ofCells_conc hl
      simp [SVal.concL, SVal.sc, h1, h2]
    · cases h

theorem ofValue_conc {v : Value} {s : SVal} (h : ofValue v = some s) : s.conc ρ ι = v ∧ s.sc 0 = true := by
  unfold ofValue at h
  split at h
  · simp only [Option.map_eq_some_iff] at h
    obtain ⟨l, hl, rfl⟩ := h
    have := ofCells_conc (ρ := ρ) (ι := ι) hl
    simp [SVal.conc, SVal.sc, this]
  · simp only [Option.map_eq_some_iff] at h
    obtain ⟨l, hl, rfl⟩ := h
    have := ofCells_conc (ρ := ρ) (ι := ι) hl
    simp [SVal.conc, SVal.sc, this]
  · exact ofCell_conc h

/-- The slots are such. -/
def SlotsOk (ρ : Env) (ι : Nm) (n : Nat) (s : Slots) (a : Act) : Prop := ∀ i v, s.get i = some v → a.tmps[i]? = some (v.conc ρ ι) ∧ v.sc n = true

theorem evO_conc {n : Nat} {s : Slots} {a : Act} (H : SlotsOk ρ ι n s a) {x : Operand} {v : SVal} (h : evO s x = some v) : a.eval x = v.conc ρ ι ∧ v.sc n = true := by
  cases x with
  | tmp t =>
    obtain ⟨h1, h2⟩ := H t v h
    refine ⟨?_, h2⟩
    simp only [Act.eval, Array.getD_eq_getD_getElem?, h1, Option.getD_some]
  | const c =>
    obtain ⟨h1, h2⟩ := ofValue_conc (ρ := ρ) (ι := ι) h
    exact ⟨by simp [Act.eval, h1], SVal.sc_mono (Nat.zero_le _) _ h2⟩
  | global g => simp [evO] at h; subst h; simp [Act.eval, SVal.conc, SVal.sc]
  | func f => simp [evO] at h; subst h; simp [Act.eval, SVal.conc, SVal.sc, SVal.concL]

theorem evs_conc {n : Nat} {s : Slots} {a : Act} (H : SlotsOk ρ ι n s a) : ∀ {xs : List Operand} {vs : List SVal}, evs s xs = some vs → xs.map a.eval = vs.map (·.conc ρ ι) ∧ ∀ v ∈ vs, v.sc n = true
  | [], vs, h => by simp [evs] at h; subst h; simp
  | x :: xs, vs, h => by
    unfold evs at h
    split at h
    · rename_i v l hv hl
      simp at h; subst h
      obtain ⟨h1, h2⟩ := evO_conc H hv
      obtain ⟨h3, h4⟩ := evs_conc H hl
      refine ⟨by simp [h1, h3], ?_⟩
      intro u hu
      rcases List.mem_cons.1 hu with rfl | hu
      · exact h2
      · exact h4 u hu
    · cases h

theorem evParts_conc {n : Nat} {s : Slots} {a : Act} (H : SlotsOk ρ ι n s a) : ∀ {xs : List (Nat × Operand)} {vs : List (Nat × SVal)}, evParts s xs = some vs →
    xs.map (fun p => (p.1, a.eval p.2)) = vs.map (fun p => (p.1, p.2.conc ρ ι)) ∧ ∀ p ∈ vs, p.2.sc n = true
  | [], vs, h => by simp [evParts] at h; subst h; simp
  | (i, x) :: xs, vs, h => by
    unfold evParts at h
    split at h
    · rename_i v l hv hl
      simp at h; subst h
      obtain ⟨h1, h2⟩ := evO_conc H hv
      obtain ⟨h3, h4⟩ := evParts_conc H hl
      refine ⟨by simp [h1, h3], ?_⟩
      intro u hu
      rcases List.mem_cons.1 hu with rfl | hu
      · exact h2
      · exact h4 u hu
    · cases h

theorem mergeV_conc (c : Tm) (n : Nat) : ∀ (a b v : SVal), mergeV c a b = some v →
    (v.conc ρ ι = match (c.den ρ).asBool with | true => a.conc ρ ι | false => b.conc ρ ι) ∧
    (v.concL ρ ι = match (c.den ρ).asBool with | true => a.concL ρ ι | false => b.concL ρ ι) ∧
    (a.sc n = true → b.sc n = true → v.sc n = true) := by
  intro a
  have fin : ∀ (x y : SVal), ∀ b v : SVal, (if x = b then some x else none) = some v → x = b ∧ v = x := by
    intro x y b v h
    split at h
    · rename_i e; simp at h; exact ⟨e, h.symm⟩
    · cases h
  have eq : ∀ (x b v : SVal), x = b ∧ v = x → (v.conc ρ ι = match (c.den ρ).asBool with | true => x.conc ρ ι | false => b.conc ρ ι) ∧
      (v.concL ρ ι = match (c.den ρ).asBool with | true => x.concL ρ ι | false => b.concL ρ ι) ∧ (x.sc n = true → b.sc n = true → v.sc n = true) := by
    rintro x b v ⟨rfl, rfl⟩
    refine ⟨?_, ?_, fun h _ => h⟩ <;> cases (c.den ρ).asBool <;> rfl
  induction a with
  | int k a =>
    intro b v h
    cases b with
    | int k' b =>
      simp only [mergeV] at h
      split at h
      · rename_i ek; subst ek; simp at h; subst h
        refine ⟨?_, ?_, fun _ _ => rfl⟩
        · simp only [SVal.conc, mkIte_den]; cases (c.den ρ).asBool <;> rfl
        · simp only [SVal.concL]; cases (c.den ρ).asBool <;> rfl
      · cases h
    | _ => exact eq _ _ _ (fin _ .nil _ _ (by simpa only [mergeV] using h))
  | bool a =>
    intro b v h
    cases b with
    | bool b =>
      simp only [mergeV, Option.some.injEq] at h
      subst h
      refine ⟨?_, ?_, fun _ _ => rfl⟩
      · simp only [SVal.conc, mkIteB_den]; cases (c.den ρ).asBool <;> rfl
      · simp only [SVal.concL]; cases (c.den ρ).asBool <;> rfl
    | _ => exact eq _ _ _ (fin _ .nil _ _ (by simpa only [mergeV] using h))
  | str a =>
    intro b v h
    cases b with
    | str b =>
      simp only [mergeV, Option.some.injEq] at h
      subst h
      refine ⟨?_, ?_, fun _ _ => rfl⟩
      · simp only [SVal.conc, mkIte_den]; cases (c.den ρ).asBool <;> rfl
      · simp only [SVal.concL]; cases (c.den ρ).asBool <;> rfl
    | _ => exact eq _ _ _ (fin _ .nil _ _ (by simpa only [mergeV] using h))
  | agg a ih =>
    intro b v h
    cases b with
    | agg b =>
      simp only [mergeV, Option.map_eq_some_iff] at h
      obtain ⟨l, hl, rfl⟩ := h
      obtain ⟨h1, h2, h3⟩ := ih b l hl
      refine ⟨?_, ?_, fun ha hb => h3 ha hb⟩
      · simp only [SVal.conc, h2]; cases (c.den ρ).asBool <;> rfl
      · simp only [SVal.concL]; cases (c.den ρ).asBool <;> rfl
    | _ => exact eq _ _ _ (fin _ .nil _ _ (by simpa only [mergeV] using h))
  | tup a ih =>
    intro b v h
    cases b with
    | tup b =>
      simp only [mergeV, Option.map_eq_some_iff] at h
      obtain ⟨l, hl, rfl⟩ := h
      obtain ⟨h1, h2, h3⟩ := ih b l hl
      refine ⟨?_, ?_, fun ha hb => h3 ha hb⟩
      · simp only [SVal.conc, h2]; cases (c.den ρ).asBool <;> rfl
      · simp only [SVal.concL]; cases (c.den ρ).asBool <;> rfl
    | _ => exact eq _ _ _ (fin _ .nil _ _ (by simpa only [mergeV] using h))
  | cons a r iha ihr =>
    intro b v h
    cases b with
    | cons b s =>
      simp only [mergeV] at h
      split at h
      · rename_i x y hx hy
        simp at h; subst h
        obtain ⟨h1, h2, h3⟩ := iha b x hx
        obtain ⟨k1, k2, k3⟩ := ihr s y hy
        refine ⟨?_, ?_, fun ha hb => ?_⟩
        · simp only [SVal.conc]; cases (c.den ρ).asBool <;> rfl
        · simp only [SVal.concL, h1, k2]; cases (c.den ρ).asBool <;> rfl
        · simp only [SVal.sc, Bool.and_eq_true] at ha hb ⊢
          exact ⟨h3 ha.1 hb.1, k3 ha.2 hb.2⟩
      · cases h
    | _ => exact eq _ _ _ (fin _ .nil _ _ (by simpa only [mergeV] using h))
  | _ =>
    intro b v h
    exact eq _ _ _ (fin _ .nil _ _ (by simpa only [mergeV] using h))

theorem selectV_sc (i : Tm) (n : Nat) : ∀ (l : List SVal) (j : Nat) (v : SVal), selectV i j l = some v → (∀ u ∈ l, u.sc n = true) → v.sc n = true
  | [], j, v, h, _ => by simp [selectV] at h
  | [u], j, v, h, hu => by simp [selectV] at h; subst h; exact hu u (by simp)
  | u :: u' :: r, j, v, h, hu => by
    simp only [selectV] at h
    split at h
    · rename_i x hx
      exact (mergeV_conc (ρ := ⟨fun _ => .int 0, fun _ _ => .int 0, fun _ => undef, Abs.no⟩) (ι := ⟨id, id, fun _ => ⟨.int .i64 0, rfl⟩, fun _ _ => False⟩) _ n _ _ _ h).2.2 (hu u (by simp)) (selectV_sc i n (u' :: r) (j + 1) x hx (fun z hz => hu z (List.mem_cons_of_mem _ hz)))
    · cases h

/-- The value at a place that a term tells. -/
theorem selectV_conc (i : Tm) : ∀ (l : List SVal) (j : Nat) (v : SVal), selectV i j l = some v →
    (j : Int) ≤ (i.den ρ).asInt → (i.den ρ).asInt < j + l.length →
    ∃ u, l[((i.den ρ).asInt - j).toNat]? = some u ∧ v.conc ρ ι = u.conc ρ ι
  | [], j, v, h, _, _ => by simp [selectV] at h
  | [u], j, v, h, h1, h2 => by
    simp [selectV] at h; subst h
    simp at h2
    have : (i.den ρ).asInt = j := by omega
    exact ⟨u, by simp [this], rfl⟩
  | u :: u' :: r, j, v, h, h1, h2 => by
    simp only [selectV] at h
    split at h
    · rename_i x hx
      have k1 := (mergeV_conc (ρ := ρ) (ι := ι) _ 0 _ _ _ h).1
      simp only [mk2_den, Op2.ev, Tm.den, Sc.asBool_bool, Sc.asInt_int] at k1
      by_cases he : (i.den ρ).asInt = j
      · refine ⟨u, by simp [he], ?_⟩
        rw [k1, he]; simp
      · obtain ⟨y, hy1, hy2⟩ := selectV_conc i (u' :: r) (j + 1) x hx (by omega) (by simp at h2 ⊢; omega)
        refine ⟨y, ?_, ?_⟩
        · rw [← hy1]
          have : ((i.den ρ).asInt - j).toNat = ((i.den ρ).asInt - ((j + 1 : Nat) : Int)).toNat + 1 := by omega
          rw [this]; simp
        · have hb : ((i.den ρ).asInt == (j : Int)) = false := by simpa using he
          rw [k1, hb]; exact hy2
    · cases h

end
end
end Go.Sx

/- The executor is right: types, parts, comparing, arithmetic. -/
namespace Go.Sx
noncomputable section

section
variable {ρ : Env} {ι : Nm} {P : Program} (w : World)

theorem run_isAggT {t : TypeId} {b : Bool} (h : isAggT P t = some b) : (isAgg t).run P w = .ok b w := by
  unfold isAggT at h
  split at h
  · rename_i hu; simp at h; subst h; simp [isAgg, run_underlying hu]
  · rename_i hu; simp at h; subst h; simp [isAgg, run_underlying hu]
  · rename_i d h1 h2 hu
    simp at h; subst h
    simp only [isAgg, Sem.run_bind, run_underlying hu, Result.andThen_ok]
    cases d <;> simp_all
  · cases h

theorem run_typeInfoT {t : TypeId} {i : TypeInfo} (h : P.info? t = some i) : (typeInfo t).run P w = .ok i w := by
  simp [typeInfo, h]

theorem run_sizeT {t : TypeId} {z : Nat} (h : sizeT P t = some z) : (sizeOf t).run P w = .ok z w := by
  unfold sizeT at h
  simp only [Option.map_eq_some_iff] at h
  obtain ⟨i, hi, rfl⟩ := h
  simp [sizeOf, run_typeInfoT w hi]

theorem concL_extract (cs : SVal) (off z : Nat) : (cs.concL ρ ι).toArray.extract off (off + z) = (((cs.dropN off).takeN z).concL ρ ι).toArray := by
  rw [SVal.concL_takeN, SVal.concL_dropN]
  apply Array.ext'
  simp [List.extract_eq_take_drop]

theorem run_partT {t : TypeId} {cs : SVal} {off : Nat} {v : SVal} (h : partT P t cs off = some v) : (part t (cs.concL ρ ι).toArray off).run P w = .ok (v.conc ρ ι) w := by
  unfold partT at h
  split at h
  · rename_i ha
    split at h
    · rename_i z hz
      simp at h; subst h
      simp only [part, Sem.run_bind, run_isAggT w ha, Result.andThen_ok, if_true, run_sizeT w hz, Sem.run_pure, SVal.conc]
      rw [concL_extract]
    · cases h
  · rename_i ha
    have := SVal.concL_nth ρ ι cs off
    rw [h] at this
    simp [part, run_isAggT w ha, this]
  · cases h

theorem partT_sc {t : TypeId} {cs : SVal} {off n : Nat} {v : SVal} (h : partT P t cs off = some v) (hs : cs.sc n = true) : v.sc n = true := by
  unfold partT at h
  split at h
  · split at h
    · simp at h; subst h; simp only [SVal.sc]; exact SVal.sc_takeN _ _ (SVal.sc_dropN _ _ hs)
    · cases h
  · exact SVal.sc_nth _ _ _ hs h
  · cases h

theorem chunks_spec {t : TypeId} {cs : SVal} {z : Nat} : ∀ {m off : Nat} {l : List SVal}, chunks P t cs off z m = some l → l.length = m ∧ ∀ j u, l[j]? = some u → partT P t cs (off + j * z) = some u
  | 0, off, l, h => by simp [chunks] at h; subst h; simp
  | m + 1, off, l, h => by
    unfold chunks at h
    split at h
    · rename_i v r hv hr
      simp at h; subst h
      obtain ⟨h1, h2⟩ := chunks_spec hr
      refine ⟨by simp [h1], ?_⟩
      intro j u hu
      cases j with
      | zero => simp at hu; subst hu; simpa using hv
      | succ j => 
        have := h2 j u (by simpa using hu)
        rw [← this]; congr 1; rw [Nat.succ_mul]; omega
    · cases h

theorem chunks_sc {t : TypeId} {cs : SVal} {z m off n : Nat} {l : List SVal} (h : chunks P t cs off z m = some l) (hs : cs.sc n = true) : ∀ u ∈ l, u.sc n = true := by
  intro u hu
  obtain ⟨j, hj, rfl⟩ := List.getElem_of_mem hu
  exact partT_sc ((chunks_spec h).2 j _ (List.getElem?_eq_getElem hj)) hs

structure Cx.Ok (cx : Cx) : Prop where
  okT : ∀ t ∈ cx.okT, cx.P.stoodInHeld t = false ∧ cx.P.eqGuardType cx.P.depth t = false
  names : ∀ (f : Nat) (fn : Func), cx.P.funcs[f]? = some fn → (fn.name == "runtime.NumGoroutine") = false
  mixed : cx.P.follows .mixedOrders = true
  idx : ∀ g ∈ cx.idx, ∀ (s : List UInt8) (k : Nat), k < 256 → ∀ w : World, (callFunc g #[.string ⟨s.toArray⟩, .int .u8 (k : Int)]).run cx.P w = .ok (.value (.int .i64 (idxF k 0 s))) w := by intro g hg; cases hg
  same : ∀ g ∈ cx.same, ∀ (v : Value) (w : World), (callFunc g #[v]).run cx.P w = .ok (.value v) w := by intro g hg; cases hg
  quiet : ∀ f ∈ cx.quiet, (∃ fn c, cx.P.funcs[f]? = some fn ∧ fn.body = some c) ∧ ∀ (args : Array Value) (w : World), CallsD cx.P f args .returning w fun e u' w' => (∃ v, e = .returned v) ∧ u' = .returning ∧ w' = w := by intro f hf; cases hf

theorem run_eqFieldsT {cx : Cx} {D : Nat} {rec : TypeId → SVal → SVal → Option Tm}
    (hrec : ∀ t x y c, rec t x y = some c → (Op.equalIn D t (x.conc ρ ι) (y.conc ρ ι)).run cx.P w = .ok (c.den ρ).asBool w) (xs ys : SVal) :
    ∀ {fs : List Field} {c : Tm}, eqFieldsT cx.P rec xs ys fs = some c → (Op.eqFields D (xs.concL ρ ι).toArray (ys.concL ρ ι).toArray fs).run cx.P w = .ok (c.den ρ).asBool w
  | [], c, h => by simp [eqFieldsT] at h; subst h; simp [Op.eqFields, Tm.den]
  | f :: fs, c, h => by
    unfold eqFieldsT at h
    split at h
    · rename_i hn
      simp only [decide_eq_true_eq] at hn
      simp only [Op.eqFields, hn, ne_eq, not_true_eq_false, if_false]
      exact run_eqFieldsT hrec xs ys h
    · rename_i hn
      simp only [decide_eq_false_iff_not] at hn
      split at h
      · rename_i a b ha hb
        split at h
        · rename_i c1 c2 hc1 hc2
          simp at h; subst h
          have h1 := hrec _ _ _ _ hc1
          have h2 := run_eqFieldsT hrec xs ys hc2
          simp only [Op.eqFields, ne_eq, hn, not_false_eq_true, if_true, Sem.run_bind, run_partT w ha, run_partT w hb, Result.andThen_ok, h1, Sem.run_ite, Sem.run_pure, mkAnd_den]
          cases (c1.den ρ).asBool
          · simp
          · simp [h2]
        · cases h
      · cases h

theorem run_eqItemsT {cx : Cx} {D : Nat} {rec : TypeId → SVal → SVal → Option Tm} {e : TypeId} {z : Nat}
    (hrec : ∀ t x y c, rec t x y = some c → (Op.equalIn D t (x.conc ρ ι) (y.conc ρ ι)).run cx.P w = .ok (c.den ρ).asBool w) (xs ys : SVal) :
    ∀ {is : List Nat} {c : Tm}, eqItemsT cx.P rec e z xs ys is = some c → (Op.eqItems D e z (xs.concL ρ ι).toArray (ys.concL ρ ι).toArray is).run cx.P w = .ok (c.den ρ).asBool w
  | [], c, h => by simp [eqItemsT] at h; subst h; simp [Op.eqItems, Tm.den]
  | i :: is, c, h => by
    unfold eqItemsT at h
    split at h
    · rename_i a b ha hb
      split at h
      · rename_i c1 c2 hc1 hc2
        simp at h; subst h
        have h1 := hrec _ _ _ _ hc1
        have h2 := run_eqItemsT hrec xs ys hc2
        simp only [Op.eqItems, Sem.run_bind, run_partT w ha, run_partT w hb, Result.andThen_ok, h1, Sem.run_ite, Sem.run_pure, mkAnd_den]
        cases (c1.den ρ).asBool
        · simp
        · simp [h2]
      · cases h
    · cases h

theorem run_eqT {cx : Cx} (ok : cx.Ok) : ∀ (d D : Nat) {t : TypeId} {x y : SVal} {c : Tm}, d ≤ D → eqT cx d t x y = some c →
    (Op.equalIn D t (x.conc ρ ι) (y.conc ρ ι)).run cx.P w = .ok (c.den ρ).asBool w
  | 0, D, t, x, y, c, _, h => by simp [eqT] at h
  | d + 1, 0, t, x, y, c, hD, h => by omega
  | d + 1, D + 1, t, x, y, c, hD, h => by
    unfold eqT at h
    split at h
    · rename_i hu; simp at h; subst h
      simp [SVal.conc, Op.equalIn, run_underlying hu, mk2_den, Op2.ev]
    · rename_i hu
      split at h
      · rename_i hk; subst hk; simp at h; subst h
        simp [SVal.conc, Op.equalIn, run_underlying hu, mk2_den, Op2.ev]
      · cases h
    · rename_i hu; simp at h; subst h
      simp [SVal.conc, run_equalIn_string w D t _ _ hu, mk2_den, Op2.ev, ByteArray.toList_eq]
    · rename_i fs _ _ hu
      split at h
      · rename_i ht
        have hok := ok.okT t (by simpa using ht)
        have hfs : cx.P.fieldsOf t = fs := by simp [Program.fieldsOf, hu]
        simp only [SVal.conc]
        rw [run_equalIn_agg w D t _ _ (by rw [hfs]; exact hu) hok.1, hfs]
        exact run_eqFieldsT w (fun t x y c hc => run_eqT ok d D (by omega) hc) _ _ h
      · cases h
    · rename_i n e _ _ hu
      split at h
      · rename_i z ht hz
        unfold sizeT at hz
        cases hi : cx.P.info? e with
        | none => rw [hi] at hz; cases hz
        | some i =>
          rw [hi] at hz
          simp at hz
          have hcz : cx.P.cellsOf e = z := by simp [Program.cellsOf, hi, hz]
          simp only [SVal.conc]
          rw [run_equalIn_array w D _ _ hu hi, hcz]
          exact run_eqItemsT w (fun t x y c hc => run_eqT ok d D (by omega) hc) _ _ h
      · cases h
    all_goals first
      | (rename_i hu; simp at h; subst h; simp [SVal.conc, Op.equalIn, run_underlying hu, Tm.den]; done)
      | (rename_i e b o b' o' hu
         split at h
         · rename_i j hj hc
           simp only [Bool.and_eq_true] at hc
           have h1 := Nat.eq_of_beq_eq_true hc.1
           have h2 := Nat.eq_of_beq_eq_true hc.2
           subst h1; subst h2
           simp only [Option.some.injEq] at h
           subst h
           simp [SVal.conc, Op.equalIn, run_underlying hu, sizeOf, typeInfo, hj, run_sameAddr_same, Tm.den]
         · cases h)
      | cases h

end
end
end Go.Sx

/- The executor is right: operations that leave the heap alone. -/
namespace Go.Sx
noncomputable section

section
variable {ρ : Env} {ι : Nm} {P : Program} (w : World)

theorem asBool_of_mem {cs : List Tm} {c : Tm} (h : ∀ c ∈ cs, (c.den ρ).asBool = true) (hc : c ∈ cs) : (c.den ρ).asBool = true := h c hc

theorem reV_conc (ρ : Env) (ι : Nm) (v : SVal) : (reV v).conc ρ ι = v.conc ρ ι ∧ ∀ n, (reV v).sc n = v.sc n := by
  unfold reV
  split
  · exact ⟨by simp only [SVal.conc, reT_den], fun _ => rfl⟩
  · exact ⟨rfl, fun _ => rfl⟩

theorem run_intOpT {cx : Cx} {op : BinOp} {k : IntKind} {a b : Tm} {v : SVal} {cs : List Tm} (t : TypeId) (h : intOpT op k a b = some (v, cs)) (hc : ∀ c ∈ cs, (c.den ρ).asBool = true) :
    (binOp op t (.int k (a.den ρ).asInt) (.int k (b.den ρ).asInt)).run cx.P w = .ok (v.conc ρ ι) w ∧ ∀ n, v.sc n = true := by
  unfold intOpT at h
  split at h <;> simp only [Option.some.injEq, Prod.mk.injEq, reduceCtorEq] at h
  case h_4 =>
    obtain ⟨rfl, rfl⟩ := h
    have h0 := hc _ (List.mem_singleton.2 rfl)
    simp only [mkNot_den, mk2_den, Op2.ev, Tm.den, Sc.asBool_bool, Sc.asInt_int, Bool.not_eq_true', beq_eq_false_iff_ne, ne_eq] at h0
    exact ⟨by simp [binOp, Op.intDiv, h0, SVal.conc, mk2_den, Op2.ev], fun n => rfl⟩
  case h_5 =>
    obtain ⟨rfl, rfl⟩ := h
    have h0 := hc _ (List.mem_singleton.2 rfl)
    simp only [mkNot_den, mk2_den, Op2.ev, Tm.den, Sc.asBool_bool, Sc.asInt_int, Bool.not_eq_true', beq_eq_false_iff_ne, ne_eq] at h0
    exact ⟨by simp [binOp, Op.intDiv, h0, SVal.conc, mk2_den, Op2.ev], fun n => rfl⟩
  all_goals
    obtain ⟨rfl, rfl⟩ := h
    refine ⟨?_, fun n => rfl⟩
    first
      | (simp [binOp, Op.intArith, SVal.conc, mk2_den, Op2.ev]; done)
      | (simp [binOp, Op.intBits, SVal.conc, mk2_den, Op2.ev, bitsOp]; done)
      | (simp [binOp, Op.intCmp, SVal.conc, mk2_den, Op2.ev, mkNot_den]; done)
      | (simp [binOp, Op.intCmp, SVal.conc, mk2_den, Op2.ev, mkNot_den]; rfl)

theorem run_strOpT {cx : Cx} {op : BinOp} {a b : Tm} {v : SVal} {cs : List Tm} (t : TypeId) (h : strOpT op a b = some (v, cs)) (hc : ∀ c ∈ cs, (c.den ρ).asBool = true) :
    (binOp op t (.string ⟨(a.den ρ).asStr.toArray⟩) (.string ⟨(b.den ρ).asStr.toArray⟩)).run cx.P w = .ok (v.conc ρ ι) w ∧ ∀ n, v.sc n = true := by
  unfold strOpT at h
  split at h <;> simp only [Option.some.injEq, Prod.mk.injEq, reduceCtorEq] at h
  case h_1 =>
    obtain ⟨rfl, rfl⟩ := h
    have h0 := hc _ (List.mem_singleton.2 rfl)
    simp only [mk2_den, mk1_den, Op2.ev, Op1.ev, Tm.den, Sc.asBool_bool, Sc.asInt_int, Sc.asStr_str, decide_eq_true_eq, List.length_append] at h0
    refine ⟨?_, fun n => rfl⟩
    have hs : ∀ l : List UInt8, (ByteArray.mk l.toArray).size = l.length := fun l => by simp [ByteArray.size]
    have h1 : ¬ (((a.den ρ).asStr.length + (b.den ρ).asStr.length : Nat) : Int) > IntKind.i64.max := by
      simp [IntKind.max, IntKind.signed, IntKind.bits]; omega
    simp only [binOp, Op.stringOp, hs]
    rw [if_neg h1]
    simp only [Sem.run_pure, SVal.conc, mk2_den, Op2.ev, Sc.asStr_str]
    congr 2
  all_goals
    obtain ⟨rfl, rfl⟩ := h
    refine ⟨?_, fun n => rfl⟩
    simp [binOp, Op.stringOp, SVal.conc, mk2_den, Op2.ev, mkNot_den, mkOr_den, ByteArray.toList_eq]

theorem run_eqGuard_eqT {cx : Cx} (ok : cx.Ok) {op : BinOp} {t : TypeId} {X Y : Operand} {x y : SVal} {c : Tm} (h : eqT cx 20 t x y = some c) :
    (eqGuard op t X Y (x.conc ρ ι) (y.conc ρ ι)).run cx.P w = .ok () w := by
  unfold eqT at h
  split at h
  case h_4 =>
    split at h
    · rename_i ht
      simp only [SVal.conc]
      exact run_eqGuard_agg w op t X Y _ _ (ok.okT t (by simpa using ht)).2
    · cases h
  case h_5 =>
    split at h
    · rename_i z ht hz
      simp only [SVal.conc]
      exact run_eqGuard_agg w op t X Y _ _ (ok.okT t (by simpa using ht)).2
    · cases h
  case h_16 => cases h
  all_goals (cases op <;> simp [eqGuard, SVal.conc])

theorem run_binT {cx : Cx} (ok : cx.Ok) {op : BinOp} {t : TypeId} {X Y : Operand} {x y : SVal} {v : SVal} {cs : List Tm} (h : binT cx op t x y = some (v, cs)) (hc : ∀ c ∈ cs, (c.den ρ).asBool = true) :
    ((eqGuard op t X Y (x.conc ρ ι) (y.conc ρ ι)).bind fun _ => binOp op t (x.conc ρ ι) (y.conc ρ ι)).run cx.P w = .ok (v.conc ρ ι) w ∧ ∀ n, v.sc n = true := by
  have bnd : ∀ (A : Sem Unit) (B : Sem Value) (r : Result Value), A.run cx.P w = .ok () w → B.run cx.P w = r → (A.bind fun _ => B).run cx.P w = r := by
    intro A B r hA hB
    have := Sem.run_bind' cx.P A (fun _ => B) w
    rw [this, hA]; exact hB
  unfold binT at h
  split at h
  · rename_i k a k' b
    have hg : (eqGuard op t X Y (SVal.conc ρ ι (.int k a)) (SVal.conc ρ ι (.int k' b))).run cx.P w = .ok () w := by cases op <;> simp [eqGuard, SVal.conc]
    split at h
    · simp only [Option.some.injEq, Prod.mk.injEq] at h
      obtain ⟨rfl, rfl⟩ := h
      have h0 := hc _ (List.mem_singleton.2 rfl)
      have h1 : ¬ (b.den ρ).asInt < 0 := by
        rw [mk2_den] at h0
        have h2 : (0 : Int) ≤ (b.den ρ).asInt := of_decide_eq_true h0
        omega
      refine ⟨bnd _ _ _ hg ?_, fun n => rfl⟩
      simp [binOp, Op.shift, SVal.conc, h1, mk2_den, Op2.ev, shlOp]
    · simp only [Option.some.injEq, Prod.mk.injEq] at h
      obtain ⟨rfl, rfl⟩ := h
      have h0 := hc _ (List.mem_singleton.2 rfl)
      have h1 : ¬ (b.den ρ).asInt < 0 := by
        rw [mk2_den] at h0
        have h2 : (0 : Int) ≤ (b.den ρ).asInt := of_decide_eq_true h0
        omega
      refine ⟨bnd _ _ _ hg ?_, fun n => rfl⟩
      simp [binOp, Op.shift, SVal.conc, h1, mk2_den, Op2.ev, shrOp]
    · split at h
      · rename_i hk; subst hk
        simp only [Option.map_eq_some_iff, Prod.mk.injEq] at h
        obtain ⟨⟨r1, r2⟩, hr, rfl, rfl⟩ := h
        obtain ⟨h1, h2⟩ := run_intOpT (ρ := ρ) (ι := ι) (cx := cx) w t hr hc
        cases cx.fold with
        | false => exact ⟨bnd _ _ _ hg h1, h2⟩
        | true => exact ⟨bnd _ _ _ hg (by rw [(reV_conc ρ ι r1).1]; exact h1), fun n => by rw [(reV_conc ρ ι r1).2]; exact h2 n⟩
      · cases h
  · rename_i a b
    have hg : (eqGuard op t X Y (SVal.conc ρ ι (.str a)) (SVal.conc ρ ι (.str b))).run cx.P w = .ok () w := by cases op <;> simp [eqGuard, SVal.conc]
    obtain ⟨h1, h2⟩ := run_strOpT (ρ := ρ) (ι := ι) (cx := cx) w t h hc
    exact ⟨bnd _ _ _ hg h1, h2⟩
  · rename_i hni hns
    have nosc : ∀ c, eqT cx 20 t x y = some c → (binOp .eql t (x.conc ρ ι) (y.conc ρ ι)).run cx.P w = .ok (.bool (c.den ρ).asBool) w ∧ (binOp .neq t (x.conc ρ ι) (y.conc ρ ι)).run cx.P w = .ok (.bool (!(c.den ρ).asBool)) w := by
      intro c hcq
      have hr := run_eqT (ρ := ρ) (ι := ι) w ok 20 10000 (by omega) hcq
      have e1 : binOp .eql t (x.conc ρ ι) (y.conc ρ ι) = (do pure (.bool (← Op.equal t (x.conc ρ ι) (y.conc ρ ι)))) ∧ binOp .neq t (x.conc ρ ι) (y.conc ρ ι) = (do pure (.bool (!(← Op.equal t (x.conc ρ ι) (y.conc ρ ι))))) := by
        unfold eqT at hcq
        split at hcq
        case h_2 => exact (hni _ _ _ _ rfl rfl).elim
        case h_3 => exact (hns _ _ rfl rfl).elim
        case h_16 => cases hcq
        all_goals exact ⟨by simp only [SVal.conc, binOp], by simp only [SVal.conc, binOp]⟩
      rw [e1.1, e1.2]
      simp only [Op.equal, Op.maxDepth, Sem.run_bind, hr, Result.andThen_ok, Sem.run_pure, and_self]
    split at h
    · simp only [Option.map_eq_some_iff, Prod.mk.injEq] at h
      obtain ⟨c, hcq, rfl, rfl⟩ := h
      exact ⟨bnd _ _ _ (run_eqGuard_eqT w ok hcq) (by simpa [SVal.conc] using (nosc c hcq).1), fun n => rfl⟩
    · simp only [Option.map_eq_some_iff, Prod.mk.injEq] at h
      obtain ⟨c, hcq, rfl, rfl⟩ := h
      exact ⟨bnd _ _ _ (run_eqGuard_eqT w ok hcq) (by simpa [SVal.conc, mkNot_den] using (nosc c hcq).2), fun n => rfl⟩
    · cases h

theorem run_unT {op : UnOp} {x v : SVal} (h : unT op x = some v) : (Op.unary op (x.conc ρ ι)).run P w = .ok (v.conc ρ ι) w ∧ ∀ n, v.sc n = true := by
  unfold unT at h
  split at h <;> simp only [Option.some.injEq, reduceCtorEq] at h <;> subst h
  · exact ⟨by simp [Op.unary, SVal.conc, Op.intArith, mk2_den, Op2.ev, Tm.den], fun n => rfl⟩
  · exact ⟨by simp [Op.unary, SVal.conc, Op.intBits, mk1_den, Op1.ev, complOp, bitsOp], fun n => rfl⟩
  · exact ⟨by simp [Op.unary, SVal.conc, mkNot_den], fun n => rfl⟩

theorem run_convT {s d : TypeId} {x v : SVal} (h : convT P s d x = some v) : (convert s d (x.conc ρ ι)).run P w = .ok (v.conc ρ ι) w ∧ ∀ n, v.sc n = true := by
  unfold convT at h
  split at h <;> simp only [Option.some.injEq, reduceCtorEq] at h <;> subst h
  · rename_i hs hd
    exact ⟨by simp [convert, run_underlying hs, run_underlying hd, SVal.conc, Conv.intToInt, mk1_den, Op1.ev], fun n => rfl⟩
  · rename_i hs hd
    exact ⟨by simp [convert, run_underlying hs, run_underlying hd, SVal.conc], fun n => rfl⟩

theorem run_lenT {t : TypeId} {x v : SVal} (ty : TypeId) (h : lenT P t x = some v) : (Builtin.len_ #[t] ty #[x.conc ρ ι]).run P w = .ok (v.conc ρ ι) w ∧ ∀ n, v.sc n = true := by
  unfold lenT at h
  split at h <;> simp only [Option.some.injEq, reduceCtorEq] at h <;> subst h
  · rename_i hu
    have hs : ∀ l : List UInt8, (ByteArray.mk l.toArray).size = l.length := fun l => by simp [ByteArray.size]
    refine ⟨?_, fun n => rfl⟩
    simp only [SVal.conc, mk1_den, Op1.ev, Sc.asInt_int]
    generalize (Tm.den ρ _).asStr = l
    have e : (Builtin.len_ #[t] ty #[Value.string (ByteArray.mk l.toArray)]).run P w = .ok (goInt (ByteArray.mk l.toArray).size) w := by
      simp only [Builtin.len_, List.getElem?_toArray, List.getElem?_cons_zero, Sem.run_bind, run_underlying hu, Result.andThen_ok, Sem.run_pure]
    rw [e, hs]
    rfl
  · rename_i hu
    exact ⟨by simp [Builtin.len_, run_underlying hu, SVal.conc, Tm.den, goInt], fun n => rfl⟩
  · rename_i hu
    exact ⟨by simp [Builtin.len_, run_underlying hu, SVal.conc, Tm.den, goInt], fun n => rfl⟩
  · rename_i hu
    exact ⟨by simp [Builtin.len_, run_underlying hu, SVal.conc, Tm.den, goInt], fun n => rfl⟩

end
end
end Go.Sx

/- The executor is right: operations that leave the heap alone, in one. -/
namespace Go.Sx
noncomputable section

section
variable {ρ : Env} {ι : Nm} {P : Program}

/-! ### Setting cells -/

theorem concL_setCells : ∀ {vs cs cs' : SVal} {i : Nat}, setCells cs i vs = some cs' →
    cs'.concL ρ ι = (vs.concL ρ ι).zipIdx.foldl (fun l p => l.set (i + p.2) p.1) (cs.concL ρ ι) ∧ cs'.len = cs.len ∧ (∀ n, cs.sc n = true → vs.sc n = true → cs'.sc n = true) ∧ (vs.len = 0 ∨ i + vs.len ≤ cs.len) := by
  intro vs
  induction vs with
  | cons v r _ ih =>
    intro cs cs' i h
    simp only [setCells] at h
    split at h
    · rename_i u hu
      obtain ⟨h1, h2, h3, h4⟩ := ih h
      have hi : i < cs.len := by
        have := SVal.concL_nth ρ ι cs i
        rw [hu] at this
        have := (List.getElem?_eq_some_iff.1 this).1
        rwa [SVal.concL_length] at this
      have hl : (cs.setAt i v).len = cs.len := by
        have := congrArg List.length (SVal.concL_setAt ρ ι cs i v)
        simpa [SVal.concL_length] using this
      refine ⟨?_, by rw [h2, hl], fun n hc hv => ?_, ?_⟩
      · rw [h1, SVal.concL_setAt]
        simp only [SVal.concL, List.zipIdx_cons, List.foldl_cons, Nat.add_zero]
        rw [show (0 : Nat) + 1 = 1 from rfl, List.zipIdx_succ]
        rw [List.foldl_map]
        congr 1
        funext l p
        obtain ⟨a, j⟩ := p
        show l.set (i + 1 + j) a = l.set (i + (j + 1)) a
        congr 1
        omega
      · simp only [SVal.sc, Bool.and_eq_true] at hv
        exact h3 n (SVal.sc_setAt _ _ _ hc hv.1) hv.2
      · right
        rw [hl] at h4
        simp only [SVal.len]
        omega
    · cases h
  | _ =>
    intro cs cs' i h
    simp only [setCells, Option.some.injEq] at h
    subst h
    exact ⟨by simp [SVal.concL], rfl, fun _ h _ => h, .inl rfl⟩

theorem foldl_setIfInBounds (vs : List Value) : ∀ (off : Nat) (cs : Array Value), (vs.toArray.zipIdx.foldl (fun cs (c, j) => cs.setIfInBounds (off + j) c) cs).toList = vs.zipIdx.foldl (fun l p => l.set (off + p.2) p.1) cs.toList := by
  intro off cs
  rw [← Array.foldl_toList]
  simp only [Array.toList_zipIdx]
  generalize vs.zipIdx = l
  induction l generalizing cs with
  | nil => rfl
  | cons p l ih => simp only [List.foldl_cons]; rw [ih]; simp

theorem cells_conc' (v : SVal) (hv : v.plain = true) : (v.conc ρ ι).cells = (v.cellsOf.concL ρ ι).toArray := by
  cases v with
  | abs n =>
    have h := (ι.val n).one
    simp only [SVal.conc, SVal.cellsOf, SVal.concL]
    cases hv : (ι.val n).v <;> rw [hv] at h <;> simp_all [Value.oneCell', Value.cells]
  | _ => simp_all [SVal.conc, SVal.cellsOf, SVal.concL, Value.cells, undef, SVal.plain, rowPtr]

theorem fillT_conc {place : Nat → Option (Nat × Nat)} : ∀ {ps : List (Nat × SVal)} {cells cells' : SVal}, fillT place cells ps = some cells' →
    Instr.fill place (cells.concL ρ ι).toArray (ps.map fun p => (p.1, p.2.conc ρ ι)) = some (cells'.concL ρ ι).toArray ∧ (∀ n, cells.sc n = true → (∀ p ∈ ps, p.2.sc n = true) → cells'.sc n = true)
  | [], cells, cells', h => by simp [fillT] at h; subst h; simp [Instr.fill]
  | (i, v) :: ps, cells, cells', h => by
    unfold fillT at h
    split at h
    · cases h
    · rename_i off size hpl
      split at h
      · cases h
      · rename_i hsz
        simp only [Bool.and_eq_true] at hsz
        obtain ⟨⟨hsz, hle⟩, hpl'⟩ := hsz
        have hsz := Nat.eq_of_beq_eq_true hsz
        have hle := Nat.le_of_ble_eq_true hle
        split at h
        · rename_i cs1 hs
          have hv := cells_conc' (ρ := ρ) (ι := ι) v hpl'
          obtain ⟨h1, h2⟩ := fillT_conc h
          obtain ⟨k1, k2, k3, k4⟩ := concL_setCells (ρ := ρ) (ι := ι) hs
          refine ⟨?_, fun n hc hps => ?_⟩
          · simp only [List.map_cons, Instr.fill, hpl, hv]
            have e1 : (v.cellsOf.concL ρ ι).toArray.size = size := by simp [SVal.concL_length, hsz]
            have e2 : ¬ off + (v.cellsOf.concL ρ ι).toArray.size > (cells.concL ρ ι).toArray.size := by
              simp only [List.size_toArray, SVal.concL_length]
              omega
            rw [if_neg (by simp only [e1, ne_eq, not_true_eq_false, decide_false, Bool.false_or, decide_eq_true_eq]; rw [e1] at e2; exact e2)]
            rw [← h1]
            congr 1
            apply Array.ext'
            rw [foldl_setIfInBounds, k1]
          · have hv' : v.cellsOf.sc n = true := by
              have := hps _ (List.mem_cons_self ..)
              cases v <;> simp_all [SVal.cellsOf, SVal.sc]
            exact h2 n (k3 n hc hv') (fun p hp' => hps p (List.mem_cons_of_mem _ hp'))
        · cases h

theorem cellsOf_sc {v : SVal} {n : Nat} (h : v.sc n = true) : v.cellsOf.sc n = true := by
  cases v <;> simp_all [SVal.cellsOf, SVal.sc]

theorem zeroT_conc {t : TypeId} {z : SVal} (w : World) (h : zeroT P t = some z) : (zeroValue t).run P w = .ok (z.conc ρ ι) w ∧ z.sc 0 = true ∧ z.plain = true := by
  unfold zeroT at h
  split at h
  · rename_i i hi
    split at h
    · rename_i v hv
      obtain ⟨h1, h2⟩ := ofValue_conc (ρ := ρ) (ι := ι) h
      refine ⟨by simp [zeroValue, run_typeInfoT w hi, hv, h1], h2, ?_⟩
      unfold ofValue at h
      split at h
      · simp only [Option.map_eq_some_iff] at h; obtain ⟨l, _, rfl⟩ := h; rfl
      · simp only [Option.map_eq_some_iff] at h; obtain ⟨l, _, rfl⟩ := h; rfl
      · unfold ofCell at h; split at h <;> simp at h <;> subst h <;> rfl
    · cases h
  · cases h

/-- Running a function over the elements of a list. -/
theorem run_mapM_list {α β : Type} (w : World) (f : α → Sem β) (g : α → β) : ∀ l : List α, (∀ a ∈ l, (f a).run P w = .ok (g a) w) → (l.mapM f).run P w = .ok (l.map g) w
  | [], _ => by simp
  | a :: l, h => by
    rw [List.mapM_cons]
    simp only [Sem.run_bind, h a (by simp), Result.andThen_ok, run_mapM_list w f g l (fun b hb => h b (by simp [hb])), Sem.run_pure, List.map_cons]

theorem fill_congr {p q : Nat → Option (Nat × Nat)} : ∀ (l : List (Nat × Value)) (cs : Array Value), (∀ x ∈ l, p x.1 = q x.1) → Instr.fill p cs l = Instr.fill q cs l
  | [], cs, _ => rfl
  | (i, v) :: r, cs, h => by
    have e : p i = q i := h (i, v) (by simp)
    simp only [Instr.fill, e]
    cases q i with
    | none => rfl
    | some os =>
      obtain ⟨off, size⟩ := os
      simp only
      rw [fill_congr r _ (fun x hx => h x (by simp [hx]))]

theorem fillT_places {place : Nat → Option (Nat × Nat)} : ∀ {ps : List (Nat × SVal)} {cells cells' : SVal}, fillT place cells ps = some cells' → ∀ p ∈ ps, (place p.1).isSome = true
  | [], _, _, _ => by simp
  | (i, v) :: ps, cells, cells', h => by
    unfold fillT at h
    split at h
    · cases h
    · rename_i off size hpl
      split at h
      · cases h
      · split at h
        · intro p hp
          rcases List.mem_cons.1 hp with rfl | hp
          · simp [hpl]
          · exact fillT_places h p hp
        · cases h

theorem run_buildT (w : World) {t : TypeId} {ps : List (Nat × SVal)} {v : SVal} (h : buildT P t ps = some v) :
    (Instr.build t (ps.map fun p => (p.1, p.2.conc ρ ι)).toArray).run P w = .ok (v.conc ρ ι) w ∧ ∀ n, (∀ p ∈ ps, p.2.sc n = true) → v.sc n = true := by
  unfold buildT at h
  split at h
  · cases h
  · rename_i z hz
    obtain ⟨hz1, hz2, hz3⟩ := zeroT_conc (ρ := ρ) (ι := ι) w hz
    have hzc := cells_conc' (ρ := ρ) (ι := ι) z hz3
    split at h
    · rename_i fs hu
      split at h
      · cases h
      rename_i hall
      have hsz : ∀ f ∈ fs, (sizeT P f.type).isSome = true := fun f hf => (List.all_eq_true.1 hall) f (Array.mem_toList_iff.2 hf)
      simp only [Option.map_eq_some_iff] at h
      obtain ⟨cs, hcs, rfl⟩ := h
      obtain ⟨h1, h2⟩ := fillT_conc (ρ := ρ) (ι := ι) hcs
      refine ⟨?_, fun n hn => by simp only [SVal.sc]; exact h2 n (SVal.sc_mono (Nat.zero_le _) _ (cellsOf_sc hz2)) hn⟩
      have hm : (fs.mapM fun f => do pure (f.offset, ← sizeOf f.type) : Sem (Array (Nat × Nat))).run P w = .ok (fs.map fun f => (f.offset, (sizeT P f.type).getD 0)) w := by
        rw [Array.mapM_eq_mapM_toList]
        simp only [Sem.run_map]
        rw [run_mapM_list w _ (fun f => (f.offset, (sizeT P f.type).getD 0)) fs.toList]
        · simp only [Result.andThen_ok]
          congr 1
          apply Array.ext'
          simp
        · intro f hf
          have := hsz f (Array.mem_toList_iff.1 hf)
          obtain ⟨z', hz'⟩ := Option.isSome_iff_exists.1 this
          simp [run_sizeT w hz', hz']
      simp only [Instr.build, Sem.run_bind, hz1, Result.andThen_ok, run_underlying hu, hm, hzc]
      have e := fill_congr (p := fun i => (fs.map fun f => (f.offset, (sizeT P f.type).getD 0))[i]?) (q := placeS P fs)
        (ps.map fun p => (p.1, p.2.conc ρ ι)) (z.cellsOf.concL ρ ι).toArray (by
          intro x hx
          simp only [Array.getElem?_map, placeS]
          cases hfx : fs[x.1]? with
          | none => rfl
          | some f =>
            have := hsz f (Array.mem_of_getElem? hfx)
            obtain ⟨z', hz'⟩ := Option.isSome_iff_exists.1 this
            simp [hz'])
      rw [e, h1]
      simp [SVal.conc]
    · rename_i m e hu
      split at h
      · rename_i s hs
        simp only [Option.map_eq_some_iff] at h
        obtain ⟨cs, hcs, rfl⟩ := h
        obtain ⟨h1, h2⟩ := fillT_conc (ρ := ρ) (ι := ι) hcs
        refine ⟨?_, fun n hn => by simp only [SVal.sc]; exact h2 n (SVal.sc_mono (Nat.zero_le _) _ (cellsOf_sc hz2)) hn⟩
        simp only [Instr.build, Sem.run_bind, hz1, Result.andThen_ok, run_underlying hu, run_sizeT w hs, hzc, h1]
        simp [SVal.conc]
      · cases h
    · cases h

end
end
end Go.Sx
