/- The executor is right: types, parts, comparing, arithmetic. -/
import Derived.Test.YtaiecnepchndkaaDoorSxSound1
import Derived.Laws.StructEq
namespace Go.Sx

section
variable {ρ : Env} {ι : Nm} {P : Program} (w : World)

theorem run_isAggT {t : TypeId} {b : Bool} (h : isAggT P t = some b) : (isAgg t).run P w = .ok b w := by
  unfold isAggT at h
  split at h
  · rename_i hu; simp at h; subst h; simp [isAgg, run_underlying hu]
  · rename_i hu; simp at h; subst h; simp [isAgg, run_underlying hu]
  · rename_i d h1 h2 hu
    simp at h; subst h
    simp only [isAgg, Sem.run_bind, run_underlying hu, Result.andThen_ok]
    cases d <;> simp_all
  · cases h

theorem run_typeInfoT {t : TypeId} {i : TypeInfo} (h : P.info? t = some i) : (typeInfo t).run P w = .ok i w := by
  simp [typeInfo, h]

theorem run_sizeT {t : TypeId} {z : Nat} (h : sizeT P t = some z) : (sizeOf t).run P w = .ok z w := by
  unfold sizeT at h
  simp only [Option.map_eq_some_iff] at h
  obtain ⟨i, hi, rfl⟩ := h
  simp [sizeOf, run_typeInfoT w hi]

theorem concL_extract (cs : SVal) (off z : Nat) : (cs.concL ρ ι).toArray.extract off (off + z) = (((cs.dropN off).takeN z).concL ρ ι).toArray := by
  rw [SVal.concL_takeN, SVal.concL_dropN]
  apply Array.ext'
  simp [List.extract_eq_take_drop]

theorem run_partT {t : TypeId} {cs : SVal} {off : Nat} {v : SVal} (h : partT P t cs off = some v) : (part t (cs.concL ρ ι).toArray off).run P w = .ok (v.conc ρ ι) w := by
  unfold partT at h
  split at h
  · rename_i ha
    split at h
    · rename_i z hz
      simp at h; subst h
      simp only [part, Sem.run_bind, run_isAggT w ha, Result.andThen_ok, if_true, run_sizeT w hz, Sem.run_pure, SVal.conc]
      rw [concL_extract]
    · cases h
  · rename_i ha
    have := SVal.concL_nth ρ ι cs off
    rw [h] at this
    simp [part, run_isAggT w ha, this]
  · cases h

theorem partT_sc {t : TypeId} {cs : SVal} {off n : Nat} {v : SVal} (h : partT P t cs off = some v) (hs : cs.sc n = true) : v.sc n = true := by
  unfold partT at h
  split at h
  · split at h
    · simp at h; subst h; simp only [SVal.sc]; exact SVal.sc_takeN _ _ (SVal.sc_dropN _ _ hs)
    · cases h
  · exact SVal.sc_nth _ _ _ hs h
  · cases h

theorem chunks_spec {t : TypeId} {cs : SVal} {z : Nat} : ∀ {m off : Nat} {l : List SVal}, chunks P t cs off z m = some l → l.length = m ∧ ∀ j u, l[j]? = some u → partT P t cs (off + j * z) = some u
  | 0, off, l, h => by simp [chunks] at h; subst h; simp
  | m + 1, off, l, h => by
    unfold chunks at h
    split at h
    · rename_i v r hv hr
      simp at h; subst h
      obtain ⟨h1, h2⟩ := chunks_spec hr
      refine ⟨by simp [h1], ?_⟩
      intro j u hu
      cases j with
      | zero => simp at hu; subst hu; simpa using hv
      | succ j => 
        have := h2 j u (by simpa using hu)
        rw [← this]; congr 1; rw [Nat.succ_mul]; omega
    · cases h

theorem chunks_sc {t : TypeId} {cs : SVal} {z m off n : Nat} {l : List SVal} (h : chunks P t cs off z m = some l) (hs : cs.sc n = true) : ∀ u ∈ l, u.sc n = true := by
  intro u hu
  obtain ⟨j, hj, rfl⟩ := List.getElem_of_mem hu
  exact partT_sc ((chunks_spec h).2 j _ (List.getElem?_eq_getElem hj)) hs

structure Cx.Ok (cx : Cx) : Prop where
  okT : ∀ t ∈ cx.okT, cx.P.stoodInHeld t = false ∧ cx.P.eqGuardType cx.P.depth t = false
  names : ∀ (f : Nat) (fn : Func), cx.P.funcs[f]? = some fn → (fn.name == "runtime.NumGoroutine") = false
  mixed : cx.P.follows .mixedOrders = true

theorem run_eqFieldsT {cx : Cx} {D : Nat} {rec : TypeId → SVal → SVal → Option Tm}
    (hrec : ∀ t x y c, rec t x y = some c → (Op.equalIn D t (x.conc ρ ι) (y.conc ρ ι)).run cx.P w = .ok (c.den ρ).asBool w) (xs ys : SVal) :
    ∀ {fs : List Field} {c : Tm}, eqFieldsT cx.P rec xs ys fs = some c → (Op.eqFields D (xs.concL ρ ι).toArray (ys.concL ρ ι).toArray fs).run cx.P w = .ok (c.den ρ).asBool w
  | [], c, h => by simp [eqFieldsT] at h; subst h; simp [Op.eqFields, Tm.den]
  | f :: fs, c, h => by
    unfold eqFieldsT at h
    split at h
    · rename_i hn
      simp only [decide_eq_true_eq] at hn
      simp only [Op.eqFields, hn, ne_eq, not_true_eq_false, if_false]
      exact run_eqFieldsT hrec xs ys h
    · rename_i hn
      simp only [decide_eq_false_iff_not] at hn
      split at h
      · rename_i a b ha hb
        split at h
        · rename_i c1 c2 hc1 hc2
          simp at h; subst h
          have h1 := hrec _ _ _ _ hc1
          have h2 := run_eqFieldsT hrec xs ys hc2
          simp only [Op.eqFields, ne_eq, hn, not_false_eq_true, if_true, Sem.run_bind, run_partT w ha, run_partT w hb, Result.andThen_ok, h1, Sem.run_ite, Sem.run_pure, mkAnd_den]
          cases (c1.den ρ).asBool
          · simp
          · simp [h2]
        · cases h
      · cases h

theorem run_eqT {cx : Cx} (ok : cx.Ok) : ∀ (d D : Nat) {t : TypeId} {x y : SVal} {c : Tm}, d ≤ D → eqT cx d t x y = some c →
    (Op.equalIn D t (x.conc ρ ι) (y.conc ρ ι)).run cx.P w = .ok (c.den ρ).asBool w
  | 0, D, t, x, y, c, _, h => by simp [eqT] at h
  | d + 1, 0, t, x, y, c, hD, h => by omega
  | d + 1, D + 1, t, x, y, c, hD, h => by
    unfold eqT at h
    split at h
    · rename_i hu; simp at h; subst h
      simp [SVal.conc, Op.equalIn, run_underlying hu, mk2_den, Op2.ev]
    · rename_i hu
      split at h
      · rename_i hk; subst hk; simp at h; subst h
        simp [SVal.conc, Op.equalIn, run_underlying hu, mk2_den, Op2.ev]
      · cases h
    · rename_i hu; simp at h; subst h
      simp [SVal.conc, run_equalIn_string w D t _ _ hu, mk2_den, Op2.ev, ByteArray.toList_eq]
    · rename_i fs _ _ hu
      split at h
      · rename_i ht
        have hok := ok.okT t (by simpa using ht)
        have hfs : cx.P.fieldsOf t = fs := by simp [Program.fieldsOf, hu]
        simp only [SVal.conc]
        rw [run_equalIn_agg w D t _ _ (by rw [hfs]; exact hu) hok.1, hfs]
        exact run_eqFieldsT w (fun t x y c hc => run_eqT ok d D (by omega) hc) _ _ h
      · cases h
    all_goals first
      | (rename_i hu; simp at h; subst h; simp [SVal.conc, Op.equalIn, run_underlying hu, Tm.den]; done)
      | cases h

end
end Go.Sx
