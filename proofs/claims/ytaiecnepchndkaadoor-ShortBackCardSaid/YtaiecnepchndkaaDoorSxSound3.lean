/- The executor is right: operations that leave the heap alone. -/
import Derived.Test.YtaiecnepchndkaaDoorSxSound2
namespace Go.Sx

section
variable {ρ : Env} {ι : Nm} {P : Program} (w : World)

theorem asBool_of_mem {cs : List Tm} {c : Tm} (h : ∀ c ∈ cs, (c.den ρ).asBool = true) (hc : c ∈ cs) : (c.den ρ).asBool = true := h c hc

theorem run_intOpT {cx : Cx} {op : BinOp} {k : IntKind} {a b : Tm} {v : SVal} {cs : List Tm} (t : TypeId) (h : intOpT op k a b = some (v, cs)) (hc : ∀ c ∈ cs, (c.den ρ).asBool = true) :
    (binOp op t (.int k (a.den ρ).asInt) (.int k (b.den ρ).asInt)).run cx.P w = .ok (v.conc ρ ι) w ∧ ∀ n, v.sc n = true := by
  unfold intOpT at h
  split at h <;> simp only [Option.some.injEq, Prod.mk.injEq, reduceCtorEq] at h
  case h_4 =>
    obtain ⟨rfl, rfl⟩ := h
    have h0 := hc _ (List.mem_singleton.2 rfl)
    simp only [mkNot_den, mk2_den, Op2.ev, Tm.den, Sc.asBool_bool, Sc.asInt_int, Bool.not_eq_true', beq_eq_false_iff_ne, ne_eq] at h0
    exact ⟨by simp [binOp, Op.intDiv, h0, SVal.conc, mk2_den, Op2.ev], fun n => rfl⟩
  case h_5 =>
    obtain ⟨rfl, rfl⟩ := h
    have h0 := hc _ (List.mem_singleton.2 rfl)
    simp only [mkNot_den, mk2_den, Op2.ev, Tm.den, Sc.asBool_bool, Sc.asInt_int, Bool.not_eq_true', beq_eq_false_iff_ne, ne_eq] at h0
    exact ⟨by simp [binOp, Op.intDiv, h0, SVal.conc, mk2_den, Op2.ev], fun n => rfl⟩
  all_goals
    obtain ⟨rfl, rfl⟩ := h
    refine ⟨?_, fun n => rfl⟩
    first
      | (simp [binOp, Op.intArith, SVal.conc, mk2_den, Op2.ev]; done)
      | (simp [binOp, Op.intBits, SVal.conc, mk2_den, Op2.ev, bitsOp]; done)
      | (simp [binOp, Op.intCmp, SVal.conc, mk2_den, Op2.ev, mkNot_den]; done)
      | (simp [binOp, Op.intCmp, SVal.conc, mk2_den, Op2.ev, mkNot_den]; rfl)

theorem run_strOpT {cx : Cx} {op : BinOp} {a b : Tm} {v : SVal} {cs : List Tm} (t : TypeId) (h : strOpT op a b = some (v, cs)) (hc : ∀ c ∈ cs, (c.den ρ).asBool = true) :
    (binOp op t (.string ⟨(a.den ρ).asStr.toArray⟩) (.string ⟨(b.den ρ).asStr.toArray⟩)).run cx.P w = .ok (v.conc ρ ι) w ∧ ∀ n, v.sc n = true := by
  unfold strOpT at h
  split at h <;> simp only [Option.some.injEq, Prod.mk.injEq, reduceCtorEq] at h
  case h_1 =>
    obtain ⟨rfl, rfl⟩ := h
    have h0 := hc _ (List.mem_singleton.2 rfl)
    simp only [mk2_den, mk1_den, Op2.ev, Op1.ev, Tm.den, Sc.asBool_bool, Sc.asInt_int, Sc.asStr_str, decide_eq_true_eq, List.length_append] at h0
    refine ⟨?_, fun n => rfl⟩
    have hs : ∀ l : List UInt8, (ByteArray.mk l.toArray).size = l.length := fun l => by simp [ByteArray.size]
    have h1 : ¬ (((a.den ρ).asStr.length + (b.den ρ).asStr.length : Nat) : Int) > IntKind.i64.max := by
      simp [IntKind.max, IntKind.signed, IntKind.bits]; omega
    simp only [binOp, Op.stringOp, hs]
    rw [if_neg h1]
    simp only [Sem.run_pure, SVal.conc, mk2_den, Op2.ev, Sc.asStr_str]
    congr 2
  all_goals
    obtain ⟨rfl, rfl⟩ := h
    refine ⟨?_, fun n => rfl⟩
    simp [binOp, Op.stringOp, SVal.conc, mk2_den, Op2.ev, mkNot_den, mkOr_den, ByteArray.toList_eq]

theorem run_eqGuard_eqT {cx : Cx} (ok : cx.Ok) {op : BinOp} {t : TypeId} {X Y : Operand} {x y : SVal} {c : Tm} (h : eqT cx 20 t x y = some c) :
    (eqGuard op t X Y (x.conc ρ ι) (y.conc ρ ι)).run cx.P w = .ok () w := by
  unfold eqT at h
  split at h
  case h_4 =>
    split at h
    · rename_i ht
      simp only [SVal.conc]
      exact run_eqGuard_agg w op t X Y _ _ (ok.okT t (by simpa using ht)).2
    · cases h
  case h_14 => cases h
  all_goals (cases op <;> simp [eqGuard, SVal.conc])

theorem run_binT {cx : Cx} (ok : cx.Ok) {op : BinOp} {t : TypeId} {X Y : Operand} {x y : SVal} {v : SVal} {cs : List Tm} (h : binT cx op t x y = some (v, cs)) (hc : ∀ c ∈ cs, (c.den ρ).asBool = true) :
    ((eqGuard op t X Y (x.conc ρ ι) (y.conc ρ ι)).bind fun _ => binOp op t (x.conc ρ ι) (y.conc ρ ι)).run cx.P w = .ok (v.conc ρ ι) w ∧ ∀ n, v.sc n = true := by
  have bnd : ∀ (A : Sem Unit) (B : Sem Value) (r : Result Value), A.run cx.P w = .ok () w → B.run cx.P w = r → (A.bind fun _ => B).run cx.P w = r := by
    intro A B r hA hB
    have := Sem.run_bind' cx.P A (fun _ => B) w
    rw [this, hA]; exact hB
  unfold binT at h
  split at h
  · rename_i k a k' b
    have hg : (eqGuard op t X Y (SVal.conc ρ ι (.int k a)) (SVal.conc ρ ι (.int k' b))).run cx.P w = .ok () w := by cases op <;> simp [eqGuard, SVal.conc]
    split at h
    · simp only [Option.some.injEq, Prod.mk.injEq] at h
      obtain ⟨rfl, rfl⟩ := h
      have h0 := hc _ (List.mem_singleton.2 rfl)
      have h1 : ¬ (b.den ρ).asInt < 0 := by
        rw [mk2_den] at h0
        have h2 : (0 : Int) ≤ (b.den ρ).asInt := of_decide_eq_true h0
        omega
      refine ⟨bnd _ _ _ hg ?_, fun n => rfl⟩
      simp [binOp, Op.shift, SVal.conc, h1, mk2_den, Op2.ev, shlOp]
    · simp only [Option.some.injEq, Prod.mk.injEq] at h
      obtain ⟨rfl, rfl⟩ := h
      have h0 := hc _ (List.mem_singleton.2 rfl)
      have h1 : ¬ (b.den ρ).asInt < 0 := by
        rw [mk2_den] at h0
        have h2 : (0 : Int) ≤ (b.den ρ).asInt := of_decide_eq_true h0
        omega
      refine ⟨bnd _ _ _ hg ?_, fun n => rfl⟩
      simp [binOp, Op.shift, SVal.conc, h1, mk2_den, Op2.ev, shrOp]
    · split at h
      · rename_i hk; subst hk
        obtain ⟨h1, h2⟩ := run_intOpT (ρ := ρ) (ι := ι) (cx := cx) w t h hc
        exact ⟨bnd _ _ _ hg h1, h2⟩
      · cases h
  · rename_i a b
    have hg : (eqGuard op t X Y (SVal.conc ρ ι (.str a)) (SVal.conc ρ ι (.str b))).run cx.P w = .ok () w := by cases op <;> simp [eqGuard, SVal.conc]
    obtain ⟨h1, h2⟩ := run_strOpT (ρ := ρ) (ι := ι) (cx := cx) w t h hc
    exact ⟨bnd _ _ _ hg h1, h2⟩
  · rename_i hni hns
    have nosc : ∀ c, eqT cx 20 t x y = some c → (binOp .eql t (x.conc ρ ι) (y.conc ρ ι)).run cx.P w = .ok (.bool (c.den ρ).asBool) w ∧ (binOp .neq t (x.conc ρ ι) (y.conc ρ ι)).run cx.P w = .ok (.bool (!(c.den ρ).asBool)) w := by
      intro c hcq
      have hr := run_eqT (ρ := ρ) (ι := ι) w ok 20 10000 (by omega) hcq
      have e1 : binOp .eql t (x.conc ρ ι) (y.conc ρ ι) = (do pure (.bool (← Op.equal t (x.conc ρ ι) (y.conc ρ ι)))) ∧ binOp .neq t (x.conc ρ ι) (y.conc ρ ι) = (do pure (.bool (!(← Op.equal t (x.conc ρ ι) (y.conc ρ ι))))) := by
        unfold eqT at hcq
        split at hcq
        case h_2 => exact (hni _ _ _ _ rfl rfl).elim
        case h_3 => exact (hns _ _ rfl rfl).elim
        case h_14 => cases hcq
        all_goals exact ⟨by simp only [SVal.conc, binOp], by simp only [SVal.conc, binOp]⟩
      rw [e1.1, e1.2]
      simp only [Op.equal, Op.maxDepth, Sem.run_bind, hr, Result.andThen_ok, Sem.run_pure, and_self]
    split at h
    · simp only [Option.map_eq_some_iff, Prod.mk.injEq] at h
      obtain ⟨c, hcq, rfl, rfl⟩ := h
      exact ⟨bnd _ _ _ (run_eqGuard_eqT w ok hcq) (by simpa [SVal.conc] using (nosc c hcq).1), fun n => rfl⟩
    · simp only [Option.map_eq_some_iff, Prod.mk.injEq] at h
      obtain ⟨c, hcq, rfl, rfl⟩ := h
      exact ⟨bnd _ _ _ (run_eqGuard_eqT w ok hcq) (by simpa [SVal.conc, mkNot_den] using (nosc c hcq).2), fun n => rfl⟩
    · cases h

theorem run_unT {op : UnOp} {x v : SVal} (h : unT op x = some v) : (Op.unary op (x.conc ρ ι)).run P w = .ok (v.conc ρ ι) w ∧ ∀ n, v.sc n = true := by
  unfold unT at h
  split at h <;> simp only [Option.some.injEq, reduceCtorEq] at h <;> subst h
  · exact ⟨by simp [Op.unary, SVal.conc, Op.intArith, mk2_den, Op2.ev, Tm.den], fun n => rfl⟩
  · exact ⟨by simp [Op.unary, SVal.conc, Op.intBits, mk1_den, Op1.ev, complOp, bitsOp], fun n => rfl⟩
  · exact ⟨by simp [Op.unary, SVal.conc, mkNot_den], fun n => rfl⟩

theorem run_convT {s d : TypeId} {x v : SVal} (h : convT P s d x = some v) : (convert s d (x.conc ρ ι)).run P w = .ok (v.conc ρ ι) w ∧ ∀ n, v.sc n = true := by
  unfold convT at h
  split at h <;> simp only [Option.some.injEq, reduceCtorEq] at h <;> subst h
  · rename_i hs hd
    exact ⟨by simp [convert, run_underlying hs, run_underlying hd, SVal.conc, Conv.intToInt, mk1_den, Op1.ev], fun n => rfl⟩
  · rename_i hs hd
    exact ⟨by simp [convert, run_underlying hs, run_underlying hd, SVal.conc], fun n => rfl⟩

theorem run_lenT {t : TypeId} {x v : SVal} (ty : TypeId) (h : lenT P t x = some v) : (Builtin.len_ #[t] ty #[x.conc ρ ι]).run P w = .ok (v.conc ρ ι) w ∧ ∀ n, v.sc n = true := by
  unfold lenT at h
  split at h <;> simp only [Option.some.injEq, reduceCtorEq] at h <;> subst h
  · rename_i hu
    have hs : ∀ l : List UInt8, (ByteArray.mk l.toArray).size = l.length := fun l => by simp [ByteArray.size]
    refine ⟨?_, fun n => rfl⟩
    simp only [SVal.conc, mk1_den, Op1.ev, Sc.asInt_int]
    generalize (Tm.den ρ _).asStr = l
    have e : (Builtin.len_ #[t] ty #[Value.string (ByteArray.mk l.toArray)]).run P w = .ok (goInt (ByteArray.mk l.toArray).size) w := by
      simp only [Builtin.len_, List.getElem?_toArray, List.getElem?_cons_zero, Sem.run_bind, run_underlying hu, Result.andThen_ok, Sem.run_pure]
    rw [e, hs]
    rfl
  · rename_i hu
    exact ⟨by simp [Builtin.len_, run_underlying hu, SVal.conc, Tm.den, goInt], fun n => rfl⟩
  · rename_i hu
    exact ⟨by simp [Builtin.len_, run_underlying hu, SVal.conc, Tm.den, goInt], fun n => rfl⟩
  · rename_i hu
    exact ⟨by simp [Builtin.len_, run_underlying hu, SVal.conc, Tm.den, goInt], fun n => rfl⟩

end
end Go.Sx
