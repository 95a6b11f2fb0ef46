/- The executor is right: values and operations that leave the heap alone. -/
import Derived.Test.YtaiecnepchndkaaDoorSxExec
namespace Go.Sx

section
variable {ρ : Env} {ι : Nm} {P : Program}

theorem ofCell_conc {v : Value} {s : SVal} (h : ofCell v = some s) : s.conc ρ ι = v ∧ s.sc 0 = true := by
  unfold ofCell at h
  split at h <;> simp at h <;> subst h <;> simp [SVal.conc, SVal.sc, Tm.den]

theorem ofCells_conc : ∀ {l : List Value} {s : SVal}, ofCells l = some s → s.concL ρ ι = l ∧ s.sc 0 = true
  | [], s, h => by simp [ofCells] at h; subst h; simp [SVal.concL, SVal.sc]
  | v :: r, s, h => by
    unfold ofCells at h
    split at h
    · rename_i a l ha hl
      simp at h; subst h
      have h1 := ofCell_conc (ρ := ρ) (ι := ι) ha
      have h2 := ofCells_conc hl
      simp [SVal.concL, SVal.sc, h1, h2]
    · cases h

theorem ofValue_conc {v : Value} {s : SVal} (h : ofValue v = some s) : s.conc ρ ι = v ∧ s.sc 0 = true := by
  unfold ofValue at h
  split at h
  · simp only [Option.map_eq_some_iff] at h
    obtain ⟨l, hl, rfl⟩ := h
    have := ofCells_conc (ρ := ρ) (ι := ι) hl
    simp [SVal.conc, SVal.sc, this]
  · simp only [Option.map_eq_some_iff] at h
    obtain ⟨l, hl, rfl⟩ := h
    have := ofCells_conc (ρ := ρ) (ι := ι) hl
    simp [SVal.conc, SVal.sc, this]
  · exact ofCell_conc h

/-- The slots are such. -/
def SlotsOk (ρ : Env) (ι : Nm) (n : Nat) (s : Slots) (a : Act) : Prop := ∀ i v, s.get i = some v → a.tmps[i]? = some (v.conc ρ ι) ∧ v.sc n = true

theorem evO_conc {n : Nat} {s : Slots} {a : Act} (H : SlotsOk ρ ι n s a) {x : Operand} {v : SVal} (h : evO s x = some v) : a.eval x = v.conc ρ ι ∧ v.sc n = true := by
  cases x with
  | tmp t =>
    obtain ⟨h1, h2⟩ := H t v h
    refine ⟨?_, h2⟩
    simp only [Act.eval, Array.getD_eq_getD_getElem?, h1, Option.getD_some]
  | const c =>
    obtain ⟨h1, h2⟩ := ofValue_conc (ρ := ρ) (ι := ι) h
    exact ⟨by simp [Act.eval, h1], SVal.sc_mono (Nat.zero_le _) _ h2⟩
  | global g => simp [evO] at h; subst h; simp [Act.eval, SVal.conc, SVal.sc]
  | func f => simp [evO] at h; subst h; simp [Act.eval, SVal.conc, SVal.sc, SVal.concL]

theorem evs_conc {n : Nat} {s : Slots} {a : Act} (H : SlotsOk ρ ι n s a) : ∀ {xs : List Operand} {vs : List SVal}, evs s xs = some vs → xs.map a.eval = vs.map (·.conc ρ ι) ∧ ∀ v ∈ vs, v.sc n = true
  | [], vs, h => by simp [evs] at h; subst h; simp
  | x :: xs, vs, h => by
    unfold evs at h
    split at h
    · rename_i v l hv hl
      simp at h; subst h
      obtain ⟨h1, h2⟩ := evO_conc H hv
      obtain ⟨h3, h4⟩ := evs_conc H hl
      refine ⟨by simp [h1, h3], ?_⟩
      intro u hu
      rcases List.mem_cons.1 hu with rfl | hu
      · exact h2
      · exact h4 u hu
    · cases h

theorem evParts_conc {n : Nat} {s : Slots} {a : Act} (H : SlotsOk ρ ι n s a) : ∀ {xs : List (Nat × Operand)} {vs : List (Nat × SVal)}, evParts s xs = some vs →
    xs.map (fun p => (p.1, a.eval p.2)) = vs.map (fun p => (p.1, p.2.conc ρ ι)) ∧ ∀ p ∈ vs, p.2.sc n = true
  | [], vs, h => by simp [evParts] at h; subst h; simp
  | (i, x) :: xs, vs, h => by
    unfold evParts at h
    split at h
    · rename_i v l hv hl
      simp at h; subst h
      obtain ⟨h1, h2⟩ := evO_conc H hv
      obtain ⟨h3, h4⟩ := evParts_conc H hl
      refine ⟨by simp [h1, h3], ?_⟩
      intro u hu
      rcases List.mem_cons.1 hu with rfl | hu
      · exact h2
      · exact h4 u hu
    · cases h

theorem mergeV_conc (c : Tm) (n : Nat) : ∀ (a b v : SVal), mergeV c a b = some v →
    (v.conc ρ ι = match (c.den ρ).asBool with | true => a.conc ρ ι | false => b.conc ρ ι) ∧
    (v.concL ρ ι = match (c.den ρ).asBool with | true => a.concL ρ ι | false => b.concL ρ ι) ∧
    (a.sc n = true → b.sc n = true → v.sc n = true) := by
  intro a
  have fin : ∀ (x y : SVal), ∀ b v : SVal, (if x = b then some x else none) = some v → x = b ∧ v = x := by
    intro x y b v h
    split at h
    · rename_i e; simp at h; exact ⟨e, h.symm⟩
    · cases h
  have eq : ∀ (x b v : SVal), x = b ∧ v = x → (v.conc ρ ι = match (c.den ρ).asBool with | true => x.conc ρ ι | false => b.conc ρ ι) ∧
      (v.concL ρ ι = match (c.den ρ).asBool with | true => x.concL ρ ι | false => b.concL ρ ι) ∧ (x.sc n = true → b.sc n = true → v.sc n = true) := by
    rintro x b v ⟨rfl, rfl⟩
    refine ⟨?_, ?_, fun h _ => h⟩ <;> cases (c.den ρ).asBool <;> rfl
  induction a with
  | int k a =>
    intro b v h
    cases b with
    | int k' b =>
      simp only [mergeV] at h
      split at h
      · rename_i ek; subst ek; simp at h; subst h
        refine ⟨?_, ?_, fun _ _ => rfl⟩
        · simp only [SVal.conc, mkIte_den]; cases (c.den ρ).asBool <;> rfl
        · simp only [SVal.concL]; cases (c.den ρ).asBool <;> rfl
      · cases h
    | _ => exact eq _ _ _ (fin _ .nil _ _ (by simpa only [mergeV] using h))
  | bool a =>
    intro b v h
    cases b with
    | bool b =>
      simp only [mergeV, Option.some.injEq] at h
      subst h
      refine ⟨?_, ?_, fun _ _ => rfl⟩
      · simp only [SVal.conc, mkIteB_den]; cases (c.den ρ).asBool <;> rfl
      · simp only [SVal.concL]; cases (c.den ρ).asBool <;> rfl
    | _ => exact eq _ _ _ (fin _ .nil _ _ (by simpa only [mergeV] using h))
  | str a =>
    intro b v h
    cases b with
    | str b =>
      simp only [mergeV, Option.some.injEq] at h
      subst h
      refine ⟨?_, ?_, fun _ _ => rfl⟩
      · simp only [SVal.conc, mkIte_den]; cases (c.den ρ).asBool <;> rfl
      · simp only [SVal.concL]; cases (c.den ρ).asBool <;> rfl
    | _ => exact eq _ _ _ (fin _ .nil _ _ (by simpa only [mergeV] using h))
  | agg a ih =>
    intro b v h
    cases b with
    | agg b =>
      simp only [mergeV, Option.map_eq_some_iff] at h
      obtain ⟨l, hl, rfl⟩ := h
      obtain ⟨h1, h2, h3⟩ := ih b l hl
      refine ⟨?_, ?_, fun ha hb => h3 ha hb⟩
      · simp only [SVal.conc, h2]; cases (c.den ρ).asBool <;> rfl
      · simp only [SVal.concL]; cases (c.den ρ).asBool <;> rfl
    | _ => exact eq _ _ _ (fin _ .nil _ _ (by simpa only [mergeV] using h))
  | tup a ih =>
    intro b v h
    cases b with
    | tup b =>
      simp only [mergeV, Option.map_eq_some_iff] at h
      obtain ⟨l, hl, rfl⟩ := h
      obtain ⟨h1, h2, h3⟩ := ih b l hl
      refine ⟨?_, ?_, fun ha hb => h3 ha hb⟩
      · simp only [SVal.conc, h2]; cases (c.den ρ).asBool <;> rfl
      · simp only [SVal.concL]; cases (c.den ρ).asBool <;> rfl
    | _ => exact eq _ _ _ (fin _ .nil _ _ (by simpa only [mergeV] using h))
  | cons a r iha ihr =>
    intro b v h
    cases b with
    | cons b s =>
      simp only [mergeV] at h
      split at h
      · rename_i x y hx hy
        simp at h; subst h
        obtain ⟨h1, h2, h3⟩ := iha b x hx
        obtain ⟨k1, k2, k3⟩ := ihr s y hy
        refine ⟨?_, ?_, fun ha hb => ?_⟩
        · simp only [SVal.conc]; cases (c.den ρ).asBool <;> rfl
        · simp only [SVal.concL, h1, k2]; cases (c.den ρ).asBool <;> rfl
        · simp only [SVal.sc, Bool.and_eq_true] at ha hb ⊢
          exact ⟨h3 ha.1 hb.1, k3 ha.2 hb.2⟩
      · cases h
    | _ => exact eq _ _ _ (fin _ .nil _ _ (by simpa only [mergeV] using h))
  | _ =>
    intro b v h
    exact eq _ _ _ (fin _ .nil _ _ (by simpa only [mergeV] using h))

theorem selectV_sc (i : Tm) (n : Nat) : ∀ (l : List SVal) (j : Nat) (v : SVal), selectV i j l = some v → (∀ u ∈ l, u.sc n = true) → v.sc n = true
  | [], j, v, h, _ => by simp [selectV] at h
  | [u], j, v, h, hu => by simp [selectV] at h; subst h; exact hu u (by simp)
  | u :: u' :: r, j, v, h, hu => by
    simp only [selectV] at h
    split at h
    · rename_i x hx
      exact (mergeV_conc (ρ := ⟨fun _ => .int 0, fun _ _ => .int 0, fun _ => undef⟩) (ι := ⟨id, id⟩) _ n _ _ _ h).2.2 (hu u (by simp)) (selectV_sc i n (u' :: r) (j + 1) x hx (fun z hz => hu z (List.mem_cons_of_mem _ hz)))
    · cases h

/-- The value at a place that a term tells. -/
theorem selectV_conc (i : Tm) : ∀ (l : List SVal) (j : Nat) (v : SVal), selectV i j l = some v →
    (j : Int) ≤ (i.den ρ).asInt → (i.den ρ).asInt < j + l.length →
    ∃ u, l[((i.den ρ).asInt - j).toNat]? = some u ∧ v.conc ρ ι = u.conc ρ ι
  | [], j, v, h, _, _ => by simp [selectV] at h
  | [u], j, v, h, h1, h2 => by
    simp [selectV] at h; subst h
    simp at h2
    have : (i.den ρ).asInt = j := by omega
    exact ⟨u, by simp [this], rfl⟩
  | u :: u' :: r, j, v, h, h1, h2 => by
    simp only [selectV] at h
    split at h
    · rename_i x hx
      have k1 := (mergeV_conc (ρ := ρ) (ι := ι) _ 0 _ _ _ h).1
      simp only [mk2_den, Op2.ev, Tm.den, Sc.asBool_bool, Sc.asInt_int] at k1
      by_cases he : (i.den ρ).asInt = j
      · refine ⟨u, by simp [he], ?_⟩
        rw [k1, he]; simp
      · obtain ⟨y, hy1, hy2⟩ := selectV_conc i (u' :: r) (j + 1) x hx (by omega) (by simp at h2 ⊢; omega)
        refine ⟨y, ?_, ?_⟩
        · rw [← hy1]
          have : ((i.den ρ).asInt - j).toNat = ((i.den ρ).asInt - ((j + 1 : Nat) : Int)).toNat + 1 := by omega
          rw [this]; simp
        · have hb : ((i.den ρ).asInt == (j : Int)) = false := by simpa using he
          rw [k1, hb]; exact hy2
    · cases h

end
end Go.Sx
