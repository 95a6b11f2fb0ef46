/- The executor is right: operations that leave the heap alone, in one. -/
import Derived.Test.YtaiecnepchndkaaDoorSxSound3
namespace Go.Sx

section
variable {ρ : Env} {ι : Nm} {P : Program}

/-! ### Setting cells -/

theorem concL_setCells : ∀ {vs cs cs' : SVal} {i : Nat}, setCells cs i vs = some cs' →
    cs'.concL ρ ι = (vs.concL ρ ι).zipIdx.foldl (fun l p => l.set (i + p.2) p.1) (cs.concL ρ ι) ∧ cs'.len = cs.len ∧ (∀ n, cs.sc n = true → vs.sc n = true → cs'.sc n = true) ∧ (vs.len = 0 ∨ i + vs.len ≤ cs.len) := by
  intro vs
  induction vs with
  | cons v r _ ih =>
    intro cs cs' i h
    simp only [setCells] at h
    split at h
    · rename_i u hu
      obtain ⟨h1, h2, h3, h4⟩ := ih h
      have hi : i < cs.len := by
        have := SVal.concL_nth ρ ι cs i
        rw [hu] at this
        have := (List.getElem?_eq_some_iff.1 this).1
        rwa [SVal.concL_length] at this
      have hl : (cs.setAt i v).len = cs.len := by
        have := congrArg List.length (SVal.concL_setAt ρ ι cs i v)
        simpa [SVal.concL_length] using this
      refine ⟨?_, by rw [h2, hl], fun n hc hv => ?_, ?_⟩
      · rw [h1, SVal.concL_setAt]
        simp only [SVal.concL, List.zipIdx_cons, List.foldl_cons, Nat.add_zero]
        rw [show (0 : Nat) + 1 = 1 from rfl, List.zipIdx_succ]
        rw [List.foldl_map]
        congr 1
        funext l p
        obtain ⟨a, j⟩ := p
        show l.set (i + 1 + j) a = l.set (i + (j + 1)) a
        congr 1
        omega
      · simp only [SVal.sc, Bool.and_eq_true] at hv
        exact h3 n (SVal.sc_setAt _ _ _ hc hv.1) hv.2
      · right
        rw [hl] at h4
        simp only [SVal.len]
        omega
    · cases h
  | _ =>
    intro cs cs' i h
    simp only [setCells, Option.some.injEq] at h
    subst h
    exact ⟨by simp [SVal.concL], rfl, fun _ h _ => h, .inl rfl⟩

theorem foldl_setIfInBounds (vs : List Value) : ∀ (off : Nat) (cs : Array Value), (vs.toArray.zipIdx.foldl (fun cs (c, j) => cs.setIfInBounds (off + j) c) cs).toList = vs.zipIdx.foldl (fun l p => l.set (off + p.2) p.1) cs.toList := by
  intro off cs
  rw [← Array.foldl_toList]
  simp only [Array.toList_zipIdx]
  generalize vs.zipIdx = l
  induction l generalizing cs with
  | nil => rfl
  | cons p l ih => simp only [List.foldl_cons]; rw [ih]; simp

theorem cells_conc' (v : SVal) (hv : v.plain = true) : (v.conc ρ ι).cells = (v.cellsOf.concL ρ ι).toArray := by
  cases v <;> simp_all [SVal.conc, SVal.cellsOf, SVal.concL, Value.cells, undef, SVal.plain]

theorem fillT_conc {place : Nat → Option (Nat × Nat)} : ∀ {ps : List (Nat × SVal)} {cells cells' : SVal}, fillT place cells ps = some cells' →
    Instr.fill place (cells.concL ρ ι).toArray (ps.map fun p => (p.1, p.2.conc ρ ι)) = some (cells'.concL ρ ι).toArray ∧ (∀ n, cells.sc n = true → (∀ p ∈ ps, p.2.sc n = true) → cells'.sc n = true)
  | [], cells, cells', h => by simp [fillT] at h; subst h; simp [Instr.fill]
  | (i, v) :: ps, cells, cells', h => by
    unfold fillT at h
    split at h
    · cases h
    · rename_i off size hpl
      split at h
      · cases h
      · rename_i hsz
        simp only [Bool.and_eq_true] at hsz
        obtain ⟨⟨hsz, hle⟩, hpl'⟩ := hsz
        have hsz := Nat.eq_of_beq_eq_true hsz
        have hle := Nat.le_of_ble_eq_true hle
        split at h
        · rename_i cs1 hs
          have hv := cells_conc' (ρ := ρ) (ι := ι) v hpl'
          obtain ⟨h1, h2⟩ := fillT_conc h
          obtain ⟨k1, k2, k3, k4⟩ := concL_setCells (ρ := ρ) (ι := ι) hs
          refine ⟨?_, fun n hc hps => ?_⟩
          · simp only [List.map_cons, Instr.fill, hpl, hv]
            have e1 : (v.cellsOf.concL ρ ι).toArray.size = size := by simp [SVal.concL_length, hsz]
            have e2 : ¬ off + (v.cellsOf.concL ρ ι).toArray.size > (cells.concL ρ ι).toArray.size := by
              simp only [List.size_toArray, SVal.concL_length]
              omega
            rw [if_neg (by simp only [e1, ne_eq, not_true_eq_false, decide_false, Bool.false_or, decide_eq_true_eq]; rw [e1] at e2; exact e2)]
            rw [← h1]
            congr 1
            apply Array.ext'
            rw [foldl_setIfInBounds, k1]
          · have hv' : v.cellsOf.sc n = true := by
              have := hps _ (List.mem_cons_self ..)
              cases v <;> simp_all [SVal.cellsOf, SVal.sc]
            exact h2 n (k3 n hc hv') (fun p hp' => hps p (List.mem_cons_of_mem _ hp'))
        · cases h

theorem cellsOf_sc {v : SVal} {n : Nat} (h : v.sc n = true) : v.cellsOf.sc n = true := by
  cases v <;> simp_all [SVal.cellsOf, SVal.sc]

theorem zeroT_conc {t : TypeId} {z : SVal} (w : World) (h : zeroT P t = some z) : (zeroValue t).run P w = .ok (z.conc ρ ι) w ∧ z.sc 0 = true ∧ z.plain = true := by
  unfold zeroT at h
  split at h
  · rename_i i hi
    split at h
    · rename_i v hv
      obtain ⟨h1, h2⟩ := ofValue_conc (ρ := ρ) (ι := ι) h
      refine ⟨by simp [zeroValue, run_typeInfoT w hi, hv, h1], h2, ?_⟩
      unfold ofValue at h
      split at h
      · simp only [Option.map_eq_some_iff] at h; obtain ⟨l, _, rfl⟩ := h; rfl
      · simp only [Option.map_eq_some_iff] at h; obtain ⟨l, _, rfl⟩ := h; rfl
      · unfold ofCell at h; split at h <;> simp at h <;> subst h <;> rfl
    · cases h
  · cases h

/-- Running a function over the elements of a list. -/
theorem run_mapM_list {α β : Type} (w : World) (f : α → Sem β) (g : α → β) : ∀ l : List α, (∀ a ∈ l, (f a).run P w = .ok (g a) w) → (l.mapM f).run P w = .ok (l.map g) w
  | [], _ => by simp
  | a :: l, h => by
    rw [List.mapM_cons]
    simp only [Sem.run_bind, h a (by simp), Result.andThen_ok, run_mapM_list w f g l (fun b hb => h b (by simp [hb])), Sem.run_pure, List.map_cons]

theorem fill_congr {p q : Nat → Option (Nat × Nat)} : ∀ (l : List (Nat × Value)) (cs : Array Value), (∀ x ∈ l, p x.1 = q x.1) → Instr.fill p cs l = Instr.fill q cs l
  | [], cs, _ => rfl
  | (i, v) :: r, cs, h => by
    have e : p i = q i := h (i, v) (by simp)
    simp only [Instr.fill, e]
    cases q i with
    | none => rfl
    | some os =>
      obtain ⟨off, size⟩ := os
      simp only
      rw [fill_congr r _ (fun x hx => h x (by simp [hx]))]

theorem fillT_places {place : Nat → Option (Nat × Nat)} : ∀ {ps : List (Nat × SVal)} {cells cells' : SVal}, fillT place cells ps = some cells' → ∀ p ∈ ps, (place p.1).isSome = true
  | [], _, _, _ => by simp
  | (i, v) :: ps, cells, cells', h => by
    unfold fillT at h
    split at h
    · cases h
    · rename_i off size hpl
      split at h
      · cases h
      · split at h
        · intro p hp
          rcases List.mem_cons.1 hp with rfl | hp
          · simp [hpl]
          · exact fillT_places h p hp
        · cases h

theorem run_buildT (w : World) {t : TypeId} {ps : List (Nat × SVal)} {v : SVal} (h : buildT P t ps = some v) :
    (Instr.build t (ps.map fun p => (p.1, p.2.conc ρ ι)).toArray).run P w = .ok (v.conc ρ ι) w ∧ ∀ n, (∀ p ∈ ps, p.2.sc n = true) → v.sc n = true := by
  unfold buildT at h
  split at h
  · cases h
  · rename_i z hz
    obtain ⟨hz1, hz2, hz3⟩ := zeroT_conc (ρ := ρ) (ι := ι) w hz
    have hzc := cells_conc' (ρ := ρ) (ι := ι) z hz3
    split at h
    · rename_i fs hu
      split at h
      · cases h
      rename_i hall
      have hsz : ∀ f ∈ fs, (sizeT P f.type).isSome = true := fun f hf => (List.all_eq_true.1 hall) f (Array.mem_toList_iff.2 hf)
      simp only [Option.map_eq_some_iff] at h
      obtain ⟨cs, hcs, rfl⟩ := h
      obtain ⟨h1, h2⟩ := fillT_conc (ρ := ρ) (ι := ι) hcs
      refine ⟨?_, fun n hn => by simp only [SVal.sc]; exact h2 n (SVal.sc_mono (Nat.zero_le _) _ (cellsOf_sc hz2)) hn⟩
      have hm : (fs.mapM fun f => do pure (f.offset, ← sizeOf f.type) : Sem (Array (Nat × Nat))).run P w = .ok (fs.map fun f => (f.offset, (sizeT P f.type).getD 0)) w := by
        rw [Array.mapM_eq_mapM_toList]
        simp only [Sem.run_map]
        rw [run_mapM_list w _ (fun f => (f.offset, (sizeT P f.type).getD 0)) fs.toList]
        · simp only [Result.andThen_ok]
          congr 1
          apply Array.ext'
          simp
        · intro f hf
          have := hsz f (Array.mem_toList_iff.1 hf)
          obtain ⟨z', hz'⟩ := Option.isSome_iff_exists.1 this
          simp [run_sizeT w hz', hz']
      simp only [Instr.build, Sem.run_bind, hz1, Result.andThen_ok, run_underlying hu, hm, hzc]
      have e := fill_congr (p := fun i => (fs.map fun f => (f.offset, (sizeT P f.type).getD 0))[i]?) (q := placeS P fs)
        (ps.map fun p => (p.1, p.2.conc ρ ι)) (z.cellsOf.concL ρ ι).toArray (by
          intro x hx
          simp only [Array.getElem?_map, placeS]
          cases hfx : fs[x.1]? with
          | none => rfl
          | some f =>
            have := hsz f (Array.mem_of_getElem? hfx)
            obtain ⟨z', hz'⟩ := Option.isSome_iff_exists.1 this
            simp [hz'])
      rw [e, h1]
      simp [SVal.conc]
    · rename_i m e hu
      split at h
      · rename_i s hs
        simp only [Option.map_eq_some_iff] at h
        obtain ⟨cs, hcs, rfl⟩ := h
        obtain ⟨h1, h2⟩ := fillT_conc (ρ := ρ) (ι := ι) hcs
        refine ⟨?_, fun n hn => by simp only [SVal.sc]; exact h2 n (SVal.sc_mono (Nat.zero_le _) _ (cellsOf_sc hz2)) hn⟩
        simp only [Instr.build, Sem.run_bind, hz1, Result.andThen_ok, run_underlying hu, run_sizeT w hs, hzc, h1]
        simp [SVal.conc]
      · cases h
    · cases h

end
end Go.Sx
