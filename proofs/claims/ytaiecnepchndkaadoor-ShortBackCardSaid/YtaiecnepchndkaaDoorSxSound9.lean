/- The executor is right: regions whose order is open: whatever order. -/
import Derived.Test.YtaiecnepchndkaaDoorSxSound8
import Derived.Still
namespace Go.Sx

section
variable {ρ : Env} {cx : Cx} {S : Specs} {runC : Code → St → Tree (Ex × St)} {ops : Array Oper} {steps : List Stp} {g0 : Nat → Option SVal} {b0 : Nat → Option Blk} {n N0 N : Nat}

/-- All that is known of a region's steps. -/
structure TraceOk (ρ : Env) (cx : Cx) (S : Specs) (runC : Code → St → Tree (Ex × St)) (ops : Array Oper) (steps : List Stp) (g0 : Nat → Option SVal) (b0 : Nat → Option Blk) (n N0 N : Nat) : Prop where
  step : ∀ (i : Nat) (s : Stp), steps[i]? = some s → StepOk ρ cx S runC ops steps g0 b0 n i s
  len : steps.length = ops.size
  edges : ∀ (i : Nat) (s : Stp), steps[i]? = some s → ∀ e ∈ edgesB s.o.after.toList, e < i
  F : ∀ (i : Nat) (s : Stp), steps[i]? = some s → ∀ m ∈ s.F, m < s.σ.heap.length
  lohi : ∀ (i : Nat) (s : Stp), steps[i]? = some s → s.σ.heap.length ≤ s.x.h.length
  pairs : ∀ (i j : Nat) (s s' : Stp), i < j → steps[i]? = some s → steps[j]? = some s' → PairOk steps ops.toList i s s'
  chain : ∀ (i j : Nat) (s s' : Stp), i < j → steps[i]? = some s → steps[j]? = some s' → s.x.h.length ≤ s'.σ.heap.length
  lo : ∀ (i : Nat) (s : Stp), steps[i]? = some s → N0 ≤ s.σ.heap.length
  hi : ∀ (i : Nat) (s : Stp), steps[i]? = some s → s.x.h.length ≤ N
  base : N0 ≤ N
  g0sc : ∀ k v, g0 k = some v → v.sc N0 = true
  b0sc : ∀ m b, b0 m = some b → b.cells.sc N0 = true
  b0lt : ∀ m b, b0 m = some b → m < N0

variable (G : Globs) (K : Nat → Prop) (w0 : World)

structure Inv (ρ : Env) (G : Globs) (K : Nat → Prop) (w0 : World) (steps : List Stp) (g0 : Nat → Option SVal) (b0 : Nat → Option Blk) (n N N0 : Nat) (ι0 : Nm) (L : Nat → Bool) (ι : Nm) (a : Act) (w : World) : Prop where
  ext : Nm.Ext N0 ι0 ι
  size : a.tmps.size = n
  defers : a.defers = []
  slots : ∀ k v, foldW (wrtS n) L 0 steps g0 k = some v → a.tmps[k]? = some (v.conc ρ ι) ∧ v.sc N = true
  heap : HR ρ G K w0 ι ((List.range N).map (foldW wrtH L 0 steps b0)) w
  inside : ∀ (j : Nat) (s : Stp), steps[j]? = some s → L j = true → s.skip = false → s.x.v.sc s.x.h.length = true ∧ ∀ (m : Nat) (b : Blk), s.x.h[m]? = some (some b) → b.cells.sc s.x.h.length = true

theorem rangeMap_get {f : Nat → Option Blk} {m : Nat} {b : Blk} : ((List.range N).map f)[m]? = some (some b) ↔ m < N ∧ f m = some b := by
  rw [List.getElem?_map]
  by_cases hm : m < N
  · simp [hm]
  · rw [List.getElem?_eq_none (by simp; omega)]
    simp; omega

/-- A STEP COMES UP. -/
theorem step_inv (ok : cx.Ok) (hS : S.Ok ρ cx) (hB : ∀ f, S f ≠ none → ∃ fn c, cx.P.funcs[f]? = some fn ∧ fn.body = some c) (hR : RunOk ρ cx runC) (T : TraceOk ρ cx S runC ops steps g0 b0 n N0 N)
    {L : Nat → Bool} (hcl : Closed steps L) {i : Nat} {s : Stp} (hi : steps[i]? = some s) (hLi : L i = false) (hpre : ∀ e ∈ edgesB s.o.after.toList, L e = true)
    {ι0 ι : Nm} {a : Act} {w : World} (I : Inv ρ cx.globs K w0 steps g0 b0 n N N0 ι0 L ι a w) (next : Act → World → Prop) (Q : Exit → Act → World → Prop)
    (hn : ∀ ι' a' w', Inv ρ cx.globs K w0 steps g0 b0 n N N0 ι0 (fun j => L j || Nat.beq j i) ι' a' w' → next a' w') : wpOp cx.P ops Q i next a w := by
  have so := T.step i s hi
  -- a step ahead that has something in common has come up; one behind has not
  have ahead : ∀ (t : Nat) (s' : Stp), t < i → steps[t]? = some s' → Forced steps t s → L t = true := fun t s' _ _ he => he L hcl hpre
  have behind : ∀ (t : Nat) (s' : Stp), i < t → steps[t]? = some s' → Forced steps i s' → L t = false := by
    intro t s' _ hs' he
    cases hL : L t
    · rfl
    · have := he L hcl (hcl t s' hs' hL); rw [hLi] at this; cases this
  -- slots that are looked at
  have slotsAgree : ∀ k ∈ looksT ops.toList s.o, foldW (wrtS n) L 0 steps g0 k = foldW (wrtS n) (fun j => Nat.blt j i) 0 steps g0 k ∧ ∀ (t : Nat) (s' : Stp), steps[t]? = some s' → wrtS n s' k ≠ none → t < i → L t = true := by
    intro k hk
    have key : ∀ (t : Nat) (s' : Stp), steps[t]? = some s' → wrtS n s' k ≠ none → L t = Nat.blt t i ∧ (t < i → L t = true) := by
      intro t s' ht hw
      obtain ⟨v, hv⟩ := Option.ne_none_iff_exists'.1 hw
      have hd := (wrtS_some hv).1
      rcases Nat.lt_trichotomy t i with hlt | heq | hgt
      · have hp := (T.pairs t i s' s hlt ht hi).slots
        have hL : L t = true := by
          rcases hp with hp | ⟨hp, _, _⟩
          · exact ahead t s' hlt ht hp
          · exact ((hp k hd).1 hk).elim
        exact ⟨by rw [hL]; exact (Nat.ble_eq_true_of_le hlt).symm, fun _ => hL⟩
      · subst heq
        have : Nat.blt t t = false := by
          cases hb : Nat.blt t t
          · rfl
          · have := Nat.le_of_ble_eq_true hb; omega
        exact ⟨by rw [hLi, this], fun h => by omega⟩
      · have hp := (T.pairs i t s s' hgt hi ht).slots
        have hL : L t = false := by
          rcases hp with hp | ⟨_, hp, _⟩
          · exact behind t s' hgt ht hp
          · exact (hp k hd hk).elim
        have : Nat.blt t i = false := by
          cases hb : Nat.blt t i
          · rfl
          · have := Nat.le_of_ble_eq_true hb; omega
        exact ⟨by rw [hL, this], fun h => by omega⟩
    exact ⟨foldW_congr (wrtS n) steps 0 g0 g0 k rfl (fun t s' ht hw => by rw [Nat.zero_add]; exact (key t s' ht hw).1), fun t s' ht hw hlt => (key t s' ht hw).2 hlt⟩
  have hslots : SlotsOk ρ ι s.σ.heap.length s.σ.slots a := by
    intro k v hv
    rw [so.slots] at hv
    obtain ⟨hk, hv'⟩ := map_get hv
    obtain ⟨h1, h2⟩ := slotsAgree k hk
    refine ⟨(I.slots k v (by rw [h1]; exact hv')).1, ?_⟩
    rcases foldW_from (wrtS n) steps 0 g0 k (L := fun j => Nat.blt j i) with h | ⟨t, s', u, ht, hL, hw, he⟩
    · rw [hv'] at h
      exact SVal.sc_mono (T.lo i s hi) _ (T.g0sc k v h.symm)
    · simp only [Nat.zero_add] at hL
      have hti : t < i := Nat.le_of_ble_eq_true hL
      have hLt := h2 t s' ht (by simp [hw]) hti
      rw [hv'] at he
      subst he
      rcases (wrtS_some hw).2 with h | h
      · simp at h; subst h
        cases hsk : s'.skip
        · exact SVal.sc_mono (T.chain t i s' s hti ht hi) _ (I.inside t s' ht hLt hsk).1
        · rw [((T.step t s' ht).resS hsk).1]; rfl
      · cases h
  -- blocks that are touched
  have heapAgree : ∀ m ∈ s.F, foldW wrtH L 0 steps b0 m = foldW wrtH (fun j => Nat.blt j i) 0 steps b0 m ∧ ∀ (t : Nat) (s' : Stp), steps[t]? = some s' → wrtH s' m ≠ none → t < i → L t = true := by
    intro m hm
    have hskip : s.skip = false := by
      cases hsk : s.skip
      · rfl
      · rw [so.skipF hsk] at hm; cases hm
    have key : ∀ (t : Nat) (s' : Stp), steps[t]? = some s' → wrtH s' m ≠ none → L t = Nat.blt t i ∧ (t < i → L t = true) := by
      intro t s' ht hw
      obtain ⟨v, hv⟩ := Option.ne_none_iff_exists'.1 hw
      obtain ⟨w1, w2, _⟩ := wrtH_some hv
      rcases Nat.lt_trichotomy t i with hlt | heq | hgt
      · have hp := (T.pairs t i s' s hlt ht hi).slots
        have hL : L t = true := by
          rcases hp with hp | ⟨_, _, hp⟩
          · exact ahead t s' hlt ht hp
          · obtain ⟨q1, q2, q3, q4⟩ := hp w1 hskip
            rcases w2 with w2 | w2
            · exact (q1 m w2 hm).elim
            · exact (q3 m hm w2).elim
        exact ⟨by rw [hL]; exact (Nat.ble_eq_true_of_le hlt).symm, fun _ => hL⟩
      · subst heq
        have : Nat.blt t t = false := by
          cases hb : Nat.blt t t
          · rfl
          · have := Nat.le_of_ble_eq_true hb; omega
        exact ⟨by rw [hLi, this], fun h => by omega⟩
      · have hp := (T.pairs i t s s' hgt hi ht).slots
        have hL : L t = false := by
          rcases hp with hp | ⟨_, _, hp⟩
          · exact behind t s' hgt ht hp
          · obtain ⟨q1, q2, q3, q4⟩ := hp hskip w1
            rcases w2 with w2 | w2
            · exact (q2 m w2 hm).elim
            · have h1 := T.F i s hi m hm
              have h2 := T.lohi i s hi
              have h3 := T.chain i t s s' hgt hi ht
              omega
        have : Nat.blt t i = false := by
          cases hb : Nat.blt t i
          · rfl
          · have := Nat.le_of_ble_eq_true hb; omega
        exact ⟨by rw [hL, this], fun h => by omega⟩
    exact ⟨foldW_congr wrtH steps 0 b0 b0 m rfl (fun t s' ht hw => by rw [Nat.zero_add]; exact (key t s' ht hw).1), fun t s' ht hw hlt => (key t s' ht hw).2 hlt⟩
  have hloN : s.σ.heap.length ≤ N := Nat.le_trans (T.lohi i s hi) (T.hi i s hi)
  have hpart : ∀ (m : Nat) (b : Blk), s.σ.heap[m]? = some (some b) → ((List.range N).map (foldW wrtH L 0 steps b0))[m]? = some (some b) ∧ b.cells.sc s.σ.heap.length = true := by
    intro m b hb
    obtain ⟨h1, h2⟩ := so.heap m b hb
    obtain ⟨h3, h4⟩ := heapAgree m h1
    have hm := T.F i s hi m h1
    refine ⟨rangeMap_get.2 ⟨by omega, by rw [h3]; exact h2⟩, ?_⟩
    rcases foldW_from wrtH steps 0 b0 m (L := fun j => Nat.blt j i) with h | ⟨t, s', u, ht, hL, hw, he⟩
    · rw [h2] at h
      exact SVal.sc_mono (T.lo i s hi) _ (T.b0sc m b h.symm)
    · simp only [Nat.zero_add] at hL
      have hti : t < i := Nat.le_of_ble_eq_true hL
      have hLt := h4 t s' ht (by simp [hw]) hti
      obtain ⟨w1, w2, w3⟩ := wrtH_some hw
      rw [h2] at he
      rw [← he] at w3
      have hxb : s'.x.h[m]? = some (some b) := by
        cases hx : s'.x.h[m]? with
        | none => rw [hx] at w3; cases w3
        | some c => rw [hx] at w3; simp at w3; rw [w3]
      exact SVal.sc_mono (T.chain t i s' s hti ht hi) _ ((I.inside t s' ht hLt w1).2 m b hxb)
  obtain ⟨g, hg1, hg2⟩ := so.guard
  have hw := guardT_ok hslots hg1
  unfold wpOp
  rw [so.oper]
  simp only
  rw [hw, hg2]
  -- where the old values come from
  have oldS : ∀ k v, foldW (wrtS n) L 0 steps g0 k = some v → ∀ m ∈ v.names, ¬ (s.σ.heap.length ≤ m ∧ m < s.x.h.length) ∨ s.skip = true := by
    intro k v hv m hm
    cases hsk : s.skip
    · left
      rcases foldW_from (wrtS n) steps 0 g0 k (L := L) with h | ⟨t, s', u, ht, hL, hw', he⟩
      · rw [hv] at h
        have := names_sc (T.g0sc k v h.symm) m hm
        have := T.lo i s hi
        omega
      · simp only [Nat.zero_add] at hL
        rw [hv] at he
        subst he
        rcases (wrtS_some hw').2 with h | h
        · simp at h; subst h
          cases hsk' : s'.skip
          · rcases Nat.lt_trichotomy t i with hlt | heq | hgt
            · have := names_sc (I.inside t s' ht hL hsk').1 m hm
              have := T.chain t i s' s hlt ht hi
              omega
            · subst heq; rw [hLi] at hL; cases hL
            · rcases (T.pairs i t s s' hgt hi ht).slots with hp | ⟨_, _, hp⟩
              · rw [behind t s' hgt ht hp] at hL; cases hL
              · exact (hp hsk hsk').2.2.2 m (by simp [hm])
          · rw [((T.step t s' ht).resS hsk').1] at hm; simp [undefS, SVal.names] at hm
        · cases h
    · exact .inr rfl
  have oldB : ∀ q b, foldW wrtH L 0 steps b0 q = some b → s.skip = false → ∀ m ∈ b.cells.names, ¬ (s.σ.heap.length ≤ m ∧ m < s.x.h.length) := by
    intro q b hb hsk m hm
    rcases foldW_from wrtH steps 0 b0 q (L := L) with h | ⟨t, s', u, ht, hL, hw', he⟩
    · rw [hb] at h
      have := names_sc (T.b0sc q b h.symm) m hm
      have := T.lo i s hi
      omega
    · simp only [Nat.zero_add] at hL
      obtain ⟨w1, w2, w3⟩ := wrtH_some hw'
      rw [hb] at he
      rw [← he] at w3
      have hxb : s'.x.h[q]? = some (some b) := by
        cases hx : s'.x.h[q]? with
        | none => rw [hx] at w3; cases w3
        | some c => rw [hx] at w3; simp at w3; rw [w3]
      rcases Nat.lt_trichotomy t i with hlt | heq | hgt
      · have := names_sc ((I.inside t s' ht hL w1).2 q b hxb) m hm
        have := T.chain t i s' s hlt ht hi
        omega
      · subst heq; rw [hLi] at hL; cases hL
      · rcases (T.pairs i t s s' hgt hi ht).slots with hp | ⟨_, _, hp⟩
        · rw [behind t s' hgt ht hp] at hL; cases hL
        · refine (hp hsk w1).2.2.2 m ?_
          simp only [List.mem_append]
          rcases w2 with w2 | w2
          · exact .inl (.inr (mem_blockNames w2 hxb hm))
          · refine .inr (mem_heapNames (m := q - s'.σ.heap.length) ?_ hm)
            rw [List.getElem?_drop, show s'.σ.heap.length + (q - s'.σ.heap.length) = q by omega]
            exact hxb
  have addS : ∀ k, foldW (wrtS n) (fun j => L j || Nat.beq j i) 0 steps g0 k = (wrtS n s k).getD (foldW (wrtS n) L 0 steps g0 k) := by
    intro k
    refine foldW_add (wrtS n) steps g0 k i s hi ?_
    intro t s' hlt ht hw1 hw2
    obtain ⟨v1, hv1⟩ := Option.ne_none_iff_exists'.1 hw1
    obtain ⟨v2, hv2⟩ := Option.ne_none_iff_exists'.1 hw2
    rcases (T.pairs i t s s' hlt hi ht).slots with hp | ⟨hp, _, _⟩
    · exact behind t s' hlt ht hp
    · exact ((hp k (wrtS_some hv2).1).2 (wrtS_some hv1).1).elim
  have addH : ∀ m, foldW wrtH (fun j => L j || Nat.beq j i) 0 steps b0 m = (wrtH s m).getD (foldW wrtH L 0 steps b0 m) := by
    intro m
    refine foldW_add wrtH steps b0 m i s hi ?_
    intro t s' hlt ht hw1 hw2
    obtain ⟨v1, hv1⟩ := Option.ne_none_iff_exists'.1 hw1
    obtain ⟨v2, hv2⟩ := Option.ne_none_iff_exists'.1 hw2
    obtain ⟨a1, a2, _⟩ := wrtH_some hv1
    obtain ⟨c1, c2, _⟩ := wrtH_some hv2
    rcases (T.pairs i t s s' hlt hi ht).slots with hp | ⟨_, _, hp⟩
    · exact behind t s' hlt ht hp
    · obtain ⟨q1, q2, q3, q4⟩ := hp c1 a1
      have hch := T.chain i t s s' hlt hi ht
      rcases c2 with c2 | c2
      · have hmF := so.sub m c2
        rcases a2 with a2 | a2
        · exact (q1 m c2 ((T.step t s' ht).sub m a2)).elim
        · have := T.F i s hi m hmF
          have := T.lohi i s hi
          omega
      · rcases a2 with a2 | a2
        · exact (q3 m ((T.step t s' ht).sub m a2) c2).elim
        · omega
  have putSlots : ∀ (ι'' : Nm) (v : Value), (∀ k v, foldW (wrtS n) L 0 steps g0 k = some v → v.conc ρ ι'' = v.conc ρ ι) → v = s.x.v.conc ρ ι'' → s.x.v.sc N = true →
      ∀ k u, foldW (wrtS n) (fun j => L j || Nat.beq j i) 0 steps g0 k = some u → (a.put s.o.dst v).tmps[k]? = some (u.conc ρ ι'') ∧ u.sc N = true := by
    intro ι'' v hold hv hsc k u hu
    rw [addS k] at hu
    cases hws : wrtS n s k with
    | none =>
      rw [hws] at hu
      simp only [Option.getD_none] at hu
      obtain ⟨h1, h2⟩ := I.slots k u hu
      refine ⟨?_, h2⟩
      rw [hold k u hu]
      unfold wrtS at hws
      unfold Act.put
      split
      · rename_i d hd
        rw [hd] at hws
        simp only at hws
        split at hws
        · cases hws
        · rename_i hb
          have hne : d ≠ k := by rintro rfl; rw [Nat.beq_refl] at hb; cases hb
          simp only
          rw [Array.getElem?_setIfInBounds_ne (by omega)]
          exact h1
      · exact h1
    | some q =>
      rw [hws] at hu
      simp only [Option.getD_some] at hu
      subst hu
      have hd := (wrtS_some hws).1
      have hqv : u = s.x.v ∧ k < n := by
        unfold wrtS at hws
        rw [hd] at hws
        simp only [Nat.beq_refl, Option.some.injEq] at hws
        cases hb : Nat.blt k n
        · rw [hb] at hws; cases hws
        · rw [hb] at hws; simp at hws; exact ⟨hws.symm, Nat.le_of_ble_eq_true hb⟩
      obtain ⟨rfl, hkn⟩ := hqv
      refine ⟨?_, hsc⟩
      simp only [Act.put, hd]
      rw [Array.getElem?_setIfInBounds_self_of_lt (by rw [I.size]; exact hkn), hv]
  have putSize : ∀ v, (a.put s.o.dst v).tmps.size = n ∧ (a.put s.o.dst v).defers = [] := by
    intro v
    unfold Act.put
    split
    · exact ⟨by simpa using I.size, I.defers⟩
    · exact ⟨I.size, I.defers⟩
  cases hsk : s.skip
  · -- it is carried out
    simp only [Bool.not_false, if_true]
    left
    have Hp := I.heap.part hpart
    refine opT_ok ok hS hB hR (so.res hsk) hslots Hp so.pc next Q ?_
    intro ι' w' e1 e2 e3 e4 e5
    have hhi := T.hi i s hi
    let ι'' : Nm := { blk := fun m => if s.σ.heap.length ≤ m ∧ m < s.x.h.length then ι'.blk m else ι.blk m, cap := fun m => if s.σ.heap.length ≤ m ∧ m < s.x.h.length then ι'.cap m else ι.cap m }
    have ext'' : Nm.Ext s.x.h.length ι' ι'' := by
      intro m hm
      by_cases hlo : s.σ.heap.length ≤ m
      · simp [ι'', hlo, hm]
      · have := e1 m (by omega)
        simp [ι'', hlo, this.1, this.2]
    have out'' : ∀ m, ¬ (s.σ.heap.length ≤ m ∧ m < s.x.h.length) → ι''.blk m = ι.blk m ∧ ι''.cap m = ι.cap m := by
      intro m hm; simp [ι'', hm]
    have e3' := e3.ext ext''
    have hbk : ∀ q b, foldW wrtH L 0 steps b0 q = some b → b.cells.concL ρ ι'' = b.cells.concL ρ ι := fun q b hb => (conc_names b.cells (fun m hm => out'' m (oldB q b hb hsk m hm))).2
    refine hn ι'' _ w' ⟨I.ext.trans (Nat.le_refl _) (fun m hm => out'' m (fun hh => (by have := T.lo i s hi; omega))), (putSize _).1, (putSize _).2, ?_, ?_, ?_⟩
    · refine putSlots ι'' _ ?_ ?_ (SVal.sc_mono hhi _ e4)
      · intro k v hv
        refine (conc_names v (fun m hm => out'' m ?_)).1
        rcases oldS k v hv m hm with h | h
        · exact h
        · rw [hsk] at h; cases h
      · exact ((SVal.conc_ext (ρ := ρ) ext'' s.x.v e4).1).symm
    · -- the heap
      have notK : ∀ k, ¬ keepAll w ι s.σ.heap k → ¬ K k := by
        intro k hk hKk
        refine hk ⟨?_, ?_⟩
        · have := I.heap.old k hKk; have := I.heap.size; omega
        · intro m b hb he
          have := (I.heap.blocks m b (hpart m b hb).1).1
          rw [he] at this; exact this hKk
      have keepOf : ∀ q b, ((List.range N).map (foldW wrtH L 0 steps b0))[q]? = some (some b) → (∀ b', s.σ.heap[q]? ≠ some (some b')) → keepAll w ι s.σ.heap (ι.blk q) := by
        intro q b hb hno
        refine ⟨I.heap.lt hb, ?_⟩
        intro m b' hb' he
        have := I.heap.inj m q b' b (hpart m b' hb').1 hb he
        subst this
        exact hno b' hb'
      -- what a block is now
      have look : ∀ q b, ((List.range N).map (foldW wrtH (fun j => L j || Nat.beq j i) 0 steps b0))[q]? = some (some b) →
          (s.x.h[q]? = some (some b) ∧ (q ∈ s.F ∨ (s.σ.heap.length ≤ q ∧ q < s.x.h.length))) ∨
          (((List.range N).map (foldW wrtH L 0 steps b0))[q]? = some (some b) ∧ ¬ (s.σ.heap.length ≤ q ∧ q < s.x.h.length) ∧ ∀ b', s.σ.heap[q]? ≠ some (some b')) := by
        intro q b hb
        obtain ⟨hqN, hq⟩ := rangeMap_get.1 hb
        rw [addH q] at hq
        cases hwq : wrtH s q with
        | some v =>
          rw [hwq] at hq
          simp only [Option.getD_some] at hq
          subst hq
          obtain ⟨w1, w2, w3⟩ := wrtH_some hwq
          left
          refine ⟨?_, ?_⟩
          · cases hx : s.x.h[q]? with
            | none => rw [hx] at w3; cases w3
            | some c => rw [hx] at w3; simp at w3; rw [w3]
          · rcases w2 with w2 | w2
            · exact .inl (so.sub q w2)
            · exact .inr w2
        | none =>
          rw [hwq] at hq
          simp only [Option.getD_none] at hq
          obtain ⟨n1, n2⟩ := wrtH_none hsk hwq
          by_cases hex : ∃ b', s.σ.heap[q]? = some (some b')
          · obtain ⟨b', hb'⟩ := hex
            have h1 := (hpart q b' hb').1
            have h2 := (rangeMap_get.1 h1).2
            rw [hq] at h2
            simp at h2; subst h2
            have hF := (so.heap q b hb').1
            left
            exact ⟨by rw [so.unch hsk q hF n1]; exact hb', .inl hF⟩
          · right
            exact ⟨rangeMap_get.2 ⟨hqN, hq⟩, n2, fun b' hb' => hex ⟨b', hb'⟩⟩
      refine ⟨e3.os.trans I.heap.os, e3.tape.trans I.heap.tape, e3.output.trans I.heap.output, Nat.le_trans I.heap.size e3.size, ?_, I.heap.old, ?_, ?_, ?_, ?_⟩
      · intro k hk
        by_cases hkk : keepAll w ι s.σ.heap k
        · rw [e3.kept k hkk]; exact I.heap.kept k hk
        · exact (notK k hkk hk).elim
      · intro b hb
        by_cases hkk : keepAll w ι s.σ.heap b.block
        · have := I.heap.free b hb
          simp only [World.frozen?, e3.kept _ hkk] at this ⊢
          exact this
        · exact e3.free b hkk
      · intro q b hb
        have hlenR : ((List.range N).map (foldW wrtH (fun j => L j || Nat.beq j i) 0 steps b0)).length = N := by simp
        rw [hlenR]
        rcases look q b hb with ⟨h1, h2⟩ | ⟨h1, h2, h3⟩
        · obtain ⟨k1, k2, k3⟩ := e3'.blocks q b h1
          exact ⟨notK _ k1, k2, SVal.sc_mono hhi _ k3⟩
        · obtain ⟨k1, ⟨cs, k2, k3⟩, k4⟩ := I.heap.blocks q b h1
          have hkp := keepOf q b h1 h3
          obtain ⟨o1, o2⟩ := out'' q h2
          refine ⟨by rw [o1]; exact k1, ⟨cs, ?_, ?_⟩, by simpa using k4⟩
          · rw [o1, e3.kept _ hkp]; exact k2
          · rw [o2]
            unfold Blk.Fits at *
            rw [hbk q b (rangeMap_get.1 h1).2]
            exact k3
      · intro q1 q2 b1 b2 hb1 hb2 he
        rcases look q1 b1 hb1 with ⟨h1, _⟩ | ⟨h1, h1', h1''⟩ <;> rcases look q2 b2 hb2 with ⟨h2, _⟩ | ⟨h2, h2', h2''⟩
        · exact e3'.inj q1 q2 b1 b2 h1 h2 he
        · have hk := keepOf q2 b2 h2 h2''
          have := (e3'.blocks q1 b1 h1).1
          rw [he, (out'' q2 h2').1] at this
          exact (this hk).elim
        · have hk := keepOf q1 b1 h1 h1''
          have := (e3'.blocks q2 b2 h2).1
          rw [← he, (out'' q1 h1').1] at this
          exact (this hk).elim
        · rw [(out'' q1 h1').1, (out'' q2 h2').1] at he
          exact I.heap.inj q1 q2 b1 b2 h1 h2 he
      · intro g cs hg
        obtain ⟨k1, k2, arr, t, fz, k3, k4⟩ := I.heap.globs g cs hg
        refine ⟨k1, k2, arr, t, fz, k3, ?_⟩
        rw [k4]
        exact (SVal.conc_ext (ρ := ρ) (n := 0) (ι := ι) (ι' := ι'') (fun m hm => by omega) cs k2).2.symm
    · intro j s' hs' hL hsk'
      simp only [Bool.or_eq_true] at hL
      rcases hL with hL | hL
      · exact I.inside j s' hs' hL hsk'
      · have := Nat.eq_of_beq_eq_true hL
        subst this
        rw [hi] at hs'; simp at hs'; subst hs'
        exact ⟨e4, fun m b hb => (e3.blocks m b hb).2.2⟩
  · -- it is left out
    simp only [Bool.not_true, Bool.false_eq_true, if_false]
    have hux : s.x.v = undefS := (so.resS hsk).1
    have hu : undef = s.x.v.conc ρ ι := by rw [hux]; simp [undefS, SVal.conc, SVal.concL, undef]
    refine hn ι _ w ⟨I.ext, (putSize _).1, (putSize _).2, putSlots ι undef (fun _ _ _ => rfl) hu (by rw [hux]; rfl), ?_, ?_⟩
    · refine I.heap.forget ?_
      intro q b hb
      obtain ⟨hqN, hq⟩ := rangeMap_get.1 hb
      rw [addH q] at hq
      have : wrtH s q = none := by unfold wrtH; rw [hsk]
      rw [this] at hq
      have h1 := rangeMap_get.2 ⟨hqN, hq⟩
      have h2 := (I.heap.blocks q b h1).2.2
      exact ⟨h1, by simpa using h2⟩
    · intro j s' hs' hL hsk'
      simp only [Bool.or_eq_true] at hL
      rcases hL with hL | hL
      · exact I.inside j s' hs' hL hsk'
      · have := Nat.eq_of_beq_eq_true hL
        subst this
        rw [hi] at hs'; simp at hs'; subst hs'
        rw [hsk] at hsk'; cases hsk'

end
end Go.Sx
