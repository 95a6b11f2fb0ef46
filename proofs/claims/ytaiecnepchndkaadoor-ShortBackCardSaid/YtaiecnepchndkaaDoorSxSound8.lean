/- The executor is right: regions whose order is open. -/
import Derived.Test.YtaiecnepchndkaaDoorSxSound7
namespace Go.Sx

/-! ### What steps have written, whichever of them came up -/

section fold
variable {V : Type} (wrt : Stp → Nat → Option V)

def foldW (L : Nat → Bool) : Nat → List Stp → (Nat → V) → Nat → V
  | _, [], g => g
  | j, s :: r, g => foldW L (j + 1) r (fun k => match L j with | true => (wrt s k).getD (g k) | false => g k)

theorem foldW_congr {L L' : Nat → Bool} : ∀ (r : List Stp) (j : Nat) (g g' : Nat → V) (k : Nat), g k = g' k → (∀ t s, r[t]? = some s → wrt s k ≠ none → L (j + t) = L' (j + t)) →
    foldW wrt L j r g k = foldW wrt L' j r g' k
  | [], _, _, _, _, h, _ => h
  | s :: r, j, g, g', k, h, hL => by
    simp only [foldW]
    refine foldW_congr r (j + 1) _ _ k ?_ (fun t s' ht hw => by have := hL (t + 1) s' (by simpa using ht) hw; rwa [show j + (t + 1) = j + 1 + t by omega] at this)
    cases hw : wrt s k with
    | none => cases L j <;> cases L' j <;> simp [h]
    | some v =>
      have := hL 0 s (by simp) (by simp [hw])
      simp only [Nat.add_zero] at this
      rw [this]
      cases L' j <;> simp [h]

theorem foldW_last {L : Nat → Bool} : ∀ (r : List Stp) (j : Nat) (g : Nat → V) (k t : Nat) (s : Stp) (v : V), r[t]? = some s → wrt s k = some v → L (j + t) = true →
    (∀ t' s', t < t' → r[t']? = some s' → wrt s' k ≠ none → L (j + t') = false) → foldW wrt L j r g k = v
  | [], _, _, _, t, s, v, ht, _, _, _ => by simp at ht
  | s0 :: r, j, g, k, 0, s, v, ht, hw, hL, hlater => by
    simp at ht; subst ht
    simp only [foldW]
    have : foldW wrt L (j + 1) r (fun k => match L j with | true => (wrt s0 k).getD (g k) | false => g k) k = foldW wrt (fun _ => false) (j + 1) r (fun _ => v) k := by
      refine foldW_congr wrt r (j + 1) _ _ k ?_ ?_
      · simp only [Nat.add_zero] at hL; simp [hL, hw]
      · intro t' s' ht' hw'
        have := hlater (t' + 1) s' (by omega) (by simpa using ht') hw'
        rw [show j + (t' + 1) = j + 1 + t' by omega] at this
        exact this
    rw [this]
    clear this
    have : ∀ (r : List Stp) (j : Nat), foldW wrt (fun _ => false) j r (fun _ => v) k = v := by
      intro r
      induction r with
      | nil => intro j; rfl
      | cons s r ih => intro j; simp only [foldW]; exact ih _
    exact this _ _
  | s0 :: r, j, g, k, t + 1, s, v, ht, hw, hL, hlater => by
    simp only [foldW]
    refine foldW_last r (j + 1) _ k t s v (by simpa using ht) hw (by rwa [show j + 1 + t = j + (t + 1) by omega]) ?_
    intro t' s' hlt ht' hw'
    have := hlater (t' + 1) s' (by omega) (by simpa using ht') hw'
    rwa [show j + (t' + 1) = j + 1 + t' by omega] at this

/-- A step more. -/
theorem foldW_add {L : Nat → Bool} (r : List Stp) (g : Nat → V) (k i : Nat) (s : Stp) (hi : r[i]? = some s)
    (hlater : ∀ t' s', i < t' → r[t']? = some s' → wrt s' k ≠ none → wrt s k ≠ none → L t' = false) :
    foldW wrt (fun j => L j || Nat.beq j i) 0 r g k = (wrt s k).getD (foldW wrt L 0 r g k) := by
  cases hw : wrt s k with
  | none =>
    simp only [Option.getD_none]
    refine foldW_congr wrt r 0 g g k rfl ?_
    intro t s' ht hw'
    have hne : t ≠ i := by rintro rfl; rw [hi] at ht; simp at ht; subst ht; exact hw' hw
    simp [beq_false hne]
  | some v =>
    simp only [Option.getD_some]
    refine foldW_last wrt r 0 g k i s v hi hw (by simp) ?_
    intro t' s' hlt ht' hw'
    have := hlater t' s' hlt ht' hw' (by simp [hw])
    have hne : t' ≠ i := by omega
    simp [this, beq_false hne]

theorem foldW_none {L : Nat → Bool} (hL : ∀ j, L j = false) : ∀ (r : List Stp) (j : Nat) (g : Nat → V), foldW wrt L j r g = g
  | [], _, _ => rfl
  | s :: r, j, g => by
    simp only [foldW, hL]
    exact foldW_none hL r (j + 1) g

/-- Where a value came from. -/
theorem foldW_from {L : Nat → Bool} : ∀ (r : List Stp) (j : Nat) (g : Nat → V) (k : Nat), foldW wrt L j r g k = g k ∨ ∃ t s v, r[t]? = some s ∧ L (j + t) = true ∧ wrt s k = some v ∧ foldW wrt L j r g k = v
  | [], _, _, _ => .inl rfl
  | s :: r, j, g, k => by
    simp only [foldW]
    rcases foldW_from r (j + 1) (fun k => match L j with | true => (wrt s k).getD (g k) | false => g k) k with h | ⟨t, s', v, h1, h2, h3, h4⟩
    · rw [h]
      cases hL : L j
      · exact .inl rfl
      · cases hw : wrt s k with
        | none => exact .inl (by simp)
        | some v => exact .inr ⟨0, s, v, by simp, by simpa using hL, hw, by simp⟩
    · exact .inr ⟨t + 1, s', v, by simpa using h1, by rwa [show j + (t + 1) = j + 1 + t by omega], h3, h4⟩
end fold

/-- What a step writes: slots. -/
def wrtS (n : Nat) (s : Stp) (k : Nat) : Option (Option SVal) :=
  match s.o.dst with
  | some d => match Nat.beq k d with
    | true => some (match Nat.blt d n with | true => some s.x.v | false => none)
    | false => none
  | none => none

/-- What a step writes: blocks. -/
def wrtH (s : Stp) (m : Nat) : Option (Option Blk) :=
  match s.skip with
  | true => none
  | false => match memN m s.W || (Nat.ble s.σ.heap.length m && Nat.blt m s.x.h.length) with
    | true => some (s.x.h[m]?).join
    | false => none

theorem memN_iff {k : Nat} : ∀ {l : List Nat}, memN k l = true ↔ k ∈ l
  | [] => by simp [memN]
  | a :: r => by
    simp only [memN, Bool.or_eq_true, List.mem_cons, memN_iff (l := r)]
    constructor
    · rintro (h | h)
      · exact .inl (Nat.eq_of_beq_eq_true h)
      · exact .inr h
    · rintro (rfl | h)
      · exact .inl (Nat.beq_refl _)
      · exact .inr h

theorem disjointN_iff {l m : List Nat} : disjointN l m = true ↔ ∀ a ∈ l, a ∉ m := by
  induction l with
  | nil => simp [disjointN]
  | cons a r ih =>
    simp only [disjointN, Bool.and_eq_true, Bool.not_eq_true', ih, List.mem_cons, forall_eq_or_imp]
    constructor
    · rintro ⟨h1, h2⟩
      exact ⟨fun h => (by rw [memN_iff.2 h] at h1; cases h1), h2⟩
    · rintro ⟨h1, h2⟩
      refine ⟨?_, h2⟩
      cases hm : memN a m
      · rfl
      · exact (h1 (memN_iff.1 hm)).elim

theorem noneIn_iff {lo hi : Nat} {l : List Nat} : noneIn lo hi l = true ↔ ∀ a ∈ l, ¬ (lo ≤ a ∧ a < hi) := by
  induction l with
  | nil => simp [noneIn]
  | cons a r ih =>
    simp only [noneIn, Bool.and_eq_true, Bool.not_eq_true', ih, List.mem_cons, forall_eq_or_imp]
    refine and_congr_left fun _ => ?_
    constructor
    · intro h ⟨h1, h2⟩
      rw [show Nat.ble lo a = true from Nat.ble_eq_true_of_le h1, show Nat.blt a hi = true from Nat.ble_eq_true_of_le h2] at h
      cases h
    · intro h
      cases h1 : Nat.ble lo a
      · rfl
      · cases h2 : Nat.blt a hi
        · rfl
        · exact (h ⟨Nat.le_of_ble_eq_true h1, Nat.le_of_ble_eq_true h2⟩).elim

theorem allBelow_iff {n : Nat} {l : List Nat} : allBelow n l = true ↔ ∀ a ∈ l, a < n := by
  induction l with
  | nil => simp [allBelow]
  | cons a r ih =>
    simp only [allBelow, Bool.and_eq_true, ih, List.mem_cons, forall_eq_or_imp]
    refine and_congr_left fun _ => ?_
    constructor
    · intro h; exact Nat.le_of_ble_eq_true h
    · intro h; exact Nat.ble_eq_true_of_le h

/-- Values that speak of no names of some. -/
theorem conc_names {ρ : Env} {ι ι' : Nm} (v : SVal) (h : ∀ m ∈ v.names, ι'.blk m = ι.blk m ∧ ι'.cap m = ι.cap m) : v.conc ρ ι' = v.conc ρ ι ∧ v.concL ρ ι' = v.concL ρ ι := by
  induction v with
  | ptr b off => exact ⟨by simp [SVal.conc, (h b (by simp [SVal.names])).1], by simp [SVal.concL]⟩
  | ptrI b off i z => exact ⟨by simp [SVal.conc, (h b (by simp [SVal.names])).1], by simp [SVal.concL]⟩
  | slice b off len c =>
    cases c with
    | known m => exact ⟨by simp [SVal.conc, (h b (by simp [SVal.names])).1, Cap.ev], by simp [SVal.concL]⟩
    | of d => exact ⟨by simp [SVal.conc, (h b (by simp [SVal.names])).1, (h d (by simp [SVal.names])).2, Cap.ev], by simp [SVal.concL]⟩
  | agg l ih => exact ⟨by simp [SVal.conc, (ih h).2], by simp [SVal.concL]⟩
  | tup l ih => exact ⟨by simp [SVal.conc, (ih h).2], by simp [SVal.concL]⟩
  | func fn a b iha ihb => exact ⟨by simp [SVal.conc, (iha (fun m hm => h m (by simp [SVal.names, hm]))).2, (ihb (fun m hm => h m (by simp [SVal.names, hm]))).2], by simp [SVal.concL]⟩
  | iface t v ih => exact ⟨by simp [SVal.conc, (ih h).1], by simp [SVal.concL]⟩
  | cons a r iha ihr => exact ⟨by simp [SVal.conc], by simp [SVal.concL, (iha (fun m hm => h m (by simp [SVal.names, hm]))).1, (ihr (fun m hm => h m (by simp [SVal.names, hm]))).2]⟩
  | _ => exact ⟨by simp [SVal.conc], by simp [SVal.concL]⟩

theorem names_sc {v : SVal} {n : Nat} (h : v.sc n = true) : ∀ m ∈ v.names, m < n := by
  induction v with
  | ptr b off => simpa [SVal.names, SVal.sc] using h
  | ptrI b off i z => simpa [SVal.names, SVal.sc] using h
  | slice b off len c =>
    cases c with
    | known m => simpa [SVal.names, SVal.sc] using h
    | of d => simpa [SVal.names, SVal.sc] using h
  | agg l ih => exact ih h
  | tup l ih => exact ih h
  | func fn a b iha ihb =>
    simp only [SVal.sc, Bool.and_eq_true] at h
    intro m hm
    simp only [SVal.names, List.mem_append] at hm
    rcases hm with hm | hm
    · exact iha h.1 m hm
    · exact ihb h.2 m hm
  | iface t v ih => exact ih h
  | cons a r iha ihr =>
    simp only [SVal.sc, Bool.and_eq_true] at h
    intro m hm
    simp only [SVal.names, List.mem_append] at hm
    rcases hm with hm | hm
    · exact iha h.1 m hm
    · exact ihr h.2 m hm
  | _ => intro m hm; simp [SVal.names] at hm

/-! ### The steps of a region -/

section
variable {ρ : Env} {cx : Cx} {S : Specs} {runC : Code → St → Tree (Ex × St)} {ops : Array Oper} {steps : List Stp} {g0 : Nat → Option SVal} {b0 : Nat → Option Blk} {n N0 N : Nat}

structure StepOk (ρ : Env) (cx : Cx) (S : Specs) (runC : Code → St → Tree (Ex × St)) (ops : Array Oper) (steps : List Stp) (g0 : Nat → Option SVal) (b0 : Nat → Option Blk) (n : Nat) (i : Nat) (s : Stp) : Prop where
  oper : ops[i]? = some s.o
  slots : s.σ.slots = (looksT ops.toList s.o).map fun k => (k, foldW (wrtS n) (fun j => Nat.blt j i) 0 steps g0 k)
  pc : (s.σ.pc.den ρ).asBool = true
  guard : ∃ g, guardT ops.toList s.σ s.o = some g ∧ (g.den ρ).asBool = !s.skip
  heap : ∀ m b, s.σ.heap[m]? = some (some b) → m ∈ s.F ∧ foldW wrtH (fun j => Nat.blt j i) 0 steps b0 m = some b
  res : s.skip = false → (opT cx S runC s.σ s.o).get ρ = some s.x
  resS : s.skip = true → s.x.v = undefS ∧ s.x.h.length = s.σ.heap.length
  unch : s.skip = false → ∀ m ∈ s.F, m ∉ s.W → s.x.h[m]? = s.σ.heap[m]?
  sub : ∀ m ∈ s.W, m ∈ s.F
  skipF : s.skip = true → s.F = []

/-- What has come up is closed under what was waited for. -/
def Closed (steps : List Stp) (L : Nat → Bool) : Prop := ∀ (j : Nat) (s : Stp), steps[j]? = some s → L j = true → ∀ e ∈ edgesB s.o.after.toList, L e = true

/-- Whenever a step may come up, another one has. -/
def Forced (steps : List Stp) (i : Nat) (b : Stp) : Prop := ∀ L, Closed steps L → (∀ e ∈ edgesB b.o.after.toList, L e = true) → L i = true

/-- Two steps, the first of which stands ahead. -/
structure PairOk (steps : List Stp) (all : List Oper) (i : Nat) (a b : Stp) : Prop where
  slots : Forced steps i b ∨ ((∀ d, a.o.dst = some d → d ∉ looksT all b.o ∧ b.o.dst ≠ some d) ∧ (∀ d, b.o.dst = some d → d ∉ looksT all a.o) ∧
    (a.skip = false → b.skip = false → (∀ m ∈ a.W, m ∉ b.F) ∧ (∀ m ∈ b.W, m ∉ a.F) ∧ (∀ m ∈ b.F, ¬ (a.σ.heap.length ≤ m ∧ m < a.x.h.length)) ∧
      (∀ m ∈ b.x.v.names ++ blockNames b.x.h b.W ++ heapNames (b.x.h.drop b.σ.heap.length), ¬ (a.σ.heap.length ≤ m ∧ m < a.x.h.length))))

theorem pairOk_spec {steps : List Stp} {all : List Oper} {i : Nat} {a b : Stp} (h : pairOk i (a.sum all) (b.sum all) = true) : PairOk steps all i a b := by
  simp only [pairOk, Bool.or_eq_true] at h
  rcases h with h | h
  · exact ⟨.inl fun L _ hL => hL i (memN_iff.1 h)⟩
  · simp only [Bool.and_eq_true, Bool.not_eq_true', Bool.or_eq_true, Stp.sum] at h
    obtain ⟨⟨⟨h1, h2⟩, h3⟩, h4⟩ := h
    refine ⟨.inr ⟨?_, ?_, ?_⟩⟩
    · intro d hd
      rw [hd] at h1 h2
      refine ⟨fun hm => ?_, fun hb => ?_⟩
      · simp only [dstIn, memN_iff.2 hm] at h1; cases h1
      · rw [hb] at h2; simp only [sameDst, Nat.beq_refl] at h2; cases h2
    · intro d hd hm
      rw [hd] at h3
      simp only [dstIn, memN_iff.2 hm] at h3; cases h3
    · intro ha hb
      rw [ha, hb] at h4
      simp only [Bool.false_eq_true, false_or] at h4
      obtain ⟨⟨⟨k1, k2⟩, k3⟩, k4⟩ := h4
      exact ⟨disjointN_iff.1 k1, disjointN_iff.1 k2, noneIn_iff.1 k3, noneIn_iff.1 k4⟩

theorem bitN_testBit {m i : Nat} (h : bitN m i = true) : m.testBit i = true := by
  unfold bitN at h
  have h' : (m >>> i) &&& 1 = 1 := Nat.eq_of_beq_eq_true h
  rw [Nat.testBit_eq_decide_div_mod_eq]
  rw [Nat.and_one_is_mod, Nat.shiftRight_eq_div_pow] at h'
  simp [h']

/-- The bits of steps are right. -/
def MasksOk (steps : List Stp) (ms : List Nat) : Prop := ∀ (t : Nat) (m : Nat) (b : Stp), ms[t]? = some m → steps[t]? = some b → ∀ i, m.testBit i = true → Forced steps i b

theorem maskE_ok {steps : List Stp} {acc : List Nat} (h : MasksOk steps acc) {L : Nat → Bool} (hL : Closed steps L) (hlen : acc.length ≤ steps.length) {i : Nat} : ∀ {es : List Nat}, (∀ e ∈ es, L e = true) → (maskE acc es).testBit i = true → L i = true
  | [], _, hb => by simp [maskE] at hb
  | e :: r, hes, hb => by
    have hb' : ((1 <<< e ||| acc.getD e 0) ||| maskE acc r).testBit i = true := hb
    rw [Nat.testBit_or, Nat.testBit_or] at hb'
    simp only [Bool.or_eq_true] at hb'
    rcases hb' with (hb' | hb') | hb'
    · rw [Nat.one_shiftLeft, Nat.testBit_two_pow] at hb'
      have : e = i := by simpa using hb'
      exact this ▸ hes e (by simp)
    · rcases Nat.lt_or_ge e acc.length with hlt | hge
      · have h1 : acc[e]? = some (acc.getD e 0) := by simp [List.getD, hlt]
        obtain ⟨b, hb⟩ : ∃ b, steps[e]? = some b := ⟨_, List.getElem?_eq_getElem (by omega : e < steps.length)⟩
        exact h e _ b h1 hb i hb' L hL (hL e b hb (hes e (by simp)))
      · have h1 : acc.getD e 0 = 0 := by simp [List.getD, List.getElem?_eq_none hge]
        rw [h1] at hb'; simp at hb'
    · exact maskE_ok h hL hlen (fun e he => hes e (by simp [he])) hb'

theorem masksE_step (acc : List Nat) (a : Sum) (r : List Sum) : masksE acc (a :: r) = masksE (acc ++ [maskE acc a.edges]) r := by
  rw [masksE]
  split
  · rename_i h; rw [h]
  · rename_i n h; rw [h]

theorem masksE_ok {steps : List Stp} {all : List Oper} : ∀ (l pre : List Stp) (acc : List Nat), pre ++ l = steps → acc.length = pre.length → MasksOk steps acc → MasksOk steps (masksE acc (l.map (Stp.sum all)))
  | [], _, acc, _, _, h => by simpa [masksE] using h
  | a :: l, pre, acc, hs, hl, h => by
    rw [List.map_cons, masksE_step]
    refine masksE_ok l (pre ++ [a]) _ (by simpa using hs) (by simp [hl]) ?_
    intro t m b hm hb i hi
    rcases Nat.lt_or_ge t acc.length with hlt | hge
    · rw [List.getElem?_append_left hlt] at hm
      exact h t m b hm hb i hi
    · rw [List.getElem?_append_right hge] at hm
      have ht : t - acc.length = 0 := by
        rcases Nat.eq_zero_or_pos (t - acc.length) with h | h
        · exact h
        · rw [List.getElem?_eq_none (by simp; omega)] at hm; cases hm
      rw [ht] at hm
      simp only [List.getElem?_cons_zero, Option.some.injEq] at hm
      have : t = pre.length := by omega
      subst this
      rw [← hs, List.getElem?_append_right (Nat.le_refl _), Nat.sub_self] at hb
      simp only [List.getElem?_cons_zero, Option.some.injEq] at hb
      subst hb
      subst hm
      intro L hL hes
      exact maskE_ok h hL (by rw [← hs]; simp; omega) hes hi

theorem pairsFrom_spec {steps : List Stp} {all : List Oper} {i : Nat} {a : Stp} : ∀ {l : List Stp} {ms : List Nat}, pairsFrom i (a.sum all) ms (l.map (Stp.sum all)) = true →
    (∀ (t : Nat) (m : Nat) (b : Stp), ms[t]? = some m → l[t]? = some b → ∀ i, m.testBit i = true → Forced steps i b) → ∀ b ∈ l, PairOk steps all i a b
  | [], _, _, _ => by simp
  | b :: l, [], h, _ => by simp [pairsFrom] at h
  | b :: l, m :: ms, h, hm => by
    simp only [List.map_cons, pairsFrom, Bool.and_eq_true] at h
    intro c hc
    rcases List.mem_cons.1 hc with rfl | hc
    · rcases Bool.or_eq_true_iff.1 h.1 with h1 | h1
      · exact pairOk_spec h1
      · exact ⟨.inl (hm 0 m c (by simp) (by simp) i (bitN_testBit h1))⟩
    · exact pairsFrom_spec h.2 (fun t m b h1 h2 => hm (t + 1) m b (by simpa using h1) (by simpa using h2)) c hc

theorem detGo_spec {steps : List Stp} {all : List Oper} : ∀ {l : List Stp} {i : Nat} {ms : List Nat}, detGo i ms (l.map (Stp.sum all)) = true →
    (∀ (t : Nat) (m : Nat) (b : Stp), ms[t]? = some m → l[t]? = some b → ∀ i, m.testBit i = true → Forced steps i b) →
    (∀ t s, l[t]? = some s → (∀ e ∈ edgesB s.o.after.toList, e < i + t) ∧ (∀ m ∈ s.F, m < s.σ.heap.length) ∧ s.σ.heap.length ≤ s.x.h.length) ∧
    (∀ t t' s s', t < t' → l[t]? = some s → l[t']? = some s' → PairOk steps all (i + t) s s')
  | [], i, _, _, _ => ⟨by simp, by simp⟩
  | a :: l, i, ms, h, hm => by
    simp only [List.map_cons, detGo, Bool.and_eq_true] at h
    obtain ⟨⟨⟨⟨h1, h2⟩, h3⟩, h4⟩, h5⟩ := h
    have hm' : ∀ (t : Nat) (m : Nat) (b : Stp), ms.tail[t]? = some m → l[t]? = some b → ∀ i, m.testBit i = true → Forced steps i b := by
      intro t m b h1 h2
      refine hm (t + 1) m b ?_ (by simpa using h2)
      cases ms with
      | nil => simp at h1
      | cons x ms => simpa using h1
    obtain ⟨k1, k2⟩ := detGo_spec h5 hm'
    refine ⟨?_, ?_⟩
    · intro t s hs
      cases t with
      | zero => simp at hs; subst hs; exact ⟨allBelow_iff.1 h1, allBelow_iff.1 h2, Nat.le_of_ble_eq_true h3⟩
      | succ t =>
        have := k1 t s (by simpa using hs)
        rwa [show i + 1 + t = i + (t + 1) by omega] at this
    · intro t t' s s' hlt hs hs'
      cases t' with
      | zero => omega
      | succ t' =>
        cases t with
        | zero =>
          simp at hs; subst hs
          exact pairsFrom_spec h4 hm' s' (List.mem_of_getElem? (by simpa using hs'))
        | succ t =>
          have := k2 t t' s s' (by omega) (by simpa using hs) (by simpa using hs')
          rwa [show i + 1 + t = i + (t + 1) by omega] at this

theorem detFrom_spec {all : List Oper} {l : List Stp} (h : detFrom (l.map (Stp.sum all)) = true) :
    (∀ t s, l[t]? = some s → (∀ e ∈ edgesB s.o.after.toList, e < t) ∧ (∀ m ∈ s.F, m < s.σ.heap.length) ∧ s.σ.heap.length ≤ s.x.h.length) ∧
    (∀ t t' s s', t < t' → l[t]? = some s → l[t']? = some s' → PairOk l all t s s') := by
  have hm : MasksOk l (masksE [] (l.map (Stp.sum all))) := masksE_ok l [] [] rfl rfl (by intro t m b h; simp at h)
  have := detGo_spec (steps := l) h hm
  simpa only [Nat.zero_add] using this

theorem wrtS_some {s : Stp} {k : Nat} {v : Option SVal} (h : wrtS n s k = some v) : s.o.dst = some k ∧ (v = some s.x.v ∨ v = none) := by
  unfold wrtS at h
  split at h
  · rename_i d hd
    split at h
    · rename_i hb
      have := Nat.eq_of_beq_eq_true hb
      subst this
      simp only [Option.some.injEq] at h
      refine ⟨hd, ?_⟩
      subst h
      cases Nat.blt k n <;> simp
    · cases h
  · cases h

theorem wrtH_some {s : Stp} {m : Nat} {v : Option Blk} (h : wrtH s m = some v) : s.skip = false ∧ (m ∈ s.W ∨ (s.σ.heap.length ≤ m ∧ m < s.x.h.length)) ∧ v = (s.x.h[m]?).join := by
  unfold wrtH at h
  split at h
  · cases h
  · rename_i hs
    split at h
    · rename_i hm
      simp only [Option.some.injEq] at h
      refine ⟨hs, ?_, h.symm⟩
      simp only [Bool.or_eq_true, Bool.and_eq_true] at hm
      rcases hm with hm | ⟨h1, h2⟩
      · exact .inl (memN_iff.1 hm)
      · exact .inr ⟨Nat.le_of_ble_eq_true h1, Nat.le_of_ble_eq_true h2⟩
    · cases h

theorem wrtH_none {s : Stp} {m : Nat} (hs : s.skip = false) (h : wrtH s m = none) : m ∉ s.W ∧ ¬ (s.σ.heap.length ≤ m ∧ m < s.x.h.length) := by
  unfold wrtH at h
  rw [hs] at h
  simp only at h
  split at h
  · cases h
  · rename_i hm
    simp only [Bool.or_eq_false_iff] at hm
    refine ⟨fun hh => (by rw [memN_iff.2 hh] at hm; cases hm.1), fun ⟨h1, h2⟩ => ?_⟩
    rw [show Nat.ble _ m = true from Nat.ble_eq_true_of_le h1, show Nat.blt m _ = true from Nat.ble_eq_true_of_le h2] at hm
    cases hm.2

theorem map_get {f : Nat → Option SVal} {k : Nat} {v : SVal} : ∀ {l : List Nat}, Slots.get (l.map fun k => (k, f k)) k = some v → k ∈ l ∧ f k = some v
  | [], h => by simp [Slots.get] at h
  | a :: l, h => by
    simp only [List.map_cons] at h
    by_cases hk : k = a
    · subst hk; rw [Slots.get_cons_self] at h; exact ⟨by simp, h⟩
    · rw [Slots.get_cons_ne hk] at h
      obtain ⟨h1, h2⟩ := map_get h
      exact ⟨by simp [h1], h2⟩

theorem mem_blockNames {h : Heap} {m q : Nat} {b : Blk} : ∀ {l : List Nat}, m ∈ l → h[m]? = some (some b) → q ∈ b.cells.names → q ∈ blockNames h l
  | [], hm, _, _ => by cases hm
  | a :: l, hm, hb, hq => by
    simp only [blockNames, List.mem_append]
    rcases List.mem_cons.1 hm with rfl | hm
    · left; rw [hb]; exact hq
    · right; exact mem_blockNames hm hb hq

theorem mem_heapNames {q : Nat} {b : Blk} : ∀ {h : Heap} {m : Nat}, h[m]? = some (some b) → q ∈ b.cells.names → q ∈ heapNames h
  | [], m, hb, _ => by simp at hb
  | none :: h, 0, hb, _ => by simp at hb
  | none :: h, m + 1, hb, hq => by simp only [heapNames]; exact mem_heapNames (by simpa using hb) hq
  | some c :: h, 0, hb, hq => by simp at hb; subst hb; simp [heapNames, hq]
  | some c :: h, m + 1, hb, hq => by simp only [heapNames, List.mem_append]; right; exact mem_heapNames (by simpa using hb) hq

end
end Go.Sx
