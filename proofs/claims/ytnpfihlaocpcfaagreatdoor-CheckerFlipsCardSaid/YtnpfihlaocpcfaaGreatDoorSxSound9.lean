/- The executor is right: regions whose order is open. -/
import Derived.Test.YtnpfihlaocpcfaaGreatDoorSxSound7
import Derived.Still
namespace Go.Sx
noncomputable section

/-! ### What steps have written, whichever of them came up -/

section fold
variable {V : Type} (wrt : Stp → Nat → Option V)

def foldW (L : Nat → Bool) : Nat → List Stp → (Nat → V) → Nat → V
  | _, [], g => g
  | j, s :: r, g => foldW L (j + 1) r (fun k => match L j with | true => (wrt s k).getD (g k) | false => g k)

theorem foldW_congr {L L' : Nat → Bool} : ∀ (r : List Stp) (j : Nat) (g g' : Nat → V) (k : Nat), g k = g' k → (∀ t s, r[t]? = some s → wrt s k ≠ none → L (j + t) = L' (j + t)) →
    foldW wrt L j r g k = foldW wrt L' j r g' k
  | [], _, _, _, _, h, _ => h
  | s :: r, j, g, g', k, h, hL => by
    simp only [foldW]
    refine foldW_congr r (j + 1) _ _ k ?_ (fun t s' ht hw => by have := hL (t + 1) s' (by simpa using ht) hw; rwa [show j + (t + 1) = j + 1 + t by omega] at this)
    cases hw : wrt s k with
    | none => cases L j <;> cases L' j <;> simp [h]
    | some v =>
      have := hL 0 s (by simp) (by simp [hw])
      simp only [Nat.add_zero] at this
      rw [this]
      cases L' j <;> simp [h]

theorem foldW_last {L : Nat → Bool} : ∀ (r : List Stp) (j : Nat) (g : Nat → V) (k t : Nat) (s : Stp) (v : V), r[t]? = some s → wrt s k = some v → L (j + t) = true →
    (∀ t' s', t < t' → r[t']? = some s' → wrt s' k ≠ none → L (j + t') = false) → foldW wrt L j r g k = v
  | [], _, _, _, t, s, v, ht, _, _, _ => by simp at ht
  | s0 :: r, j, g, k, 0, s, v, ht, hw, hL, hlater => by
    simp at ht; subst ht
    simp only [foldW]
    have : foldW wrt L (j + 1) r (fun k => match L j with | true => (wrt s0 k).getD (g k) | false => g k) k = foldW wrt (fun _ => false) (j + 1) r (fun _ => v) k := by
      refine foldW_congr wrt r (j + 1) _ _ k ?_ ?_
      · simp only [Nat.add_zero] at hL; simp [hL, hw]
      · intro t' s' ht' hw'
        have := hlater (t' + 1) s' (by omega) (by simpa using ht') hw'
        rw [show j + (t' + 1) = j + 1 + t' by omega] at this
        exact this
    rw [this]
    clear this
    have : ∀ (r : List Stp) (j : Nat), foldW wrt (fun _ => false) j r (fun _ => v) k = v := by
      intro r
      induction r with
      | nil => intro j; rfl
      | cons s r ih => intro j; simp only [foldW]; exact ih _
    exact this _ _
  | s0 :: r, j, g, k, t + 1, s, v, ht, hw, hL, hlater => by
    simp only [foldW]
    refine foldW_last r (j + 1) _ k t s v (by simpa using ht) hw (by rwa [show j + 1 + t = j + (t + 1) by omega]) ?_
    intro t' s' hlt ht' hw'
    have := hlater (t' + 1) s' (by omega) (by simpa using ht') hw'
    rwa [show j + (t' + 1) = j + 1 + t' by omega] at this

/-- A step more. -/
theorem foldW_add {L : Nat → Bool} (r : List Stp) (g : Nat → V) (k i : Nat) (s : Stp) (hi : r[i]? = some s)
    (hlater : ∀ t' s', i < t' → r[t']? = some s' → wrt s' k ≠ none → wrt s k ≠ none → L t' = false) :
    foldW wrt (fun j => L j || Nat.beq j i) 0 r g k = (wrt s k).getD (foldW wrt L 0 r g k) := by
  cases hw : wrt s k with
  | none =>
    simp only [Option.getD_none]
    refine foldW_congr wrt r 0 g g k rfl ?_
    intro t s' ht hw'
    have hne : t ≠ i := by rintro rfl; rw [hi] at ht; simp at ht; subst ht; exact hw' hw
    simp [beq_false hne]
  | some v =>
    simp only [Option.getD_some]
    refine foldW_last wrt r 0 g k i s v hi hw (by simp) ?_
    intro t' s' hlt ht' hw'
    have := hlater t' s' hlt ht' hw' (by simp [hw])
    have hne : t' ≠ i := by omega
    simp [this, beq_false hne]

theorem foldW_none {L : Nat → Bool} (hL : ∀ j, L j = false) : ∀ (r : List Stp) (j : Nat) (g : Nat → V), foldW wrt L j r g = g
  | [], _, _ => rfl
  | s :: r, j, g => by
    simp only [foldW, hL]
    exact foldW_none hL r (j + 1) g

/-- Where a value came from. -/
theorem foldW_from {L : Nat → Bool} : ∀ (r : List Stp) (j : Nat) (g : Nat → V) (k : Nat), foldW wrt L j r g k = g k ∨ ∃ t s v, r[t]? = some s ∧ L (j + t) = true ∧ wrt s k = some v ∧ foldW wrt L j r g k = v
  | [], _, _, _ => .inl rfl
  | s :: r, j, g, k => by
    simp only [foldW]
    rcases foldW_from r (j + 1) (fun k => match L j with | true => (wrt s k).getD (g k) | false => g k) k with h | ⟨t, s', v, h1, h2, h3, h4⟩
    · rw [h]
      cases hL : L j
      · exact .inl rfl
      · cases hw : wrt s k with
        | none => exact .inl (by simp)
        | some v => exact .inr ⟨0, s, v, by simp, by simpa using hL, hw, by simp⟩
    · exact .inr ⟨t + 1, s', v, by simpa using h1, by rwa [show j + (t + 1) = j + 1 + t by omega], h3, h4⟩
end fold

/-- What a step writes: slots. -/
def wrtS (n : Nat) (s : Stp) (k : Nat) : Option (Option SVal) :=
  match s.o.dst with
  | some d => match Nat.beq k d with
    | true => some (match Nat.blt d n with | true => some s.x.v | false => none)
    | false => none
  | none => none

/-- What a step writes: blocks. -/
def wrtH (s : Stp) (m : Nat) : Option (Option Blk) :=
  match s.skip with
  | true => none
  | false => match memN m s.W || (Nat.ble s.σ.heap.length m && Nat.blt m s.x.h.length) with
    | true => some (s.x.h[m]?).join
    | false => none

theorem memN_iff {k : Nat} : ∀ {l : List Nat}, memN k l = true ↔ k ∈ l
  | [] => by simp [memN_nil]
  | a :: r => by
    simp only [memN_c, Bool.or_eq_true, List.mem_cons, memN_iff (l := r)]
    constructor
    · rintro (h | h)
      · exact .inl (Nat.eq_of_beq_eq_true h)
      · exact .inr h
    · rintro (rfl | h)
      · exact .inl (Nat.beq_refl _)
      · exact .inr h

theorem disjointN_iff {l m : List Nat} : disjointN l m = true ↔ ∀ a ∈ l, a ∉ m := by
  induction l with
  | nil => simp [disjointN]
  | cons a r ih =>
    simp only [disjointN, Bool.and_eq_true, Bool.not_eq_true', ih, List.mem_cons, forall_eq_or_imp]
    constructor
    · rintro ⟨h1, h2⟩
      exact ⟨fun h => (by rw [memN_iff.2 h] at h1; cases h1), h2⟩
    · rintro ⟨h1, h2⟩
      refine ⟨?_, h2⟩
      cases hm : memN a m
      · rfl
      · exact (h1 (memN_iff.1 hm)).elim

theorem noneIn_iff {lo hi : Nat} {l : List Nat} : noneIn lo hi l = true ↔ ∀ a ∈ l, ¬ (lo ≤ a ∧ a < hi) := by
  induction l with
  | nil => simp [noneIn]
  | cons a r ih =>
    simp only [noneIn, Bool.and_eq_true, Bool.not_eq_true', ih, List.mem_cons, forall_eq_or_imp]
    refine and_congr_left fun _ => ?_
    constructor
    · intro h ⟨h1, h2⟩
      rw [show Nat.ble lo a = true from Nat.ble_eq_true_of_le h1, show Nat.blt a hi = true from Nat.ble_eq_true_of_le h2] at h
      cases h
    · intro h
      cases h1 : Nat.ble lo a
      · rfl
      · cases h2 : Nat.blt a hi
        · rfl
        · exact (h ⟨Nat.le_of_ble_eq_true h1, Nat.le_of_ble_eq_true h2⟩).elim

theorem allBelow_iff {n : Nat} {l : List Nat} : allBelow n l = true ↔ ∀ a ∈ l, a < n := by
  induction l with
  | nil => simp [allBelow]
  | cons a r ih =>
    simp only [allBelow, Bool.and_eq_true, ih, List.mem_cons, forall_eq_or_imp]
    refine and_congr_left fun _ => ?_
    constructor
    · intro h; exact Nat.le_of_ble_eq_true h
    · intro h; exact Nat.ble_eq_true_of_le h

/-- Values that speak of no names of some. -/
theorem conc_names {ρ : Env} {ι ι' : Nm} (v : SVal) (h : ∀ m ∈ v.names, ι'.blk m = ι.blk m ∧ ι'.cap m = ι.cap m ∧ ι'.val m = ι.val m ∧ ι'.foot m = ι.foot m) : v.conc ρ ι' = v.conc ρ ι ∧ v.concL ρ ι' = v.concL ρ ι := by
  induction v with
  | ptr b off => exact ⟨by simp [SVal.conc, (h b (by simp [SVal.names])).1], by simp [SVal.concL]⟩
  | ptrI b off i z => exact ⟨by simp [SVal.conc, (h b (by simp [SVal.names])).1], by simp [SVal.concL]⟩
  | slice b off len c =>
    cases c with
    | known m => exact ⟨by simp [SVal.conc, (h b (by simp [SVal.names])).1, Cap.ev], by simp [SVal.concL]⟩
    | of d => exact ⟨by simp [SVal.conc, (h b (by simp [SVal.names])).1, (h d (by simp [SVal.names])).2.1, Cap.ev], by simp [SVal.concL]⟩
    | sub d k => exact ⟨by simp [SVal.conc, (h b (by simp [SVal.names])).1, (h d (by simp [SVal.names])).2.1, Cap.ev], by simp [SVal.concL]⟩
  | agg l ih => exact ⟨by simp [SVal.conc, (ih h).2], by simp [SVal.concL]⟩
  | tup l ih => exact ⟨by simp [SVal.conc, (ih h).2], by simp [SVal.concL]⟩
  | func fn a b iha ihb => exact ⟨by simp [SVal.conc, (iha (fun m hm => h m (by simp [SVal.names, hm]))).2, (ihb (fun m hm => h m (by simp [SVal.names, hm]))).2], by simp [SVal.concL]⟩
  | iface t v ih => exact ⟨by simp [SVal.conc, (ih h).1], by simp [SVal.concL]⟩
  | abs b => exact ⟨by simp [SVal.conc, (h b (by simp [SVal.names])).2.2.1], by simp [SVal.concL]⟩
  | ptrA b off i z => exact ⟨by simp [SVal.conc, (h b (by simp [SVal.names])).2.2.1], by simp [SVal.concL]⟩
  | cons a r iha ihr => exact ⟨by simp [SVal.conc], by simp [SVal.concL, (iha (fun m hm => h m (by simp [SVal.names, hm]))).1, (ihr (fun m hm => h m (by simp [SVal.names, hm]))).2]⟩
  | _ => exact ⟨by simp [SVal.conc], by simp [SVal.concL]⟩

theorem names_sc {v : SVal} {n : Nat} (h : v.sc n = true) : ∀ m ∈ v.names, m < n := by
  induction v with
  | ptr b off => simpa [SVal.names, SVal.sc] using h
  | ptrI b off i z => simpa [SVal.names, SVal.sc] using h
  | ptrA b off i z => simpa [SVal.names, SVal.sc] using h
  | slice b off len c =>
    cases c with
    | known m => simpa [SVal.names, SVal.sc] using h
    | of d => simpa [SVal.names, SVal.sc] using h
    | sub d k => simpa [SVal.names, SVal.sc] using h
  | agg l ih => exact ih h
  | tup l ih => exact ih h
  | func fn a b iha ihb =>
    simp only [SVal.sc, Bool.and_eq_true] at h
    intro m hm
    simp only [SVal.names, List.mem_append] at hm
    rcases hm with hm | hm
    · exact iha h.1 m hm
    · exact ihb h.2 m hm
  | iface t v ih => exact ih h
  | abs b => simpa [SVal.names, SVal.sc] using h
  | cons a r iha ihr =>
    simp only [SVal.sc, Bool.and_eq_true] at h
    intro m hm
    simp only [SVal.names, List.mem_append] at hm
    rcases hm with hm | hm
    · exact iha h.1 m hm
    · exact ihr h.2 m hm
  | _ => intro m hm; simp [SVal.names] at hm

/-! ### The steps of a region -/

section
variable {ρ : Env} {cx : Cx} {S : Specs} {runC : Code → St → Tree (Ex × St)} {ops : Array Oper} {steps : List Stp} {g0 : Nat → Option SVal} {b0 : Nat → Option Blk} {n N0 N : Nat}

structure StepOk (ρ : Env) (cx : Cx) (S : Specs) (runC : Code → St → Tree (Ex × St)) (ops : Array Oper) (steps : List Stp) (g0 : Nat → Option SVal) (b0 : Nat → Option Blk) (n : Nat) (i : Nat) (s : Stp) : Prop where
  oper : ops[i]? = some s.o
  slots : s.σ.slots = (looksT ops.toList s.o).map fun k => (k, foldW (wrtS n) (fun j => Nat.blt j i) 0 steps g0 k)
  pc : (s.σ.pc.den ρ).asBool = true
  guard : ∃ g, guardT ops.toList s.σ s.o = some g ∧ (g.den ρ).asBool = !s.skip
  heap : ∀ m b, s.σ.heap[m]? = some (some b) → m ∈ s.F ∧ foldW wrtH (fun j => Nat.blt j i) 0 steps b0 m = some b
  res : s.skip = false → (opT cx S runC s.σ s.o).get ρ = some s.x
  resS : s.skip = true → s.x.v = undefS ∧ s.x.h.length = s.σ.heap.length
  unch : s.skip = false → ∀ m ∈ s.F, m ∉ s.W → s.x.h[m]? = s.σ.heap[m]?
  sub : ∀ m ∈ s.W, m ∈ s.F
  skipF : s.skip = true → s.F = []

/-- What has come up is closed under what was waited for. -/
def Closed (steps : List Stp) (L : Nat → Bool) : Prop := ∀ (j : Nat) (s : Stp), steps[j]? = some s → L j = true → ∀ e ∈ edgesB s.o.after.toList, L e = true

/-- Whenever a step may come up, another one has. -/
def Forced (steps : List Stp) (i : Nat) (b : Stp) : Prop := ∀ L, Closed steps L → (∀ e ∈ edgesB b.o.after.toList, L e = true) → L i = true

/-- Two steps, the first of which stands ahead. -/
structure PairOk (steps : List Stp) (all : List Oper) (i : Nat) (a b : Stp) : Prop where
  slots : Forced steps i b ∨ ((∀ d, a.o.dst = some d → d ∉ looksT all b.o ∧ b.o.dst ≠ some d) ∧ (∀ d, b.o.dst = some d → d ∉ looksT all a.o) ∧
    (a.skip = false → b.skip = false → (∀ m ∈ a.W, m ∉ b.F) ∧ (∀ m ∈ b.W, m ∉ a.F) ∧ (∀ m ∈ b.F, ¬ (a.σ.heap.length ≤ m ∧ m < a.x.h.length)) ∧
      (∀ m ∈ b.x.v.names ++ blockNames b.x.h b.W ++ heapNames (b.x.h.drop b.σ.heap.length), ¬ (a.σ.heap.length ≤ m ∧ m < a.x.h.length))))

theorem pairOk_spec {steps : List Stp} {all : List Oper} {i : Nat} {a b : Stp} (h : pairOk i (a.sum all) (b.sum all) = true) : PairOk steps all i a b := by
  simp only [pairOk, Bool.or_eq_true] at h
  rcases h with h | h
  · exact ⟨.inl fun L _ hL => hL i (memN_iff.1 h)⟩
  · simp only [Bool.and_eq_true, Bool.not_eq_true', Bool.or_eq_true, Stp.sum] at h
    obtain ⟨⟨⟨h1, h2⟩, h3⟩, h4⟩ := h
    refine ⟨.inr ⟨?_, ?_, ?_⟩⟩
    · intro d hd
      rw [hd] at h1 h2
      refine ⟨fun hm => ?_, fun hb => ?_⟩
      · simp only [dstIn, memN_iff.2 hm] at h1; cases h1
      · rw [hb] at h2; simp only [sameDst, Nat.beq_refl] at h2; cases h2
    · intro d hd hm
      rw [hd] at h3
      simp only [dstIn, memN_iff.2 hm] at h3; cases h3
    · intro ha hb
      rw [ha, hb] at h4
      simp only [Bool.false_eq_true, false_or] at h4
      obtain ⟨⟨⟨k1, k2⟩, k3⟩, k4⟩ := h4
      exact ⟨disjointN_iff.1 k1, disjointN_iff.1 k2, noneIn_iff.1 k3, noneIn_iff.1 k4⟩

theorem bitN_testBit {m i : Nat} (h : bitN m i = true) : m.testBit i = true := by
  unfold bitN at h
  have h' : (m >>> i) &&& 1 = 1 := Nat.eq_of_beq_eq_true h
  rw [Nat.testBit_eq_decide_div_mod_eq]
  rw [Nat.and_one_is_mod, Nat.shiftRight_eq_div_pow] at h'
  simp [h']

/-- The bits of steps are right. -/
def MasksOk (steps : List Stp) (ms : List Nat) : Prop := ∀ (t : Nat) (m : Nat) (b : Stp), ms[t]? = some m → steps[t]? = some b → ∀ i, m.testBit i = true → Forced steps i b

theorem maskE_ok {steps : List Stp} {acc : List Nat} (h : MasksOk steps acc) {L : Nat → Bool} (hL : Closed steps L) (hlen : acc.length ≤ steps.length) {i : Nat} : ∀ {es : List Nat}, (∀ e ∈ es, L e = true) → (maskE acc es).testBit i = true → L i = true
  | [], _, hb => by simp [maskE] at hb
  | e :: r, hes, hb => by
    have hb' : ((1 <<< e ||| acc.getD e 0) ||| maskE acc r).testBit i = true := hb
    rw [Nat.testBit_or, Nat.testBit_or] at hb'
    simp only [Bool.or_eq_true] at hb'
    rcases hb' with (hb' | hb') | hb'
    · rw [Nat.one_shiftLeft, Nat.testBit_two_pow] at hb'
      have : e = i := by simpa using hb'
      exact this ▸ hes e (by simp)
    · rcases Nat.lt_or_ge e acc.length with hlt | hge
      · have h1 : acc[e]? = some (acc.getD e 0) := by simp [List.getD, hlt]
        obtain ⟨b, hb⟩ : ∃ b, steps[e]? = some b := ⟨_, List.getElem?_eq_getElem (by omega : e < steps.length)⟩
        exact h e _ b h1 hb i hb' L hL (hL e b hb (hes e (by simp)))
      · have h1 : acc.getD e 0 = 0 := by simp [List.getD, List.getElem?_eq_none hge]
        rw [h1] at hb'; simp at hb'
    · exact maskE_ok h hL hlen (fun e he => hes e (by simp [he])) hb'

theorem masksE_step (acc : List Nat) (a : Sum) (r : List Sum) : masksE acc (a :: r) = masksE (acc ++ [maskE acc a.edges]) r := by
  rw [masksE]
  split
  · rename_i h; rw [h]
  · rename_i n h; rw [h]

theorem masksE_ok {steps : List Stp} {all : List Oper} : ∀ (l pre : List Stp) (acc : List Nat), pre ++ l = steps → acc.length = pre.length → MasksOk steps acc → MasksOk steps (masksE acc (l.map (Stp.sum all)))
  | [], _, acc, _, _, h => by simpa [masksE] using h
  | a :: l, pre, acc, hs, hl, h => by
    rw [List.map_cons, masksE_step]
    refine masksE_ok l (pre ++ [a]) _ (by simpa using hs) (by simp [hl]) ?_
    intro t m b hm hb i hi
    rcases Nat.lt_or_ge t acc.length with hlt | hge
    · rw [List.getElem?_append_left hlt] at hm
      exact h t m b hm hb i hi
    · rw [List.getElem?_append_right hge] at hm
      have ht : t - acc.length = 0 := by
        rcases Nat.eq_zero_or_pos (t - acc.length) with h | h
        · exact h
        · rw [List.getElem?_eq_none (by simp; omega)] at hm; cases hm
      rw [ht] at hm
      simp only [List.getElem?_cons_zero, Option.some.injEq] at hm
      have : t = pre.length := by omega
      subst this
      rw [← hs, List.getElem?_append_right (Nat.le_refl _), Nat.sub_self] at hb
      simp only [List.getElem?_cons_zero, Option.some.injEq] at hb
      subst hb
      subst hm
      intro L hL hes
      exact maskE_ok h hL (by rw [← hs]; simp; omega) hes hi

theorem pairsFrom_spec {steps : List Stp} {all : List Oper} {i : Nat} {a : Stp} : ∀ {l : List Stp} {ms : List Nat}, pairsFrom i (a.sum all) ms (l.map (Stp.sum all)) = true →
    (∀ (t : Nat) (m : Nat) (b : Stp), ms[t]? = some m → l[t]? = some b → ∀ i, m.testBit i = true → Forced steps i b) → ∀ b ∈ l, PairOk steps all i a b
  | [], _, _, _ => by simp
  | b :: l, [], h, _ => by simp [pairsFrom] at h
  | b :: l, m :: ms, h, hm => by
    simp only [List.map_cons, pairsFrom, Bool.and_eq_true] at h
    intro c hc
    rcases List.mem_cons.1 hc with rfl | hc
    · rcases Bool.or_eq_true_iff.1 h.1 with h1 | h1
      · exact pairOk_spec h1
      · exact ⟨.inl (hm 0 m c (by simp) (by simp) i (bitN_testBit h1))⟩
    · exact pairsFrom_spec h.2 (fun t m b h1 h2 => hm (t + 1) m b (by simpa using h1) (by simpa using h2)) c hc

theorem detGo_spec {steps : List Stp} {all : List Oper} : ∀ {l : List Stp} {i : Nat} {ms : List Nat}, detGo i ms (l.map (Stp.sum all)) = true →
    (∀ (t : Nat) (m : Nat) (b : Stp), ms[t]? = some m → l[t]? = some b → ∀ i, m.testBit i = true → Forced steps i b) →
    (∀ t s, l[t]? = some s → (∀ e ∈ edgesB s.o.after.toList, e < i + t) ∧ (∀ m ∈ s.F, m < s.σ.heap.length) ∧ s.σ.heap.length ≤ s.x.h.length) ∧
    (∀ t t' s s', t < t' → l[t]? = some s → l[t']? = some s' → PairOk steps all (i + t) s s')
  | [], i, _, _, _ => ⟨by simp, by simp⟩
  | a :: l, i, ms, h, hm => by
    simp only [List.map_cons, detGo, Bool.and_eq_true] at h
    obtain ⟨⟨⟨⟨h1, h2⟩, h3⟩, h4⟩, h5⟩ := h
    have hm' : ∀ (t : Nat) (m : Nat) (b : Stp), ms.tail[t]? = some m → l[t]? = some b → ∀ i, m.testBit i = true → Forced steps i b := by
      intro t m b h1 h2
      refine hm (t + 1) m b ?_ (by simpa using h2)
      cases ms with
      | nil => simp at h1
      | cons x ms => simpa using h1
    obtain ⟨k1, k2⟩ := detGo_spec h5 hm'
    refine ⟨?_, ?_⟩
    · intro t s hs
      cases t with
      | zero => simp at hs; subst hs; exact ⟨allBelow_iff.1 h1, allBelow_iff.1 h2, Nat.le_of_ble_eq_true h3⟩
      | succ t =>
        have := k1 t s (by simpa using hs)
        rwa [show i + 1 + t = i + (t + 1) by omega] at this
    · intro t t' s s' hlt hs hs'
      cases t' with
      | zero => omega
      | succ t' =>
        cases t with
        | zero =>
          simp at hs; subst hs
          exact pairsFrom_spec h4 hm' s' (List.mem_of_getElem? (by simpa using hs'))
        | succ t =>
          have := k2 t t' s s' (by omega) (by simpa using hs) (by simpa using hs')
          rwa [show i + 1 + t = i + (t + 1) by omega] at this

theorem detFrom_spec {all : List Oper} {l : List Stp} (h : detFrom (l.map (Stp.sum all)) = true) :
    (∀ t s, l[t]? = some s → (∀ e ∈ edgesB s.o.after.toList, e < t) ∧ (∀ m ∈ s.F, m < s.σ.heap.length) ∧ s.σ.heap.length ≤ s.x.h.length) ∧
    (∀ t t' s s', t < t' → l[t]? = some s → l[t']? = some s' → PairOk l all t s s') := by
  have hm : MasksOk l (masksE [] (l.map (Stp.sum all))) := masksE_ok l [] [] rfl rfl (by intro t m b h; simp at h)
  have := detGo_spec (steps := l) h hm
  simpa only [Nat.zero_add] using this

theorem wrtS_some {s : Stp} {k : Nat} {v : Option SVal} (h : wrtS n s k = some v) : s.o.dst = some k ∧ (v = some s.x.v ∨ v = none) := by
  unfold wrtS at h
  split at h
  · rename_i d hd
    split at h
    · rename_i hb
      have := Nat.eq_of_beq_eq_true hb
      subst this
      simp only [Option.some.injEq] at h
      refine ⟨hd, ?_⟩
      subst h
      cases Nat.blt k n <;> simp
    · cases h
  · cases h

theorem wrtH_some {s : Stp} {m : Nat} {v : Option Blk} (h : wrtH s m = some v) : s.skip = false ∧ (m ∈ s.W ∨ (s.σ.heap.length ≤ m ∧ m < s.x.h.length)) ∧ v = (s.x.h[m]?).join := by
  unfold wrtH at h
  split at h
  · cases h
  · rename_i hs
    split at h
    · rename_i hm
      simp only [Option.some.injEq] at h
      refine ⟨hs, ?_, h.symm⟩
      simp only [Bool.or_eq_true, Bool.and_eq_true] at hm
      rcases hm with hm | ⟨h1, h2⟩
      · exact .inl (memN_iff.1 hm)
      · exact .inr ⟨Nat.le_of_ble_eq_true h1, Nat.le_of_ble_eq_true h2⟩
    · cases h

theorem wrtH_none {s : Stp} {m : Nat} (hs : s.skip = false) (h : wrtH s m = none) : m ∉ s.W ∧ ¬ (s.σ.heap.length ≤ m ∧ m < s.x.h.length) := by
  unfold wrtH at h
  rw [hs] at h
  simp only at h
  split at h
  · cases h
  · rename_i hm
    simp only [Bool.or_eq_false_iff] at hm
    refine ⟨fun hh => (by rw [memN_iff.2 hh] at hm; cases hm.1), fun ⟨h1, h2⟩ => ?_⟩
    rw [show Nat.ble _ m = true from Nat.ble_eq_true_of_le h1, show Nat.blt m _ = true from Nat.ble_eq_true_of_le h2] at hm
    cases hm.2

theorem map_get {f : Nat → Option SVal} {k : Nat} {v : SVal} : ∀ {l : List Nat}, Slots.get (l.map fun k => (k, f k)) k = some v → k ∈ l ∧ f k = some v
  | [], h => by simp [Slots.get_nil] at h
  | a :: l, h => by
    simp only [List.map_cons] at h
    by_cases hk : k = a
    · subst hk; rw [Slots.get_cons_self] at h; exact ⟨by simp, h⟩
    · rw [Slots.get_cons_ne hk] at h
      obtain ⟨h1, h2⟩ := map_get h
      exact ⟨by simp [h1], h2⟩

theorem mem_blockNames {h : Heap} {m q : Nat} {b : Blk} : ∀ {l : List Nat}, m ∈ l → h[m]? = some (some b) → q ∈ b.cells.names → q ∈ blockNames h l
  | [], hm, _, _ => by cases hm
  | a :: l, hm, hb, hq => by
    simp only [blockNames, List.mem_append]
    rcases List.mem_cons.1 hm with rfl | hm
    · left; rw [hb]; exact hq
    · right; exact mem_blockNames hm hb hq

theorem mem_heapNames {q : Nat} {b : Blk} : ∀ {h : Heap} {m : Nat}, h[m]? = some (some b) → q ∈ b.cells.names → q ∈ heapNames h
  | [], m, hb, _ => by simp at hb
  | none :: h, 0, hb, _ => by simp at hb
  | none :: h, m + 1, hb, hq => by simp only [heapNames]; exact mem_heapNames (by simpa using hb) hq
  | some c :: h, 0, hb, hq => by simp at hb; subst hb; simp [heapNames, hq]
  | some c :: h, m + 1, hb, hq => by simp only [heapNames, List.mem_append]; right; exact mem_heapNames (by simpa using hb) hq

end
end
end Go.Sx

/- The executor is right: regions whose order is open: whatever order. -/
namespace Go.Sx
noncomputable section

section
variable {ρ : Env} {cx : Cx} {S : Specs} {runC : Code → St → Tree (Ex × St)} {ops : Array Oper} {steps : List Stp} {g0 : Nat → Option SVal} {b0 : Nat → Option Blk} {n N0 N : Nat}

/-- All that is known of a region's steps. -/
structure TraceOk (ρ : Env) (cx : Cx) (S : Specs) (runC : Code → St → Tree (Ex × St)) (ops : Array Oper) (steps : List Stp) (g0 : Nat → Option SVal) (b0 : Nat → Option Blk) (n N0 N : Nat) : Prop where
  step : ∀ (i : Nat) (s : Stp), steps[i]? = some s → StepOk ρ cx S runC ops steps g0 b0 n i s
  len : steps.length = ops.size
  edges : ∀ (i : Nat) (s : Stp), steps[i]? = some s → ∀ e ∈ edgesB s.o.after.toList, e < i
  F : ∀ (i : Nat) (s : Stp), steps[i]? = some s → ∀ m ∈ s.F, m < s.σ.heap.length
  lohi : ∀ (i : Nat) (s : Stp), steps[i]? = some s → s.σ.heap.length ≤ s.x.h.length
  pairs : ∀ (i j : Nat) (s s' : Stp), i < j → steps[i]? = some s → steps[j]? = some s' → PairOk steps ops.toList i s s'
  chain : ∀ (i j : Nat) (s s' : Stp), i < j → steps[i]? = some s → steps[j]? = some s' → s.x.h.length ≤ s'.σ.heap.length
  lo : ∀ (i : Nat) (s : Stp), steps[i]? = some s → N0 ≤ s.σ.heap.length
  hi : ∀ (i : Nat) (s : Stp), steps[i]? = some s → s.x.h.length ≤ N
  base : N0 ≤ N
  g0sc : ∀ k v, g0 k = some v → v.sc N0 = true
  b0sc : ∀ m b, b0 m = some b → b.cells.sc N0 = true
  b0lt : ∀ m b, b0 m = some b → m < N0

variable (G : Globs) (K : Nat → Prop) (w0 : World)

structure Inv (ρ : Env) (G : Globs) (K : Nat → Prop) (w0 : World) (D : List Deferred) (steps : List Stp) (g0 : Nat → Option SVal) (b0 : Nat → Option Blk) (n N N0 : Nat) (ι0 : Nm) (L : Nat → Bool) (ι : Nm) (a : Act) (w : World) : Prop where
  ext : Nm.Ext N0 ι0 ι
  size : a.tmps.size = n
  defers : a.defers = D
  slots : ∀ k v, foldW (wrtS n) L 0 steps g0 k = some v → a.tmps[k]? = some (v.conc ρ ι) ∧ v.sc N = true
  heap : HR ρ G K w0 ι ((List.range N).map (foldW wrtH L 0 steps b0)) w
  inside : ∀ (j : Nat) (s : Stp), steps[j]? = some s → L j = true → s.skip = false → s.x.v.sc s.x.h.length = true ∧ ∀ (m : Nat) (b : Blk), s.x.h[m]? = some (some b) → b.cells.sc s.x.h.length = true

theorem rangeMap_get {f : Nat → Option Blk} {m : Nat} {b : Blk} : ((List.range N).map f)[m]? = some (some b) ↔ m < N ∧ f m = some b := by
  rw [List.getElem?_map]
  by_cases hm : m < N
  · simp [hm]
  · rw [List.getElem?_eq_none (by simp; omega)]
    simp; omega

/-- A STEP COMES UP. -/
theorem step_inv (ok : cx.Ok) (hS : S.Ok ρ cx) (hB : ∀ f, S f ≠ none → ∃ fn c, cx.P.funcs[f]? = some fn ∧ fn.body = some c) (hR : RunOk ρ cx runC) (T : TraceOk ρ cx S runC ops steps g0 b0 n N0 N)
    {L : Nat → Bool} (hcl : Closed steps L) {i : Nat} {s : Stp} (hi : steps[i]? = some s) (hLi : L i = false) (hpre : ∀ e ∈ edgesB s.o.after.toList, L e = true)
    {D : List Deferred} {ι0 ι : Nm} {a : Act} {w : World} (I : Inv ρ cx.globs K w0 D steps g0 b0 n N N0 ι0 L ι a w) (next : Act → World → Prop) (Q : Exit → Act → World → Prop)
    (hn : ∀ ι' a' w', Inv ρ cx.globs K w0 D steps g0 b0 n N N0 ι0 (fun j => L j || Nat.beq j i) ι' a' w' → next a' w') : wpOp cx.P ops Q i next a w := by
  have so := T.step i s hi
  -- a step ahead that has something in common has come up; one behind has not
  have ahead : ∀ (t : Nat) (s' : Stp), t < i → steps[t]? = some s' → Forced steps t s → L t = true := fun t s' _ _ he => he L hcl hpre
  have behind : ∀ (t : Nat) (s' : Stp), i < t → steps[t]? = some s' → Forced steps i s' → L t = false := by
    intro t s' _ hs' he
    cases hL : L t
    · rfl
    · have := he L hcl (hcl t s' hs' hL); rw [hLi] at this; cases this
  -- slots that are looked at
  have slotsAgree : ∀ k ∈ looksT ops.toList s.o, foldW (wrtS n) L 0 steps g0 k = foldW (wrtS n) (fun j => Nat.blt j i) 0 steps g0 k ∧ ∀ (t : Nat) (s' : Stp), steps[t]? = some s' → wrtS n s' k ≠ none → t < i → L t = true := by
    intro k hk
    have key : ∀ (t : Nat) (s' : Stp), steps[t]? = some s' → wrtS n s' k ≠ none → L t = Nat.blt t i ∧ (t < i → L t = true) := by
      intro t s' ht hw
      obtain ⟨v, hv⟩ := Option.ne_none_iff_exists'.1 hw
      have hd := (wrtS_some hv).1
      rcases Nat.lt_trichotomy t i with hlt | heq | hgt
      · have hp := (T.pairs t i s' s hlt ht hi).slots
        have hL : L t = true := by
          rcases hp with hp | ⟨hp, _, _⟩
          · exact ahead t s' hlt ht hp
          · exact ((hp k hd).1 hk).elim
        exact ⟨by rw [hL]; exact (Nat.ble_eq_true_of_le hlt).symm, fun _ => hL⟩
      · subst heq
        have : Nat.blt t t = false := by
          cases hb : Nat.blt t t
          · rfl
          · have := Nat.le_of_ble_eq_true hb; omega
        exact ⟨by rw [hLi, this], fun h => by omega⟩
      · have hp := (T.pairs i t s s' hgt hi ht).slots
        have hL : L t = false := by
          rcases hp with hp | ⟨_, hp, _⟩
          · exact behind t s' hgt ht hp
          · exact (hp k hd hk).elim
        have : Nat.blt t i = false := by
          cases hb : Nat.blt t i
          · rfl
          · have := Nat.le_of_ble_eq_true hb; omega
        exact ⟨by rw [hL, this], fun h => by omega⟩
    exact ⟨foldW_congr (wrtS n) steps 0 g0 g0 k rfl (fun t s' ht hw => by rw [Nat.zero_add]; exact (key t s' ht hw).1), fun t s' ht hw hlt => (key t s' ht hw).2 hlt⟩
  have hslots : SlotsOk ρ ι s.σ.heap.length s.σ.slots a := by
    intro k v hv
    rw [so.slots] at hv
    obtain ⟨hk, hv'⟩ := map_get hv
    obtain ⟨h1, h2⟩ := slotsAgree k hk
    refine ⟨(I.slots k v (by rw [h1]; exact hv')).1, ?_⟩
    rcases foldW_from (wrtS n) steps 0 g0 k (L := fun j => Nat.blt j i) with h | ⟨t, s', u, ht, hL, hw, he⟩
    · rw [hv'] at h
      exact SVal.sc_mono (T.lo i s hi) _ (T.g0sc k v h.symm)
    · simp only [Nat.zero_add] at hL
      have hti : t < i := Nat.le_of_ble_eq_true hL
      have hLt := h2 t s' ht (by simp [hw]) hti
      rw [hv'] at he
      subst he
      rcases (wrtS_some hw).2 with h | h
      · simp at h; subst h
        cases hsk : s'.skip
        · exact SVal.sc_mono (T.chain t i s' s hti ht hi) _ (I.inside t s' ht hLt hsk).1
        · rw [((T.step t s' ht).resS hsk).1]; rfl
      · cases h
  -- blocks that are touched
  have heapAgree : ∀ m ∈ s.F, foldW wrtH L 0 steps b0 m = foldW wrtH (fun j => Nat.blt j i) 0 steps b0 m ∧ ∀ (t : Nat) (s' : Stp), steps[t]? = some s' → wrtH s' m ≠ none → t < i → L t = true := by
    intro m hm
    have hskip : s.skip = false := by
      cases hsk : s.skip
      · rfl
      · rw [so.skipF hsk] at hm; cases hm
    have key : ∀ (t : Nat) (s' : Stp), steps[t]? = some s' → wrtH s' m ≠ none → L t = Nat.blt t i ∧ (t < i → L t = true) := by
      intro t s' ht hw
      obtain ⟨v, hv⟩ := Option.ne_none_iff_exists'.1 hw
      obtain ⟨w1, w2, _⟩ := wrtH_some hv
      rcases Nat.lt_trichotomy t i with hlt | heq | hgt
      · have hp := (T.pairs t i s' s hlt ht hi).slots
        have hL : L t = true := by
          rcases hp with hp | ⟨_, _, hp⟩
          · exact ahead t s' hlt ht hp
          · obtain ⟨q1, q2, q3, q4⟩ := hp w1 hskip
            rcases w2 with w2 | w2
            · exact (q1 m w2 hm).elim
            · exact (q3 m hm w2).elim
        exact ⟨by rw [hL]; exact (Nat.ble_eq_true_of_le hlt).symm, fun _ => hL⟩
      · subst heq
        have : Nat.blt t t = false := by
          cases hb : Nat.blt t t
          · rfl
          · have := Nat.le_of_ble_eq_true hb; omega
        exact ⟨by rw [hLi, this], fun h => by omega⟩
      · have hp := (T.pairs i t s s' hgt hi ht).slots
        have hL : L t = false := by
          rcases hp with hp | ⟨_, _, hp⟩
          · exact behind t s' hgt ht hp
          · obtain ⟨q1, q2, q3, q4⟩ := hp hskip w1
            rcases w2 with w2 | w2
            · exact (q2 m w2 hm).elim
            · have h1 := T.F i s hi m hm
              have h2 := T.lohi i s hi
              have h3 := T.chain i t s s' hgt hi ht
              omega
        have : Nat.blt t i = false := by
          cases hb : Nat.blt t i
          · rfl
          · have := Nat.le_of_ble_eq_true hb; omega
        exact ⟨by rw [hL, this], fun h => by omega⟩
    exact ⟨foldW_congr wrtH steps 0 b0 b0 m rfl (fun t s' ht hw => by rw [Nat.zero_add]; exact (key t s' ht hw).1), fun t s' ht hw hlt => (key t s' ht hw).2 hlt⟩
  have hloN : s.σ.heap.length ≤ N := Nat.le_trans (T.lohi i s hi) (T.hi i s hi)
  have hpart : ∀ (m : Nat) (b : Blk), s.σ.heap[m]? = some (some b) → ((List.range N).map (foldW wrtH L 0 steps b0))[m]? = some (some b) ∧ b.cells.sc s.σ.heap.length = true := by
    intro m b hb
    obtain ⟨h1, h2⟩ := so.heap m b hb
    obtain ⟨h3, h4⟩ := heapAgree m h1
    have hm := T.F i s hi m h1
    refine ⟨rangeMap_get.2 ⟨by omega, by rw [h3]; exact h2⟩, ?_⟩
    rcases foldW_from wrtH steps 0 b0 m (L := fun j => Nat.blt j i) with h | ⟨t, s', u, ht, hL, hw, he⟩
    · rw [h2] at h
      exact SVal.sc_mono (T.lo i s hi) _ (T.b0sc m b h.symm)
    · simp only [Nat.zero_add] at hL
      have hti : t < i := Nat.le_of_ble_eq_true hL
      have hLt := h4 t s' ht (by simp [hw]) hti
      obtain ⟨w1, w2, w3⟩ := wrtH_some hw
      rw [h2] at he
      rw [← he] at w3
      have hxb : s'.x.h[m]? = some (some b) := by
        cases hx : s'.x.h[m]? with
        | none => rw [hx] at w3; cases w3
        | some c => rw [hx] at w3; simp at w3; rw [w3]
      exact SVal.sc_mono (T.chain t i s' s hti ht hi) _ ((I.inside t s' ht hLt w1).2 m b hxb)
  obtain ⟨g, hg1, hg2⟩ := so.guard
  have hw := guardT_ok hslots hg1
  unfold wpOp
  rw [so.oper]
  simp only
  rw [hw, hg2]
  -- where the old values come from
  have oldS : ∀ k v, foldW (wrtS n) L 0 steps g0 k = some v → ∀ m ∈ v.names, ¬ (s.σ.heap.length ≤ m ∧ m < s.x.h.length) ∨ s.skip = true := by
    intro k v hv m hm
    cases hsk : s.skip
    · left
      rcases foldW_from (wrtS n) steps 0 g0 k (L := L) with h | ⟨t, s', u, ht, hL, hw', he⟩
      · rw [hv] at h
        have := names_sc (T.g0sc k v h.symm) m hm
        have := T.lo i s hi
        omega
      · simp only [Nat.zero_add] at hL
        rw [hv] at he
        subst he
        rcases (wrtS_some hw').2 with h | h
        · simp at h; subst h
          cases hsk' : s'.skip
          · rcases Nat.lt_trichotomy t i with hlt | heq | hgt
            · have := names_sc (I.inside t s' ht hL hsk').1 m hm
              have := T.chain t i s' s hlt ht hi
              omega
            · subst heq; rw [hLi] at hL; cases hL
            · rcases (T.pairs i t s s' hgt hi ht).slots with hp | ⟨_, _, hp⟩
              · rw [behind t s' hgt ht hp] at hL; cases hL
              · exact (hp hsk hsk').2.2.2 m (by simp [hm])
          · rw [((T.step t s' ht).resS hsk').1] at hm; simp [undefS, SVal.names] at hm
        · cases h
    · exact .inr rfl
  have oldB : ∀ q b, foldW wrtH L 0 steps b0 q = some b → s.skip = false → ∀ m ∈ b.cells.names, ¬ (s.σ.heap.length ≤ m ∧ m < s.x.h.length) := by
    intro q b hb hsk m hm
    rcases foldW_from wrtH steps 0 b0 q (L := L) with h | ⟨t, s', u, ht, hL, hw', he⟩
    · rw [hb] at h
      have := names_sc (T.b0sc q b h.symm) m hm
      have := T.lo i s hi
      omega
    · simp only [Nat.zero_add] at hL
      obtain ⟨w1, w2, w3⟩ := wrtH_some hw'
      rw [hb] at he
      rw [← he] at w3
      have hxb : s'.x.h[q]? = some (some b) := by
        cases hx : s'.x.h[q]? with
        | none => rw [hx] at w3; cases w3
        | some c => rw [hx] at w3; simp at w3; rw [w3]
      rcases Nat.lt_trichotomy t i with hlt | heq | hgt
      · have := names_sc ((I.inside t s' ht hL w1).2 q b hxb) m hm
        have := T.chain t i s' s hlt ht hi
        omega
      · subst heq; rw [hLi] at hL; cases hL
      · rcases (T.pairs i t s s' hgt hi ht).slots with hp | ⟨_, _, hp⟩
        · rw [behind t s' hgt ht hp] at hL; cases hL
        · refine (hp hsk w1).2.2.2 m ?_
          simp only [List.mem_append]
          rcases w2 with w2 | w2
          · exact .inl (.inr (mem_blockNames w2 hxb hm))
          · refine .inr (mem_heapNames (m := q - s'.σ.heap.length) ?_ hm)
            rw [List.getElem?_drop, show s'.σ.heap.length + (q - s'.σ.heap.length) = q by omega]
            exact hxb
  have addS : ∀ k, foldW (wrtS n) (fun j => L j || Nat.beq j i) 0 steps g0 k = (wrtS n s k).getD (foldW (wrtS n) L 0 steps g0 k) := by
    intro k
    refine foldW_add (wrtS n) steps g0 k i s hi ?_
    intro t s' hlt ht hw1 hw2
    obtain ⟨v1, hv1⟩ := Option.ne_none_iff_exists'.1 hw1
    obtain ⟨v2, hv2⟩ := Option.ne_none_iff_exists'.1 hw2
    rcases (T.pairs i t s s' hlt hi ht).slots with hp | ⟨hp, _, _⟩
    · exact behind t s' hlt ht hp
    · exact ((hp k (wrtS_some hv2).1).2 (wrtS_some hv1).1).elim
  have addH : ∀ m, foldW wrtH (fun j => L j || Nat.beq j i) 0 steps b0 m = (wrtH s m).getD (foldW wrtH L 0 steps b0 m) := by
    intro m
    refine foldW_add wrtH steps b0 m i s hi ?_
    intro t s' hlt ht hw1 hw2
    obtain ⟨v1, hv1⟩ := Option.ne_none_iff_exists'.1 hw1
    obtain ⟨v2, hv2⟩ := Option.ne_none_iff_exists'.1 hw2
    obtain ⟨a1, a2, _⟩ := wrtH_some hv1
    obtain ⟨c1, c2, _⟩ := wrtH_some hv2
    rcases (T.pairs i t s s' hlt hi ht).slots with hp | ⟨_, _, hp⟩
    · exact behind t s' hlt ht hp
    · obtain ⟨q1, q2, q3, q4⟩ := hp c1 a1
      have hch := T.chain i t s s' hlt hi ht
      rcases c2 with c2 | c2
      · have hmF := so.sub m c2
        rcases a2 with a2 | a2
        · exact (q1 m c2 ((T.step t s' ht).sub m a2)).elim
        · have := T.F i s hi m hmF
          have := T.lohi i s hi
          omega
      · rcases a2 with a2 | a2
        · exact (q3 m ((T.step t s' ht).sub m a2) c2).elim
        · omega
  have putSlots : ∀ (ι'' : Nm) (v : Value), (∀ k v, foldW (wrtS n) L 0 steps g0 k = some v → v.conc ρ ι'' = v.conc ρ ι) → v = s.x.v.conc ρ ι'' → s.x.v.sc N = true →
      ∀ k u, foldW (wrtS n) (fun j => L j || Nat.beq j i) 0 steps g0 k = some u → (a.put s.o.dst v).tmps[k]? = some (u.conc ρ ι'') ∧ u.sc N = true := by
    intro ι'' v hold hv hsc k u hu
    rw [addS k] at hu
    cases hws : wrtS n s k with
    | none =>
      rw [hws] at hu
      simp only [Option.getD_none] at hu
      obtain ⟨h1, h2⟩ := I.slots k u hu
      refine ⟨?_, h2⟩
      rw [hold k u hu]
      unfold wrtS at hws
      unfold Act.put
      split
      · rename_i d hd
        rw [hd] at hws
        simp only at hws
        split at hws
        · cases hws
        · rename_i hb
          have hne : d ≠ k := by rintro rfl; rw [Nat.beq_refl] at hb; cases hb
          simp only
          rw [Array.getElem?_setIfInBounds_ne (by omega)]
          exact h1
      · exact h1
    | some q =>
      rw [hws] at hu
      simp only [Option.getD_some] at hu
      subst hu
      have hd := (wrtS_some hws).1
      have hqv : u = s.x.v ∧ k < n := by
        unfold wrtS at hws
        rw [hd] at hws
        simp only [Nat.beq_refl, Option.some.injEq] at hws
        cases hb : Nat.blt k n
        · rw [hb] at hws; cases hws
        · rw [hb] at hws; simp at hws; exact ⟨hws.symm, Nat.le_of_ble_eq_true hb⟩
      obtain ⟨rfl, hkn⟩ := hqv
      refine ⟨?_, hsc⟩
      simp only [Act.put, hd]
      rw [Array.getElem?_setIfInBounds_self_of_lt (by rw [I.size]; exact hkn), hv]
  have putSize : ∀ v, (a.put s.o.dst v).tmps.size = n ∧ (a.put s.o.dst v).defers = D := by
    intro v
    unfold Act.put
    split
    · exact ⟨by simpa using I.size, I.defers⟩
    · exact ⟨I.size, I.defers⟩
  cases hsk : s.skip
  · -- it is carried out
    simp only [Bool.not_false, if_true]
    left
    have Hp := I.heap.part hpart
    refine opT_ok ok hS hB hR (so.res hsk) hslots Hp so.pc next Q ?_
    intro ι' w' e1 e2 e3 e4 e5
    have hhi := T.hi i s hi
    let ι'' : Nm := { blk := fun m => if s.σ.heap.length ≤ m ∧ m < s.x.h.length then ι'.blk m else ι.blk m, cap := fun m => if s.σ.heap.length ≤ m ∧ m < s.x.h.length then ι'.cap m else ι.cap m, val := fun m => if s.σ.heap.length ≤ m ∧ m < s.x.h.length then ι'.val m else ι.val m, foot := fun m => if s.σ.heap.length ≤ m ∧ m < s.x.h.length then ι'.foot m else ι.foot m }
    have ext'' : Nm.Ext s.x.h.length ι' ι'' := by
      intro m hm
      by_cases hlo : s.σ.heap.length ≤ m
      · simp [ι'', hlo, hm]
      · have := e1 m (by omega)
        simp [ι'', hlo, this.1, this.2.1, this.2.2.1, this.2.2.2]
    have out'' : ∀ m, ¬ (s.σ.heap.length ≤ m ∧ m < s.x.h.length) → ι''.blk m = ι.blk m ∧ ι''.cap m = ι.cap m ∧ ι''.val m = ι.val m ∧ ι''.foot m = ι.foot m := by
      intro m hm; simp [ι'', hm]
    have e3' := e3.ext ext''
    have hbk : ∀ q b, foldW wrtH L 0 steps b0 q = some b → b.cells.concL ρ ι'' = b.cells.concL ρ ι := fun q b hb => (conc_names b.cells (fun m hm => out'' m (oldB q b hb hsk m hm))).2
    refine hn ι'' _ w' ⟨I.ext.trans (Nat.le_refl _) (fun m hm => out'' m (fun hh => (by have := T.lo i s hi; omega))), (putSize _).1, (putSize _).2, ?_, ?_, ?_⟩
    · refine putSlots ι'' _ ?_ ?_ (SVal.sc_mono hhi _ e4)
      · intro k v hv
        refine (conc_names v (fun m hm => out'' m ?_)).1
        rcases oldS k v hv m hm with h | h
        · exact h
        · rw [hsk] at h; cases h
      · exact ((SVal.conc_ext (ρ := ρ) ext'' s.x.v e4).1).symm
    · -- the heap
      have notK : ∀ k, ¬ keepAll w ι s.σ.heap k → ¬ K k := by
        intro k hk hKk
        refine hk ⟨?_, ?_⟩
        · have := I.heap.old k hKk; have := I.heap.size; omega
        · intro m b hb he
          exact (I.heap.blocks m b (hpart m b hb).1).1 k he hKk
      have keepOf : ∀ q b, ((List.range N).map (foldW wrtH L 0 steps b0))[q]? = some (some b) → (∀ b', s.σ.heap[q]? ≠ some (some b')) → ∀ x, ι.foot q x → keepAll w ι s.σ.heap x := by
        intro q b hb hno x hx
        refine ⟨I.heap.footLt hb hx, ?_⟩
        intro m b' hb' he
        have := I.heap.inj m q b' b (hpart m b' hb').1 hb x he hx
        subst this
        exact hno b' hb'
      -- what a block is now
      have look : ∀ q b, ((List.range N).map (foldW wrtH (fun j => L j || Nat.beq j i) 0 steps b0))[q]? = some (some b) →
          (s.x.h[q]? = some (some b) ∧ (q ∈ s.F ∨ (s.σ.heap.length ≤ q ∧ q < s.x.h.length))) ∨
          (((List.range N).map (foldW wrtH L 0 steps b0))[q]? = some (some b) ∧ ¬ (s.σ.heap.length ≤ q ∧ q < s.x.h.length) ∧ ∀ b', s.σ.heap[q]? ≠ some (some b')) := by
        intro q b hb
        obtain ⟨hqN, hq⟩ := rangeMap_get.1 hb
        rw [addH q] at hq
        cases hwq : wrtH s q with
        | some v =>
          rw [hwq] at hq
          simp only [Option.getD_some] at hq
          subst hq
          obtain ⟨w1, w2, w3⟩ := wrtH_some hwq
          left
          refine ⟨?_, ?_⟩
          · cases hx : s.x.h[q]? with
            | none => rw [hx] at w3; cases w3
            | some c => rw [hx] at w3; simp at w3; rw [w3]
          · rcases w2 with w2 | w2
            · exact .inl (so.sub q w2)
            · exact .inr w2
        | none =>
          rw [hwq] at hq
          simp only [Option.getD_none] at hq
          obtain ⟨n1, n2⟩ := wrtH_none hsk hwq
          by_cases hex : ∃ b', s.σ.heap[q]? = some (some b')
          · obtain ⟨b', hb'⟩ := hex
            have h1 := (hpart q b' hb').1
            have h2 := (rangeMap_get.1 h1).2
            rw [hq] at h2
            simp at h2; subst h2
            have hF := (so.heap q b hb').1
            left
            exact ⟨by rw [so.unch hsk q hF n1]; exact hb', .inl hF⟩
          · right
            exact ⟨rangeMap_get.2 ⟨hqN, hq⟩, n2, fun b' hb' => hex ⟨b', hb'⟩⟩
      refine ⟨e3.os.trans I.heap.os, e3.tape.trans I.heap.tape, e3.output.trans I.heap.output, Nat.le_trans I.heap.size e3.size, ?_, I.heap.old, I.heap.base, ?_, ?_, ?_⟩
      · intro k hk
        by_cases hkk : keepAll w ι s.σ.heap k
        · rw [e3.kept k hkk]; exact I.heap.kept k hk
        · exact (notK k hkk hk).elim
      · intro q b hb
        have hlenR : ((List.range N).map (foldW wrtH (fun j => L j || Nat.beq j i) 0 steps b0)).length = N := by simp
        rw [hlenR]
        rcases look q b hb with ⟨h1, h2⟩ | ⟨h1, h2, h3⟩
        · obtain ⟨k1, k2, k3⟩ := e3'.blocks q b h1
          exact ⟨fun x hx => notK _ (k1 x hx), k2, SVal.sc_mono hhi _ k3⟩
        · obtain ⟨k1, k2, k4⟩ := I.heap.blocks q b h1
          have hkp := keepOf q b h1 h3
          have o := out'' q h2
          refine ⟨by rw [o.2.2.2]; exact k1, ?_, by simpa using k4⟩
          exact Blk.Ok.names (Blk.Ok.still k2 (K' := K) (fun x hx => e3.kept x (hkp x hx)) (fun x hx => e3.kept x (by by_cases hkk : keepAll w ι s.σ.heap x; exact hkk; exact (notK x hkk hx).elim)) I.heap.base) o (hbk q b (rangeMap_get.1 h1).2)
      · intro q1 q2 b1 b2 hb1 hb2 x hx1 hx2
        rcases look q1 b1 hb1 with ⟨h1, _⟩ | ⟨h1, h1', h1''⟩ <;> rcases look q2 b2 hb2 with ⟨h2, _⟩ | ⟨h2, h2', h2''⟩
        · exact e3'.inj q1 q2 b1 b2 h1 h2 x hx1 hx2
        · rw [(out'' q2 h2').2.2.2] at hx2
          exact ((e3'.blocks q1 b1 h1).1 x hx1 (keepOf q2 b2 h2 h2'' x hx2)).elim
        · rw [(out'' q1 h1').2.2.2] at hx1
          exact ((e3'.blocks q2 b2 h2).1 x hx2 (keepOf q1 b1 h1 h1'' x hx1)).elim
        · rw [(out'' q1 h1').2.2.2] at hx1
          rw [(out'' q2 h2').2.2.2] at hx2
          exact I.heap.inj q1 q2 b1 b2 h1 h2 x hx1 hx2
      · intro g cs hg
        obtain ⟨k1, k2, arr, t, fz, k3, k4⟩ := I.heap.globs g cs hg
        refine ⟨k1, k2, arr, t, fz, k3, ?_⟩
        rw [k4]
        exact (SVal.conc_ext (ρ := ρ) (n := 0) (ι := ι) (ι' := ι'') (fun m hm => by omega) cs k2).2.symm
    · intro j s' hs' hL hsk'
      simp only [Bool.or_eq_true] at hL
      rcases hL with hL | hL
      · exact I.inside j s' hs' hL hsk'
      · have := Nat.eq_of_beq_eq_true hL
        subst this
        rw [hi] at hs'; simp at hs'; subst hs'
        exact ⟨e4, fun m b hb => (e3.blocks m b hb).2.2⟩
  · -- it is left out
    simp only [Bool.not_true, Bool.false_eq_true, if_false]
    have hux : s.x.v = undefS := (so.resS hsk).1
    have hu : undef = s.x.v.conc ρ ι := by rw [hux]; simp [undefS, SVal.conc, SVal.concL, undef]
    refine hn ι _ w ⟨I.ext, (putSize _).1, (putSize _).2, putSlots ι undef (fun _ _ _ => rfl) hu (by rw [hux]; rfl), ?_, ?_⟩
    · refine I.heap.forget ?_
      intro q b hb
      obtain ⟨hqN, hq⟩ := rangeMap_get.1 hb
      rw [addH q] at hq
      have : wrtH s q = none := by unfold wrtH; rw [hsk]
      rw [this] at hq
      have h1 := rangeMap_get.2 ⟨hqN, hq⟩
      have h2 := (I.heap.blocks q b h1).2.2
      exact ⟨h1, by simpa using h2⟩
    · intro j s' hs' hL hsk'
      simp only [Bool.or_eq_true] at hL
      rcases hL with hL | hL
      · exact I.inside j s' hs' hL hsk'
      · have := Nat.eq_of_beq_eq_true hL
        subst this
        rw [hi] at hs'; simp at hs'; subst hs'
        rw [hsk] at hsk'; cases hsk'

end
end
end Go.Sx
