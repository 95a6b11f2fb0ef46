/- For the seat: texts joined: SxAbsX. -/
import Derived.Test.YthbdmlcbdibiiaaGreatDoorJSxRg
import Derived.Laws.AppendOwn
/- Data that values of the memory stand for: how what is known of the heap is kept by functions that make, read and change them. -/
namespace Go.Sx
open Go.RowKit
section
variable {ρ : Env} {G : Globs} {K : Nat → Prop} {w0 w w' : World} {ι ι' : Nm} {h h' : Heap}
theorem HR.absAt (H : HR ρ G K w0 ι h w) {n k : Nat} {b : Blk} {own : Bool} {t : Tm} (hb : h[n]? = some (some b)) (ha : b.abs = some (own, k, t)) :
    ∃ F : Nat → Prop, ρ.ab.P k (t.den ρ) (ι.val n).v F w ∧ (own = true → F = ι.foot n) := by
  obtain ⟨_, h2, _⟩ := H.blocks _ _ hb
  unfold Blk.Ok at h2
  rw [ha] at h2
  cases own
  · obtain ⟨_, _, F, h3, _⟩ := h2
    exact ⟨F, h3, by simp⟩
  · exact ⟨_, h2.2, fun _ => rfl⟩
theorem HR.upd (H : HR ρ G K w0 ι h w) (C : Nat → Prop) (hl : h'.length = h.length) (hos : w'.os = w.os) (htape : w'.tape = w.tape) (hout : w'.output = w.output) (hsz : w.heap.size ≤ w'.heap.size)
    (hst : ∀ q, q < w.heap.size → (∀ n b, C n → h[n]? = some (some b) → ¬ ι.foot n q) → w'.heap[q]? = w.heap[q]?)
    (hb : ∀ n b', h'[n]? = some (some b') → (¬ C n ∧ h[n]? = some (some b')) ∨ (C n ∧ (∃ b, h[n]? = some (some b)) ∧ b'.Ok ρ K ι n w' ∧ b'.cells.sc h.length = true)) :
    HR ρ G K w0 ι h' w' := by
  have at_ : ∀ (m : Nat) (c : Blk), h'[m]? = some (some c) → ∃ d : Blk, h[m]? = some (some d) := by
    intro m c hc
    rcases hb m c hc with ⟨_, h1⟩ | ⟨_, h1, _⟩
    · exact ⟨c, h1⟩
    · exact h1
  have hK : ∀ k, K k → w'.heap[k]? = w.heap[k]? := fun k hk => hst k (by have := H.old k hk; have := H.size; omega) (fun n b _ hn hf => (H.blocks n b hn).1 k hf hk)
  refine ⟨hos.trans H.os, htape.trans H.tape, hout.trans H.output, Nat.le_trans H.size hsz, fun k hk => (hK k hk).trans (H.kept k hk), H.old, H.base, ?_, ?_, H.globs⟩
  · intro m c hc
    rcases hb m c hc with ⟨hm, h1⟩ | ⟨_, ⟨d, hd⟩, h2, h3⟩
    · obtain ⟨k1, k2, k4⟩ := H.blocks m c h1
      refine ⟨k1, k2.still (fun q hq => hst q (H.footLt h1 hq) (fun n b hn hnb hf => ?_)) hK H.base, by rw [hl]; exact k4⟩
      have := H.inj m n c b h1 hnb q hq hf
      subst this
      exact hm hn
    · exact ⟨(H.blocks m d hd).1, h2, by rw [hl]; exact h3⟩
  · intro m1 m2 c1 c2 hc1 hc2 q hq hq'
    obtain ⟨d1, e1⟩ := at_ m1 c1 hc1
    obtain ⟨d2, e2⟩ := at_ m2 c2 hc2
    exact H.inj m1 m2 d1 d2 e1 e2 q hq hq'
def absNew (k : Nat) (t : Tm) : Blk := { cells := .nil, elem := 0, spare := none, abs := some (true, k, t) }
theorem HR.newV (H : HR ρ G K w0 ι h w) (hb : Below w.heap.size w w') (v : OneV) (F : Nat → Prop) {k : Nat} {t : Tm} (hP : ρ.ab.P k (t.den ρ) v.v F w') (hF : ∀ q, F q → w.heap.size ≤ q) :
    HR ρ G K w0 (ι.putV h.length v F) (h ++ [some (absNew k t)]) w' := by
  have hf : (ι.putV h.length v F).foot h.length = F := by simp [Nm.putV]
  have hv : (ι.putV h.length v F).val h.length = v := by simp [Nm.putV]
  refine H.new (absNew k t) (Nm.ext_putV ι _ _ _) hb.os hb.tape hb.output hb.size hb.block (fun q hq => hF q (by rw [hf] at hq; exact hq)) ?_ rfl
  show Blk.Ok ρ K (ι.putV h.length v F) h.length (absNew k t) w'
  unfold Blk.Ok absNew
  simp only
  exact ⟨trivial, by rw [hf, hv]; exact hP⟩
end
def entryOf (h : Heap) : SVal → Option (Nat × Blk × Bool × Nat × Tm)
  | .abs n => match h[n]? with
    | some (some b) => match b.abs with
      | some (own, k, t) => some (n, b, own, k, t)
      | none => none
    | _ => none
  | _ => none
theorem entryOf_spec {h : Heap} {v : SVal} {n k : Nat} {b : Blk} {own : Bool} {t : Tm} (he : entryOf h v = some (n, b, own, k, t)) : v = .abs n ∧ h[n]? = some (some b) ∧ b.abs = some (own, k, t) := by
  unfold entryOf at he
  split at he
  · rename_i n'
    split at he
    · rename_i b' hb
      split at he
      · rename_i own' k' t' ha
        simp only [Option.some.injEq, Prod.mk.injEq] at he
        obtain ⟨rfl, rfl, rfl, rfl, rfl⟩ := he
        exact ⟨rfl, hb, ha⟩
      · cases he
    · cases he
  · cases he
/-! ### Functions of data and of scalars -/
inductive AP where
  | int (k : IntKind)
  | bool
  | str
  | dat (k : Nat)
  | size
  | svar
  deriving DecidableEq, Repr, Inhabited
def AP.Ok (ρ : Env) (w : World) : AP → Sc → Value → Prop
  | .int k, s, v => v = .int k s.asInt ∧ kHas k s.asInt
  | .bool, s, v => v = .bool s.asBool
  | .str, s, v => v = .string ⟨s.asStr.toArray⟩
  | .dat k, s, v => ∃ F, ρ.ab.P k s v F w
  | .size, s, v => v = .int .i64 s.asInt ∧ (s.asInt = 1 ∨ s.asInt = 2 ∨ s.asInt = 4)
  | .svar, s, v => v = .string ⟨s.asStr.toArray⟩ ∧ s.asStr.length ≤ 1000000
def AllOk (ρ : Env) (w : World) : List AP → List Sc → List Value → Prop
  | [], [], [] => True
  | p :: ps, s :: ss, v :: vs => p.Ok ρ w s v ∧ AllOk ρ w ps ss vs
  | _, _, _ => False
def AP.term (h : Heap) : AP → SVal → Option Tm
  | .int k, .int k' t => match decide (k = k') && t.inK k with
    | true => some t
    | false => none
  | .bool, .bool t => some t
  | .str, .str t => some t
  | .size, .int .i64 (.num n) => match n == 1 || n == 2 || n == 4 with
    | true => some (.num n)
    | false => none
  | .svar, .str (.var i) => some (.var i)
  | .dat k, .nilslice => match Nat.blt k 100 with
    | true => some .nil
    | false => none
  | .dat k, v => match entryOf h v with
    | some (_, _, _, k', t) => match Nat.beq k k' with
      | true => some t
      | false => none
    | none => none
  | _, _ => none
structure NilOk (ρ : Env) : Prop where
  nil : ∀ (k : Nat) (w : World), k < 100 → ∃ F, ρ.ab.P k (.list []) (.slice none 0 0) F w
  str : ∀ i, (ρ.v i).asStr.length ≤ 1000000
def matchA (h : Heap) : List AP → List SVal → Option (List Tm)
  | [], [] => some []
  | p :: ps, v :: vs => match p.term h v, matchA h ps vs with
    | some t, some ts => some (t :: ts)
    | _, _ => none
  | _, _ => none
section
variable {ρ : Env} {G : Globs} {K : Nat → Prop} {w0 w w' : World} {ι ι' : Nm} {h h' : Heap}
theorem AP.term_ok (V : VarsOk ρ) (N : NilOk ρ) (H : HR ρ G K w0 ι h w) {p : AP} {v : SVal} {t : Tm} (ht : p.term h v = some t) : p.Ok ρ w (t.den ρ) (v.conc ρ ι) := by
  unfold AP.term at ht
  split at ht
  · split at ht
    · rename_i hk
      simp only [Option.some.injEq] at ht
      subst ht
      simp only [Bool.and_eq_true, decide_eq_true_eq] at hk
      obtain ⟨rfl, hk⟩ := hk
      exact ⟨by simp [SVal.conc], inK_ok V _ _ hk⟩
    · cases ht
  · simp only [Option.some.injEq] at ht; subst ht; simp [AP.Ok, SVal.conc]
  · simp only [Option.some.injEq] at ht; subst ht; simp [AP.Ok, SVal.conc]
  · split at ht
    · rename_i hk
      simp only [Option.some.injEq] at ht
      subst ht
      simp only [Bool.or_eq_true, beq_iff_eq] at hk
      exact ⟨by simp [SVal.conc], by rcases hk with (h | h) | h <;> simp [Tm.den, h]⟩
    · cases ht
  · simp only [Option.some.injEq] at ht; subst ht; exact ⟨by simp [SVal.conc], N.str _⟩
  · split at ht
    · rename_i hk
      simp only [Option.some.injEq] at ht
      subst ht
      exact N.nil _ w (Nat.le_of_ble_eq_true hk)
    · cases ht
  · split at ht
    · rename_i n b own k' t' he
      split at ht
      · rename_i hk
        simp only [Option.some.injEq] at ht
        subst ht
        have hk := Nat.eq_of_beq_eq_true hk
        subst hk
        obtain ⟨rfl, hb, ha⟩ := entryOf_spec he
        obtain ⟨F, hP, _⟩ := H.absAt hb ha
        exact ⟨F, by simpa [SVal.conc] using hP⟩
      · cases ht
    · cases ht
  · cases ht
theorem matchA_ok (V : VarsOk ρ) (N : NilOk ρ) (H : HR ρ G K w0 ι h w) : ∀ {ps : List AP} {vs : List SVal} {ts : List Tm}, matchA h ps vs = some ts → AllOk ρ w ps (ts.map (·.den ρ)) (vs.map (·.conc ρ ι)) := by
  intro ps
  induction ps with
  | nil =>
    intro vs ts hm
    cases vs with
    | nil => simp [matchA] at hm; subst hm; trivial
    | cons v vs => simp [matchA] at hm
  | cons p ps ih =>
    intro vs ts hm
    cases vs with
    | nil => simp [matchA] at hm
    | cons v vs =>
      simp only [matchA] at hm
      split at hm
      · rename_i t ts' h1 h2
        simp only [Option.some.injEq] at hm
        subst hm
        exact ⟨AP.term_ok V N H h1, ih h2⟩
      · cases hm
end
/-! ### A function that reads -/
/-! ### A function that makes a value of a kind -/
def specNew (ps : List AP) (k : Nat) (D : Tm → Tm) : Spec := fun args h pc =>
  match matchA h ps args with
  | some ts => .leaf ⟨.abs h.length, h ++ [some (absNew k (D (Tm.ofList ts)))], pc⟩
  | none => .fail "arguments"
theorem specNew_ok {cx : Cx} {ρ : Env} (V : VarsOk ρ) (N : NilOk ρ) {f : FuncId} {ps : List AP} {k : Nat} {D : Tm → Tm}
    (hf : ∀ (ss : List Sc) (vs : List Value) (w : World), AllOk ρ w ps ss vs → Calls cx.P f vs.toArray w fun e w' => Below w.heap.size w w' ∧ ∃ (v : OneV) (F : Nat → Prop), e = .returned v.v ∧ (∀ q, F q → w.heap.size ≤ q) ∧
      ∀ t : Tm, (t.den ρ).asList = ss → ρ.ab.P k ((D t).den ρ) v.v F w') :
    ∀ args h pc x, (pc.den ρ).asBool = true → (specNew ps k D args h pc).get ρ = some x → CallOk ρ cx.globs cx.P f args h x := by
  intro args h pc x hpc hx
  unfold specNew at hx
  split at hx
  · rename_i ts hts
    simp only [Tree.get, Option.some.injEq] at hx
    subst hx
    intro K w0 ι w H _
    refine (hf _ _ w (matchA_ok V N H hts)).mono ?_
    rintro e w' ⟨hb, v, F, rfl, hF, hP⟩
    refine ⟨ι.putV h.length v F, Nm.ext_putV ι _ _ _, by simp, H.newV hb v F (hP _ (Tm.ofList_den ρ ts)) hF, by simp [SVal.sc], hpc, ?_⟩
    simp [SVal.conc, Nm.putV]
  · simp [Tree.get] at hx
/-! ### A function that changes the value of a kind that it is given first -/
/-! ### A method that reads an object and what it holds -/
theorem fits_plain {ρ : Env} {ι : Nm} {c : Nat} {b : Blk} {cs : Array Value} (h : b.Fits ρ ι c cs) (hs : b.spare = none) : cs = (b.cells.toList.map (·.conc ρ ι)).toArray := by
  unfold Blk.Fits at h
  rw [hs] at h
  simp only at h
  apply Array.ext'
  rw [h]
  simp [SVal.concL_toList]
def objT (h : Heap) (T : TypeId) (cps : List AP) : SVal → Option (Nat × Blk × List Tm)
  | .ptr b 0 => match h[b]? with
    | some (some blk) => match Nat.beq blk.elem T && blk.isReal, blk.spare, matchA h cps blk.cells.toList with
      | true, none, some cs => some (b, blk, cs)
      | _, _, _ => none
    | _ => none
  | _ => none
theorem objT_ok {ρ : Env} {G : Globs} {K : Nat → Prop} {w0 w : World} {ι : Nm} {h : Heap} (V : VarsOk ρ) (N : NilOk ρ) (H : HR ρ G K w0 ι h w) {T : TypeId} {cps : List AP} {v : SVal} {b : Nat} {blk : Blk} {cs : List Tm}
    (ho : objT h T cps v = some (b, blk, cs)) : v = .ptr b 0 ∧ h[b]? = some (some blk) ∧ blk.abs = none ∧ blk.spare = none ∧ blk.elem = T ∧ w.heap[ι.blk b]? = some (.cells (blk.cells.toList.map (·.conc ρ ι)).toArray T (0, 0)) ∧
      AllOk ρ w cps (cs.map (·.den ρ)) (blk.cells.toList.map (·.conc ρ ι)) := by
  unfold objT at ho
  split at ho
  · rename_i b'
    split at ho
    · rename_i blk' hb
      split at ho
      · rename_i cs' h1 h2 h3
        simp only [Option.some.injEq, Prod.mk.injEq] at ho
        obtain ⟨rfl, rfl, rfl⟩ := ho
        simp only [Bool.and_eq_true] at h1
        have ht := Nat.eq_of_beq_eq_true h1.1
        have ha := isReal_none h1.2
        obtain ⟨_, _, ⟨arr, k2, k3⟩, _⟩ := H.real hb ha
        have := fits_plain k3 h2
        subst this
        exact ⟨rfl, hb, ha, h2, ht, by rw [k2, ht], matchA_ok V N H h3⟩
      · cases ho
    · cases ho
  · cases ho
def specObj (T : TypeId) (cps ps : List AP) (res : Tm → Tm → SVal) : Spec := fun args h pc =>
  match args with
  | a :: r => match objT h T cps a, matchA h ps r with
    | some (_, _, cs), some ts => .leaf ⟨res (Tm.ofList cs) (Tm.ofList ts), h, pc⟩
    | _, _ => .fail "arguments"
  | [] => .fail "arguments"
theorem specObj_ok {cx : Cx} {ρ : Env} (V : VarsOk ρ) (N : NilOk ρ) {f : FuncId} {T : TypeId} {cps ps : List AP} {res : Tm → Tm → SVal} (hrs : ∀ c t, (res c t).sc 0 = true)
    (hf : ∀ (b : Nat) (cs : List Sc) (us : List Value) (ss : List Sc) (vs : List Value) (w : World), w.heap[b]? = some (.cells us.toArray T (0, 0)) → AllOk ρ w cps cs us → AllOk ρ w ps ss vs →
      Calls cx.P f (Value.pointer (some ⟨b, 0, none⟩) :: vs).toArray w fun e w' => Below w.heap.size w w' ∧ ∀ (c t : Tm) (ι : Nm), (c.den ρ).asList = cs → (t.den ρ).asList = ss → e = .returned ((res c t).conc ρ ι)) :
    ∀ args h pc x, (pc.den ρ).asBool = true → (specObj T cps ps res args h pc).get ρ = some x → CallOk ρ cx.globs cx.P f args h x := by
  intro args h pc x hpc hx
  unfold specObj at hx
  split at hx
  · rename_i a r
    split at hx
    · rename_i b blk cs ts ho hts
      simp only [Tree.get, Option.some.injEq] at hx
      subst hx
      intro K w0 ι w H _
      obtain ⟨rfl, hb, _, _, _, hw, hc⟩ := objT_ok V N H ho
      have hcall := hf (ι.blk b) _ _ _ _ w hw hc (matchA_ok V N H hts)
      simp only [List.map_cons, SVal.conc]
      refine hcall.mono ?_
      rintro e w' ⟨hbl, he⟩
      exact ⟨ι, Nm.Ext.refl _ _, Nat.le_refl _, H.under hbl, SVal.sc_mono (Nat.zero_le _) _ (hrs _ _), hpc, he _ _ ι (Tm.ofList_den ρ cs) (Tm.ofList_den ρ ts)⟩
    · simp [Tree.get] at hx
  · simp [Tree.get] at hx
end Go.Sx
/- Methods that change an object, and the datum that one of its cells stands for. -/
namespace Go.Sx
open Go.RowKit
def updC : List (Nat × SVal) → SVal → SVal
  | [], cs => cs
  | (i, v) :: r, cs => updC r (cs.setAt i v)
def updL : List (Nat × Value) → List Value → List Value
  | [], cs => cs
  | (i, v) :: r, cs => updL r (cs.set i v)
theorem updC_conc (ρ : Env) (ι : Nm) : ∀ (l : List (Nat × SVal)) (cs : SVal), (updC l cs).concL ρ ι = updL (l.map fun p => (p.1, p.2.conc ρ ι)) (cs.concL ρ ι)
  | [], _ => rfl
  | (i, v) :: r, cs => by
    simp only [updC, List.map_cons, updL]
    rw [updC_conc ρ ι r, SVal.concL_setAt]
theorem updC_sc {n : Nat} : ∀ (l : List (Nat × SVal)) (cs : SVal), (∀ p ∈ l, p.2.sc n = true) → cs.sc n = true → (updC l cs).sc n = true
  | [], _, _, h => h
  | (i, v) :: r, cs, hl, h => updC_sc r _ (fun p hp => hl p (by simp [hp])) (SVal.sc_setAt _ _ _ h (hl (i, v) (by simp)))
structure Out where
  upd : Tm → Tm → List (Nat × SVal)
  dat : Tm → Tm → Tm
  val : Tm → Tm → SVal
def Out.Flat (o : Out) : Prop := (∀ c t p, p ∈ o.upd c t → p.2.sc 0 = true) ∧ ∀ c t, (o.val c t).sc 0 = true
def outHeap (h : Heap) (b : Nat) (blk : Blk) (n : Nat) (bn : Blk) (k : Nat) (o : Out) (c t : Tm) : Heap :=
  (h.set b (some { blk with cells := updC (o.upd c t) blk.cells })).set n (some { bn with abs := some (true, k, o.dat c t) })
def specMeth (T : TypeId) (cps ps : List AP) (m k : Nat) (w : Tm → Tm → Tm) (o1 o2 : Out) : Spec := fun args h pc =>
  match args with
  | a :: r => match objT h T cps a, matchA h ps r with
    | some (b, blk, cs), some ts => match blk.cells.nth m with
      | some u => match entryOf h u with
        | some (n, bn, true, k', _) => match Nat.beq k k' with
          | true =>
            let c := Tm.ofList cs
            let t := Tm.ofList ts
            match decideT pc (w c t) with
            | some true => .leaf ⟨o1.val c t, outHeap h b blk n bn k o1 c t, pc⟩
            | some false => .leaf ⟨o2.val c t, outHeap h b blk n bn k o2 c t, pc⟩
            | none => .ite (w c t) (.leaf ⟨o1.val c t, outHeap h b blk n bn k o1 c t, mkAnd pc (w c t)⟩) (.leaf ⟨o2.val c t, outHeap h b blk n bn k o2 c t, mkAnd pc (mkNot (w c t))⟩)
          | false => .fail "kind"
        | _ => .fail "datum"
      | none => .fail "cell"
    | _, _ => .fail "arguments"
  | [] => .fail "arguments"
def MethOk (ρ : Env) (P : Program) (f : FuncId) (T : TypeId) (cps ps : List AP) (m k : Nat) (wy : Tm → Tm → Tm) (o1 o2 : Out) : Prop :=
  ∀ (b : Nat) (us : List Value) (vs : List Value) (u : Value) (s : Sc) (F : Nat → Prop) (w : World) (c t : Tm), w.heap[b]? = some (.cells us.toArray T (0, 0)) → AllOk ρ w cps (c.den ρ).asList us → AllOk ρ w ps (t.den ρ).asList vs →
    us[m]? = some u → (c.den ρ).asList[m]? = some s → ρ.ab.P k s u F w → ¬ F b →
    Calls P f (Value.pointer (some ⟨b, 0, none⟩) :: vs).toArray w fun e w' =>
      let o := cond ((wy c t).den ρ).asBool o1 o2
      (∀ ι, e = .returned ((o.val c t).conc ρ ι)) ∧ w'.os = w.os ∧ w'.tape = w.tape ∧ w'.output = w.output ∧ w.heap.size ≤ w'.heap.size ∧ (∀ q, q < w.heap.size → q ≠ b → ¬ F q → w'.heap[q]? = w.heap[q]?) ∧
      (∀ ι, w'.heap[b]? = some (.cells (updL ((o.upd c t).map fun p => (p.1, p.2.conc ρ ι)) us).toArray T (0, 0))) ∧ ρ.ab.P k ((o.dat c t).den ρ) u F w'
theorem matchA_at {h : Heap} : ∀ {ps : List AP} {vs : List SVal} {ts : List Tm} {m : Nat} {u : SVal}, matchA h ps vs = some ts → vs[m]? = some u → ∃ p t, ps[m]? = some p ∧ ts[m]? = some t ∧ p.term h u = some t
  | [], [], _, m, u, _, hu => by simp at hu
  | [], _ :: _, _, _, _, hm, _ => by simp [matchA] at hm
  | _ :: _, [], _, _, _, hm, _ => by simp [matchA] at hm
  | p :: ps, v :: vs, ts, m, u, hm, hu => by
    simp only [matchA] at hm
    split at hm
    · rename_i t ts' h1 h2
      simp only [Option.some.injEq] at hm
      subst hm
      cases m with
      | zero => simp at hu; subst hu; exact ⟨p, t, rfl, rfl, h1⟩
      | succ m => 
        obtain ⟨p', t', e1, e2, e3⟩ := matchA_at h2 (by simpa using hu)
        exact ⟨p', t', by simpa using e1, by simpa using e2, e3⟩
    · cases hm
theorem nth_toList : ∀ (cs : SVal) (m : Nat) (u : SVal), cs.nth m = some u → cs.toList[m]? = some u := by
  intro cs
  induction cs with
  | cons a r _ ih =>
    intro m u h
    cases m with
    | zero => simpa [SVal.nth, SVal.toList] using h
    | succ m => simpa [SVal.toList] using ih m u (by simpa [SVal.nth] using h)
  | _ => intro m u h; cases m <;> simp [SVal.nth] at h
theorem objT_match {h : Heap} {T : TypeId} {cps : List AP} {v : SVal} {b : Nat} {blk : Blk} {cs : List Tm} (ho : objT h T cps v = some (b, blk, cs)) : matchA h cps blk.cells.toList = some cs := by
  unfold objT at ho
  split at ho
  · split at ho
    · split at ho
      · rename_i h3
        simp only [Option.some.injEq, Prod.mk.injEq] at ho
        obtain ⟨rfl, rfl, rfl⟩ := ho
        exact h3
      · cases ho
    · cases ho
  · cases ho
theorem term_dat {h : Heap} {p : AP} {n k : Nat} {b : Blk} {own : Bool} {t t' : Tm} (he : entryOf h (.abs n) = some (n, b, own, k, t)) (ht : p.term h (.abs n) = some t') : t' = t := by
  cases p with
  | dat k0 =>
    have hd : (AP.dat k0).term h (.abs n) = match entryOf h (.abs n) with
      | some (_, _, _, k', t) => match Nat.beq k0 k' with
        | true => some t
        | false => none
      | none => none := rfl
    rw [hd, he] at ht
    simp only at ht
    split at ht
    · exact (Option.some.inj ht).symm
    · cases ht
  | int k0 => simp [AP.term] at ht
  | bool => simp [AP.term] at ht
  | str => simp [AP.term] at ht
  | size => simp [AP.term] at ht
  | svar => simp [AP.term] at ht
theorem meth_leaf {cx : Cx} {ρ : Env} (V : VarsOk ρ) (N : NilOk ρ) {f : FuncId} {T : TypeId} {cps ps : List AP} {m k : Nat} {wy : Tm → Tm → Tm} {o1 o2 : Out} (h1 : o1.Flat) (h2 : o2.Flat) (hf : MethOk ρ cx.P f T cps ps m k wy o1 o2)
    {a u : SVal} {r : List SVal} {h : Heap} {b n : Nat} {blk bn : Blk} {cs ts : List Tm} {t' pc' : Tm} (ho : objT h T cps a = some (b, blk, cs)) (hts : matchA h ps r = some ts) (hu : blk.cells.nth m = some u)
    (he : entryOf h u = some (n, bn, true, k, t')) (way : Bool) (hw : ((wy (Tm.ofList cs) (Tm.ofList ts)).den ρ).asBool = way) (hpc : (pc'.den ρ).asBool = true) :
    CallOk ρ cx.globs cx.P f (a :: r) h ⟨(cond way o1 o2).val (Tm.ofList cs) (Tm.ofList ts), outHeap h b blk n bn k (cond way o1 o2) (Tm.ofList cs) (Tm.ofList ts), pc'⟩ := by
  intro K w0 ι w H _
  have hm := objT_match ho
  obtain ⟨rfl, hb, ha, hsp, hel, hwb, hc⟩ := objT_ok V N H ho
  obtain ⟨rfl, hn, han⟩ := entryOf_spec he
  obtain ⟨F, hP, hF⟩ := H.absAt hn han
  have hF := hF rfl
  subst hF
  obtain ⟨_, hfb, _, _⟩ := H.real hb ha
  have hbn : b ≠ n := by rintro rfl; rw [hb] at hn; simp only [Option.some.injEq] at hn; subst hn; rw [ha] at han; cases han
  have hnb : ¬ ι.foot n (ι.blk b) := fun hq => hbn (H.inj b n blk bn hb hn (ι.blk b) (by rw [hfb]) hq)
  have hul := nth_toList _ _ _ hu
  obtain ⟨p, s, _, hs1, hs2⟩ := matchA_at hm hul
  obtain rfl := term_dat he hs2
  have hcl := Tm.ofList_den ρ cs
  have htl := Tm.ofList_den ρ ts
  have hcall := hf (ι.blk b) _ _ (ι.val n).v (s.den ρ) (ι.foot n) w (Tm.ofList cs) (Tm.ofList ts) hwb (by rw [hcl]; exact hc) (by rw [htl]; exact matchA_ok V N H hts)
    (by rw [List.getElem?_map, hul]; simp [SVal.conc]) (by rw [hcl, List.getElem?_map, hs1]; rfl) hP hnb
  simp only [List.map_cons, SVal.conc]
  refine hcall.mono ?_
  rintro e w' ⟨hv, q1, q2, q3, q4, q5, q6, q7⟩
  rw [hw] at hv q6 q7
  have hflat : (cond way o1 o2).Flat := by cases way <;> assumption
  have hlen : (outHeap h b blk n bn k (cond way o1 o2) (Tm.ofList cs) (Tm.ofList ts)).length = h.length := by simp [outHeap]
  have hbl : b < h.length := (List.getElem?_eq_some_iff.1 hb).1
  have hnl : n < h.length := (List.getElem?_eq_some_iff.1 hn).1
  refine ⟨ι, Nm.Ext.refl _ _, by simp [outHeap], ?_, SVal.sc_mono (Nat.zero_le _) _ (hflat.2 _ _), hpc, hv ι⟩
  refine H.upd (fun x => x = b ∨ x = n) hlen q1 q2 q3 q4 ?_ ?_
  · intro q hq hno
    refine q5 q hq ?_ (hno n bn (.inr rfl) hn)
    intro e
    exact hno b blk (.inl rfl) hb (by rw [hfb]; exact e)
  · intro x b' hx
    unfold outHeap at hx
    by_cases hxn : x = n
    · subst hxn
      rw [List.getElem?_set_self (by simpa using hnl)] at hx
      simp only [Option.some.injEq] at hx
      subst hx
      obtain ⟨_, g2, g3⟩ := H.blocks _ _ hn
      refine .inr ⟨.inr rfl, ⟨bn, hn⟩, ?_, g3⟩
      unfold Blk.Ok at g2 ⊢
      rw [han] at g2
      exact ⟨g2.1, q7⟩
    · rw [List.getElem?_set_ne (Ne.symm hxn)] at hx
      by_cases hxb : x = b
      · subst hxb
        rw [List.getElem?_set_self hbl] at hx
        simp only [Option.some.injEq] at hx
        subst hx
        obtain ⟨_, g2, g3⟩ := H.blocks _ _ hb
        refine .inr ⟨.inl rfl, ⟨blk, hb⟩, ?_, updC_sc _ _ (fun p hp => SVal.sc_mono (Nat.zero_le _) _ (hflat.1 _ _ p hp)) g3⟩
        unfold Blk.Ok
        simp only [ha]
        refine ⟨hfb, _, by rw [hel]; exact q6 ι, ?_⟩
        unfold Blk.Fits
        simp only [hsp]
        rw [updC_conc, SVal.concL_toList]
      · rw [List.getElem?_set_ne (Ne.symm hxb)] at hx
        exact .inl ⟨by simp [hxn, hxb], hx⟩
theorem specMeth_ok {cx : Cx} {ρ : Env} (V : VarsOk ρ) (N : NilOk ρ) {f : FuncId} {T : TypeId} {cps ps : List AP} {m k : Nat} {wy : Tm → Tm → Tm} {o1 o2 : Out} (h1 : o1.Flat) (h2 : o2.Flat) (hf : MethOk ρ cx.P f T cps ps m k wy o1 o2) :
    ∀ args h pc x, (pc.den ρ).asBool = true → (specMeth T cps ps m k wy o1 o2 args h pc).get ρ = some x → CallOk ρ cx.globs cx.P f args h x := by
  intro args h pc x hpc hx
  unfold specMeth at hx
  split at hx
  · rename_i a r
    split at hx
    · rename_i b blk cs ts ho hts
      split at hx
      · rename_i u hu
        split at hx
        · rename_i n bn k' t' he
          split at hx
          · rename_i hk
            have hk := Nat.eq_of_beq_eq_true hk
            subst hk
            have key := fun (way : Bool) (pc' : Tm) hw hp => meth_leaf V N h1 h2 hf (pc' := pc') ho hts hu he way hw hp
            simp only at hx
            split at hx
            · rename_i hd
              simp only [Tree.get, Option.some.injEq] at hx
              subst hx
              exact key true pc (decideT_den hpc hd) hpc
            · rename_i hd
              simp only [Tree.get, Option.some.injEq] at hx
              subst hx
              exact key false pc (decideT_den hpc hd) hpc
            · simp only [Tree.get] at hx
              split at hx
              · rename_i hw
                simp only [Option.some.injEq] at hx
                subst hx
                exact key true _ hw (by rw [mkAnd_den, hpc, hw]; rfl)
              · rename_i hw
                simp only [Option.some.injEq] at hx
                subst hx
                exact key false _ hw (by rw [mkAnd_den, mkNot_den, hpc, hw]; rfl)
          · simp [Tree.get] at hx
        · simp [Tree.get] at hx
      · simp [Tree.get] at hx
    · simp [Tree.get] at hx
  · simp [Tree.get] at hx
end Go.Sx
/- Methods that change an object, and put a new datum into one of its cells. -/
namespace Go.Sx
open Go.RowKit
section
variable {ρ : Env} {G : Globs} {K : Nat → Prop} {w0 w w' : World} {ι : Nm} {h h1 : Heap}
theorem HR.free (H : HR ρ G K w0 ι h w) {q : Nat} (hq : w.heap.size ≤ q) : ¬ K q ∧ ∀ n b, h[n]? = some (some b) → ¬ ι.foot n q :=
  ⟨fun hk => by have := H.old q hk; have := H.size; omega, fun _ _ hn hf => by have := H.footLt hn hf; omega⟩
theorem HR.updNew (H : HR ρ G K w0 ι h w) (C : Nat → Prop) (v : OneV) (F : Nat → Prop) {k : Nat} {t : Tm} (hl : h1.length = h.length) (hos : w'.os = w.os) (htape : w'.tape = w.tape) (hout : w'.output = w.output) (hsz : w.heap.size ≤ w'.heap.size)
    (hst : ∀ q, q < w.heap.size → (∀ n b, C n → h[n]? = some (some b) → ¬ ι.foot n q) → w'.heap[q]? = w.heap[q]?)
    (hP : ρ.ab.P k (t.den ρ) v.v F w') (hF : ∀ q, F q → ¬ K q ∧ ∀ n b, h[n]? = some (some b) → ¬ ι.foot n q)
    (hb : ∀ n b', h1[n]? = some (some b') → (¬ C n ∧ h[n]? = some (some b')) ∨ (C n ∧ (∃ b, h[n]? = some (some b)) ∧ b'.Ok ρ K (ι.putV h.length v F) n w' ∧ b'.cells.sc (h.length + 1) = true)) :
    HR ρ G K w0 (ι.putV h.length v F) (h1 ++ [some (absNew k t)]) w' := by
  have e := Nm.ext_putV ι h.length v F
  have H' := H.ext e
  have ff : (ι.putV h.length v F).foot h.length = F := by simp [Nm.putV]
  have fv : (ι.putV h.length v F).val h.length = v := by simp [Nm.putV]
  have fo : ∀ {n : Nat} {b : Blk}, h[n]? = some (some b) → (ι.putV h.length v F).foot n = ι.foot n := fun {n b} hn => (e n (List.getElem?_eq_some_iff.1 hn).1).2.2.2
  have at_ : ∀ (m : Nat) (c : Blk), h1[m]? = some (some c) → ∃ d : Blk, h[m]? = some (some d) := by
    intro m c hc
    rcases hb m c hc with ⟨_, h1⟩ | ⟨_, h1, _⟩
    · exact ⟨c, h1⟩
    · exact h1
  have hK : ∀ k, K k → w'.heap[k]? = w.heap[k]? := fun k hk => hst k (by have := H.old k hk; have := H.size; omega) (fun n b _ hn hf => (H.blocks n b hn).1 k hf hk)
  have hlt : ∀ {n : Nat} {b : Blk} {q : Nat}, h[n]? = some (some b) → (ι.putV h.length v F).foot n q → q < w.heap.size := fun {n b q} hn hq => H'.footLt hn hq
  have key : ∀ (m : Nat) (c : Blk), (h1 ++ [some (absNew k t)])[m]? = some (some c) → h1[m]? = some (some c) ∨ (m = h.length ∧ c = absNew k t) := by
    intro m c hc
    rcases getElem?_append_new hc with h2 | ⟨h2, h3⟩
    · exact .inl h2
    · exact .inr ⟨h2.trans hl, h3⟩
  refine ⟨hos.trans H.os, htape.trans H.tape, hout.trans H.output, Nat.le_trans H.size hsz, fun k hk => (hK k hk).trans (H.kept k hk), H.old, H.base, ?_, ?_, H'.globs⟩
  · intro m c hc
    rcases key m c hc with hc | ⟨rfl, rfl⟩
    · rcases hb m c hc with ⟨hm, h2⟩ | ⟨_, ⟨d, hd⟩, h2, h3⟩
      · obtain ⟨k1, k2, k4⟩ := H'.blocks m c h2
        refine ⟨k1, k2.still (fun q hq => hst q (hlt h2 hq) (fun n b hn hnb hf => ?_)) hK H.base, SVal.sc_mono (by simp [hl]) _ k4⟩
        rw [fo h2] at hq
        have := H.inj m n c b h2 hnb q hq hf
        subst this
        exact hm hn
      · exact ⟨(H'.blocks m d hd).1, h2, by simpa [hl] using h3⟩
    · refine ⟨fun q hq hk => ?_, ?_, rfl⟩
      · rw [ff] at hq
        exact (hF q hq).1 hk
      · show Blk.Ok ρ K (ι.putV h.length v F) h.length (absNew k t) w'
        unfold Blk.Ok absNew
        simp only
        exact ⟨trivial, by rw [ff, fv]; exact hP⟩
  · intro m1 m2 c1 c2 hc1 hc2 q hq hq'
    rcases key m1 c1 hc1 with hc1 | ⟨rfl, rfl⟩ <;> rcases key m2 c2 hc2 with hc2 | ⟨rfl, rfl⟩
    · obtain ⟨d1, e1⟩ := at_ m1 c1 hc1
      obtain ⟨d2, e2⟩ := at_ m2 c2 hc2
      exact H'.inj m1 m2 d1 d2 e1 e2 q hq hq'
    · obtain ⟨d1, e1⟩ := at_ m1 c1 hc1
      rw [ff] at hq'
      rw [fo e1] at hq
      exact ((hF q hq').2 _ _ e1 hq).elim
    · obtain ⟨d2, e2⟩ := at_ m2 c2 hc2
      rw [ff] at hq
      rw [fo e2] at hq'
      exact ((hF q hq).2 _ _ e2 hq').elim
    · rfl
end
def outHeapN (h : Heap) (b : Nat) (blk : Blk) (m k : Nat) (o : Out) (c t : Tm) : Heap :=
  (h.set b (some { blk with cells := (updC (o.upd c t) blk.cells).setAt m (.abs h.length) })) ++ [some (absNew k (o.dat c t))]
end Go.Sx
/- Functions that make a row of numbers: as many as is known. -/
namespace Go.Sx
open Go.RowKit
def findK (pc c : Tm) : Nat → Option Nat
  | 0 => none
  | k + 1 => match decideT pc (mk2 .eq c (.num (.ofNat (k + 1)))) with
    | some true => some (k + 1)
    | _ => findK pc c k
theorem findK_ok {ρ : Env} {pc c : Tm} (hp : (pc.den ρ).asBool = true) : ∀ {n k : Nat}, findK pc c n = some k → (c.den ρ).asInt = k ∧ 0 < k ∧ k ≤ n
  | 0, k, h => by cases h
  | n + 1, k, h => by
    unfold findK at h
    split at h
    · rename_i hd
      simp only [Option.some.injEq] at h; subst h
      have := decideT_den hp hd
      rw [mk2_den] at this
      exact ⟨eq_of_beq (show ((c.den ρ).asInt == ((n + 1 : Nat) : Int)) = true from this), by omega, by omega⟩
    · have := findK_ok hp h
      exact ⟨this.1, this.2.1, by omega⟩
def rowBlk (e : TypeId) (es : List Tm) : Blk := { cells := SVal.ofList (es.map (SVal.int .i64)), elem := e, spare := some 1 }
def specInts (e : TypeId) (cnt : Tm → Tm) (el : Tm → Nat → Tm) : Spec := fun args h pc =>
  match args with
  | [.int .i64 t] => match t.inK .i64, findK pc (cnt t) 16 with
    | true, some k => .leaf ⟨.slice h.length 0 k (.of h.length), h ++ [some (rowBlk e ((List.range k).map (el t)))], pc⟩
    | _, _ => .fail "how many"
  | _ => .fail "arguments"
theorem sc_ints (n : Nat) : ∀ l : List Tm, (SVal.ofList (l.map (SVal.int .i64))).sc n = true
  | [] => rfl
  | _ :: r => by simp only [List.map_cons, SVal.ofList, SVal.sc, sc_ints n r]; rfl
theorem concL_ints (ρ : Env) (ι : Nm) (l : List Tm) : (SVal.ofList (l.map (SVal.int .i64))).concL ρ ι = l.map fun t => Value.int .i64 (t.den ρ).asInt := by
  rw [SVal.concL_ofList, List.map_map]
  exact List.map_congr_left fun t _ => by simp [SVal.conc]
theorem specInts_ok {cx : Cx} {ρ : Env} (V : VarsOk ρ) {f : FuncId} {e : TypeId} {cnt : Tm → Tm} {el : Tm → Nat → Tm} (L : Int → List Int) (I : World → Prop)
    (hI : ∀ K w0 ι h w, HR ρ cx.globs K w0 ι h w → I w)
    (hf : ∀ (l : Int) (w : World), kHas .i64 l → I w → Calls cx.P f #[.int .i64 l] w fun en w' => ∃ v, en = .returned v ∧ w'.ownsRow w.heap.size e 1 v (L l).length ((L l).map (Value.int .i64)) ∧ Below w.heap.size w w')
    (hc : ∀ t : Tm, ((cnt t).den ρ).asInt = (L (t.den ρ).asInt).length) (he : ∀ (t : Tm) (j : Nat), ((el t j).den ρ).asInt = (L (t.den ρ).asInt).getD j 0) :
    ∀ args h pc x, (pc.den ρ).asBool = true → (specInts e cnt el args h pc).get ρ = some x → CallOk ρ cx.globs cx.P f args h x := by
  intro args h pc x hpc hx
  unfold specInts at hx
  split at hx
  · rename_i t
    split at hx
    · rename_i k hk hfk
      simp only [Tree.get, Option.some.injEq] at hx
      subst hx
      obtain ⟨h1, h2, h3⟩ := findK_ok hpc hfk
      intro K w0 ι w H _
      refine (hf (t.den ρ).asInt w (inK_ok V .i64 t hk) (hI _ _ _ _ _ H)).mono ?_
      rintro en w' ⟨v, rfl, hown, hb⟩
      have hlen : (L (t.den ρ).asInt).length = k := by have := hc t; omega
      rw [hlen] at hown
      rcases hown.2 with ⟨_, h0⟩ | ⟨g, cap, cur, rfl, hg, hh, _, _, hs, ht⟩
      · omega
      · have hf : (ι.put h.length g cap).foot h.length = (· = g) := by simp [Nm.put]
        have hbk : (ι.put h.length g cap).blk h.length = g := by simp [Nm.put]
        have hcp : (ι.put h.length g cap).cap h.length = cap := by simp [Nm.put]
        refine ⟨ι.put h.length g cap, Nm.ext_put ι _ _ _, by simp, ?_, by simp [SVal.sc], hpc, ?_⟩
        · refine H.new _ (Nm.ext_put ι _ _ _) hb.os hb.tape hb.output hb.size hb.block (fun q hq => by rw [hf] at hq; subst hq; exact hg) ?_ (sc_ints _ _)
          unfold Blk.Ok rowBlk
          simp only
          refine ⟨by rw [hf, hbk], cur, by rw [hbk]; exact hh, ?_⟩
          unfold Blk.Fits
          simp only
          rw [hcp]
          refine ⟨⟨cur.toList.drop (k * 1), ?_⟩, hs⟩
          rw [concL_ints, List.map_map]
          have e1 : ((List.range k).map ((fun t => Value.int .i64 (t.den ρ).asInt) ∘ el t)) = (L (t.den ρ).asInt).map (Value.int .i64) := by
            apply List.ext_getElem
            · simp [hlen]
            · intro i hi1 hi2
              simp only [List.length_map, List.length_range] at hi1 hi2
              simp only [List.getElem_map, List.getElem_range, Function.comp_apply, he]
              rw [List.getD_eq_getElem?_getD, List.getElem?_eq_getElem hi2]
              rfl
          rw [e1, ← ht, List.take_append_drop]
        · simp [SVal.conc, Nm.put, Cap.ev]
    · simp [Tree.get] at hx
  · simp [Tree.get] at hx
end Go.Sx
/- Methods that put a new datum into a cell, or give up: three ways. -/
namespace Go.Sx
open Go.RowKit
def orS (a b : Spec) : Spec := fun args h pc => match a args h pc with
  | .fail _ => b args h pc
  | t => t
theorem orS_ok {ρ : Env} {cx : Cx} {f : FuncId} {a b : Spec} (ha : ∀ args h pc x, (pc.den ρ).asBool = true → (a args h pc).get ρ = some x → CallOk ρ cx.globs cx.P f args h x)
    (hb : ∀ args h pc x, (pc.den ρ).asBool = true → (b args h pc).get ρ = some x → CallOk ρ cx.globs cx.P f args h x) :
    ∀ args h pc x, (pc.den ρ).asBool = true → (orS a b args h pc).get ρ = some x → CallOk ρ cx.globs cx.P f args h x := by
  intro args h pc x hpc hx
  unfold orS at hx
  split at hx
  · exact hb _ _ _ _ hpc hx
  · exact ha _ _ _ _ hpc hx
def ways (pc c : Tm) (A B : Tm → Tree Res) : Tree Res :=
  match decideT pc c with
  | some true => A pc
  | some false => B pc
  | none => .ite c (A (mkAnd pc c)) (B (mkAnd pc (mkNot c)))
theorem ways_get {ρ : Env} {pc c : Tm} {A B : Tm → Tree Res} {x : Res} (hpc : (pc.den ρ).asBool = true) (hx : (ways pc c A B).get ρ = some x) :
    ∃ pc', (pc'.den ρ).asBool = true ∧ (((c.den ρ).asBool = true ∧ (A pc').get ρ = some x) ∨ ((c.den ρ).asBool = false ∧ (B pc').get ρ = some x)) := by
  unfold ways at hx
  split at hx
  · rename_i hd
    exact ⟨pc, hpc, .inl ⟨decideT_den hpc hd, hx⟩⟩
  · rename_i hd
    exact ⟨pc, hpc, .inr ⟨decideT_den hpc hd, hx⟩⟩
  · simp only [Tree.get] at hx
    split at hx
    · rename_i hw
      exact ⟨_, by rw [mkAnd_den, hpc, hw]; rfl, .inl ⟨hw, hx⟩⟩
    · rename_i hw
      exact ⟨_, by rw [mkAnd_den, mkNot_den, hpc, hw]; rfl, .inr ⟨hw, hx⟩⟩
structure Shr where
  wy : Tm → Tm → Tm
  wy1 : Tm → Tm → Tm
  up : Tm → Tm → List (Nat × SVal)
  d1 : Tm → Tm → Tm
  d2 : Tm → Tm → Tm
def Shr.o1 (q : Shr) : Out := ⟨q.up, q.d1, fun _ _ => undefS⟩
def Shr.o2 (q : Shr) : Out := ⟨fun _ _ => [], q.d2, fun _ _ => undefS⟩
def Shr.Flat (q : Shr) : Prop := ∀ c t p, p ∈ q.up c t → p.2.sc 0 = true
def specShr (T : TypeId) (cps ps : List AP) (m k : Nat) (q : Shr) (sh : Tm → Bool) : Spec := fun args h pc =>
  match args with
  | a :: r => match objT h T cps a, matchA h ps r with
    | some (b, blk, cs), some ts => match blk.cells.nth m with
      | some u => match entryOf h u with
        | some (n, _, true, k', t0) => match Nat.beq k k' with
          | true =>
            let c := Tm.ofList cs
            let t := Tm.ofList ts
            ways pc (q.wy c t)
              (fun pc => match sh t0 with
                | true => ways pc (q.wy1 c t) (fun pc => .leaf ⟨undefS, h.set b (some { blk with cells := updC (q.up c t) blk.cells }), pc⟩) (fun pc => .leaf ⟨undefS, outHeapN h b blk m k q.o1 c t, pc⟩)
                | false => .leaf ⟨undefS, (outHeapN h b blk m k q.o1 c t).set n none, pc⟩)
              (fun pc => .leaf ⟨undefS, outHeapN h b blk m k q.o2 c t, pc⟩)
          | false => .fail "kind"
        | _ => .fail "datum"
      | none => .fail "cell"
    | _, _ => .fail "arguments"
  | [] => .fail "arguments"
def ShrOk (ρ : Env) (P : Program) (f : FuncId) (T : TypeId) (cps ps : List AP) (m k : Nat) (q : Shr) : Prop :=
  ∀ (b : Nat) (us : List Value) (vs : List Value) (u : Value) (s : Sc) (F : Nat → Prop) (w : World) (c t : Tm), w.heap[b]? = some (.cells us.toArray T (0, 0)) → AllOk ρ w cps (c.den ρ).asList us → AllOk ρ w ps (t.den ρ).asList vs →
    us[m]? = some u → (c.den ρ).asList[m]? = some s → ρ.ab.P k s u F w → ¬ F b →
    Calls P f (Value.pointer (some ⟨b, 0, none⟩) :: vs).toArray w fun e w' =>
      e = .returned (.tuple #[]) ∧ w'.os = w.os ∧ w'.tape = w.tape ∧ w'.output = w.output ∧ w.heap.size ≤ w'.heap.size ∧ (∀ q, q < w.heap.size → q ≠ b → w'.heap[q]? = w.heap[q]?) ∧
      ∃ (v : OneV) (F' : Nat → Prop),
        (((q.wy c t).den ρ).asBool = true → (∀ ι, w'.heap[b]? = some (.cells ((updL ((q.up c t).map fun p => (p.1, p.2.conc ρ ι)) us).set m v.v).toArray T (0, 0))) ∧ ρ.ab.P k ((q.d1 c t).den ρ) v.v F' w' ∧
          (((q.wy1 c t).den ρ).asBool = true → F' = F ∧ ∀ ι, w'.heap[b]? = some (.cells (updL ((q.up c t).map fun p => (p.1, p.2.conc ρ ι)) us).toArray T (0, 0))) ∧ (((q.wy1 c t).den ρ).asBool = false → ∀ q, F' q → w.heap.size ≤ q)) ∧
        (((q.wy c t).den ρ).asBool = false → w'.heap[b]? = some (.cells (us.set m v.v).toArray T (0, 0)) ∧ (∀ q, F' q → w.heap.size ≤ q) ∧ ρ.ab.P k ((q.d2 c t).den ρ) v.v F' w')
section
variable {ρ : Env} {G : Globs} {K : Nat → Prop} {w0 w w' : World} {ι : Nm} {h : Heap}
theorem HR.putNew (H : HR ρ G K w0 ι h w) {b m k : Nat} {blk : Blk} {l : List (Nat × SVal)} {t : Tm} (v : OneV) (F : Nat → Prop) (hb : h[b]? = some (some blk)) (ha : blk.abs = none) (hsp : blk.spare = none) (hl : ∀ p ∈ l, p.2.sc 0 = true)
    (hos : w'.os = w.os) (htape : w'.tape = w.tape) (hout : w'.output = w.output) (hsz : w.heap.size ≤ w'.heap.size) (hst : ∀ q, q < w.heap.size → q ≠ ι.blk b → w'.heap[q]? = w.heap[q]?)
    (hcell : ∀ ι', w'.heap[ι.blk b]? = some (.cells ((updL (l.map fun p => (p.1, p.2.conc ρ ι')) (blk.cells.toList.map (·.conc ρ ι))).set m v.v).toArray blk.elem (0, 0)))
    (hF : ∀ q, F q → ¬ K q ∧ ∀ n b, h[n]? = some (some b) → ¬ ι.foot n q) (hP : ρ.ab.P k (t.den ρ) v.v F w') :
    HR ρ G K w0 (ι.putV h.length v F) ((h.set b (some { blk with cells := (updC l blk.cells).setAt m (.abs h.length) })) ++ [some (absNew k t)]) w' := by
  have hbl : b < h.length := (List.getElem?_eq_some_iff.1 hb).1
  obtain ⟨_, hfb, _, _⟩ := H.real hb ha
  refine H.updNew (fun x => x = b) v F (by simp) hos htape hout hsz ?_ hP hF ?_
  · intro q hq hno
    exact hst q hq (fun e => hno b blk rfl hb (by rw [hfb]; exact e))
  · intro x b' hx
    by_cases hxb : x = b
    · subst hxb
      rw [List.getElem?_set_self hbl] at hx
      simp only [Option.some.injEq] at hx
      subst hx
      obtain ⟨_, g2, g3⟩ := H.blocks _ _ hb
      refine .inr ⟨rfl, ⟨blk, hb⟩, ?_, SVal.sc_setAt _ _ _ (updC_sc _ _ (fun p hp => SVal.sc_mono (Nat.zero_le _) _ (hl p hp)) (SVal.sc_mono (by omega) _ g3)) (by simp [SVal.sc])⟩
      have ex := Nm.ext_putV ι h.length v F
      unfold Blk.Ok
      simp only [ha]
      refine ⟨by rw [(ex x hbl).2.2.2, (ex x hbl).1]; exact hfb, _, by rw [(ex x hbl).1]; exact hcell (ι.putV h.length v F), ?_⟩
      unfold Blk.Fits
      simp only [hsp]
      rw [SVal.concL_setAt, updC_conc, (SVal.conc_ext (ρ := ρ) ex blk.cells g3).2, SVal.concL_toList]
      simp [SVal.conc, Nm.putV]
    · rw [List.getElem?_set_ne (Ne.symm hxb)] at hx
      exact .inl ⟨hxb, hx⟩
theorem HR.objUpd (H : HR ρ G K w0 ι h w) {b : Nat} {blk : Blk} {l : List (Nat × SVal)} (hb : h[b]? = some (some blk)) (ha : blk.abs = none) (hsp : blk.spare = none) (hl : ∀ p ∈ l, p.2.sc 0 = true)
    (hos : w'.os = w.os) (htape : w'.tape = w.tape) (hout : w'.output = w.output) (hsz : w.heap.size ≤ w'.heap.size) (hst : ∀ q, q < w.heap.size → q ≠ ι.blk b → w'.heap[q]? = w.heap[q]?)
    (hcell : w'.heap[ι.blk b]? = some (.cells (updL (l.map fun p => (p.1, p.2.conc ρ ι)) (blk.cells.toList.map (·.conc ρ ι))).toArray blk.elem (0, 0))) :
    HR ρ G K w0 ι (h.set b (some { blk with cells := updC l blk.cells })) w' := by
  have hbl : b < h.length := (List.getElem?_eq_some_iff.1 hb).1
  obtain ⟨_, hfb, _, _⟩ := H.real hb ha
  refine H.upd (fun x => x = b) (by simp) hos htape hout hsz ?_ ?_
  · intro q hq hno
    exact hst q hq (fun e => hno b blk rfl hb (by rw [hfb]; exact e))
  · intro x b' hx
    by_cases hxb : x = b
    · subst hxb
      rw [List.getElem?_set_self hbl] at hx
      simp only [Option.some.injEq] at hx
      subst hx
      obtain ⟨_, g2, g3⟩ := H.blocks _ _ hb
      refine .inr ⟨rfl, ⟨blk, hb⟩, ?_, updC_sc _ _ (fun p hp => SVal.sc_mono (Nat.zero_le _) _ (hl p hp)) g3⟩
      unfold Blk.Ok
      simp only [ha]
      refine ⟨hfb, _, hcell, ?_⟩
      unfold Blk.Fits
      simp only [hsp]
      rw [updC_conc, SVal.concL_toList]
    · rw [List.getElem?_set_ne (Ne.symm hxb)] at hx
      exact .inl ⟨hxb, hx⟩
end
theorem specShr_ok {cx : Cx} {ρ : Env} (V : VarsOk ρ) (N : NilOk ρ) {f : FuncId} {T : TypeId} {cps ps : List AP} {m k : Nat} {q : Shr} {sh : Tm → Bool} (hq : q.Flat) (hf : ShrOk ρ cx.P f T cps ps m k q) :
    ∀ args h pc x, (pc.den ρ).asBool = true → (specShr T cps ps m k q sh args h pc).get ρ = some x → CallOk ρ cx.globs cx.P f args h x := by
  intro args h pc x hpc hx
  unfold specShr at hx
  split at hx
  · rename_i a r
    split at hx
    · rename_i b blk cs ts ho hts
      split at hx
      · rename_i u hu
        split at hx
        · rename_i n bn k' t0 he
          split at hx
          · rename_i hk
            have hk := Nat.eq_of_beq_eq_true hk
            subst hk
            simp only at hx
            intro K w0 ι w H _
            have hm := objT_match ho
            obtain ⟨rfl, hb, ha, hsp, hel, hwb, hc⟩ := objT_ok V N H ho
            obtain ⟨rfl, hn, han⟩ := entryOf_spec he
            obtain ⟨F, hP, hF⟩ := H.absAt hn han
            have hF := hF rfl
            subst hF
            obtain ⟨_, hfb, _, _⟩ := H.real hb ha
            have hbn : b ≠ n := by rintro rfl; rw [hb] at hn; simp only [Option.some.injEq] at hn; subst hn; rw [ha] at han; cases han
            have hnb : ¬ ι.foot n (ι.blk b) := fun hq => hbn (H.inj b n blk bn hb hn (ι.blk b) (by rw [hfb]) hq)
            have hul := nth_toList _ _ _ hu
            obtain ⟨p, s, _, hs1, hs2⟩ := matchA_at hm hul
            obtain rfl := term_dat he hs2
            have hcl := Tm.ofList_den ρ cs
            have htl := Tm.ofList_den ρ ts
            have hcall := hf (ι.blk b) _ _ (ι.val n).v (s.den ρ) (ι.foot n) w (Tm.ofList cs) (Tm.ofList ts) hwb (by rw [hcl]; exact hc) (by rw [htl]; exact matchA_ok V N H hts)
              (by rw [List.getElem?_map, hul]; simp [SVal.conc]) (by rw [hcl, List.getElem?_map, hs1]; rfl) hP hnb
            simp only [List.map_cons, SVal.conc]
            refine hcall.mono ?_
            rintro e w' ⟨rfl, q1, q2, q3, q4, q5, v, F', g1, g2⟩
            subst hel
            have hbl : b < h.length := (List.getElem?_eq_some_iff.1 hb).1
            have hnl : n < h.length := (List.getElem?_eq_some_iff.1 hn).1
            have hflat := hq (Tm.ofList cs) (Tm.ofList ts)
            obtain ⟨pc1, hp1, hx⟩ := ways_get hpc hx
            rcases hx with ⟨hw, hx⟩ | ⟨hw, hx⟩
            · obtain ⟨k1, k2, k3, k4⟩ := g1 hw
              split at hx
              · obtain ⟨pc2, hp2, hx⟩ := ways_get hp1 hx
                rcases hx with ⟨hw1, hx⟩ | ⟨hw1, hx⟩
                · simp only [Tree.get, Option.some.injEq] at hx
                  subst hx
                  exact ⟨ι, Nm.Ext.refl _ _, by simp, H.objUpd hb ha hsp hflat q1 q2 q3 q4 q5 ((k3 hw1).2 ι), rfl, hp2, by simp [undefS, SVal.conc, SVal.concL]⟩
                · simp only [Tree.get, Option.some.injEq] at hx
                  subst hx
                  exact ⟨ι.putV h.length v F', Nm.ext_putV ι _ _ _, by simp [outHeapN], H.putNew v F' hb ha hsp hflat q1 q2 q3 q4 q5 k1 (fun q hq => H.free (k4 hw1 q hq)) k2, rfl, hp2, by simp [undefS, SVal.conc, SVal.concL]⟩
              · simp only [Tree.get, Option.some.injEq] at hx
                subst hx
                have H0 : HR ρ cx.globs K w0 ι (h.set n none) w := H.forget (by
                  intro x c hx
                  by_cases hxn : x = n
                  · subst hxn; rw [List.getElem?_set_self hnl] at hx; simp at hx
                  · rw [List.getElem?_set_ne (Ne.symm hxn)] at hx
                    exact ⟨hx, by simpa using (H.blocks _ _ hx).2.2⟩)
                have hb0 : (h.set n none)[b]? = some (some blk) := by rw [List.getElem?_set_ne (Ne.symm hbn)]; exact hb
                have hfree : ∀ q, F' q → ¬ K q ∧ ∀ x c, (h.set n none)[x]? = some (some c) → ¬ ι.foot x q := by
                  intro x hx
                  cases hw1 : ((q.wy1 (Tm.ofList cs) (Tm.ofList ts)).den ρ).asBool with
                  | true =>
                    rw [(k3 hw1).1] at hx
                    refine ⟨fun hK => (H.blocks n bn hn).1 x hx hK, fun y c hy hfy => ?_⟩
                    by_cases hyn : y = n
                    · subst hyn; rw [List.getElem?_set_self hnl] at hy; simp at hy
                    · rw [List.getElem?_set_ne (Ne.symm hyn)] at hy
                      exact hyn (H.inj y n c bn hy hn x hfy hx)
                  | false => exact H0.free (k4 hw1 x hx)
                have HN := H0.putNew v F' hb0 ha hsp hflat q1 q2 q3 q4 q5 k1 hfree k2
                have hlen : (h.set n none).length = h.length := by simp
                rw [hlen] at HN
                refine ⟨ι.putV h.length v F', Nm.ext_putV ι _ _ _, by simp [outHeapN], ?_, rfl, hp1, by simp [undefS, SVal.conc, SVal.concL]⟩
                have e1 : (outHeapN h b blk m k q.o1 (Tm.ofList cs) (Tm.ofList ts)).set n none = ((h.set n none).set b (some { blk with cells := (updC (q.up (Tm.ofList cs) (Tm.ofList ts)) blk.cells).setAt m (.abs h.length) })) ++ [some (absNew k (q.d1 (Tm.ofList cs) (Tm.ofList ts)))] := by
                  unfold outHeapN Shr.o1
                  rw [List.set_append_left _ _ (by simpa using hnl), List.set_comm _ _ hbn]
                simp only [e1]
                exact HN
            · obtain ⟨k1, k2, k3⟩ := g2 hw
              simp only [Tree.get, Option.some.injEq] at hx
              subst hx
              exact ⟨ι.putV h.length v F', Nm.ext_putV ι _ _ _, by simp [outHeapN], H.putNew (l := []) v F' hb ha hsp (by simp) q1 q2 q3 q4 q5 (fun _ => k1) (fun q hq => H.free (k2 q hq)) k3, rfl, hp1, by simp [undefS, SVal.conc, SVal.concL]⟩
          · simp [Tree.get] at hx
        · simp [Tree.get] at hx
      · simp [Tree.get] at hx
    · simp [Tree.get] at hx
  · simp [Tree.get] at hx
end Go.Sx
