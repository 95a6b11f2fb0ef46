/- For the seat: texts joined: SxAbsX, LnD, Dig, Nam, Din, Dda, Dit, Its, De. -/
import Derived.Test.YtdeelhbckfmaeaaGreatDoorSxRg
import Derived.Laws.AppendOwn
import Derived.Test.YtdeelhbckfmaeaaGreatDoorJE
import Derived.Deep.AppendSrc
import Derived.Test.YtdeelhbckfmaeaaGreatDoorJC0
import Derived.Laws.IdiomStrings
import Derived.Deep.MidRow
import Derived.Test.YtdeelhbckfmaeaaGreatDoorJJ
import Derived.Shelf.Slices.Empties
import Derived.Test.YtdeelhbckfmaeaaGreatDoorJA
import Derived.Deep.RegionHeld3
/- Data that values of the memory stand for: how what is known of the heap is kept by functions that make, read and change them. -/
namespace Go.Sx
noncomputable section
open Go.RowKit

/-- The entry of a name: whether it is the call's own; its kind; its datum. -/
def entryOf (h : Heap) : SVal → Option (Nat × Blk × Bool × Nat × Tm)
  | .abs n => match h[n]? with
    | some (some b) => match b.abs with
      | some (own, k, t) => some (n, b, own, k, t)
      | none => none
    | _ => none
  | _ => none

theorem entryOf_spec {h : Heap} {v : SVal} {n k : Nat} {b : Blk} {own : Bool} {t : Tm} (he : entryOf h v = some (n, b, own, k, t)) : v = .abs n ∧ h[n]? = some (some b) ∧ b.abs = some (own, k, t) := by
  unfold entryOf at he
  split at he
  · rename_i n'
    split at he
    · rename_i b' hb
      split at he
      · rename_i own' k' t' ha
        simp only [Option.some.injEq, Prod.mk.injEq] at he
        obtain ⟨rfl, rfl, rfl, rfl, rfl⟩ := he
        exact ⟨rfl, hb, ha⟩
      · cases he
    · cases he
  · cases he

/-! ### Functions of data and of scalars -/

/-- What an argument is: a number, a truth, a text, or a value of a kind. -/
inductive AP where
  | int (k : IntKind)
  | bool
  | str
  | dat (k : Nat)
  /-- 1, 2 or 4 -/
  | size
  /-- a variable's text, not too long -/
  | svar
  deriving DecidableEq, Repr, Inhabited

/-- A value stands for a scalar. -/
def AP.Ok (ρ : Env) (w : World) : AP → Sc → Value → Prop
  | .int k, s, v => v = .int k s.asInt ∧ kHas k s.asInt
  | .bool, s, v => v = .bool s.asBool
  | .str, s, v => v = .string ⟨s.asStr.toArray⟩
  | .dat k, s, v => ∃ F, ρ.ab.P k s v F w
  | .size, s, v => v = .int .i64 s.asInt ∧ (s.asInt = 1 ∨ s.asInt = 2 ∨ s.asInt = 4)
  | .svar, s, v => v = .string ⟨s.asStr.toArray⟩ ∧ s.asStr.length ≤ 1000000

def AllOk (ρ : Env) (w : World) : List AP → List Sc → List Value → Prop
  | [], [], [] => True
  | p :: ps, s :: ss, v :: vs => p.Ok ρ w s v ∧ AllOk ρ w ps ss vs
  | _, _, _ => False

/-- An argument's term. -/
def AP.term (h : Heap) : AP → SVal → Option Tm
  | .int k, .int k' t => match decide (k = k') && t.inK k with
    | true => some t
    | false => none
  | .bool, .bool t => some t
  | .str, .str t => some t
  | .size, .int .i64 (.num n) => match n == 1 || n == 2 || n == 4 with
    | true => some (.num n)
    | false => none
  | .svar, .str (.var i) => some (.var i)
  | .dat k, .nilslice => match Nat.blt k 100 with
    | true => some .nil
    | false => none
  | .dat k, v => match entryOf h v with
    | some (_, _, _, k', t) => match Nat.beq k k' with
      | true => some t
      | false => none
    | none => none
  | _, _ => none

/-- A slice that is none has the datum of no elements. -/
structure NilOk (ρ : Env) : Prop where
  nil : ∀ (k : Nat) (w : World), k < 100 → ∃ F, ρ.ab.P k (.list []) (.slice none 0 0) F w
  /-- no variable's text is too long -/
  str : ∀ i, (ρ.v i).asStr.length ≤ 1000000

def matchA (h : Heap) : List AP → List SVal → Option (List Tm)
  | [], [] => some []
  | p :: ps, v :: vs => match p.term h v, matchA h ps vs with
    | some t, some ts => some (t :: ts)
    | _, _ => none
  | _, _ => none

section
variable {ρ : Env} {G : Globs} {K : Nat → Prop} {w0 w w' : World} {ι ι' : Nm} {h h' : Heap}

theorem AP.term_ok (V : VarsOk ρ) (N : NilOk ρ) (H : HR ρ G K w0 ι h w) {p : AP} {v : SVal} {t : Tm} (ht : p.term h v = some t) : p.Ok ρ w (t.den ρ) (v.conc ρ ι) := by
  unfold AP.term at ht
  split at ht
  · split at ht
    · rename_i hk
      simp only [Option.some.injEq] at ht
      subst ht
      simp only [Bool.and_eq_true, decide_eq_true_eq] at hk
      obtain ⟨rfl, hk⟩ := hk
      exact ⟨by simp [SVal.conc], inK_ok V _ _ hk⟩
    · cases ht
  · simp only [Option.some.injEq] at ht; subst ht; simp [AP.Ok, SVal.conc]
  · simp only [Option.some.injEq] at ht; subst ht; simp [AP.Ok, SVal.conc]
  · split at ht
    · rename_i hk
      simp only [Option.some.injEq] at ht
      subst ht
      simp only [Bool.or_eq_true, beq_iff_eq] at hk
      exact ⟨by simp [SVal.conc], by rcases hk with (h | h) | h <;> simp [Tm.den, h]⟩
    · cases ht
  · simp only [Option.some.injEq] at ht; subst ht; exact ⟨by simp [SVal.conc], N.str _⟩
  · split at ht
    · rename_i hk
      simp only [Option.some.injEq] at ht
      subst ht
      exact N.nil _ w (Nat.le_of_ble_eq_true hk)
    · cases ht
  · split at ht
    · rename_i n b own k' t' he
      split at ht
      · rename_i hk
        simp only [Option.some.injEq] at ht
        subst ht
        have hk := Nat.eq_of_beq_eq_true hk
        subst hk
        obtain ⟨rfl, hb, ha⟩ := entryOf_spec he
        obtain ⟨F, hP, _⟩ := H.absAt hb ha
        exact ⟨F, by simpa [SVal.conc] using hP⟩
      · cases ht
    · cases ht
  · cases ht

theorem matchA_ok (V : VarsOk ρ) (N : NilOk ρ) (H : HR ρ G K w0 ι h w) : ∀ {ps : List AP} {vs : List SVal} {ts : List Tm}, matchA h ps vs = some ts → AllOk ρ w ps (ts.map (·.den ρ)) (vs.map (·.conc ρ ι)) := by
  intro ps
  induction ps with
  | nil =>
    intro vs ts hm
    cases vs with
    | nil => simp [matchA] at hm; subst hm; trivial
    | cons v vs => simp [matchA] at hm
  | cons p ps ih =>
    intro vs ts hm
    cases vs with
    | nil => simp [matchA] at hm
    | cons v vs =>
      simp only [matchA] at hm
      split at hm
      · rename_i t ts' h1 h2
        simp only [Option.some.injEq] at hm
        subst hm
        exact ⟨AP.term_ok V N H h1, ih h2⟩
      · cases hm

end

/-! ### A function that reads -/

def specRead (ps : List AP) (res : Tm → SVal) : Spec := fun args h pc =>
  match matchA h ps args with
  | some ts => .leaf ⟨res (Tm.ofList ts), h, pc⟩
  | none => .fail "arguments"

theorem specRead_ok {cx : Cx} {ρ : Env} (V : VarsOk ρ) (N : NilOk ρ) {f : FuncId} {ps : List AP} {res : Tm → SVal} (hrs : ∀ t, (res t).sc 0 = true)
    (hf : ∀ (ss : List Sc) (vs : List Value) (w : World), AllOk ρ w ps ss vs → Calls cx.P f vs.toArray w fun e w' => Below w.heap.size w w' ∧ ∀ (t : Tm) (ι : Nm), (t.den ρ).asList = ss → e = .returned ((res t).conc ρ ι)) :
    ∀ args h pc x, (pc.den ρ).asBool = true → (specRead ps res args h pc).get ρ = some x → CallOk ρ cx.globs cx.P f args h x := by
  intro args h pc x hpc hx
  unfold specRead at hx
  split at hx
  · rename_i ts hts
    simp only [Tree.get, Option.some.injEq] at hx
    subst hx
    intro K w0 ι w H _
    refine (hf _ _ w (matchA_ok V N H hts)).mono ?_
    rintro e w' ⟨hb, he⟩
    exact ⟨ι, Nm.Ext.refl _ _, Nat.le_refl _, H.under hb, SVal.sc_mono (Nat.zero_le _) _ (hrs _), hpc, he _ ι (Tm.ofList_den ρ ts)⟩
  · simp [Tree.get] at hx

/-! ### A function that makes a value of a kind -/

def specNew (ps : List AP) (k : Nat) (D : Tm → Tm) : Spec := fun args h pc =>
  match matchA h ps args with
  | some ts => .leaf ⟨.abs h.length, h ++ [some (absNew k (D (Tm.ofList ts)))], pc⟩
  | none => .fail "arguments"

theorem specNew_ok {cx : Cx} {ρ : Env} (V : VarsOk ρ) (N : NilOk ρ) {f : FuncId} {ps : List AP} {k : Nat} {D : Tm → Tm}
    (hf : ∀ (ss : List Sc) (vs : List Value) (w : World), AllOk ρ w ps ss vs → Calls cx.P f vs.toArray w fun e w' => Below w.heap.size w w' ∧ ∃ (v : OneV) (F : Nat → Prop), e = .returned v.v ∧ (∀ q, F q → w.heap.size ≤ q) ∧
      ∀ t : Tm, (t.den ρ).asList = ss → ρ.ab.P k ((D t).den ρ) v.v F w') :
    ∀ args h pc x, (pc.den ρ).asBool = true → (specNew ps k D args h pc).get ρ = some x → CallOk ρ cx.globs cx.P f args h x := by
  intro args h pc x hpc hx
  unfold specNew at hx
  split at hx
  · rename_i ts hts
    simp only [Tree.get, Option.some.injEq] at hx
    subst hx
    intro K w0 ι w H _
    refine (hf _ _ w (matchA_ok V N H hts)).mono ?_
    rintro e w' ⟨hb, v, F, rfl, hF, hP⟩
    refine ⟨ι.putV h.length v F, Nm.ext_putV ι _ _ _, by simp, H.newV hb v F (hP _ (Tm.ofList_den ρ ts)) hF, by simp [SVal.sc], hpc, ?_⟩
    simp [SVal.conc, Nm.putV]
  · simp [Tree.get] at hx

/-! ### A function that changes the value of a kind that it is given first -/

def specUpd (k : Nat) (ps : List AP) (D : Tm → Tm) : Spec := fun args h pc =>
  match args with
  | a :: _ => match matchA h (.dat k :: ps) args, entryOf h a with
    | some ts, some (n, b, true, _, _) => .leaf ⟨undefS, h.set n (some { b with abs := some (true, k, D (Tm.ofList ts)) }), pc⟩
    | _, _ => .fail "arguments"
  | [] => .fail "arguments"

theorem specUpd_ok {cx : Cx} {ρ : Env} (V : VarsOk ρ) (N : NilOk ρ) {f : FuncId} {ps : List AP} {k : Nat} {D : Tm → Tm}
    (hf : ∀ (s : Sc) (ss : List Sc) (v : Value) (vs : List Value) (F : Nat → Prop) (w : World), ρ.ab.P k s v F w → AllOk ρ w ps ss vs → Calls cx.P f (v :: vs).toArray w fun e w' => e = .returned (.tuple #[]) ∧
      w'.os = w.os ∧ w'.tape = w.tape ∧ w'.output = w.output ∧ w.heap.size ≤ w'.heap.size ∧ (∀ q, q < w.heap.size → ¬ F q → w'.heap[q]? = w.heap[q]?) ∧ ∀ t : Tm, (t.den ρ).asList = s :: ss → ρ.ab.P k ((D t).den ρ) v F w') :
    ∀ args h pc x, (pc.den ρ).asBool = true → (specUpd k ps D args h pc).get ρ = some x → CallOk ρ cx.globs cx.P f args h x := by
  intro args h pc x hpc hx
  unfold specUpd at hx
  split at hx
  · rename_i a r
    split at hx
    · rename_i ts n b k' t' hts he
      simp only [Tree.get, Option.some.injEq] at hx
      subst hx
      intro K w0 ι w H _
      obtain ⟨rfl, hb, ha⟩ := entryOf_spec he
      simp only [matchA] at hts
      split at hts
      · rename_i t ts' h1 h2
        simp only [Option.some.injEq] at hts
        subst hts
        have hd : (AP.dat k).term h (.abs n) = match entryOf h (.abs n) with
          | some (_, _, _, k', t) => match Nat.beq k k' with
            | true => some t
            | false => none
          | none => none := rfl
        rw [hd, he] at h1
        simp only at h1
        split at h1
        · rename_i hk
          simp only [Option.some.injEq] at h1
          subst h1
          have hk := Nat.eq_of_beq_eq_true hk
          subst hk
          obtain ⟨F, hP, hF⟩ := H.absAt hb ha
          have hF := hF rfl
          subst hF
          refine (hf _ _ _ _ _ w hP (matchA_ok V N H h2)).mono ?_
          rintro e w' ⟨rfl, h1, h2, h3, h4, h5, h6⟩
          refine ⟨ι, Nm.Ext.refl _ _, by simp, H.updV hb ha h1 h2 h3 h4 h5 (h6 _ (by rw [Tm.ofList_den]; rfl)), by simp [undefS, SVal.sc], hpc, ?_⟩
          simp [undefS, SVal.conc, SVal.concL]
        · cases h1
      · cases hts
    · simp [Tree.get] at hx
  · simp [Tree.get] at hx

/-! ### A method that reads an object and what it holds -/

theorem fits_plain {ρ : Env} {ι : Nm} {c : Nat} {b : Blk} {cs : Array Value} (h : b.Fits ρ ι c cs) (hs : b.spare = none) : cs = (b.cells.toList.map (·.conc ρ ι)).toArray := by
  unfold Blk.Fits at h
  rw [hs] at h
  simp only at h
  apply Array.ext'
  rw [h]
  simp [SVal.concL_toList]

/-- The terms of an object's cells. -/
def objT (h : Heap) (T : TypeId) (cps : List AP) : SVal → Option (Nat × Blk × List Tm)
  | .ptr b 0 => match h[b]? with
    | some (some blk) => match Nat.beq blk.elem T && blk.isReal, blk.spare, matchA h cps blk.cells.toList with
      | true, none, some cs => some (b, blk, cs)
      | _, _, _ => none
    | _ => none
  | _ => none

theorem objT_ok {ρ : Env} {G : Globs} {K : Nat → Prop} {w0 w : World} {ι : Nm} {h : Heap} (V : VarsOk ρ) (N : NilOk ρ) (H : HR ρ G K w0 ι h w) {T : TypeId} {cps : List AP} {v : SVal} {b : Nat} {blk : Blk} {cs : List Tm}
    (ho : objT h T cps v = some (b, blk, cs)) : v = .ptr b 0 ∧ h[b]? = some (some blk) ∧ blk.abs = none ∧ blk.spare = none ∧ blk.elem = T ∧ w.heap[ι.blk b]? = some (.cells (blk.cells.toList.map (·.conc ρ ι)).toArray T (0, 0)) ∧
      AllOk ρ w cps (cs.map (·.den ρ)) (blk.cells.toList.map (·.conc ρ ι)) := by
  unfold objT at ho
  split at ho
  · rename_i b'
    split at ho
    · rename_i blk' hb
      split at ho
      · rename_i cs' h1 h2 h3
        simp only [Option.some.injEq, Prod.mk.injEq] at ho
        obtain ⟨rfl, rfl, rfl⟩ := ho
        simp only [Bool.and_eq_true] at h1
        have ht := Nat.eq_of_beq_eq_true h1.1
        have ha := isReal_none h1.2
        obtain ⟨_, _, ⟨arr, k2, k3⟩, _⟩ := H.real hb ha
        have := fits_plain k3 h2
        subst this
        exact ⟨rfl, hb, ha, h2, ht, by rw [k2, ht], matchA_ok V N H h3⟩
      · cases ho
    · cases ho
  · cases ho

def specObj (T : TypeId) (cps ps : List AP) (res : Tm → Tm → SVal) : Spec := fun args h pc =>
  match args with
  | a :: r => match objT h T cps a, matchA h ps r with
    | some (_, _, cs), some ts => .leaf ⟨res (Tm.ofList cs) (Tm.ofList ts), h, pc⟩
    | _, _ => .fail "arguments"
  | [] => .fail "arguments"

theorem specObj_ok {cx : Cx} {ρ : Env} (V : VarsOk ρ) (N : NilOk ρ) {f : FuncId} {T : TypeId} {cps ps : List AP} {res : Tm → Tm → SVal} (hrs : ∀ c t, (res c t).sc 0 = true)
    (hf : ∀ (b : Nat) (cs : List Sc) (us : List Value) (ss : List Sc) (vs : List Value) (w : World), w.heap[b]? = some (.cells us.toArray T (0, 0)) → AllOk ρ w cps cs us → AllOk ρ w ps ss vs →
      Calls cx.P f (Value.pointer (some ⟨b, 0, none⟩) :: vs).toArray w fun e w' => Below w.heap.size w w' ∧ ∀ (c t : Tm) (ι : Nm), (c.den ρ).asList = cs → (t.den ρ).asList = ss → e = .returned ((res c t).conc ρ ι)) :
    ∀ args h pc x, (pc.den ρ).asBool = true → (specObj T cps ps res args h pc).get ρ = some x → CallOk ρ cx.globs cx.P f args h x := by
  intro args h pc x hpc hx
  unfold specObj at hx
  split at hx
  · rename_i a r
    split at hx
    · rename_i b blk cs ts ho hts
      simp only [Tree.get, Option.some.injEq] at hx
      subst hx
      intro K w0 ι w H _
      obtain ⟨rfl, hb, _, _, _, hw, hc⟩ := objT_ok V N H ho
      have hcall := hf (ι.blk b) _ _ _ _ w hw hc (matchA_ok V N H hts)
      simp only [List.map_cons, SVal.conc]
      refine hcall.mono ?_
      rintro e w' ⟨hbl, he⟩
      exact ⟨ι, Nm.Ext.refl _ _, Nat.le_refl _, H.under hbl, SVal.sc_mono (Nat.zero_le _) _ (hrs _ _), hpc, he _ _ ι (Tm.ofList_den ρ cs) (Tm.ofList_den ρ ts)⟩
    · simp [Tree.get] at hx
  · simp [Tree.get] at hx

end
end Go.Sx

/- Methods that change an object, and the datum that one of its cells stands for. -/
namespace Go.Sx
noncomputable section
open Go.RowKit

/-- Some cells are others. -/
def updC : List (Nat × SVal) → SVal → SVal
  | [], cs => cs
  | (i, v) :: r, cs => updC r (cs.setAt i v)

def updL : List (Nat × Value) → List Value → List Value
  | [], cs => cs
  | (i, v) :: r, cs => updL r (cs.set i v)

theorem updC_conc (ρ : Env) (ι : Nm) : ∀ (l : List (Nat × SVal)) (cs : SVal), (updC l cs).concL ρ ι = updL (l.map fun p => (p.1, p.2.conc ρ ι)) (cs.concL ρ ι)
  | [], _ => rfl
  | (i, v) :: r, cs => by
    simp only [updC, List.map_cons, updL]
    rw [updC_conc ρ ι r, SVal.concL_setAt]

theorem updC_sc {n : Nat} : ∀ (l : List (Nat × SVal)) (cs : SVal), (∀ p ∈ l, p.2.sc n = true) → cs.sc n = true → (updC l cs).sc n = true
  | [], _, _, h => h
  | (i, v) :: r, cs, hl, h => updC_sc r _ (fun p hp => hl p (by simp [hp])) (SVal.sc_setAt _ _ _ h (hl (i, v) (by simp)))

/-- What a method does: the cells that are others; the datum of the cell's value; the answer. -/
structure Out where
  upd : Tm → Tm → List (Nat × SVal)
  dat : Tm → Tm → Tm
  val : Tm → Tm → SVal

def Out.Flat (o : Out) : Prop := (∀ c t p, p ∈ o.upd c t → p.2.sc 0 = true) ∧ ∀ c t, (o.val c t).sc 0 = true

def outHeap (h : Heap) (b : Nat) (blk : Blk) (n : Nat) (bn : Blk) (k : Nat) (o : Out) (c t : Tm) : Heap :=
  (h.set b (some { blk with cells := updC (o.upd c t) blk.cells })).set n (some { bn with abs := some (true, k, o.dat c t) })

/-- A method of an object whose cell m stands for a datum of kind k that is its own; one of two ways. -/
def specMeth (T : TypeId) (cps ps : List AP) (m k : Nat) (w : Tm → Tm → Tm) (o1 o2 : Out) : Spec := fun args h pc =>
  match args with
  | a :: r => match objT h T cps a, matchA h ps r with
    | some (b, blk, cs), some ts => match blk.cells.nth m with
      | some u => match entryOf h u with
        | some (n, bn, true, k', _) => match Nat.beq k k' with
          | true =>
            let c := Tm.ofList cs
            let t := Tm.ofList ts
            match decideT pc (w c t) with
            | some true => .leaf ⟨o1.val c t, outHeap h b blk n bn k o1 c t, pc⟩
            | some false => .leaf ⟨o2.val c t, outHeap h b blk n bn k o2 c t, pc⟩
            | none => .ite (w c t) (.leaf ⟨o1.val c t, outHeap h b blk n bn k o1 c t, mkAnd pc (w c t)⟩) (.leaf ⟨o2.val c t, outHeap h b blk n bn k o2 c t, mkAnd pc (mkNot (w c t))⟩)
          | false => .fail "kind"
        | _ => .fail "datum"
      | none => .fail "cell"
    | _, _ => .fail "arguments"
  | [] => .fail "arguments"

/-- What the method does, in the world. -/
def MethOk (ρ : Env) (P : Program) (f : FuncId) (T : TypeId) (cps ps : List AP) (m k : Nat) (wy : Tm → Tm → Tm) (o1 o2 : Out) : Prop :=
  ∀ (b : Nat) (us : List Value) (vs : List Value) (u : Value) (s : Sc) (F : Nat → Prop) (w : World) (c t : Tm), w.heap[b]? = some (.cells us.toArray T (0, 0)) → AllOk ρ w cps (c.den ρ).asList us → AllOk ρ w ps (t.den ρ).asList vs →
    us[m]? = some u → (c.den ρ).asList[m]? = some s → ρ.ab.P k s u F w → ¬ F b →
    Calls P f (Value.pointer (some ⟨b, 0, none⟩) :: vs).toArray w fun e w' =>
      let o := cond ((wy c t).den ρ).asBool o1 o2
      (∀ ι, e = .returned ((o.val c t).conc ρ ι)) ∧ w'.os = w.os ∧ w'.tape = w.tape ∧ w'.output = w.output ∧ w.heap.size ≤ w'.heap.size ∧ (∀ q, q < w.heap.size → q ≠ b → ¬ F q → w'.heap[q]? = w.heap[q]?) ∧
      (∀ ι, w'.heap[b]? = some (.cells (updL ((o.upd c t).map fun p => (p.1, p.2.conc ρ ι)) us).toArray T (0, 0))) ∧ ρ.ab.P k ((o.dat c t).den ρ) u F w'

theorem allOk_get {ρ : Env} {w : World} : ∀ {ps : List AP} {ss : List Sc} {vs : List Value}, AllOk ρ w ps ss vs → ss.length = vs.length
  | [], [], [], _ => rfl
  | p :: ps, s :: ss, v :: vs, h => by simp [allOk_get h.2]
  | [], _ :: _, _, h => h.elim
  | [], [], _ :: _, h => h.elim
  | _ :: _, [], _, h => h.elim
  | _ :: _, _ :: _, [], h => h.elim

theorem matchA_at {h : Heap} : ∀ {ps : List AP} {vs : List SVal} {ts : List Tm} {m : Nat} {u : SVal}, matchA h ps vs = some ts → vs[m]? = some u → ∃ p t, ps[m]? = some p ∧ ts[m]? = some t ∧ p.term h u = some t
  | [], [], _, m, u, _, hu => by simp at hu
  | [], _ :: _, _, _, _, hm, _ => by simp [matchA] at hm
  | _ :: _, [], _, _, _, hm, _ => by simp [matchA] at hm
  | p :: ps, v :: vs, ts, m, u, hm, hu => by
    simp only [matchA] at hm
    split at hm
    · rename_i t ts' h1 h2
      simp only [Option.some.injEq] at hm
      subst hm
      cases m with
      | zero => simp at hu; subst hu; exact ⟨p, t, rfl, rfl, h1⟩
      | succ m => 
        obtain ⟨p', t', e1, e2, e3⟩ := matchA_at h2 (by simpa using hu)
        exact ⟨p', t', by simpa using e1, by simpa using e2, e3⟩
    · cases hm

theorem nth_toList : ∀ (cs : SVal) (m : Nat) (u : SVal), cs.nth m = some u → cs.toList[m]? = some u := by
  intro cs
  induction cs with
  | cons a r _ ih =>
    intro m u h
    cases m with
    | zero => simpa [SVal.nth_0, SVal.toList] using h
    | succ m => simpa [SVal.toList] using ih m u (by simpa [SVal.nth_s] using h)
  | _ => intro m u h; cases m <;> simp [SVal.nth] at h

theorem objT_match {h : Heap} {T : TypeId} {cps : List AP} {v : SVal} {b : Nat} {blk : Blk} {cs : List Tm} (ho : objT h T cps v = some (b, blk, cs)) : matchA h cps blk.cells.toList = some cs := by
  unfold objT at ho
  split at ho
  · split at ho
    · split at ho
      · rename_i h3
        simp only [Option.some.injEq, Prod.mk.injEq] at ho
        obtain ⟨rfl, rfl, rfl⟩ := ho
        exact h3
      · cases ho
    · cases ho
  · cases ho

theorem term_dat {h : Heap} {p : AP} {n k : Nat} {b : Blk} {own : Bool} {t t' : Tm} (he : entryOf h (.abs n) = some (n, b, own, k, t)) (ht : p.term h (.abs n) = some t') : t' = t := by
  cases p with
  | dat k0 =>
    have hd : (AP.dat k0).term h (.abs n) = match entryOf h (.abs n) with
      | some (_, _, _, k', t) => match Nat.beq k0 k' with
        | true => some t
        | false => none
      | none => none := rfl
    rw [hd, he] at ht
    simp only at ht
    split at ht
    · exact (Option.some.inj ht).symm
    · cases ht
  | int k0 => simp [AP.term] at ht
  | bool => simp [AP.term] at ht
  | str => simp [AP.term] at ht
  | size => simp [AP.term] at ht
  | svar => simp [AP.term] at ht

theorem meth_leaf {cx : Cx} {ρ : Env} (V : VarsOk ρ) (N : NilOk ρ) {f : FuncId} {T : TypeId} {cps ps : List AP} {m k : Nat} {wy : Tm → Tm → Tm} {o1 o2 : Out} (h1 : o1.Flat) (h2 : o2.Flat) (hf : MethOk ρ cx.P f T cps ps m k wy o1 o2)
    {a u : SVal} {r : List SVal} {h : Heap} {b n : Nat} {blk bn : Blk} {cs ts : List Tm} {t' pc' : Tm} (ho : objT h T cps a = some (b, blk, cs)) (hts : matchA h ps r = some ts) (hu : blk.cells.nth m = some u)
    (he : entryOf h u = some (n, bn, true, k, t')) (way : Bool) (hw : ((wy (Tm.ofList cs) (Tm.ofList ts)).den ρ).asBool = way) (hpc : (pc'.den ρ).asBool = true) :
    CallOk ρ cx.globs cx.P f (a :: r) h ⟨(cond way o1 o2).val (Tm.ofList cs) (Tm.ofList ts), outHeap h b blk n bn k (cond way o1 o2) (Tm.ofList cs) (Tm.ofList ts), pc'⟩ := by
  intro K w0 ι w H _
  have hm := objT_match ho
  obtain ⟨rfl, hb, ha, hsp, hel, hwb, hc⟩ := objT_ok V N H ho
  obtain ⟨rfl, hn, han⟩ := entryOf_spec he
  obtain ⟨F, hP, hF⟩ := H.absAt hn han
  have hF := hF rfl
  subst hF
  obtain ⟨_, hfb, _, _⟩ := H.real hb ha
  have hbn : b ≠ n := by rintro rfl; rw [hb] at hn; simp only [Option.some.injEq] at hn; subst hn; rw [ha] at han; cases han
  have hnb : ¬ ι.foot n (ι.blk b) := fun hq => hbn (H.inj b n blk bn hb hn (ι.blk b) (by rw [hfb]) hq)
  have hul := nth_toList _ _ _ hu
  obtain ⟨p, s, _, hs1, hs2⟩ := matchA_at hm hul
  obtain rfl := term_dat he hs2
  have hcl := Tm.ofList_den ρ cs
  have htl := Tm.ofList_den ρ ts
  have hcall := hf (ι.blk b) _ _ (ι.val n).v (s.den ρ) (ι.foot n) w (Tm.ofList cs) (Tm.ofList ts) hwb (by rw [hcl]; exact hc) (by rw [htl]; exact matchA_ok V N H hts)
    (by rw [List.getElem?_map, hul]; simp [SVal.conc]) (by rw [hcl, List.getElem?_map, hs1]; rfl) hP hnb
  simp only [List.map_cons, SVal.conc]
  refine hcall.mono ?_
  rintro e w' ⟨hv, q1, q2, q3, q4, q5, q6, q7⟩
  rw [hw] at hv q6 q7
  have hflat : (cond way o1 o2).Flat := by cases way <;> assumption
  have hlen : (outHeap h b blk n bn k (cond way o1 o2) (Tm.ofList cs) (Tm.ofList ts)).length = h.length := by simp [outHeap]
  have hbl : b < h.length := (List.getElem?_eq_some_iff.1 hb).1
  have hnl : n < h.length := (List.getElem?_eq_some_iff.1 hn).1
  refine ⟨ι, Nm.Ext.refl _ _, by simp [outHeap], ?_, SVal.sc_mono (Nat.zero_le _) _ (hflat.2 _ _), hpc, hv ι⟩
  refine H.upd (fun x => x = b ∨ x = n) hlen q1 q2 q3 q4 ?_ ?_
  · intro q hq hno
    refine q5 q hq ?_ (hno n bn (.inr rfl) hn)
    intro e
    exact hno b blk (.inl rfl) hb (by rw [hfb]; exact e)
  · intro x b' hx
    unfold outHeap at hx
    by_cases hxn : x = n
    · subst hxn
      rw [List.getElem?_set_self (by simpa using hnl)] at hx
      simp only [Option.some.injEq] at hx
      subst hx
      obtain ⟨_, g2, g3⟩ := H.blocks _ _ hn
      refine .inr ⟨.inr rfl, ⟨bn, hn⟩, ?_, g3⟩
      unfold Blk.Ok at g2 ⊢
      rw [han] at g2
      exact ⟨g2.1, q7⟩
    · rw [List.getElem?_set_ne (Ne.symm hxn)] at hx
      by_cases hxb : x = b
      · subst hxb
        rw [List.getElem?_set_self hbl] at hx
        simp only [Option.some.injEq] at hx
        subst hx
        obtain ⟨_, g2, g3⟩ := H.blocks _ _ hb
        refine .inr ⟨.inl rfl, ⟨blk, hb⟩, ?_, updC_sc _ _ (fun p hp => SVal.sc_mono (Nat.zero_le _) _ (hflat.1 _ _ p hp)) g3⟩
        unfold Blk.Ok
        simp only [ha]
        refine ⟨hfb, _, by rw [hel]; exact q6 ι, ?_⟩
        unfold Blk.Fits
        simp only [hsp]
        rw [updC_conc, SVal.concL_toList]
      · rw [List.getElem?_set_ne (Ne.symm hxb)] at hx
        exact .inl ⟨by simp [hxn, hxb], hx⟩

theorem specMeth_ok {cx : Cx} {ρ : Env} (V : VarsOk ρ) (N : NilOk ρ) {f : FuncId} {T : TypeId} {cps ps : List AP} {m k : Nat} {wy : Tm → Tm → Tm} {o1 o2 : Out} (h1 : o1.Flat) (h2 : o2.Flat) (hf : MethOk ρ cx.P f T cps ps m k wy o1 o2) :
    ∀ args h pc x, (pc.den ρ).asBool = true → (specMeth T cps ps m k wy o1 o2 args h pc).get ρ = some x → CallOk ρ cx.globs cx.P f args h x := by
  intro args h pc x hpc hx
  unfold specMeth at hx
  split at hx
  · rename_i a r
    split at hx
    · rename_i b blk cs ts ho hts
      split at hx
      · rename_i u hu
        split at hx
        · rename_i n bn k' t' he
          split at hx
          · rename_i hk
            have hk := Nat.eq_of_beq_eq_true hk
            subst hk
            have key := fun (way : Bool) (pc' : Tm) hw hp => meth_leaf V N h1 h2 hf (pc' := pc') ho hts hu he way hw hp
            simp only at hx
            split at hx
            · rename_i hd
              simp only [Tree.get, Option.some.injEq] at hx
              subst hx
              exact key true pc (decideT_den hpc hd) hpc
            · rename_i hd
              simp only [Tree.get, Option.some.injEq] at hx
              subst hx
              exact key false pc (decideT_den hpc hd) hpc
            · simp only [Tree.get] at hx
              split at hx
              · rename_i hw
                simp only [Option.some.injEq] at hx
                subst hx
                exact key true _ hw (by rw [mkAnd_den, hpc, hw]; rfl)
              · rename_i hw
                simp only [Option.some.injEq] at hx
                subst hx
                exact key false _ hw (by rw [mkAnd_den, mkNot_den, hpc, hw]; rfl)
          · simp [Tree.get] at hx
        · simp [Tree.get] at hx
      · simp [Tree.get] at hx
    · simp [Tree.get] at hx
  · simp [Tree.get] at hx

end
end Go.Sx

/- Methods that change an object, and put a new datum into one of its cells. -/
namespace Go.Sx
noncomputable section
open Go.RowKit

section
variable {ρ : Env} {G : Globs} {K : Nat → Prop} {w0 w w' : World} {ι : Nm} {h h1 : Heap}

/-- New blocks are no one's. -/
theorem HR.free (H : HR ρ G K w0 ι h w) {q : Nat} (hq : w.heap.size ≤ q) : ¬ K q ∧ ∀ n b, h[n]? = some (some b) → ¬ ι.foot n q :=
  ⟨fun hk => by have := H.old q hk; have := H.size; omega, fun _ _ hn hf => by have := H.footLt hn hf; omega⟩

theorem HR.updNew (H : HR ρ G K w0 ι h w) (C : Nat → Prop) (v : OneV) (F : Nat → Prop) {k : Nat} {t : Tm} (hl : h1.length = h.length) (hos : w'.os = w.os) (htape : w'.tape = w.tape) (hout : w'.output = w.output) (hsz : w.heap.size ≤ w'.heap.size)
    (hst : ∀ q, q < w.heap.size → (∀ n b, C n → h[n]? = some (some b) → ¬ ι.foot n q) → w'.heap[q]? = w.heap[q]?)
    (hP : ρ.ab.P k (t.den ρ) v.v F w') (hF : ∀ q, F q → ¬ K q ∧ ∀ n b, h[n]? = some (some b) → ¬ ι.foot n q)
    (hb : ∀ n b', h1[n]? = some (some b') → (¬ C n ∧ h[n]? = some (some b')) ∨ (C n ∧ (∃ b, h[n]? = some (some b)) ∧ b'.Ok ρ K (ι.putV h.length v F) n w' ∧ b'.cells.sc (h.length + 1) = true)) :
    HR ρ G K w0 (ι.putV h.length v F) (h1 ++ [some (absNew k t)]) w' := by
  have e := Nm.ext_putV ι h.length v F
  have H' := H.ext e
  have ff : (ι.putV h.length v F).foot h.length = F := by simp [Nm.putV]
  have fv : (ι.putV h.length v F).val h.length = v := by simp [Nm.putV]
  have fo : ∀ {n : Nat} {b : Blk}, h[n]? = some (some b) → (ι.putV h.length v F).foot n = ι.foot n := fun {n b} hn => (e n (List.getElem?_eq_some_iff.1 hn).1).2.2.2
  have at_ : ∀ (m : Nat) (c : Blk), h1[m]? = some (some c) → ∃ d : Blk, h[m]? = some (some d) := by
    intro m c hc
    rcases hb m c hc with ⟨_, h1⟩ | ⟨_, h1, _⟩
    · exact ⟨c, h1⟩
    · exact h1
  have hK : ∀ k, K k → w'.heap[k]? = w.heap[k]? := fun k hk => hst k (by have := H.old k hk; have := H.size; omega) (fun n b _ hn hf => (H.blocks n b hn).1 k hf hk)
  have hlt : ∀ {n : Nat} {b : Blk} {q : Nat}, h[n]? = some (some b) → (ι.putV h.length v F).foot n q → q < w.heap.size := fun {n b q} hn hq => H'.footLt hn hq
  have key : ∀ (m : Nat) (c : Blk), (h1 ++ [some (absNew k t)])[m]? = some (some c) → h1[m]? = some (some c) ∨ (m = h.length ∧ c = absNew k t) := by
    intro m c hc
    rcases getElem?_append_new hc with h2 | ⟨h2, h3⟩
    · exact .inl h2
    · exact .inr ⟨h2.trans hl, h3⟩
  refine ⟨hos.trans H.os, htape.trans H.tape, hout.trans H.output, Nat.le_trans H.size hsz, fun k hk => (hK k hk).trans (H.kept k hk), H.old, H.base, ?_, ?_, H'.globs⟩
  · intro m c hc
    rcases key m c hc with hc | ⟨rfl, rfl⟩
    · rcases hb m c hc with ⟨hm, h2⟩ | ⟨_, ⟨d, hd⟩, h2, h3⟩
      · obtain ⟨k1, k2, k4⟩ := H'.blocks m c h2
        refine ⟨k1, k2.still (fun q hq => hst q (hlt h2 hq) (fun n b hn hnb hf => ?_)) hK H.base, SVal.sc_mono (by simp [hl]) _ k4⟩
        rw [fo h2] at hq
        have := H.inj m n c b h2 hnb q hq hf
        subst this
        exact hm hn
      · exact ⟨(H'.blocks m d hd).1, h2, by simpa [hl] using h3⟩
    · refine ⟨fun q hq hk => ?_, ?_, rfl⟩
      · rw [ff] at hq
        exact (hF q hq).1 hk
      · show Blk.Ok ρ K (ι.putV h.length v F) h.length (absNew k t) w'
        unfold Blk.Ok absNew
        simp only
        exact ⟨trivial, by rw [ff, fv]; exact hP⟩
  · intro m1 m2 c1 c2 hc1 hc2 q hq hq'
    rcases key m1 c1 hc1 with hc1 | ⟨rfl, rfl⟩ <;> rcases key m2 c2 hc2 with hc2 | ⟨rfl, rfl⟩
    · obtain ⟨d1, e1⟩ := at_ m1 c1 hc1
      obtain ⟨d2, e2⟩ := at_ m2 c2 hc2
      exact H'.inj m1 m2 d1 d2 e1 e2 q hq hq'
    · obtain ⟨d1, e1⟩ := at_ m1 c1 hc1
      rw [ff] at hq'
      rw [fo e1] at hq
      exact ((hF q hq').2 _ _ e1 hq).elim
    · obtain ⟨d2, e2⟩ := at_ m2 c2 hc2
      rw [ff] at hq
      rw [fo e2] at hq'
      exact ((hF q hq).2 _ _ e2 hq').elim
    · rfl

end

def outHeapN (h : Heap) (b : Nat) (blk : Blk) (m k : Nat) (o : Out) (c t : Tm) : Heap :=
  (h.set b (some { blk with cells := (updC (o.upd c t) blk.cells).setAt m (.abs h.length) })) ++ [some (absNew k (o.dat c t))]

/-- A method of an object that puts a new datum of kind k into cell m; one of two ways. -/
def specPut (T : TypeId) (cps ps : List AP) (m k : Nat) (w : Tm → Tm → Tm) (o1 o2 : Out) : Spec := fun args h pc =>
  match args with
  | a :: r => match objT h T cps a, matchA h ps r with
    | some (b, blk, cs), some ts => match decideT pc (w (Tm.ofList cs) (Tm.ofList ts)) with
      | some true => .leaf ⟨o1.val (Tm.ofList cs) (Tm.ofList ts), outHeapN h b blk m k o1 (Tm.ofList cs) (Tm.ofList ts), pc⟩
      | some false => .leaf ⟨o2.val (Tm.ofList cs) (Tm.ofList ts), outHeapN h b blk m k o2 (Tm.ofList cs) (Tm.ofList ts), pc⟩
      | none => .ite (w (Tm.ofList cs) (Tm.ofList ts)) (.leaf ⟨o1.val (Tm.ofList cs) (Tm.ofList ts), outHeapN h b blk m k o1 (Tm.ofList cs) (Tm.ofList ts), mkAnd pc (w (Tm.ofList cs) (Tm.ofList ts))⟩)
          (.leaf ⟨o2.val (Tm.ofList cs) (Tm.ofList ts), outHeapN h b blk m k o2 (Tm.ofList cs) (Tm.ofList ts), mkAnd pc (mkNot (w (Tm.ofList cs) (Tm.ofList ts)))⟩)
    | _, _ => .fail "arguments"
  | [] => .fail "arguments"

/-- What the method does, in the world. -/
def PutOk (ρ : Env) (P : Program) (f : FuncId) (T : TypeId) (cps ps : List AP) (m k : Nat) (wy : Tm → Tm → Tm) (o1 o2 : Out) : Prop :=
  ∀ (b : Nat) (us : List Value) (vs : List Value) (w : World) (c t : Tm), w.heap[b]? = some (.cells us.toArray T (0, 0)) → AllOk ρ w cps (c.den ρ).asList us → AllOk ρ w ps (t.den ρ).asList vs →
    Calls P f (Value.pointer (some ⟨b, 0, none⟩) :: vs).toArray w fun e w' =>
      let o := cond ((wy c t).den ρ).asBool o1 o2
      (∀ ι, e = .returned ((o.val c t).conc ρ ι)) ∧ w'.os = w.os ∧ w'.tape = w.tape ∧ w'.output = w.output ∧ w.heap.size ≤ w'.heap.size ∧ (∀ q, q < w.heap.size → q ≠ b → w'.heap[q]? = w.heap[q]?) ∧
      ∃ (v : OneV) (F : Nat → Prop), (∀ ι, w'.heap[b]? = some (.cells ((updL ((o.upd c t).map fun p => (p.1, p.2.conc ρ ι)) us).set m v.v).toArray T (0, 0))) ∧ (∀ q, F q → w.heap.size ≤ q) ∧ ρ.ab.P k ((o.dat c t).den ρ) v.v F w'

theorem put_leaf {cx : Cx} {ρ : Env} (V : VarsOk ρ) (N : NilOk ρ) {f : FuncId} {T : TypeId} {cps ps : List AP} {m k : Nat} {wy : Tm → Tm → Tm} {o1 o2 : Out} (h1 : o1.Flat) (h2 : o2.Flat) (hf : PutOk ρ cx.P f T cps ps m k wy o1 o2)
    {a : SVal} {r : List SVal} {h : Heap} {b : Nat} {blk : Blk} {cs ts : List Tm} {pc' : Tm} (ho : objT h T cps a = some (b, blk, cs)) (hts : matchA h ps r = some ts)
    (way : Bool) (hw : ((wy (Tm.ofList cs) (Tm.ofList ts)).den ρ).asBool = way) (hpc : (pc'.den ρ).asBool = true) :
    CallOk ρ cx.globs cx.P f (a :: r) h ⟨(cond way o1 o2).val (Tm.ofList cs) (Tm.ofList ts), outHeapN h b blk m k (cond way o1 o2) (Tm.ofList cs) (Tm.ofList ts), pc'⟩ := by
  intro K w0 ι w H _
  obtain ⟨rfl, hb, ha, hsp, hel, hwb, hc⟩ := objT_ok V N H ho
  obtain ⟨_, hfb, _, _⟩ := H.real hb ha
  have hcl := Tm.ofList_den ρ cs
  have htl := Tm.ofList_den ρ ts
  have hcall := hf (ι.blk b) _ _ w (Tm.ofList cs) (Tm.ofList ts) hwb (by rw [hcl]; exact hc) (by rw [htl]; exact matchA_ok V N H hts)
  simp only [List.map_cons, SVal.conc]
  refine hcall.mono ?_
  rintro e w' ⟨hv, q1, q2, q3, q4, q5, v, F, q6, q7, q8⟩
  rw [hw] at hv q6 q8
  have hflat : (cond way o1 o2).Flat := by cases way <;> assumption
  have hbl : b < h.length := (List.getElem?_eq_some_iff.1 hb).1
  refine ⟨ι.putV h.length v F, Nm.ext_putV ι _ _ _, by simp [outHeapN], ?_, SVal.sc_mono (Nat.zero_le _) _ (hflat.2 _ _), hpc, hv _⟩
  unfold outHeapN
  refine H.updNew (fun x => x = b) v F (by simp) q1 q2 q3 q4 ?_ q8 (fun q hq => H.free (q7 q hq)) ?_
  · intro q hq hno
    exact q5 q hq (fun e => hno b blk rfl hb (by rw [hfb]; exact e))
  · intro x b' hx
    by_cases hxb : x = b
    · subst hxb
      rw [List.getElem?_set_self hbl] at hx
      simp only [Option.some.injEq] at hx
      subst hx
      obtain ⟨_, g2, g3⟩ := H.blocks _ _ hb
      refine .inr ⟨rfl, ⟨blk, hb⟩, ?_, SVal.sc_setAt _ _ _ (updC_sc _ _ (fun p hp => SVal.sc_mono (Nat.zero_le _) _ (hflat.1 _ _ p hp)) (SVal.sc_mono (by omega) _ g3)) (by simp [SVal.sc])⟩
      have ex := Nm.ext_putV ι h.length v F
      unfold Blk.Ok
      simp only [ha]
      refine ⟨by rw [(ex x hbl).2.2.2, (ex x hbl).1]; exact hfb, _, by rw [(ex x hbl).1, hel]; exact q6 (ι.putV h.length v F), ?_⟩
      unfold Blk.Fits
      simp only [hsp]
      rw [SVal.concL_setAt, updC_conc, (SVal.conc_ext (ρ := ρ) ex blk.cells g3).2, SVal.concL_toList]
      simp [SVal.conc, Nm.putV]
    · rw [List.getElem?_set_ne (Ne.symm hxb)] at hx
      exact .inl ⟨hxb, hx⟩

theorem specPut_ok {cx : Cx} {ρ : Env} (V : VarsOk ρ) (N : NilOk ρ) {f : FuncId} {T : TypeId} {cps ps : List AP} {m k : Nat} {wy : Tm → Tm → Tm} {o1 o2 : Out} (h1 : o1.Flat) (h2 : o2.Flat) (hf : PutOk ρ cx.P f T cps ps m k wy o1 o2) :
    ∀ args h pc x, (pc.den ρ).asBool = true → (specPut T cps ps m k wy o1 o2 args h pc).get ρ = some x → CallOk ρ cx.globs cx.P f args h x := by
  intro args h pc x hpc hx
  unfold specPut at hx
  split at hx
  · rename_i a r
    split at hx
    · rename_i b blk cs ts ho hts
      have key := fun (way : Bool) (pc' : Tm) hw hp => put_leaf V N h1 h2 hf (pc' := pc') ho hts way hw hp
      split at hx
      · rename_i hd
        simp only [Tree.get, Option.some.injEq] at hx
        subst hx
        exact key true pc (decideT_den hpc hd) hpc
      · rename_i hd
        simp only [Tree.get, Option.some.injEq] at hx
        subst hx
        exact key false pc (decideT_den hpc hd) hpc
      · simp only [Tree.get] at hx
        split at hx
        · rename_i hw
          simp only [Option.some.injEq] at hx
          subst hx
          exact key true _ hw (by rw [mkAnd_den, hpc, hw]; rfl)
        · rename_i hw
          simp only [Option.some.injEq] at hx
          subst hx
          exact key false _ hw (by rw [mkAnd_den, mkNot_den, hpc, hw]; rfl)
    · simp [Tree.get] at hx
  · simp [Tree.get] at hx

end
end Go.Sx

/- Functions that make a row of numbers: as many as is known. -/
namespace Go.Sx
noncomputable section
open Go.RowKit

/-- What a number is known to be, of those up to one. -/
def findK (pc c : Tm) : Nat → Option Nat
  | 0 => none
  | k + 1 => match decideT pc (mk2 .eq c (.num (.ofNat (k + 1)))) with
    | some true => some (k + 1)
    | _ => findK pc c k

theorem findK_ok {ρ : Env} {pc c : Tm} (hp : (pc.den ρ).asBool = true) : ∀ {n k : Nat}, findK pc c n = some k → (c.den ρ).asInt = k ∧ 0 < k ∧ k ≤ n
  | 0, k, h => by cases h
  | n + 1, k, h => by
    unfold findK at h
    split at h
    · rename_i hd
      simp only [Option.some.injEq] at h; subst h
      have := decideT_den hp hd
      rw [mk2_den] at this
      exact ⟨eq_of_beq (show ((c.den ρ).asInt == ((n + 1 : Nat) : Int)) = true from this), by omega, by omega⟩
    · have := findK_ok hp h
      exact ⟨this.1, this.2.1, by omega⟩

def rowBlk (e : TypeId) (es : List Tm) : Blk := { cells := SVal.ofList (es.map (SVal.int .i64)), elem := e, spare := some 1 }

def specInts (e : TypeId) (cnt : Tm → Tm) (el : Tm → Nat → Tm) : Spec := fun args h pc =>
  match args with
  | [.int .i64 t] => match t.inK .i64, findK pc (cnt t) 16 with
    | true, some k => .leaf ⟨.slice h.length 0 k (.of h.length), h ++ [some (rowBlk e ((List.range k).map (el t)))], pc⟩
    | _, _ => .fail "how many"
  | _ => .fail "arguments"

theorem sc_ints (n : Nat) : ∀ l : List Tm, (SVal.ofList (l.map (SVal.int .i64))).sc n = true
  | [] => rfl
  | _ :: r => by simp only [List.map_cons, SVal.ofList, SVal.sc, sc_ints n r]; rfl

theorem concL_ints (ρ : Env) (ι : Nm) (l : List Tm) : (SVal.ofList (l.map (SVal.int .i64))).concL ρ ι = l.map fun t => Value.int .i64 (t.den ρ).asInt := by
  rw [SVal.concL_ofList, List.map_map]
  exact List.map_congr_left fun t _ => by simp [SVal.conc]

theorem specInts_ok {cx : Cx} {ρ : Env} (V : VarsOk ρ) {f : FuncId} {e : TypeId} {cnt : Tm → Tm} {el : Tm → Nat → Tm} (L : Int → List Int) (I : World → Prop)
    (hI : ∀ K w0 ι h w, HR ρ cx.globs K w0 ι h w → I w)
    (hf : ∀ (l : Int) (w : World), kHas .i64 l → I w → Calls cx.P f #[.int .i64 l] w fun en w' => ∃ v, en = .returned v ∧ w'.ownsRow w.heap.size e 1 v (L l).length ((L l).map (Value.int .i64)) ∧ Below w.heap.size w w')
    (hc : ∀ t : Tm, ((cnt t).den ρ).asInt = (L (t.den ρ).asInt).length) (he : ∀ (t : Tm) (j : Nat), ((el t j).den ρ).asInt = (L (t.den ρ).asInt).getD j 0) :
    ∀ args h pc x, (pc.den ρ).asBool = true → (specInts e cnt el args h pc).get ρ = some x → CallOk ρ cx.globs cx.P f args h x := by
  intro args h pc x hpc hx
  unfold specInts at hx
  split at hx
  · rename_i t
    split at hx
    · rename_i k hk hfk
      simp only [Tree.get, Option.some.injEq] at hx
      subst hx
      obtain ⟨h1, h2, h3⟩ := findK_ok hpc hfk
      intro K w0 ι w H _
      refine (hf (t.den ρ).asInt w (inK_ok V .i64 t hk) (hI _ _ _ _ _ H)).mono ?_
      rintro en w' ⟨v, rfl, hown, hb⟩
      have hlen : (L (t.den ρ).asInt).length = k := by have := hc t; omega
      rw [hlen] at hown
      rcases hown.2 with ⟨_, h0⟩ | ⟨g, cap, cur, rfl, hg, hh, _, _, hs, ht⟩
      · omega
      · have hf : (ι.put h.length g cap).foot h.length = (· = g) := by simp [Nm.put]
        have hbk : (ι.put h.length g cap).blk h.length = g := by simp [Nm.put]
        have hcp : (ι.put h.length g cap).cap h.length = cap := by simp [Nm.put]
        refine ⟨ι.put h.length g cap, Nm.ext_put ι _ _ _, by simp, ?_, by simp [SVal.sc], hpc, ?_⟩
        · refine H.new _ (Nm.ext_put ι _ _ _) hb.os hb.tape hb.output hb.size hb.block (fun q hq => by rw [hf] at hq; subst hq; exact hg) ?_ (sc_ints _ _)
          unfold Blk.Ok rowBlk
          simp only
          refine ⟨by rw [hf, hbk], cur, by rw [hbk]; exact hh, ?_⟩
          unfold Blk.Fits
          simp only
          rw [hcp]
          refine ⟨⟨cur.toList.drop (k * 1), ?_⟩, hs⟩
          rw [concL_ints, List.map_map]
          have e1 : ((List.range k).map ((fun t => Value.int .i64 (t.den ρ).asInt) ∘ el t)) = (L (t.den ρ).asInt).map (Value.int .i64) := by
            apply List.ext_getElem
            · simp [hlen]
            · intro i hi1 hi2
              simp only [List.length_map, List.length_range] at hi1 hi2
              simp only [List.getElem_map, List.getElem_range, Function.comp_apply, he]
              rw [List.getD_eq_getElem?_getD, List.getElem?_eq_getElem hi2]
              rfl
          rw [e1, ← ht, List.take_append_drop]
        · simp [SVal.conc, Nm.put, Cap.ev]
    · simp [Tree.get] at hx
  · simp [Tree.get] at hx

end
end Go.Sx

/- Methods that put a new datum into a cell, or give up: three ways. -/
namespace Go.Sx
noncomputable section
open Go.RowKit

/-- The one spec, or the other one. -/
def orA (a b : Spec) : Spec := fun args h pc => match a args h pc with
  | .fail _ => b args h pc
  | t => t

theorem orA_ok {ρ : Env} {cx : Cx} {f : FuncId} {a b : Spec} (ha : ∀ args h pc x, (pc.den ρ).asBool = true → (a args h pc).get ρ = some x → CallOk ρ cx.globs cx.P f args h x)
    (hb : ∀ args h pc x, (pc.den ρ).asBool = true → (b args h pc).get ρ = some x → CallOk ρ cx.globs cx.P f args h x) :
    ∀ args h pc x, (pc.den ρ).asBool = true → (orA a b args h pc).get ρ = some x → CallOk ρ cx.globs cx.P f args h x := by
  intro args h pc x hpc hx
  unfold orA at hx
  split at hx
  · exact hb _ _ _ _ hpc hx
  · exact ha _ _ _ _ hpc hx

/-- Two ways, where it is not known which. -/
def ways (pc c : Tm) (A B : Tm → Tree Res) : Tree Res :=
  match decideT pc c with
  | some true => A pc
  | some false => B pc
  | none => .ite c (A (mkAnd pc c)) (B (mkAnd pc (mkNot c)))

theorem ways_get {ρ : Env} {pc c : Tm} {A B : Tm → Tree Res} {x : Res} (hpc : (pc.den ρ).asBool = true) (hx : (ways pc c A B).get ρ = some x) :
    ∃ pc', (pc'.den ρ).asBool = true ∧ (((c.den ρ).asBool = true ∧ (A pc').get ρ = some x) ∨ ((c.den ρ).asBool = false ∧ (B pc').get ρ = some x)) := by
  unfold ways at hx
  split at hx
  · rename_i hd
    exact ⟨pc, hpc, .inl ⟨decideT_den hpc hd, hx⟩⟩
  · rename_i hd
    exact ⟨pc, hpc, .inr ⟨decideT_den hpc hd, hx⟩⟩
  · simp only [Tree.get] at hx
    split at hx
    · rename_i hw
      exact ⟨_, by rw [mkAnd_den, hpc, hw]; rfl, .inl ⟨hw, hx⟩⟩
    · rename_i hw
      exact ⟨_, by rw [mkAnd_den, mkNot_den, hpc, hw]; rfl, .inr ⟨hw, hx⟩⟩

/-- What the method does: the cells that are others where it gives up; the data, there and else. -/
structure Shr where
  /-- does it give up? -/
  wy : Tm → Tm → Tm
  /-- at once? -/
  wy1 : Tm → Tm → Tm
  up : Tm → Tm → List (Nat × SVal)
  d1 : Tm → Tm → Tm
  d2 : Tm → Tm → Tm

def Shr.o1 (q : Shr) : Out := ⟨q.up, q.d1, fun _ _ => undefS⟩
def Shr.o2 (q : Shr) : Out := ⟨fun _ _ => [], q.d2, fun _ _ => undefS⟩
def Shr.Flat (q : Shr) : Prop := ∀ c t p, p ∈ q.up c t → p.2.sc 0 = true

def specShr (T : TypeId) (cps ps : List AP) (m k : Nat) (q : Shr) (sh : Tm → Bool) : Spec := fun args h pc =>
  match args with
  | a :: r => match objT h T cps a, matchA h ps r with
    | some (b, blk, cs), some ts => match blk.cells.nth m with
      | some u => match entryOf h u with
        | some (n, _, true, k', t0) => match Nat.beq k k' with
          | true =>
            let c := Tm.ofList cs
            let t := Tm.ofList ts
            ways pc (q.wy c t)
              (fun pc => match sh t0 with
                | true => ways pc (q.wy1 c t) (fun pc => .leaf ⟨undefS, h.set b (some { blk with cells := updC (q.up c t) blk.cells }), pc⟩) (fun pc => .leaf ⟨undefS, outHeapN h b blk m k q.o1 c t, pc⟩)
                | false => .leaf ⟨undefS, (outHeapN h b blk m k q.o1 c t).set n none, pc⟩)
              (fun pc => .leaf ⟨undefS, outHeapN h b blk m k q.o2 c t, pc⟩)
          | false => .fail "kind"
        | _ => .fail "datum"
      | none => .fail "cell"
    | _, _ => .fail "arguments"
  | [] => .fail "arguments"

/-- What the method does, in the world. -/
def ShrOk (ρ : Env) (P : Program) (f : FuncId) (T : TypeId) (cps ps : List AP) (m k : Nat) (q : Shr) : Prop :=
  ∀ (b : Nat) (us : List Value) (vs : List Value) (u : Value) (s : Sc) (F : Nat → Prop) (w : World) (c t : Tm), w.heap[b]? = some (.cells us.toArray T (0, 0)) → AllOk ρ w cps (c.den ρ).asList us → AllOk ρ w ps (t.den ρ).asList vs →
    us[m]? = some u → (c.den ρ).asList[m]? = some s → ρ.ab.P k s u F w → ¬ F b →
    Calls P f (Value.pointer (some ⟨b, 0, none⟩) :: vs).toArray w fun e w' =>
      e = .returned (.tuple #[]) ∧ w'.os = w.os ∧ w'.tape = w.tape ∧ w'.output = w.output ∧ w.heap.size ≤ w'.heap.size ∧ (∀ q, q < w.heap.size → q ≠ b → w'.heap[q]? = w.heap[q]?) ∧
      ∃ (v : OneV) (F' : Nat → Prop),
        (((q.wy c t).den ρ).asBool = true → (∀ ι, w'.heap[b]? = some (.cells ((updL ((q.up c t).map fun p => (p.1, p.2.conc ρ ι)) us).set m v.v).toArray T (0, 0))) ∧ ρ.ab.P k ((q.d1 c t).den ρ) v.v F' w' ∧
          (((q.wy1 c t).den ρ).asBool = true → F' = F ∧ ∀ ι, w'.heap[b]? = some (.cells (updL ((q.up c t).map fun p => (p.1, p.2.conc ρ ι)) us).toArray T (0, 0))) ∧ (((q.wy1 c t).den ρ).asBool = false → ∀ q, F' q → w.heap.size ≤ q)) ∧
        (((q.wy c t).den ρ).asBool = false → w'.heap[b]? = some (.cells (us.set m v.v).toArray T (0, 0)) ∧ (∀ q, F' q → w.heap.size ≤ q) ∧ ρ.ab.P k ((q.d2 c t).den ρ) v.v F' w')

section
variable {ρ : Env} {G : Globs} {K : Nat → Prop} {w0 w w' : World} {ι : Nm} {h : Heap}

/-- An object's cells are others, and one of them is a new datum; it may lie where an old one lay, that is forgotten. -/
theorem HR.putNew (H : HR ρ G K w0 ι h w) {b m k : Nat} {blk : Blk} {l : List (Nat × SVal)} {t : Tm} (v : OneV) (F : Nat → Prop) (hb : h[b]? = some (some blk)) (ha : blk.abs = none) (hsp : blk.spare = none) (hl : ∀ p ∈ l, p.2.sc 0 = true)
    (hos : w'.os = w.os) (htape : w'.tape = w.tape) (hout : w'.output = w.output) (hsz : w.heap.size ≤ w'.heap.size) (hst : ∀ q, q < w.heap.size → q ≠ ι.blk b → w'.heap[q]? = w.heap[q]?)
    (hcell : ∀ ι', w'.heap[ι.blk b]? = some (.cells ((updL (l.map fun p => (p.1, p.2.conc ρ ι')) (blk.cells.toList.map (·.conc ρ ι))).set m v.v).toArray blk.elem (0, 0)))
    (hF : ∀ q, F q → ¬ K q ∧ ∀ n b, h[n]? = some (some b) → ¬ ι.foot n q) (hP : ρ.ab.P k (t.den ρ) v.v F w') :
    HR ρ G K w0 (ι.putV h.length v F) ((h.set b (some { blk with cells := (updC l blk.cells).setAt m (.abs h.length) })) ++ [some (absNew k t)]) w' := by
  have hbl : b < h.length := (List.getElem?_eq_some_iff.1 hb).1
  obtain ⟨_, hfb, _, _⟩ := H.real hb ha
  refine H.updNew (fun x => x = b) v F (by simp) hos htape hout hsz ?_ hP hF ?_
  · intro q hq hno
    exact hst q hq (fun e => hno b blk rfl hb (by rw [hfb]; exact e))
  · intro x b' hx
    by_cases hxb : x = b
    · subst hxb
      rw [List.getElem?_set_self hbl] at hx
      simp only [Option.some.injEq] at hx
      subst hx
      obtain ⟨_, g2, g3⟩ := H.blocks _ _ hb
      refine .inr ⟨rfl, ⟨blk, hb⟩, ?_, SVal.sc_setAt _ _ _ (updC_sc _ _ (fun p hp => SVal.sc_mono (Nat.zero_le _) _ (hl p hp)) (SVal.sc_mono (by omega) _ g3)) (by simp [SVal.sc])⟩
      have ex := Nm.ext_putV ι h.length v F
      unfold Blk.Ok
      simp only [ha]
      refine ⟨by rw [(ex x hbl).2.2.2, (ex x hbl).1]; exact hfb, _, by rw [(ex x hbl).1]; exact hcell (ι.putV h.length v F), ?_⟩
      unfold Blk.Fits
      simp only [hsp]
      rw [SVal.concL_setAt, updC_conc, (SVal.conc_ext (ρ := ρ) ex blk.cells g3).2, SVal.concL_toList]
      simp [SVal.conc, Nm.putV]
    · rw [List.getElem?_set_ne (Ne.symm hxb)] at hx
      exact .inl ⟨hxb, hx⟩

/-- An object's cells are others. -/
theorem HR.objUpd (H : HR ρ G K w0 ι h w) {b : Nat} {blk : Blk} {l : List (Nat × SVal)} (hb : h[b]? = some (some blk)) (ha : blk.abs = none) (hsp : blk.spare = none) (hl : ∀ p ∈ l, p.2.sc 0 = true)
    (hos : w'.os = w.os) (htape : w'.tape = w.tape) (hout : w'.output = w.output) (hsz : w.heap.size ≤ w'.heap.size) (hst : ∀ q, q < w.heap.size → q ≠ ι.blk b → w'.heap[q]? = w.heap[q]?)
    (hcell : w'.heap[ι.blk b]? = some (.cells (updL (l.map fun p => (p.1, p.2.conc ρ ι)) (blk.cells.toList.map (·.conc ρ ι))).toArray blk.elem (0, 0))) :
    HR ρ G K w0 ι (h.set b (some { blk with cells := updC l blk.cells })) w' := by
  have hbl : b < h.length := (List.getElem?_eq_some_iff.1 hb).1
  obtain ⟨_, hfb, _, _⟩ := H.real hb ha
  refine H.upd (fun x => x = b) (by simp) hos htape hout hsz ?_ ?_
  · intro q hq hno
    exact hst q hq (fun e => hno b blk rfl hb (by rw [hfb]; exact e))
  · intro x b' hx
    by_cases hxb : x = b
    · subst hxb
      rw [List.getElem?_set_self hbl] at hx
      simp only [Option.some.injEq] at hx
      subst hx
      obtain ⟨_, g2, g3⟩ := H.blocks _ _ hb
      refine .inr ⟨rfl, ⟨blk, hb⟩, ?_, updC_sc _ _ (fun p hp => SVal.sc_mono (Nat.zero_le _) _ (hl p hp)) g3⟩
      unfold Blk.Ok
      simp only [ha]
      refine ⟨hfb, _, hcell, ?_⟩
      unfold Blk.Fits
      simp only [hsp]
      rw [updC_conc, SVal.concL_toList]
    · rw [List.getElem?_set_ne (Ne.symm hxb)] at hx
      exact .inl ⟨hxb, hx⟩
end

theorem specShr_ok {cx : Cx} {ρ : Env} (V : VarsOk ρ) (N : NilOk ρ) {f : FuncId} {T : TypeId} {cps ps : List AP} {m k : Nat} {q : Shr} {sh : Tm → Bool} (hq : q.Flat) (hf : ShrOk ρ cx.P f T cps ps m k q) :
    ∀ args h pc x, (pc.den ρ).asBool = true → (specShr T cps ps m k q sh args h pc).get ρ = some x → CallOk ρ cx.globs cx.P f args h x := by
  intro args h pc x hpc hx
  unfold specShr at hx
  split at hx
  · rename_i a r
    split at hx
    · rename_i b blk cs ts ho hts
      split at hx
      · rename_i u hu
        split at hx
        · rename_i n bn k' t0 he
          split at hx
          · rename_i hk
            have hk := Nat.eq_of_beq_eq_true hk
            subst hk
            simp only at hx
            intro K w0 ι w H _
            have hm := objT_match ho
            obtain ⟨rfl, hb, ha, hsp, hel, hwb, hc⟩ := objT_ok V N H ho
            obtain ⟨rfl, hn, han⟩ := entryOf_spec he
            obtain ⟨F, hP, hF⟩ := H.absAt hn han
            have hF := hF rfl
            subst hF
            obtain ⟨_, hfb, _, _⟩ := H.real hb ha
            have hbn : b ≠ n := by rintro rfl; rw [hb] at hn; simp only [Option.some.injEq] at hn; subst hn; rw [ha] at han; cases han
            have hnb : ¬ ι.foot n (ι.blk b) := fun hq => hbn (H.inj b n blk bn hb hn (ι.blk b) (by rw [hfb]) hq)
            have hul := nth_toList _ _ _ hu
            obtain ⟨p, s, _, hs1, hs2⟩ := matchA_at hm hul
            obtain rfl := term_dat he hs2
            have hcl := Tm.ofList_den ρ cs
            have htl := Tm.ofList_den ρ ts
            have hcall := hf (ι.blk b) _ _ (ι.val n).v (s.den ρ) (ι.foot n) w (Tm.ofList cs) (Tm.ofList ts) hwb (by rw [hcl]; exact hc) (by rw [htl]; exact matchA_ok V N H hts)
              (by rw [List.getElem?_map, hul]; simp [SVal.conc]) (by rw [hcl, List.getElem?_map, hs1]; rfl) hP hnb
            simp only [List.map_cons, SVal.conc]
            refine hcall.mono ?_
            rintro e w' ⟨rfl, q1, q2, q3, q4, q5, v, F', g1, g2⟩
            subst hel
            have hbl : b < h.length := (List.getElem?_eq_some_iff.1 hb).1
            have hnl : n < h.length := (List.getElem?_eq_some_iff.1 hn).1
            have hflat := hq (Tm.ofList cs) (Tm.ofList ts)
            obtain ⟨pc1, hp1, hx⟩ := ways_get hpc hx
            rcases hx with ⟨hw, hx⟩ | ⟨hw, hx⟩
            · obtain ⟨k1, k2, k3, k4⟩ := g1 hw
              split at hx
              · obtain ⟨pc2, hp2, hx⟩ := ways_get hp1 hx
                rcases hx with ⟨hw1, hx⟩ | ⟨hw1, hx⟩
                · simp only [Tree.get, Option.some.injEq] at hx
                  subst hx
                  exact ⟨ι, Nm.Ext.refl _ _, by simp, H.objUpd hb ha hsp hflat q1 q2 q3 q4 q5 ((k3 hw1).2 ι), rfl, hp2, by simp [undefS, SVal.conc, SVal.concL]⟩
                · simp only [Tree.get, Option.some.injEq] at hx
                  subst hx
                  exact ⟨ι.putV h.length v F', Nm.ext_putV ι _ _ _, by simp [outHeapN], H.putNew v F' hb ha hsp hflat q1 q2 q3 q4 q5 k1 (fun q hq => H.free (k4 hw1 q hq)) k2, rfl, hp2, by simp [undefS, SVal.conc, SVal.concL]⟩
              · simp only [Tree.get, Option.some.injEq] at hx
                subst hx
                have H0 : HR ρ cx.globs K w0 ι (h.set n none) w := H.forget (by
                  intro x c hx
                  by_cases hxn : x = n
                  · subst hxn; rw [List.getElem?_set_self hnl] at hx; simp at hx
                  · rw [List.getElem?_set_ne (Ne.symm hxn)] at hx
                    exact ⟨hx, by simpa using (H.blocks _ _ hx).2.2⟩)
                have hb0 : (h.set n none)[b]? = some (some blk) := by rw [List.getElem?_set_ne (Ne.symm hbn)]; exact hb
                have hfree : ∀ q, F' q → ¬ K q ∧ ∀ x c, (h.set n none)[x]? = some (some c) → ¬ ι.foot x q := by
                  intro x hx
                  cases hw1 : ((q.wy1 (Tm.ofList cs) (Tm.ofList ts)).den ρ).asBool with
                  | true =>
                    rw [(k3 hw1).1] at hx
                    refine ⟨fun hK => (H.blocks n bn hn).1 x hx hK, fun y c hy hfy => ?_⟩
                    by_cases hyn : y = n
                    · subst hyn; rw [List.getElem?_set_self hnl] at hy; simp at hy
                    · rw [List.getElem?_set_ne (Ne.symm hyn)] at hy
                      exact hyn (H.inj y n c bn hy hn x hfy hx)
                  | false => exact H0.free (k4 hw1 x hx)
                have HN := H0.putNew v F' hb0 ha hsp hflat q1 q2 q3 q4 q5 k1 hfree k2
                have hlen : (h.set n none).length = h.length := by simp
                rw [hlen] at HN
                refine ⟨ι.putV h.length v F', Nm.ext_putV ι _ _ _, by simp [outHeapN], ?_, rfl, hp1, by simp [undefS, SVal.conc, SVal.concL]⟩
                have e1 : (outHeapN h b blk m k q.o1 (Tm.ofList cs) (Tm.ofList ts)).set n none = ((h.set n none).set b (some { blk with cells := (updC (q.up (Tm.ofList cs) (Tm.ofList ts)) blk.cells).setAt m (.abs h.length) })) ++ [some (absNew k (q.d1 (Tm.ofList cs) (Tm.ofList ts)))] := by
                  unfold outHeapN Shr.o1
                  rw [List.set_append_left _ _ (by simpa using hnl), List.set_comm _ _ hbn]
                simp only [e1]
                exact HN
            · obtain ⟨k1, k2, k3⟩ := g2 hw
              simp only [Tree.get, Option.some.injEq] at hx
              subst hx
              exact ⟨ι.putV h.length v F', Nm.ext_putV ι _ _ _, by simp [outHeapN], H.putNew (l := []) v F' hb ha hsp (by simp) q1 q2 q3 q4 q5 (fun _ => k1) (fun q hq => H.free (k2 q hq)) k3, rfl, hp1, by simp [undefS, SVal.conc, SVal.concL]⟩
          · simp [Tree.get] at hx
        · simp [Tree.get] at hx
      · simp [Tree.get] at hx
    · simp [Tree.get] at hx
  · simp [Tree.get] at hx

end
end Go.Sx
/- For the seat: rows of lines: how they read, how they are put one behind the other. -/
namespace Go.Proofs.YtdeelhbckfmaeaaGreatDoor
open Go.Sx Go.ChangeShapes Go.WideShapes Go.RowKit Go.Joins Go.Deep

structure Ln where
  lab : ByteArray
  k : Int
  x : Fields
  c : Int
  ref : ByteArray
  wd : Bool
  sz : Int
  eo : Int
  en : Int
  nm : ByteArray

abbrev Ln.cells (y : Ln) : Array Value := #[.string y.lab, .int .i64 y.k, .int .i64 y.x.x0, .int .i64 y.x.x1, .int .i64 y.x.x2, .int .i64 y.x.x3, .int .i64 y.x.x4, .int .i64 y.x.x5, .int .i64 y.x.x6, .int .i64 y.x.x7, .bool y.x.b, .int .i64 y.c, .string y.ref, .bool y.wd, .int .i64 y.sz, .int .i64 y.eo, .int .i64 y.en, .string y.nm, .slice none 0 0]
abbrev Ln.val (y : Ln) : Value := .agg y.cells

/-- The cells of lines. -/
def encL (l : List Ln) : List Value := l.flatMap fun y => y.cells.toList
set_option maxRecDepth 100000 in
theorem encL_cons (y : Ln) (r : List Ln) : encL (y :: r) = y.cells.toList ++ encL r := by simp [encL]
set_option maxRecDepth 100000 in
theorem encL_app (l m : List Ln) : encL (l ++ m) = encL l ++ encL m := by simp [encL]
set_option maxRecDepth 100000 in
theorem encL_len : ∀ l : List Ln, (encL l).length = l.length * 19
  | [] => rfl
  | y :: r => by rw [encL_cons, List.length_append, encL_len r, List.length_cons]; show 19 + r.length * 19 = (r.length + 1) * 19; omega
set_option maxRecDepth 100000 in
theorem encL_one {l : List Ln} {u : Value} (h : u ∈ encL l) : u.oneCell' = true := by
  simp only [encL, List.mem_flatMap] at h
  obtain ⟨y, _, hu⟩ := h
  simp only [List.mem_cons, List.not_mem_nil, or_false] at hu
  rcases hu with rfl | rfl | rfl | rfl | rfl | rfl | rfl | rfl | rfl | rfl | rfl | rfl | rfl | rfl | rfl | rfl | rfl | rfl | rfl <;> rfl
set_option maxRecDepth 100000 in
theorem encL_get : ∀ (l : List Ln) (k j : Nat) (hk : k < l.length), j < 19 → (encL l)[k * 19 + j]? = (l[k]).cells[j]?
  | [], k, j, hk, _ => by simp at hk
  | y :: r, 0, j, _, hj => by
    rw [encL_cons, List.getElem?_append_left (by show 0 * 19 + j < 19; omega), Nat.zero_mul, Nat.zero_add]
    simp
  | y :: r, k + 1, j, hk, hj => by
    rw [encL_cons, List.getElem?_append_right (by show 19 ≤ (k + 1) * 19 + j; omega), show (k + 1) * 19 + j - y.cells.toList.length = k * 19 + j by show (k + 1) * 19 + j - 19 = _; omega,
      encL_get r k j (by simp at hk; omega) hj]
    rfl

/-- A slice's address, below block B, where such lines lie. -/
def LAt (w : World) (B : Nat) (A : Option Addr) (l : List Ln) : Prop :=
  l ≠ [] → ∃ g off, A = some ⟨g, off, none⟩ ∧ g < B ∧ ∀ (i : Nat) (v : Value), (encL l)[i]? = some v → w.cell? ⟨g, off + i, none⟩ = some v

set_option maxRecDepth 100000 in
theorem LAt.nil (w : World) (B : Nat) (A : Option Addr) : LAt w B A [] := fun h => absurd rfl h
set_option maxRecDepth 100000 in
theorem LAt.keep {w w' : World} {B : Nat} {A : Option Addr} {l : List Ln} (h : LAt w B A l) (hk : ∀ p : Addr, p.block < B → ∀ v, w.cell? p = some v → w'.cell? p = some v) : LAt w' B A l := by
  intro hn
  obtain ⟨g, off, e, hb, hc⟩ := h hn
  exact ⟨g, off, e, hb, fun i p hp => hk _ hb _ (hc i p hp)⟩
set_option maxRecDepth 100000 in
theorem LAt.below {w w' : World} {B B' : Nat} {A : Option Addr} {l : List Ln} (h : LAt w B A l) (hb : Below B' w w') (hB : B ≤ B') : LAt w' B A l := h.keep fun _ hp _ e => (hb.cell (by omega)).trans e
set_option maxRecDepth 100000 in
theorem LAt.more {w : World} {B B' : Nat} {A : Option Addr} {l : List Ln} (h : LAt w B A l) (hB : B ≤ B') : LAt w B' A l := by
  intro hn
  obtain ⟨g, off, e, hb, hc⟩ := h hn
  exact ⟨g, off, e, by omega, hc⟩

/-- A line at its place: what is looked at. -/
def LnIn (W : World) (g o : Nat) (y : Ln) : Prop := W.cell? ⟨g, o + 1, none⟩ = some (.int .i64 y.k) ∧ W.cell? ⟨g, o + 2, none⟩ = some (.int .i64 y.x.x0) ∧ W.cell? ⟨g, o + 4, none⟩ = some (.int .i64 y.x.x2) ∧ W.cell? ⟨g, o + 5, none⟩ = some (.int .i64 y.x.x3) ∧ W.cell? ⟨g, o + 6, none⟩ = some (.int .i64 y.x.x4) ∧ W.cell? ⟨g, o + 9, none⟩ = some (.int .i64 y.x.x7) ∧ W.cell? ⟨g, o + 10, none⟩ = some (.bool y.x.b)
set_option maxRecDepth 100000 in
theorem LAt.at_ {w : World} {B : Nat} {A : Option Addr} {l : List Ln} (h : LAt w B A l) {k : Nat} (hk : k < l.length) : ∃ g off, A = some ⟨g, off, none⟩ ∧ g < B ∧ LnIn w g (off + k * 19) l[k] := by
  obtain ⟨g, off, e, hb, hc⟩ := h (by intro e; subst e; simp at hk)
  have hj : ∀ j u, j < 19 → (l[k]).cells[j]? = some u → w.cell? ⟨g, off + k * 19 + j, none⟩ = some u := fun j u hj hu => by
    rw [Nat.add_assoc]
    exact hc (k * 19 + j) u ((encL_get l k j hk hj).trans hu)
  exact ⟨g, off, e, hb, hj 1 _ (by omega) rfl, hj 2 _ (by omega) rfl, hj 4 _ (by omega) rfl, hj 5 _ (by omega) rfl, hj 6 _ (by omega) rfl, hj 9 _ (by omega) rfl, hj 10 _ (by omega) rfl⟩

/-- A slice of lines: none, or one that has its place. -/
def LSl (A : Option Addr) (n cap : Nat) : Prop := (A = none ∧ n = 0 ∧ cap = 0) ∨ (n ≤ cap ∧ ∃ g off, A = some ⟨g, off, none⟩)

set_option maxRecDepth 100000 in
theorem lineInfo : (Tryz.prog.info? 47).map (fun i => (i.zero, i.size, i.bytes)) = some (some (Ln.val ⟨⟨#[]⟩, 0, ⟨0, 0, 0, 0, 0, 0, 0, 0, false⟩, 0, ⟨#[]⟩, false, 0, 0, 0, ⟨#[]⟩⟩), 19, 192) := by kernel_rfl

set_option maxRecDepth 100000 in
theorem addN (g off i : Nat) : (⟨g, off, none⟩ : Addr).add i = ⟨g, off + i, none⟩ := Addr.add_mid ..

set_option maxRecDepth 100000 in
/-- Lines behind lines, no room being left: the run. -/
theorem run_app (ty : TypeId) (w : World) (A A2 : Option Addr) (l m : List Ln) (cap2 : Nat) (h1 : LSl A l.length l.length) (h2 : LSl A2 m.length cap2) (hA : LAt w w.heap.size A l) (hm : LAt w w.heap.size A2 m) (hl : l.length + m.length ≤ 10000000) :
    ∃ A' cap' w', (Builtin.append_ #[41, 41] ty #[.slice A l.length l.length, .slice A2 m.length cap2]).run Tryz.prog w = .ok (.slice A' (l ++ m).length cap') w' ∧ LSl A' (l ++ m).length cap' ∧ LAt w' w'.heap.size A' (l ++ m) ∧ Below w.heap.size w w' := by
  obtain ⟨i, hi, hz, hs, hy⟩ := info_parts lineInfo
  have hu : Tryz.prog.underlying 41 = some (.slice 47) := Tryz.underlying41
  have src : Src Tryz.prog i.size 41 (.slice A2 m.length cap2) m.length (encL m) w := by
    rcases h2 with ⟨rfl, h0, rfl⟩ | ⟨hc, g, off, rfl⟩
    · obtain rfl := List.eq_nil_of_length_eq_zero h0
      exact Src.ofNil w hu 0
    · refine Src.ofSlice w hu _ _ _ (encL m) (by rw [encL_len, hs]) ?_ (fun u hu => encL_one hu)
      intro j u hj
      by_cases hn : m = []
      · subst hn; simp [encL] at hj
      obtain ⟨g', off', e, _, hc'⟩ := hm hn
      simp only [Option.some.injEq, Addr.mk.injEq, and_true] at e
      obtain ⟨rfl, rfl⟩ := e
      rw [addN]
      exact hc' j u hj
  rcases Nat.eq_zero_or_pos m.length with h0 | h0
  · obtain rfl := List.eq_nil_of_length_eq_zero h0
    refine ⟨A, l.length, w, ?_, by rw [List.append_nil]; exact h1, by rw [List.append_nil]; exact hA, Below.refl _ _⟩
    rw [List.append_nil]
    rcases h1 with ⟨rfl, h0', _⟩ | ⟨_, g, off, rfl⟩
    · rw [h0']
      have s1 : ∀ w', (Builtin.lenOf (.slice A2 0 cap2)).run Tryz.prog w' = .ok 0 w' := src.len
      have s2 : (Builtin.firstCells i.size 0 (.slice A2 0 cap2)).run Tryz.prog w = .ok #[] w := src.cells
      simp [Builtin.append_, run_underlying hu, sizeOf, typeInfo, hi, s1, s2]
    · have := run_append_room_src w 41 41 ty 47 i hu hi g off l.length l.length (.slice A2 ([] : List Ln).length cap2) 0 (encL []) src (by omega) (fun j hj => by simp [encL] at hj) (fun j hj => by simp [encL] at hj)
      rw [this]
      simp [encL, World.setCells]
  · have hold : (Builtin.firstCells i.size l.length (.slice A l.length l.length)).run Tryz.prog w.drew = .ok (encL l).toArray w.drew := by
      rcases h1 with ⟨rfl, h0', _⟩ | ⟨_, g, off, rfl⟩
      · obtain rfl := List.eq_nil_of_length_eq_zero h0'
        exact run_firstCells_none (P := Tryz.prog) w.drew _ _ 0 0
      · refine run_firstCells_some w.drew _ _ _ _ _ (encL l) (by rw [encL_len, hs]) ?_
        intro j u hj
        by_cases hn : l = []
        · subst hn; simp [encL] at hj
        obtain ⟨g', off', e, _, hc'⟩ := hA hn
        simp only [Option.some.injEq, Addr.mk.injEq, and_true] at e
        obtain ⟨rfl, rfl⟩ := e
        rw [addN]
        exact hc' j u hj
    have := run_append_grow_src w 41 41 ty 47 i _ hu hi hz A l.length l.length (encL l) hold (.slice A2 m.length cap2) m.length (encL m) src (by omega) (by omega)
      (growslice_fits (by omega) (by rw [hy]; omega))
    refine ⟨_, _, _, by rw [this, List.length_append], .inr ⟨?_, _, _, rfl⟩, ?_, ?_⟩
    · rw [List.length_append]
      exact grownCap_ge _ _ _ _
    · intro _
      refine ⟨w.heap.size, 0, rfl, by simp, fun j v hj => ?_⟩
      rw [encL_app] at hj
      have hjl : j < (encL l ++ encL m).length := (List.getElem?_eq_some_iff.1 hj).1
      rw [Nat.zero_add]
      refine (World.cell?_alloc_mark w.drew _ _ _ j).trans ?_
      rw [Array.getElem?_append_left (by simpa using hjl)]
      simpa using hj
    · exact (Below.refl w.heap.size w).drew.alloc (Nat.le_refl _) _
end Go.Proofs.YtdeelhbckfmaeaaGreatDoor
/- For the seat: lex.Digits: a number that is not below 0 as text. -/
namespace Go.Proofs.YtdeelhbckfmaeaaGreatDoor
open Go.Sx Go.ChangeShapes Go.WideShapes Go.RowKit Go.Joins Go.Deep

def digsP (n : Nat) : List UInt8 := if n = 0 then [] else digsP (n / 10) ++ [UInt8.ofNat (48 + n % 10)]
termination_by n
decreasing_by omega
def digsL (n : Nat) : List UInt8 := digsP (n / 10) ++ [UInt8.ofNat (48 + n % 10)]
/-- A number's digits. -/
def digsB (n : Nat) : ByteArray := ⟨(digsL n).toArray⟩

/-- A slice's place, where such bytes lie. -/
def BAt (w : World) (v : Value) (l : List UInt8) : Prop :=
  ∃ g cap, v = .slice (some ⟨g, 0, none⟩) l.length cap ∧ g < w.heap.size ∧ ∀ (i : Nat) (b : UInt8), l[i]? = some b → w.cell? ⟨g, i, none⟩ = some (.int .u8 (b.toNat : Int))
set_option maxRecDepth 100000 in
theorem BAt.below {w w' : World} {v : Value} {l : List UInt8} (h : BAt w v l) (hb : Below w.heap.size w w') : BAt w' v l := by
  obtain ⟨g, cap, e, hg, hc⟩ := h
  exact ⟨g, cap, e, Nat.lt_of_lt_of_le hg hb.size, fun i b hi => (hb.cell (p := ⟨g, i, none⟩) hg).trans (hc i b hi)⟩

set_option maxRecDepth 100000 in
theorem byteInfo : (Tryz.prog.info? 5).map (fun i => (i.zero, i.size, i.bytes)) = some (some (.int .u8 0), 1, 1) := by kernel_rfl

set_option maxRecDepth 100000 in
theorem dig_byte (n : Nat) : 48 + (n : Int) % 10 = ((UInt8.ofNat (48 + n % 10)).toNat : Int) := by
  have : (UInt8.ofNat (48 + n % 10)).toNat = 48 + n % 10 := by
    simp only [UInt8.toNat_ofNat']
    omega
  rw [this]
  omega

set_option maxRecDepth 100000 in
theorem owns_one (w : World) (base : Nat) (hb : base ≤ w.heap.size) (b : Int) : (w.alloc (.cells #[.int .u8 b] 5)).ownsRow base 5 1 (.slice (some ⟨w.heap.size, 0, none⟩) 1 1) 1 [.int .u8 b] :=
  ⟨rfl, .inr ⟨w.heap.size, 1, #[.int .u8 b], rfl, hb, heap_alloc_new w _, by omega, by unfold maxLen; omega, rfl, rfl⟩⟩

set_option maxRecDepth 100000 in
/-- A byte, and bytes behind it. -/
theorem app_byte (w0 : World) {ops : Array Oper} {rest : List Oper} {o : Oper} {a : Act} {Q : Exit → Act → World → Prop} (hgd : o.guard = none) (s x : Operand)
    (ho : o.op = .call { callee := .builtin .append, args := #[s, x], argTypes := #[35, 35] }) (base : Nat) (hbase : base ≤ w0.heap.size) (b : UInt8) (l : List UInt8) (hlen : l.length ≤ 1000000)
    (v : Value) (hx : a.eval x = v) (hv : BAt w0 v l) (g : Nat) (hs : a.eval s = .slice (some ⟨g, 0, none⟩) 1 1) (hg : g = w0.heap.size)
    (h : ∀ v' w', BAt w' v' (b :: l) → Below base w0 w' → wpList Tryz.prog ops Q rest (a.put o.dst v') w') :
    wpList Tryz.prog ops Q (o :: rest) a (w0.alloc (.cells #[.int .u8 (b.toNat : Int)] 5)) := by
  subst hg
  obtain ⟨i0, hi0, hz0, hz1, hz2⟩ := info_parts byteInfo
  obtain ⟨g1, cap, rfl, hg1, hc⟩ := hv
  have own := owns_one w0 base hbase (b.toNat : Int)
  refine wpList_append_own _ hgd s x 35 ho base 5 i0 _ 1 1 Tryz.underlying35 hi0 hz0 hz1 hz2 rfl (by decide) _ 1 _ hs own ⟨g1, 0, none⟩ l.length cap (l.map fun b => .int .u8 (b.toNat : Int)) hx (by simp) ?_
    (fun u hu => by simp only [List.mem_map] at hu; obtain ⟨b, _, rfl⟩ := hu; rfl) (by unfold maxLen; omega) (by omega) (by simp; omega) ?_
  · intro j u hu
    rw [Addr.add_mid, Nat.zero_add]
    simp only [List.getElem?_map, Option.map_eq_some_iff] at hu
    obtain ⟨b', hb, rfl⟩ := hu
    exact ((Below.refl w0.heap.size w0).alloc (Nat.le_refl _) _).cell (p := ⟨g1, j, none⟩) hg1 |>.trans (hc j b' hb)
  intro v' w' hown' hgrow _
  refine h v' w' ?_ (((Below.refl base w0).alloc hbase _).grown hgrow (by simp; omega) (fun j hj => (own.lt _ hj).1))
  rcases hown'.2 with ⟨_, h0⟩ | ⟨g2, cap2, cur, rfl, hb2, hh, _, _, _, ht⟩
  · omega
  · refine ⟨g2, cap2, by rw [List.length_cons, Nat.add_comm], (Array.getElem?_eq_some_iff.1 hh).1, fun i c hi => ?_⟩
    have k1 := hown'.cells (g := g2) rfl i (.int .u8 (c.toNat : Int)) (by
      show ((b :: l).map fun b => Value.int .u8 (b.toNat : Int))[i]? = _
      rw [List.getElem?_map, hi]; rfl)
    rw [Addr.add_mid, Nat.zero_add] at k1
    exact k1

set_option maxRecDepth 100000 in
/-- Bytes as a text. -/
theorem conv_bytes (w : World) {ops : Array Oper} {rest : List Oper} {o : Oper} {a : Act} {Q : Exit → Act → World → Prop} (hgd : o.guard = none) (x : Operand) (ho : o.op = .convert 35 9 x) (ad : Addr) (cp : Nat) (l : List UInt8)
    (hx : a.eval x = .slice (some ad) l.length cp) (hc : (convert 35 9 (.slice (some ad) l.length cp)).run Tryz.prog w = .ok (.string ⟨l.toArray⟩) w) (h : wpList Tryz.prog ops Q rest (a.put o.dst (.string ⟨l.toArray⟩)) w) :
    wpList Tryz.prog ops Q (o :: rest) a w := by
  refine wpList_plain hgd fun K hK => ?_
  unfold Oper.wp execOp
  simp only [ho, hx, Sem.run_bind, Sem.run_pure, Result.andThen_ok, hc]
  exact hK _ _ h

set_option maxRecDepth 100000 in
theorem digsP_len (n : Nat) : ∀ f, n < 10 ^ f → (digsP n).length ≤ f := by
  intro f
  induction f generalizing n with
  | zero => intro h; rw [digsP, if_pos (by simpa using h)]; simp
  | succ f ih =>
    intro h
    rw [digsP]
    split
    · simp
    · rw [List.length_append]
      have := ih (n / 10) (by rw [Nat.pow_succ] at h; omega)
      simp; omega

set_option maxRecDepth 100000 in
theorem digsB_len (n : Nat) (hn : n < 10 ^ 19) : (digsB n).size ≤ 100 := by
  have := digsP_len (n / 10) 19 (by omega)
  show (digsL n).toArray.size ≤ 100
  rw [List.size_toArray, digsL, List.length_append]
  simp; omega

set_option maxRecDepth 100000 in
set_option maxHeartbeats 4000000 in
theorem digits_any (n : Nat) (hn : n < 10 ^ 19) (w : World) :
    Calls Tryz.prog 44 #[.int .i64 n] w fun e w' => e = .returned (.string (digsB n)) ∧ Below w.heap.size w w' := by
  have hd := dig_byte n
  have hD : digsB n = ⟨(digsL n).toArray⟩ := rfl
  rw [hD]
  have hL : digsL n = digsP (n / 10) ++ [UInt8.ofNat (48 + n % 10)] := rfl
  have hll : (digsL n).length ≤ 100 := by
    rw [hL, List.length_append]
    have := digsP_len (n / 10) 19 (by omega)
    simp; omega
  have hsz : n / 10 < 10 ^ 19 := by omega
  generalize UInt8.ofNat (48 + n % 10) = b0 at hd hL
  generalize digsL n = L at hL hll ⊢
  go_enter Tryz.func44, Tryz.ntmps44
  go_wp2_with fail
  go_loopw [0, 3] (fun t v wr => ∃ (m : Nat) (suf : List UInt8), t = .int .i64 m ∧ m < 10 ^ 19 ∧ suf.length ≤ 100 ∧ Hid (L = digsP m ++ suf) ∧ BAt wr v suf ∧ Below w.heap.size w wr) (fun t _ _ => (intOf t).toNat)
  case atStart =>
    refine ⟨n / 10, [b0], by go_num, hsz, by simp, Lib.hid hL, ⟨w.heap.size, 1, rfl, by simp, fun i b hi => ?_⟩, (Below.refl _ _).alloc (Nat.le_refl _) _⟩
    match i, hi with
    | 0, hi =>
      simp only [List.getElem?_cons_zero, Option.some.injEq] at hi
      subst hi
      rw [← hd]
      exact World.cell?_alloc_mark w _ _ _ 0
    | i + 1, hi => simp at hi
  case round =>
    obtain ⟨m, suf, rfl, hmb, hsl, HP, hB, hbr⟩ := hrel
    clear hL hD
    by_cases h0 : m = 0
    · subst h0
      obtain ⟨g, cp, rfl, hg, hc⟩ := hB
      have hp := HP.out
      rw [digsP, if_pos rfl, List.nil_append] at hp
      subst hp
      have hcv := run_convert_bytes_back (P := Tryz.prog) wr 35 9 5 ⟨g, 0, none⟩ cp L Tryz.underlying35 Tryz.underlying5 Tryz.underlying9 (fun j hj => by rw [Addr.add_mid, Nat.zero_add]; exact hc j _ (List.getElem?_eq_getElem hj))
      clear HP
      go_wp2_with (refine conv_bytes wr rfl _ rfl ⟨g, 0, none⟩ cp L rfl hcv ?_)
      exact bodyPost_ret (results_tmp rfl _ _ _) rfl ⟨rfl, hbr⟩
    · have hp := HP.out
      rw [digsP, if_neg h0, List.append_assoc, List.singleton_append] at hp
      have hls := congrArg List.length hp
      rw [List.length_append, List.length_cons] at hls
      have hdm := dig_byte m
      have u0 : decide (0 < (m : Int)) = true := decide_eq_true (by omega)
      have hm1 : m / 10 < 10 ^ 19 := by omega
      have hm2 : m / 10 < m := by omega
      generalize UInt8.ofNat (48 + m % 10) = b1 at hp hdm
      have HN := Lib.hid hp
      clear hp HP
      obtain ⟨g, cp, rfl, hg, hc⟩ := hB
      have hB : BAt wr (.slice (some ⟨g, 0, none⟩) suf.length cp) suf := ⟨g, cp, rfl, hg, hc⟩
      clear hc
      go_wp2_with (at_builtin; refine app_byte wr rfl _ _ rfl w.heap.size hbr.size b1 suf (by omega) _ rfl ?_ _ rfl rfl ?_; exact hB; intro v2 w2 hB2 hb2)
      go_roundw
      case rel => exact ⟨m / 10, b1 :: suf, by go_num, hm1, by simp; omega, HN, hB2, hbr.trans hb2⟩
      case measure => simp [intOf]; omega
end Go.Proofs.YtdeelhbckfmaeaaGreatDoor
/- For the seat: dis.name: a place's label. -/
namespace Go.Proofs.YtdeelhbckfmaeaaGreatDoor
open Go.Sx Go.ChangeShapes Go.WideShapes Go.RowKit Go.Joins Go.Deep

/-- A place's label. -/
def nameB (lb : List Int) (at' : Int) : ByteArray :=
  match lb.contains at', decide (at' < 0) with
  | true, false => (⟨#[108]⟩ : ByteArray) ++ digsB at'.toNat
  | _, _ => ⟨#[]⟩

/-- A desk stands in block d: the places that are led to lie below it. -/
def Dsk (w : World) (d : Nat) (A : Option Addr) (lb : List Int) (cap : Nat) (it : Int) : Prop :=
  kHas .i64 it ∧ w.heap[d]? = some (.cells #[.slice A lb.length cap, .int .i64 it] 56 (0, 0)) ∧ IAt w d A lb

set_option maxRecDepth 100000 in
theorem search_any (A : Option Addr) (cap : Nat) (lb : List Int) (x : Int) (w : World) (hA : IAt w w.heap.size A lb) (hl : lb.length ≤ 1000000000) (hs : lb.Pairwise (· < ·)) :
    Calls Tryz.prog 43 #[.slice A lb.length cap, .int .i64 x] w fun e w' => (∃ n : Int, e = .returned (.tuple #[.int .i64 n, .bool (lb.contains x)])) ∧ Below w.heap.size w w' := by
  by_cases hn : lb = []
  · subst hn
    refine (Any.slices_BinarySearch_int_empty Tryz.laysNm225 A cap x w).mono ?_
    rintro e w' ⟨rfl, rfl⟩
    exact ⟨⟨_, rfl⟩, Below.refl _ _⟩
  · obtain ⟨g, off, rfl, hg, hc⟩ := hA hn
    refine (Any.slices_BinarySearch_int Tryz.laysNm225 g off lb.length cap lb x w (Nat.le_refl _) (by omega) ?_ (by rw [List.take_length]; exact hs.imp fun h => Int.le_of_lt h)).mono ?_
    · intro j hj
      exact hc j _ (by rw [List.getD_eq_getElem?_getD, List.getElem?_eq_getElem hj]; rfl)
    · rintro e w' ⟨rfl, q, rfl⟩
      rw [List.take_length]
      exact ⟨⟨_, rfl⟩, below_drewN (Below.refl _ _)⟩

set_option maxRecDepth 100000 in
set_option maxHeartbeats 4000000 in
theorem name_any (d : Nat) (A : Option Addr) (cap : Nat) (lb : List Int) (it : Value) (x : Int) (w : World) (hd : w.heap[d]? = some (.cells #[.slice A lb.length cap, it] 56 (0, 0))) (hA : IAt w w.heap.size A lb)
    (hl : lb.length ≤ 1000000000) (hs : lb.Pairwise (· < ·)) (hx : kHas .i64 x) :
    Calls Tryz.prog 28 #[.pointer (some ⟨d, 0, none⟩), .int .i64 x] w fun e w' => e = .returned (.string (nameB lb x)) ∧ Below w.heap.size w w' := by
  have hdl : d < w.heap.size := (Array.getElem?_eq_some_iff.1 hd).1
  have c0 : w.cell? ⟨d, 0, none⟩ = some (.slice A lb.length cap) := by
    unfold World.cell?
    simp [hd]
  have hS := search_any A cap lb x w hA hl hs
  have hN : nameB lb x = match lb.contains x, decide (x < 0) with
    | true, false => (⟨#[108]⟩ : ByteArray) ++ digsB x.toNat
    | _, _ => ⟨#[]⟩ := rfl
  generalize nameB lb x = NB at hN ⊢
  generalize lb.contains x = ok at hS hN
  go_enter Tryz.func28, Tryz.ntmps28
  go_wp2_with fail
  ((with_reducible refine hS.mono ?_); rintro e w1 ⟨⟨n, rfl⟩, hb1⟩)
  cases ok
  · dsimp only at hN
    subst hN
    go_wp2_with fail
    exact bodyPost_ret (results_tmp rfl _ _ _) rfl ⟨rfl, hb1⟩
  · by_cases h0 : x < 0
    · have u0 : decide (x < 0) = true := decide_eq_true h0
      rw [u0] at hN
      dsimp only at hN
      subst hN
      clear h0
      go_wp2_with fail
      exact bodyPost_ret (results_tmp rfl _ _ _) rfl ⟨rfl, hb1⟩
    · have u0 : decide (x < 0) = false := decide_eq_false h0
      rw [u0] at hN
      dsimp only at hN
      obtain ⟨m, hm⟩ := Int.eq_ofNat_of_zero_le (show 0 ≤ x by omega)
      subst hm
      have hb : (m : Int) < 2 ^ 63 := hx.2
      have hDg := digits_any m (by omega) w1
      rw [Int.toNat_natCast] at hN
      have hds : ¬ 9223372036854775807 < 1 + (digsB m).size := by
        have := digsB_len m (by omega)
        omega
      generalize digsB m = DB at hN hDg hds
      subst hN
      clear h0
      go_wp2_with fail
      ((with_reducible refine hDg.mono ?_); rintro e w2 ⟨rfl, hb2⟩)
      clear hDg hS hd hA hs hl hx hb u0 c0 hdl
      go_wp2_with fail
      exact bodyPost_ret (results_tmp rfl _ _ _) rfl ⟨rfl, hb1.trans (hb2.mono hb1.size)⟩
end Go.Proofs.YtdeelhbckfmaeaaGreatDoor
/- For the seat: dis.ins: an instruction's line. -/
namespace Go.Proofs.YtdeelhbckfmaeaaGreatDoor
open Go.Sx Go.ChangeShapes Go.WideShapes Go.RowKit Go.Joins Go.Deep

namespace din
def v (i : Nat) : Tm := .var i
def item : SVal := .agg (.ofList [.int .i64 (v 0), .int .i64 (v 1), .int .i64 (v 2), .int .i64 (v 3), .int .i64 (v 4), .int .i64 (v 5), .int .i64 (v 6), .int .i64 (v 7), .int .i64 (v 8), .int .i64 (v 9), .int .i64 (v 10), .int .i64 (v 11), .int .i64 (v 12), .bool (v 13), .abs 2])
def desk : Blk := { cells := .ofList [.abs 1, .int .i64 (v 14)], elem := 56, spare := none }
def heap0 : Heap := [some desk, some { cells := .nil, elem := 0, spare := none, abs := some (false, 150, .nil) }, none]
def args : List SVal := [.ptr 0 0, item]
def nameR (_ t : Tm) : SVal := .str (.app 900 t)
def S : Specs := fun f => match Nat.beq f 28 with
  | true => some (specObj 56 [.dat 150, .int .i64] [.int .i64] nameR)
  | false => none

/-- A line with the instruction's fields. -/
def okV : SVal → Bool
  | .agg (.cons (.str _) (.cons (.int .i64 t1) (.cons (.int .i64 t2) (.cons (.int .i64 _) (.cons (.int .i64 t4) (.cons (.int .i64 t5) (.cons (.int .i64 t6) (.cons (.int .i64 _) (.cons (.int .i64 _) (.cons (.int .i64 t9) (.cons (.bool t10)
      (.cons (.int .i64 _) (.cons (.str _) (.cons (.bool _) (.cons (.int .i64 _) (.cons (.int .i64 _) (.cons (.int .i64 _) (.cons (.str _) (.cons .nilslice .nil))))))))))))))))))) =>
    decide (t1 = .num 1) && decide (t2 = .var 5) && decide (t4 = .var 7) && decide (t5 = .var 8) && decide (t6 = .var 9) && decide (t9 = .var 12) && decide (t10 = .var 13)
  | _ => false
def okB : Blk → Bool
  | ⟨.cons (.abs 1) (.cons (.int .i64 t) .nil), e, none, none⟩ => decide (e = 56) && t.inK .i64
  | _ => false
def okH : Heap → Bool
  | some b :: _ => okB b
  | _ => false
def okT : Tree Res → Bool
  | .leaf x => okV x.v && okH x.h
  | .ite _ a b => okT a && okT b
  | .assert _ _ => false
  | .fail _ => false

set_option maxRecDepth 100000 in
theorem okT_get {ρ : Env} : ∀ {t : Tree Res}, okT t = true → ∃ x, t.get ρ = some x ∧ okV x.v = true ∧ okH x.h = true
  | .leaf x, h => by
    simp only [okT, Bool.and_eq_true] at h
    exact ⟨x, rfl, h.1, h.2⟩
  | .ite c a b, h => by
    simp only [okT, Bool.and_eq_true] at h
    simp only [Tree.get]
    split
    · exact okT_get h.1
    · exact okT_get h.2
  | .assert _ _, h => by cases h
  | .fail _, h => by cases h

set_option maxRecDepth 1000000 in
theorem goes : okT (callT cx S (run cx S 400) 26 args heap0 (.bit true)) = true := by kernel_rfl

/-- What stands for the places that are led to. -/
def P (lb : List Int) (k : Nat) (d : Sc) (v : Value) (F : Nat → Prop) (w : World) : Prop :=
  (k < 100 ∧ d = .list [] ∧ v = .slice none 0 0 ∧ F = fun _ => False) ∨
  (k = 150 ∧ ∃ (A : Option Addr) (cap : Nat), v = .slice A lb.length cap ∧ IAt w w.heap.size A lb ∧ F = fun q => lb ≠ [] ∧ ∃ a, A = some a ∧ q = a.block) ∨
  (2000 ≤ k ∧ ObjOk k d v F w)

set_option maxRecDepth 100000 in
theorem rowK_ge {k : Nat} (h : rowK k ≠ []) : 1000 ≤ k := by
  rcases Nat.lt_or_ge k 1000 with hk | hk
  · refine (h ?_).elim
    have b : ∀ n, 1000 ≤ n → Nat.beq k n = false := fun n hn => by
      cases e : Nat.beq k n
      · rfl
      · have := Nat.eq_of_beq_eq_true e; omega
    unfold rowK
    rw [b 1000 (by omega), b 1001 (by omega), b 1002 (by omega), b 1003 (by omega), b 1004 (by omega)]
  · exact hk

set_option maxRecDepth 100000 in
theorem heap_lt {w w' : World} {g : Nat} (h : w'.heap[g]? = w.heap[g]?) (hg : g < w.heap.size) : g < w'.heap.size := by
  rcases Nat.lt_or_ge g w'.heap.size with h1 | h1
  · exact h1
  · rw [Array.getElem?_eq_none h1, Array.getElem?_eq_getElem hg] at h
    cases h

def abs (lb : List Int) (B : Nat → Prop) : Abs where
  P := P lb
  stable := by
    rintro k d v F w w' (⟨h1, h2, h3, h4⟩ | ⟨h1, A, cap, h2, h3, rfl⟩ | ⟨h1, h2⟩) hb
    · exact .inl ⟨h1, h2, h3, h4⟩
    · refine .inr (.inl ⟨h1, A, cap, h2, fun hn => ?_, rfl⟩)
      obtain ⟨g, off, e, hg, hc⟩ := h3 hn
      have hs := hb g ⟨hn, _, e, rfl⟩
      exact ⟨g, off, e, heap_lt hs hg, fun i a ha => (World.cell?_of_block (a := ⟨g, off + i, none⟩) hs).trans (hc i a ha)⟩
    · exact .inr (.inr ⟨h1, h2.stable hb⟩)
  lt := by
    rintro k d v F w b (⟨_, _, _, rfl⟩ | ⟨_, A, cap, _, h3, rfl⟩ | ⟨_, h2⟩) hF
    · exact hF.elim
    · obtain ⟨hn, a, ha, rfl⟩ := hF
      obtain ⟨g, off, e, hg, _⟩ := h3 hn
      rw [ha] at e
      simp only [Option.some.injEq] at e
      subst e
      exact hg
    · exact h2.lt hF
  len := by
    rintro k d v F w hk (⟨_, rfl, rfl, _⟩ | ⟨h1, _⟩ | ⟨h1, _⟩)
    · exact ⟨none, 0, rfl⟩
    · omega
    · omega
  rows := by
    rintro k d v F w hk h
    have h1 := rowK_low hk
    have h2 := rowK_ge hk
    rcases h with ⟨h, _⟩ | ⟨h, _⟩ | ⟨h, _⟩ <;> omega
  objs := by
    intro k d v F w hk
    constructor
    · rintro (⟨h, _⟩ | ⟨h, _⟩ | ⟨_, h⟩)
      · omega
      · omega
      · exact h
    · exact fun h => .inr (.inr ⟨hk, h⟩)
  B := B

noncomputable def fs (lb : List Int) (g : Nat) (ss : List Sc) : Sc :=
  match Nat.beq g 900 with
  | true => .str (nameB lb (ss.getD 0 (.int 0)).asInt).data.toList
  | false => .int 0
def vars (y : Itm) (it : Int) : List Sc := [.int y.k, .int y.a, .int y.s, .int y.f, .int y.l, .int y.x.x0, .int y.x.x1, .int y.x.x2, .int y.x.x3, .int y.x.x4, .int y.x.x5, .int y.x.x6, .int y.x.x7, .bool y.x.b, .int it]
noncomputable def env (lb : List Int) (y : Itm) (it : Int) (B : Nat → Prop) : Env := ⟨fun i => (vars y it).getD i (.int 0), fs lb, fun _ => undef, abs lb B⟩

set_option maxRecDepth 100000 in
theorem env_ok {lb : List Int} {y : Itm} {it : Int} (B : Nat → Prop) (hy : y.Ok) (hi : kHas .i64 it) : VarsOk (env lb y it B) := by
  refine ⟨fun i => ?_, fun g ss => ?_⟩
  · match i with
    | 0 => exact hy.k
    | 1 => exact hy.a
    | 2 => exact hy.s
    | 3 => exact hy.f
    | 4 => exact hy.l
    | 5 => exact hy.x.h0
    | 6 => exact hy.x.h1
    | 7 => exact hy.x.h2
    | 8 => exact hy.x.h3
    | 9 => exact hy.x.h4
    | 10 => exact hy.x.h5
    | 11 => exact hy.x.h6
    | 12 => exact hy.x.h7
    | 13 => exact zero_has
    | 14 => exact hi
    | n + 15 => exact zero_has
  · show kHas .i64 (fs lb g ss).asInt
    unfold fs
    split
    · exact zero_has
    · exact zero_has

set_option maxRecDepth 100000 in
theorem env_nil (lb : List Int) (y : Itm) (it : Int) (B : Nat → Prop) : NilOk (env lb y it B) := by
  refine ⟨fun k w hk => ⟨_, .inl ⟨hk, rfl, rfl, rfl⟩⟩, fun i => ?_⟩
  show (((vars y it).getD i (.int 0)).asStr).length ≤ 1000000
  have : ∀ s ∈ vars y it, s.asStr.length = 0 := by
    intro s hs
    simp only [vars, List.mem_cons, List.not_mem_nil, or_false] at hs
    rcases hs with rfl | rfl | rfl | rfl | rfl | rfl | rfl | rfl | rfl | rfl | rfl | rfl | rfl | rfl | rfl <;> rfl
  rw [List.getD_eq_getElem?_getD]
  cases h : (vars y it)[i]? with
  | none => simp [Sc.asStr]
  | some s => rw [Option.getD_some, this s (List.mem_of_getElem? h)]; omega

set_option maxRecDepth 100000 in
theorem allOk2 {ρ : Env} {w : World} {p q : AP} {cs : List Sc} {us : List Value} (h : AllOk ρ w [p, q] cs us) : ∃ c0 c1 u0 u1, cs = [c0, c1] ∧ us = [u0, u1] ∧ p.Ok ρ w c0 u0 ∧ q.Ok ρ w c1 u1 := by
  rcases cs with _ | ⟨c0, _ | ⟨c1, _ | ⟨c2, cr⟩⟩⟩ <;> rcases us with _ | ⟨u0, _ | ⟨u1, _ | ⟨u2, ur⟩⟩⟩ <;> simp only [AllOk, and_false] at h
  exact ⟨c0, c1, u0, u1, rfl, rfl, h.1, h.2.1⟩
set_option maxRecDepth 100000 in
theorem allOk1 {ρ : Env} {w : World} {k : IntKind} {cs : List Sc} {us : List Value} (h : AllOk ρ w [.int k] cs us) : ∃ c0 u0, cs = [c0] ∧ us = [u0] ∧ u0 = .int k c0.asInt ∧ kHas k c0.asInt := by
  rcases cs with _ | ⟨c0, _ | ⟨c1, cr⟩⟩ <;> rcases us with _ | ⟨u0, _ | ⟨u1, ur⟩⟩ <;> simp only [AllOk, and_false] at h
  exact ⟨c0, u0, rfl, rfl, h.1.1, h.1.2⟩

set_option maxRecDepth 100000 in
theorem okB_get {b : Blk} (h : okB b = true) : ∃ t : Tm, b = { cells := .cons (.abs 1) (.cons (.int .i64 t) .nil), elem := 56, spare := none } ∧ t.inK .i64 = true := by
  unfold okB at h
  split at h
  · simp only [Bool.and_eq_true, decide_eq_true_eq] at h
    obtain ⟨rfl, h⟩ := h
    exact ⟨_, rfl, h⟩
  · cases h

set_option maxRecDepth 100000 in
theorem S_ok {lb : List Int} (hl : lb.length ≤ 1000000000) (hs : lb.Pairwise (· < ·)) {y : Itm} {it : Int} (B : Nat → Prop) (hy : y.Ok) (hi : kHas .i64 it) : S.Ok (env lb y it B) cx := by
  intro f sp hf
  unfold S at hf
  split at hf
  · rename_i hq
    have hq := Nat.eq_of_beq_eq_true hq
    subst hq
    simp only [Option.some.injEq] at hf
    subst hf
    refine specObj_ok (env_ok B hy hi) (env_nil lb y it B) (fun _ _ => rfl) ?_
    intro b cs us ss vs w hb hc ha
    obtain ⟨c0, c1, u0, u1, rfl, rfl, ⟨F, hP⟩, _⟩ := allOk2 hc
    obtain ⟨s0, v0, rfl, rfl, rfl, h0⟩ := allOk1 ha
    rcases hP with ⟨h1, _⟩ | ⟨_, A, cap, rfl, hA, _⟩ | ⟨h1, _⟩
    · omega
    · refine (name_any b A cap lb u1 s0.asInt w hb hA hl hs h0).mono ?_
      rintro e w' ⟨rfl, hbl⟩
      refine ⟨hbl, fun c t ι _ ht => ?_⟩
      show _ = Ending.returned (Value.string ⟨((Tm.app 900 t).den (env lb y it B)).asStr.toArray⟩)
      simp only [Tm.den, ht]
      rfl
    · omega
  · cases hf
set_option maxRecDepth 100000 in
theorem S_body : ∀ f, S f ≠ none → ∃ fn c, cx.P.funcs[f]? = some fn ∧ fn.body = some c := by
  intro f hf
  unfold S at hf
  split at hf
  · rename_i hq
    have hq := Nat.eq_of_beq_eq_true hq
    subst hq
    exact ⟨_, _, Tryz.func28, rfl⟩
  · exact (hf rfl).elim
end din

/-- Nothing but block d has changed of what was there. -/
structure Stay (d : Nat) (w w' : World) : Prop where
  os : w'.os = w.os
  tape : w'.tape = w.tape
  output : w'.output = w.output
  size : w.heap.size ≤ w'.heap.size
  block : ∀ k, k < w.heap.size → k ≠ d → w'.heap[k]? = w.heap[k]?
set_option maxRecDepth 100000 in
theorem Stay.refl (d : Nat) (w : World) : Stay d w w := ⟨rfl, rfl, rfl, Nat.le_refl _, fun _ _ _ => rfl⟩
set_option maxRecDepth 100000 in
theorem Stay.trans {d : Nat} {a b c : World} (h : Stay d a b) (k : Stay d b c) : Stay d a c :=
  ⟨k.os.trans h.os, k.tape.trans h.tape, k.output.trans h.output, Nat.le_trans h.size k.size, fun q hq hn => (k.block q (Nat.lt_of_lt_of_le hq h.size) hn).trans (h.block q hq hn)⟩
set_option maxRecDepth 100000 in
theorem Stay.of_below {d : Nat} {w w' : World} (h : Below w.heap.size w w') : Stay d w w' := ⟨h.os, h.tape, h.output, h.size, fun k hk _ => h.block k hk⟩
set_option maxRecDepth 100000 in
theorem Stay.below {d : Nat} {w w' : World} (h : Stay d w w') {B : Nat} (hB : B ≤ w.heap.size) (hd : B ≤ d) : Below B w w' := ⟨h.os, h.tape, h.output, h.size, fun k hk => h.block k (by omega) (by omega)⟩
set_option maxRecDepth 100000 in
theorem Stay.cell {d : Nat} {w w' : World} (h : Stay d w w') {p : Addr} (hp : p.block < w.heap.size) (hn : p.block ≠ d) : w'.cell? p = w.cell? p := World.cell?_of_block (h.block p.block hp hn)

/-- What tells an instruction, but for its number. -/
def keyF (x : Fields) : Int × Int × Int × Int × Int × Bool := (x.x0, x.x2, x.x3, x.x4, x.x7, x.b)

set_option maxRecDepth 100000 in
theorem ins_any (d : Nat) (A : Option Addr) (cap : Nat) (lb : List Int) (it : Int) (hl : lb.length ≤ 1000000000) (hs : lb.Pairwise (· < ·)) (y : Itm) (hy : y.Ok) (w : World) (hd : Dsk w d A lb cap it) :
    Calls Tryz.prog 26 #[.pointer (some ⟨d, 0, none⟩), y.val] w fun e w' => (∃ z : Ln, e = .returned z.val ∧ z.k = 1 ∧ keyF z.x = keyF y.x) ∧ (∃ it', Dsk w' d A lb cap it') ∧ Stay d w w' := by
  obtain ⟨hi, hw, hA⟩ := hd
  have hdl : d < w.heap.size := (Array.getElem?_eq_some_iff.1 hw).1
  obtain ⟨K, hK⟩ : ∃ K : Nat → Prop, K = fun q => q < w.heap.size ∧ q ≠ d := ⟨_, rfl⟩
  have V := din.env_ok K hy hi (lb := lb)
  obtain ⟨x, h1, hv, hh⟩ := din.okT_get (ρ := din.env lb y it K) din.goes
  have hc := call_ok cxok (din.S_ok hl hs K hy hi) din.S_body (pc := .bit true) rfl h1
  obtain ⟨ι, hι⟩ : ∃ ι : Nm, ι = ⟨fun _ => d, fun _ => 0, fun n => if n = 1 then ⟨.slice A lb.length cap, rfl⟩ else ⟨.slice y.V y.vs.length y.vc, rfl⟩, fun n q => n = 0 ∧ q = d⟩ := ⟨_, rfl⟩
  have H : HR (din.env lb y it K) cx.globs K w ι din.heap0 w := by
    subst hι
    refine ⟨rfl, rfl, rfl, Nat.le_refl _, fun _ _ => rfl, fun k hk => by subst hK; exact hk.1, fun q hq => hq, ?_, ?_, ?_⟩
    · intro n b hb
      match n, hb with
      | 0, hb =>
        simp only [din.heap0, List.getElem?_cons_zero, Option.some.injEq] at hb
        subst hb
        refine ⟨fun q hq hKq => ?_, ⟨?_, ?_⟩, rfl⟩
        · subst hK; exact hKq.2 hq.2
        · funext q; exact propext ⟨fun h => h.2, fun h => ⟨rfl, h⟩⟩
        · exact ⟨_, hw, rfl⟩
      | 1, hb =>
        simp only [din.heap0, List.getElem?_cons_succ, List.getElem?_cons_zero, Option.some.injEq] at hb
        subst hb
        refine ⟨fun q hq => absurd hq.1 (by decide), ⟨rfl, fun q hq => absurd hq.1 (by decide), fun q => lb ≠ [] ∧ ∃ a, A = some a ∧ q = a.block, .inr (.inl ⟨rfl, A, cap, rfl, hA.more (Nat.le_of_lt hdl), rfl⟩), ?_⟩, rfl⟩
        rintro q ⟨hn, a, ha, rfl⟩
        obtain ⟨g, off, e, hg, _⟩ := hA hn
        rw [ha] at e
        simp only [Option.some.injEq] at e
        subst e
        show K g
        subst hK
        exact ⟨by omega, by omega⟩
      | 2, hb => simp [din.heap0] at hb
      | n + 3, hb => simp [din.heap0] at hb
    · intro n m b c hb hc q h1 h2
      exact h1.1.trans h2.1.symm
    · intro g cs hg
      simp [cx] at hg
  have hcall := hc K w ι w H (by
    intro u hu
    simp only [din.args, List.mem_cons, List.not_mem_nil, or_false] at hu
    rcases hu with rfl | rfl
    · rfl
    · rfl)
  have ea : (din.args.map (·.conc (din.env lb y it K) ι)).toArray = #[.pointer (some ⟨d, 0, none⟩), y.val] := by
    subst hι
    rfl
  rw [ea] at hcall
  refine hcall.mono ?_
  rintro e w' ⟨ι', hext, _, H', _, _, rfl⟩
  have St : Stay d w w' := ⟨H'.os, H'.tape, H'.output, H'.size, fun k hk hn => H'.kept k (by subst hK; exact ⟨hk, hn⟩)⟩
  refine ⟨?_, ?_, St⟩
  · unfold din.okV at hv
    split at hv
    · rename_i u0 u1 u2 u3 u4 u5 u6 u7 u8 u9 u10 u11 u12 u13 u14 u15 u16 u17 hx
      simp only [Bool.and_eq_true, decide_eq_true_eq] at hv
      obtain ⟨⟨⟨⟨⟨⟨rfl, rfl⟩, rfl⟩, rfl⟩, rfl⟩, rfl⟩, rfl⟩ := hv
      rw [hx]
      generalize hρ : din.env lb y it K = ρ
      refine ⟨⟨⟨(u0.den ρ).asStr.toArray⟩, 1, ⟨y.x.x0, (u3.den ρ).asInt, y.x.x2, y.x.x3, y.x.x4, (u7.den ρ).asInt, (u8.den ρ).asInt, y.x.x7, y.x.b⟩, (u11.den ρ).asInt, ⟨(u12.den ρ).asStr.toArray⟩, (u13.den ρ).asBool, (u14.den ρ).asInt, (u15.den ρ).asInt, (u16.den ρ).asInt, ⟨(u17.den ρ).asStr.toArray⟩⟩, ?_, rfl, rfl⟩
      subst hρ
      rfl
    · cases hv
  · unfold din.okH at hh
    split at hh
    · rename_i b r hxh
      obtain ⟨t, rfl, hk⟩ := din.okB_get hh
      have hb0 : x.h[0]? = some (some { cells := .cons (.abs 1) (.cons (.int .i64 t) .nil), elem := 56, spare := none }) := by rw [hxh]; rfl
      obtain ⟨_, _, ⟨cs, k2, k3⟩, _⟩ := H'.real hb0 rfl
      obtain ⟨e0, _, _, _⟩ := hext 0 (by decide)
      obtain ⟨_, _, e1, _⟩ := hext 1 (by decide)
      have hcs := fits_plain k3 rfl
      subst hcs
      refine ⟨(t.den (din.env lb y it K)).asInt, inK_ok V .i64 t hk, ?_, fun hn => ?_⟩
      · rw [show d = ι'.blk 0 by rw [e0, hι], k2]
        simp only [SVal.toList, List.map_cons, List.map_nil, SVal.conc, e1, hι]
        rfl
      · obtain ⟨g, off, e, hg, hc⟩ := hA hn
        exact ⟨g, off, e, hg, fun i a ha => (St.cell (p := ⟨g, off + i, none⟩) (by show g < _; omega) (by show g ≠ d; omega)).trans (hc i a ha)⟩
    · cases hh
end Go.Proofs.YtdeelhbckfmaeaaGreatDoor
/- For the seat: dis.data: the lines of values. -/
namespace Go.Proofs.YtdeelhbckfmaeaaGreatDoor
open Go.Sx Go.ChangeShapes Go.WideShapes Go.RowKit Go.Joins Go.Deep

set_option maxRecDepth 100000 in
theorem wrap_has (z : Int) : kHas .i64 (wrap64 z) := by
  unfold wrap64
  show -2 ^ 63 ≤ _ ∧ _ < 2 ^ 63
  omega

set_option maxRecDepth 100000 in
/-- A line is appended to lines of the call's own. -/
theorem app_line (w0 : World) {ops : Array Oper} {rest : List Oper} {o : Oper} {a : Act} {Q : Exit → Act → World → Prop} (hgd : o.guard = none) (s x : Operand)
    (ho : o.op = .call { callee := .builtin .append, args := #[s, x], argTypes := #[41, 41] }) (base : Nat) (hbase : base ≤ w0.heap.size) (l : List Ln) (y : Ln) (hlen : l.length ≤ 1000000)
    (v : Value) (hs : a.eval s = v) (hown : w0.ownsRow base 47 19 v l.length (encL l)) (g : Nat) (hx : a.eval x = .slice (some ⟨g, 0, none⟩) 1 1) (hg : g = w0.heap.size)
    (h : ∀ v' w', w'.ownsRow base 47 19 v' (l ++ [y]).length (encL (l ++ [y])) → Below base w0 w' → wpList Tryz.prog ops Q rest (a.put o.dst v') w') :
    wpList Tryz.prog ops Q (o :: rest) a (w0.alloc (.cells y.cells 47)) := by
  subst hg
  obtain ⟨i0, hi0, hz0, hz1, hz2⟩ := info_parts lineInfo
  have he : encL [y] = y.cells.toList := by rw [encL_cons]; exact List.append_nil _
  refine wpList_append_own _ hgd s x 41 ho base 47 i0 _ 19 192 Tryz.underlying41 hi0 hz0 hz1 hz2 rfl (by decide) v l.length (encL l) hs (hown.alloc _) ⟨w0.heap.size, 0, none⟩ 1 1 (encL [y]) hx (encL_len [y]) ?_
    (fun u hu => encL_one hu) (by unfold maxLen; omega) (by omega) (by simp; omega) ?_
  · rw [he]
    exact World.news_of_block (cs := y.cells) (t := 47) (fr := (0, 0)) (heap_alloc_new w0 _)
  intro v' w' hown' hgrow _
  refine h v' w' (by rw [encL_app, List.length_append]; exact hown') ?_
  exact ((Below.refl base w0).alloc hbase _).grown hgrow (by simp; omega) (fun j hj => (hown.lt _ hj).1)

set_option maxRecDepth 100000 in
theorem own_lines {w : World} {base : Nat} {v : Value} {l : List Ln} (h : w.ownsRow base 47 19 v l.length (encL l)) : ∃ A cap, v = .slice A l.length cap ∧ LSl A l.length cap ∧ LAt w w.heap.size A l := by
  rcases h.2 with ⟨hv, h0⟩ | ⟨g, cap, cur, rfl, hb, hh, hcap, _, hs, ht⟩
  · obtain rfl := List.eq_nil_of_length_eq_zero h0
    exact ⟨none, 0, hv, .inl ⟨rfl, rfl, rfl⟩, LAt.nil _ _ _⟩
  · refine ⟨_, _, rfl, .inr ⟨hcap, g, 0, rfl⟩, fun _ => ⟨g, 0, rfl, (Array.getElem?_eq_some_iff.1 hh).1, fun i u hi => ?_⟩⟩
    have k1 := h.cells (g := g) rfl i u hi
    rw [addN] at k1
    exact k1

set_option maxRecDepth 100000 in
set_option maxHeartbeats 8000000 in
theorem data_any (d : Nat) (A : Option Addr) (cap : Nat) (lb : List Int) (it : Int) (hl : lb.length ≤ 1000000000) (hs : lb.Pairwise (· < ·)) (y : Itm) (hy : y.Ok) (w : World) (hd : Dsk w d A lb cap it) (hV : IAt w w.heap.size y.V y.vs) (hvl : y.vs.length ≤ 1000000) :
    Calls Tryz.prog 27 #[.pointer (some ⟨d, 0, none⟩), y.val] w fun e w' => (∃ (L : List Ln) (A' : Option Addr) (cap' : Nat), e = .returned (.slice A' L.length cap') ∧ LSl A' L.length cap' ∧ LAt w' w'.heap.size A' L ∧ L.length = y.vs.length ∧ ∀ z ∈ L, z.k = 3) ∧ Below w.heap.size w w' := by
  obtain ⟨hi, hw, hA⟩ := hd
  have hdl : d < w.heap.size := (Array.getElem?_eq_some_iff.1 hw).1
  obtain ⟨k, a, sz, f, ln, x, V, vc, vs⟩ := y
  obtain ⟨x0, x1, x2, x3, x4, x5, x6, x7, xb⟩ := x
  dsimp only at hV hvl ⊢
  have b0 : Below w.heap.size w (w.alloc (.cells (Itm.cells ⟨k, a, sz, f, ln, ⟨x0, x1, x2, x3, x4, x5, x6, x7, xb⟩, V, vc, vs⟩) 33)) := (Below.refl _ _).alloc (Nat.le_refl _) _
  have cN := cell_allocN w (Itm.cells ⟨k, a, sz, f, ln, ⟨x0, x1, x2, x3, x4, x5, x6, x7, xb⟩, V, vc, vs⟩) 33
  have hsz : (w.alloc (.cells (Itm.cells ⟨k, a, sz, f, ln, ⟨x0, x1, x2, x3, x4, x5, x6, x7, xb⟩, V, vc, vs⟩) 33)).heap.size = w.heap.size + 1 := by simp
  dsimp only [Itm.cells] at b0 cN hsz
  generalize hW : w.alloc (.cells #[.int .i64 k, .int .i64 a, .int .i64 sz, .int .i64 f, .int .i64 ln, .int .i64 x0, .int .i64 x1, .int .i64 x2, .int .i64 x3, .int .i64 x4, .int .i64 x5, .int .i64 x6, .int .i64 x7, .bool xb, .slice V vs.length vc] 33) = W0 at b0 cN hsz
  have hN : ∀ (W : World) (x : Int), Below W0.heap.size W0 W → kHas .i64 x → Calls Tryz.prog 28 #[.pointer (some ⟨d, 0, none⟩), .int .i64 x] W fun e w' => e = .returned (.string (nameB lb x)) ∧ Below W.heap.size W w' := fun W x hb hx => by
    have hB := b0.trans (hb.mono (by omega))
    exact name_any d A cap lb (.int .i64 it) x W ((hB.block d hdl).trans hw) ((hA.more (Nat.le_of_lt hdl)).below hB (Nat.le_refl _) |>.more hB.size) hl hs hx
  have C : ∀ W : World, Below W0.heap.size W0 W → W.cell? ⟨w.heap.size, 1, none⟩ = some (.int .i64 a) ∧ W.cell? ⟨w.heap.size, 2, none⟩ = some (.int .i64 sz) ∧ W.cell? ⟨w.heap.size, 14, none⟩ = some (.slice V vs.length vc) := fun W h => by
    have e := fun o => h.cell (p := ⟨w.heap.size, o, none⟩) (by show w.heap.size < W0.heap.size; omega)
    exact ⟨(e 1).trans (cN 1), (e 2).trans (cN 2), (e 14).trans (cN 14)⟩
  clear cN
  obtain ⟨c1, c2, c14⟩ := C W0 (Below.refl _ _)
  go_enter Tryz.func27, Tryz.ntmps27
  go_wp2_with fail
  go_loopw [5, 12] (fun v k wr => ∃ (i : Nat) (L : List Ln), k = .int .i64 i ∧ i ≤ vs.length ∧ L.length = i ∧ Hid (∀ z ∈ L, z.k = 3) ∧ wr.ownsRow W0.heap.size 47 19 v L.length (encL L) ∧ Below W0.heap.size W0 wr) (fun _ k _ => vs.length - (intOf k).toNat)
  case atStart => exact ⟨0, [], rfl, by omega, rfl, Lib.hid (fun z hz => by simp at hz), World.ownsRow_nil _ _ _ _, Below.refl _ _⟩
  case round =>
    obtain ⟨i, L, rfl, hi', hLi, HK, hown, hbr⟩ := hrel
    have hbw : Below w.heap.size w wr := b0.trans (hbr.mono (by omega))
    clear c1 c2 c14
    obtain ⟨c1, c2, c14⟩ := C wr hbr
    by_cases hlt : i < vs.length
    · obtain ⟨g, off, rfl, hg, hc⟩ := (hV.below hbw (Nat.le_refl _)).at_ hlt
      have hk0 : (0 : Int) ≤ (i : Int) := by omega
      have hkl : (i : Int) < (vs.length : Int) := by omega
      generalize vs[i] = u at hc
      go_wp2_with fail
      ((with_reducible refine (hN _ _ hbr (wrap_has _)).mono ?_); rintro e w1 ⟨rfl, hb1⟩)
      have hb2 : Below W0.heap.size W0 w1 := hbr.trans (hb1.mono hbr.size)
      have hown1 := own_below hown hb1
      generalize nameB lb (wrap64 (a + wrap64 (↑i * wrap64 (sz.tdiv ↑vs.length)))) = nb
      clear c1 c2 c14
      obtain ⟨c1, c2, c14⟩ := C w1 hb2
      generalize wrap64 (sz.tdiv ↑vs.length) = each
      go_wp2_with (at_builtin; refine app_line w1 rfl _ _ rfl W0.heap.size hb2.size L ⟨nb, 3, ⟨0, 0, 0, 0, 0, 0, 0, 0, false⟩, 0, ⟨#[]⟩, false, each, 1, u, ⟨#[]⟩⟩ (by omega) _ rfl ?_ _ rfl rfl ?_; exact hown1; intro v2 w2 hown2 hb3)
      have hz1 : ∀ z ∈ L ++ [(⟨nb, 3, ⟨0, 0, 0, 0, 0, 0, 0, 0, false⟩, 0, ⟨#[]⟩, false, each, 1, u, ⟨#[]⟩⟩ : Ln)], z.k = 3 := fun z hz => by
        rcases List.mem_append.1 hz with hz | hz
        · exact HK.out z hz
        · simp only [List.mem_cons, List.not_mem_nil, or_false] at hz
          subst hz
          rfl
      have hz2 : (L ++ [(⟨nb, 3, ⟨0, 0, 0, 0, 0, 0, 0, 0, false⟩, 0, ⟨#[]⟩, false, each, 1, u, ⟨#[]⟩⟩ : Ln)]).length = i + 1 := by rw [List.length_append, hLi]; rfl
      generalize L ++ [(⟨nb, 3, ⟨0, 0, 0, 0, 0, 0, 0, 0, false⟩, 0, ⟨#[]⟩, false, each, 1, u, ⟨#[]⟩⟩ : Ln)] = L2 at hown2 hz1 hz2
      clear c1 c2 c14 hN C hown hown1
      exact ⟨⟨i + 1, L2, by go_num, by omega, hz2, Lib.hid hz1, hown2, hb2.trans hb3⟩, by simp [intOf]; omega⟩
    · have e : i = vs.length := by omega
      subst e
      obtain ⟨A', cap', rfl, h1, h2⟩ := own_lines hown
      go_wp2_with fail
      exact bodyPost_ret (results_tmp rfl _ _ _) rfl ⟨⟨L, A', cap', by rw [hLi]; rfl, h1, h2, hLi, HK.out⟩, hbw⟩
end Go.Proofs.YtdeelhbckfmaeaaGreatDoor
/- For the seat: dis.Items: an image's lines: just the instructions of its items, in order. -/
namespace Go.Proofs.YtdeelhbckfmaeaaGreatDoor
open Go.Sx Go.ChangeShapes Go.WideShapes Go.RowKit Go.Joins Go.Deep

def lnK (L : List Ln) : List (Int × Int × Int × Int × Int × Bool) := (L.filter fun z => z.k == 1).map fun z => keyF z.x
def itK (l : List Itm) : List (Int × Int × Int × Int × Int × Bool) := (l.filter fun y => y.k == 1).map fun y => keyF y.x
set_option maxRecDepth 100000 in
theorem lnK_app (L M : List Ln) : lnK (L ++ M) = lnK L ++ lnK M := by simp [lnK]
set_option maxRecDepth 100000 in
theorem itK_app (L M : List Itm) : itK (L ++ M) = itK L ++ itK M := by simp [itK]
set_option maxRecDepth 100000 in
theorem lnK_none {L : List Ln} (h : ∀ z ∈ L, z.k ≠ 1) : lnK L = [] := by
  unfold lnK
  rw [List.filter_eq_nil_iff.2 (fun z hz => by simpa using h z hz)]
  rfl
set_option maxRecDepth 100000 in
theorem lnK_one {z : Ln} (h : z.k = 1) : lnK [z] = [keyF z.x] := by simp [lnK, h]
set_option maxRecDepth 100000 in
theorem itK_one {z : Itm} (h : z.k = 1) : itK [z] = [keyF z.x] := by simp [itK, h]
set_option maxRecDepth 100000 in
theorem itK_none {z : Itm} (h : z.k ≠ 1) : itK [z] = [] := by simp [itK, h]

set_option maxRecDepth 100000 in
/-- Lines behind lines: the run of an append that finds no room. -/
theorem app_lines (w : World) {ops : Array Oper} {rest : List Oper} {o : Oper} {a : Act} {Q : Exit → Act → World → Prop} (hgd : o.guard = none) (s x : Operand)
    (ho : o.op = .call { callee := .builtin .append, args := #[s, x], argTypes := #[41, 41] }) (A A2 : Option Addr) (l m : List Ln) (cap2 : Nat)
    (hs : a.eval s = .slice A l.length l.length) (hx : a.eval x = .slice A2 m.length cap2) (h1 : LSl A l.length l.length) (h2 : LSl A2 m.length cap2) (hA : LAt w w.heap.size A l) (hm : LAt w w.heap.size A2 m) (hl : l.length + m.length ≤ 10000000)
    (h : ∀ A' cap' w', LSl A' (l ++ m).length cap' → LAt w' w'.heap.size A' (l ++ m) → Below w.heap.size w w' → wpList Tryz.prog ops Q rest (a.put o.dst (.slice A' (l ++ m).length cap')) w') :
    wpList Tryz.prog ops Q (o :: rest) a w := by
  obtain ⟨A', cap', w', hr, r1, r2, r3⟩ := run_app o.type w A A2 l m cap2 h1 h2 hA hm hl
  refine wpList_plain hgd fun K hK => ?_
  unfold Oper.wp execOp
  simp only [ho, resolve, invoke, builtin, Sem.run_bind, Sem.run_pure, Result.andThen_ok, List.map_toArray, List.map_cons, List.map_nil, hs, hx, hr]
  exact hK _ _ (h A' cap' w' r1 r2 r3)

set_option maxRecDepth 100000 in
set_option maxHeartbeats 4000000 in
theorem with_any (A A2 : Option Addr) (l m : List Ln) (cap cap2 n2 : Nat) (w : World) (hn2 : n2 = m.length) (h1 : LSl A l.length cap) (h2 : LSl A2 m.length cap2) (hA : LAt w w.heap.size A l) (hm : LAt w w.heap.size A2 m) (hl : l.length + m.length ≤ 10000000) :
    Calls Tryz.prog 25 #[.slice A l.length cap, .slice A2 n2 cap2] w fun e w' => (∃ A' cap', e = .returned (.slice A' (l ++ m).length cap') ∧ LSl A' (l ++ m).length cap' ∧ LAt w' w'.heap.size A' (l ++ m)) ∧ Below w.heap.size w w' := by
  subst hn2
  have h1' : LSl A l.length l.length := by
    rcases h1 with ⟨h, h0, _⟩ | ⟨_, h⟩
    · exact .inl ⟨h, h0, h0⟩
    · exact .inr ⟨Nat.le_refl _, h⟩
  rcases h1 with ⟨rfl, h0, rfl⟩ | ⟨hc, g, off, rfl⟩
  · obtain rfl := List.eq_nil_of_length_eq_zero h0
    go_enter Tryz.func25, Tryz.ntmps25
    go_wp2_with (at_builtin; refine app_lines w rfl _ _ rfl none A2 [] m cap2 rfl rfl h1' h2 hA hm hl ?_; intro A' cap' w' r1 r2 r3)
    exact bodyPost_ret (results_tmp rfl _ _ _) rfl ⟨⟨A', cap', rfl, r1, r2⟩, r3⟩
  · have hci : (l.length : Int) ≤ (cap : Int) := by omega
    go_enter Tryz.func25, Tryz.ntmps25
    go_wp2_with (at_builtin; refine app_lines w rfl _ _ rfl (some ⟨g, off, none⟩) A2 l m cap2 rfl rfl h1' h2 hA hm hl ?_; intro A' cap' w' r1 r2 r3)
    exact bodyPost_ret (results_tmp rfl _ _ _) rfl ⟨⟨A', cap', by rw [List.length_append]; rfl, r1, r2⟩, r3⟩
end Go.Proofs.YtdeelhbckfmaeaaGreatDoor
/- For the seat: dis.Items: an image's lines: just the instructions of its items, in order. -/
namespace Go.Proofs.YtdeelhbckfmaeaaGreatDoor
open Go.Sx Go.ChangeShapes Go.WideShapes Go.RowKit Go.Joins Go.Deep

set_option maxRecDepth 100000 in
theorem LAt.new (w : World) (z : Ln) : LAt (w.alloc (.cells z.cells 47)) (w.heap.size + 1) (some ⟨w.heap.size, 0, none⟩) [z] := by
  intro _
  refine ⟨w.heap.size, 0, rfl, Nat.lt_succ_self _, fun i v hi => ?_⟩
  rw [encL_cons, show encL [] = [] from rfl, List.append_nil] at hi
  have := World.news_of_block (cs := z.cells) (t := 47) (fr := (0, 0)) (heap_alloc_new w _) i v hi
  rwa [addN] at this
set_option maxRecDepth 100000 in
theorem lsl_one (g : Nat) (z : Ln) : LSl (some ⟨g, 0, none⟩) [z].length 1 := .inr ⟨Nat.le_refl _, g, 0, rfl⟩

set_option maxRecDepth 100000 in
theorem LAt.stay {w w' : World} {d : Nat} {A : Option Addr} {l : List Ln} (h : LAt w w.heap.size A l) (hs : Stay d w w') (hn : l ≠ [] → ∀ a, A = some a → a.block ≠ d) : LAt w' w'.heap.size A l := by
  intro hl
  obtain ⟨g, off, e, hg, hc⟩ := h hl
  exact ⟨g, off, e, Nat.lt_of_lt_of_le hg hs.size, fun i v hi => (hs.cell (p := ⟨g, off + i, none⟩) hg (by have := hn hl _ e; exact this)).trans (hc i v hi)⟩

set_option maxRecDepth 100000 in
theorem Dsk.below {w w' : World} {d : Nat} {A : Option Addr} {lb : List Int} {cap : Nat} {it : Int} (h : Dsk w d A lb cap it) (hb : Below w.heap.size w w') : Dsk w' d A lb cap it :=
  have hd : d < w.heap.size := (Array.getElem?_eq_some_iff.1 h.2.1).1
  ⟨h.1, (hb.block d hd).trans h.2.1, h.2.2.below hb (Nat.le_of_lt hd)⟩

set_option maxRecDepth 100000 in
theorem lat_apart {w : World} {B : Nat} {A : Option Addr} {L : List Ln} {d n c : Nat} {X : Option Addr} {it : Int} {T : TypeId} {fr : Nat × Nat} (h : LAt w B A L) (hd : w.heap[d]? = some (.cells #[.slice X n c, .int .i64 it] T fr)) : L ≠ [] → ∀ a, A = some a → a.block ≠ d := by
  intro hn a ha hb
  obtain ⟨g, off, e, hg, hc⟩ := h hn
  rw [ha] at e
  simp only [Option.some.injEq] at e
  subst e
  obtain rfl : g = d := hb
  match L, hn with
  | z :: r, _ =>
    have h0 := hc 0 (.string z.lab) (by rw [encL_cons]; rfl)
    unfold World.cell? at h0
    simp only [hd] at h0
    match off, h0 with
    | 0, h0 => simp at h0
    | 1, h0 => simp at h0
    | n + 2, h0 => simp at h0

set_option maxRecDepth 100000 in
set_option maxHeartbeats 16000000 in
theorem items_any (s : ByteArray) (l : List Itm) (A : Option Addr) (cap : Nat) (w : World) (hA : ItAt w w.heap.size A l) (hk : ∀ y ∈ l, y.Ok) (hl : l.length ≤ 300) (hv : ∀ y ∈ l, y.vs.length ≤ 300) (hs : s.size ≤ 4000000000) :
    Calls Tryz.prog 14 #[.agg #[.string s, .slice A l.length cap]] w fun e w' => (∃ (L : List Ln) (A' : Option Addr) (cap' : Nat), e = .returned (.slice A' L.length cap') ∧ LSl A' L.length cap' ∧ LAt w' w'.heap.size A' L ∧ lnK L = itK l ∧ L.length ≤ 100000) ∧ Below w.heap.size w w' := by
  have b0 : Below w.heap.size w (w.alloc (.cells #[.string s, .slice A l.length cap] 24)) := (Below.refl _ _).alloc (Nat.le_refl _) _
  have c0 : (w.alloc (.cells #[.string s, .slice A l.length cap] 24)).cell? ⟨w.heap.size, 0, none⟩ = some (.string s) := cell_allocN _ _ _ 0
  have c01 : (w.alloc (.cells #[.string s, .slice A l.length cap] 24)).cell? ⟨w.heap.size, 1, none⟩ = some (.slice A l.length cap) := cell_allocN _ _ _ 1
  have hsz : (w.alloc (.cells #[.string s, .slice A l.length cap] 24)).heap.size = w.heap.size + 1 := by simp
  generalize hW : w.alloc (.cells #[.string s, .slice A l.length cap] 24) = W0 at b0 c0 c01 hsz
  have hLb := labels_any s l A cap W0 ((hA.below b0 (Nat.le_refl _)).more (by omega)) (by omega)
  have hrise := labels_rise l
  have hlen := labels_len l
  generalize labels l = lb at hLb hrise hlen
  go_enter Tryz.func14, Tryz.ntmps14
  go_wp2_with fail
  ((with_reducible refine hLb.mono ?_); rintro e w1 ⟨⟨A1, cap1, rfl, hA1⟩, hb1⟩)
  have B1 : Below w.heap.size w w1 := b0.trans (hb1.mono (by omega))
  have hsz1 : W0.heap.size ≤ w1.heap.size := hb1.size
  have BD : Below w.heap.size w (w1.alloc (.cells #[.slice A1 lb.length cap1, .int .i64 0] 56)) := B1.alloc B1.size _
  have hD : Dsk (w1.alloc (.cells #[.slice A1 lb.length cap1, .int .i64 0] 56)) w1.heap.size A1 lb cap1 0 := ⟨zero_has, heap_alloc_new w1 _, hA1.below ((Below.refl _ _).alloc (Nat.le_refl _) _) (Nat.le_refl _)⟩
  have d0 := (hb1.cell (p := ⟨w.heap.size, 0, none⟩) (by show w.heap.size < W0.heap.size; omega)).trans c0
  have d1 := (hb1.cell (p := ⟨w.heap.size, 1, none⟩) (by show w.heap.size < W0.heap.size; omega)).trans c01
  have e0 : (w1.alloc (.cells #[.slice A1 lb.length cap1, .int .i64 0] 56)).cell? ⟨w.heap.size, 0, none⟩ = some (.string s) := (((Below.refl w1.heap.size w1).alloc (Nat.le_refl _) _).cell (p := ⟨w.heap.size, 0, none⟩) (by show w.heap.size < w1.heap.size; omega)).trans d0
  have e1 : (w1.alloc (.cells #[.slice A1 lb.length cap1, .int .i64 0] 56)).cell? ⟨w.heap.size, 1, none⟩ = some (.slice A l.length cap) := (((Below.refl w1.heap.size w1).alloc (Nat.le_refl _) _).cell (p := ⟨w.heap.size, 1, none⟩) (by show w.heap.size < w1.heap.size; omega)).trans d1
  clear hLb c0 c01 d0 d1
  have hszD : (w1.alloc (.cells #[.slice A1 lb.length cap1, .int .i64 0] 56)).heap.size = w1.heap.size + 1 := by simp
  go_wp2_with fail
  generalize hWD : w1.alloc (.cells #[.slice A1 lb.length cap1, .int .i64 0] 56) = WD at *
  have hwD : w.heap.size < w1.heap.size := by omega
  generalize w1.heap.size = D at *
  go_loopw [4, 15] (fun v k wr => ∃ (i : Nat) (L : List Ln) (A2 : Option Addr) (c2 : Nat), k = .int .i64 i ∧ i ≤ l.length ∧ v = .slice A2 L.length c2 ∧ LSl A2 L.length c2 ∧ Hid (lnK L = itK (l.take i) ∧ L.length ≤ 301 * i) ∧ LAt wr wr.heap.size A2 L ∧ (∃ it, Dsk wr D A1 lb cap1 it) ∧ Stay D WD wr) (fun _ k _ => l.length - (intOf k).toNat)
  case atStart => exact ⟨0, [], none, 0, rfl, by omega, rfl, .inl ⟨rfl, rfl, rfl⟩, Lib.hid ⟨by simp [lnK, itK], by simp⟩, LAt.nil _ _ _, ⟨0, hD⟩, Stay.refl _ _⟩
  case round =>
    obtain ⟨i, L, A2, c2, rfl, hi, rfl, hS, HK, hL, ⟨it, hDs⟩, hSt⟩ := hrel
    have BR : Below w.heap.size w wr := BD.trans (hSt.below (by omega) (by omega))
    have hwr : WD.heap.size ≤ wr.heap.size := hSt.size
    by_cases hlt : i < l.length
    · obtain ⟨g, off, rfl, hg, hc⟩ := (hA.below BR (Nat.le_refl _)).at_ hlt
      have hk0 : (0 : Int) ≤ (i : Int) := by omega
      have hkl : (i : Int) < (l.length : Int) := by omega
      have IN := itIn_of hc
      have hy := hk l[i] (List.getElem_mem hlt)
      have hvy := hv l[i] (List.getElem_mem hlt)
      have hVy := hA.2 l[i] (List.getElem_mem hlt)
      have htk : itK (l.take (i + 1)) = itK (l.take i) ++ itK [l[i]] := by rw [List.take_succ_eq_append_getElem hlt, itK_app]
      have HP := HK.out
      generalize l[i] = y at IN hy hvy hVy htk
      have hIns := fun (W : World) (h : Dsk W D A1 lb cap1 it) => ins_any D A1 cap1 lb it (by omega) hrise y hy W h
      have hDat := fun (W : World) (h : Dsk W D A1 lb cap1 it) (h2 : IAt W W.heap.size y.V y.vs) => data_any D A1 cap1 lb it (by omega) hrise y hy W h h2 (by omega)
      have hNm := fun (W : World) (h : Dsk W D A1 lb cap1 it) (x : Int) (hx : kHas .i64 x) => name_any D A1 cap1 lb (.int .i64 it) x W h.2.1 (h.2.2.more (Nat.le_of_lt (Array.getElem?_eq_some_iff.1 h.2.1).1)) (by omega) hrise hx
      have hya := hy.a
      have hlK := HP.1
      have hlL := HP.2
      rw [← hlK] at htk
      obtain ⟨k, a, sz, f, ln, x, V, vc, vs⟩ := y
      obtain ⟨x0, x1, x2, x3, x4, x5, x6, x7, xb⟩ := x
      obtain ⟨p0, p1, p2, p3, p4, p5, p6, p7, p8, p9, p10, p11, p12, p13, p14⟩ := IN
      dsimp only [Itm.val, Itm.cells] at hIns hDat hya hvy hVy p0 p1 p2 p3 p4 p5 p6 p7 p8 p9 p10 p11 p12 p13 p14
      have HT := Lib.hid htk
      have HLK := Lib.hid hlK
      clear hc HK HP htk hlK hy e0 e1
      have bx : Below wr.heap.size wr (wr.alloc (.cells #[.int .i64 k, .int .i64 a, .int .i64 sz, .int .i64 f, .int .i64 ln, .int .i64 x0, .int .i64 x1, .int .i64 x2, .int .i64 x3, .int .i64 x4, .int .i64 x5, .int .i64 x6, .int .i64 x7, .bool xb, .slice V vs.length vc] 33)) := (Below.refl _ _).alloc (Nat.le_refl _) _
      have cN := cell_allocN wr #[.int .i64 k, .int .i64 a, .int .i64 sz, .int .i64 f, .int .i64 ln, .int .i64 x0, .int .i64 x1, .int .i64 x2, .int .i64 x3, .int .i64 x4, .int .i64 x5, .int .i64 x6, .int .i64 x7, .bool xb, .slice V vs.length vc] 33
      have hlL1 : L.length ≤ 100000 := by omega
      have FIN : ∀ (M : List Ln) (A5 : Option Addr) (n5 c5 : Nat) (w5 : World), n5 = (L ++ M).length → LSl A5 (L ++ M).length c5 → LAt w5 w5.heap.size A5 (L ++ M) → lnK M = itK [⟨k, a, sz, f, ln, ⟨x0, x1, x2, x3, x4, x5, x6, x7, xb⟩, V, vc, vs⟩] → M.length ≤ 301 → (∃ it, Dsk w5 D A1 lb cap1 it) → Stay D wr w5 →
          ∃ (i' : Nat) (L' : List Ln) (A2' : Option Addr) (c2' : Nat), (Value.int .i64 (i + 1) : Value) = .int .i64 i' ∧ i' ≤ l.length ∧ (Value.slice A5 n5 c5) = .slice A2' L'.length c2' ∧ LSl A2' L'.length c2' ∧ Hid (lnK L' = itK (l.take i') ∧ L'.length ≤ 301 * i') ∧ LAt w5 w5.heap.size A2' L' ∧ (∃ it, Dsk w5 D A1 lb cap1 it) ∧ Stay D WD w5 := fun M A5 n5 c5 w5 f0 f1 f2 f3 f4 f5 f6 =>
        ⟨i + 1, L ++ M, A5, c5, by go_num, by omega, by rw [f0], f1, Lib.hid ⟨by rw [lnK_app, f3, HT.out], by rw [List.length_append]; omega⟩, f2, f5, hSt.trans f6⟩
      clear HT
      by_cases k1 : k = 1
      · have q1 : (k == 1) = true := by rw [k1]; rfl
        have hD2 := hDs.below bx
        have hI := hIns _ hD2
        have hL2 : LAt _ _ A2 L := (hL.below bx (Nat.le_refl _)).more bx.size
        have hap := lat_apart hL2 hD2.2.1
        have HK1 := Lib.hid k1
        clear hIns hDat hNm k1
        go_wp2_with fail
        ((with_reducible refine hI.mono ?_); rintro e w3 ⟨⟨z, rfl, hz1, hz2⟩, hD3, hS3⟩)
        have hL3 := hL2.stay hS3 hap
        have HZ := Lib.hid (And.intro hz1 hz2)
        clear hz1 hz2 hI hD2 hL2 hap hL
        dsimp only [Ln.val, Ln.cells]
        have hb4 : Below w3.heap.size w3 (w3.alloc (.cells z.cells 47)) := (Below.refl _ _).alloc (Nat.le_refl _) _
        have hWi := with_any A2 (some ⟨w3.heap.size, 0, none⟩) L [z] c2 1 1 _ rfl hS (lsl_one _ _) ((hL3.below hb4 (Nat.le_refl _)).more hb4.size) ((LAt.new w3 z).more (by simp)) (by simp; omega)
        dsimp only [Ln.cells] at hb4 hWi
        go_wp2_with fail
        ((with_reducible refine hWi.mono ?_); rintro e w5 ⟨⟨A5, c5, rfl, hS5, hL5⟩, hb5⟩)
        have hF := FIN [z] A5 (L.length + 1) c5 w5 (by simp) hS5 hL5 (by rw [lnK_one HZ.out.1, HZ.out.2, itK_one HK1.out]) (by simp) (by obtain ⟨it', h⟩ := hD3; exact ⟨it', (h.below hb4).below hb5⟩) ((Stay.of_below bx).trans (hS3.trans ((Stay.of_below hb4).trans (Stay.of_below hb5))))
        clear hWi FIN
        go_wp2_with fail
        exact ⟨hF, by simp [intOf]; omega⟩
      have q1 : (k == 1) = false := by simpa using k1
      have HK1 := Lib.hid k1
      clear k1 hIns
      by_cases k3 : k = 3
      · have q3 : (k == 3) = true := by rw [k3]; rfl
        have q2 : (k == 2) = false := by rw [k3]; rfl
        have q4 : (k == 4) = false := by rw [k3]; rfl
        have hD2 := hDs.below bx
        have hL2 : LAt _ _ A2 L := (hL.below bx (Nat.le_refl _)).more bx.size
        have c1 := cN 1
        have c2' := cN 2
        have hWsz : (wr.alloc (.cells #[.int .i64 k, .int .i64 a, .int .i64 sz, .int .i64 f, .int .i64 ln, .int .i64 x0, .int .i64 x1, .int .i64 x2, .int .i64 x3, .int .i64 x4, .int .i64 x5, .int .i64 x6, .int .i64 x7, .bool xb, .slice V vs.length vc] 33)).heap.size = wr.heap.size + 1 := by simp
        clear hDat k3 hL
        go_wp2_with fail
        generalize hW2 : wr.alloc (.cells #[.int .i64 k, .int .i64 a, .int .i64 sz, .int .i64 f, .int .i64 ln, .int .i64 x0, .int .i64 x1, .int .i64 x2, .int .i64 x3, .int .i64 x4, .int .i64 x5, .int .i64 x6, .int .i64 x7, .bool xb, .slice V vs.length vc] 33) = W2 at *
        have kS : ∀ X : World, Below W2.heap.size W2.drew X → X.cell? ⟨wr.heap.size, 1, none⟩ = some (.int .i64 a) ∧ X.cell? ⟨wr.heap.size, 2, none⟩ = some (.int .i64 sz) := fun X h => ⟨(h.cell (p := ⟨wr.heap.size, 1, none⟩) (by show wr.heap.size < W2.heap.size; omega)).trans c1, (h.cell (p := ⟨wr.heap.size, 2, none⟩) (by show wr.heap.size < W2.heap.size; omega)).trans c2'⟩
        have hDd : Dsk W2.drew D A1 lb cap1 it := hD2.below (Below.refl _ _).drew
        have hLd : LAt W2.drew W2.drew.heap.size A2 L := hL2.below (Below.refl _ _).drew (Nat.le_refl _)
        have hB0 : Below W2.heap.size W2.drew W2.drew := Below.refl _ _
        go_region_held3 (fun w' => w'.cell? ⟨wr.heap.size, 1, none⟩ = some (.int .i64 a) ∧ w'.cell? ⟨wr.heap.size, 2, none⟩ = some (.int .i64 sz))
          (first
            | (with_reducible exact kS _ hB0)
            | (with_reducible exact kS _ hb5)
            | (with_reducible exact kS _ hb4)
            | (with_reducible exact kS _ hb3)
            | (exact kS _ (hb3.alloc hb3.size _))
            | go_keep)
          (first
            | (go_at_call 28; refine (hNm W2.drew hDd a hya).mono ?_; rintro e w3 ⟨rfl, hb3a⟩; have hb3 : Below W2.heap.size W2.drew w3 := hb3a)
            | (go_at_call 25; refine (with_any A2 (some ⟨w3.heap.size, 0, none⟩) L [(⟨nameB lb a, 7, ⟨0, 0, 0, 0, 0, 0, 0, 0, false⟩, 0, ⟨#[]⟩, false, sz, 0, 0, ⟨#[]⟩⟩ : Ln)] c2 1 1 (w3.alloc (.cells (Ln.cells (⟨nameB lb a, 7, ⟨0, 0, 0, 0, 0, 0, 0, 0, false⟩, 0, ⟨#[]⟩, false, sz, 0, 0, ⟨#[]⟩⟩ : Ln)) 47)) rfl hS (lsl_one _ _) (((hLd.below hb3 (Nat.le_refl _)).more hb3.size).below ((Below.refl w3.heap.size w3).alloc (Nat.le_refl _) _) (Nat.le_refl _) |>.more (by simp)) ((LAt.new w3 (⟨nameB lb a, 7, ⟨0, 0, 0, 0, 0, 0, 0, 0, false⟩, 0, ⟨#[]⟩, false, sz, 0, 0, ⟨#[]⟩⟩ : Ln)).more (by simp)) (by simp; omega)).mono ?_; rintro e w5 ⟨⟨A5, cp5, rfl, hS5, hL5⟩, hb5'⟩; have hb5 : Below W2.heap.size W2.drew w5 := (hb3.alloc hb3.size (.cells (Ln.cells (⟨nameB lb a, 7, ⟨0, 0, 0, 0, 0, 0, 0, 0, false⟩, 0, ⟨#[]⟩, false, sz, 0, 0, ⟨#[]⟩⟩ : Ln)) 47)).trans (hb5'.mono (by have := hb3.size; simp; exact Nat.le_succ_of_le this))))
        have hF := FIN [(⟨nameB lb a, 7, ⟨0, 0, 0, 0, 0, 0, 0, 0, false⟩, 0, ⟨#[]⟩, false, sz, 0, 0, ⟨#[]⟩⟩ : Ln)] A5 (L.length + 1) cp5 w5 (by simp) hS5 hL5 (by rw [lnK_none (fun z hz => by simp only [List.mem_cons, List.not_mem_nil, or_false] at hz; subst hz; show (7 : Int) ≠ 1; decide), itK_none HK1.out]) (by simp) ⟨it, (((hD2.below (Below.refl _ _).drew).below hb3).below ((Below.refl w3.heap.size w3).alloc (Nat.le_refl _) _)).below hb5'⟩ ((Stay.of_below bx).trans (Stay.of_below ((Below.refl W2.heap.size W2).drew.trans hb5 : Below W2.heap.size W2 w5)))
        clear FIN
        go_wp2_with fail
        exact ⟨hF, by simp [intOf]; omega⟩
      have q3 : (k == 3) = false := by simpa using k3
      clear k3
      by_cases k2 : k = 2
      · have q2 : (k == 2) = true := by rw [k2]; rfl
        have hD2 := hDs.below bx
        have hL2 : LAt _ _ A2 L := (hL.below bx (Nat.le_refl _)).more bx.size
        have hDa := hDat _ hD2 ((hVy.below (BR.trans (bx.mono BR.size)) (Nat.le_refl _)).more (Nat.le_trans BR.size bx.size))
        clear hDat hL hNm k2
        go_wp2_with fail
        ((with_reducible refine hDa.mono ?_); rintro e w3 ⟨⟨M, A3, c3, rfl, hS3, hM3, hMl', hMk⟩, hb3⟩)
        have hMl := Lib.hid hMl'
        clear hMl'
        have hWi := with_any A2 A3 L M c2 c3 M.length w3 rfl hS hS3 ((hL2.below hb3 (Nat.le_refl _)).more hb3.size) hM3 (by have := hMl.out; omega)
        clear hDa
        go_wp2_with fail
        ((with_reducible refine hWi.mono ?_); rintro e w5 ⟨⟨A5, c5, rfl, hS5, hL5⟩, hb5⟩)
        have hF := FIN M A5 (L.length + M.length) c5 w5 (by simp) hS5 hL5 (by rw [lnK_none (fun z hz => by rw [hMk z hz]; decide), itK_none HK1.out]) (by have := hMl.out; omega) ⟨it, (hD2.below hb3).below hb5⟩ ((Stay.of_below bx).trans ((Stay.of_below hb3).trans (Stay.of_below hb5)))
        clear hWi FIN hMk
        go_wp2_with fail
        exact ⟨hF, by simp [intOf]; omega⟩
      have q2 : (k == 2) = false := by simpa using k2
      clear k2
      by_cases k4 : k = 4
      · have q4 : (k == 4) = true := by rw [k4]; rfl
        have hD2 := hDs.below bx
        have hL2 : LAt _ _ A2 L := (hL.below bx (Nat.le_refl _)).more bx.size
        have hDa := hDat _ hD2 ((hVy.below (BR.trans (bx.mono BR.size)) (Nat.le_refl _)).more (Nat.le_trans BR.size bx.size))
        clear hDat hL hNm k4
        go_wp2_with fail
        ((with_reducible refine hDa.mono ?_); rintro e w3 ⟨⟨M, A3, c3, rfl, hS3, hM3, hMl', hMk⟩, hb3⟩)
        have hMl := Lib.hid hMl'
        clear hMl'
        have hWi := with_any A2 A3 L M c2 c3 M.length w3 rfl hS hS3 ((hL2.below hb3 (Nat.le_refl _)).more hb3.size) hM3 (by have := hMl.out; omega)
        clear hDa
        go_wp2_with fail
        ((with_reducible refine hWi.mono ?_); rintro e w5 ⟨⟨A5, c5, rfl, hS5, hL5⟩, hb5⟩)
        have hF := FIN M A5 (L.length + M.length) c5 w5 (by simp) hS5 hL5 (by rw [lnK_none (fun z hz => by rw [hMk z hz]; decide), itK_none HK1.out]) (by have := hMl.out; omega) ⟨it, (hD2.below hb3).below hb5⟩ ((Stay.of_below bx).trans ((Stay.of_below hb3).trans (Stay.of_below hb5)))
        clear hWi FIN hMk
        go_wp2_with fail
        exact ⟨hF, by simp [intOf]; omega⟩
      have q4 : (k == 4) = false := by simpa using k4
      have hD2 := hDs.below bx
      have hL2 : LAt _ _ A2 L := (hL.below bx (Nat.le_refl _)).more bx.size
      have hF := FIN [] A2 L.length c2 _ (by simp) (by rw [List.append_nil]; exact hS) (by rw [List.append_nil]; exact hL2) (by rw [itK_none HK1.out]; rfl) (by simp) ⟨it, hD2⟩ (Stay.of_below bx)
      clear k4 hDat hNm FIN hL hL2 hD2
      go_wp2_with fail
      exact ⟨hF, by simp [intOf]; omega⟩
    · have e : i = l.length := by omega
      subst e
      have hlk := HK.out.1
      have hlL := HK.out.2
      rw [List.take_length] at hlk
      have e0' : wr.cell? ⟨w.heap.size, 0, none⟩ = some (.string s) := (hSt.cell (p := ⟨w.heap.size, 0, none⟩) (by show w.heap.size < WD.heap.size; omega) (by show w.heap.size ≠ D; omega)).trans e0
      have hNm := name_any D A1 cap1 lb (.int .i64 it) (s.size : Int) wr hDs.2.1 (hDs.2.2.more (Nat.le_of_lt (Array.getElem?_eq_some_iff.1 hDs.2.1).1)) (by omega) hrise (by show -2 ^ 63 ≤ (s.size : Int) ∧ (s.size : Int) < 2 ^ 63; omega)
      generalize nameB lb (s.size : Int) = nb at hNm
      have HX := Lib.hid hlk
      clear hlk HK e0 e1
      go_wp2_with fail
      ((with_reducible refine hNm.mono ?_); rintro e w3 ⟨rfl, hb3⟩)
      have hL3 := (hL.below hb3 (Nat.le_refl _)).more hb3.size
      have B3 := BR.trans (hb3.mono BR.size)
      clear hNm e0'
      cases hq : nb.toList.isEmpty
      rotate_left
      · go_wp2_with fail
        exact bodyPost_ret (results_tmp rfl _ _ _) rfl ⟨⟨L, A2, c2, rfl, hS, hL3, HX.out, by omega⟩, B3⟩
      · have hb4 : Below w3.heap.size w3 (w3.alloc (.cells (Ln.cells (⟨nb, 0, ⟨0, 0, 0, 0, 0, 0, 0, 0, false⟩, 0, ⟨#[]⟩, false, 0, 0, 0, ⟨#[]⟩⟩ : Ln)) 47)) := (Below.refl _ _).alloc (Nat.le_refl _) _
        have hWi := with_any A2 (some ⟨w3.heap.size, 0, none⟩) L [(⟨nb, 0, ⟨0, 0, 0, 0, 0, 0, 0, 0, false⟩, 0, ⟨#[]⟩, false, 0, 0, 0, ⟨#[]⟩⟩ : Ln)] c2 1 1 _ rfl hS (lsl_one _ _) ((hL3.below hb4 (Nat.le_refl _)).more hb4.size) ((LAt.new w3 (⟨nb, 0, ⟨0, 0, 0, 0, 0, 0, 0, 0, false⟩, 0, ⟨#[]⟩, false, 0, 0, 0, ⟨#[]⟩⟩ : Ln)).more (by simp)) (by simp; omega)
        dsimp only [Ln.cells] at hb4 hWi
        go_wp2_with fail
        ((with_reducible refine hWi.mono ?_); rintro e w5 ⟨⟨A5, c5, rfl, hS5, hL5⟩, hb5⟩)
        go_wp2_with fail
        exact bodyPost_ret (results_tmp rfl _ _ _) rfl ⟨⟨L ++ [(⟨nb, 0, ⟨0, 0, 0, 0, 0, 0, 0, 0, false⟩, 0, ⟨#[]⟩, false, 0, 0, 0, ⟨#[]⟩⟩ : Ln)], A5, c5, by rw [List.length_append]; rfl, hS5, hL5, by rw [lnK_app, lnK_none (L := [(⟨nb, 0, ⟨0, 0, 0, 0, 0, 0, 0, 0, false⟩, 0, ⟨#[]⟩, false, 0, 0, 0, ⟨#[]⟩⟩ : Ln)]) (fun z hz => by simp only [List.mem_cons, List.not_mem_nil, or_false] at hz; subst hz; show (0 : Int) ≠ 1; decide), List.append_nil]; exact HX.out, by simp; omega⟩, (B3.trans (hb4.mono B3.size)).trans (hb5.mono (Nat.le_trans B3.size hb4.size))⟩
end Go.Proofs.YtdeelhbckfmaeaaGreatDoor
/- For the seat: the law's function: the lines have just the instructions of the items, in order. -/
namespace Go.Proofs.YtdeelhbckfmaeaaGreatDoor
open Go.Sx Go.ChangeShapes Go.WideShapes Go.RowKit Go.Joins Go.Deep

set_option maxRecDepth 100000 in
theorem lnK_drop {L : List Ln} {k : Nat} (hk : k < L.length) : lnK (L.drop k) = if (L[k].k == 1) = true then keyF L[k].x :: lnK (L.drop (k + 1)) else lnK (L.drop (k + 1)) := by
  rw [List.drop_eq_getElem_cons hk]
  unfold lnK
  rw [List.filter_cons]
  split <;> simp
set_option maxRecDepth 100000 in
theorem itK_drop {L : List Itm} {k : Nat} (hk : k < L.length) : itK (L.drop k) = if (L[k].k == 1) = true then keyF L[k].x :: itK (L.drop (k + 1)) else itK (L.drop (k + 1)) := by
  rw [List.drop_eq_getElem_cons hk]
  unfold itK
  rw [List.filter_cons]
  split <;> simp

set_option maxRecDepth 100000 in
set_option maxHeartbeats 8000000 in
theorem each_r (aw : ∀ W, gx.Laid W → Calls Tryz.prog 11 #[] W fun e w' => e = .returned (.bool true) ∧ Below W.heap.size W w')
    (s : ByteArray) (l : List Itm) (A : Option Addr) (cap : Nat) (w : World) (hA : ItAt w w.heap.size A l) (hk : ∀ y ∈ l, y.Ok) (hl : l.length ≤ maxLen) (hw : gx.Laid w) :
    Calls Tryz.prog 5 #[.agg #[.string s, .slice A l.length cap]] w fun e w' => e = .returned (.bool true) ∧ Below w.heap.size w w' := by
  have b0 : Below w.heap.size w (w.alloc (.cells #[.string s, .slice A l.length cap] 24)) := (Below.refl _ _).alloc (Nat.le_refl _) _
  have c0 : (w.alloc (.cells #[.string s, .slice A l.length cap] 24)).cell? ⟨w.heap.size, 0, none⟩ = some (.string s) := cell_allocN _ _ _ 0
  have c01 : (w.alloc (.cells #[.string s, .slice A l.length cap] 24)).cell? ⟨w.heap.size, 1, none⟩ = some (.slice A l.length cap) := cell_allocN _ _ _ 1
  have hsz : (w.alloc (.cells #[.string s, .slice A l.length cap] 24)).heap.size = w.heap.size + 1 := by simp
  generalize hW : w.alloc (.cells #[.string s, .slice A l.length cap] 24) = W0 at b0 c0 c01 hsz
  have U : ∀ W : World, Below W0.heap.size W0 W → Below w.heap.size w W := fun W h => b0.trans (h.mono (by omega))
  have K : ∀ W : World, Below W0.heap.size W0 W → W.cell? ⟨w.heap.size, 0, none⟩ = some (.string s) ∧ W.cell? ⟨w.heap.size, 1, none⟩ = some (.slice A l.length cap) := fun W h => ⟨(h.cell (p := ⟨w.heap.size, 0, none⟩) (by show w.heap.size < W0.heap.size; omega)).trans c0, (h.cell (p := ⟨w.heap.size, 1, none⟩) (by show w.heap.size < W0.heap.size; omega)).trans c01⟩
  have hM := may_any s l A cap W0 ((hA.below b0 (Nat.le_refl _)).more (by omega)) hk hl
  go_enter Tryz.func5, Tryz.ntmps5
  go_wp2_with fail
  ((with_reducible refine hM.mono ?_); rintro e w1 ⟨r, rfl, hr, hb1⟩)
  clear hM c0 c01
  obtain ⟨d0, d1⟩ := K w1 hb1
  cases r
  · go_wp2_with fail
    ((with_reducible refine (aw w1 (gxLaid_below hw (U _ hb1))).mono ?_); rintro e w2 ⟨rfl, hb2⟩)
    go_wp2_with fail
    exact bodyPost_ret (results_tmp rfl _ _ _) rfl ⟨rfl, (U _ hb1).trans (hb2.mono (U _ hb1).size)⟩
  obtain ⟨_, hs, hl3, hv3⟩ := hr rfl
  have hIt := items_any s l A cap w1 ((hA.below (U _ hb1) (Nat.le_refl _)).more (U _ hb1).size) hk (by omega) hv3 (by omega)
  clear hr
  go_wp2_with fail
  ((with_reducible refine hIt.mono ?_); rintro e w2 ⟨⟨L, A2, cap2, rfl, _, hA2, hkey, hLl⟩, hb2⟩)
  have B2 := hb1.trans (hb2.mono hb1.size)
  clear d0 d1 hIt
  go_wp2_with fail
  go_loopw [4, 5] (fun kk k wr => ∃ (i j : Nat), i ≤ l.length ∧ j ≤ L.length ∧ k = .int .i64 i ∧ kk = .int .i64 j ∧ Hid (lnK (L.drop j) = itK (l.drop i)) ∧ Below w2.heap.size w2 wr) (fun _ k _ => l.length - (intOf k).toNat)
  case atStart => exact ⟨0, 0, by omega, by omega, rfl, rfl, Lib.hid hkey, Below.refl _ _⟩
  case round =>
    obtain ⟨i, j, hi, hj, rfl, rfl, HK, hbr⟩ := hrel
    have BR := B2.trans (hbr.mono B2.size)
    obtain ⟨d0, d1⟩ := K wr BR
    by_cases hlt : i < l.length
    · obtain ⟨g, off, rfl, hg, hc⟩ := (hA.below (U _ BR) (Nat.le_refl _)).at_ hlt
      have hk0 : (0 : Int) ≤ (i : Int) := by omega
      have hkl : (i : Int) < (l.length : Int) := by omega
      have IN := itIn_of hc
      have hkd := itK_drop hlt
      have hp := HK.out
      rw [hkd] at hp
      clear hkd HK hc
      generalize l[i] = y at IN hp
      obtain ⟨k, a, sz, f, ln, x, V, vc, vs⟩ := y
      obtain ⟨x0, x1, x2, x3, x4, x5, x6, x7, xb⟩ := x
      obtain ⟨p0, p1, p2, p3, p4, p5, p6, p7, p8, p9, p10, p11, p12, p13, p14⟩ := IN
      dsimp only [Itm.val, Itm.cells] at hp p0 p1 p2 p3 p4 p5 p6 p7 p8 p9 p10 p11 p12 p13 p14
      have BA : Below w2.heap.size w2 (wr.alloc (.cells #[.int .i64 k, .int .i64 a, .int .i64 sz, .int .i64 f, .int .i64 ln, .int .i64 x0, .int .i64 x1, .int .i64 x2, .int .i64 x3, .int .i64 x4, .int .i64 x5, .int .i64 x6, .int .i64 x7, .bool xb, .slice V vs.length vc] 33)) := hbr.alloc hbr.size _
      by_cases k1 : k = 1
      · have q1 : (k != 1) = false := by rw [k1]; rfl
        rw [if_pos (by rw [k1]; rfl)] at hp
        have HP := Lib.hid hp
        clear hp k1
        have cN := cell_allocN wr #[.int .i64 k, .int .i64 a, .int .i64 sz, .int .i64 f, .int .i64 ln, .int .i64 x0, .int .i64 x1, .int .i64 x2, .int .i64 x3, .int .i64 x4, .int .i64 x5, .int .i64 x6, .int .i64 x7, .bool xb, .slice V vs.length vc] 33
        have r5 := cN 5
        have r7 := cN 7
        have r8 := cN 8
        have r9 := cN 9
        have r12 := cN 12
        have r13 := cN 13
        clear cN
        go_wp2_with fail
        clear p0 p1 p2 p3 p4 p5 p6 p7 p8 p9 p10 p11 p12 p13 p14
        generalize hW4 : wr.alloc (.cells #[.int .i64 k, .int .i64 a, .int .i64 sz, .int .i64 f, .int .i64 ln, .int .i64 x0, .int .i64 x1, .int .i64 x2, .int .i64 x3, .int .i64 x4, .int .i64 x5, .int .i64 x6, .int .i64 x7, .bool xb, .slice V vs.length vc] 33) = W4 at BA r5 r7 r8 r9 r12 r13 ⊢
        go_loopw [4] (fun kk wx => ∃ j' : Nat, j' ≤ L.length ∧ kk = .int .i64 j' ∧ Hid (lnK (L.drop j') = keyF ⟨x0, x1, x2, x3, x4, x5, x6, x7, xb⟩ :: itK (l.drop (i + 1))) ∧ wx = W4) (fun kk _ => L.length - (intOf kk).toNat)
        case atStart => exact ⟨j, hj, rfl, HP, rfl⟩
        case round =>
          obtain ⟨j', hj', rfl, HQ, rfl⟩ := hrel
          by_cases hjl : j' < L.length
          · have hk0' : (0 : Int) ≤ (j' : Int) := by omega
            have hkl' : (j' : Int) < (L.length : Int) := by omega
            obtain ⟨g2, o2, rfl, hg2, LIN⟩ := (hA2.below BA (Nat.le_refl _)).at_ hjl
            have hp := HQ.out
            rw [lnK_drop hjl] at hp
            clear HQ HP
            generalize L[j'] = z at LIN hp
            obtain ⟨zl, zk, ⟨z0, z1, z2, z3, z4, z5, z6, z7, zb⟩, zc, zr, zw, zs, ze, zn, zm⟩ := z
            obtain ⟨m1, m2, m4, m5, m6, m9, m10⟩ := LIN
            dsimp only at m1 m2 m4 m5 m6 m9 m10 hp
            by_cases hz : zk = 1
            · have qz : (zk != 1) = false := by rw [hz]; rfl
              rw [if_pos (by rw [hz]; rfl)] at hp
              have h1 := (List.cons.inj hp).1
              have HT := Lib.hid (List.cons.inj hp).2
              simp only [keyF, Prod.mk.injEq] at h1
              obtain ⟨rfl, rfl, rfl, rfl, rfl, rfl⟩ := h1
              have v0 : decide ((L.length : Int) ≤ (j' : Int)) = false := decide_eq_false (by omega)
              have v1 : decide ((j' : Int) < (L.length : Int)) = true := decide_eq_true hkl'
              clear hz hp
              go_wp2_with fail
              go_quiet (fail)
              go_wp2_with fail
              go_roundw
              case rel => exact ⟨i + 1, j' + 1, by omega, by omega, by go_num, by go_num, HT, below_drewN BA⟩
              case measure => simp [intOf]; omega
            · have qz : (zk != 1) = true := by simpa using hz
              rw [if_neg (by simpa using hz)] at hp
              have HN := Lib.hid hp
              clear hz hp
              go_wp2_with fail
              go_roundw
              case rel => exact ⟨j' + 1, by omega, by go_num, HN, trivial⟩
              case measure => simp [intOf]; omega
          · have e : j' = L.length := by omega
            subst e
            have hp := HQ.out
            rw [List.drop_length] at hp
            cases hp
      · have q1 : (k != 1) = true := by simpa using k1
        rw [if_neg (by simpa using k1)] at hp
        have HP := Lib.hid hp
        clear hp k1
        go_wp2_with fail
        go_roundw
        case rel => exact ⟨i + 1, j, by omega, hj, by go_num, rfl, HP, BA⟩
        case measure => simp [intOf]; omega
    · have e : i = l.length := by omega
      subst e
      go_wp2_with fail
      ((with_reducible refine (aw wr (gxLaid_below hw (U _ BR))).mono ?_); rintro e w3 ⟨rfl, hb3⟩)
      go_wp2_with fail
      exact bodyPost_ret (results_tmp rfl _ _ _) rfl ⟨rfl, (U _ BR).trans (hb3.mono (U _ BR).size)⟩
end Go.Proofs.YtdeelhbckfmaeaaGreatDoor
