/- The executor's theorem, as it is used. -/
import Derived.Test.YtnpfihlaocpcfaaGreatDoorSxExt
import Derived.KernelRfl
import Derived.RowKit3
import Derived.Lib.Join
import Derived.Lib.SmallJoins
namespace Go.Sx
noncomputable section
open Go.RowKit

/-- The tree is one leaf that says true. -/
def isTrue : Tree Res → Bool
  | .leaf x => match x.v with
    | .bool (.bit true) => true
    | _ => false
  | _ => false

theorem isTrue_get {ρ : Env} {t : Tree Res} (h : isTrue t = true) : ∃ x, t.get ρ = some x ∧ x.v = .bool (.bit true) := by
  unfold isTrue at h
  split at h
  · rename_i x
    split at h
    · rename_i hv; exact ⟨x, rfl, hv⟩
    · cases h
  · cases h

/-- The world's own blocks. -/
def ownK (w : World) (k : Nat) : Prop := k < w.heap.size

theorem HR.start (ρ : Env) (w : World) (ι : Nm) (hB : ∀ q, ρ.ab.B q → ownK w q) : HR ρ [] (ownK w) w ι [] w := by
  refine ⟨rfl, rfl, rfl, Nat.le_refl _, fun _ _ => rfl, fun _ h => h, hB, ?_, ?_, ?_⟩
  · intro n b hb; simp at hb
  · intro n m b c hb; simp at hb
  · intro g cs hg; cases hg

theorem HR.grown {ρ : Env} {G : Globs} {w w' : World} {ι : Nm} {h : Heap} (H : HR ρ G (ownK w) w ι h w') : Below w.heap.size w w' :=
  ⟨H.os, H.tape, H.output, H.size, fun k hk => H.kept k hk⟩

def noS : Specs := fun _ => none
theorem noS_ok (ρ : Env) (cx : Cx) : noS.Ok ρ cx := by intro f sp h; cases h
theorem noS_body (cx : Cx) : ∀ f, noS f ≠ none → ∃ fn c, cx.P.funcs[f]? = some fn ∧ fn.body = some c := by intro f h; exact (h rfl).elim

def ι0 : Nm := ⟨fun _ => 0, fun _ => 0, fun _ => ⟨.int .i64 0, rfl⟩, fun _ _ => False⟩

/-- A law that is walked to 'true' returns true, and the world has only grown. -/
theorem law_true {ρ : Env} {cx : Cx} (ok : cx.Ok) (hG : cx.globs = []) {S : Specs} (hS : S.Ok ρ cx) (hB : ∀ f, S f ≠ none → ∃ fn c, cx.P.funcs[f]? = some fn ∧ fn.body = some c) {fuel : Nat} {f : FuncId} {args : List SVal} {pc : Tm} (hBw : ∀ w : World, ∀ q, ρ.ab.B q → ownK w q)
    (hsc : ∀ v ∈ args, v.sc 0 = true) (hpc : (pc.den ρ).asBool = true) (hx : isTrue (callT cx S (run cx S fuel) f args [] pc) = true) (w : World) :
    Calls cx.P f (args.map (·.conc ρ ι0)).toArray w fun e w' => e = .returned (.bool true) ∧ Below w.heap.size w w' := by
  obtain ⟨x, h1, h2⟩ := isTrue_get (ρ := ρ) hx
  have hc := call_ok ok hS hB hpc h1
  refine (hc (ownK w) w ι0 w (by rw [hG]; exact HR.start ρ w ι0 (hBw w)) hsc).mono ?_
  rintro e w' ⟨ι', _, _, H, _, _, rfl⟩
  rw [h2]
  exact ⟨by simp [SVal.conc, Tm.den], H.grown⟩

theorem conj_den (ρ : Env) : ∀ l : List Tm, (∀ t ∈ l, (t.den ρ).asBool = true) → ((l.foldr mkAnd (.bit true)).den ρ).asBool = true
  | [], _ => rfl
  | t :: l, h => by
    rw [List.foldr_cons, mkAnd_den, h t (by simp), conj_den ρ l (fun u hu => h u (by simp [hu]))]
    rfl

theorem names_of {P : Program} (h : (P.funcs.toList.all fun fn => !(fn.name == "runtime.NumGoroutine")) = true) : ∀ (f : Nat) (fn : Func), P.funcs[f]? = some fn → (fn.name == "runtime.NumGoroutine") = false := by
  intro f fn hf
  have := List.all_eq_true.1 h fn (Array.mem_toList_iff.2 (Array.mem_of_getElem? hf))
  simpa using this

end
end Go.Sx

/- What is known of functions that answer by numbers, truths and texts alone. -/
namespace Go.Sx
noncomputable section
open Go.RowKit

section
variable {ρ ρ' : Env} {G : Globs} {K : Nat → Prop} {w0 w w' : World} {ι : Nm} {h : Heap}

/-- Nothing that was there is changed. -/
theorem HR.framed (H : HR ρ G K w0 ι h w) (hos : w'.os = w.os) (htape : w'.tape = w.tape) (hout : w'.output = w.output) (hsz : w.heap.size ≤ w'.heap.size)
    (hk : ∀ k, k < w.heap.size → w'.heap[k]? = w.heap[k]?) : HR ρ G K w0 ι h w' := by
  refine ⟨hos.trans H.os, htape.trans H.tape, hout.trans H.output, Nat.le_trans H.size hsz, ?_, H.old, H.base, ?_, H.inj, H.globs⟩
  · intro k hK
    have := H.old k hK
    have := H.size
    rw [hk k (by omega)]; exact H.kept k hK
  · intro n b hb
    obtain ⟨h1, h2, h4⟩ := H.blocks n b hb
    exact ⟨h1, Blk.Ok.still (K' := K) h2 (fun q hq => hk q (H.footLt hb hq)) (fun q hq => hk q (by have := H.old q hq; have := H.size; omega)) H.base, h4⟩

/-- Behind whatever leaves all that was there alone. -/
theorem HR.under (H : HR ρ G K w0 ι h w) (hb : Below w.heap.size w w') : HR ρ G K w0 ι h w' :=
  H.framed hb.os hb.tape hb.output hb.size hb.block

/-- The cells of variables at package level hang on nothing. -/
def Globs.Closed (G : Globs) : Prop := ∀ g cs, (g, cs) ∈ G → ∀ (ρ ρ' : Env) (ι : Nm), cs.concL ρ ι = cs.concL ρ' ι

/-- A FUNCTION OF SCALARS: what holds with nothing on the heap holds with any heap. -/
theorem CallOk.lift {P : Program} {f : FuncId} {args args' : List SVal} {x' : Res} {v : SVal} {pc : Tm} (hG : G.Closed) (hB : ∀ q, ρ'.ab.B q → ρ.ab.B q) (hc : CallOk ρ' G P f args' [] x') (ha' : ∀ u ∈ args', u.sc 0 = true)
    (he : ∀ ι, args.map (·.conc ρ ι) = args'.map (·.conc ρ' ι)) (hv : ∀ ι ι', v.conc ρ ι = x'.v.conc ρ' ι') (hsc : v.sc 0 = true) (hpc : (pc.den ρ).asBool = true) (h : Heap) :
    CallOk ρ G P f args h ⟨v, h, pc⟩ := by
  intro K w0 ι w H _
  have H0 : HR ρ' G (keepAll w ι []) w ι [] w := by
    have := H.part (h' := []) (by intro n b hb; simp at hb)
    refine ⟨this.os, this.tape, this.output, this.size, this.kept, this.old, fun q hq => this.base q (hB q hq), ?_, ?_, ?_⟩
    · intro n b hb; simp at hb
    · intro n m b c hb; simp at hb
    · intro g cs hg
      obtain ⟨h1, h2, arr, t, fz, h3, h4⟩ := this.globs g cs hg
      exact ⟨h1, h2, arr, t, fz, h3, by rw [h4]; exact hG g cs hg ρ ρ' ι⟩
  have := hc (keepAll w ι []) w ι w H0 ha'
  rw [he ι]
  refine this.mono ?_
  rintro e w' ⟨ι', _, _, H', _, _, rfl⟩
  have hkeep : ∀ k, k < w.heap.size → keepAll w ι [] k := fun k hk => ⟨hk, by intro n b hb; simp at hb⟩
  refine ⟨ι, Nm.Ext.refl _ _, Nat.le_refl _, ?_, SVal.sc_mono (Nat.zero_le _) _ hsc, hpc, by rw [hv ι ι']⟩
  exact H.framed H'.os H'.tape H'.output H'.size (fun k hk => H'.kept k (hkeep k hk))
end

/-! ### Patterns of arguments -/

/-- The terms that stand in a value at the places of a pattern's variables. -/
def matchV : SVal → SVal → Option (List Tm)
  | .int k (.var _), .int k' t => if k = k' then some [t] else none
  | .bool (.var _), .bool t => some [t]
  | .str (.var _), .str t => some [t]
  | .agg a, .agg b => matchV a b
  | .cons a r, .cons b s => match matchV a b, matchV r s with
    | some x, some y => some (x ++ y)
    | _, _ => none
  | .nil, .nil => some []
  | _, _ => none

/-- The pattern's variables, in order. -/
def patVars : SVal → List Nat
  | .int _ (.var i) => [i]
  | .bool (.var i) => [i]
  | .str (.var i) => [i]
  | .agg a => patVars a
  | .cons a r => patVars a ++ patVars r
  | _ => []

def Tm.ofList : List Tm → Tm
  | [] => .nil
  | a :: r => .cons a (Tm.ofList r)

theorem Tm.ofList_den (ρ : Env) : ∀ l : List Tm, ((Tm.ofList l).den ρ).asList = l.map (·.den ρ)
  | [] => rfl
  | a :: r => by simp [Tm.ofList, Tm.den, Tm.ofList_den ρ r]

/-- An environment in which variables are some scalars. -/
def envA (ab : Abs) (f : Nat → List Sc → Sc) (l : List Sc) : Env := ⟨fun i => l.getD i (.int 0), f, fun _ => undef, ab⟩
abbrev envOf (f : Nat → List Sc → Sc) (l : List Sc) : Env := envA Abs.no f l

theorem matchV_len : ∀ (q a : SVal) (zs : List Tm), matchV q a = some zs → zs.length = (patVars q).length := by
  intro q
  induction q with
  | int k t => intro a zs hz; cases t <;> cases a <;> simp [matchV] at hz; obtain ⟨_, rfl⟩ := hz; simp [patVars]
  | bool t => intro a zs hz; cases t <;> cases a <;> simp [matchV] at hz; subst hz; simp [patVars]
  | str t => intro a zs hz; cases t <;> cases a <;> simp [matchV] at hz; subst hz; simp [patVars]
  | agg q ih => intro a zs hz; cases a <;> simp [matchV] at hz; exact ih _ _ hz
  | cons q r ihq ihr =>
    intro a zs hz
    cases a with
    | cons b s =>
      simp only [matchV] at hz
      split at hz
      · rename_i u v hu hv; simp at hz; subst hz; simp [patVars, ihq _ _ hu, ihr _ _ hv]
      · cases hz
    | _ => simp [matchV] at hz
  | nil => intro a zs hz; cases a <;> simp [matchV] at hz; subst hz; simp [patVars]
  | _ => intro a zs hz; simp [matchV] at hz

theorem matchV_conc {ρ : Env} {ι : Nm} {f : Nat → List Sc → Sc} : ∀ (p a : SVal) (ts : List Tm) (L : List Sc), matchV p a = some ts → (∀ (j i : Nat), (patVars p)[j]? = some i → ∃ t : Tm, ts[j]? = some t ∧ L.getD i (.int 0) = t.den ρ) →
    a.conc ρ ι = p.conc (envOf f L) ι ∧ a.concL ρ ι = p.concL (envOf f L) ι := by
  intro p
  induction p with
  | int k t =>
    intro a ts L hm hL
    cases t with
    | var i =>
      cases a with
      | int k' u =>
        simp only [matchV] at hm
        split at hm
        · rename_i hk; subst hk
          simp at hm; subst hm
          obtain ⟨t, ht, hi⟩ := hL 0 i (by simp [patVars])
          simp at ht; subst ht
          exact ⟨by simp only [SVal.conc, Tm.den, envOf, envA]; rw [hi], by simp [SVal.concL]⟩
        · cases hm
      | _ => simp [matchV] at hm
    | _ => cases a <;> simp [matchV] at hm
  | bool t =>
    intro a ts L hm hL
    cases t with
    | var i =>
      cases a with
      | bool u =>
        simp only [matchV, Option.some.injEq] at hm
        subst hm
        obtain ⟨t, ht, hi⟩ := hL 0 i (by simp [patVars])
        simp at ht; subst ht
        exact ⟨by simp only [SVal.conc, Tm.den, envOf, envA]; rw [hi], by simp [SVal.concL]⟩
      | _ => simp [matchV] at hm
    | _ => cases a <;> simp [matchV] at hm
  | str t =>
    intro a ts L hm hL
    cases t with
    | var i =>
      cases a with
      | str u =>
        simp only [matchV, Option.some.injEq] at hm
        subst hm
        obtain ⟨t, ht, hi⟩ := hL 0 i (by simp [patVars])
        simp at ht; subst ht
        exact ⟨by simp only [SVal.conc, Tm.den, envOf, envA]; rw [hi], by simp [SVal.concL]⟩
      | _ => simp [matchV] at hm
    | _ => cases a <;> simp [matchV] at hm
  | agg p ih =>
    intro a ts L hm hL
    cases a with
    | agg b =>
      obtain ⟨h1, h2⟩ := ih b ts L hm hL
      exact ⟨by simp [SVal.conc, h2], by simp [SVal.concL]⟩
    | _ => simp [matchV] at hm
  | cons p r ihp ihr =>
    intro a ts L hm hL
    cases a with
    | cons b s =>
      simp only [matchV] at hm
      split at hm
      · rename_i x y hx hy
        simp at hm; subst hm
        have hx' := matchV_len p b x hx
        obtain ⟨h1, h2⟩ := ihp b x L hx (by
          intro j i hj
          have hjlt := (List.getElem?_eq_some_iff.1 hj).1
          obtain ⟨t, ht, hi⟩ := hL j i (by simp only [patVars]; rw [List.getElem?_append_left hjlt]; exact hj)
          rw [List.getElem?_append_left (by omega)] at ht
          exact ⟨t, ht, hi⟩)
        obtain ⟨k1, k2⟩ := ihr s y L hy (by
          intro j i hj
          obtain ⟨t, ht, hi⟩ := hL ((patVars p).length + j) i (by simp only [patVars]; rw [List.getElem?_append_right (by omega)]; simpa using hj)
          rw [List.getElem?_append_right (by omega)] at ht
          exact ⟨t, by rwa [hx', Nat.add_sub_cancel_left] at ht, hi⟩)
        exact ⟨by simp [SVal.conc], by simp [SVal.concL, h1, k2]⟩
      · cases hm
    | _ => simp [matchV] at hm
  | nil =>
    intro a ts L hm hL
    cases a <;> simp [matchV] at hm
    subst hm
    exact ⟨rfl, rfl⟩
  | _ => intro a ts L hm; simp [matchV] at hm

/-- A function's answer by its arguments' terms. -/
def specOf (pat : SVal) (res : Tm → SVal) : Spec := fun args h pc =>
  match matchV pat (SVal.ofList args) with
  | some ts => .leaf ⟨res (Tm.ofList ts), h, pc⟩
  | none => .fail "arguments"

/-- WHAT IS KNOWN OF A FUNCTION OF SCALARS: the pattern has the variables 0, 1, ..; for all scalars the function, with nothing on the heap, gives what the signs say. -/
theorem specOf_ok {cx : Cx} {ρ : Env} {f : FuncId} {pat : SVal} {res : Tm → SVal} (hG : Globs.Closed cx.globs) (hpv : patVars pat = List.range (patVars pat).length) (hps : ∀ u ∈ pat.toList, u.sc 0 = true)
    (hrs : ∀ t, (res t).sc 0 = true)
    (hf : ∀ L : List Sc, L.length = (patVars pat).length → ∃ x', CallOk (envOf ρ.f L) cx.globs cx.P f pat.toList [] x' ∧ ∀ (t : Tm) (ι ι' : Nm), (t.den ρ).asList = L → (res t).conc ρ ι = x'.v.conc (envOf ρ.f L) ι') :
    ∀ args h pc x, (pc.den ρ).asBool = true → (specOf pat res args h pc).get ρ = some x → CallOk ρ cx.globs cx.P f args h x := by
  intro args h pc x hpc hx
  unfold specOf at hx
  split at hx
  · rename_i ts hts
    simp only [Tree.get, Option.some.injEq] at hx
    subst hx
    have hden := Tm.ofList_den ρ ts
    have hlen := matchV_len _ _ _ hts
    obtain ⟨x', hc, hr⟩ := hf (ts.map (·.den ρ)) (by simp [hlen])
    have hm : ∀ ι, (SVal.ofList args).concL ρ ι = pat.concL (envOf ρ.f (ts.map (·.den ρ))) ι := by
      intro ι
      refine (matchV_conc (ρ := ρ) (ι := ι) (f := ρ.f) pat (SVal.ofList args) ts (ts.map (·.den ρ)) hts ?_).2
      intro j i hj
      rw [hpv] at hj
      obtain ⟨hlt, he⟩ := List.getElem?_eq_some_iff.1 hj
      simp at he
      subst he
      simp at hlt
      have : j < ts.length := by omega
      exact ⟨ts[j], List.getElem?_eq_getElem this, by simp [List.getD, this]⟩
    refine CallOk.lift hG (fun _ h => False.elim h) hc hps ?_ ?_ (hrs _) hpc h
    · intro ι
      have := hm ι
      rw [SVal.concL_ofList, SVal.concL_toList] at this
      exact this
    · intro ι ι'
      exact hr _ ι ι' hden
  · simp [Tree.get] at hx

end
end Go.Sx

/- What calls with given arguments answer, once run, is not run again. -/
namespace Go.Sx
noncomputable section
open Go.RowKit

/-- A function, and what it answers to given arguments: it leaves no trace on the heap. -/
def memoT (l : List (List SVal × SVal)) : Spec := fun args h pc =>
  match l.find? (fun p => decide (p.1 = args)) with
  | some p => .leaf ⟨p.2, h, pc⟩
  | none => .fail "not known"

def memoS (f : Nat) (l : List (List SVal × SVal)) : Specs := fun g => match Nat.beq g f with | true => some (memoT l) | false => none

/-- Does the call answer so? -/
def memoB (cx : Cx) (n : Nat) (f : Nat) (p : List SVal × SVal) : Bool :=
  match callT cx noS (run cx noS n) f p.1 [] (.bit true) with
  | .leaf r => decide (r.v = p.2)
  | _ => false

theorem ext_zero (ι ι' : Nm) : Nm.Ext 0 ι ι' := fun m hm => absurd hm (Nat.not_lt_zero m)

theorem memo_ok {ρ : Env} {cx : Cx} (ok : cx.Ok) (hG : Globs.Closed cx.globs) {n f : Nat} {l : List (List SVal × SVal)} (hb : ∀ p ∈ l, memoB cx n f p = true)
    (hsc : (l.all fun p => p.1.all (·.sc 0) && p.2.sc 0) = true) : (memoS f l).Ok ρ cx := by
  intro g sp hg args h pc x hpc hx
  unfold memoS at hg
  split at hg
  · rename_i hgf
    obtain rfl : g = f := Nat.eq_of_beq_eq_true hgf
    simp only [Option.some.injEq] at hg
    subst hg
    unfold memoT at hx
    split at hx
    · rename_i p hp
      have hm := List.mem_of_find?_eq_some hp
      have he : p.1 = args := by simpa using List.find?_some hp
      simp only [Tree.get, Option.some.injEq] at hx
      subst hx
      subst he
      have hs := List.all_eq_true.1 hsc p hm
      simp only [Bool.and_eq_true] at hs
      have h1 := hb p hm
      unfold memoB at h1
      split at h1
      · rename_i r hr
        have hv : r.v = p.2 := of_decide_eq_true h1
        have hc : CallOk ρ cx.globs cx.P g p.1 [] r := call_ok ok (noS_ok ρ cx) (noS_body cx) (pc := .bit true) rfl (by rw [hr]; rfl)
        exact hc.lift hG (fun _ hq => hq) (List.all_eq_true.1 hs.1) (fun _ => rfl) (fun ι ι' => by rw [hv]; exact (SVal.conc_ext (ext_zero ι' ι) p.2 hs.2).1) hs.2 hpc h
      · cases h1
    · simp [Tree.get] at hx
  · cases hg

/-- Does the call answer so, with what is known of others? -/
def memoC (cx : Cx) (S : Specs) (n : Nat) (f : Nat) (p : List SVal × SVal) : Bool :=
  match callT cx S (run cx S n) f p.1 [] (.bit true) with
  | .leaf r => decide (r.v = p.2)
  | _ => false

theorem memoC_ok {ρ : Env} {cx : Cx} (ok : cx.Ok) (hG : Globs.Closed cx.globs) {S : Specs} (hS : S.Ok ρ cx) (hSb : ∀ g, S g ≠ none → ∃ fn c, cx.P.funcs[g]? = some fn ∧ fn.body = some c) {n f : Nat} {l : List (List SVal × SVal)} (hb : ∀ p ∈ l, memoC cx S n f p = true)
    (hsc : (l.all fun p => p.1.all (·.sc 0) && p.2.sc 0) = true) : (memoS f l).Ok ρ cx := by
  intro g sp hg args h pc x hpc hx
  unfold memoS at hg
  split at hg
  · rename_i hgf
    obtain rfl : g = f := Nat.eq_of_beq_eq_true hgf
    simp only [Option.some.injEq] at hg
    subst hg
    unfold memoT at hx
    split at hx
    · rename_i p hp
      have hm := List.mem_of_find?_eq_some hp
      have he : p.1 = args := by simpa using List.find?_some hp
      simp only [Tree.get, Option.some.injEq] at hx
      subst hx
      subst he
      have hs := List.all_eq_true.1 hsc p hm
      simp only [Bool.and_eq_true] at hs
      have h1 := hb p hm
      unfold memoC at h1
      split at h1
      · rename_i r hr
        have hv : r.v = p.2 := of_decide_eq_true h1
        have hc : CallOk ρ cx.globs cx.P g p.1 [] r := call_ok ok hS hSb (pc := .bit true) rfl (by rw [hr]; rfl)
        exact hc.lift hG (fun _ hq => hq) (List.all_eq_true.1 hs.1) (fun _ => rfl) (fun ι ι' => by rw [hv]; exact (SVal.conc_ext (ext_zero ι' ι) p.2 hs.2).1) hs.2 hpc h
      · cases h1
    · simp [Tree.get] at hx
  · cases hg

theorem memo_body {cx : Cx} {f : Nat} {l : List (List SVal × SVal)} (hf : ∃ fn c, cx.P.funcs[f]? = some fn ∧ fn.body = some c) : ∀ g, memoS f l g ≠ none → ∃ fn c, cx.P.funcs[g]? = some fn ∧ fn.body = some c := by
  intro g hg
  unfold memoS at hg
  split at hg
  · rename_i hgf
    obtain rfl : g = f := Nat.eq_of_beq_eq_true hgf
    exact hf
  · exact (hg rfl).elim
/-- Both are known. -/
def orS (a b : Specs) : Specs := fun g => match a g with | some s => some s | none => b g

theorem orS_ok {ρ : Env} {cx : Cx} {a b : Specs} (ha : a.Ok ρ cx) (hb : b.Ok ρ cx) : (orS a b).Ok ρ cx := by
  intro g sp hg
  unfold orS at hg
  split at hg
  · rename_i s hs
    obtain rfl := Option.some.inj hg
    exact ha g s hs
  · exact hb g sp hg

theorem orS_body {cx : Cx} {a b : Specs} (ha : ∀ g, a g ≠ none → ∃ fn c, cx.P.funcs[g]? = some fn ∧ fn.body = some c) (hb : ∀ g, b g ≠ none → ∃ fn c, cx.P.funcs[g]? = some fn ∧ fn.body = some c) :
    ∀ g, orS a b g ≠ none → ∃ fn c, cx.P.funcs[g]? = some fn ∧ fn.body = some c := by
  intro g hg
  unfold orS at hg
  split at hg
  · rename_i s hs
    exact ha g (by rw [hs]; simp)
  · exact hb g hg
end
end Go.Sx

/- strings.Join of texts that are known, by its contract. -/
namespace Go.Sx
noncomputable section
open Go.RowKit

/-- Texts that stand in cells. -/
def textsOf (cs : SVal) : Nat → Nat → Option (List (List UInt8))
  | _, 0 => some []
  | off, n + 1 => match cs.nth off with
    | some (.str (.text s)) => match textsOf cs (off + 1) n with
      | some r => some (s :: r)
      | none => none
    | _ => none

/-- Texts, one behind the other, a text between them. -/
def joinF : List (List UInt8) → List UInt8 → List UInt8
  | [], _ => []
  | x :: r, sep => x ++ r.flatMap (fun y => sep ++ y)

theorem joinF_eq (xs : List (List UInt8)) (sep : List UInt8) : joinF xs sep = Lib.join xs sep := by
  match xs with
  | [] => rfl
  | x :: r =>
    rw [Lib.join_cons]
    show x ++ _ = x ++ _
    congr 1

def joinT : Spec := fun args h pc => match args with
  | [.slice b off n c, .str (.text sep)] => match h[b]? with
    | some (some blk) => match blk.isReal && (roomT h 1 n c && Nat.ble n 1000) with
      | true => match textsOf blk.cells off n with
        | some xs => match Nat.ble (joinF xs sep).length 1000000 with
          | true => .leaf ⟨.str (.text (joinF xs sep)), h, pc⟩
          | false => .fail "long"
        | none => .fail "no texts"
      | false => .fail "no room"
    | _ => .fail "no block"
  | _ => .fail "join"
def joinSp (f : Nat) : Specs := fun g => match Nat.beq g f with | true => some joinT | false => none

/-- What strings.Join does. -/
structure JoinOk (P : Program) (f : Nat) : Prop where
  all : ∀ (bk o c : Nat) (xs : List ByteArray) (sep : ByteArray) (w : World), (∀ (j : Nat) x, xs[j]? = some x → w.cell? ⟨bk, o + j, none⟩ = some (.string x)) → bk < w.heap.size → xs.length ≤ 140737488355328 → xs.length ≤ c → (Lib.join (xs.map (·.data.toList)) sep.data.toList).length ≤ 140737488355328 →
    Calls P f #[.slice (some ⟨bk, o, none⟩) xs.length c, .string sep] w fun e w' => e = .returned (.string ⟨(Lib.join (xs.map (·.data.toList)) sep.data.toList).toArray⟩) ∧ Below w.heap.size w w'

theorem textsOf_spec {cs : SVal} : ∀ (n off : Nat) (xs : List (List UInt8)), textsOf cs off n = some xs → xs.length = n ∧ ∀ j s, xs[j]? = some s → cs.nth (off + j) = some (.str (.text s))
  | 0, off, xs, h => by
    simp only [textsOf, Option.some.injEq] at h
    subst h
    exact ⟨rfl, fun j s hj => by simp at hj⟩
  | n + 1, off, xs, h => by
    unfold textsOf at h
    split at h
    · rename_i s hs
      split at h
      · rename_i r hr
        simp only [Option.some.injEq] at h
        subst h
        obtain ⟨h1, h2⟩ := textsOf_spec n (off + 1) r hr
        refine ⟨by simp [h1], fun j t hj => ?_⟩
        match j with
        | 0 => simp at hj; subst hj; exact hs
        | j + 1 =>
          simp only [List.getElem?_cons_succ] at hj
          have := h2 j t hj
          rw [← this]; congr 1; omega
      · cases h
    · cases h

theorem joinSp_ok {ρ : Env} {cx : Cx} {f : Nat} (J : JoinOk cx.P f) : (joinSp f).Ok ρ cx := by
  intro g sp hg args h pc x hpc hx
  unfold joinSp at hg
  split at hg
  · rename_i hgf
    obtain rfl : g = f := Nat.eq_of_beq_eq_true hgf
    simp only [Option.some.injEq] at hg
    subst hg
    unfold joinT at hx
    split at hx
    · rename_i b off n c sep
      split at hx
      · rename_i blk hb
        split at hx
        · rename_i hc
          simp only [Bool.and_eq_true] at hc
          obtain ⟨hreal, hroom, hn⟩ := hc
          have hn : n ≤ 1000 := Nat.le_of_ble_eq_true hn
          split at hx
          · rename_i xs hxs
            split at hx
            · rename_i hl
              have hl : (joinF xs sep).length ≤ 1000000 := Nat.le_of_ble_eq_true hl
              simp only [Tree.get, Option.some.injEq] at hx
              subst hx
              obtain ⟨hlen, hcell⟩ := textsOf_spec n off xs hxs
              intro K w0 ι w H _
              have ha : blk.abs = none := by
                unfold Blk.isReal at hreal
                cases he : blk.abs with
                | none => rfl
                | some q => rw [he] at hreal; cases hreal
              obtain ⟨_, _, ⟨cs, hw, hf⟩, _⟩ := H.real hb ha
              obtain ⟨rest, hst⟩ := hf.starts
              have hbk : ι.blk b < w.heap.size := (Array.getElem?_eq_some_iff.1 hw).1
              have hcap := roomT_ok H hroom
              let ys : List ByteArray := xs.map fun s => ⟨s.toArray⟩
              have hyl : ys.length = n := by simp [ys, hlen]
              have hyd : ys.map (·.data.toList) = xs := by simp [ys, Function.comp_def]
              have hcells : ∀ (j : Nat) (y : ByteArray), ys[j]? = some y → w.cell? ⟨ι.blk b, off + j, none⟩ = some (.string y) := by
                intro j y hj
                simp only [ys, List.getElem?_map, Option.map_eq_some_iff] at hj
                obtain ⟨s, hs, rfl⟩ := hj
                have h1 := hcell j s hs
                have h2 : (blk.cells.concL ρ ι)[off + j]? = some (.string ⟨s.toArray⟩) := by
                  rw [SVal.concL_nth, h1]; rfl
                have h3 : cs[off + j]? = some (.string ⟨s.toArray⟩) := by
                  rw [← Array.getElem?_toList, hst, List.getElem?_append_left (List.getElem?_eq_some_iff.1 h2).1, h2]
                simp only [World.cell?, hw]
                simpa using h3
              have hj := J.all (ι.blk b) off (c.ev ι) ys ⟨sep.toArray⟩ w hcells hbk (by omega) (by rw [hyl]; exact hcap) (by rw [hyd, ← joinF_eq]; exact Nat.le_trans hl (by decide))
              rw [hyl, hyd, ← joinF_eq] at hj
              clear hcells hcell hst hf hw hxs hl
              generalize joinF xs sep = js at hj ⊢
              refine Calls.mono (R := _) (show Calls cx.P g ([SVal.slice b off n c, SVal.str (.text sep)].map (·.conc ρ ι)).toArray w _ from hj) ?_
              rintro e w' ⟨rfl, hB⟩
              exact ⟨ι, Nm.Ext.refl _ _, Nat.le_refl _, H.under hB, rfl, hpc, rfl⟩
            · simp [Tree.get] at hx
          · simp [Tree.get] at hx
        · simp [Tree.get] at hx
      · simp [Tree.get] at hx
    · simp [Tree.get] at hx
  · cases hg

theorem joinSp_body {cx : Cx} {f : Nat} (hf : ∃ fn c, cx.P.funcs[f]? = some fn ∧ fn.body = some c) : ∀ g, joinSp f g ≠ none → ∃ fn c, cx.P.funcs[g]? = some fn ∧ fn.body = some c := by
  intro g hg
  unfold joinSp at hg
  split at hg
  · rename_i hgf
    obtain rfl : g = f := Nat.eq_of_beq_eq_true hgf
    exact hf
  · exact (hg rfl).elim
end
end Go.Sx

/- Structs of numbers and truths, by value: opened and shut. -/
namespace Go.Sx
noncomputable section
open Go.ChangeShapes Go.WideShapes Go.RowKit Go.Joins Go.Deep

/-- What stands in the cells: numbers of a kind, or truths. -/
def flatKinds (P : Program) : List Field → Option (List (Option IntKind))
  | [] => some []
  | f :: r => match P.underlying f.type, flatKinds P r with
    | some (.int k), some l => some (some k :: l)
    | some .bool, some l => some (none :: l)
    | _, _ => none

def Fit : Option IntKind → Value → Prop
  | some k, v => ∃ n, v = .int k n ∧ (Lit.int k n).wf = true
  | none, v => ∃ b, v = .bool b

theorem flatKinds_at {P : Program} : ∀ {l : List Field} {ks : List (Option IntKind)}, flatKinds P l = some ks → l.length = ks.length ∧ ∀ (j : Nat) (f : Field), l[j]? = some f →
    (∃ k, ks[j]? = some (some k) ∧ P.underlying f.type = some (.int k)) ∨ (ks[j]? = some none ∧ P.underlying f.type = some .bool)
  | [], ks, h => by simp [flatKinds] at h; subst h; simp
  | f :: r, ks, h => by
    unfold flatKinds at h
    split at h
    · rename_i k l hu hr
      simp at h; subst h
      obtain ⟨h1, h2⟩ := flatKinds_at hr
      refine ⟨by simp [h1], ?_⟩
      intro j g hj
      cases j with
      | zero => simp at hj; subst hj; exact .inl ⟨k, by simp, hu⟩
      | succ j => simpa using h2 j g (by simpa using hj)
    · rename_i l hu hr
      simp at h; subst h
      obtain ⟨h1, h2⟩ := flatKinds_at hr
      refine ⟨by simp [h1], ?_⟩
      intro j g hj
      cases j with
      | zero => simp at hj; subst hj; exact .inr ⟨by simp, hu⟩
      | succ j => simpa using h2 j g (by simpa using hj)
    · cases h

theorem mapM_points {α β : Type} (g : α → Option β) : ∀ (l : List α) (xs : List β), xs.length = l.length → (∀ (j : Nat) a, l[j]? = some a → g a = xs[j]?) → l.mapM g = some xs
  | [], [], _, _ => by simp
  | [], _ :: _, h, _ => by simp at h
  | _ :: _, [], h, _ => by simp at h
  | a :: l, x :: xs, h, hp => by
    have h0 := hp 0 a (by simp)
    have hr := mapM_points g l xs (by simpa using h) (fun j b hj => by simpa using hp (j + 1) b (by simpa using hj))
    simp at h0
    simp [List.mapM_cons, h0, hr]

section
variable {H : Type} {enc : TypeId × Value → H} {P : Program} {w : World} {base : Nat} {spare : Nat → Bool} {held : Bool}

/-- A STRUCT OF NUMBERS AND TRUTHS, BY VALUE: what it is; it is read the same in every world. -/
theorem open_flat {r : Reach} {b0 : Nat} {t : TypeId} {fs : Array Field} {ks : List (Option IntKind)} {v : Value} {d : DataW H} {p : List MemPlace} (hs : P.underlying t = some (.struct fs)) (hone : oneCellFields P fs = true)
    (hC : P.cellsOf t = fs.size) (hk : flatKinds P fs.toList = some ks) (hv : Value.okWide P w r b0 t v) (h : DataW.Trod enc P w base spare held t v d p) :
    ∃ vs : List Value, v = .agg vs.toArray ∧ vs.length = ks.length ∧ (∀ (j : Nat) k, ks[j]? = some k → ∃ u, vs[j]? = some u ∧ Fit k u) ∧ p = [] ∧
      ∀ (w' : World) (base' : Nat) (spare' : Nat → Bool) (held' : Bool), DataW.Trod enc P w' base' spare' held' t v d [] := by
  obtain ⟨cs, rfl, hsz⟩ := okWide_struct hs hv
  obtain ⟨l⟩ := cs
  obtain ⟨fuel, hf⟩ := h
  obtain ⟨xs, n, _, hx, hl, hlen, hg⟩ := DataW.trod_struct hs hf
  obtain ⟨hk1, hk2⟩ := flatKinds_at hk
  simp only [Prod.mk.injEq] at hx
  have hll : l.length = fs.size := by simpa using hsz.trans hC
  have key : ∀ (j : Nat) (f : Field), fs[j]? = some f → ∃ (u : Value) (y : DataW H × List MemPlace), l[j]? = some u ∧ xs[j]? = some y ∧ y.2 = [] ∧ (∀ k, ks[j]? = some k → Fit k u) ∧ ((l.drop f.offset).take (P.cellsOf f.type)) = [u] ∧
      ∀ (w' : World) (base' : Nat) (spare' : Nat → Bool) (held' : Bool), DataW.trod enc P w' base' spare' held' 1 f.type [u] = some y := by
    intro j f hj
    obtain ⟨o, k⟩ := hone_of hone j f hj
    have hjl : j < fs.size := (Array.getElem?_eq_some_iff.1 hj).1
    have h1 := hg j f hj
    have hone' : (l.drop f.offset).take (P.cellsOf f.type) = [l[j]'(by omega)] := by
      rw [o, k, List.drop_eq_getElem_cons (by omega)]; rfl
    simp only [Value.cells] at h1
    rw [hone'] at h1
    have hxj : xs[j]? = some (xs[j]'(by omega)) := List.getElem?_eq_getElem (by omega)
    rw [hxj] at h1
    refine ⟨_, _, List.getElem?_eq_getElem (by omega), hxj, ?_⟩
    rcases hk2 j f (by simpa using hj) with ⟨k, e1, e2⟩ | ⟨e1, e2⟩
    · obtain ⟨n', g1, g2, g3⟩ := DataW.trod_int e2 h1
      simp only [List.cons.injEq, and_true] at g1
      refine ⟨by rw [g2], ?_, hone', ?_⟩
      · intro k' hk'; rw [e1] at hk'; simp at hk'; subst hk'; exact ⟨n', g1, g3⟩
      · intro w' base' spare' held'; rw [g1, g2]; simp [DataW.trod, e2, g3]
    · obtain ⟨b, g1, g2⟩ := DataW.trod_bool e2 h1
      simp only [List.cons.injEq, and_true] at g1
      refine ⟨by rw [g2], ?_, hone', ?_⟩
      · intro k' hk'; rw [e1] at hk'; simp at hk'; subst hk'; exact ⟨b, g1⟩
      · intro w' base' spare' held'; rw [g1, g2]; simp [DataW.trod, e2]
  have hfm : xs.flatMap (·.2) = [] := by
    rw [List.flatMap_eq_nil_iff]
    intro y hy
    obtain ⟨j, hj, rfl⟩ := List.getElem_of_mem hy
    obtain ⟨u, y', _, g2, g3, _⟩ := key j (fs[j]'(by omega)) (Array.getElem?_eq_getElem (by omega))
    rw [List.getElem?_eq_getElem hj] at g2
    simp at g2; rw [g2]; exact g3
  refine ⟨l, rfl, by simp at hk1; omega, ?_, by rw [hx.2, hfm], ?_⟩
  · intro j k hjk
    have hj : j < ks.length := (List.getElem?_eq_some_iff.1 hjk).1
    simp at hk1
    obtain ⟨u, y, g1, _, _, g4, _⟩ := key j (fs[j]'(by omega)) (Array.getElem?_eq_getElem (by omega))
    exact ⟨u, g1, g4 k hjk⟩
  · intro w' base' spare' held'
    refine ⟨2, ?_⟩
    have := trod_struct_mk (enc := enc) (w := w') (base := base') (spare := spare') (held := held') (n := 1) (cs := l) (xs := xs) hs (by omega) (mapM_points _ _ _ (by simpa using hlen) (by
      intro j f hj
      obtain ⟨u, y, _, g2, _, _, g5, g6⟩ := key j f (by simpa using hj)
      rw [g5, g6, g2]))
    rw [hfm] at this
    rw [hx.1]
    simpa [Value.cells] using this
end

end
end Go.Sx
