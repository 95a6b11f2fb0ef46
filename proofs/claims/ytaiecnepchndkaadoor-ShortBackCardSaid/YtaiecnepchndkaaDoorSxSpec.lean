/- What is known of functions that answer by numbers, truths and texts alone. -/
import Derived.Test.YtaiecnepchndkaaDoorSxUse
namespace Go.Sx
open Go.RowKit

section
variable {ρ ρ' : Env} {G : Globs} {K : Nat → Prop} {w0 w w' : World} {ι : Nm} {h : Heap}

/-- Nothing that was there is changed. -/
theorem HR.framed (H : HR ρ G K w0 ι h w) (hos : w'.os = w.os) (htape : w'.tape = w.tape) (hout : w'.output = w.output) (hsz : w.heap.size ≤ w'.heap.size)
    (hk : ∀ k, k < w.heap.size → w'.heap[k]? = w.heap[k]?) (hf : ∀ a : Addr, w.heap.size ≤ a.block → w'.frozen? a = false) : HR ρ G K w0 ι h w' := by
  refine ⟨hos.trans H.os, htape.trans H.tape, hout.trans H.output, Nat.le_trans H.size hsz, ?_, H.old, ?_, ?_, H.inj, H.globs⟩
  · intro k hK
    have := H.old k hK
    have := H.size
    rw [hk k (by omega)]; exact H.kept k hK
  · intro a ha
    by_cases hlt : a.block < w.heap.size
    · have := H.free a ha
      simp only [World.frozen?, hk _ hlt] at this ⊢
      exact this
    · exact hf a (by omega)
  · intro n b hb
    obtain ⟨h1, ⟨cs, h2, h3⟩, h4⟩ := H.blocks n b hb
    exact ⟨h1, ⟨cs, by rw [hk _ (H.lt hb)]; exact h2, h3⟩, h4⟩

/-- The cells of variables at package level hang on nothing. -/
def Globs.Closed (G : Globs) : Prop := ∀ g cs, (g, cs) ∈ G → ∀ (ρ ρ' : Env) (ι : Nm), cs.concL ρ ι = cs.concL ρ' ι

/-- A FUNCTION OF SCALARS: what holds with nothing on the heap holds with any heap. -/
theorem CallOk.lift {P : Program} {f : FuncId} {args args' : List SVal} {x' : Res} {v : SVal} {pc : Tm} (hG : G.Closed) (hc : CallOk ρ' G P f args' [] x') (ha' : ∀ u ∈ args', u.sc 0 = true)
    (he : ∀ ι, args.map (·.conc ρ ι) = args'.map (·.conc ρ' ι)) (hv : ∀ ι ι', v.conc ρ ι = x'.v.conc ρ' ι') (hsc : v.sc 0 = true) (hpc : (pc.den ρ).asBool = true) (h : Heap) :
    CallOk ρ G P f args h ⟨v, h, pc⟩ := by
  intro K w0 ι w H _
  have H0 : HR ρ' G (keepAll w ι []) w ι [] w := by
    have := H.part (h' := []) (by intro n b hb; simp at hb)
    refine ⟨this.os, this.tape, this.output, this.size, this.kept, this.old, this.free, ?_, ?_, ?_⟩
    · intro n b hb; simp at hb
    · intro n m b c hb; simp at hb
    · intro g cs hg
      obtain ⟨h1, h2, arr, t, fz, h3, h4⟩ := this.globs g cs hg
      exact ⟨h1, h2, arr, t, fz, h3, by rw [h4]; exact hG g cs hg ρ ρ' ι⟩
  have := hc (keepAll w ι []) w ι w H0 ha'
  rw [he ι]
  refine this.mono ?_
  rintro e w' ⟨ι', _, _, H', _, _, rfl⟩
  have hkeep : ∀ k, k < w.heap.size → keepAll w ι [] k := fun k hk => ⟨hk, by intro n b hb; simp at hb⟩
  refine ⟨ι, Nm.Ext.refl _ _, Nat.le_refl _, ?_, SVal.sc_mono (Nat.zero_le _) _ hsc, hpc, by rw [hv ι ι']⟩
  refine H.framed H'.os H'.tape H'.output H'.size (fun k hk => H'.kept k (hkeep k hk)) (fun a ha => H'.free a ?_)
  rintro ⟨h1, _⟩
  omega
end

/-! ### Patterns of arguments -/

/-- The terms that stand in a value at the places of a pattern's variables. -/
def matchV : SVal → SVal → Option (List Tm)
  | .int k (.var _), .int k' t => if k = k' then some [t] else none
  | .bool (.var _), .bool t => some [t]
  | .str (.var _), .str t => some [t]
  | .agg a, .agg b => matchV a b
  | .cons a r, .cons b s => match matchV a b, matchV r s with
    | some x, some y => some (x ++ y)
    | _, _ => none
  | .nil, .nil => some []
  | _, _ => none

/-- The pattern's variables, in order. -/
def patVars : SVal → List Nat
  | .int _ (.var i) => [i]
  | .bool (.var i) => [i]
  | .str (.var i) => [i]
  | .agg a => patVars a
  | .cons a r => patVars a ++ patVars r
  | _ => []

def Tm.ofList : List Tm → Tm
  | [] => .nil
  | a :: r => .cons a (Tm.ofList r)

theorem Tm.ofList_den (ρ : Env) : ∀ l : List Tm, ((Tm.ofList l).den ρ).asList = l.map (·.den ρ)
  | [] => rfl
  | a :: r => by simp [Tm.ofList, Tm.den, Tm.ofList_den ρ r]

/-- An environment in which variables are some scalars. -/
def envOf (f : Nat → List Sc → Sc) (l : List Sc) : Env := ⟨fun i => l.getD i (.int 0), f, fun _ => undef⟩

theorem matchV_len : ∀ (q a : SVal) (zs : List Tm), matchV q a = some zs → zs.length = (patVars q).length := by
  intro q
  induction q with
  | int k t => intro a zs hz; cases t <;> cases a <;> simp [matchV] at hz; obtain ⟨_, rfl⟩ := hz; simp [patVars]
  | bool t => intro a zs hz; cases t <;> cases a <;> simp [matchV] at hz; subst hz; simp [patVars]
  | str t => intro a zs hz; cases t <;> cases a <;> simp [matchV] at hz; subst hz; simp [patVars]
  | agg q ih => intro a zs hz; cases a <;> simp [matchV] at hz; exact ih _ _ hz
  | cons q r ihq ihr =>
    intro a zs hz
    cases a with
    | cons b s =>
      simp only [matchV] at hz
      split at hz
      · rename_i u v hu hv; simp at hz; subst hz; simp [patVars, ihq _ _ hu, ihr _ _ hv]
      · cases hz
    | _ => simp [matchV] at hz
  | nil => intro a zs hz; cases a <;> simp [matchV] at hz; subst hz; simp [patVars]
  | _ => intro a zs hz; simp [matchV] at hz

theorem matchV_conc {ρ : Env} {ι : Nm} {f : Nat → List Sc → Sc} : ∀ (p a : SVal) (ts : List Tm) (L : List Sc), matchV p a = some ts → (∀ (j i : Nat), (patVars p)[j]? = some i → ∃ t : Tm, ts[j]? = some t ∧ L.getD i (.int 0) = t.den ρ) →
    a.conc ρ ι = p.conc (envOf f L) ι ∧ a.concL ρ ι = p.concL (envOf f L) ι := by
  intro p
  induction p with
  | int k t =>
    intro a ts L hm hL
    cases t with
    | var i =>
      cases a with
      | int k' u =>
        simp only [matchV] at hm
        split at hm
        · rename_i hk; subst hk
          simp at hm; subst hm
          obtain ⟨t, ht, hi⟩ := hL 0 i (by simp [patVars])
          simp at ht; subst ht
          exact ⟨by simp only [SVal.conc, Tm.den, envOf]; rw [hi], by simp [SVal.concL]⟩
        · cases hm
      | _ => simp [matchV] at hm
    | _ => cases a <;> simp [matchV] at hm
  | bool t =>
    intro a ts L hm hL
    cases t with
    | var i =>
      cases a with
      | bool u =>
        simp only [matchV, Option.some.injEq] at hm
        subst hm
        obtain ⟨t, ht, hi⟩ := hL 0 i (by simp [patVars])
        simp at ht; subst ht
        exact ⟨by simp only [SVal.conc, Tm.den, envOf]; rw [hi], by simp [SVal.concL]⟩
      | _ => simp [matchV] at hm
    | _ => cases a <;> simp [matchV] at hm
  | str t =>
    intro a ts L hm hL
    cases t with
    | var i =>
      cases a with
      | str u =>
        simp only [matchV, Option.some.injEq] at hm
        subst hm
        obtain ⟨t, ht, hi⟩ := hL 0 i (by simp [patVars])
        simp at ht; subst ht
        exact ⟨by simp only [SVal.conc, Tm.den, envOf]; rw [hi], by simp [SVal.concL]⟩
      | _ => simp [matchV] at hm
    | _ => cases a <;> simp [matchV] at hm
  | agg p ih =>
    intro a ts L hm hL
    cases a with
    | agg b =>
      obtain ⟨h1, h2⟩ := ih b ts L hm hL
      exact ⟨by simp [SVal.conc, h2], by simp [SVal.concL]⟩
    | _ => simp [matchV] at hm
  | cons p r ihp ihr =>
    intro a ts L hm hL
    cases a with
    | cons b s =>
      simp only [matchV] at hm
      split at hm
      · rename_i x y hx hy
        simp at hm; subst hm
        have hx' := matchV_len p b x hx
        obtain ⟨h1, h2⟩ := ihp b x L hx (by
          intro j i hj
          have hjlt := (List.getElem?_eq_some_iff.1 hj).1
          obtain ⟨t, ht, hi⟩ := hL j i (by simp only [patVars]; rw [List.getElem?_append_left hjlt]; exact hj)
          rw [List.getElem?_append_left (by omega)] at ht
          exact ⟨t, ht, hi⟩)
        obtain ⟨k1, k2⟩ := ihr s y L hy (by
          intro j i hj
          obtain ⟨t, ht, hi⟩ := hL ((patVars p).length + j) i (by simp only [patVars]; rw [List.getElem?_append_right (by omega)]; simpa using hj)
          rw [List.getElem?_append_right (by omega)] at ht
          exact ⟨t, by rwa [hx', Nat.add_sub_cancel_left] at ht, hi⟩)
        exact ⟨by simp [SVal.conc], by simp [SVal.concL, h1, k2]⟩
      · cases hm
    | _ => simp [matchV] at hm
  | nil =>
    intro a ts L hm hL
    cases a <;> simp [matchV] at hm
    subst hm
    exact ⟨rfl, rfl⟩
  | _ => intro a ts L hm; simp [matchV] at hm

/-- A function's answer by its arguments' terms. -/
def specOf (pat : SVal) (res : Tm → SVal) : Spec := fun args h pc =>
  match matchV pat (SVal.ofList args) with
  | some ts => .leaf ⟨res (Tm.ofList ts), h, pc⟩
  | none => .fail "arguments"

/-- WHAT IS KNOWN OF A FUNCTION OF SCALARS: the pattern has the variables 0, 1, ..; for all scalars the function, with nothing on the heap, gives what the signs say. -/
theorem specOf_ok {cx : Cx} {ρ : Env} {f : FuncId} {pat : SVal} {res : Tm → SVal} (hG : Globs.Closed cx.globs) (hpv : patVars pat = List.range (patVars pat).length) (hps : ∀ u ∈ pat.toList, u.sc 0 = true)
    (hrs : ∀ t, (res t).sc 0 = true)
    (hf : ∀ L : List Sc, L.length = (patVars pat).length → ∃ x', CallOk (envOf ρ.f L) cx.globs cx.P f pat.toList [] x' ∧ ∀ (t : Tm) (ι ι' : Nm), (t.den ρ).asList = L → (res t).conc ρ ι = x'.v.conc (envOf ρ.f L) ι') :
    ∀ args h pc x, (pc.den ρ).asBool = true → (specOf pat res args h pc).get ρ = some x → CallOk ρ cx.globs cx.P f args h x := by
  intro args h pc x hpc hx
  unfold specOf at hx
  split at hx
  · rename_i ts hts
    simp only [Tree.get, Option.some.injEq] at hx
    subst hx
    have hden := Tm.ofList_den ρ ts
    have hlen := matchV_len _ _ _ hts
    obtain ⟨x', hc, hr⟩ := hf (ts.map (·.den ρ)) (by simp [hlen])
    have hm : ∀ ι, (SVal.ofList args).concL ρ ι = pat.concL (envOf ρ.f (ts.map (·.den ρ))) ι := by
      intro ι
      refine (matchV_conc (ρ := ρ) (ι := ι) (f := ρ.f) pat (SVal.ofList args) ts (ts.map (·.den ρ)) hts ?_).2
      intro j i hj
      rw [hpv] at hj
      obtain ⟨hlt, he⟩ := List.getElem?_eq_some_iff.1 hj
      simp at he
      subst he
      simp at hlt
      have : j < ts.length := by omega
      exact ⟨ts[j], List.getElem?_eq_getElem this, by simp [List.getD, this]⟩
    refine CallOk.lift hG hc hps ?_ ?_ (hrs _) hpc h
    · intro ι
      have := hm ι
      rw [SVal.concL_ofList, SVal.concL_toList] at this
      exact this
    · intro ι ι'
      exact hr _ ι ι' hden
  · simp [Tree.get] at hx

end Go.Sx
