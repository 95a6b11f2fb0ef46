/- For the seat: texts joined: SxFlat. -/
import Derived.Test.YthbdmlcbdibiiaaGreatDoorJSxSound10
import Derived.KernelRfl
import Derived.RowKit3
import Derived.Lib.SmallJoins
/- The executor's theorem, as it is used. -/
namespace Go.Sx
open Go.RowKit
def ownK (w : World) (k : Nat) : Prop := k < w.heap.size
theorem HR.start (ρ : Env) (w : World) (ι : Nm) (hB : ∀ q, ρ.ab.B q → ownK w q) : HR ρ [] (ownK w) w ι [] w := by
  refine ⟨rfl, rfl, rfl, Nat.le_refl _, fun _ _ => rfl, fun _ h => h, hB, ?_, ?_, ?_⟩
  · intro n b hb; simp at hb
  · intro n m b c hb; simp at hb
  · intro g cs hg; cases hg
theorem HR.grown {ρ : Env} {G : Globs} {w w' : World} {ι : Nm} {h : Heap} (H : HR ρ G (ownK w) w ι h w') : Below w.heap.size w w' :=
  ⟨H.os, H.tape, H.output, H.size, fun k hk => H.kept k hk⟩
def noS : Specs := fun _ => none
theorem noS_ok (ρ : Env) (cx : Cx) : noS.Ok ρ cx := by intro f sp h; cases h
theorem noS_body (cx : Cx) : ∀ f, noS f ≠ none → ∃ fn c, cx.P.funcs[f]? = some fn ∧ fn.body = some c := by intro f h; exact (h rfl).elim
def ι0 : Nm := ⟨fun _ => 0, fun _ => 0, fun _ => ⟨.int .i64 0, rfl⟩, fun _ _ => False⟩
theorem conj_den (ρ : Env) : ∀ l : List Tm, (∀ t ∈ l, (t.den ρ).asBool = true) → ((l.foldr mkAnd (.bit true)).den ρ).asBool = true
  | [], _ => rfl
  | t :: l, h => by
    rw [List.foldr_cons, mkAnd_den, h t (by simp), conj_den ρ l (fun u hu => h u (by simp [hu]))]
    rfl
theorem names_of {P : Program} (h : (P.funcs.toList.all fun fn => !(fn.name == "runtime.NumGoroutine")) = true) : ∀ (f : Nat) (fn : Func), P.funcs[f]? = some fn → (fn.name == "runtime.NumGoroutine") = false := by
  intro f fn hf
  have := List.all_eq_true.1 h fn (Array.mem_toList_iff.2 (Array.mem_of_getElem? hf))
  simpa using this
end Go.Sx
/- What is known of functions that answer by numbers, truths and texts alone. -/
namespace Go.Sx
open Go.RowKit
section
variable {ρ ρ' : Env} {G : Globs} {K : Nat → Prop} {w0 w w' : World} {ι : Nm} {h : Heap}
theorem HR.framed (H : HR ρ G K w0 ι h w) (hos : w'.os = w.os) (htape : w'.tape = w.tape) (hout : w'.output = w.output) (hsz : w.heap.size ≤ w'.heap.size)
    (hk : ∀ k, k < w.heap.size → w'.heap[k]? = w.heap[k]?) : HR ρ G K w0 ι h w' := by
  refine ⟨hos.trans H.os, htape.trans H.tape, hout.trans H.output, Nat.le_trans H.size hsz, ?_, H.old, H.base, ?_, H.inj, H.globs⟩
  · intro k hK
    have := H.old k hK
    have := H.size
    rw [hk k (by omega)]; exact H.kept k hK
  · intro n b hb
    obtain ⟨h1, h2, h4⟩ := H.blocks n b hb
    exact ⟨h1, Blk.Ok.still (K' := K) h2 (fun q hq => hk q (H.footLt hb hq)) (fun q hq => hk q (by have := H.old q hq; have := H.size; omega)) H.base, h4⟩
theorem HR.under (H : HR ρ G K w0 ι h w) (hb : Below w.heap.size w w') : HR ρ G K w0 ι h w' :=
  H.framed hb.os hb.tape hb.output hb.size hb.block
def Globs.Closed (G : Globs) : Prop := ∀ g cs, (g, cs) ∈ G → ∀ (ρ ρ' : Env) (ι : Nm), cs.concL ρ ι = cs.concL ρ' ι
theorem CallOk.lift {P : Program} {f : FuncId} {args args' : List SVal} {x' : Res} {v : SVal} {pc : Tm} (hG : G.Closed) (hB : ∀ q, ρ'.ab.B q → ρ.ab.B q) (hc : CallOk ρ' G P f args' [] x') (ha' : ∀ u ∈ args', u.sc 0 = true)
    (he : ∀ ι, args.map (·.conc ρ ι) = args'.map (·.conc ρ' ι)) (hv : ∀ ι ι', v.conc ρ ι = x'.v.conc ρ' ι') (hsc : v.sc 0 = true) (hpc : (pc.den ρ).asBool = true) (h : Heap) :
    CallOk ρ G P f args h ⟨v, h, pc⟩ := by
  intro K w0 ι w H _
  have H0 : HR ρ' G (keepAll w ι []) w ι [] w := by
    have := H.part (h' := []) (by intro n b hb; simp at hb)
    refine ⟨this.os, this.tape, this.output, this.size, this.kept, this.old, fun q hq => this.base q (hB q hq), ?_, ?_, ?_⟩
    · intro n b hb; simp at hb
    · intro n m b c hb; simp at hb
    · intro g cs hg
      obtain ⟨h1, h2, arr, t, fz, h3, h4⟩ := this.globs g cs hg
      exact ⟨h1, h2, arr, t, fz, h3, by rw [h4]; exact hG g cs hg ρ ρ' ι⟩
  have := hc (keepAll w ι []) w ι w H0 ha'
  rw [he ι]
  refine this.mono ?_
  rintro e w' ⟨ι', _, _, H', _, _, rfl⟩
  have hkeep : ∀ k, k < w.heap.size → keepAll w ι [] k := fun k hk => ⟨hk, by intro n b hb; simp at hb⟩
  refine ⟨ι, Nm.Ext.refl _ _, Nat.le_refl _, ?_, SVal.sc_mono (Nat.zero_le _) _ hsc, hpc, by rw [hv ι ι']⟩
  exact H.framed H'.os H'.tape H'.output H'.size (fun k hk => H'.kept k (hkeep k hk))
end
/-! ### Patterns of arguments -/
def matchV : SVal → SVal → Option (List Tm)
  | .int k (.var _), .int k' t => if k = k' then some [t] else none
  | .bool (.var _), .bool t => some [t]
  | .str (.var _), .str t => some [t]
  | .agg a, .agg b => matchV a b
  | .cons a r, .cons b s => match matchV a b, matchV r s with
    | some x, some y => some (x ++ y)
    | _, _ => none
  | .nil, .nil => some []
  | _, _ => none
def patVars : SVal → List Nat
  | .int _ (.var i) => [i]
  | .bool (.var i) => [i]
  | .str (.var i) => [i]
  | .agg a => patVars a
  | .cons a r => patVars a ++ patVars r
  | _ => []
def Tm.ofList : List Tm → Tm
  | [] => .nil
  | a :: r => .cons a (Tm.ofList r)
theorem Tm.ofList_den (ρ : Env) : ∀ l : List Tm, ((Tm.ofList l).den ρ).asList = l.map (·.den ρ)
  | [] => rfl
  | a :: r => by simp [Tm.ofList, Tm.den, Tm.ofList_den ρ r]
def envA (ab : Abs) (f : Nat → List Sc → Sc) (l : List Sc) : Env := ⟨fun i => l.getD i (.int 0), f, fun _ => undef, ab⟩
abbrev envOf (f : Nat → List Sc → Sc) (l : List Sc) : Env := envA Abs.no f l
theorem matchV_len : ∀ (q a : SVal) (zs : List Tm), matchV q a = some zs → zs.length = (patVars q).length := by
  intro q
  induction q with
  | int k t => intro a zs hz; cases t <;> cases a <;> simp [matchV] at hz; obtain ⟨_, rfl⟩ := hz; simp [patVars]
  | bool t => intro a zs hz; cases t <;> cases a <;> simp [matchV] at hz; subst hz; simp [patVars]
  | str t => intro a zs hz; cases t <;> cases a <;> simp [matchV] at hz; subst hz; simp [patVars]
  | agg q ih => intro a zs hz; cases a <;> simp [matchV] at hz; exact ih _ _ hz
  | cons q r ihq ihr =>
    intro a zs hz
    cases a with
    | cons b s =>
      simp only [matchV] at hz
      split at hz
      · rename_i u v hu hv; simp at hz; subst hz; simp [patVars, ihq _ _ hu, ihr _ _ hv]
      · cases hz
    | _ => simp [matchV] at hz
  | nil => intro a zs hz; cases a <;> simp [matchV] at hz; subst hz; simp [patVars]
  | _ => intro a zs hz; simp [matchV] at hz
theorem matchV_conc {ρ : Env} {ι : Nm} {f : Nat → List Sc → Sc} : ∀ (p a : SVal) (ts : List Tm) (L : List Sc), matchV p a = some ts → (∀ (j i : Nat), (patVars p)[j]? = some i → ∃ t : Tm, ts[j]? = some t ∧ L.getD i (.int 0) = t.den ρ) →
    a.conc ρ ι = p.conc (envOf f L) ι ∧ a.concL ρ ι = p.concL (envOf f L) ι := by
  intro p
  induction p with
  | int k t =>
    intro a ts L hm hL
    cases t with
    | var i =>
      cases a with
      | int k' u =>
        simp only [matchV] at hm
        split at hm
        · rename_i hk; subst hk
          simp at hm; subst hm
          obtain ⟨t, ht, hi⟩ := hL 0 i (by simp [patVars])
          simp at ht; subst ht
          exact ⟨by simp only [SVal.conc, Tm.den, envOf, envA]; rw [hi], by simp [SVal.concL]⟩
        · cases hm
      | _ => simp [matchV] at hm
    | _ => cases a <;> simp [matchV] at hm
  | bool t =>
    intro a ts L hm hL
    cases t with
    | var i =>
      cases a with
      | bool u =>
        simp only [matchV, Option.some.injEq] at hm
        subst hm
        obtain ⟨t, ht, hi⟩ := hL 0 i (by simp [patVars])
        simp at ht; subst ht
        exact ⟨by simp only [SVal.conc, Tm.den, envOf, envA]; rw [hi], by simp [SVal.concL]⟩
      | _ => simp [matchV] at hm
    | _ => cases a <;> simp [matchV] at hm
  | str t =>
    intro a ts L hm hL
    cases t with
    | var i =>
      cases a with
      | str u =>
        simp only [matchV, Option.some.injEq] at hm
        subst hm
        obtain ⟨t, ht, hi⟩ := hL 0 i (by simp [patVars])
        simp at ht; subst ht
        exact ⟨by simp only [SVal.conc, Tm.den, envOf, envA]; rw [hi], by simp [SVal.concL]⟩
      | _ => simp [matchV] at hm
    | _ => cases a <;> simp [matchV] at hm
  | agg p ih =>
    intro a ts L hm hL
    cases a with
    | agg b =>
      obtain ⟨h1, h2⟩ := ih b ts L hm hL
      exact ⟨by simp [SVal.conc, h2], by simp [SVal.concL]⟩
    | _ => simp [matchV] at hm
  | cons p r ihp ihr =>
    intro a ts L hm hL
    cases a with
    | cons b s =>
      simp only [matchV] at hm
      split at hm
      · rename_i x y hx hy
        simp at hm; subst hm
        have hx' := matchV_len p b x hx
        obtain ⟨h1, h2⟩ := ihp b x L hx (by
          intro j i hj
          have hjlt := (List.getElem?_eq_some_iff.1 hj).1
          obtain ⟨t, ht, hi⟩ := hL j i (by simp only [patVars]; rw [List.getElem?_append_left hjlt]; exact hj)
          rw [List.getElem?_append_left (by omega)] at ht
          exact ⟨t, ht, hi⟩)
        obtain ⟨k1, k2⟩ := ihr s y L hy (by
          intro j i hj
          obtain ⟨t, ht, hi⟩ := hL ((patVars p).length + j) i (by simp only [patVars]; rw [List.getElem?_append_right (by omega)]; simpa using hj)
          rw [List.getElem?_append_right (by omega)] at ht
          exact ⟨t, by rwa [hx', Nat.add_sub_cancel_left] at ht, hi⟩)
        exact ⟨by simp [SVal.conc], by simp [SVal.concL, h1, k2]⟩
      · cases hm
    | _ => simp [matchV] at hm
  | nil =>
    intro a ts L hm hL
    cases a <;> simp [matchV] at hm
    subst hm
    exact ⟨rfl, rfl⟩
  | _ => intro a ts L hm; simp [matchV] at hm
def specOf (pat : SVal) (res : Tm → SVal) : Spec := fun args h pc =>
  match matchV pat (SVal.ofList args) with
  | some ts => .leaf ⟨res (Tm.ofList ts), h, pc⟩
  | none => .fail "arguments"
end Go.Sx
/- Structs of numbers and truths, by value: opened and shut. -/
namespace Go.Sx
open Go.ChangeShapes Go.WideShapes Go.RowKit Go.Joins Go.Deep
def flatKinds (P : Program) : List Field → Option (List (Option IntKind))
  | [] => some []
  | f :: r => match P.underlying f.type, flatKinds P r with
    | some (.int k), some l => some (some k :: l)
    | some .bool, some l => some (none :: l)
    | _, _ => none
theorem flatKinds_at {P : Program} : ∀ {l : List Field} {ks : List (Option IntKind)}, flatKinds P l = some ks → l.length = ks.length ∧ ∀ (j : Nat) (f : Field), l[j]? = some f →
    (∃ k, ks[j]? = some (some k) ∧ P.underlying f.type = some (.int k)) ∨ (ks[j]? = some none ∧ P.underlying f.type = some .bool)
  | [], ks, h => by simp [flatKinds] at h; subst h; simp
  | f :: r, ks, h => by
    unfold flatKinds at h
    split at h
    · rename_i k l hu hr
      simp at h; subst h
      obtain ⟨h1, h2⟩ := flatKinds_at hr
      refine ⟨by simp [h1], ?_⟩
      intro j g hj
      cases j with
      | zero => simp at hj; subst hj; exact .inl ⟨k, by simp, hu⟩
      | succ j => simpa using h2 j g (by simpa using hj)
    · rename_i l hu hr
      simp at h; subst h
      obtain ⟨h1, h2⟩ := flatKinds_at hr
      refine ⟨by simp [h1], ?_⟩
      intro j g hj
      cases j with
      | zero => simp at hj; subst hj; exact .inr ⟨by simp, hu⟩
      | succ j => simpa using h2 j g (by simpa using hj)
    · cases h
section
variable {H : Type} {enc : TypeId × Value → H} {P : Program} {w : World} {base : Nat} {spare : Nat → Bool} {held : Bool}
end
end Go.Sx
