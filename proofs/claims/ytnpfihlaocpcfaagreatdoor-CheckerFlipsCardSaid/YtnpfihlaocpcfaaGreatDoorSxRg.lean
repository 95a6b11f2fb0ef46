/- What is known of functions of scalars, where these are within their kinds. -/
import Derived.Test.YtnpfihlaocpcfaaGreatDoorSxFlat
import Derived.Test.YtnpfihlaocpcfaaGreatDoorSxPxF
namespace Go.Sx
noncomputable section
open Go.RowKit

/-- A term that is within a kind, by its form. -/
def Tm.inK (k : IntKind) : Tm → Bool
  | .var _ => decide (k = .i64)
  | .num n => decide (k.wrap n = n)
  | .op1 (.conv j) _ => decide (j = k)
  | .op1 (.compl j) _ => decide (j = k)
  | .op2 (.add j) _ _ => decide (j = k)
  | .op2 (.sub j) _ _ => decide (j = k)
  | .op2 (.mul j) _ _ => decide (j = k)
  | .op2 (.quo j) _ _ => decide (j = k)
  | .op2 (.and j) _ _ => decide (j = k)
  | .op2 (.or j) _ _ => decide (j = k)
  | .op2 (.xor j) _ _ => decide (j = k)
  | .op2 (.andNot j) _ _ => decide (j = k)
  | .op2 (.shl j) _ _ => decide (j = k)
  | .op2 (.shr _) a _ => a.inK k
  | .ite _ a b => a.inK k && b.inK k
  | .app _ _ => decide (k = .i64)
  | _ => false

/-- Variables and signs are within 64 bits. -/
structure VarsOk (ρ : Env) : Prop where
  v : ∀ i, kHas .i64 (ρ.v i).asInt
  f : ∀ g ss, kHas .i64 (ρ.f g ss).asInt

theorem shr_has {k : IntKind} {n : Int} (h : kHas k n) (m : Nat) : kHas k (n.fdiv (2 ^ m)) := by
  have hp : (0 : Int) < 2 ^ m := Int.pow_pos (by omega)
  rw [Int.fdiv_eq_ediv_of_nonneg _ (Int.le_of_lt hp)]
  have key : ∀ a b : Int, a ≤ 0 → 0 ≤ b → a ≤ n → n < b → a ≤ n / 2 ^ m ∧ n / 2 ^ m < b := by
    intro a b ha hb h1 h2
    have m1 : (2 : Int) ^ m ≥ 1 := by omega
    constructor
    · rw [Int.le_ediv_iff_mul_le hp]
      have : -a * 1 ≤ -a * 2 ^ m := Int.mul_le_mul_of_nonneg_left m1 (by omega)
      rw [Int.neg_mul, Int.neg_mul] at this
      omega
    · apply Int.ediv_lt_of_lt_mul hp
      have : b * 1 ≤ b * 2 ^ m := Int.mul_le_mul_of_nonneg_left m1 hb
      omega
  have p1 : (0 : Int) < 2 ^ (k.bits - 1) := Int.pow_pos (by omega)
  have p2 : (0 : Int) < 2 ^ k.bits := Int.pow_pos (by omega)
  unfold kHas at h ⊢
  split
  · rename_i hs
    rw [hs] at h
    exact key _ _ (by omega) (by omega) h.1 h.2
  · rename_i hs
    rw [hs] at h
    exact key _ _ (by omega) (by omega) h.1 h.2

theorem inK_ok {ρ : Env} (V : VarsOk ρ) (k : IntKind) : ∀ t : Tm, t.inK k = true → kHas k (t.den ρ).asInt := by
  intro t
  induction t with
  | var i => intro h; simp only [Tm.inK, decide_eq_true_eq] at h; subst h; exact V.v i
  | num n => intro h; simp only [Tm.inK, decide_eq_true_eq] at h; simp only [Tm.den, Sc.asInt_int]; rw [← h]; exact wrap_has k n
  | op1 o a ih =>
    intro h
    cases o with
    | conv j => simp only [Tm.inK, decide_eq_true_eq] at h; subst h; exact wrap_has _ _
    | compl j => simp only [Tm.inK, decide_eq_true_eq] at h; subst h; exact wrap_has _ _
    | not => simp [Tm.inK] at h
    | slen => simp [Tm.inK] at h
    | llen => simp [Tm.inK] at h
    | nth i => simp [Tm.inK] at h
    | chr => simp [Tm.inK] at h
  | op2 o a b iha ihb =>
    intro h
    cases o with
    | add j => simp only [Tm.inK, decide_eq_true_eq] at h; subst h; exact wrap_has _ _
    | sub j => simp only [Tm.inK, decide_eq_true_eq] at h; subst h; exact wrap_has _ _
    | mul j => simp only [Tm.inK, decide_eq_true_eq] at h; subst h; exact wrap_has _ _
    | quo j => simp only [Tm.inK, decide_eq_true_eq] at h; subst h; exact wrap_has _ _
    | and j => simp only [Tm.inK, decide_eq_true_eq] at h; subst h; exact wrap_has _ _
    | or j => simp only [Tm.inK, decide_eq_true_eq] at h; subst h; exact wrap_has _ _
    | xor j => simp only [Tm.inK, decide_eq_true_eq] at h; subst h; exact wrap_has _ _
    | andNot j => simp only [Tm.inK, decide_eq_true_eq] at h; subst h; exact wrap_has _ _
    | shl j => simp only [Tm.inK, decide_eq_true_eq] at h; subst h; exact wrap_has _ _
    | shr j =>
      have ha := iha (by simpa [Tm.inK] using h)
      simp only [Tm.den, Op2.ev, Sc.asInt_int, shrOp]
      exact shr_has ha _
    | _ => simp [Tm.inK] at h
  | ite c a b ihc iha ihb =>
    intro h
    simp only [Tm.inK, Bool.and_eq_true] at h
    simp only [Tm.den]
    split
    · exact iha h.1
    · exact ihb h.2
  | app g a ih => intro h; simp only [Tm.inK, decide_eq_true_eq] at h; subst h; exact V.f _ _
  | _ => intro h; simp [Tm.inK] at h

/-- All numbers of a value are within their kinds. -/
def SVal.inR : SVal → Bool
  | .int k t => t.inK k
  | .agg l => l.inR
  | .cons a r => a.inR && r.inR
  | _ => true

/-- The numbers of a pattern are within their kinds. -/
def patHas (L : List Sc) : SVal → Prop
  | .int k (.var i) => kHas k (L.getD i (.int 0)).asInt
  | .agg l => patHas L l
  | .cons a r => patHas L a ∧ patHas L r
  | _ => True

theorem matchV_has {ρ : Env} (V : VarsOk ρ) : ∀ (p a : SVal) (ts : List Tm) (L : List Sc), matchV p a = some ts → a.inR = true →
    (∀ (j i : Nat), (patVars p)[j]? = some i → ∃ t : Tm, ts[j]? = some t ∧ L.getD i (.int 0) = t.den ρ) → patHas L p := by
  intro p
  induction p with
  | int k t =>
    intro a ts L hm hr hL
    cases t with
    | var i =>
      cases a with
      | int k' u =>
        simp only [matchV] at hm
        split at hm
        · rename_i hk; subst hk
          simp at hm; subst hm
          obtain ⟨t, ht, hi⟩ := hL 0 i (by simp [patVars])
          simp at ht; subst ht
          simp only [patHas, hi]
          exact inK_ok V k _ hr
        · cases hm
      | _ => simp [matchV] at hm
    | _ => trivial
  | agg p ih =>
    intro a ts L hm hr hL
    cases a with
    | agg b => exact ih b ts L hm hr hL
    | _ => simp [matchV] at hm
  | cons p r ihp ihr =>
    intro a ts L hm hr hL
    cases a with
    | cons b s =>
      simp only [matchV] at hm
      split at hm
      · rename_i x y hx hy
        simp at hm; subst hm
        simp only [SVal.inR, Bool.and_eq_true] at hr
        have hx' := matchV_len p b x hx
        refine ⟨ihp b x L hx hr.1 ?_, ihr s y L hy hr.2 ?_⟩
        · intro j i hj
          have hjlt := (List.getElem?_eq_some_iff.1 hj).1
          obtain ⟨t, ht, hi⟩ := hL j i (by simp only [patVars]; rw [List.getElem?_append_left hjlt]; exact hj)
          rw [List.getElem?_append_left (by omega)] at ht
          exact ⟨t, ht, hi⟩
        · intro j i hj
          obtain ⟨t, ht, hi⟩ := hL ((patVars p).length + j) i (by simp only [patVars]; rw [List.getElem?_append_right (by omega)]; simpa using hj)
          rw [List.getElem?_append_right (by omega)] at ht
          exact ⟨t, by rwa [hx', Nat.add_sub_cancel_left] at ht, hi⟩
      · cases hm
    | _ => simp [matchV] at hm
  | _ => intros; trivial

/-- A function's answer by its arguments' terms, where these are within their kinds. -/
def specR (pat : SVal) (res : Tm → SVal) : Spec := fun args h pc =>
  match (SVal.ofList args).inR with
  | true => specOf pat res args h pc
  | false => .fail "a number that may be beyond its kind"

theorem specR_ok {cx : Cx} {ρ : Env} {f : FuncId} {pat : SVal} {res : Tm → SVal} (V : VarsOk ρ) (hG : Globs.Closed cx.globs) (hpv : patVars pat = List.range (patVars pat).length) (hps : ∀ u ∈ pat.toList, u.sc 0 = true)
    (hrs : ∀ t, (res t).sc 0 = true)
    (hf : ∀ L : List Sc, L.length = (patVars pat).length → patHas L pat → ∃ ρ' x', ρ'.ab = Abs.no ∧ CallOk ρ' cx.globs cx.P f pat.toList [] x' ∧ (∀ ι, pat.concL ρ' ι = pat.concL (envOf ρ.f L) ι) ∧
      ∀ (t : Tm) (ι ι' : Nm), (t.den ρ).asList = L → (res t).conc ρ ι = x'.v.conc ρ' ι') :
    ∀ args h pc x, (pc.den ρ).asBool = true → (specR pat res args h pc).get ρ = some x → CallOk ρ cx.globs cx.P f args h x := by
  intro args h pc x hpc hx
  unfold specR at hx
  split at hx
  · rename_i hr
    unfold specOf at hx
    split at hx
    · rename_i ts hts
      simp only [Tree.get, Option.some.injEq] at hx
      subst hx
      have hden := Tm.ofList_den ρ ts
      have hlen := matchV_len _ _ _ hts
      have hL : ∀ (j i : Nat), (patVars pat)[j]? = some i → ∃ t : Tm, ts[j]? = some t ∧ (ts.map (·.den ρ)).getD i (.int 0) = t.den ρ := by
        intro j i hj
        rw [hpv] at hj
        obtain ⟨hlt, he⟩ := List.getElem?_eq_some_iff.1 hj
        simp at he
        subst he
        simp at hlt
        have : j < ts.length := by omega
        exact ⟨ts[j], List.getElem?_eq_getElem this, by simp [List.getD, this]⟩
      obtain ⟨ρ', x', hno, hc, he, hr'⟩ := hf (ts.map (·.den ρ)) (by simp [hlen]) (matchV_has V pat _ ts _ hts hr hL)
      have hm : ∀ ι, (SVal.ofList args).concL ρ ι = pat.concL (envOf ρ.f (ts.map (·.den ρ))) ι := by
        intro ι
        exact (matchV_conc (ρ := ρ) (ι := ι) (f := ρ.f) pat (SVal.ofList args) ts (ts.map (·.den ρ)) hts hL).2
      refine CallOk.lift hG (fun q h => by rw [hno] at h; exact False.elim h) hc hps ?_ ?_ (hrs _) hpc h
      · intro ι
        have := hm ι
        rw [← he ι, SVal.concL_ofList, SVal.concL_toList] at this
        exact this
      · intro ι ι'
        exact hr' _ ι ι' hden
    · simp [Tree.get] at hx
  · simp [Tree.get] at hx

/-- The same, where something must be so. -/
def specC (pat : SVal) (cond : List Tm → List Tm) (res : Tm → SVal) : Spec := fun args h pc =>
  match (SVal.ofList args).inR with
  | true => match matchV pat (SVal.ofList args) with
    | some ts => Tree.must (cond ts) (.leaf ⟨res (Tm.ofList ts), h, pc⟩)
    | none => .fail "arguments"
  | false => .fail "a number that may be beyond its kind"

theorem specC_ok {cx : Cx} {ρ : Env} {f : FuncId} {pat : SVal} {cond : List Tm → List Tm} {res : Tm → SVal} (V : VarsOk ρ) (hG : Globs.Closed cx.globs) (hpv : patVars pat = List.range (patVars pat).length) (hps : ∀ u ∈ pat.toList, u.sc 0 = true)
    (hrs : ∀ t, (res t).sc 0 = true)
    (hf : ∀ ts : List Tm, ts.length = (patVars pat).length → patHas (ts.map (·.den ρ)) pat → (∀ c ∈ cond ts, (c.den ρ).asBool = true) → ∃ ρ' x', ρ'.ab = Abs.no ∧ CallOk ρ' cx.globs cx.P f pat.toList [] x' ∧ (∀ ι, pat.concL ρ' ι = pat.concL (envOf ρ.f (ts.map (·.den ρ))) ι) ∧
      ∀ (t : Tm) (ι ι' : Nm), (t.den ρ).asList = ts.map (·.den ρ) → (res t).conc ρ ι = x'.v.conc ρ' ι') :
    ∀ args h pc x, (pc.den ρ).asBool = true → (specC pat cond res args h pc).get ρ = some x → CallOk ρ cx.globs cx.P f args h x := by
  intro args h pc x hpc hx
  unfold specC at hx
  split at hx
  · rename_i hr
    split at hx
    · rename_i ts hts
      obtain ⟨hx, hcond⟩ := Tree.get_must ρ _ _ _ hx
      simp only [Tree.get, Option.some.injEq] at hx
      subst hx
      have hden := Tm.ofList_den ρ ts
      have hlen := matchV_len _ _ _ hts
      have hL : ∀ (j i : Nat), (patVars pat)[j]? = some i → ∃ t : Tm, ts[j]? = some t ∧ (ts.map (·.den ρ)).getD i (.int 0) = t.den ρ := by
        intro j i hj
        rw [hpv] at hj
        obtain ⟨hlt, he⟩ := List.getElem?_eq_some_iff.1 hj
        simp at he
        subst he
        simp at hlt
        have : j < ts.length := by omega
        exact ⟨ts[j], List.getElem?_eq_getElem this, by simp [List.getD, this]⟩
      obtain ⟨ρ', x', hno, hc, he, hr'⟩ := hf ts hlen (matchV_has V pat _ ts _ hts hr hL) hcond
      have hm : ∀ ι, (SVal.ofList args).concL ρ ι = pat.concL (envOf ρ.f (ts.map (·.den ρ))) ι := by
        intro ι
        exact (matchV_conc (ρ := ρ) (ι := ι) (f := ρ.f) pat (SVal.ofList args) ts (ts.map (·.den ρ)) hts hL).2
      refine CallOk.lift hG (fun q h => by rw [hno] at h; exact False.elim h) hc hps ?_ ?_ (hrs _) hpc h
      · intro ι
        have := hm ι
        rw [← he ι, SVal.concL_ofList, SVal.concL_toList] at this
        exact this
      · intro ι ι'
        exact hr' _ ι ι' hden
    · simp [Tree.get] at hx
  · simp [Tree.get] at hx

/-- A function that leaves the world alone. -/
theorem callOk_of_same {ρ : Env} {G : Globs} {P : Program} {f : FuncId} {args : List SVal} {v : SVal} (hsc : v.sc 0 = true)
    (h : ∀ (ι : Nm) (w : World), Calls P f (args.map (·.conc ρ ι)).toArray w fun e w' => e = .returned (v.conc ρ ι) ∧ w' = w) : CallOk ρ G P f args [] ⟨v, [], .bit true⟩ := by
  intro K w0 ι w H _
  refine (h ι w).mono ?_
  rintro e w' ⟨rfl, rfl⟩
  exact ⟨ι, Nm.Ext.refl _ _, Nat.le_refl _, H, SVal.sc_mono (Nat.zero_le _) _ hsc, rfl, rfl⟩

/-- A law that is walked, and found true by the decider, returns true. -/
theorem law_px {ρ : Env} {cx : Cx} (ok : cx.Ok) {S : Specs} (hS : S.Ok ρ cx) (hB : ∀ f, S f ≠ none → ∃ fn c, cx.P.funcs[f]? = some fn ∧ fn.body = some c) {fuel : Nat} {f : FuncId} {args : List SVal} {pc : Tm}
    (hsc : ∀ v ∈ args, v.sc 0 = true) (hpc : (pc.den ρ).asBool = true) {sg : Sg} (so : sg.Ok ρ) {e : Kn} (hs : Sats ρ e) (hx : pxTree sg (callT cx S (run cx S fuel) f args [] pc) e = true) (w : World)
    (hG : HR ρ cx.globs (ownK w) w ι0 [] w) :
    Calls cx.P f (args.map (·.conc ρ ι0)).toArray w fun e w' => e = .returned (.bool true) ∧ Below w.heap.size w w' := by
  obtain ⟨x, b, h1, h2, h3⟩ := pxTree_ok so _ _ hs hx
  have hc := call_ok ok hS hB hpc h1
  refine (hc (ownK w) w ι0 w hG hsc).mono ?_
  rintro e w' ⟨ι', _, _, H, _, _, rfl⟩
  rw [h2]
  exact ⟨by simp [SVal.conc, h3], H.grown⟩

/-- A term that is within a kind, by its head alone. -/
def Tm.headK (k : IntKind) : Tm → Bool
  | .op1 (.conv j) _ => decide (j = k)
  | .op2 (.add j) _ _ => decide (j = k)
  | .op2 (.and j) _ _ => decide (j = k)
  | .op2 (.or j) _ _ => decide (j = k)
  | _ => false

theorem headK_ok (ρ : Env) (k : IntKind) (t : Tm) (h : t.headK k = true) : kHas k (t.den ρ).asInt := by
  unfold Tm.headK at h
  split at h <;> first | (simp only [decide_eq_true_eq] at h; subst h; exact wrap_has _ _) | cases h

/-- A tree that is one leaf with a number. -/
def leafInt (k : IntKind) : Tree Res → Option Tm
  | .leaf x => match x.v with
    | .int k' t => if k' = k then some t else none
    | _ => none
  | _ => none

theorem leafInt_get {k : IntKind} {t : Tree Res} {u : Tm} (ρ : Env) (h : leafInt k t = some u) : ∃ x, t.get ρ = some x ∧ x.v = .int k u := by
  unfold leafInt at h
  split at h
  · rename_i x
    split at h
    · rename_i k' u' hv
      split at h
      · rename_i hk; subst hk; simp only [Option.some.injEq] at h; subst h; exact ⟨x, rfl, hv⟩
      · cases h
    · cases h
  · cases h

def Sc.norm (s : Sc) : Sc := .int s.asInt

theorem popB_le : ∀ (k : Nat) (n : Int), popB k n ≤ k
  | 0, _ => Nat.le_refl _
  | k + 1, n => by have := popB_le k (n / 2); simp only [popB]; split <;> omega

theorem popI_has (n : Int) : kHas .i64 (popI n : Int) := by
  have := popB_le 64 n
  show -2 ^ 63 ≤ ((popB 64 n : Nat) : Int) ∧ ((popB 64 n : Nat) : Int) < 2 ^ 63
  omega

theorem wf_has {k : IntKind} {n : Int} (h : (Lit.int k n).wf = true) : kHas k n := by
  simp only [Lit.wf, Bool.and_eq_true, decide_eq_true_eq] at h
  unfold kHas
  cases k <;> simp_all [IntKind.min, IntKind.max, IntKind.signed, IntKind.bits] <;> omega

/-- Nothing is known but that numbers are of 64 bits. -/
theorem Sats.start {ρ : Env} (V : VarsOk ρ) (ik : List Nat) (h : ∀ x ∈ ik, ∃ n, ρ.v x = .int n) : Sats ρ ⟨[], [], [], [], ik⟩ := by
  refine ⟨⟨?_, ?_, ?_, ?_⟩, h⟩
  · intro x
    have : -2 ^ 63 ≤ (ρ.v x).asInt ∧ (ρ.v x).asInt < 2 ^ 63 := V.v x
    exact Rng.all_ok (by omega) (by omega)
  · intro x b hb; simp at hb
  · intro x i t hm; cases hm
  · intro l a b hm; cases hm

/-! ### Numbers as answers -/

/-- The tree's answer is a number, the one that a term is. -/
def pxInt (sg : Sg) (k : IntKind) (u : Tm) : Tree Res → Kn → Bool
  | .leaf x, e => match x.v with
    | .int k' t => decide (k' = k) && pxT sg (.op2 .eq t u) e fun _ => true
    | _ => false
  | .ite c a b, e => ev sg (evN sg 5) none c e fun v e => drive 100 e (fun e => truthV e v) fun r e => match r with
    | some true => pxInt sg k u a e
    | some false => pxInt sg k u b e
    | none => false
  | .assert c t, e => pxT sg c e (fun _ => true) && pxInt sg k u t e
  | .fail _, _ => false

theorem pxInt_ok {ρ : Env} {sg : Sg} (so : sg.Ok ρ) {k : IntKind} {u : Tm} : ∀ (t : Tree Res) (e : Kn), Sats ρ e → pxInt sg k u t e = true → ∃ x b, t.get ρ = some x ∧ x.v = .int k b ∧ (b.den ρ).asInt = (u.den ρ).asInt
  | .leaf x, e, S, h => by
    unfold pxInt at h
    split at h
    · rename_i k' b hb
      simp only [Bool.and_eq_true, decide_eq_true_eq] at h
      obtain ⟨rfl, h⟩ := h
      have := (pxT_ok so S h).1
      simp only [Tm.den, Op2.ev, Sc.asBool_bool, beq_iff_eq] at this
      exact ⟨x, b, rfl, hb, this⟩
    · cases h
  | .ite c a b, e, S, h => by
    unfold pxInt at h
    obtain ⟨e1, v, S1, hv, h⟩ := ev_ok so 5 c S h
    obtain ⟨e2, r, S2, h, hr⟩ := truth_drive S1 hv h
    split at h
    · obtain ⟨x, t, h1, h2, h3⟩ := pxInt_ok so a e2 S2 h
      exact ⟨x, t, by simp only [Tree.get, hr true rfl]; exact h1, h2, h3⟩
    · obtain ⟨x, t, h1, h2, h3⟩ := pxInt_ok so b e2 S2 h
      exact ⟨x, t, by simp only [Tree.get, hr false rfl]; exact h1, h2, h3⟩
    · cases h
  | .assert c a, e, S, h => by
    unfold pxInt at h
    simp only [Bool.and_eq_true] at h
    obtain ⟨h0, _⟩ := pxT_ok so S h.1
    obtain ⟨x, t, h1, h2, h3⟩ := pxInt_ok so a e S h.2
    exact ⟨x, t, by simp only [Tree.get, h0]; exact h1, h2, h3⟩
  | .fail w, e, S, h => by simp [pxInt] at h

/-! ### Signs -/

/-- All signs of a term are some. -/
def Tm.signs (P : Nat → Bool) : Tm → Bool
  | .op1 _ a => a.signs P
  | .op2 _ a b => a.signs P && b.signs P
  | .ite c a b => c.signs P && a.signs P && b.signs P
  | .cons a b => a.signs P && b.signs P
  | .app g a => P g && a.signs P
  | _ => true

theorem den_congr {P : Nat → Bool} {η η' : Env} (hv : η.v = η'.v) (hf : ∀ g, P g = true → η.f g = η'.f g) : ∀ t : Tm, t.signs P = true → t.den η = t.den η' := by
  intro t
  induction t with
  | var i => intro _; simp only [Tm.den, hv]
  | op1 o a ih => intro h; simp only [Tm.den, ih h]
  | op2 o a b iha ihb => intro h; simp only [Tm.signs, Bool.and_eq_true] at h; simp only [Tm.den, iha h.1, ihb h.2]
  | ite c a b ihc iha ihb => intro h; simp only [Tm.signs, Bool.and_eq_true] at h; simp only [Tm.den, ihc h.1.1, iha h.1.2, ihb h.2]
  | cons a b iha ihb => intro h; simp only [Tm.signs, Bool.and_eq_true] at h; simp only [Tm.den, iha h.1, ihb h.2]
  | app g a ih => intro h; simp only [Tm.signs, Bool.and_eq_true] at h; simp only [Tm.den, ih h.2, hf g h.1]
  | _ => intro _; rfl

theorem CallOk.args {ρ : Env} {G : Globs} {P : Program} {f : FuncId} {args args' : List SVal} {h : Heap} {x : Res} (hc : CallOk ρ G P f args h x) (hs : ∀ v ∈ args, v.sc h.length = true)
    (he : ∀ ι, args.map (·.conc ρ ι) = args'.map (·.conc ρ ι)) : CallOk ρ G P f args' h x := by
  intro K w0 ι w H _
  rw [← he ι]
  exact hc K w0 ι w H hs

theorem Sats.tell {ρ : Env} {e : Kn} (S : Sats ρ e) (s : Sp) {b : Bool} (h : s.holds ρ = b) : Sats ρ (e.tell s b) := by
  subst h
  exact ⟨tell_ok S.sat s, by rw [tell_ik]; exact S.ints⟩

end
end Go.Sx
