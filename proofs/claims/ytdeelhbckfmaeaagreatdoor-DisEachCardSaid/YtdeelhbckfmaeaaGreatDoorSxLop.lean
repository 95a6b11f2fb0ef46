/- Loops by what is so at their head: an invariant in terms of a variable that counts the rounds. -/
import Derived.Test.YtdeelhbckfmaeaaGreatDoorSxFlat
namespace Go.Sx
noncomputable section

/-! ### A variable's term -/

def repT (i : Nat) (r : Tm) : Tm → Tm
  | .var j => match Nat.beq j i with
    | true => r
    | false => .var j
  | .op1 o a => .op1 o (repT i r a)
  | .op2 o a b => .op2 o (repT i r a) (repT i r b)
  | .ite c a b => .ite (repT i r c) (repT i r a) (repT i r b)
  | .cons a b => .cons (repT i r a) (repT i r b)
  | .app g a => .app g (repT i r a)
  | t => t

def Env.set (ρ : Env) (i : Nat) (s : Sc) : Env := { ρ with v := fun j => match Nat.beq j i with | true => s | false => ρ.v j }

theorem Env.set_self {ρ : Env} {i : Nat} {s : Sc} (h : ρ.v i = s) : ρ.set i s = ρ := by
  obtain ⟨v, f, u, ab⟩ := ρ
  simp only at h
  have : (fun j => match Nat.beq j i with | true => s | false => v j) = v := by
    funext j
    cases hb : Nat.beq j i
    · rfl
    · rw [Nat.eq_of_beq_eq_true hb]
      exact h.symm
  simp only [Env.set, this]

theorem Env.set_set (ρ : Env) (i : Nat) (s t : Sc) : (ρ.set i s).set i t = ρ.set i t := by
  have : (fun j => match Nat.beq j i with | true => t | false => (match Nat.beq j i with | true => s | false => ρ.v j)) = (fun j => match Nat.beq j i with | true => t | false => ρ.v j) := by
    funext j
    cases Nat.beq j i <;> rfl
  simp only [Env.set, this]

theorem repT_den (ρ : Env) (i : Nat) (r : Tm) : ∀ t : Tm, (repT i r t).den ρ = t.den (ρ.set i (r.den ρ)) := by
  intro t
  induction t with
  | var j =>
    simp only [repT, Tm.den, Env.set]
    cases Nat.beq j i <;> rfl
  | op1 o a ih => simp only [repT, Tm.den, ih]
  | op2 o a b iha ihb => simp only [repT, Tm.den, iha, ihb]
  | ite c a b ihc iha ihb => simp only [repT, Tm.den, ihc, iha, ihb]
  | cons a b iha ihb => simp only [repT, Tm.den, iha, ihb]
  | app g a ih => simp only [repT, Tm.den, ih]; rfl
  | _ => rfl

/-! ### Values that match -/

/-- Two terms are the same, or told to be. -/
def eqE (E : List (Tm × Tm)) (t u : Tm) : Bool := decide (t = u) || E.any fun p => decide (p.1 = t) && decide (p.2 = u)

theorem eqE_den {ρ ρ' : Env} {E : List (Tm × Tm)} {i : Nat} {r : Tm} (hr : ρ' = ρ.set i (r.den ρ)) (hE : ∀ p ∈ E, p.1.den ρ = p.2.den ρ) {t u : Tm} (h : eqE E (repT i r t) u = true) : t.den ρ' = u.den ρ := by
  rw [hr, ← repT_den]
  unfold eqE at h
  rcases Bool.or_eq_true_iff.1 h with h | h
  · rw [of_decide_eq_true h]
  · obtain ⟨p, hp, h⟩ := List.any_eq_true.1 h
    rw [Bool.and_eq_true] at h
    rw [← of_decide_eq_true h.1, ← of_decide_eq_true h.2]
    exact hE p hp

def capM (m : Nat → Nat) : Cap → Cap → Bool
  | .known n, .known k => Nat.beq n k
  | .of b, .of c => Nat.beq (m b) c
  | .sub b k, .sub c j => Nat.beq (m b) c && Nat.beq k j
  | _, _ => false

/-- A value of the head (names turned by m, terms by s) is such a value. -/
def valM (s : Tm → Tm) (m : Nat → Nat) (E : List (Tm × Tm)) : SVal → SVal → Bool
  | .int k t, .int k' u => decide (k = k') && eqE E (s t) u
  | .bool t, .bool u => eqE E (s t) u
  | .str t, .str u => eqE E (s t) u
  | .ptr b o, .ptr c o' => Nat.beq (m b) c && Nat.beq o o'
  | .nilptr, .nilptr => true
  | .gptr g o, .gptr g' o' => Nat.beq g g' && Nat.beq o o'
  | .slice b o n c, .slice b' o' n' c' => Nat.beq (m b) b' && Nat.beq o o' && Nat.beq n n' && capM m c c'
  | .nilslice, .nilslice => true
  | .agg l, .agg l' => valM s m E l l'
  | .tup l, .tup l' => valM s m E l l'
  | .func f a b, .func f' a' b' => decide (f = f') && valM s m E a a' && valM s m E b b'
  | .nilfunc, .nilfunc => true
  | .iface t v, .iface t' v' => decide (t = t') && valM s m E v v'
  | .nilIface, .nilIface => true
  | .nilmap, .nilmap => true
  | .val i, .val j => Nat.beq i j
  | .ptrI b o i z, .ptrI b' o' i' z' => Nat.beq (m b) b' && Nat.beq o o' && eqE E (s i) i' && Nat.beq z z'
  | .abs n, .abs k => Nat.beq (m n) k
  | .ptrA b o i z, .ptrA b' o' i' z' => Nat.beq (m b) b' && Nat.beq o o' && eqE E (s i) i' && Nat.beq z z'
  | .nil, .nil => true
  | .cons a r, .cons a' r' => valM s m E a a' && valM s m E r r'
  | _, _ => false

def Nm.via (ι : Nm) (m : Nat → Nat) : Nm := ⟨fun n => ι.blk (m n), fun n => ι.cap (m n), fun n => ι.val (m n), fun n => ι.foot (m n)⟩

theorem capM_ev {ι : Nm} {m : Nat → Nat} {c c' : Cap} (h : capM m c c' = true) : c.ev (ι.via m) = c'.ev ι := by
  unfold capM at h
  split at h
  · rw [Nat.eq_of_beq_eq_true h]; rfl
  · have := Nat.eq_of_beq_eq_true h
    subst this
    rfl
  · rw [Bool.and_eq_true] at h
    have h1 := Nat.eq_of_beq_eq_true h.1
    have h2 := Nat.eq_of_beq_eq_true h.2
    subst h1 h2
    rfl
  · cases h

theorem valM_conc {ρ ρ' : Env} {ι : Nm} {m : Nat → Nat} {E : List (Tm × Tm)} {i : Nat} {r : Tm} (hr : ρ' = ρ.set i (r.den ρ)) (hE : ∀ p ∈ E, p.1.den ρ = p.2.den ρ) :
    ∀ v u : SVal, valM (repT i r) m E v u = true → v.conc ρ' (ι.via m) = u.conc ρ ι ∧ v.concL ρ' (ι.via m) = u.concL ρ ι := by
  have D : ∀ {t u : Tm}, eqE E (repT i r t) u = true → t.den ρ' = u.den ρ := fun h => eqE_den hr hE h
  have hval : ρ'.val = ρ.val := by rw [hr]; rfl
  intro v
  induction v with
  | int k t =>
    intro u h
    cases u <;> simp only [valM, Bool.and_eq_true, decide_eq_true_eq] at h <;> try cases h
    rename_i k' t' h1 h2
    subst h1
    exact ⟨by simp only [SVal.conc, D h2], rfl⟩
  | bool t =>
    intro u h
    cases u <;> simp only [valM] at h <;> try cases h
    exact ⟨by simp only [SVal.conc, D h], rfl⟩
  | str t =>
    intro u h
    cases u <;> simp only [valM] at h <;> try cases h
    exact ⟨by simp only [SVal.conc, D h], rfl⟩
  | ptr b o =>
    intro u h
    cases u <;> simp only [valM, Bool.and_eq_true] at h <;> try cases h
    rename_i b' o' h1 h2
    have h1 := Nat.eq_of_beq_eq_true h1
    have h2 := Nat.eq_of_beq_eq_true h2
    subst h1; subst h2
    exact ⟨rfl, rfl⟩
  | nilptr =>
    intro u h
    cases u <;> simp only [valM] at h <;> try cases h
    exact ⟨rfl, rfl⟩
  | gptr g o =>
    intro u h
    cases u <;> simp only [valM, Bool.and_eq_true] at h <;> try cases h
    rename_i b' o' h1 h2
    have h1 := Nat.eq_of_beq_eq_true h1
    have h2 := Nat.eq_of_beq_eq_true h2
    subst h1; subst h2
    exact ⟨rfl, rfl⟩
  | slice b o n c =>
    intro u h
    cases u <;> simp only [valM, Bool.and_eq_true] at h <;> try cases h
    rename_i b' o' n' c' h1 h4
    obtain ⟨⟨h1, h2⟩, h3⟩ := h1
    have h1 := Nat.eq_of_beq_eq_true h1
    have h2 := Nat.eq_of_beq_eq_true h2
    have h3 := Nat.eq_of_beq_eq_true h3
    subst h1; subst h2; subst h3
    exact ⟨by simp only [SVal.conc, capM_ev h4]; rfl, rfl⟩
  | nilslice =>
    intro u h
    cases u <;> simp only [valM] at h <;> try cases h
    exact ⟨rfl, rfl⟩
  | agg l ih =>
    intro u h
    cases u <;> simp only [valM] at h <;> try cases h
    exact ⟨by simp only [SVal.conc, (ih _ h).2], rfl⟩
  | tup l ih =>
    intro u h
    cases u <;> simp only [valM] at h <;> try cases h
    exact ⟨by simp only [SVal.conc, (ih _ h).2], rfl⟩
  | func f a b iha ihb =>
    intro u h
    cases u <;> simp only [valM, Bool.and_eq_true, decide_eq_true_eq] at h <;> try cases h
    rename_i h1 h3
    obtain ⟨h1, h2⟩ := h1
    subst h1
    exact ⟨by simp only [SVal.conc, (iha _ h2).2, (ihb _ h3).2], rfl⟩
  | nilfunc =>
    intro u h
    cases u <;> simp only [valM] at h <;> try cases h
    exact ⟨rfl, rfl⟩
  | iface t v ih =>
    intro u h
    cases u <;> simp only [valM, Bool.and_eq_true, decide_eq_true_eq] at h <;> try cases h
    rename_i h1 h2
    subst h1
    exact ⟨by simp only [SVal.conc, (ih _ h2).1], rfl⟩
  | nilIface =>
    intro u h
    cases u <;> simp only [valM] at h <;> try cases h
    exact ⟨rfl, rfl⟩
  | nilmap =>
    intro u h
    cases u <;> simp only [valM] at h <;> try cases h
    exact ⟨rfl, rfl⟩
  | val j =>
    intro u h
    cases u <;> simp only [valM] at h <;> try cases h
    have h := Nat.eq_of_beq_eq_true h
    subst h
    exact ⟨by simp only [SVal.conc, hval], rfl⟩
  | ptrI b o j z =>
    intro u h
    cases u <;> simp only [valM, Bool.and_eq_true] at h <;> try cases h
    rename_i h1 h4
    obtain ⟨⟨h1, h2⟩, h3⟩ := h1
    have h1 := Nat.eq_of_beq_eq_true h1
    have h2 := Nat.eq_of_beq_eq_true h2
    have h4 := Nat.eq_of_beq_eq_true h4
    subst h1; subst h2; subst h4
    exact ⟨by simp only [SVal.conc, D h3]; rfl, rfl⟩
  | ptrA b o j z =>
    intro u h
    cases u <;> simp only [valM, Bool.and_eq_true] at h <;> try cases h
    rename_i h1 h4
    obtain ⟨⟨h1, h2⟩, h3⟩ := h1
    have h1 := Nat.eq_of_beq_eq_true h1
    have h2 := Nat.eq_of_beq_eq_true h2
    have h4 := Nat.eq_of_beq_eq_true h4
    subst h1; subst h2; subst h4
    exact ⟨by simp only [SVal.conc, D h3]; rfl, rfl⟩
  | abs n =>
    intro u h
    cases u <;> simp only [valM] at h <;> try cases h
    have h := Nat.eq_of_beq_eq_true h
    subst h
    exact ⟨rfl, rfl⟩
  | nil =>
    intro u h
    cases u <;> simp only [valM] at h <;> try cases h
    exact ⟨rfl, rfl⟩
  | cons a t iha iht =>
    intro u h
    cases u <;> simp only [valM, Bool.and_eq_true] at h <;> try cases h
    rename_i h1 h2
    exact ⟨rfl, by simp only [SVal.concL, (iha _ h1).1, (iht _ h2).2]⟩

/-! ### States that match -/

def absM (s : Tm → Tm) (E : List (Tm × Tm)) : Option (Bool × Nat × Tm) → Option (Bool × Nat × Tm) → Bool
  | none, none => true
  | some (o, k, t), some (o', k', t') => decide (o = o') && Nat.beq k k' && eqE E (s t) t'
  | _, _ => false

def blkM (s : Tm → Tm) (m : Nat → Nat) (E : List (Tm × Tm)) (b c : Blk) : Bool :=
  decide (b.elem = c.elem) && decide (b.spare = c.spare) && valM s m E b.cells c.cells && absM s E b.abs c.abs

def slotM (s : Tm → Tm) (m : Nat → Nat) (E : List (Tm × Tm)) (n : Nat) : Option SVal → Option SVal → Bool
  | none, _ => true
  | some v, some u => valM s m E v u && v.sc n
  | some _, none => false

def entM (s : Tm → Tm) (m : Nat → Nat) (E : List (Tm × Tm)) (n : Nat) (h : Heap) (i : Nat) : Option (Option Blk) → Bool
  | some (some b) => match h[m i]? with
    | some (some c) => blkM s m E b c && b.cells.sc n
    | _ => false
  | _ => true

def present (h : Heap) (i : Nat) : Bool := match h[i]? with
  | some (some _) => true
  | _ => false

def nodupN : List Nat → Bool
  | [] => true
  | a :: r => !memN a r && nodupN r

/-- The head's state (h) is such a state (σ): its values, its heap; names by m, terms by s. -/
def stM (s : Tm → Tm) (m : Nat → Nat) (E : List (Tm × Tm)) (h σ : St) : Bool :=
  (h.slots.map Prod.fst).all (fun k => slotM s m E h.heap.length (h.slots.get k) (σ.slots.get k)) &&
  (List.range h.heap.length).all (fun i => entM s m E h.heap.length σ.heap i (h.heap[i]?)) &&
  nodupN (((List.range h.heap.length).filter (present h.heap)).map m) && decide (h.n = σ.n) && sameDfs h.dfs σ.dfs

theorem nodup_inj {m : Nat → Nat} : ∀ {l : List Nat}, nodupN (l.map m) = true → ∀ a ∈ l, ∀ b ∈ l, m a = m b → a = b
  | [], _, a, ha, _, _, _ => by cases ha
  | x :: l, h, a, ha, b, hb, e => by
    simp only [List.map_cons, nodupN, Bool.and_eq_true, Bool.not_eq_true'] at h
    have no : ∀ c ∈ l, m x ≠ m c := by
      intro c hc hm
      have : memN (m x) (l.map m) = true := memN_iff.2 (hm ▸ List.mem_map.2 ⟨c, hc, rfl⟩)
      rw [h.1] at this
      cases this
    rcases List.mem_cons.1 ha with ha1 | ha1
    · rcases List.mem_cons.1 hb with hb1 | hb1
      · rw [ha1, hb1]
      · exact (no b hb1 (ha1 ▸ e)).elim
    · rcases List.mem_cons.1 hb with hb1 | hb1
      · exact (no a ha1 (hb1 ▸ e.symm)).elim
      · exact nodup_inj h.2 a ha1 b hb1 e

theorem get_mem_keys : ∀ {s : Slots} {i : Nat} {v : SVal}, s.get i = some v → i ∈ s.map Prod.fst
  | [], i, v, h => by simp [Slots.get_nil] at h
  | (j, u) :: r, i, v, h => by
    by_cases e : i = j
    · simp [e]
    · rw [Slots.get_cons_ne e] at h
      exact List.mem_cons_of_mem _ (get_mem_keys h)

section
variable {ρ ρ' : Env} {G : Globs} {K : Nat → Prop} {w0 w : World} {ι : Nm} {σ h : St} {a : Act} {m : Nat → Nat} {E : List (Tm × Tm)} {i : Nat} {r : Tm}

theorem absM_spec (hr : ρ' = ρ.set i (r.den ρ)) (hE : ∀ p ∈ E, p.1.den ρ = p.2.den ρ) {x y : Option (Bool × Nat × Tm)} (hm : absM (repT i r) E x y = true) :
    (x = none ∧ y = none) ∨ ∃ o k t t', x = some (o, k, t) ∧ y = some (o, k, t') ∧ t.den ρ' = t'.den ρ := by
  cases x with
  | none =>
    cases y with
    | none => exact .inl ⟨rfl, rfl⟩
    | some y => simp [absM] at hm
  | some x =>
    cases y with
    | none => simp [absM] at hm
    | some y =>
      obtain ⟨o, k, t⟩ := x
      obtain ⟨o', k', t'⟩ := y
      simp only [absM, Bool.and_eq_true, decide_eq_true_eq] at hm
      obtain ⟨⟨rfl, hk⟩, ht⟩ := hm
      have hk := Nat.eq_of_beq_eq_true hk
      subst hk
      exact .inr ⟨_, _, _, _, rfl, rfl, eqE_den hr hE ht⟩

/-- A state that matches the head's stands at the head. -/
theorem stM_gam (hr : ρ' = ρ.set i (r.den ρ)) (hE : ∀ p ∈ E, p.1.den ρ = p.2.den ρ) (hG : ∀ p ∈ G, ∀ ι : Nm, p.2.concL ρ' ι = p.2.concL ρ ι) (g : Gam ρ G K w0 ι σ a w) (hm : stM (repT i r) m E h σ = true) (hpc : (h.pc.den ρ').asBool = true) :
    Gam ρ' G K w0 (ι.via m) h a w := by
  unfold stM at hm
  simp only [Bool.and_eq_true, decide_eq_true_eq] at hm
  obtain ⟨⟨⟨⟨hs, hh⟩, hn⟩, hsz⟩, hdf⟩ := hm
  have hab : ρ'.ab = ρ.ab := by rw [hr]; rfl
  have ent : ∀ n b, h.heap[n]? = some (some b) → ∃ c, σ.heap[m n]? = some (some c) ∧ blkM (repT i r) m E b c = true ∧ b.cells.sc h.heap.length = true := by
    intro n b hb
    have hlt : n < h.heap.length := (List.getElem?_eq_some_iff.1 hb).1
    have := List.all_eq_true.1 hh n (List.mem_range.2 hlt)
    rw [hb] at this
    unfold entM at this
    split at this
    · rename_i b' e1
      simp only [Option.some.injEq] at e1
      subst e1
      split at this
      · rename_i c hc
        rw [Bool.and_eq_true] at this
        exact ⟨c, hc, this.1, this.2⟩
      · cases this
    · rename_i hno
      exact (hno b rfl).elim
  have pres : ∀ n b, h.heap[n]? = some (some b) → n ∈ (List.range h.heap.length).filter (present h.heap) := by
    intro n b hb
    refine List.mem_filter.2 ⟨List.mem_range.2 (List.getElem?_eq_some_iff.1 hb).1, ?_⟩
    unfold present
    rw [hb]
  have H := g.heap
  refine ⟨by rw [hsz]; exact g.size, by rw [sameDfs_eq hdf]; exact g.defers, ?_, ?_, hpc⟩
  · intro k v hv
    have := List.all_eq_true.1 hs k (get_mem_keys hv)
    rw [hv] at this
    cases hu : σ.slots.get k with
    | none => rw [hu] at this; simp [slotM] at this
    | some u =>
      rw [hu] at this
      simp only [slotM, Bool.and_eq_true] at this
      have hg := (g.slots k u hu).1
      rw [← (valM_conc hr hE v u this.1).1] at hg
      exact ⟨hg, this.2⟩
  · refine ⟨H.os, H.tape, H.output, H.size, H.kept, H.old, fun q hq => H.base q (by rw [← hab]; exact hq), ?_, ?_, ?_⟩
    · intro n b hb
      obtain ⟨c, hc, hbm, hsc⟩ := ent n b hb
      obtain ⟨h1, h2, _⟩ := H.blocks (m n) c hc
      unfold blkM at hbm
      simp only [Bool.and_eq_true, decide_eq_true_eq] at hbm
      obtain ⟨⟨⟨he, hsp⟩, hcl⟩, habs⟩ := hbm
      have hconc := valM_conc (ι := ι) hr hE _ _ hcl
      refine ⟨h1, ?_, hsc⟩
      unfold Blk.Ok at h2 ⊢
      rcases absM_spec hr hE habs with ⟨e1, e2⟩ | ⟨o, k, t, t', e1, e2, hd⟩
      · rw [e1]
        rw [e2] at h2
        obtain ⟨f1, cs, f2, f3⟩ := h2
        refine ⟨f1, cs, by rw [he]; exact f2, ?_⟩
        unfold Blk.Fits at f3 ⊢
        rw [hsp, hconc.2]
        exact f3
      · rw [e1]
        rw [e2] at h2
        have hnil : c.cells = .nil → b.cells = .nil := by
          intro hc0
          rw [hc0] at hcl
          cases hb0 : b.cells <;> rw [hb0] at hcl <;> simp [valM] at hcl
        cases o with
        | true =>
          obtain ⟨f1, f2⟩ := h2
          refine ⟨hnil f1, ?_⟩
          rw [hab, hd]
          exact f2
        | false =>
          obtain ⟨f1, f2, F, f3, f4⟩ := h2
          refine ⟨hnil f1, f2, F, ?_, fun q hq => by rw [hab]; exact f4 q hq⟩
          rw [hab, hd]
          exact f3
    · intro n1 n2 b1 b2 hb1 hb2 q hq1 hq2
      obtain ⟨c1, hc1, _⟩ := ent n1 b1 hb1
      obtain ⟨c2, hc2, _⟩ := ent n2 b2 hb2
      exact nodup_inj hn n1 (pres n1 b1 hb1) n2 (pres n2 b2 hb2) (H.inj (m n1) (m n2) c1 c2 hc1 hc2 q hq1 hq2)
    · intro gn cs hg
      obtain ⟨h1, h2, arr, t, fz, h3, h4⟩ := H.globs gn cs hg
      refine ⟨h1, h2, arr, t, fz, h3, ?_⟩
      rw [hG (gn, cs) hg (ι.via m), (SVal.conc_ext (ρ := ρ) (n := 0) (ι := ι) (ι' := ι.via m) (fun q hq => by omega) cs h2).2]
      exact h4
end

/-! ### The rule -/

/-- Where a name is found that stands for an extra entry of the head. -/
inductive Path where
  | slot (i : Nat)
  | cell (b j : Nat)

def nameOf : Option SVal → Nat
  | some (.abs n) => n
  | some (.ptr b _) => b
  | some (.slice b _ _ _) => b
  | _ => 0

def Path.find (σ : St) : Path → Nat
  | .slot i => nameOf (σ.slots.get i)
  | .cell b j => match σ.heap[b]? with
    | some (some c) => nameOf (c.cells.nth j)
    | _ => 0

/-- What is so at a loop's head: the variable that counts; its next value; the slots and the heap's entries that change; extra entries, and where they are found; what is so at every head; where it goes on; where it ends; terms that are the same at the beginning, behind a round. -/
structure LoopI where
  var : Nat
  next : Tm
  slots : List (Nat × SVal)
  gone : List Nat
  blocks : List (Nat × Option Blk)
  extra : List (Path × Blk)
  inv : Tm
  cont : Tm
  stop : Tm
  eqs0 : List (Tm × Tm)
  eqs : List (Tm × Tm)

def LoopI.st (I : LoopI) (σ : St) (c : Tm) : St :=
  { n := σ.n, slots := I.slots.map (fun p => (p.1, some p.2)) ++ (I.gone.map (fun k => (k, none)) ++ σ.slots),
    heap := I.blocks.foldl (fun h p => h.set p.1 p.2) σ.heap ++ I.extra.map (fun p => some p.2), pc := mkAnd (mkAnd σ.pc I.inv) c, dfs := σ.dfs }

def LoopI.names (I : LoopI) (n0 : Nat) (σ : St) (i : Nat) : Nat := match Nat.blt i n0 with
  | true => i
  | false => (I.extra.map fun p => p.1.find σ).getD (i - n0) 0

def contAll (p : St → Bool) : Tree (Ex × St) → Bool
  | .leaf (.normal, σ) => p σ
  | .ite _ a b => match contAll p a with
    | true => contAll p b
    | false => false
  | _ => false

def loopT (cx : Cx) (S : Specs) (F : Nat) (I : LoopI) (b : Code) (σ : St) : Tree (Ex × St) :=
  match stM (repT I.var (.num 0)) (I.names σ.heap.length σ) I.eqs0 (I.st σ (.bit true)) σ && decide (repT I.var (.num 0) σ.pc = σ.pc) &&
    contAll (fun σ' => stM (repT I.var I.next) (I.names σ.heap.length σ') I.eqs (I.st σ (.bit true)) σ') (run cx S F b (I.st σ I.cont)) with
  | true => (run cx S F b (I.st σ I.stop)).bind fun (e, s) => match e with
    | .normal => .fail "it goes on"
    | e => .leaf (e, s)
  | false => .fail "no invariant"

theorem contAll_get (ρ : Env) {p : St → Bool} : ∀ t : Tree (Ex × St), contAll p t = true → ∃ σ, t.get ρ = some (.normal, σ) ∧ p σ = true
  | .leaf (.normal, σ), h => ⟨σ, rfl, h⟩
  | .leaf (.exit _, σ), h => by simp [contAll] at h
  | .leaf (.ret, σ), h => by simp [contAll] at h
  | .leaf (.goto _, σ), h => by simp [contAll] at h
  | .ite c a b, h => by
    unfold contAll at h
    split at h
    · rename_i ha
      simp only [Tree.get]
      cases (c.den ρ).asBool
      · exact contAll_get ρ b h
      · exact contAll_get ρ a ha
    · cases h
  | .assert c a, h => by simp [contAll] at h
  | .fail w, h => by simp [contAll] at h

theorem names_below {I : LoopI} {n0 : Nat} {σ : St} {i : Nat} (h : i < n0) : I.names n0 σ i = i := by
  unfold LoopI.names
  rw [show Nat.blt i n0 = true from Eq.mpr Nat.blt_eq h]

theorem ext_via {ι : Nm} {n : Nat} {m : Nat → Nat} (h : ∀ i, i < n → m i = i) : Nm.Ext n ι (ι.via m) := fun i hi => by
  refine ⟨?_, ?_, ?_, ?_⟩ <;> simp only [Nm.via, h i hi]

theorem set_len (l : List (Nat × Option Blk)) : ∀ h : Heap, (l.foldl (fun h p => h.set p.1 p.2) h).length = h.length := by
  induction l with
  | nil => intro h; rfl
  | cons p l ih => intro h; rw [List.foldl_cons, ih, List.length_set]

theorem st_len (I : LoopI) (σ : St) (c : Tm) : σ.heap.length ≤ (I.st σ c).heap.length := by
  simp only [LoopI.st, List.length_append, set_len]
  omega

/-- What has to be so of the signs: N rounds. -/
structure LoopI.Ok (I : LoopI) (ρ : Env) (cx : Cx) (S : Specs) : Prop where
  rule : ∃ N : Nat, ρ.v I.var = .int N ∧ (∀ k : Nat, k ≤ N → S.Ok (ρ.set I.var (.int k)) cx) ∧ (∀ k : Nat, k ≤ N → (I.inv.den (ρ.set I.var (.int k))).asBool = true) ∧ (∀ k : Nat, k < N → (I.cont.den (ρ.set I.var (.int k))).asBool = true ∧ I.next.den (ρ.set I.var (.int k)) = .int ((k + 1 : Nat) : Int) ∧ ∀ p ∈ I.eqs, p.1.den (ρ.set I.var (.int k)) = p.2.den (ρ.set I.var (.int k))) ∧
    (I.stop.den ρ).asBool = true ∧ ∀ p ∈ I.eqs0, p.1.den ρ = p.2.den ρ
  globs : ∀ k : Nat, ∀ p ∈ cx.globs, ∀ ι : Nm, p.2.concL (ρ.set I.var (.int k)) ι = p.2.concL ρ ι

theorem loopT_ok {ρ : Env} {cx : Cx} (ok : cx.Ok) {S : Specs} (hB : ∀ f, S f ≠ none → ∃ fn c, cx.P.funcs[f]? = some fn ∧ fn.body = some c) {F : Nat} {I : LoopI} (hI : I.Ok ρ cx S) :
    ∀ b σ e σ', (loopT cx S F I b σ).get ρ = some (e, σ') → ∀ (K : Nat → Prop) (w0 : World) (ι : Nm) (a : Act) (w : World), Gam ρ cx.globs K w0 ι σ a w →
    ∀ Q : Exit → Act → World → Prop, (∀ ι' a' w', StepS σ σ' → Nm.Ext σ.heap.length ι ι' → Gam ρ cx.globs K w0 ι' σ' a' w' → Q e.exit' a' w') → (Code.loop b).wp cx.P Q a w := by
  intro b σ e σ' hx K w0 ι a w g Q hq
  obtain ⟨⟨N, hN, hS, hinv, hgo, hstop, hE0⟩, hG⟩ := hI
  unfold loopT at hx
  split at hx
  · rename_i hall
    simp only [Bool.and_eq_true, decide_eq_true_eq] at hall
    obtain ⟨⟨hm0, hpc0⟩, hc⟩ := hall
    have self : ρ.set I.var (.int (N : Int)) = ρ := Env.set_self hN
    have pcK : ∀ k : Nat, (σ.pc.den (ρ.set I.var (.int k))).asBool = true := by
      intro k
      have e1 : ∀ η : Env, σ.pc.den η = σ.pc.den (η.set I.var (.int 0)) := fun η => by
        have := repT_den η I.var (.num 0) σ.pc
        rw [hpc0] at this
        exact this
      rw [e1, Env.set_set, ← e1]
      exact g.pc
    have pcI : ∀ k : Nat, k ≤ N → ∀ c : Tm, (c.den (ρ.set I.var (.int k))).asBool = true → ((I.st σ c).pc.den (ρ.set I.var (.int k))).asBool = true := by
      intro k hk c hcc
      simp only [LoopI.st, mkAnd_den]
      rw [pcK k, hinv k hk, hcc]
      rfl
    have chg : ∀ k : Nat, k ≤ N → ∀ c ι a w, (c.den (ρ.set I.var (.int k))).asBool = true → Gam (ρ.set I.var (.int k)) cx.globs K w0 ι (I.st σ (.bit true)) a w → Gam (ρ.set I.var (.int k)) cx.globs K w0 ι (I.st σ c) a w := by
      intro k hk c ι a w hcc g1
      exact ⟨g1.size, g1.defers, g1.slots, g1.heap, pcI k hk c hcc⟩
    have g0 : Gam (ρ.set I.var (.int ((0 : Nat) : Int))) cx.globs K w0 (ι.via (I.names σ.heap.length σ)) (I.st σ (.bit true)) a w :=
      stM_gam (i := I.var) (r := .num 0) rfl hE0 (hG 0) g hm0 (pcI 0 (Nat.zero_le _) _ rfl)
    simp only [Tree.get_bind, Option.bind_eq_some_iff] at hx
    obtain ⟨⟨e1, σ1⟩, hx1, hx2⟩ := hx
    have rounds : ∀ j k : Nat, k + j = N → ∀ ι1 a w, Nm.Ext σ.heap.length ι ι1 → Gam (ρ.set I.var (.int k)) cx.globs K w0 ι1 (I.st σ (.bit true)) a w → Code.rounds cx.P b Q (j + 1) a w := by
      intro j
      induction j with
      | zero =>
        intro k hk ι1 a w hext g1
        have hkN : k = N := by omega
        subst hkN
        have g2 := chg k (Nat.le_refl _) I.stop ι1 a w (by rw [self]; exact hstop) g1
        rw [self] at g2
        have hSm : S.Ok ρ cx := by have := hS k (Nat.le_refl _); rwa [self] at this
        rw [rounds_succ]
        refine run_ok ok hSm hB F b _ e1 σ1 hx1 K w0 ι1 a w g2 _ ?_
        intro ι2 a2 w2 s2 x2 g3
        have fin : e1 = e ∧ σ1 = σ' → Q e1.exit' a2 w2 := by
          rintro ⟨rfl, rfl⟩
          refine hq ι2 a2 w2 ⟨Nat.le_trans (st_len I σ I.stop) s2.len, ?_, s2.n⟩ ?_ g3
          · obtain ⟨new, hnew⟩ := s2.slots
            exact ⟨new ++ (I.slots.map (fun p => (p.1, some p.2)) ++ I.gone.map (fun k => (k, none))), by rw [hnew]; simp only [LoopI.st, List.append_assoc]⟩
          · exact hext.trans (Nat.le_refl _) (x2.mono (st_len I σ I.stop))
        cases e1 with
        | normal => simp [Tree.get] at hx2
        | exit id =>
          simp only [Tree.get, Option.some.injEq, Prod.mk.injEq] at hx2
          exact fin hx2
        | goto l =>
          simp only [Tree.get, Option.some.injEq, Prod.mk.injEq] at hx2
          exact fin hx2
        | ret =>
          simp only [Tree.get, Option.some.injEq, Prod.mk.injEq] at hx2
          exact fin hx2
      | succ j ih =>
        intro k hk ι1 a w hext g1
        obtain ⟨hcont, hnext, hE⟩ := hgo k (by omega)
        obtain ⟨σc, hcg, hcm⟩ := contAll_get (ρ.set I.var (.int k)) _ hc
        have g2 := chg k (by omega) I.cont ι1 a w hcont g1
        rw [rounds_succ]
        refine run_ok ok (hS k (by omega)) hB F b _ .normal σc hcg K w0 ι1 a w g2 _ ?_
        intro ι2 a2 w2 s2 x2 g3
        have hset : ρ.set I.var (.int ((k + 1 : Nat) : Int)) = (ρ.set I.var (.int k)).set I.var (I.next.den (ρ.set I.var (.int k))) := by rw [Env.set_set, hnext]
        have g4 := stM_gam (i := I.var) (r := I.next) hset hE (fun p hp ι => (hG (k + 1) p hp ι).trans (hG k p hp ι).symm) g3 hcm (pcI (k + 1) (by omega) _ rfl)
        refine ih (k + 1) (by omega) _ a2 w2 ?_ g4
        exact (hext.trans (Nat.le_refl _) (x2.mono (st_len I σ I.cont))).trans (Nat.le_refl _) (ext_via fun i hi => names_below hi)
    exact wp_loop_rounds (N + 1) (rounds N 0 (by omega) _ a w (ext_via fun i hi => names_below hi) g0)
  · simp [Tree.get] at hx

/-! ### The executor with loops by invariants -/

/-- A loop's key: its first region's number. -/
def keyOf : Code → Nat
  | .region id _ _ => id
  | .seq a _ => keyOf a
  | .block _ b => keyOf b
  | .loop b => keyOf b
  | .scope b => keyOf b
  | _ => 0

def runL (cx : Cx) (S : Specs) (L : Nat → Option LoopI) (F : Nat) : Nat → Code → St → Tree (Ex × St)
  | 0, _, _ => .fail "fuel"
  | n + 1, c, σ =>
    match c with
    | .seq a b => (runL cx S L F n a σ).bind fun (e, s) => match e with
      | .normal => runL cx S L F n b s
      | e => .leaf (e, s)
    | .block id b => (runL cx S L F n b σ).bind fun (e, s) => match e with
      | .exit id' => if id' = id then .leaf (.normal, s) else .leaf (.exit id', s)
      | e => .leaf (e, s)
    | .cond x a b => match evO σ.slots x with
      | some (.bool t) => match decideT σ.pc t with
        | some true => runL cx S L F n a σ
        | some false => runL cx S L F n b σ
        | none => .ite t (runL cx S L F n a { σ with pc := mkAnd σ.pc t }) (runL cx S L F n b { σ with pc := mkAnd σ.pc (mkNot t) })
      | _ => .fail "condition"
    | .loop b => match L (keyOf b) with
      | some I => loopT cx S F I b σ
      | none => run cx S F (.loop b) σ
    | .scope b => scopeT (runL cx S L F n) σ b n b σ
    | c => run cx S F c σ

theorem runL_ok {ρ : Env} {cx : Cx} (ok : cx.Ok) {S : Specs} (hS : S.Ok ρ cx) (hB : ∀ f, S f ≠ none → ∃ fn c, cx.P.funcs[f]? = some fn ∧ fn.body = some c) {L : Nat → Option LoopI} (hL : ∀ k I, L k = some I → I.Ok ρ cx S) {F : Nat} : ∀ n : Nat, RunOk ρ cx (runL cx S L F n) := by
  intro n
  induction n with
  | zero => intro c σ e σ' hx; simp [runL, Tree.get] at hx
  | succ n ih =>
    have base := run_ok ok hS hB F
    intro c σ e σ' hx K w0 ι a w g Q hq
    cases c with
    | seq x y =>
      simp only [runL, Tree.get_bind, Option.bind_eq_some_iff] at hx
      obtain ⟨⟨e1, σ1⟩, h1, h2⟩ := hx
      refine wp_seq (ih x σ e1 σ1 h1 K w0 ι a w g _ ?_)
      intro ι1 a1 w1 s1 x1 g1
      cases e1 with
      | normal =>
        exact ih y σ1 e σ' h2 K w0 ι1 a1 w1 g1 _ (fun ι2 a2 w2 s2 x2 g2 => hq ι2 a2 w2 (s1.trans s2) (x1.trans s1.len x2) g2)
      | goto l =>
        simp only [Tree.get, Option.some.injEq, Prod.mk.injEq] at h2
        obtain ⟨rfl, rfl⟩ := h2
        exact hq ι1 a1 w1 s1 x1 g1
      | exit id =>
        simp only [Tree.get, Option.some.injEq, Prod.mk.injEq] at h2
        obtain ⟨rfl, rfl⟩ := h2
        exact hq ι1 a1 w1 s1 x1 g1
      | ret =>
        simp only [Tree.get, Option.some.injEq, Prod.mk.injEq] at h2
        obtain ⟨rfl, rfl⟩ := h2
        exact hq ι1 a1 w1 s1 x1 g1
    | block id b =>
      simp only [runL, Tree.get_bind, Option.bind_eq_some_iff] at hx
      obtain ⟨⟨e1, σ1⟩, h1, h2⟩ := hx
      refine wp_block (ih b σ e1 σ1 h1 K w0 ι a w g _ ?_)
      intro ι1 a1 w1 s1 x1 g1
      cases e1 with
      | normal =>
        simp only [Tree.get, Option.some.injEq, Prod.mk.injEq] at h2
        obtain ⟨rfl, rfl⟩ := h2
        exact hq ι1 a1 w1 s1 x1 g1
      | goto l =>
        simp only [Tree.get, Option.some.injEq, Prod.mk.injEq] at h2
        obtain ⟨rfl, rfl⟩ := h2
        exact hq ι1 a1 w1 s1 x1 g1
      | exit id' =>
        simp only at h2
        split at h2
        · rename_i hid
          subst hid
          simp only [Tree.get, Option.some.injEq, Prod.mk.injEq] at h2
          obtain ⟨rfl, rfl⟩ := h2
          simp only [Ex.exit', Exit.inBlock, if_true]
          exact hq ι1 a1 w1 s1 x1 g1
        · rename_i hid
          simp only [Tree.get, Option.some.injEq, Prod.mk.injEq] at h2
          obtain ⟨rfl, rfl⟩ := h2
          simp only [Ex.exit', Exit.inBlock, hid, if_false]
          exact hq ι1 a1 w1 s1 x1 g1
      | ret =>
        simp only [Tree.get, Option.some.injEq, Prod.mk.injEq] at h2
        obtain ⟨rfl, rfl⟩ := h2
        exact hq ι1 a1 w1 s1 x1 g1
    | scope b =>
      simp only [runL] at hx
      intro fb k cs
      obtain ⟨e2, a2, w2, hq2, harr⟩ := scope_ok ih n b σ e σ' hx (StepS.refl _) K w0 ι a w g Q hq fb k cs
      exact ⟨e2, a2, w2, hq2, .of_steps (.one step_scope) harr⟩
    | cond x y z =>
      simp only [runL] at hx
      split at hx
      · rename_i t ht
        have hct := (evO_conc g.slots ht).1
        simp only [SVal.conc] at hct
        split at hx
        · rename_i hd
          refine wp_cond_true (by rw [hct, decideT_den g.pc hd]) (ih y σ e σ' hx K w0 ι a w g _ hq)
        · rename_i hd
          refine wp_cond_false (by rw [hct, decideT_den g.pc hd]) (ih z σ e σ' hx K w0 ι a w g _ hq)
        · simp only [Tree.get] at hx
          have fin : ∀ (pc' : Tm) ι' a' w', StepS { σ with pc := pc' } σ' → Nm.Ext σ.heap.length ι ι' → Gam ρ cx.globs K w0 ι' σ' a' w' → Q e.exit' a' w' := by
            intro pc' ι' a' w' s1 x1 g1
            exact hq ι' a' w' ⟨s1.len, s1.slots, s1.n⟩ x1 g1
          cases hb : (t.den ρ).asBool
          · rw [hb] at hx
            refine wp_cond_false (by rw [hct, hb]) (ih z _ e σ' hx K w0 ι a w ⟨g.size, g.defers, g.slots, g.heap, ?_⟩ _ (fin _))
            show ((mkAnd σ.pc (mkNot t)).den ρ).asBool = true
            rw [mkAnd_den, g.pc, mkNot_den, hb]
            rfl
          · rw [hb] at hx
            refine wp_cond_true (by rw [hct, hb]) (ih y _ e σ' hx K w0 ι a w ⟨g.size, g.defers, g.slots, g.heap, ?_⟩ _ (fin _))
            show ((mkAnd σ.pc t).den ρ).asBool = true
            rw [mkAnd_den, g.pc, hb]
            rfl
      · simp [Tree.get] at hx
    | loop b =>
      simp only [runL] at hx
      split at hx
      · rename_i I hk
        exact loopT_ok ok hB (hL _ I hk) b σ e σ' hx K w0 ι a w g Q hq
      · exact base (.loop b) σ e σ' hx K w0 ι a w g Q hq
    | skip => exact base _ σ e σ' hx K w0 ι a w g Q hq
    | region id ops d => exact base _ σ e σ' hx K w0 ι a w g Q hq
    | label l => exact base _ σ e σ' hx K w0 ι a w g Q hq
    | exit id => exact base _ σ e σ' hx K w0 ι a w g Q hq
    | ret => exact base _ σ e σ' hx K w0 ι a w g Q hq
    | goto l => exact base _ σ e σ' hx K w0 ι a w g Q hq
    | refuse y => exact base _ σ e σ' hx K w0 ι a w g Q hq
    | rangeFunc f ps x y => exact base _ σ e σ' hx K w0 ι a w g Q hq

theorem callL_ok {ρ : Env} {cx : Cx} (ok : cx.Ok) {S : Specs} (hS : S.Ok ρ cx) (hB : ∀ f, S f ≠ none → ∃ fn c, cx.P.funcs[f]? = some fn ∧ fn.body = some c) {L : Nat → Option LoopI} (hL : ∀ k I, L k = some I → I.Ok ρ cx S) {F n : Nat} {f : FuncId} {args : List SVal} {h : Heap} {pc : Tm} {x : Res}
    (hpc : (pc.den ρ).asBool = true) (hx : (callT cx S (runL cx S L F n) f args h pc).get ρ = some x) : CallOk ρ cx.globs cx.P f args h x :=
  callT_ok ok hS (runL_ok ok hS hB hL n) hpc hx

end
end Go.Sx
