/- The executor is right: ways that become one; calls; regions in the order of the text; code. -/
import Derived.Test.YtaiecnepchndkaaDoorSxSound6
import Derived.Orders
import Derived.Scope
import Derived.LoopN
namespace Go.Sx

section
variable {ρ : Env} {G : Globs} {K : Nat → Prop} {w0 w : World} {ι : Nm} {h h' : Heap}

/-! ### Heaps of two ways -/

/-- A heap whose blocks read the same. -/
theorem HR.sim (H : HR ρ G K w0 ι h w) (hl : ∀ (n : Nat) (b' : Blk), h'[n]? = some (some b') → ∃ b, h[n]? = some (some b) ∧ b'.elem = b.elem ∧ b'.spare = b.spare ∧ b'.cells.concL ρ ι = b.cells.concL ρ ι ∧ b'.cells.sc h'.length = true) :
    HR ρ G K w0 ι h' w := by
  refine ⟨H.os, H.tape, H.output, H.size, H.kept, H.old, H.free, fun n b' hb' => ?_, fun n m b c hb hc he => ?_, H.globs⟩
  · obtain ⟨b, h1, h2, h3, h4, h5⟩ := hl n b' hb'
    obtain ⟨k1, ⟨cs, k2, k3⟩, _⟩ := H.blocks n b h1
    refine ⟨k1, ⟨cs, by rw [h2]; exact k2, ?_⟩, h5⟩
    unfold Blk.Fits at *
    rw [h3, h4]
    exact k3
  · obtain ⟨b1, h1, _⟩ := hl n b hb
    obtain ⟨b2, h2, _⟩ := hl m c hc
    exact H.inj n m b1 b2 h1 h2 he

theorem mergeB_spec {c : Tm} {n : Nat} {a b : Option Blk} {x : Blk} (hm : mergeB c n a b = some (some x)) :
    ∃ a' b', a = some a' ∧ b = some b' ∧ x.elem = a'.elem ∧ x.elem = b'.elem ∧ x.spare = a'.spare ∧ x.spare = b'.spare ∧
      (x.cells.concL ρ ι = match (c.den ρ).asBool with | true => a'.cells.concL ρ ι | false => b'.cells.concL ρ ι) ∧ x.cells.sc n = true := by
  unfold mergeB at hm
  split at hm
  · rename_i a' b'
    split at hm
    · rename_i e
      subst e
      split at hm
      · rename_i hsc
        simp at hm; subst hm
        exact ⟨a', a', rfl, rfl, rfl, rfl, rfl, rfl, by cases (c.den ρ).asBool <;> rfl, hsc⟩
      · simp at hm
    · split at hm
      · rename_i e
        split at hm
        · rename_i l hl
          split at hm
          · rename_i hsc
            simp at hm; subst hm
            exact ⟨a', b', rfl, rfl, rfl, e.1, rfl, e.2, (mergeV_conc (ρ := ρ) (ι := ι) c n _ _ _ hl).2.1, hsc⟩
          · simp at hm
        · simp at hm
      · simp at hm
  · simp at hm

theorem mergeH_spec {c : Tm} {n : Nat} : ∀ {k : Nat} {h1 h2 hm : Heap}, mergeH c n k h1 h2 = some hm → hm.length = k ∧ ∀ (i : Nat) (x : Blk), hm[i]? = some (some x) → ∃ a b, h1[i]? = some a ∧ h2[i]? = some b ∧ mergeB c n a b = some (some x)
  | 0, h1, h2, hm, e => by simp [mergeH] at e; subst e; simp
  | k + 1, [], h2, hm, e => by simp [mergeH] at e
  | k + 1, a :: h1, [], hm, e => by simp [mergeH] at e
  | k + 1, a :: h1, b :: h2, hm, e => by
    simp only [mergeH] at e
    split at e
    · rename_i x r hx hr
      simp at e; subst e
      obtain ⟨k1, k2⟩ := mergeH_spec hr
      refine ⟨by simp [k1], ?_⟩
      intro i y hy
      cases i with
      | zero => simp at hy; subst hy; exact ⟨a, b, by simp, by simp, hx⟩
      | succ i => simpa using k2 i y (by simpa using hy)
    · cases e

/-- The heaps of two ways: on the way that was gone. -/
theorem HR.merged {c : Tm} {ha hb hm : Heap} {n : Nat} (hmm : mergeH c n n ha hb = some hm) (way : Bool) (hc : (c.den ρ).asBool = way)
    (H : HR ρ G K w0 ι (cond way ha hb) w) : HR ρ G K w0 ι hm w ∧ hm.length = n := by
  obtain ⟨hlen, hspec⟩ := mergeH_spec hmm
  refine ⟨H.sim fun i x hx => ?_, hlen⟩
  obtain ⟨a, b, h1, h2, h3⟩ := hspec i x hx
  obtain ⟨a', b', rfl, rfl, e1, e2, e3, e4, e5, e6⟩ := mergeB_spec (ρ := ρ) (ι := ι) h3
  cases way
  · exact ⟨b', h2, e2, e4, by rw [e5, hc], by rw [hlen]; exact e6⟩
  · exact ⟨a', h1, e1, e3, by rw [e5, hc], by rw [hlen]; exact e6⟩

/-! ### Ways that become one -/

theorem Tree.single_get {α : Type} {t : Tree α} : ∀ {cs : List Tm} {a : α}, t.single = some (cs, a) → ((∀ c ∈ cs, (c.den ρ).asBool = true) → t.get ρ = some a) := by
  induction t with
  | leaf a => intro cs b h _; simp [Tree.single] at h; obtain ⟨_, rfl⟩ := h; rfl
  | assert c t ih =>
    intro cs b h hc
    simp only [Tree.single, Option.map_eq_some_iff] at h
    obtain ⟨⟨ds, a⟩, h1, h2⟩ := h
    simp only [Prod.mk.injEq] at h2
    obtain ⟨rfl, rfl⟩ := h2
    simp only [Tree.get, hc c (by simp)]
    exact ih h1 (fun d hd => hc d (by simp [hd]))
  | ite c t e _ _ => intro cs b h; simp [Tree.single] at h
  | fail w => intro cs b h; simp [Tree.single] at h

theorem impT_den (c t : Tm) : ((impT c t).den ρ).asBool = (!(c.den ρ).asBool || (t.den ρ).asBool) := by
  simp [impT, mkOr_den, mkNot_den]

/-- What covers: a relation that a join keeps. -/
theorem squash_get {α : Type} {join : Tm → α → α → Option α} (R : α → α → Prop) (hr : ∀ a, R a a) (ht : ∀ a b c, R a b → R b c → R a c)
    (hj : ∀ c a b x, join c a b = some x → ((c.den ρ).asBool = true → R a x) ∧ ((c.den ρ).asBool = false → R b x)) :
    ∀ (t : Tree α) (x : α), (squash join t).get ρ = some x → ∃ a, t.get ρ = some a ∧ R a x := by
  intro t
  induction t with
  | leaf a => intro x h; exact ⟨x, h, hr x⟩
  | fail w => intro x h; simp [squash, Tree.get] at h
  | assert c t ih =>
    intro x h
    simp only [squash, Tree.get] at h
    split at h
    · rename_i hc
      obtain ⟨a, h1, h2⟩ := ih x h
      exact ⟨a, by simp [Tree.get, hc, h1], h2⟩
    · cases h
  | ite c t e iht ihe =>
    intro x h
    simp only [squash] at h
    have plain : (Tree.ite c (squash join t) (squash join e)).get ρ = some x → ∃ a, (Tree.ite c t e).get ρ = some a ∧ R a x := by
      intro h
      simp only [Tree.get] at h ⊢
      cases hc : (c.den ρ).asBool
      · rw [hc] at h; exact ihe x h
      · rw [hc] at h; exact iht x h
    split at h
    · rename_i cs a ds b ha hb
      split at h
      · rename_i y hy
        obtain ⟨h1, h2⟩ := Tree.get_must ρ _ _ _ h
        simp only [Tree.get, Option.some.injEq] at h1
        subst h1
        obtain ⟨j1, j2⟩ := hj c a b y hy
        simp only [Tree.get]
        cases hc : (c.den ρ).asBool
        · have : (squash join e).get ρ = some b := Tree.single_get hb (fun d hd => by
            have := h2 (impT (mkNot c) d) (List.mem_append_right _ (List.mem_map_of_mem hd))
            rw [impT_den, mkNot_den, hc] at this
            simpa using this)
          obtain ⟨z, z1, z2⟩ := ihe b this
          exact ⟨z, z1, ht _ _ _ z2 (j2 hc)⟩
        · have : (squash join t).get ρ = some a := Tree.single_get ha (fun d hd => by
            have := h2 (impT c d) (List.mem_append_left _ (List.mem_map_of_mem hd))
            rw [impT_den, hc] at this
            simpa using this)
          obtain ⟨z, z1, z2⟩ := iht a this
          exact ⟨z, z1, ht _ _ _ z2 (j1 hc)⟩
      · exact plain h
    · exact plain h

/-! ### States -/

structure Gam (ρ : Env) (G : Globs) (K : Nat → Prop) (w0 : World) (ι : Nm) (σ : St) (a : Act) (w : World) : Prop where
  size : a.tmps.size = σ.n
  defers : a.defers = []
  slots : SlotsOk ρ ι σ.heap.length σ.slots a
  heap : HR ρ G K w0 ι σ.heap w
  pc : (σ.pc.den ρ).asBool = true

/-- A state that came of another one. -/
structure StepS (σ σ' : St) : Prop where
  len : σ.heap.length ≤ σ'.heap.length
  slots : ∃ new, σ'.slots = new ++ σ.slots
  n : σ'.n = σ.n

theorem StepS.refl (σ : St) : StepS σ σ := ⟨Nat.le_refl _, ⟨[], rfl⟩, rfl⟩
theorem StepS.trans {a b c : St} (h : StepS a b) (k : StepS b c) : StepS a c := by
  obtain ⟨x, hx⟩ := h.slots
  obtain ⟨y, hy⟩ := k.slots
  exact ⟨Nat.le_trans h.len k.len, ⟨y ++ x, by rw [hy, hx, List.append_assoc]⟩, k.n.trans h.n⟩

theorem beq_false {i j : Nat} (h : i ≠ j) : Nat.beq i j = false := by
  cases hb : Nat.beq i j
  · rfl
  · exact (h (Nat.eq_of_beq_eq_true hb)).elim

theorem Slots.get_cons_ne {s : Slots} {i j : Nat} {v : Option SVal} (h : i ≠ j) : Slots.get ((j, v) :: s) i = s.get i := by
  simp only [Slots.get, beq_false h]

theorem Slots.get_cons_self {s : Slots} {i : Nat} {v : Option SVal} : Slots.get ((i, v) :: s) i = v := by
  simp only [Slots.get, Nat.beq_refl]

theorem Slots.get_append_left {s new : Slots} {i : Nat} (h : ∀ p ∈ new, p.1 ≠ i) : Slots.get (new ++ s) i = s.get i := by
  induction new with
  | nil => rfl
  | cons p r ih =>
    obtain ⟨j, v⟩ := p
    have hne : i ≠ j := fun e => h (j, v) (by simp) e.symm
    rw [List.cons_append, Slots.get_cons_ne hne]
    exact ih (fun q hq => h q (by simp [hq]))

theorem mergeS_spec {c : Tm} {n : Nat} {s1 s2 : Slots} : ∀ {keys acc s : Slots}, mergeS c n s1 s2 keys acc = some s →
    (∃ new, s = new ++ acc) ∧ ∀ i v, s.get i = some v → (∃ a b, s1.get i = some a ∧ s2.get i = some b ∧ mergeV c a b = some v ∧ v.sc n = true) ∨ ((∀ p ∈ keys, p.1 ≠ i) ∧ acc.get i = some v)
  | [], acc, s, h => by
    simp [mergeS] at h; subst h
    exact ⟨⟨[], rfl⟩, fun i v hv => .inr ⟨by simp, hv⟩⟩
  | (k, u) :: r, acc, s, h => by
    have forget : mergeS c n s1 s2 r ((k, none) :: acc) = some s → (∃ new, s = new ++ acc) ∧ ∀ i v, s.get i = some v → (∃ a b, s1.get i = some a ∧ s2.get i = some b ∧ mergeV c a b = some v ∧ v.sc n = true) ∨ ((∀ p ∈ (k, u) :: r, p.1 ≠ i) ∧ acc.get i = some v) := by
      intro h
      obtain ⟨⟨new, hn⟩, hs⟩ := mergeS_spec h
      refine ⟨⟨new ++ [(k, none)], by simp [hn]⟩, fun i v hv => ?_⟩
      rcases hs i v hv with h1 | ⟨h1, h2⟩
      · exact .inl h1
      · by_cases hik : i = k
        · subst hik; rw [Slots.get_cons_self] at h2; cases h2
        · rw [Slots.get_cons_ne hik] at h2
          refine .inr ⟨fun p hp => ?_, h2⟩
          rcases List.mem_cons.1 hp with rfl | hp
          · exact fun e => hik e.symm
          · exact h1 p hp
    unfold mergeS at h
    split at h
    · rename_i a b ha hb
      split at h
      · rename_i v hv
        split at h
        · rename_i hsc
          obtain ⟨⟨new, hn⟩, hs⟩ := mergeS_spec h
          refine ⟨⟨new ++ [(k, some v)], by simp [hn]⟩, fun i v' hv' => ?_⟩
          rcases hs i v' hv' with h1 | ⟨h1, h2⟩
          · exact .inl h1
          · by_cases hik : i = k
            · subst hik; rw [Slots.get_cons_self] at h2; simp at h2; subst h2
              exact .inl ⟨a, b, ha, hb, hv, hsc⟩
            · rw [Slots.get_cons_ne hik] at h2
              refine .inr ⟨fun p hp => ?_, h2⟩
              rcases List.mem_cons.1 hp with rfl | hp
              · exact fun e => hik e.symm
              · exact h1 p hp
        · cases h
      · split at h
        · exact forget h
        · cases h
    · exact forget h

/-- A state that covers another one. -/
def CovS (ρ : Env) (σ a x : St) : Prop := StepS σ a → StepS σ x ∧ ∀ (G : Globs) (K : Nat → Prop) (w0 : World) (ι : Nm) (act : Act) (w : World), Gam ρ G K w0 ι a act w → Gam ρ G K w0 ι x act w

theorem CovS.refl (σ a : St) : CovS ρ σ a a := fun h => ⟨h, fun _ _ _ _ _ _ h => h⟩
theorem CovS.trans {σ a b c : St} (h : CovS ρ σ a b) (k : CovS ρ σ b c) : CovS ρ σ a c := fun s =>
  ⟨(k (h s).1).1, fun G K w0 ι act w g => (k (h s).1).2 G K w0 ι act w ((h s).2 G K w0 ι act w g)⟩

theorem joinS_spec {σ : St} {c : Tm} {a b x : St} (hj : joinS σ c a b = some x) (hsc : ∀ i v, σ.slots.get i = some v → v.sc σ.heap.length = true) (hpc : (σ.pc.den ρ).asBool = true) (way : Bool) (hc : (c.den ρ).asBool = way) :
    CovS ρ σ (cond way a b) x := by
  intro sy
  unfold joinS at hj
  simp only at hj
  split at hj
  · rename_i s hs
    split at hj
    · rename_i hm hmm
      simp only [Option.some.injEq] at hj
      subst hj
      obtain ⟨⟨new, hnew⟩, hspec⟩ := mergeS_spec hs
      obtain ⟨ny, hny⟩ := sy.slots
      have hlen := (mergeH_spec hmm).1
      refine ⟨⟨by simp [hlen], ⟨new, hnew⟩, rfl⟩, ?_⟩
      intro G K w0 ι act w hy'
      have hH : HR ρ G K w0 ι (cond way a.heap b.heap) w := by
        have := hy'.heap
        cases way <;> exact this
      obtain ⟨H', _⟩ := HR.merged (ρ := ρ) hmm way hc hH
      refine ⟨by rw [hy'.size, sy.n], hy'.defers, ?_, H', hpc⟩
      intro i v hv
      simp only at hv ⊢
      rw [hlen]
      rcases hspec i v hv with ⟨u, u', hu, hu', hm', hsc'⟩ | ⟨h1, h2⟩
      · refine ⟨?_, hsc'⟩
        have hmc := (mergeV_conc (ρ := ρ) (ι := ι) c 0 _ _ _ hm').1
        rw [hc] at hmc
        cases way
        · rw [hmc]; exact (hy'.slots i u' hu').1
        · rw [hmc]; exact (hy'.slots i u hu).1
      · refine ⟨(hy'.slots i v ?_).1, hsc i v h2⟩
        rw [hny, Slots.get_append_left (fun p hp => h1 p ?_)]
        · exact h2
        · cases way
          · have htb : b.slots.take (b.slots.length - σ.slots.length) = ny := by
              have : b.slots = ny ++ σ.slots := hny
              rw [this]; simp
            rw [htb]; simp [hp]
          · have hta : a.slots.take (a.slots.length - σ.slots.length) = ny := by
              have : a.slots = ny ++ σ.slots := hny
              rw [this]; simp
            rw [hta]; simp [hp]
    · cases hj
  · cases hj

/-! ### Answers of calls -/

def CovR (ρ : Env) (n : Nat) (a x : Res) : Prop := ∀ (G : Globs) (K : Nat → Prop) (w0 : World) (ι : Nm) (w : World), HR ρ G K w0 ι a.h w → a.v.sc a.h.length = true → n ≤ a.h.length → (a.pc.den ρ).asBool = true →
  HR ρ G K w0 ι x.h w ∧ x.v.sc x.h.length = true ∧ n ≤ x.h.length ∧ (x.pc.den ρ).asBool = true ∧ x.v.conc ρ ι = a.v.conc ρ ι

theorem CovR.refl (n : Nat) (a : Res) : CovR ρ n a a := fun _ _ _ _ _ h1 h2 h3 h4 => ⟨h1, h2, h3, h4, rfl⟩
theorem CovR.trans {n : Nat} {a b c : Res} (h : CovR ρ n a b) (k : CovR ρ n b c) : CovR ρ n a c := fun G K w0 ι w h1 h2 h3 h4 => by
  obtain ⟨a1, a2, a3, a4, a5⟩ := h G K w0 ι w h1 h2 h3 h4
  obtain ⟨b1, b2, b3, b4, b5⟩ := k G K w0 ι w a1 a2 a3 a4
  exact ⟨b1, b2, b3, b4, b5.trans a5⟩

theorem joinR_spec {h0 : Heap} {pc c : Tm} {a b x : Res} (hj : joinR h0 pc c a b = some x) (hpc : (pc.den ρ).asBool = true) (way : Bool) (hc : (c.den ρ).asBool = way) : CovR ρ h0.length (cond way a b) x := by
  unfold joinR at hj
  split at hj
  · rename_i v hv
    split at hj
    · rename_i hsc
      split at hj
      · rename_i hm hmm
        simp only [Option.some.injEq] at hj
        subst hj
        intro G K w0 ι w h1 h2 h3 h4
        have hH : HR ρ G K w0 ι (cond way a.h b.h) w := by cases way <;> exact h1
        obtain ⟨H', hlen⟩ := HR.merged (ρ := ρ) hmm way hc hH
        refine ⟨H', by rw [hlen]; exact hsc, by rw [hlen]; exact Nat.le_refl _, hpc, ?_⟩
        have hmc := (mergeV_conc (ρ := ρ) (ι := ι) c 0 _ _ _ hv).1
        rw [hc] at hmc
        rw [hmc]
        cases way <;> rfl
      · cases hj
    · cases hj
  · cases hj

/-- A function does what an answer says. -/
def CallOk (ρ : Env) (G : Globs) (P : Program) (f : FuncId) (args : List SVal) (h : Heap) (x : Res) : Prop :=
  ∀ (K : Nat → Prop) (w0 : World) (ι : Nm) (w : World), HR ρ G K w0 ι h w → (∀ v ∈ args, v.sc h.length = true) →
    Calls P f (args.map (·.conc ρ ι)).toArray w fun e w' => ∃ ι' : Nm, Nm.Ext h.length ι ι' ∧ h.length ≤ x.h.length ∧ HR ρ G K w0 ι' x.h w' ∧ x.v.sc x.h.length = true ∧ (x.pc.den ρ).asBool = true ∧ e = .returned (x.v.conc ρ ι')

/-- What is known of functions is so. -/
def Specs.Ok (ρ : Env) (cx : Cx) (S : Specs) : Prop :=
  ∀ f sp, S f = some sp → ∀ args h pc x, (pc.den ρ).asBool = true → (sp args h pc).get ρ = some x → CallOk ρ cx.globs cx.P f args h x

def Ex.exit' : Ex → Exit
  | .normal => .normal
  | .exit id => .exit id
  | .ret => .ret

/-- The executor of code is right. -/
def RunOk (ρ : Env) (cx : Cx) (runC : Code → St → Tree (Ex × St)) : Prop :=
  ∀ c σ e σ', (runC c σ).get ρ = some (e, σ') → ∀ (K : Nat → Prop) (w0 : World) (ι : Nm) (a : Act) (w : World), Gam ρ cx.globs K w0 ι σ a w →
    ∀ Q : Exit → Act → World → Prop, (∀ ι' a' w', StepS σ σ' → Nm.Ext σ.heap.length ι ι' → Gam ρ cx.globs K w0 ι' σ' a' w' → Q e.exit' a' w') → c.wp cx.P Q a w

theorem argSlots_get : ∀ (args : List SVal) (k i : Nat) (v : SVal), (argSlots k args).get i = some v → k ≤ i ∧ args[i - k]? = some v
  | [], k, i, v, h => by simp [argSlots, Slots.get] at h
  | a :: r, k, i, v, h => by
    simp only [argSlots] at h
    by_cases hik : i = k
    · subst hik
      rw [Slots.get_cons_self] at h
      simp at h; subst h
      exact ⟨Nat.le_refl _, by simp⟩
    · rw [Slots.get_cons_ne hik] at h
      obtain ⟨h1, h2⟩ := argSlots_get r (k + 1) i v h
      refine ⟨by omega, ?_⟩
      have : i - k = (i - (k + 1)) + 1 := by omega
      rw [this]; simpa using h2

theorem resultsT_spec {cx : Cx} {σ : St} {a : Act} (H : Gam ρ cx.globs K w0 ι σ a w) (f : ResultVar → Sem Value) (hf1 : ∀ t, f (.tmp t) = pure (a.tmps.getD t undef)) (hf2 : ∀ p t, f (.cell p t) = (do loadVar t (← asAddr (a.tmps.getD p undef)))) :
    ∀ {rs : List ResultVar} {vs : List SVal}, resultsT cx σ rs = some vs → (rs.mapM f).run cx.P w = .ok (vs.map (·.conc ρ ι)) w ∧ ∀ v ∈ vs, v.sc σ.heap.length = true
  | [], vs, h => by simp [resultsT] at h; subst h; simp
  | .tmp t :: r, vs, h => by
    unfold resultsT at h
    split at h
    · rename_i v l hv hl
      simp at h; subst h
      obtain ⟨h1, h2⟩ := H.slots t v hv
      obtain ⟨h3, h4⟩ := resultsT_spec H f hf1 hf2 hl
      have e : a.tmps.getD t undef = v.conc ρ ι := by simp [Array.getD_eq_getD_getElem?, h1]
      refine ⟨by rw [List.mapM_cons, hf1]; simp only [Sem.run_bind, Sem.run_pure, Result.andThen_ok, h3, e, List.map_cons], ?_⟩
      intro u hu
      rcases List.mem_cons.1 hu with rfl | hu
      · exact h2
      · exact h4 u hu
    · cases h
  | .cell p t :: r, vs, h => by
    unfold resultsT at h
    split at h
    · rename_i b off l hv hl
      split at h
      · rename_i v hld
        simp at h; subst h
        obtain ⟨h1, h2⟩ := H.slots p _ hv
        obtain ⟨h3, h4⟩ := resultsT_spec H f hf1 hf2 hl
        obtain ⟨h5, h6⟩ := run_loadT H.heap hld (by simp)
        have e : a.tmps.getD p undef = (SVal.ptr b off).conc ρ ι := by simp [Array.getD_eq_getD_getElem?, h1]
        have h5' : (loadVar t ⟨ι.blk b, off, none⟩).run cx.P w = .ok (v.conc ρ ι) w := by
          simpa [Instr.loadAt, SVal.conc, Instr.sureAddr] using h5
        have ha : (asAddr ((SVal.ptr b off).conc ρ ι)).run cx.P w = .ok ⟨ι.blk b, off, none⟩ w := by simp [SVal.conc, asAddr]
        refine ⟨by rw [List.mapM_cons, hf2]; simp only [Sem.run_bind, Sem.run_pure, Result.andThen_ok, h3, e, ha, h5', List.map_cons], ?_⟩
        intro u hu
        rcases List.mem_cons.1 hu with rfl | hu
        · exact h6
        · exact h4 u hu
      · cases h
    · cases h

theorem resultT_spec {cx : Cx} {σ : St} {a : Act} {fn : Func} {v : SVal} (H : Gam ρ cx.globs K w0 ι σ a w) (h : resultT cx fn σ = some v) :
    (results fn a.tmps).run cx.P w = .ok (v.conc ρ ι) w ∧ v.sc σ.heap.length = true := by
  have key : ∀ vs, resultsT cx σ fn.results.toList = some vs → (results fn a.tmps).run cx.P w = .ok (if hh : (vs.map (·.conc ρ ι)).toArray.size = 1 then (vs.map (·.conc ρ ι)).toArray[0] else .tuple (vs.map (·.conc ρ ι)).toArray) w ∧ ∀ u ∈ vs, u.sc σ.heap.length = true := by
    intro vs hvs
    have h2 := (resultsT_spec H (fun r => ResultVar.rec (fun t => pure (a.tmps.getD t undef)) (fun p t => do loadVar t (← asAddr (a.tmps.getD p undef))) r) (fun _ => rfl) (fun _ _ => rfl) hvs).2
    refine ⟨?_, h2⟩
    unfold results
    rw [Array.mapM_eq_mapM_toList]
    simp only [Sem.run_bind, Sem.run_map]
    have h1 := fun f hf1 hf2 => (resultsT_spec H f hf1 hf2 hvs).1
    rw [h1 _ (fun _ => rfl) (fun _ _ => rfl)]
    rfl
  unfold resultT at h
  split at h
  · rename_i u hu
    simp at h; subst h
    obtain ⟨h1, h2⟩ := key _ hu
    exact ⟨by rw [h1]; simp, h2 u (by simp)⟩
  · rename_i l hne hu
    simp at h; subst h
    obtain ⟨h1, h2⟩ := key _ hu
    refine ⟨?_, by simp only [SVal.sc]; exact SVal.sc_ofList _ h2⟩
    rw [h1]
    have : (l.map (·.conc ρ ι)).toArray.size ≠ 1 := by
      intro e
      simp at e
      match l, e with
      | [x], _ => exact hne x rfl
    rw [dif_neg this]
    simp [SVal.conc, SVal.concL_ofList]
  · cases h

theorem callT_ok {cx : Cx} {S : Specs} (hS : S.Ok ρ cx) {runC : Code → St → Tree (Ex × St)} (hR : RunOk ρ cx runC) {f : FuncId} {args : List SVal} {h : Heap} {pc : Tm} {x : Res}
    (hpc : (pc.den ρ).asBool = true) (hx : (callT cx S runC f args h pc).get ρ = some x) : CallOk ρ cx.globs cx.P f args h x := by
  unfold callT at hx
  split at hx
  · rename_i sp hsp
    exact hS f sp hsp args h pc x hpc hx
  · split at hx
    · simp [Tree.get] at hx
    · rename_i fn hfn
      split at hx
      · simp [Tree.get] at hx
      · rename_i c hc
        split at hx
        · simp [Tree.get] at hx
        · rename_i hle
          have hle := Nat.le_of_ble_eq_true hle
          obtain ⟨y, hy1, hy2⟩ := squash_get (ρ := ρ) (CovR ρ h.length) (CovR.refl _) (fun _ _ _ => CovR.trans) (fun c a b z hz => ⟨fun hc => joinR_spec (joinRs_eq hz) hpc true hc, fun hc => joinR_spec (joinRs_eq hz) hpc false hc⟩) _ _ hx
          rw [Tree.get_bind] at hy1
          simp only [Option.bind_eq_some_iff] at hy1
          obtain ⟨⟨e, σ⟩, hr1, hr2⟩ := hy1
          have entry : ∀ (K : Nat → Prop) (w0 : World) (ι : Nm) (w : World), HR ρ cx.globs K w0 ι h w → (∀ v ∈ args, v.sc h.length = true) →
              Gam ρ cx.globs K w0 ι { n := fn.ntmps, slots := argSlots 0 args, heap := h, pc := pc } { tmps := (args.map (·.conc ρ ι)).toArray ++ Array.replicate (fn.ntmps - (args.map (·.conc ρ ι)).toArray.size) undef, defers := [] } w := by
            intro K w0 ι w H hsc
            refine ⟨by simp; omega, rfl, ?_, H, hpc⟩
            intro i v hv
            obtain ⟨_, h2⟩ := argSlots_get args 0 i v hv
            simp only [Nat.sub_zero] at h2
            refine ⟨?_, hsc v (List.mem_of_getElem? h2)⟩
            have hi := (List.getElem?_eq_some_iff.1 h2).1
            rw [Array.getElem?_append_left (by simpa using hi)]
            simp [h2]
          cases e with
          | exit id => simp [Tree.get] at hr2
          | _ =>
            simp only at hr2
            split at hr2
            · rename_i v hv
              simp only [Tree.get, Option.some.injEq] at hr2
              subst hr2
              intro K w0 ι w H hsc
              refine calls_of_wp hfn hc (hR _ _ _ _ hr1 K w0 ι _ w (entry K w0 ι w H hsc) _ ?_)
              intro ι' a' w' s1 hext g
              obtain ⟨r1, r2⟩ := resultT_spec g hv
              obtain ⟨c1, c2, c3, c4, c5⟩ := hy2 cx.globs K w0 ι' w' g.heap r2 s1.len g.pc
              exact ⟨g.defers, _, r1, ι', hext, c3, c1, c2, c4, by rw [c5]⟩
            · simp [Tree.get] at hr2

/-! ### Operations -/

theorem Sem_run_invoke_enter {cx : Cx} (ok : cx.Ok) {f : FuncId} {fn : Func} {c : Code} (hf : cx.P.funcs[f]? = some fn) (hb : fn.body = some c) (args : Array Value) (w : World) : (callFunc f args).run cx.P w = .ok (.enter f args) w := by
  have hn := ok.names f fn hf
  simp only [callFunc, Sem.run_bind, run_program, Result.andThen_ok, hf, hn, hb, Option.isNone_some, Bool.false_eq_true, if_false, Sem.run_pure]

/-- AN OPERATION. -/
theorem opT_ok {cx : Cx} (ok : cx.Ok) {S : Specs} (hS : S.Ok ρ cx) (hB : ∀ f, S f ≠ none → ∃ fn c, cx.P.funcs[f]? = some fn ∧ fn.body = some c) {runC : Code → St → Tree (Ex × St)} (hR : RunOk ρ cx runC) {σ : St} {o : Oper} {x : Res} (hx : (opT cx S runC σ o).get ρ = some x)
    {a : Act} (hs : SlotsOk ρ ι σ.heap.length σ.slots a) (H : HR ρ cx.globs K w0 ι σ.heap w) (hpc : (σ.pc.den ρ).asBool = true) (next : Act → World → Prop) (Q : Exit → Act → World → Prop)
    (hn : ∀ ι' w', Nm.Ext σ.heap.length ι ι' → σ.heap.length ≤ x.h.length → HR ρ cx.globs K w0 ι' x.h w' → x.v.sc x.h.length = true → (x.pc.den ρ).asBool = true → next (a.put o.dst (x.v.conc ρ ι')) w') :
    o.wp cx.P a w next Q := by
  unfold opT at hx
  split at hx
  · rename_i v cs hp
    obtain ⟨h1, h2⟩ := Tree.get_must ρ _ _ _ hx
    simp only [Tree.get, Option.some.injEq] at h1
    subst h1
    obtain ⟨r1, r2⟩ := run_pureOp ok hp hs H hpc h2
    unfold Oper.wp
    rw [r1]
    exact hn ι w (Nm.Ext.refl _ _) (Nat.le_refl _) H r2 hpc
  · split at hx
    · rename_i v h' hp
      simp only [Tree.get, Option.some.injEq] at hx
      subst hx
      obtain ⟨ι', w', nx, r1, r2, r3, r4, r5, r6⟩ := run_heapOp hp hs H
      unfold Oper.wp
      rw [r1]
      rcases r2 with rfl | ⟨rfl, rfl⟩
      · exact hn ι' w' r3 r4 r5 r6 hpc
      · have := hn ι' w' r3 r4 r5 r6 hpc
        simpa [Oper.upon, undefS, SVal.conc, SVal.concL, undef] using this
    · split at hx
      · rename_i c ho
        split at hx
        · rename_i f hcal
          split at hx
          · rename_i g first captured args hf hargs
            have hcall := callT_ok hS hR hpc hx
            obtain ⟨f1, f2⟩ := evO_conc hs hf
            obtain ⟨a1, a2⟩ := evs_conc hs hargs
            simp only [SVal.sc, Bool.and_eq_true] at f2
            have hsc : ∀ v ∈ first.toList ++ args ++ captured.toList, v.sc σ.heap.length = true := by
              intro v hv
              simp only [List.mem_append] at hv
              rcases hv with (hv | hv) | hv
              · exact SVal.sc_toList _ f2.1 v hv
              · exact a2 v hv
              · exact SVal.sc_toList _ f2.2 v hv
            have hc := hcall K w0 ι w H hsc
            have hbody : ∃ fn c, cx.P.funcs[g]? = some fn ∧ fn.body = some c := by
              cases hSg : S g with
              | some sp => exact hB g (by simp [hSg])
              | none =>
                unfold callT at hx
                rw [hSg] at hx
                simp only at hx
                split at hx
                · simp [Tree.get] at hx
                · rename_i fn hfn
                  split at hx
                  · simp [Tree.get] at hx
                  · rename_i c' hc'
                    exact ⟨fn, c', hfn, hc'⟩
            obtain ⟨fn, cb, hfn, hcb⟩ := hbody
            have hrun : (execOp a.eval o).run cx.P w = .ok (.enter g ((first.toList ++ args ++ captured.toList).map (·.conc ρ ι)).toArray) w := by
              have eargs : c.args.map a.eval = (args.map (·.conc ρ ι)).toArray := by apply Array.ext'; simp [a1]
              simp only [SVal.conc] at f1
              simp only [execOp, ho, resolve, hcal, f1, Deferred.ofValue, Sem.run_bind, Sem.run_pure, Result.andThen_ok, invoke, eargs]
              rw [Sem_run_invoke_enter ok hfn hcb]
              congr 2
              apply Array.ext'
              simp [SVal.concL_toList]
            unfold Oper.wp
            rw [hrun]
            simp only [Oper.upon]
            refine hc.mono fun e w' he => ?_
            obtain ⟨ι', e1, e2, e3, e4, e5, rfl⟩ := he
            exact hn ι' w' e1 e2 e3 e4 e5
          · simp [Tree.get] at hx
        · simp [Tree.get] at hx
      · simp [Tree.get] at hx

theorem guardT_ok {ops : Array Oper} {σ : St} {o : Oper} {g : Tm} {a : Act} (hs : SlotsOk ρ ι σ.heap.length σ.slots a) (hg : guardT ops.toList σ o = some g) :
    Region.wanted o (yielded ops a.tmps) = (g.den ρ).asBool := by
  unfold guardT at hg
  unfold Region.wanted
  split at hg
  · rename_i h0; simp at hg; subst hg; simp [h0, Tm.den]
  · rename_i j want h0
    split at hg
    · rename_i oj hoj
      have hoj' : ops[j]? = some oj := by simpa using hoj
      split at hg
      · rename_i d hd
        split at hg
        · rename_i t ht
          obtain ⟨h1, _⟩ := hs d _ ht
          simp only [SVal.conc] at h1
          have hy : yielded ops a.tmps j = some (t.den ρ).asBool := by simp [yielded, hoj', hd, h1]
          simp only [Option.some.injEq] at hg
          subst hg
          simp only [h0, hy]
          cases want
          · simp only [mkNot_den]; cases (t.den ρ).asBool <;> rfl
          · cases (t.den ρ).asBool <;> rfl
        · rename_i ht
          obtain ⟨h1, _⟩ := hs d _ ht
          simp only [SVal.conc, SVal.concL] at h1
          have hy : yielded ops a.tmps j = none := by simp [yielded, hoj', hd, h1]
          simp at hg; subst hg
          simp [h0, hy, Tm.den]
        · cases hg
      · cases hg
    · cases hg

theorem put_slots {n : Nat} {σ : St} {a : Act} {d : Option Nat} {v : SVal} (hsz : a.tmps.size = σ.n) (hs : SlotsOk ρ ι n σ.slots a) (hv : v.sc n = true) :
    SlotsOk ρ ι n (σ.put d v).slots (a.put d (v.conc ρ ι)) ∧ (a.put d (v.conc ρ ι)).tmps.size = σ.n ∧ (a.put d (v.conc ρ ι)).defers = a.defers := by
  cases d with
  | none => exact ⟨hs, hsz, rfl⟩
  | some d =>
    refine ⟨?_, by simp [Act.put, hsz], rfl⟩
    intro i u hu
    simp only [St.put] at hu
    by_cases hid : i = d
    · subst hid
      rw [Slots.get_cons_self] at hu
      split at hu
      · rename_i hlt
        have hlt : i < σ.n := Nat.lt_of_succ_le (Nat.le_of_ble_eq_true hlt)
        simp at hu; subst hu
        exact ⟨by simp [Act.put, hsz, hlt], hv⟩
      · cases hu
    · rw [Slots.get_cons_ne hid] at hu
      obtain ⟨h1, h2⟩ := hs i u hu
      refine ⟨?_, h2⟩
      simp only [Act.put]
      rw [Array.getElem?_setIfInBounds_ne (by omega)]
      exact h1

theorem SlotsOk.ext {n m : Nat} {ι' : Nm} {s : Slots} {a : Act} (hs : SlotsOk ρ ι n s a) (e : Nm.Ext n ι ι') (hnm : n ≤ m) : SlotsOk ρ ι' m s a := by
  intro i v hv
  obtain ⟨h1, h2⟩ := hs i v hv
  exact ⟨by rw [(SVal.conc_ext (ρ := ρ) e v h2).1]; exact h1, SVal.sc_mono hnm _ h2⟩

theorem put_step (σ : St) (h' : Heap) (pc' : Tm) (d : Option Nat) (v : SVal) (hl : σ.heap.length ≤ h'.length) : StepS σ ({ σ with heap := h', pc := pc' }.put d v) := by
  cases d with
  | none => exact ⟨hl, ⟨[], rfl⟩, rfl⟩
  | some d => exact ⟨hl, ⟨[_], rfl⟩, rfl⟩

/-- A REGION IN THE ORDER OF THE TEXT. -/
theorem opsT_ok {cx : Cx} (ok : cx.Ok) {S : Specs} (hS : S.Ok ρ cx) (hB : ∀ f, S f ≠ none → ∃ fn c, cx.P.funcs[f]? = some fn ∧ fn.body = some c) {runC : Code → St → Tree (Ex × St)} (hR : RunOk ρ cx runC) {ops : Array Oper} (Q : Exit → Act → World → Prop) :
    ∀ (r : List Oper) (i : Nat) (σ : St) (σ' : St), (∀ j, r[j]? = ops[i + j]?) → (opsT cx S runC ops.toList r σ).get ρ = some σ' →
    ∀ (K : Nat → Prop) (w0 : World) (ι : Nm) (a : Act) (w : World), Gam ρ cx.globs K w0 ι σ a w → (∀ ι' a' w', StepS σ σ' → Nm.Ext σ.heap.length ι ι' → Gam ρ cx.globs K w0 ι' σ' a' w' → Q .normal a' w') → wpOps cx.P ops Q (List.range' i r.length) a w
  | [], i, σ, σ', _, hx, K, w0, ι, a, w, g, hq => by
    simp only [opsT, Tree.get, Option.some.injEq] at hx
    subst hx
    simp only [List.length_nil, List.range'_zero, wpOps]
    exact hq ι a w (StepS.refl _) (Nm.Ext.refl _ _) g
  | o :: r, i, σ, σ', hr, hx, K, w0, ι, a, w, g, hq => by
    have hoi : ops[i]? = some o := by have := hr 0; simpa using this.symm
    have hr' : ∀ j, r[j]? = ops[(i + 1) + j]? := fun j => by
      have := hr (j + 1)
      rw [show i + (j + 1) = i + 1 + j by omega] at this
      simpa using this
    simp only [List.length_cons, List.range'_succ, wpOps, hoi]
    -- the two ways
    have go : ∀ pc', (pc'.den ρ).asBool = true → ((opT cx S runC { σ with pc := pc' } o).bind fun x => opsT cx S runC ops.toList r ({ { σ with pc := pc' } with heap := x.h, pc := x.pc }.put o.dst x.v)).get ρ = some σ' →
        o.wp cx.P a w (wpOps cx.P ops Q (List.range' (i + 1) r.length)) Q := by
      intro pc' hpc' hh
      rw [Tree.get_bind] at hh
      simp only [Option.bind_eq_some_iff] at hh
      obtain ⟨x, hx1, hx2⟩ := hh
      refine opT_ok ok hS hB hR hx1 g.slots g.heap hpc' _ _ ?_
      intro ι' w' e1 e2 e3 e4 e5
      have hs1 := SlotsOk.ext g.slots e1 e2
      obtain ⟨p1, p2, p3⟩ := put_slots (σ := { { σ with pc := pc' } with heap := x.h, pc := x.pc }) (d := o.dst) (v := x.v) g.size hs1 e4
      have hst : StepS σ ({ { σ with pc := pc' } with heap := x.h, pc := x.pc }.put o.dst x.v) := put_step σ x.h x.pc o.dst x.v e2
      have hheap : ({ { σ with pc := pc' } with heap := x.h, pc := x.pc }.put o.dst x.v).heap = x.h := by cases o.dst <;> rfl
      have hpcx : ({ { σ with pc := pc' } with heap := x.h, pc := x.pc }.put o.dst x.v).pc = x.pc := by cases o.dst <;> rfl
      have hnx : ({ { σ with pc := pc' } with heap := x.h, pc := x.pc }.put o.dst x.v).n = σ.n := by cases o.dst <;> rfl
      refine opsT_ok ok hS hB hR Q r (i + 1) _ σ' hr' hx2 K w0 ι' _ w' ⟨by rw [p2, hnx], by rw [p3]; exact g.defers, by rw [hheap]; exact p1, by rw [hheap]; exact e3, by rw [hpcx]; exact e5⟩ ?_
      intro ι'' a'' w'' s'' e'' g''
      refine hq ι'' a'' w'' (hst.trans s'') ?_ g''
      exact e1.trans (by rw [hheap]; exact e2) e''
    have skip : ∀ pc', (pc'.den ρ).asBool = true → (opsT cx S runC ops.toList r ({ σ with pc := pc' }.put o.dst undefS)).get ρ = some σ' → wpOps cx.P ops Q (List.range' (i + 1) r.length) (a.put o.dst undef) w := by
      intro pc' hpc' hh
      have hu : (undefS.conc ρ ι) = undef := by simp [undefS, SVal.conc, SVal.concL, undef]
      obtain ⟨p1, p2, p3⟩ := put_slots (σ := { σ with pc := pc' }) (d := o.dst) (v := undefS) (ρ := ρ) (ι := ι) (n := σ.heap.length) g.size g.slots rfl
      rw [hu] at p1 p2 p3
      have hst : StepS σ ({ σ with pc := pc' }.put o.dst undefS) := put_step σ σ.heap pc' o.dst undefS (Nat.le_refl _)
      have hheap : ({ σ with pc := pc' }.put o.dst undefS).heap = σ.heap := by cases o.dst <;> rfl
      have hpcx : ({ σ with pc := pc' }.put o.dst undefS).pc = pc' := by cases o.dst <;> rfl
      have hnx : ({ σ with pc := pc' }.put o.dst undefS).n = σ.n := by cases o.dst <;> rfl
      refine opsT_ok ok hS hB hR Q r (i + 1) _ σ' hr' hh K w0 ι _ w ⟨by rw [p2, hnx], by rw [p3]; exact g.defers, by rw [hheap]; exact p1, by rw [hheap]; exact g.heap, by rw [hpcx]; exact hpc'⟩ ?_
      intro ι'' a'' w'' s'' e'' g''
      refine hq ι'' a'' w'' (hst.trans s'') ?_ g''
      rw [hheap] at e''; exact e''
    simp only [opsT] at hx
    split at hx
    · simp [Tree.get] at hx
    · rename_i gt hgt
      have hw := guardT_ok g.slots hgt
      split at hx
      · rename_i hd
        rw [hw, decideT_den g.pc hd]
        simp only [if_true]
        exact .inl (go σ.pc g.pc hx)
      · rename_i hd
        rw [hw, decideT_den g.pc hd]
        simp only [Bool.false_eq_true, if_false]
        exact skip σ.pc g.pc hx
      · simp only [Tree.get] at hx
        rw [hw]
        cases hg : (gt.den ρ).asBool
        · rw [hg] at hx
          simp only [Bool.false_eq_true, if_false]
          exact skip _ (by rw [mkAnd_den, mkNot_den, g.pc, hg]; rfl) hx
        · rw [hg] at hx
          simp only [if_true]
          exact .inl (go _ (by rw [mkAnd_den, g.pc, hg]; rfl) hx)

end
end Go.Sx
