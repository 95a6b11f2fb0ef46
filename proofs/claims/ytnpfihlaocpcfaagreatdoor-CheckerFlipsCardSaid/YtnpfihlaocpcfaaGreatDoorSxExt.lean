/- The executor is right: code. -/
import Derived.Test.YtnpfihlaocpcfaaGreatDoorSxSound9
import Derived.ScopeJumps
import Derived.Laws.Externs
namespace Go.Sx
noncomputable section

section
variable {ρ : Env} {cx : Cx} {S : Specs} {runC : Code → St → Tree (Ex × St)} {ops : Array Oper} {steps : List Stp} {g0 : Nat → Option SVal} {b0 : Nat → Option Blk} {n N0 N : Nat}
variable {K : Nat → Prop} {w0 : World} {ι0 : Nm}

/-! ### Whatever order -/

def unlisted (n : Nat) (listed : Array Bool) : Nat := (List.range n).countP fun j => !listed.getD j true

theorem countP_less {p q : Nat → Bool} (hpq : ∀ j, q j = true → p j = true) : ∀ (l : List Nat) (i : Nat), i ∈ l → p i = true → q i = false → l.countP q + 1 ≤ l.countP p
  | [], i, h, _, _ => by cases h
  | a :: l, i, h, hp, hq => by
    have le : ∀ l : List Nat, l.countP q ≤ l.countP p := fun l => by
      induction l with
      | nil => simp
      | cons b l ih =>
        simp only [List.countP_cons]
        cases hb : q b
        · simp; omega
        · simp [hpq b hb]; omega
    simp only [List.countP_cons]
    rcases List.mem_cons.1 h with rfl | h
    · have := le l
      simp [hp, hq]; omega
    · have := countP_less hpq l i h hp hq
      cases hb : q a
      · simp; omega
      · simp [hpq a hb]; omega

theorem mem_edgesB {e : Edge} : ∀ {l : List Edge}, e ∈ l → Region.binds .any e = true → e.on ∈ edgesB l
  | [], h, _ => by cases h
  | a :: l, h, hb => by
    unfold edgesB
    rcases List.mem_cons.1 h with rfl | h
    · rw [hb]; simp
    · split
      · exact List.mem_cons_of_mem _ (mem_edgesB h hb)
      · exact mem_edgesB h hb

theorem of_mem_edgesB {q : Nat} : ∀ {l : List Edge}, q ∈ edgesB l → ∃ e ∈ l, Region.binds .any e = true ∧ e.on = q
  | [], h => by simp [edgesB] at h
  | a :: l, h => by
    unfold edgesB at h
    split at h
    · rename_i hb
      rcases List.mem_cons.1 h with rfl | h
      · exact ⟨a, by simp, hb, rfl⟩
      · obtain ⟨e, h1, h2, h3⟩ := of_mem_edgesB h
        exact ⟨e, by simp [h1], h2, h3⟩
    · obtain ⟨e, h1, h2, h3⟩ := of_mem_edgesB h
      exact ⟨e, by simp [h1], h2, h3⟩

theorem any_ok (ok : cx.Ok) (hS : S.Ok ρ cx) (hB : ∀ f, S f ≠ none → ∃ fn c, cx.P.funcs[f]? = some fn ∧ fn.body = some c) (hR : RunOk ρ cx runC) (T : TraceOk ρ cx S runC ops steps g0 b0 n N0 N) {D : List Deferred} (Q : Exit → Act → World → Prop)
    (hq : ∀ (L : Nat → Bool) (ι : Nm) (a : Act) (w : World), (∀ j, j < ops.size → L j = true) → Inv ρ cx.globs K w0 D steps g0 b0 n N N0 ι0 L ι a w → Q .normal a w) :
    ∀ (fuel : Nat) (listed : Array Bool) (ι : Nm) (a : Act) (w : World), listed.size = ops.size → Closed steps (fun j => listed.getD j false) → unlisted ops.size listed ≤ fuel →
      Inv ρ cx.globs K w0 D steps g0 b0 n N N0 ι0 (fun j => listed.getD j false) ι a w → wpAny cx.P .any ops Q fuel listed a w := by
  have stepAt : ∀ i, i < ops.size → ∃ s, steps[i]? = some s ∧ ops[i]? = some s.o := by
    intro i hi
    have : i < steps.length := by rw [T.len]; exact hi
    exact ⟨steps[i], List.getElem?_eq_getElem this, (T.step i _ (List.getElem?_eq_getElem this)).oper⟩
  have finished : ∀ listed : Array Bool, listed.size = ops.size → Region.ready .any ops listed = [] → ∀ j, j < ops.size → listed.getD j false = true := by
    intro listed hsz hr j hj
    cases hl : listed.getD j false
    · exfalso
      -- the least that is not listed may come up
      have : ∀ m, ∀ j, j ≤ m → j < ops.size → listed.getD j false = false → False := by
        intro m
        induction m using Nat.strongRecOn with
        | _ m ih =>
          intro j hjm hj hl
          by_cases hex : ∃ k, k < j ∧ listed.getD k false = false
          · obtain ⟨k, hk1, hk2⟩ := hex
            exact ih k (by omega) k (Nat.le_refl _) (by omega) hk2
          · obtain ⟨s, hs, ho⟩ := stepAt j hj
            have hmem : j ∈ Region.ready .any ops listed := by
              refine mem_ready.2 ⟨?_, s.o, ho, ?_⟩
              · have hjs : j < listed.size := by omega
                simp only [Array.getD_eq_getD_getElem?, Array.getElem?_eq_getElem hjs, Option.getD_some] at hl ⊢
                exact hl
              · intro e he hb
                have hlt := T.edges j s hs e.on (mem_edgesB (Array.mem_toList_iff.2 he) hb)
                cases hle : listed.getD e.on false
                · exact (hex ⟨e.on, hlt, hle⟩).elim
                · rfl
            rw [hr] at hmem
            cases hmem
      exact this j j (Nat.le_refl _) hj hl
    · rfl
  intro fuel
  induction fuel with
  | zero =>
    intro listed ι a w hsz hcl hun I
    have hr : Region.ready .any ops listed = [] := by
      cases hr : Region.ready .any ops listed with
      | nil => rfl
      | cons i l =>
        have hi : i ∈ Region.ready .any ops listed := by rw [hr]; simp
        obtain ⟨h1, o, h2, h3⟩ := mem_ready.1 hi
        have hlt : i < ops.size := by
          have := (Array.getElem?_eq_some_iff.1 h2).1; exact this
        have : 0 < unlisted ops.size listed := List.countP_pos_iff.2 ⟨i, by simp [hlt], by simp [h1]⟩
        omega
    exact ⟨hr, hq _ ι a w (finished listed hsz hr) I⟩
  | succ fuel ih =>
    intro listed ι a w hsz hcl hun I
    refine ⟨fun hr => hq _ ι a w (finished listed hsz hr) I, ?_⟩
    intro i hi
    obtain ⟨h1, o, h2, h3⟩ := mem_ready.1 hi
    have hlt : i < ops.size := (Array.getElem?_eq_some_iff.1 h2).1
    obtain ⟨s, hs, ho⟩ := stepAt i hlt
    have hos : o = s.o := by rw [h2] at ho; simpa using ho
    subst hos
    have hlts : i < listed.size := by omega
    have hLi : listed.getD i false = false := by
      simp only [Array.getD_eq_getD_getElem?, Array.getElem?_eq_getElem hlts, Option.getD_some] at h1 ⊢
      exact h1
    have hpre : ∀ e ∈ edgesB s.o.after.toList, listed.getD e false = true := by
      intro e he
      obtain ⟨ed, k1, k2, k3⟩ := of_mem_edgesB he
      rw [← k3]
      exact h3 ed (Array.mem_toList_iff.1 k1) k2
    have hfun : (fun j => (listed.setIfInBounds i true).getD j false) = fun j => listed.getD j false || Nat.beq j i := by
      funext j
      by_cases hji : j = i
      · subst hji
        simp [Array.getD_eq_getD_getElem?, hlts]
      · rw [beq_false hji]
        simp only [Array.getD_eq_getD_getElem?, Bool.or_false]
        rw [Array.getElem?_setIfInBounds_ne (by omega)]
    refine step_inv K w0 ok hS hB hR T hcl hs hLi hpre I _ Q ?_
    intro ι' a' w' I'
    refine ih (listed.setIfInBounds i true) ι' a' w' (by simpa using hsz) ?_ ?_ (by rw [hfun]; exact I')
    · rw [hfun]
      intro j s' hs' hL e he
      simp only [Bool.or_eq_true] at hL ⊢
      rcases hL with hL | hL
      · exact .inl (hcl j s' hs' hL e he)
      · have := Nat.eq_of_beq_eq_true hL
        subst this
        rw [hs] at hs'; simp at hs'; subst hs'
        exact .inl (hpre e he)
    · have := countP_less (p := fun j => !listed.getD j true) (q := fun j => !(listed.setIfInBounds i true).getD j true) (by
        intro j hj
        by_cases hji : j = i
        · subst hji; simp [Array.getD_eq_getD_getElem?, hlts] at hj
        · simp only [Array.getD_eq_getD_getElem?] at hj ⊢
          rw [Array.getElem?_setIfInBounds_ne (by omega)] at hj
          exact hj) (List.range ops.size) i (by simp [hlt]) (by simp [h1]) (by simp [Array.getD_eq_getD_getElem?, hlts])
      simp only [unlisted] at hun ⊢
      omega

/-! ### The steps in the order of the text -/

theorem foldW_append {V : Type} (wrt : Stp → Nat → Option V) (L : Nat → Bool) : ∀ (a b : List Stp) (j : Nat) (g : Nat → V), foldW wrt L j (a ++ b) g = foldW wrt L (j + a.length) b (foldW wrt L j a g)
  | [], b, j, g => by simp [foldW]
  | s :: a, b, j, g => by
    simp only [List.cons_append, foldW, List.length_cons]
    rw [foldW_append wrt L a b (j + 1)]
    congr 1; omega

theorem foldW_prefix {V : Type} (wrt : Stp → Nat → Option V) (pre tr : List Stp) (g : Nat → V) : foldW wrt (fun j => Nat.blt j pre.length) 0 (pre ++ tr) g = foldW wrt (fun _ => true) 0 pre g := by
  rw [foldW_append]
  have h1 : foldW wrt (fun j => Nat.blt j pre.length) 0 pre g = foldW wrt (fun _ => true) 0 pre g := by
    funext k
    refine foldW_congr wrt pre 0 g g k rfl ?_
    intro t s ht _
    have := (List.getElem?_eq_some_iff.1 ht).1
    rw [Nat.zero_add]
    exact Nat.ble_eq_true_of_le this
  rw [h1]
  funext k
  have h2 : foldW wrt (fun j => Nat.blt j pre.length) (0 + pre.length) tr (foldW wrt (fun _ => true) 0 pre g) k = foldW wrt (fun _ => false) (0 + pre.length) tr (foldW wrt (fun _ => true) 0 pre g) k := by
    refine foldW_congr wrt tr _ _ _ k rfl ?_
    intro t s _ _
    cases hb : Nat.blt (0 + pre.length + t) pre.length
    · rfl
    · have := Nat.le_of_ble_eq_true hb; omega
  rw [h2, foldW_none wrt (fun _ => rfl)]

theorem foldW_snoc {V : Type} (wrt : Stp → Nat → Option V) (pre : List Stp) (s : Stp) (g : Nat → V) (k : Nat) : foldW wrt (fun _ => true) 0 (pre ++ [s]) g k = (wrt s k).getD (foldW wrt (fun _ => true) 0 pre g k) := by
  rw [foldW_append]; rfl

theorem restrictH_get {F : List Nat} : ∀ {h : Heap} {q m : Nat} {b : Blk}, (restrictH F q h)[m]? = some (some b) → q + m ∈ F ∧ h[m]? = some (some b)
  | [], q, m, b, hb => by simp [restrictH_nil] at hb
  | c :: h, q, 0, b, hb => by
    simp only [restrictH_c, List.getElem?_cons_zero, Option.some.injEq] at hb
    split at hb
    · rename_i hm; subst hb; exact ⟨memN_iff.1 hm, by simp⟩
    · cases hb
  | c :: h, q, m + 1, b, hb => by
    simp only [restrictH_c, List.getElem?_cons_succ] at hb
    obtain ⟨h1, h2⟩ := restrictH_get hb
    exact ⟨by rwa [show q + (m + 1) = q + 1 + m by omega], by simpa using h2⟩

theorem restrictH_length {F : List Nat} : ∀ {h : Heap} {q : Nat}, (restrictH F q h).length = h.length
  | [], q => rfl
  | c :: h, q => by simp [restrictH_c, restrictH_length]

theorem overlayH_length {W : List Nat} : ∀ {h x : Heap} {q : Nat}, h.length ≤ x.length → (overlayH W q h x).length = x.length
  | [], x, q, _ => by simp [overlayH_nil]
  | c :: h, [], q, hl => by simp at hl
  | c :: h, d :: x, q, hl => by simp [overlayH_c, overlayH_length (W := W) (h := h) (x := x) (q := q + 1) (by simpa using hl)]

theorem overlayH_get {W : List Nat} : ∀ {h x : Heap} {q m : Nat}, h.length ≤ x.length → (overlayH W q h x)[m]? = match memN (q + m) W || Nat.ble h.length m with | true => x[m]? | false => h[m]?
  | [], x, q, m, _ => by simp [overlayH_nil, Nat.ble_eq_true_of_le (Nat.zero_le m)]
  | c :: h, [], q, m, hl => by simp at hl
  | c :: h, d :: x, q, 0, hl => by
    have : Nat.ble (c :: h).length 0 = false := by simp [Nat.ble]
    simp only [overlayH_c, List.getElem?_cons_zero, Nat.add_zero, this, Bool.or_false]
    cases memN q W <;> rfl
  | c :: h, d :: x, q, m + 1, hl => by
    simp only [overlayH_c, List.getElem?_cons_succ]
    rw [overlayH_get (by simpa using hl), show q + 1 + m = q + (m + 1) by omega]
    rfl

theorem changedN_spec {h x : Heap} : ∀ {F : List Nat}, (∀ m ∈ changedN h x F, m ∈ F) ∧ ∀ m ∈ F, m ∉ changedN h x F → h[m]? = x[m]?
  | [] => ⟨by simp [changedN], by simp⟩
  | a :: F => by
    obtain ⟨h1, h2⟩ := changedN_spec (h := h) (x := x) (F := F)
    unfold changedN
    split
    · rename_i he
      refine ⟨fun m hm => by simp [h1 m hm], fun m hm hn => ?_⟩
      rcases List.mem_cons.1 hm with rfl | hm
      · exact he
      · exact h2 m hm hn
    · refine ⟨fun m hm => ?_, fun m hm hn => ?_⟩
      · rcases List.mem_cons.1 hm with rfl | hm
        · simp
        · simp [h1 m hm]
      · simp only [List.mem_cons, not_or] at hn
        rcases List.mem_cons.1 hm with rfl | hm
        · exact (hn.1 rfl).elim
        · exact h2 m hm hn.2

theorem put_get (σ : St) (d : Option Nat) (v : SVal) (k : Nat) (o : Oper) (hd : o.dst = d) (skip : Bool) (σ' : St) (x : Res) (hx : x.v = v) (F W : List Nat) :
    (σ.put d v).slots.get k = (wrtS σ.n ⟨o, skip, σ', x, F, W⟩ k).getD (σ.slots.get k) := by
  subst hd
  rw [St.put_eq]
  unfold wrtS
  cases h : o.dst with
  | none => rfl
  | some d =>
    simp only
    by_cases hk : k = d
    · subst hk
      rw [Slots.get_cons_self]
      simp only [Nat.beq_refl, hx, Option.getD_some]
      cases Nat.blt k σ.n <;> rfl
    · rw [Slots.get_cons_ne hk, beq_false hk]
      rfl

/-- The steps that the executor made. -/
theorem opsD_trace : ∀ (r : List Oper) (pre : List Stp) (σ σ' : St) (tr : List Stp), (∀ j, r[j]? = ops[pre.length + j]?) → (opsD cx S runC ops.toList r σ).get ρ = some (σ', tr) → (σ.pc.den ρ).asBool = true →
    (∀ k, σ.slots.get k = foldW (wrtS n) (fun _ => true) 0 pre g0 k) → (∀ m, (σ.heap[m]?).join = foldW wrtH (fun _ => true) 0 pre b0 m) → σ.n = n → (∀ s ∈ tr, s.σ.heap.length ≤ s.x.h.length) →
    tr.length = r.length ∧ (∀ (t : Nat) (s : Stp), tr[t]? = some s → StepOk ρ cx S runC ops (pre ++ tr) g0 b0 n (pre.length + t) s) ∧
    (∀ k, σ'.slots.get k = foldW (wrtS n) (fun _ => true) 0 (pre ++ tr) g0 k) ∧ (∀ m, (σ'.heap[m]?).join = foldW wrtH (fun _ => true) 0 (pre ++ tr) b0 m) ∧ StepS σ σ' ∧ (σ'.pc.den ρ).asBool = true ∧
    (∀ (t : Nat) (s : Stp), tr[t]? = some s → σ.heap.length ≤ s.σ.heap.length ∧ s.x.h.length ≤ σ'.heap.length) ∧
    (∀ (t t' : Nat) (s s' : Stp), t < t' → tr[t]? = some s → tr[t']? = some s' → s.x.h.length ≤ s'.σ.heap.length)
  | [], pre, σ, σ', tr, _, hx, hpc, hs, hh, hn, _ => by
    simp only [opsD, Tree.get, Option.some.injEq, Prod.mk.injEq] at hx
    obtain ⟨rfl, rfl⟩ := hx
    exact ⟨rfl, by simp, by simpa using hs, by simpa using hh, StepS.refl _, hpc, by simp, by simp⟩
  | o :: r, pre, σ, σ', tr, hr, hx, hpc, hs, hh, hn, hlh => by
    have hoi : ops[pre.length]? = some o := by have := hr 0; simpa using this.symm
    have hr' : ∀ (s : Stp), ∀ j, r[j]? = ops[(pre ++ [s]).length + j]? := fun s j => by
      have := hr (j + 1)
      rw [show pre.length + (j + 1) = (pre ++ [s]).length + j by simp; omega] at this
      simpa using this
    have viewSlots : ∀ (F : List Nat) (pc' : Tm) (tr' : List Stp), (viewT ops.toList { σ with pc := pc' } o F).slots = (looksT ops.toList o).map fun k => (k, foldW (wrtS n) (fun j => Nat.blt j pre.length) 0 (pre ++ tr') g0 k) := by
      intro F pc' tr'
      rw [foldW_prefix]
      simp only [viewT]
      congr 1
      funext k
      rw [hs k]
    have go : ∀ pc', (pc'.den ρ).asBool = true → (∃ g, guardT ops.toList (viewT ops.toList σ o []) o = some g ∧ (g.den ρ).asBool = true) →
        ((opT cx S runC (viewT ops.toList { σ with pc := pc' } o (touchT σ.slots σ.heap o)) o).bind fun x =>
          (opsD cx S runC ops.toList r ({ { σ with pc := pc' } with heap := overlayH (changedN (viewT ops.toList { σ with pc := pc' } o (touchT σ.slots σ.heap o)).heap x.h (touchT σ.slots σ.heap o)) 0 σ.heap x.h }.put o.dst x.v)).bind fun p =>
            Tree.leaf (p.1, (⟨o, false, viewT ops.toList { σ with pc := pc' } o (touchT σ.slots σ.heap o), x, touchT σ.slots σ.heap o, changedN (viewT ops.toList { σ with pc := pc' } o (touchT σ.slots σ.heap o)).heap x.h (touchT σ.slots σ.heap o)⟩ : Stp) :: p.2)).get ρ = some (σ', tr) →
        tr.length = (o :: r).length ∧ (∀ (t : Nat) (s : Stp), tr[t]? = some s → StepOk ρ cx S runC ops (pre ++ tr) g0 b0 n (pre.length + t) s) ∧
        (∀ k, σ'.slots.get k = foldW (wrtS n) (fun _ => true) 0 (pre ++ tr) g0 k) ∧ (∀ m, (σ'.heap[m]?).join = foldW wrtH (fun _ => true) 0 (pre ++ tr) b0 m) ∧ StepS σ σ' ∧ (σ'.pc.den ρ).asBool = true ∧
        (∀ (t : Nat) (s : Stp), tr[t]? = some s → σ.heap.length ≤ s.σ.heap.length ∧ s.x.h.length ≤ σ'.heap.length) ∧
        (∀ (t t' : Nat) (s s' : Stp), t < t' → tr[t]? = some s → tr[t']? = some s' → s.x.h.length ≤ s'.σ.heap.length) := by
      intro pc' hpc' hg hx
      rw [Tree.get_bind] at hx
      simp only [Option.bind_eq_some_iff] at hx
      obtain ⟨x, hx1, hx2⟩ := hx
      rw [Tree.get_bind] at hx2
      simp only [Option.bind_eq_some_iff] at hx2
      obtain ⟨⟨σ2, tr2⟩, hx3, hx4⟩ := hx2
      simp only [Tree.get, Option.some.injEq, Prod.mk.injEq] at hx4
      obtain ⟨rfl, rfl⟩ := hx4
      generalize hF : touchT σ.slots σ.heap o = F at *
      generalize hW : changedN (viewT ops.toList { σ with pc := pc' } o F).heap x.h F = W at *
      generalize hst : (⟨o, false, viewT ops.toList { σ with pc := pc' } o F, x, F, W⟩ : Stp) = st at *
      have hlo : st.σ.heap.length = σ.heap.length := by subst hst; simp [viewT, restrictH_length]
      have hxh : st.x = x := by subst hst; rfl
      have hle : σ.heap.length ≤ x.h.length := by
        have := hlh st (by simp)
        rw [hlo, hxh] at this; exact this
      have hWs := changedN_spec (h := (viewT ops.toList { σ with pc := pc' } o F).heap) (x := x.h) (F := F)
      rw [hW] at hWs
      have hslots : ∀ k, ({ { σ with pc := pc' } with heap := overlayH W 0 σ.heap x.h }.put o.dst x.v).slots.get k = foldW (wrtS n) (fun _ => true) 0 (pre ++ [st]) g0 k := by
        intro k
        rw [foldW_snoc, ← hs k]
        have := put_get { { σ with pc := pc' } with heap := overlayH W 0 σ.heap x.h } o.dst x.v k o rfl false (viewT ops.toList { σ with pc := pc' } o F) x rfl F W
        rw [this, ← hst]
        simp only [hn]
      have hheap : ∀ m, ((({ { σ with pc := pc' } with heap := overlayH W 0 σ.heap x.h }.put o.dst x.v).heap)[m]?).join = foldW wrtH (fun _ => true) 0 (pre ++ [st]) b0 m := by
        intro m
        have e : ({ { σ with pc := pc' } with heap := overlayH W 0 σ.heap x.h }.put o.dst x.v).heap = overlayH W 0 σ.heap x.h := by rw [St.put_eq]; cases o.dst <;> rfl
        rw [e, foldW_snoc, ← hh m, overlayH_get hle]
        have hw : wrtH st m = match memN m W || (Nat.ble σ.heap.length m && Nat.blt m x.h.length) with | true => some (x.h[m]?).join | false => none := by
          subst hst
          simp only [wrtH, viewT, restrictH_length]
          cases (memN m W || (Nat.ble σ.heap.length m && Nat.blt m x.h.length)) <;> rfl
        rw [hw, Nat.zero_add]
        cases hm : memN m W
        · cases hb : Nat.ble σ.heap.length m
          · simp
          · cases hb2 : Nat.blt m x.h.length
            · have h1 : x.h.length ≤ m := by
                rcases Nat.lt_or_ge m x.h.length with h | h
                · rw [show Nat.blt m x.h.length = true from Nat.ble_eq_true_of_le h] at hb2; cases hb2
                · exact h
              simp only [Bool.false_or, Bool.true_and, Option.getD_none]
              rw [List.getElem?_eq_none h1, List.getElem?_eq_none (Nat.le_of_ble_eq_true hb)]
            · simp
        · simp
      have hlen2 : ({ { σ with pc := pc' } with heap := overlayH W 0 σ.heap x.h }.put o.dst x.v).heap.length = x.h.length := by
        have e : ({ { σ with pc := pc' } with heap := overlayH W 0 σ.heap x.h }.put o.dst x.v).heap = overlayH W 0 σ.heap x.h := by rw [St.put_eq]; cases o.dst <;> rfl
        rw [e, overlayH_length hle]
      have hpc2 : ({ { σ with pc := pc' } with heap := overlayH W 0 σ.heap x.h }.put o.dst x.v).pc = pc' := by rw [St.put_eq]; cases o.dst <;> rfl
      have hn2 : ({ { σ with pc := pc' } with heap := overlayH W 0 σ.heap x.h }.put o.dst x.v).n = n := by rw [← hn, St.put_eq]; cases o.dst <;> rfl
      obtain ⟨i1, i2, i3, i4, i5, i6, i7, i8⟩ := opsD_trace r (pre ++ [st]) _ σ2 tr2 (hr' st) hx3 (by rw [hpc2]; exact hpc') hslots hheap hn2 (fun s hs' => hlh s (by simp [hs']))
      have eapp : pre ++ [st] ++ tr2 = pre ++ st :: tr2 := by simp
      rw [eapp] at i2 i3 i4
      have hstep0 : StepS σ ({ { σ with pc := pc' } with heap := overlayH W 0 σ.heap x.h }.put o.dst x.v) := by
        refine ⟨by rw [hlen2]; exact hle, ?_, by rw [hn2, hn]⟩
        rw [St.put_eq]
        cases o.dst with
        | none => exact ⟨[], rfl⟩
        | some d => exact ⟨[_], rfl⟩
      refine ⟨by simp [i1], ?_, i3, i4, hstep0.trans i5, i6, ?_, ?_⟩
      · intro t s ht
        cases t with
        | zero =>
          simp at ht; subst ht
          obtain ⟨g, hg1, hg2⟩ := hg
          refine ⟨?_, ?_, ?_, ⟨g, ?_, ?_⟩, ?_, ?_, ?_, ?_, ?_, ?_⟩
          · subst hst; simpa using hoi
          · rw [Nat.add_zero]
            have := viewSlots F pc' (st :: tr2)
            rw [← hst] at this ⊢
            exact this
          · subst hst; exact hpc'
          · subst hst
            show guardT ops.toList (viewT ops.toList { σ with pc := pc' } o F) o = some g
            rw [← hg1]
            rfl
          · subst hst; exact hg2
          · intro m b hb
            rw [Nat.add_zero]
            have hb' : (restrictH F 0 σ.heap)[m]? = some (some b) := by subst hst; exact hb
            obtain ⟨k1, k2⟩ := restrictH_get hb'
            rw [Nat.zero_add] at k1
            refine ⟨by subst hst; exact k1, ?_⟩
            rw [foldW_prefix, ← hh m, k2]; rfl
          · intro _; subst hst; exact hx1
          · intro h; subst hst; cases h
          · intro _ m hm hmW
            subst hst
            exact (hWs.2 m hm hmW).symm
          · intro m hm; subst hst; exact hWs.1 m hm
          · intro h; subst hst; cases h
        | succ t =>
          have := i2 t s (by simpa using ht)
          rwa [show (pre ++ [st]).length + t = pre.length + (t + 1) by simp; omega] at this
      · intro t s ht
        cases t with
        | zero =>
          simp at ht; subst ht
          rw [hlo, hxh]
          exact ⟨Nat.le_refl _, by have := i5.len; rw [hlen2] at this; exact this⟩
        | succ t =>
          obtain ⟨q1, q2⟩ := i7 t s (by simpa using ht)
          rw [hlen2] at q1
          exact ⟨by omega, q2⟩
      · intro t t' s s' hlt ht ht'
        cases t' with
        | zero => omega
        | succ t' =>
          cases t with
          | zero =>
            simp at ht; subst ht
            rw [hxh]
            have := (i7 t' s' (by simpa using ht')).1
            rw [hlen2] at this; exact this
          | succ t => exact i8 t t' s s' (by omega) (by simpa using ht) (by simpa using ht')
    have skip : ∀ pc', (pc'.den ρ).asBool = true → (∃ g, guardT ops.toList (viewT ops.toList σ o []) o = some g ∧ (g.den ρ).asBool = false) →
        ((opsD cx S runC ops.toList r ({ σ with pc := pc' }.put o.dst undefS)).bind fun p => Tree.leaf (p.1, (⟨o, true, viewT ops.toList { σ with pc := pc' } o [], ⟨undefS, σ.heap, pc'⟩, [], []⟩ : Stp) :: p.2)).get ρ = some (σ', tr) →
        tr.length = (o :: r).length ∧ (∀ (t : Nat) (s : Stp), tr[t]? = some s → StepOk ρ cx S runC ops (pre ++ tr) g0 b0 n (pre.length + t) s) ∧
        (∀ k, σ'.slots.get k = foldW (wrtS n) (fun _ => true) 0 (pre ++ tr) g0 k) ∧ (∀ m, (σ'.heap[m]?).join = foldW wrtH (fun _ => true) 0 (pre ++ tr) b0 m) ∧ StepS σ σ' ∧ (σ'.pc.den ρ).asBool = true ∧
        (∀ (t : Nat) (s : Stp), tr[t]? = some s → σ.heap.length ≤ s.σ.heap.length ∧ s.x.h.length ≤ σ'.heap.length) ∧
        (∀ (t t' : Nat) (s s' : Stp), t < t' → tr[t]? = some s → tr[t']? = some s' → s.x.h.length ≤ s'.σ.heap.length) := by
      intro pc' hpc' hg hx
      rw [Tree.get_bind] at hx
      simp only [Option.bind_eq_some_iff] at hx
      obtain ⟨⟨σ2, tr2⟩, hx3, hx4⟩ := hx
      simp only [Tree.get, Option.some.injEq, Prod.mk.injEq] at hx4
      obtain ⟨rfl, rfl⟩ := hx4
      generalize hst : (⟨o, true, viewT ops.toList { σ with pc := pc' } o [], ⟨undefS, σ.heap, pc'⟩, [], []⟩ : Stp) = st at *
      have hlo : st.σ.heap.length = σ.heap.length := by subst hst; simp [viewT, restrictH_length]
      have hxh : st.x.h = σ.heap := by subst hst; rfl
      have hslots : ∀ k, ({ σ with pc := pc' }.put o.dst undefS).slots.get k = foldW (wrtS n) (fun _ => true) 0 (pre ++ [st]) g0 k := by
        intro k
        rw [foldW_snoc, ← hs k]
        have := put_get { σ with pc := pc' } o.dst undefS k o rfl true (viewT ops.toList { σ with pc := pc' } o []) ⟨undefS, σ.heap, pc'⟩ rfl [] []
        rw [this, ← hst]
        simp only [hn]
      have hheap : ∀ m, ((({ σ with pc := pc' }.put o.dst undefS).heap)[m]?).join = foldW wrtH (fun _ => true) 0 (pre ++ [st]) b0 m := by
        intro m
        have e : ({ σ with pc := pc' }.put o.dst undefS).heap = σ.heap := by rw [St.put_eq]; cases o.dst <;> rfl
        rw [e, foldW_snoc, ← hh m]
        have hw : wrtH st m = none := by subst hst; simp [wrtH]
        rw [hw]; rfl
      have hlen2 : ({ σ with pc := pc' }.put o.dst undefS).heap.length = σ.heap.length := by rw [St.put_eq]; cases o.dst <;> rfl
      have hpc2 : ({ σ with pc := pc' }.put o.dst undefS).pc = pc' := by rw [St.put_eq]; cases o.dst <;> rfl
      have hn2 : ({ σ with pc := pc' }.put o.dst undefS).n = n := by rw [← hn, St.put_eq]; cases o.dst <;> rfl
      obtain ⟨i1, i2, i3, i4, i5, i6, i7, i8⟩ := opsD_trace r (pre ++ [st]) _ σ2 tr2 (hr' st) hx3 (by rw [hpc2]; exact hpc') hslots hheap hn2 (fun s hs' => hlh s (by simp [hs']))
      have eapp : pre ++ [st] ++ tr2 = pre ++ st :: tr2 := by simp
      rw [eapp] at i2 i3 i4
      have hstep0 : StepS σ ({ σ with pc := pc' }.put o.dst undefS) := put_step σ σ.heap pc' o.dst undefS (Nat.le_refl _)
      refine ⟨by simp [i1], ?_, i3, i4, hstep0.trans i5, i6, ?_, ?_⟩
      · intro t s ht
        cases t with
        | zero =>
          simp at ht; subst ht
          obtain ⟨g, hg1, hg2⟩ := hg
          refine ⟨?_, ?_, ?_, ⟨g, ?_, ?_⟩, ?_, ?_, ?_, ?_, ?_, ?_⟩
          · subst hst; simpa using hoi
          · rw [Nat.add_zero]
            have := viewSlots [] pc' (st :: tr2)
            rw [← hst] at this ⊢
            exact this
          · subst hst; exact hpc'
          · subst hst
            show guardT ops.toList (viewT ops.toList { σ with pc := pc' } o []) o = some g
            rw [← hg1]
            rfl
          · subst hst; exact hg2
          · intro m b hb
            have hb' : (restrictH [] 0 σ.heap)[m]? = some (some b) := by subst hst; exact hb
            have := (restrictH_get hb').1
            cases this
          · intro h; subst hst; cases h
          · intro _; subst hst; simp [viewT, restrictH_length]
          · intro h; subst hst; cases h
          · intro m hm; subst hst; cases hm
          · intro _; subst hst; rfl
        | succ t =>
          have := i2 t s (by simpa using ht)
          rwa [show (pre ++ [st]).length + t = pre.length + (t + 1) by simp; omega] at this
      · intro t s ht
        cases t with
        | zero =>
          simp at ht; subst ht
          rw [hlo, hxh]
          exact ⟨Nat.le_refl _, by have := i5.len; rw [hlen2] at this; exact this⟩
        | succ t =>
          obtain ⟨q1, q2⟩ := i7 t s (by simpa using ht)
          rw [hlen2] at q1
          exact ⟨by omega, q2⟩
      · intro t t' s s' hlt ht ht'
        cases t' with
        | zero => omega
        | succ t' =>
          cases t with
          | zero =>
            simp at ht; subst ht
            rw [hxh]
            have := (i7 t' s' (by simpa using ht')).1
            rw [hlen2] at this; exact this
          | succ t => exact i8 t t' s s' (by omega) (by simpa using ht) (by simpa using ht')
    simp only [opsD] at hx
    split at hx
    · simp [Tree.get] at hx
    · rename_i g hg
      split at hx
      · rename_i hd
        exact go σ.pc hpc ⟨g, hg, decideT_den hpc hd⟩ hx
      · rename_i hd
        exact skip σ.pc hpc ⟨g, hg, decideT_den hpc hd⟩ hx
      · simp only [Tree.get] at hx
        cases hgb : (g.den ρ).asBool
        · rw [hgb] at hx
          exact skip _ (by rw [mkAnd_den, mkNot_den, hpc, hgb]; rfl) ⟨g, hg, hgb⟩ hx
        · rw [hgb] at hx
          exact go _ (by rw [mkAnd_den, hpc, hgb]; rfl) ⟨g, hg, hgb⟩ hx

/-- A REGION WHOSE ORDER IS OPEN. -/
theorem put_dfs (σ : St) (d : Option Nat) (v : SVal) : (σ.put d v).dfs = σ.dfs := by rw [St.put_eq]; cases d <;> rfl

theorem opsD_dfs {all : List Oper} : ∀ (r : List Oper) (σ σ' : St) (tr : List Stp), (opsD cx S runC all r σ).get ρ = some (σ', tr) → σ'.dfs = σ.dfs
  | [], σ, σ', tr, h => by
    simp only [opsD, Tree.get, Option.some.injEq, Prod.mk.injEq] at h
    rw [h.1]
  | o :: r, σ, σ', tr, h => by
    have go : ∀ pc' : Tm, (((opT cx S runC (viewT all { σ with pc := pc' } o (touchT σ.slots σ.heap o)) o).bind fun x =>
        (opsD cx S runC all r ({ ({ σ with pc := pc' } : St) with heap := overlayH (changedN (viewT all { σ with pc := pc' } o (touchT σ.slots σ.heap o)).heap x.h (touchT σ.slots σ.heap o)) 0 σ.heap x.h }.put o.dst x.v)).bind fun p => Tree.leaf (p.1, (⟨o, false, viewT all { σ with pc := pc' } o (touchT σ.slots σ.heap o), x, touchT σ.slots σ.heap o, changedN (viewT all { σ with pc := pc' } o (touchT σ.slots σ.heap o)).heap x.h (touchT σ.slots σ.heap o)⟩ : Stp) :: p.2)).get ρ = some (σ', tr)) → σ'.dfs = σ.dfs := by
      intro pc' hh
      rw [Tree.get_bind] at hh
      simp only [Option.bind_eq_some_iff] at hh
      obtain ⟨x, _, h2⟩ := hh
      rw [Tree.get_bind] at h2
      simp only [Option.bind_eq_some_iff] at h2
      obtain ⟨⟨s, l⟩, h3, h4⟩ := h2
      simp only [Tree.get, Option.some.injEq, Prod.mk.injEq] at h4
      have := opsD_dfs r _ _ _ h3
      rw [← h4.1, this, put_dfs]
    have skip : ∀ pc' : Tm, ((opsD cx S runC all r (({ σ with pc := pc' } : St).put o.dst undefS)).bind fun p => Tree.leaf (p.1, (⟨o, true, viewT all { σ with pc := pc' } o [], ⟨undefS, σ.heap, pc'⟩, [], []⟩ : Stp) :: p.2)).get ρ = some (σ', tr) → σ'.dfs = σ.dfs := by
      intro pc' h2
      rw [Tree.get_bind] at h2
      simp only [Option.bind_eq_some_iff] at h2
      obtain ⟨⟨s, l⟩, h3, h4⟩ := h2
      simp only [Tree.get, Option.some.injEq, Prod.mk.injEq] at h4
      have := opsD_dfs r _ _ _ h3
      rw [← h4.1, this, put_dfs]
    simp only [opsD] at h
    split at h
    · simp [Tree.get] at h
    · split at h
      · exact go σ.pc h
      · exact skip σ.pc h
      · simp only [Tree.get] at h
        split at h
        · exact go _ h
        · exact skip _ h

theorem drawn_ok (ok : cx.Ok) (hS : S.Ok ρ cx) (hB : ∀ f, S f ≠ none → ∃ fn c, cx.P.funcs[f]? = some fn ∧ fn.body = some c) (hR : RunOk ρ cx runC) {id : Nat} {σ σ' : St} {tr : List Stp}
    (hx : (opsD cx S runC ops.toList ops.toList σ).get ρ = some (σ', tr)) (hdet : detFrom (tr.map (Stp.sum ops.toList)) = true) {ι : Nm} {a : Act} {w : World} (g : Gam ρ cx.globs K w0 ι σ a w) :
    StepS σ σ' ∧ ∀ Q : Exit → Act → World → Prop, (∀ ι' a' w', Gam ρ cx.globs K w0 ι' σ' a' w' → Nm.Ext σ.heap.length ι ι' → Q .normal a' w') → (Code.region id ops true).wp cx.P Q a w := by
  obtain ⟨d1, d2⟩ := detFrom_spec hdet
  have hlh : ∀ s ∈ tr, s.σ.heap.length ≤ s.x.h.length := by
    intro s hs
    obtain ⟨t, ht, rfl⟩ := List.getElem_of_mem hs
    exact (d1 t _ (List.getElem?_eq_getElem ht)).2.2
  obtain ⟨i1, i2, i3, i4, i5, i6, i7, i8⟩ := opsD_trace (n := σ.n) (g0 := σ.slots.get) (b0 := fun m => (σ.heap[m]?).join) ops.toList [] σ σ' tr (by simp) hx g.pc (fun _ => rfl) (fun _ => rfl) rfl hlh
  simp only [List.nil_append, List.length_nil, Nat.zero_add] at i2 i3 i4
  have hlen : tr.length = ops.size := by rw [i1]; simp
  have hb0 : ∀ (m : Nat) (b : Blk), (σ.heap[m]?).join = some b → σ.heap[m]? = some (some b) := by
    intro m b hb
    cases hx : σ.heap[m]? with
    | none => rw [hx] at hb; cases hb
    | some c => rw [hx] at hb; simp at hb; rw [hb]
  have T : TraceOk ρ cx S runC ops tr σ.slots.get (fun m => (σ.heap[m]?).join) σ.n σ.heap.length σ'.heap.length := by
    refine ⟨i2, hlen, ?_, ?_, ?_, ?_, i8, fun i s hi => (i7 i s hi).1, fun i s hi => (i7 i s hi).2, i5.len, ?_, ?_, ?_⟩
    · intro i s hi e he; exact (d1 i s hi).1 e he
    · intro i s hi; exact (d1 i s hi).2.1
    · intro i s hi; exact (d1 i s hi).2.2
    · intro i j s s' hij hi hj; exact d2 i j s s' hij hi hj
    · intro k v hv; exact (g.slots k v hv).2
    · intro m b hb; exact (g.heap.blocks m b (hb0 m b hb)).2.2
    · intro m b hb; exact (List.getElem?_eq_some_iff.1 (hb0 m b hb)).1
  refine ⟨i5, fun Q hq => ?_⟩
  refine wp_region_any ok.mixed ?_
  refine any_ok (ι0 := ι) (K := K) (w0 := w0) (D := a.defers) ok hS hB hR T Q ?_ ops.size (Array.replicate ops.size false) ι a _ (by simp) ?_ ?_ ?_
  · intro L ι' a' w' hL I
    have hLt : ∀ {V : Type} (wrt : Stp → Nat → Option V) (gg : Nat → V) (k : Nat), foldW wrt L 0 tr gg k = foldW wrt (fun _ => true) 0 tr gg k := by
      intro V wrt gg k
      refine foldW_congr wrt tr 0 gg gg k rfl ?_
      intro t s ht _
      rw [Nat.zero_add]
      exact hL t (by rw [← hlen]; exact (List.getElem?_eq_some_iff.1 ht).1)
    refine hq ι' a' w' ⟨by rw [I.size, i5.n], by rw [I.defers, opsD_dfs _ _ _ _ hx]; exact g.defers, ?_, ?_, i6⟩ I.ext
    · intro k v hv
      exact I.slots k v (by rw [hLt]; rw [← i3 k]; exact hv)
    · refine I.heap.forget ?_
      intro m b hb
      have hm := (List.getElem?_eq_some_iff.1 hb).1
      have h1 : ((List.range σ'.heap.length).map (foldW wrtH L 0 tr fun m => (σ.heap[m]?).join))[m]? = some (some b) := by
        refine rangeMap_get.2 ⟨hm, ?_⟩
        rw [hLt, ← i4 m, hb]; rfl
      have := (I.heap.blocks m b h1).2.2
      exact ⟨h1, by simpa using this⟩
  · intro j s hs hL
    exfalso
    simp only [Array.getD_eq_getD_getElem?, Array.getElem?_replicate] at hL
    split at hL <;> simp at hL
  · exact Nat.le_trans (List.countP_le_length) (by simp)
  · have hf : (fun j => (Array.replicate ops.size false).getD j false) = fun _ => false := by
      funext j
      simp only [Array.getD_eq_getD_getElem?, Array.getElem?_replicate]
      split <;> rfl
    rw [hf]
    refine ⟨Nm.Ext.refl _ _, g.size, rfl, ?_, ?_, ?_⟩
    · intro k v hv
      rw [foldW_none _ (fun _ => rfl)] at hv
      obtain ⟨h1, h2⟩ := g.slots k v hv
      exact ⟨h1, SVal.sc_mono i5.len _ h2⟩
    · refine (g.heap.drew _).forget ?_
      intro m b hb
      obtain ⟨hm, hb'⟩ := rangeMap_get.1 hb
      rw [foldW_none _ (fun _ => rfl)] at hb'
      have := hb0 m b hb'
      exact ⟨this, by simpa using SVal.sc_mono i5.len _ (g.heap.blocks m b this).2.2⟩
    · intro j s _ hL; cases hL

end

/-! ### Code -/

def CovE (ρ : Env) (σ : St) (a x : Ex × St) : Prop := a.1 = x.1 ∧ CovS ρ σ a.2 x.2

theorem joinE_spec {ρ : Env} {σ : St} {c : Tm} {a b x : Ex × St} (hj : joinE σ c a b = some x) (hsc : ∀ i v, σ.slots.get i = some v → v.sc σ.heap.length = true) (hpc : (σ.pc.den ρ).asBool = true) (way : Bool) (hc : (c.den ρ).asBool = way) :
    CovE ρ σ (cond way a b) x := by
  unfold joinE at hj
  split at hj
  · rename_i ha hb
    simp only [Option.map_eq_some_iff] at hj
    obtain ⟨y, hy, rfl⟩ := hj
    have := joinS_spec hy hsc hpc way hc
    cases way
    · exact ⟨hb, this⟩
    · exact ⟨ha, this⟩
  · cases hj

/-- Rounds of a loop. -/
theorem bitN_eq (m i : Nat) : bitN m i = m.testBit i := by
  unfold bitN
  rw [Nat.testBit]
  have h : Nat.land (Nat.shiftRight m i) 1 = 1 &&& m >>> i := Nat.and_comm (m >>> i) 1
  rw [h]
  have h2 : 1 &&& m >>> i < 2 := Nat.lt_of_le_of_lt Nat.and_le_left (by omega)
  match hx : 1 &&& m >>> i, h2 with
  | 0, _ => rfl
  | 1, _ => rfl

theorem compactN_get : ∀ (k seen : Nat) (s : Slots) (i : Nat), bitN seen i = false → (compactN k seen s).get i = s.get i
  | 0, _, _, _, _ => by rw [compactN_0]
  | k + 1, seen, [], i, _ => rfl
  | k + 1, seen, (j, v) :: r, i, h => by
    rw [compactN_c]
    split
    · rename_i hj
      have hne : i ≠ j := by
        rintro rfl
        rw [h] at hj; cases hj
      rw [Slots.get_cons_ne hne]
      exact compactN_get k seen r i h
    · rename_i hj
      by_cases hij : i = j
      · subst hij
        split
        · rw [Slots.get_cons_self, Slots.get_cons_self]
        · rw [Slots.get_cons_self, Slots.get_cons_self]
      · have hb : bitN (Nat.lor seen (Nat.shiftLeft 1 j)) i = false := by
          rw [bitN_eq] at h ⊢
          have e : Nat.lor seen (Nat.shiftLeft 1 j) = seen ||| 1 <<< j := rfl
          rw [e, Nat.testBit_or, h, Nat.one_shiftLeft, Nat.testBit_two_pow_of_ne (fun e => hij e.symm)]
          rfl
        split
        · rename_i e
          rw [e] at hb
          rw [Slots.get_cons_ne hij, Slots.get_cons_ne hij]
          exact compactN_get k 0 r i hb
        · rename_i m e
          rw [e] at hb
          rw [Slots.get_cons_ne hij, Slots.get_cons_ne hij]
          exact compactN_get k (m + 1) r i hb

theorem compactN_app : ∀ (new : Slots) (seen : Nat) (s : Slots), ∃ new', compactN new.length seen (new ++ s) = new' ++ s
  | [], _, s => ⟨[], by rw [List.length_nil, compactN_0]⟩
  | (j, v) :: r, seen, s => by
    simp only [List.length_cons, List.cons_append]
    rw [compactN_c]
    split
    · exact compactN_app r seen s
    · split
      · obtain ⟨n', h⟩ := compactN_app r 0 s
        exact ⟨(j, v) :: n', by rw [h]; rfl⟩
      · rename_i m _
        obtain ⟨n', h⟩ := compactN_app r (m + 1) s
        exact ⟨(j, v) :: n', by rw [h]; rfl⟩

theorem bitN_zero (i : Nat) : bitN 0 i = false := by rw [bitN_eq]; exact Nat.zero_testBit i

theorem compactS_step {σ s : St} (h : StepS σ s) : StepS σ (compactS σ s) := by
  refine ⟨h.len, ?_, h.n⟩
  obtain ⟨new, hn⟩ := h.slots
  unfold compactS
  simp only [hn, List.length_append, Nat.add_sub_cancel]
  exact compactN_app new 0 σ.slots

theorem compactS_gam {ρ : Env} {G : Globs} {K : Nat → Prop} {w0 w : World} {ι : Nm} {a : Act} {σ s : St} (g : Gam ρ G K w0 ι s a w) : Gam ρ G K w0 ι (compactS σ s) a w :=
  ⟨g.size, g.defers, fun i v hv => g.slots i v (by rw [← hv]; exact (compactN_get _ 0 _ i (bitN_zero i)).symm), g.heap, g.pc⟩

/-- A SCOPE. -/
theorem scope_ok {ρ : Env} {cx : Cx} {runC : Code → St → Tree (Ex × St)} (hR : RunOk ρ cx runC) {b : Code} {σ0 : St} : ∀ (n : Nat) (c : Code) (σ : St) (e : Ex) (σ' : St), (scopeT runC σ0 b n c σ).get ρ = some (e, σ') → StepS σ0 σ →
    ∀ (K : Nat → Prop) (w0 : World) (ι : Nm) (a : Act) (w : World), Gam ρ cx.globs K w0 ι σ a w →
    ∀ Q : Exit → Act → World → Prop, (∀ ι' a' w', StepS σ0 σ' → Nm.Ext σ.heap.length ι ι' → Gam ρ cx.globs K w0 ι' σ' a' w' → Q e.exit' a' w') →
    ∀ (fb : Frame) (k : List Item) (cs : List Frame), ∃ e a' w', Q e a' w' ∧ Arrives cx.P (lone (fb.at a (.code c :: .inScope b :: k)) cs w) fb k cs e a' w' := by
  intro n
  induction n with
  | zero => intro c σ e σ' hx; simp [scopeT, Tree.get] at hx
  | succ n ih =>
    intro c σ e σ' hx s0 K w0 ι a w g Q hq fb k cs
    simp only [scopeT, Tree.get_bind, Option.bind_eq_some_iff] at hx
    obtain ⟨⟨e1, σ1⟩, h1, h2⟩ := hx
    obtain ⟨e2, a1, w1, ⟨he, ι1, st1, x1, g1⟩, harr⟩ := hR c σ e1 σ1 h1 K w0 ι a w g (fun e a w => e = e1.exit' ∧ ∃ ι1, StepS σ σ1 ∧ Nm.Ext σ.heap.length ι ι1 ∧ Gam ρ cx.globs K w0 ι1 σ1 a w) (fun ι1 a1 w1 s1 x1 g1 => ⟨rfl, ι1, s1, x1, g1⟩) fb (.inScope b :: k) cs
    subst he
    cases e1 with
    | goto l =>
      simp only at h2
      split at h2
      · rename_i rest hl
        have hg : gotoIn l (.inScope b :: k) = some (.code rest :: .inScope b :: k) := by simp [gotoIn, hl]
        have s1 := s0.trans st1
        obtain ⟨e3, a3, w3, hq3, harr3⟩ := ih rest (compactS σ0 σ1) e σ' h2 (compactS_step s1) K w0 ι1 a1 w1 (compactS_gam g1) Q (fun ι2 a2 w2 s2 x2 g2 => hq ι2 a2 w2 s2 (x1.trans st1.len x2) g2) fb k cs
        exact ⟨e3, a3, w3, hq3, .of_steps (harr _ hg) harr3⟩
      · simp [Tree.get] at h2
    | normal =>
      simp only [Tree.get, Option.some.injEq, Prod.mk.injEq] at h2
      obtain ⟨rfl, rfl⟩ := h2
      exact ⟨.normal, a1, w1, hq ι1 a1 w1 (s0.trans st1) x1 g1, Steps.trans harr (.one step_inScope)⟩
    | exit id =>
      simp only [Tree.get, Option.some.injEq, Prod.mk.injEq] at h2
      obtain ⟨rfl, rfl⟩ := h2
      exact ⟨.exit id, a1, w1, hq ι1 a1 w1 (s0.trans st1) x1 g1, fun k' hk => harr k' (by simp [exitTo, hk])⟩
    | ret =>
      simp only [Tree.get, Option.some.injEq, Prod.mk.injEq] at h2
      obtain ⟨rfl, rfl⟩ := h2
      exact ⟨.ret, a1, w1, hq ι1 a1 w1 (s0.trans st1) x1 g1, harr⟩

/-- A LOOP. -/
theorem rounds_ok {ρ : Env} {cx : Cx} {runC : Code → St → Tree (Ex × St)} (hR : RunOk ρ cx runC) {b : Code} {σ0 : St} : ∀ (n : Nat) (σ : St) (e : Ex) (σ' : St), (roundsT runC σ0 b n σ).get ρ = some (e, σ') → StepS σ0 σ →
    ∀ (K : Nat → Prop) (w0 : World) (ι : Nm) (a : Act) (w : World), Gam ρ cx.globs K w0 ι σ a w →
    ∀ Q : Exit → Act → World → Prop, (∀ ι' a' w', StepS σ0 σ' → Nm.Ext σ.heap.length ι ι' → Gam ρ cx.globs K w0 ι' σ' a' w' → Q e.exit' a' w') → Code.rounds cx.P b Q n a w := by
  intro n
  induction n with
  | zero => intro σ e σ' hx; simp [roundsT, Tree.get] at hx
  | succ n ih =>
    intro σ e σ' hx s0 K w0 ι a w g Q hq
    simp only [roundsT, Tree.get_bind, Option.bind_eq_some_iff] at hx
    obtain ⟨⟨e1, σ1⟩, h1, h2⟩ := hx
    rw [rounds_succ]
    refine hR b σ e1 σ1 h1 K w0 ι a w g _ ?_
    intro ι1 a1 w1 s1 x1 g1
    cases e1 with
    | normal =>
      exact ih (compactS σ0 σ1) e σ' h2 (compactS_step (s0.trans s1)) K w0 ι1 a1 w1 (compactS_gam g1) _ (fun ι2 a2 w2 s2 x2 g2 => hq ι2 a2 w2 s2 (x1.trans s1.len x2) g2)
    | goto l =>
      simp only [Tree.get, Option.some.injEq, Prod.mk.injEq] at h2
      obtain ⟨rfl, rfl⟩ := h2
      exact hq ι1 a1 w1 (s0.trans s1) x1 g1
    | exit id =>
      simp only [Tree.get, Option.some.injEq, Prod.mk.injEq] at h2
      obtain ⟨rfl, rfl⟩ := h2
      exact hq ι1 a1 w1 (s0.trans s1) x1 g1
    | ret =>
      simp only [Tree.get, Option.some.injEq, Prod.mk.injEq] at h2
      obtain ⟨rfl, rfl⟩ := h2
      exact hq ι1 a1 w1 (s0.trans s1) x1 g1

/-- THE EXECUTOR IS RIGHT. -/
theorem run_ok' {ρ : Env} {cx : Cx} (ok : cx.Ok) {S : Specs} (hS : S.Ok ρ cx) (hB : ∀ f, S f ≠ none → ∃ fn c, cx.P.funcs[f]? = some fn ∧ fn.body = some c) : ∀ fuel : Nat, RunOk ρ cx (run cx S fuel) := by
  intro fuel
  induction fuel with
  | zero => exact fun c σ e σ' hx => by simp [run, Tree.get] at hx
  | succ fuel ih =>
    intro c σ e σ' hx K w0 ι a w g Q hq
    have gsc : ∀ i v, σ.slots.get i = some v → v.sc σ.heap.length = true := fun i v hv => (g.slots i v hv).2
    cases c with
    | skip =>
      simp only [run, Tree.get, Option.some.injEq, Prod.mk.injEq] at hx
      obtain ⟨rfl, rfl⟩ := hx
      exact wp_skip (hq ι a w (StepS.refl _) (Nm.Ext.refl _ _) g)
    | label l =>
      simp only [run, Tree.get, Option.some.injEq, Prod.mk.injEq] at hx
      obtain ⟨rfl, rfl⟩ := hx
      exact wp_label (hq ι a w (StepS.refl _) (Nm.Ext.refl _ _) g)
    | exit id =>
      simp only [run, Tree.get, Option.some.injEq, Prod.mk.injEq] at hx
      obtain ⟨rfl, rfl⟩ := hx
      exact wp_exit (hq ι a w (StepS.refl _) (Nm.Ext.refl _ _) g)
    | ret =>
      simp only [run, Tree.get, Option.some.injEq, Prod.mk.injEq] at hx
      obtain ⟨rfl, rfl⟩ := hx
      exact wp_ret (hq ι a w (StepS.refl _) (Nm.Ext.refl _ _) g)
    | goto l =>
      simp only [run, Tree.get, Option.some.injEq, Prod.mk.injEq] at hx
      obtain ⟨rfl, rfl⟩ := hx
      exact wp_goto (hq ι a w (StepS.refl _) (Nm.Ext.refl _ _) g)
    | refuse y => simp [run, Tree.get] at hx
    | rangeFunc f ps x y => simp [run, Tree.get] at hx
    | seq x y =>
      simp only [run, Tree.get_bind, Option.bind_eq_some_iff] at hx
      obtain ⟨⟨e1, σ1⟩, h1, h2⟩ := hx
      refine wp_seq (ih x σ e1 σ1 h1 K w0 ι a w g _ ?_)
      intro ι1 a1 w1 s1 x1 g1
      cases e1 with
      | normal =>
        exact ih y σ1 e σ' h2 K w0 ι1 a1 w1 g1 _ (fun ι2 a2 w2 s2 x2 g2 => hq ι2 a2 w2 (s1.trans s2) (x1.trans s1.len x2) g2)
      | goto l =>
        simp only [Tree.get, Option.some.injEq, Prod.mk.injEq] at h2
        obtain ⟨rfl, rfl⟩ := h2
        exact hq ι1 a1 w1 s1 x1 g1
      | exit id =>
        simp only [Tree.get, Option.some.injEq, Prod.mk.injEq] at h2
        obtain ⟨rfl, rfl⟩ := h2
        exact hq ι1 a1 w1 s1 x1 g1
      | ret =>
        simp only [Tree.get, Option.some.injEq, Prod.mk.injEq] at h2
        obtain ⟨rfl, rfl⟩ := h2
        exact hq ι1 a1 w1 s1 x1 g1
    | block id b =>
      simp only [run, Tree.get_bind, Option.bind_eq_some_iff] at hx
      obtain ⟨⟨e1, σ1⟩, h1, h2⟩ := hx
      refine wp_block (ih b σ e1 σ1 h1 K w0 ι a w g _ ?_)
      intro ι1 a1 w1 s1 x1 g1
      cases e1 with
      | normal =>
        simp only [Tree.get, Option.some.injEq, Prod.mk.injEq] at h2
        obtain ⟨rfl, rfl⟩ := h2
        exact hq ι1 a1 w1 s1 x1 g1
      | goto l =>
        simp only [Tree.get, Option.some.injEq, Prod.mk.injEq] at h2
        obtain ⟨rfl, rfl⟩ := h2
        exact hq ι1 a1 w1 s1 x1 g1
      | exit id' =>
        simp only at h2
        split at h2
        · rename_i hid
          subst hid
          simp only [Tree.get, Option.some.injEq, Prod.mk.injEq] at h2
          obtain ⟨rfl, rfl⟩ := h2
          simp only [Ex.exit', Exit.inBlock, if_true]
          exact hq ι1 a1 w1 s1 x1 g1
        · rename_i hid
          simp only [Tree.get, Option.some.injEq, Prod.mk.injEq] at h2
          obtain ⟨rfl, rfl⟩ := h2
          simp only [Ex.exit', Exit.inBlock, hid, if_false]
          exact hq ι1 a1 w1 s1 x1 g1
      | ret =>
        simp only [Tree.get, Option.some.injEq, Prod.mk.injEq] at h2
        obtain ⟨rfl, rfl⟩ := h2
        exact hq ι1 a1 w1 s1 x1 g1
    | loop b =>
      simp only [run] at hx
      exact wp_loop_rounds fuel (rounds_ok ih fuel σ e σ' hx (StepS.refl _) K w0 ι a w g Q hq)
    | scope b =>
      simp only [run] at hx
      intro fb k cs
      obtain ⟨e2, a2, w2, hq2, harr⟩ := scope_ok ih fuel b σ e σ' hx (StepS.refl _) K w0 ι a w g Q hq fb k cs
      exact ⟨e2, a2, w2, hq2, .of_steps (.one step_scope) harr⟩
    | cond x y z =>
      simp only [run] at hx
      split at hx
      · rename_i t ht
        have hct := (evO_conc g.slots ht).1
        simp only [SVal.conc] at hct
        split at hx
        · rename_i hd
          refine wp_cond_true (by rw [hct, decideT_den g.pc hd]) (ih y σ e σ' hx K w0 ι a w g _ hq)
        · rename_i hd
          refine wp_cond_false (by rw [hct, decideT_den g.pc hd]) (ih z σ e σ' hx K w0 ι a w g _ hq)
        · obtain ⟨⟨e1, σ1⟩, h1, h2, h3⟩ := squash_get (ρ := ρ) (CovE ρ σ) (fun a => ⟨rfl, CovS.refl _ _⟩) (fun a b c h k => ⟨h.1.trans k.1, h.2.trans k.2⟩)
            (fun c a b x hj => ⟨fun hc => joinE_spec (joinEs_eq hj) gsc g.pc true hc, fun hc => joinE_spec (joinEs_eq hj) gsc g.pc false hc⟩) _ _ hx
          simp only at h2
          subst h2
          simp only [Tree.get] at h1
          have fin : ∀ (pc' : Tm) ι' a' w', StepS { σ with pc := pc' } σ1 → Nm.Ext σ.heap.length ι ι' → Gam ρ cx.globs K w0 ι' σ1 a' w' → Q e1.exit' a' w' := by
            intro pc' ι' a' w' s1 x1 g1
            have s1' : StepS σ σ1 := ⟨s1.len, s1.slots, s1.n⟩
            obtain ⟨c1, c2⟩ := h3 s1'
            exact hq ι' a' w' c1 x1 (c2 cx.globs K w0 ι' a' w' g1)
          cases hb : (t.den ρ).asBool
          · rw [hb] at h1
            refine wp_cond_false (by rw [hct, hb]) (ih z _ e1 σ1 h1 K w0 ι a w ⟨g.size, g.defers, g.slots, g.heap, ?_⟩ _ (fin _))
            simp only [mkAnd_den, mkNot_den, g.pc, hb]; rfl
          · rw [hb] at h1
            refine wp_cond_true (by rw [hct, hb]) (ih y _ e1 σ1 h1 K w0 ι a w ⟨g.size, g.defers, g.slots, g.heap, ?_⟩ _ (fin _))
            simp only [mkAnd_den, g.pc, hb]; rfl
      · simp [Tree.get] at hx
    | region id ops draw =>
      simp only [run] at hx
      cases draw with
      | true =>
        simp only [Tree.get_bind, Option.bind_eq_some_iff] at hx
        obtain ⟨σ1, h1, h2⟩ := hx
        simp only [Tree.get, Option.some.injEq, Prod.mk.injEq] at h2
        obtain ⟨rfl, rfl⟩ := h2
        obtain ⟨σ2, k1, k2⟩ := squash_get (ρ := ρ) (CovS ρ σ) (CovS.refl _) (fun _ _ _ => CovS.trans) (fun c a b x hj => ⟨fun hc => joinS_spec (joinSs_eq hj) gsc g.pc true hc, fun hc => joinS_spec (joinSs_eq hj) gsc g.pc false hc⟩) _ _ h1
        obtain ⟨σ4, q4, k4, hq4, rfl⟩ := Tree.told_get (ρ := ρ) _ _ _ rfl k1
        simp only [Tree.get_bind, Option.bind_eq_some_iff] at k4
        obtain ⟨⟨σ3, tr⟩, m1, m2⟩ := k4
        split at m2
        · rename_i hdet
          simp only [Tree.get, Option.some.injEq] at m2
          subst m2
          obtain ⟨s3, r3⟩ := drawn_ok (id := id) ok hS hB ih m1 hdet g
          have kt : CovS ρ σ σ3 { σ3 with pc := mkAnd σ3.pc q4 } := fun s => ⟨⟨s.len, s.slots, s.n⟩, fun _ _ _ _ _ _ h => ⟨h.size, h.defers, h.slots, h.heap, by rw [mkAnd_den, h.pc, hq4]; rfl⟩⟩
          obtain ⟨c1, c2⟩ := (CovS.trans kt k2) s3
          exact r3 Q (fun ι' a' w' g' x' => hq ι' a' w' c1 x' (c2 cx.globs K w0 ι' a' w' g'))
        · simp [Tree.get] at m2
      | false =>
        simp only [Tree.get_bind, Option.bind_eq_some_iff] at hx
        obtain ⟨σ1, h1, h2⟩ := hx
        simp only [Tree.get, Option.some.injEq, Prod.mk.injEq] at h2
        obtain ⟨rfl, rfl⟩ := h2
        obtain ⟨σ2, k1, k2⟩ := squash_get (ρ := ρ) (CovS ρ σ) (CovS.refl _) (fun _ _ _ => CovS.trans) (fun c a b x hj => ⟨fun hc => joinS_spec (joinSs_eq hj) gsc g.pc true hc, fun hc => joinS_spec (joinSs_eq hj) gsc g.pc false hc⟩) _ _ h1
        refine wp_region ?_
        have := opsT_ok ok hS hB ih (ops := ops) Q ops.toList 0 σ σ2 (by simp) k1 K w0 ι a w g (fun ι' a' w' s' x' g' => by
          obtain ⟨c1, c2⟩ := k2 s'
          exact hq ι' a' w' c1 x' (c2 cx.globs K w0 ι' a' w' g'))
        rw [List.range_eq_range']
        simpa using this

theorem run_ok {ρ : Env} {cx : Cx} (ok : cx.Ok) {S : Specs} (hS : S.Ok ρ cx) (hB : ∀ f, S f ≠ none → ∃ fn c, cx.P.funcs[f]? = some fn ∧ fn.body = some c) (fuel : Nat) : RunOk ρ cx (run cx S fuel) := run_ok' ok hS hB fuel

/-- A FUNCTION, BY WHAT THE EXECUTOR SAYS OF IT. -/
theorem call_ok {ρ : Env} {cx : Cx} (ok : cx.Ok) {S : Specs} (hS : S.Ok ρ cx) (hB : ∀ f, S f ≠ none → ∃ fn c, cx.P.funcs[f]? = some fn ∧ fn.body = some c) {fuel : Nat} {f : FuncId} {args : List SVal} {h : Heap} {pc : Tm} {x : Res}
    (hpc : (pc.den ρ).asBool = true) (hx : (callT cx S (run cx S fuel) f args h pc).get ρ = some x) : CallOk ρ cx.globs cx.P f args h x :=
  callT_ok ok hS (run_ok ok hS hB fuel) hpc hx

end
end Go.Sx

/- A function without a body that gives a byte's place in a text. -/
namespace Go.Sx
noncomputable section
open Go.Extern

theorem find_congr {α : Type} {p q : α → Bool} : ∀ {l : List α}, (∀ a ∈ l, p a = q a) → l.find? p = l.find? q
  | [], _ => rfl
  | a :: r, h => by
    rw [List.find?_cons, List.find?_cons, h a (List.mem_cons_self ..), find_congr fun b hb => h b (List.mem_cons_of_mem _ hb)]

theorem idxF_find (k : Nat) : ∀ (l : List UInt8) (i : Nat), idxF k i l = match (List.range' i l.length).find? (fun j => Nat.beq (l.getD (j - i) 0).toNat k) with | some j => (j : Int) | none => -1
  | [], i => rfl
  | c :: r, i => by
    simp only [idxF, List.length_cons, List.range'_succ, List.find?_cons, Nat.sub_self, List.getD_cons_zero]
    cases hb : Nat.beq c.toNat k
    · simp only
      rw [idxF_find k r (i + 1)]
      have e : (List.range' (i + 1) r.length).find? (fun j => Nat.beq (r.getD (j - (i + 1)) 0).toNat k) = (List.range' (i + 1) r.length).find? (fun j => Nat.beq ((c :: r).getD (j - i) 0).toNat k) := by
        apply find_congr
        intro j hj
        have hj := List.mem_range'.1 hj
        obtain ⟨q, _, rfl⟩ := hj
        have e1 : i + 1 + 1 * q - (i + 1) = q := by omega
        have e2 : i + 1 + 1 * q - i = q + 1 := by omega
        rw [e1, e2, List.getD_cons_succ]
      rw [e]
    · rfl

theorem idx_of {P : Program} {g : FuncId} {fn : Func} (hf : P.funcs[g]? = some fn) (hname : (fn.name == "runtime.NumGoroutine") = false)
    (hb : fn.body.isNone = true) (hn : Extern.findNext fn = none) (he : Extern.find fn = some Extern.BytealgIndexByte.indexByte) (s : List UInt8) (k : Nat) (hk : k < 256) (w : World) :
    (callFunc g #[.string ⟨s.toArray⟩, .int .u8 (k : Int)]).run P w = .ok (.value (.int .i64 (idxF k 0 s))) w := by
  rw [run_callFunc_extern hf hname hb hn he, run_indexByte_string]
  simp only [Result.andThen]
  congr 3
  rw [idxF_find, firstIdx, List.range_eq_range']
  have hsz : (⟨s.toArray⟩ : ByteArray).size = s.length := by simp [ByteArray.size]
  rw [hsz]
  have e : (List.range' 0 s.length).find? (fun i => (⟨s.toArray⟩ : ByteArray)[i]! == ((k : Int).toNat.toUInt8)) = (List.range' 0 s.length).find? (fun j => Nat.beq (s.getD (j - 0) 0).toNat k) := by
    apply find_congr
    intro j hj
    obtain ⟨q, hq, rfl⟩ := List.mem_range'.1 hj
    have hq' : 0 + 1 * q < s.length := by omega
    have h1 : (⟨s.toArray⟩ : ByteArray)[0 + 1 * q]! = s[0 + 1 * q] := by
      rw [getElem!_pos (⟨s.toArray⟩ : ByteArray) _ (by rw [hsz]; exact hq')]
      rfl
    have h2 : s.getD (0 + 1 * q - 0) 0 = s[0 + 1 * q] := by
      rw [Nat.sub_zero, List.getD_eq_getElem?_getD, List.getElem?_eq_getElem hq']; rfl
    rw [h1, h2]
    generalize s[0 + 1 * q] = c
    have h3 : (k : Int).toNat = k := by omega
    rw [h3]
    cases hb : Nat.beq c.toNat k
    · rw [beq_eq_false_iff_ne]
      rintro rfl
      have : k.toUInt8.toNat = k := by simp [Nat.toUInt8, UInt8.toNat_ofNat', Nat.mod_eq_of_lt hk]
      rw [this, Nat.beq_refl] at hb
      cases hb
    · rw [beq_iff_eq]
      have := Nat.eq_of_beq_eq_true hb
      subst this
      simp
  rw [e]
  generalize List.find? (fun j => (s.getD (j - 0) 0).toNat.beq k) (List.range' 0 s.length) = o
  cases o <;> rfl
/-- A function without a body that gives its argument back. -/
theorem same_of {P : Program} {g : FuncId} {fn : Func} (hf : P.funcs[g]? = some fn) (hname : (fn.name == "runtime.NumGoroutine") = false)
    (hb : fn.body.isNone = true) (hn : Extern.findNext fn = none) (he : Extern.find fn = some Extern.AbiNoEscape.same) (v : Value) (w : World) :
    (callFunc g #[v]).run P w = .ok (.value v) w := by
  rw [run_callFunc_extern hf hname hb hn he, Lib.run_noEscape]
  rfl
end
end Go.Sx
