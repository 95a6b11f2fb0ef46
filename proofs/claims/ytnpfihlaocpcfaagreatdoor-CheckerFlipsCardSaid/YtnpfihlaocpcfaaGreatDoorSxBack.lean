/- Laws walked case by case. -/
import Derived.Test.YtnpfihlaocpcfaaGreatDoorSxRg
namespace Go.Sx
noncomputable section
open Go.RowKit

/-- A case: what is so; what stands for some variables then (is it a truth?); what the walk is told. -/
structure Cas where
  pre : List Tm
  sub : List (Nat × Bool × Tm)
  pc : List Tm

def Cas.mul (a b : List Cas) : List Cas := a.flatMap fun x => b.map fun y => ⟨x.pre ++ y.pre, x.sub ++ y.sub, x.pc ++ y.pc⟩

def findS (b : Bool) : List (Nat × Bool × Tm) → Nat → Tm
  | [], i => .var i
  | (j, c, t) :: l, i => match Nat.beq i j && (b == c) with | true => t | false => findS b l i

def subV (l : List (Nat × Bool × Tm)) : SVal → SVal
  | .int k (.var i) => .int k (findS false l i)
  | .bool (.var i) => .bool (findS true l i)
  | .agg a => .agg (subV l a)
  | .cons a r => .cons (subV l a) (subV l r)
  | v => v

def condS : List (Nat × Bool × Tm) → List Tm
  | [] => []
  | (i, b, t) :: l => (match b with | true => .op2 .beq (.var i) t | false => .op2 .eq (.var i) t) :: condS l

def allT : List Tm → Tm
  | [] => .bit true
  | a :: r => .op2 .band a (allT r)

def anyT : List Tm → Tm
  | [] => .bit false
  | a :: r => .op2 .bor a (anyT r)

theorem allT_den (ρ : Env) : ∀ l : List Tm, ((allT l).den ρ).asBool = true → ∀ t ∈ l, (t.den ρ).asBool = true
  | [], _, t, h => by cases h
  | a :: r, h, t, ht => by
    simp only [allT, Tm.den, Op2.ev, Sc.asBool_bool, Bool.and_eq_true] at h
    rcases List.mem_cons.1 ht with rfl | ht
    · exact h.1
    · exact allT_den ρ r h.2 t ht

theorem anyT_den (ρ : Env) : ∀ l : List Tm, ((anyT l).den ρ).asBool = true → ∃ t ∈ l, (t.den ρ).asBool = true
  | [], h => by simp [anyT, Tm.den] at h
  | a :: r, h => by
    simp only [anyT, Tm.den, Op2.ev, Sc.asBool_bool, Bool.or_eq_true] at h
    rcases h with h | h
    · exact ⟨a, by simp, h⟩
    · obtain ⟨t, h1, h2⟩ := anyT_den ρ r h
      exact ⟨t, by simp [h1], h2⟩

def Cas.cond (c : Cas) : Tm := allT c.pre

theorem findS_int {ρ : Env} : ∀ (l : List (Nat × Bool × Tm)), (∀ t ∈ condS l, (t.den ρ).asBool = true) → ∀ i, ((findS false l i).den ρ).asInt = (ρ.v i).asInt
  | [], _, i => rfl
  | (j, c, t) :: l, h, i => by
    unfold findS
    split
    · rename_i hb
      rw [Bool.and_eq_true, beq_iff_eq] at hb
      obtain ⟨h1, rfl⟩ := hb
      have := Nat.eq_of_beq_eq_true h1; subst this
      exact (eq_of_beq (h _ (List.mem_cons_self ..))).symm
    · exact findS_int l (fun t ht => h t (List.mem_cons_of_mem _ ht)) i

theorem findS_bool {ρ : Env} : ∀ (l : List (Nat × Bool × Tm)), (∀ t ∈ condS l, (t.den ρ).asBool = true) → ∀ i, ((findS true l i).den ρ).asBool = (ρ.v i).asBool
  | [], _, i => rfl
  | (j, c, t) :: l, h, i => by
    unfold findS
    split
    · rename_i hb
      rw [Bool.and_eq_true, beq_iff_eq] at hb
      obtain ⟨h1, rfl⟩ := hb
      have := Nat.eq_of_beq_eq_true h1; subst this
      exact (eq_of_beq (h _ (List.mem_cons_self ..))).symm
    · exact findS_bool l (fun t ht => h t (List.mem_cons_of_mem _ ht)) i

theorem subV_conc {ρ : Env} {l : List (Nat × Bool × Tm)} (h : ∀ t ∈ condS l, (t.den ρ).asBool = true) (ι : Nm) (v : SVal) : (subV l v).conc ρ ι = v.conc ρ ι ∧ (subV l v).concL ρ ι = v.concL ρ ι := by
  induction v with
  | int k t =>
    cases t with
    | var i => exact ⟨by have := findS_int l h i; simp only [subV, SVal.conc]; rw [this]; rfl, by simp [subV, SVal.concL]⟩
    | _ => exact ⟨rfl, rfl⟩
  | bool t =>
    cases t with
    | var i => exact ⟨by have := findS_bool l h i; simp only [subV, SVal.conc]; rw [this]; rfl, by simp [subV, SVal.concL]⟩
    | _ => exact ⟨rfl, rfl⟩
  | agg a ih => exact ⟨by simp only [subV, SVal.conc, ih.2], by simp [subV, SVal.concL]⟩
  | cons a r iha ihr => exact ⟨by simp [subV, SVal.conc], by simp only [subV, SVal.concL, iha.1, ihr.2]⟩
  | _ => exact ⟨rfl, rfl⟩

theorem subV_sc {n : Nat} {l : List (Nat × Bool × Tm)} (v : SVal) (h : v.sc n = true) : (subV l v).sc n = true := by
  induction v with
  | int k t => cases t <;> exact h
  | bool t => cases t <;> exact h
  | agg a ih => simp only [SVal.sc] at h; simp only [subV, SVal.sc]; exact ih h
  | cons a r iha ihr => simp only [SVal.sc, Bool.and_eq_true] at h; simp only [subV, SVal.sc, iha h.1, ihr h.2]; rfl
  | _ => exact h

/-- The law at a case; where the case is not so, nothing is asked. -/
def Cas.tree (cx : Cx) (S : Specs) (fuel : Nat) (f : FuncId) (pat : List SVal) (c : Cas) : Tree Res :=
  .ite c.cond (.assert (allT (condS c.sub ++ c.pc)) (callT cx S (run cx S fuel) f (pat.map (subV c.sub)) [] (c.pc.foldr mkAnd (.bit true)))) (.leaf ⟨.bool (.bit true), [], .bit true⟩)

theorem cas_px {ρ : Env} {cx : Cx} (ok : cx.Ok) {S : Specs} (hS : S.Ok ρ cx) (hB : ∀ f, S f ≠ none → ∃ fn c, cx.P.funcs[f]? = some fn ∧ fn.body = some c) {fuel : Nat} {f : FuncId} {pat : List SVal} {c : Cas}
    (hsc : ∀ v ∈ pat, v.sc 0 = true) (hc : (c.cond.den ρ).asBool = true) {sg : Sg} (so : sg.Ok ρ) {e : Kn} (hs : Sats ρ e) (hx : pxTree sg (c.tree cx S fuel f pat) e = true) (w : World)
    (hG : HR ρ cx.globs (ownK w) w ι0 [] w) :
    Calls cx.P f (pat.map (·.conc ρ ι0)).toArray w fun e w' => e = .returned (.bool true) ∧ Below w.heap.size w w' := by
  obtain ⟨x, b, h1, h2, h3⟩ := pxTree_ok so _ _ hs hx
  simp only [Cas.tree, Tree.get, hc] at h1
  cases ha : ((allT (condS c.sub ++ c.pc)).den ρ).asBool with
  | false => rw [ha] at h1; cases h1
  | true =>
  rw [ha] at h1
  have hall := allT_den ρ _ ha
  have hcall := call_ok ok hS hB (conj_den ρ _ (fun t ht => hall t (by simp [ht]))) h1
  have := hcall (ownK w) w ι0 w hG (by
    intro v hv
    obtain ⟨u, hu, rfl⟩ := List.mem_map.1 hv
    exact subV_sc u (hsc u hu))
  have e : (pat.map (subV c.sub)).map (·.conc ρ ι0) = pat.map (·.conc ρ ι0) := by
    rw [List.map_map]
    exact List.map_congr_left fun v _ => (subV_conc (fun t ht => hall t (by simp [ht])) ι0 v).1
  rw [e] at this
  refine this.mono ?_
  rintro e w' ⟨ι', _, _, H, _, _, rfl⟩
  rw [h2]
  exact ⟨by simp [SVal.conc, h3], H.grown⟩

/-- Some case is so. -/
theorem cas_cov {ρ : Env} {sg : Sg} (so : sg.Ok ρ) {e : Kn} (hs : Sats ρ e) {l : List Cas} (h : pxT sg (anyT (l.map Cas.cond)) e (fun _ => true) = true) : ∃ c ∈ l, (c.cond.den ρ).asBool = true := by
  obtain ⟨t, h1, h2⟩ := anyT_den ρ _ (pxT_ok so hs h).1
  obtain ⟨c, hc, rfl⟩ := List.mem_map.1 h1
  exact ⟨c, hc, h2⟩

end
end Go.Sx

/- Ways both of which are so need no choice. -/
namespace Go.Sx
noncomputable section
open Go.RowKit

/-- A tree has an answer, and this is true; where a choice is not known, both ways are looked at. -/
def pxBoth (sg : Sg) : Tree Res → Kn → Bool
  | .leaf x, e => match x.v with
    | .bool t => pxT sg t e fun _ => true
    | _ => false
  | .ite c a b, e => ev sg (evN sg 5) none c e fun v e => drive 100 e (fun e => truthV e v) fun r e => match r with
    | some true => pxBoth sg a e
    | some false => pxBoth sg b e
    | none => pxBoth sg a e && pxBoth sg b e
  | .assert c t, e => pxT sg c e (fun _ => true) && pxBoth sg t e
  | .fail _, _ => false

theorem pxBoth_ok {ρ : Env} {sg : Sg} (so : sg.Ok ρ) : ∀ (t : Tree Res) (e : Kn), Sats ρ e → pxBoth sg t e = true → ∃ x b, t.get ρ = some x ∧ x.v = .bool b ∧ (b.den ρ).asBool = true
  | .leaf x, e, S, h => by
    unfold pxBoth at h
    split at h
    · rename_i b hb
      exact ⟨x, b, rfl, hb, (pxT_ok so S h).1⟩
    · cases h
  | .ite c a b, e, S, h => by
    unfold pxBoth at h
    obtain ⟨e1, v, S1, hv, h⟩ := ev_ok so 5 c S h
    obtain ⟨e2, r, S2, h, hr⟩ := truth_drive S1 hv h
    split at h
    · obtain ⟨x, t, h1, h2, h3⟩ := pxBoth_ok so a e2 S2 h
      exact ⟨x, t, by simp only [Tree.get, hr true rfl]; exact h1, h2, h3⟩
    · obtain ⟨x, t, h1, h2, h3⟩ := pxBoth_ok so b e2 S2 h
      exact ⟨x, t, by simp only [Tree.get, hr false rfl]; exact h1, h2, h3⟩
    · rw [Bool.and_eq_true] at h
      cases hc : (c.den ρ).asBool
      · obtain ⟨x, t, h1, h2, h3⟩ := pxBoth_ok so b e2 S2 h.2
        exact ⟨x, t, by simp only [Tree.get, hc]; exact h1, h2, h3⟩
      · obtain ⟨x, t, h1, h2, h3⟩ := pxBoth_ok so a e2 S2 h.1
        exact ⟨x, t, by simp only [Tree.get, hc]; exact h1, h2, h3⟩
  | .assert c a, e, S, h => by
    unfold pxBoth at h
    simp only [Bool.and_eq_true] at h
    obtain ⟨h0, _⟩ := pxT_ok so S h.1
    obtain ⟨x, t, h1, h2, h3⟩ := pxBoth_ok so a e S h.2
    exact ⟨x, t, by simp only [Tree.get, h0]; exact h1, h2, h3⟩
  | .fail w, e, S, h => by simp [pxBoth] at h

/-- A case, by the tree's answer. -/
theorem cas_get {ρ : Env} {cx : Cx} (ok : cx.Ok) {S : Specs} (hS : S.Ok ρ cx) (hB : ∀ f, S f ≠ none → ∃ fn c, cx.P.funcs[f]? = some fn ∧ fn.body = some c) {fuel : Nat} {f : FuncId} {pat : List SVal} {c : Cas}
    (hsc : ∀ v ∈ pat, v.sc 0 = true) (hc : (c.cond.den ρ).asBool = true) {x : Res} {b : Tm} (h1 : (c.tree cx S fuel f pat).get ρ = some x) (h2 : x.v = .bool b) (h3 : (b.den ρ).asBool = true) (w : World)
    (hG : HR ρ cx.globs (ownK w) w ι0 [] w) :
    Calls cx.P f (pat.map (·.conc ρ ι0)).toArray w fun e w' => e = .returned (.bool true) ∧ Below w.heap.size w w' := by
  simp only [Cas.tree, Tree.get, hc] at h1
  cases ha : ((allT (condS c.sub ++ c.pc)).den ρ).asBool with
  | false => rw [ha] at h1; cases h1
  | true =>
  rw [ha] at h1
  have hall := allT_den ρ _ ha
  have hcall := call_ok ok hS hB (conj_den ρ _ (fun t ht => hall t (by simp [ht]))) h1
  have := hcall (ownK w) w ι0 w hG (by
    intro v hv
    obtain ⟨u, hu, rfl⟩ := List.mem_map.1 hv
    exact subV_sc u (hsc u hu))
  have e : (pat.map (subV c.sub)).map (·.conc ρ ι0) = pat.map (·.conc ρ ι0) := by
    rw [List.map_map]
    exact List.map_congr_left fun v _ => (subV_conc (fun t ht => hall t (by simp [ht])) ι0 v).1
  rw [e] at this
  refine this.mono ?_
  rintro e w' ⟨ι', _, _, H, _, _, rfl⟩
  rw [h2]
  exact ⟨by simp [SVal.conc, h3], H.grown⟩

/-- All answers are 'true'. -/
def isTT : Tree Res → Bool
  | .leaf x => match x.v with
    | .bool (.bit true) => true
    | _ => false
  | .ite _ a b => isTT a && isTT b
  | _ => false

theorem isTT_get (ρ : Env) : ∀ t : Tree Res, isTT t = true → ∃ x, t.get ρ = some x ∧ x.v = .bool (.bit true)
  | .leaf x, h => by
    unfold isTT at h
    split at h
    · rename_i hx; exact ⟨x, rfl, hx⟩
    · cases h
  | .ite c a b, h => by
    unfold isTT at h
    rw [Bool.and_eq_true] at h
    simp only [Tree.get]
    cases (c.den ρ).asBool
    · exact isTT_get ρ b h.2
    · exact isTT_get ρ a h.1
  | .assert c a, h => by simp [isTT] at h
  | .fail w, h => by simp [isTT] at h

/-- The answer is a value, as it is written. -/
def pxIs (sg : Sg) (u : SVal) : Tree Res → Kn → Bool
  | .leaf x, _ => decide (x.v = u)
  | .ite c a b, e => ev sg (evN sg 5) none c e fun v e => drive 100 e (fun e => truthV e v) fun r e => match r with
    | some true => pxIs sg u a e
    | some false => pxIs sg u b e
    | none => pxIs sg u a e && pxIs sg u b e
  | .assert c t, e => pxT sg c e (fun _ => true) && pxIs sg u t e
  | .fail _, _ => false

theorem pxIs_ok {ρ : Env} {sg : Sg} (so : sg.Ok ρ) {u : SVal} : ∀ (t : Tree Res) (e : Kn), Sats ρ e → pxIs sg u t e = true → ∃ x, t.get ρ = some x ∧ x.v = u
  | .leaf x, e, S, h => by
    unfold pxIs at h
    exact ⟨x, rfl, of_decide_eq_true h⟩
  | .ite c a b, e, S, h => by
    unfold pxIs at h
    obtain ⟨e1, v, S1, hv, h⟩ := ev_ok so 5 c S h
    obtain ⟨e2, r, S2, h, hr⟩ := truth_drive S1 hv h
    split at h
    · obtain ⟨x, h1, h2⟩ := pxIs_ok so a e2 S2 h
      exact ⟨x, by simp only [Tree.get, hr true rfl]; exact h1, h2⟩
    · obtain ⟨x, h1, h2⟩ := pxIs_ok so b e2 S2 h
      exact ⟨x, by simp only [Tree.get, hr false rfl]; exact h1, h2⟩
    · rw [Bool.and_eq_true] at h
      cases hc : (c.den ρ).asBool
      · obtain ⟨x, h1, h2⟩ := pxIs_ok so b e2 S2 h.2
        exact ⟨x, by simp only [Tree.get, hc]; exact h1, h2⟩
      · obtain ⟨x, h1, h2⟩ := pxIs_ok so a e2 S2 h.1
        exact ⟨x, by simp only [Tree.get, hc]; exact h1, h2⟩
  | .assert c a, e, S, h => by
    unfold pxIs at h
    simp only [Bool.and_eq_true] at h
    obtain ⟨h0, _⟩ := pxT_ok so S h.1
    obtain ⟨x, h1, h2⟩ := pxIs_ok so a e S h.2
    exact ⟨x, by simp only [Tree.get, h0]; exact h1, h2⟩
  | .fail w, e, S, h => by simp [pxIs] at h

/-- A case is so: by the form of the answers, or by looking at them. -/
def Cas.holds (sg : Sg) (cx : Cx) (S : Specs) (fuel : Nat) (f : FuncId) (pat : List SVal) (c : Cas) (e : Kn) : Bool :=
  match isTT (callT cx S (run cx S fuel) f (pat.map (subV c.sub)) [] (c.pc.foldr mkAnd (.bit true))) with
  | true => pxBoth sg (.ite c.cond (.assert (allT (condS c.sub ++ c.pc)) (.leaf ⟨.bool (.bit true), [], .bit true⟩)) (.leaf ⟨.bool (.bit true), [], .bit true⟩)) e
  | false => pxBoth sg (c.tree cx S fuel f pat) e

theorem holds_px {ρ : Env} {cx : Cx} (ok : cx.Ok) {S : Specs} (hS : S.Ok ρ cx) (hB : ∀ f, S f ≠ none → ∃ fn c, cx.P.funcs[f]? = some fn ∧ fn.body = some c) {fuel : Nat} {f : FuncId} {pat : List SVal} {c : Cas}
    (hsc : ∀ v ∈ pat, v.sc 0 = true) (hc : (c.cond.den ρ).asBool = true) {sg : Sg} (so : sg.Ok ρ) {e : Kn} (hs : Sats ρ e) (hx : c.holds sg cx S fuel f pat e = true) (w : World)
    (hG : HR ρ cx.globs (ownK w) w ι0 [] w) :
    Calls cx.P f (pat.map (·.conc ρ ι0)).toArray w fun e w' => e = .returned (.bool true) ∧ Below w.heap.size w w' := by
  unfold Cas.holds at hx
  split at hx
  · rename_i ht
    obtain ⟨x, h1, h2⟩ := isTT_get ρ _ ht
    obtain ⟨y, b, k1, _, _⟩ := pxBoth_ok so _ _ hs hx
    refine cas_get (fuel := fuel) ok hS hB hsc hc (x := x) (b := .bit true) ?_ h2 rfl w hG
    simp only [Cas.tree, Tree.get, hc] at k1 ⊢
    cases ha : ((allT (condS c.sub ++ c.pc)).den ρ).asBool with
    | false => rw [ha] at k1; cases k1
    | true => exact h1
  · obtain ⟨x, b, h1, h2, h3⟩ := pxBoth_ok so _ _ hs hx
    exact cas_get ok hS hB hsc hc h1 h2 h3 w hG

/-- Some bits of a number are known. -/
def Cb.bits (i m p : Nat) : Cas := ⟨[.op2 .eq (.op2 (.and .i64) (.var i) (.num (.ofNat m))) (.num (.ofNat p))], [(i, false, .op2 (.or .i64) (.num (.ofNat p)) (.op2 (.and .i64) (.var i) (.num (.negSucc m))))], []⟩

end
end Go.Sx

/- One function's answer handed to another, case by case; calls have one answer. -/
namespace Go.Sx
noncomputable section
open Go.RowKit

/-! ### Calls have one answer -/

theorem runN_ended {P : Program} {n k : Nat} {m m1 : Machine} {o : Outcome} {w : World} (h1 : runN P n m = .next m1) (he : step P m1 = .ended o w) : runN P (n + (k + 1)) m = .ended o w := by
  rw [runN_add, h1]
  simp only [runN, he]

theorem steps_one {P : Program} {m m1 m2 : Machine} {o1 o2 : Outcome} {w1 w2 : World} (h1 : Steps P m m1) (h2 : Steps P m m2) (e1 : step P m1 = .ended o1 w1) (e2 : step P m2 = .ended o2 w2) : m1 = m2 := by
  obtain ⟨n1, h1⟩ := h1
  obtain ⟨n2, h2⟩ := h2
  rcases Nat.lt_trichotomy n1 n2 with h | h | h
  · obtain ⟨k, rfl⟩ : ∃ k, n2 = n1 + (k + 1) := ⟨n2 - n1 - 1, by omega⟩
    rw [runN_ended h1 e1] at h2; cases h2
  · subst h; rw [h1] at h2; cases h2; rfl
  · obtain ⟨k, rfl⟩ : ∃ k, n1 = n2 + (k + 1) := ⟨n1 - n2 - 1, by omega⟩
    rw [runN_ended h2 e2] at h1; cases h1

/-- A call that is said to return two values returns one. -/
theorem calls_one {P : Program} {f : FuncId} {args : Array Value} {w : World} {v1 v2 : Value} {Q1 Q2 : World → Prop} (hi : P.inits.idxOf? f = none)
    (h1 : Calls P f args w fun e w' => e = .returned v1 ∧ Q1 w') (h2 : Calls P f args w fun e w' => e = .returned v2 ∧ Q2 w') : v1 = v2 := by
  obtain ⟨e1, w1, fr1, ⟨rfl, _⟩, c1, f1, l1⟩ := h1 []
  obtain ⟨e2, w2, fr2, ⟨rfl, _⟩, c2, f2, l2⟩ := h2 []
  have d1 := step_leave_done l1 (by rw [f1]; exact hi)
  have d2 := step_leave_done l2 (by rw [f2]; exact hi)
  have hm := steps_one c1 c2 d1 d2
  rw [hm, d2] at d1
  cases d1; rfl

/-- What holds behind a call, whatever it answers, holds. -/
theorem calls_pure {P : Program} {f : FuncId} {args : Array Value} {w : World} {R : Ending → World → Prop} {p : Prop} (h : Calls P f args w R) (hp : ∀ e w', R e w' → p) : p := by
  obtain ⟨e, w', fr, hr, _⟩ := h []
  exact hp e w' hr

/-! ### Values that are the same -/

def eqS : SVal → SVal → Option Tm
  | .int k a, .int k' b => match decide (k = k') with
    | true => some (mk2 .eq a b)
    | false => none
  | .bool a, .bool b => some (mk2 .beq a b)
  | .agg a, .agg b => eqS a b
  | .cons a r, .cons b s => match eqS a b, eqS r s with
    | some x, some y => some (mkAnd x y)
    | _, _ => none
  | .nil, .nil => some (.bit true)
  | _, _ => none

theorem eqS_conc {ρ : Env} : ∀ (a b : SVal) (t : Tm), eqS a b = some t → (t.den ρ).asBool = true → ∀ ι ι', a.conc ρ ι = b.conc ρ ι' ∧ a.concL ρ ι = b.concL ρ ι' := by
  intro a
  induction a with
  | int k x =>
    intro b t h ht ι ι'
    cases b with
    | int k' y =>
      simp only [eqS] at h
      split at h
      · rename_i hk
        have hk := of_decide_eq_true hk
        subst hk
        simp only [Option.some.injEq] at h; subst h
        rw [mk2_den] at ht
        have : (x.den ρ).asInt = (y.den ρ).asInt := eq_of_beq ht
        exact ⟨by simp only [SVal.conc, this], rfl⟩
      · cases h
    | _ => simp [eqS] at h
  | bool x =>
    intro b t h ht ι ι'
    cases b with
    | bool y =>
      simp only [eqS, Option.some.injEq] at h; subst h
      rw [mk2_den] at ht
      have : (x.den ρ).asBool = (y.den ρ).asBool := eq_of_beq ht
      exact ⟨by simp only [SVal.conc, this], rfl⟩
    | _ => simp [eqS] at h
  | agg x ih =>
    intro b t h ht ι ι'
    cases b with
    | agg y => exact ⟨by simp only [SVal.conc, (ih y t h ht ι ι').2], rfl⟩
    | _ => simp [eqS] at h
  | cons x r ihx ihr =>
    intro b t h ht ι ι'
    cases b with
    | cons y s =>
      simp only [eqS] at h
      split at h
      · rename_i p q hp hq
        simp only [Option.some.injEq] at h; subst h
        rw [mkAnd_den, Bool.and_eq_true] at ht
        exact ⟨rfl, by simp only [SVal.concL, (ihx y p hp ht.1 ι ι').1, (ihr s q hq ht.2 ι ι').2]⟩
      · cases h
    | _ => simp [eqS] at h
  | nil =>
    intro b t h ht ι ι'
    cases b with
    | nil => exact ⟨rfl, rfl⟩
    | _ => simp [eqS] at h
  | _ => intro b t h; cases b <;> simp [eqS] at h

/-! ### There and back -/

/-- Numbers, and a truth behind them. -/
def halvesOf : SVal → Option (List Tm × Tm)
  | .cons (.int .i64 a) r => match a.inK .i64, halvesOf r with
    | true, some (l, t) => some (a :: l, t)
    | _, _ => none
  | .cons (.bool t) .nil => some ([], t)
  | _ => none

def answerOf : SVal → Option (List Tm × Tm)
  | .tup l => halvesOf l
  | _ => none

theorem halvesOf_ok {ρ : Env} (ι : Nm) : ∀ (v : SVal) (l : List Tm) (t : Tm), halvesOf v = some (l, t) →
    v.concL ρ ι = l.map (fun a : Tm => Value.int .i64 (a.den ρ).asInt) ++ [Value.bool (t.den ρ).asBool] ∧ ∀ a ∈ l, a.inK .i64 = true := by
  intro v
  induction v with
  | cons a r _ ihr =>
    intro l t h
    cases a with
    | int k x =>
      cases k <;> first | (simp [halvesOf] at h; done) | skip
      simp only [halvesOf] at h
      split at h
      · rename_i l' t' hk hr
        simp only [Option.some.injEq, Prod.mk.injEq] at h
        obtain ⟨rfl, rfl⟩ := h
        obtain ⟨h1, h2⟩ := ihr l' t' hr
        refine ⟨by simp only [SVal.concL, SVal.conc, h1, List.map_cons, List.cons_append], ?_⟩
        intro b hb
        rcases List.mem_cons.1 hb with rfl | hb
        · exact hk
        · exact h2 b hb
      · cases h
    | bool x =>
      cases r with
      | nil =>
        simp only [halvesOf, Option.some.injEq, Prod.mk.injEq] at h
        obtain ⟨rfl, rfl⟩ := h
        exact ⟨by simp [SVal.concL, SVal.conc], by intro a ha; cases ha⟩
      | _ => simp [halvesOf] at h
    | _ => simp [halvesOf] at h
  | _ => intro l t h; simp [halvesOf] at h

theorem answerOf_ok {ρ : Env} {v : SVal} {l : List Tm} {t : Tm} (h : answerOf v = some (l, t)) :
    (∀ ι, v.conc ρ ι = Value.tuple (l.map (fun a : Tm => Value.int .i64 (a.den ρ).asInt) ++ [Value.bool (t.den ρ).asBool]).toArray) ∧ ∀ a ∈ l, a.inK .i64 = true := by
  cases v with
  | tup x => exact ⟨fun ι => by simp only [SVal.conc, (halvesOf_ok (ρ := ρ) ι x l t h).1], (halvesOf_ok (ρ := ρ) ι0 x l t h).2⟩
  | _ => simp [answerOf] at h

def insOf : SVal → Option (SVal × Tm)
  | .tup (.cons v (.cons (.bool t) .nil)) => some (v, t)
  | _ => none

def trueRes : Res := ⟨.bool (.bit true), [], .bit true⟩

/-- What the second function makes of the first one's answer, where there is one. -/
def backD (cx : Cx) (S : Specs) (fuel : Nat) (D : FuncId) (n : Nat) (ins it : SVal) (x : Res) : Tree Res :=
  match answerOf x.v with
  | some (hs, ok) => match Nat.beq hs.length n with
    | false => .fail "so many halfwords"
    | true => .ite ok ((callT cx S (run cx S fuel) D (hs.map (.int .i64) ++ [it]) [] (mkAnd x.pc ok)).bind fun y =>
      match insOf y.v with
      | some (v, o) => match eqS v ins with
        | some t => .leaf ⟨.bool (mkAnd o t), [], .bit true⟩
        | none => .fail "no instruction"
      | none => .fail "no instruction") (.leaf trueRes)
  | none => .fail "no answer"

def backTree (cx : Cx) (S : Specs) (fuel : Nat) (E D : FuncId) (n : Nat) (ins it : SVal) (c : Cas) : Tree Res :=
  .ite c.cond (.assert (allT (condS c.sub ++ c.pc)) ((callT cx S (run cx S fuel) E [subV c.sub ins, subV c.sub it] [] (c.pc.foldr mkAnd (.bit true))).bind
    (backD cx S fuel D n (subV c.sub ins) (subV c.sub it)))) (.leaf trueRes)

/-- The first function answers; where it says yes, the second one gives the instruction back. -/
theorem back_ok {ρ : Env} {cx : Cx} (ok : cx.Ok) {S : Specs} (hS : S.Ok ρ cx) (hB : ∀ f, S f ≠ none → ∃ fn c, cx.P.funcs[f]? = some fn ∧ fn.body = some c) {fuel : Nat} {E D : FuncId} {n : Nat} {ins it : SVal} {c : Cas}
    (hi : ins.sc 0 = true) (ht : it.sc 0 = true) (hc : (c.cond.den ρ).asBool = true) {sg : Sg} (so : sg.Ok ρ) {e : Kn} (hs : Sats ρ e) (hx : pxBoth sg (backTree cx S fuel E D n ins it c) e = true)
    {K : Nat → Prop} {w0 : World} {ι : Nm} {w : World} (hH : HR ρ cx.globs K w0 ι [] w) :
    ∃ (x : Res) (l : List Tm) (t : Tm), CallOk ρ cx.globs cx.P E [ins, it] [] x ∧ answerOf x.v = some (l, t) ∧ l.length = n ∧
      ((t.den ρ).asBool = true → ∃ (y : Res) (v : SVal) (o : Tm), CallOk ρ cx.globs cx.P D (l.map (.int .i64) ++ [it]) [] y ∧ insOf y.v = some (v, o) ∧ (o.den ρ).asBool = true ∧ ∀ ι ι', v.conc ρ ι = ins.conc ρ ι') := by
  obtain ⟨z, b, h1, h2, h3⟩ := pxBoth_ok so _ _ hs hx
  simp only [backTree, Tree.get, hc] at h1
  cases ha : ((allT (condS c.sub ++ c.pc)).den ρ).asBool with
  | false => rw [ha] at h1; cases h1
  | true =>
  rw [ha] at h1
  have hall := allT_den ρ _ ha
  have hsub : ∀ t ∈ condS c.sub, (t.den ρ).asBool = true := fun t ht => hall t (by simp [ht])
  simp only [Tree.get_bind, Option.bind_eq_some_iff] at h1
  obtain ⟨x, hx1, hx2⟩ := h1
  have hcall := call_ok ok hS hB (conj_den ρ _ (fun t ht => hall t (by simp [ht]))) hx1
  have hcall' : CallOk ρ cx.globs cx.P E [ins, it] [] x := by
    refine hcall.args ?_ ?_
    · intro v hv
      simp only [List.mem_cons, List.not_mem_nil, or_false] at hv
      rcases hv with rfl | rfl
      · exact subV_sc _ hi
      · exact subV_sc _ ht
    · intro ι
      simp only [List.map_cons, List.map_nil, (subV_conc hsub ι ins).1, (subV_conc hsub ι it).1]
  have hpc : (x.pc.den ρ).asBool = true := calls_pure (hcall' K w0 ι w hH (by
    intro v hv
    simp only [List.mem_cons, List.not_mem_nil, or_false] at hv
    rcases hv with rfl | rfl
    · exact hi
    · exact ht)) (by rintro e w' ⟨ι', _, _, _, _, h, _⟩; exact h)
  unfold backD at hx2
  split at hx2
  · rename_i l t hl
    split at hx2
    · cases hx2
    rename_i hn
    refine ⟨x, l, t, hcall', hl, Nat.eq_of_beq_eq_true hn, fun htrue => ?_⟩
    simp only [Tree.get, htrue, Tree.get_bind, Option.bind_eq_some_iff] at hx2
    obtain ⟨y, hy1, hy2⟩ := hx2
    have hD := call_ok ok hS hB (by rw [mkAnd_den, hpc, htrue]; rfl) hy1
    have hD' : CallOk ρ cx.globs cx.P D (l.map (.int .i64) ++ [it]) [] y := by
      refine hD.args ?_ ?_
      · intro v hv
        simp only [List.mem_append, List.mem_map, List.mem_cons, List.not_mem_nil, or_false] at hv
        rcases hv with ⟨u, _, rfl⟩ | rfl
        · rfl
        · exact subV_sc _ ht
      · intro ι
        simp only [List.map_append, List.map_cons, List.map_nil, (subV_conc hsub ι it).1]
    split at hy2
    · rename_i v o hv
      split at hy2
      · rename_i u hu
        simp only [Tree.get, Option.some.injEq] at hy2
        subst hy2
        simp only [SVal.bool.injEq] at h2
        subst h2
        rw [mkAnd_den, Bool.and_eq_true] at h3
        refine ⟨y, v, o, hD', hv, h3.1, fun ι ι' => ?_⟩
        rw [(eqS_conc _ _ _ hu h3.2 ι ι').1]
        exact (subV_conc hsub ι' ins).1
      · cases hy2
    · cases hy2
  · cases hx2

end
end Go.Sx
