/- Laws walked case by case. -/
import Derived.Test.YtaiecnepchndkaaDoorSxRg
namespace Go.Sx
open Go.RowKit

/-- A case: what is so; what stands for some variables then (is it a truth?); what the walk is told. -/
structure Cas where
  pre : List Tm
  sub : List (Nat × Bool × Tm)
  pc : List Tm

def Cas.mul (a b : List Cas) : List Cas := a.flatMap fun x => b.map fun y => ⟨x.pre ++ y.pre, x.sub ++ y.sub, x.pc ++ y.pc⟩

def findS (b : Bool) : List (Nat × Bool × Tm) → Nat → Tm
  | [], i => .var i
  | (j, c, t) :: l, i => match Nat.beq i j && (b == c) with | true => t | false => findS b l i

def subV (l : List (Nat × Bool × Tm)) : SVal → SVal
  | .int k (.var i) => .int k (findS false l i)
  | .bool (.var i) => .bool (findS true l i)
  | .agg a => .agg (subV l a)
  | .cons a r => .cons (subV l a) (subV l r)
  | v => v

def condS : List (Nat × Bool × Tm) → List Tm
  | [] => []
  | (i, b, t) :: l => (match b with | true => .op2 .beq (.var i) t | false => .op2 .eq (.var i) t) :: condS l

def allT : List Tm → Tm
  | [] => .bit true
  | a :: r => .op2 .band a (allT r)

def anyT : List Tm → Tm
  | [] => .bit false
  | a :: r => .op2 .bor a (anyT r)

theorem allT_den (ρ : Env) : ∀ l : List Tm, ((allT l).den ρ).asBool = true → ∀ t ∈ l, (t.den ρ).asBool = true
  | [], _, t, h => by cases h
  | a :: r, h, t, ht => by
    simp only [allT, Tm.den, Op2.ev, Sc.asBool_bool, Bool.and_eq_true] at h
    rcases List.mem_cons.1 ht with rfl | ht
    · exact h.1
    · exact allT_den ρ r h.2 t ht

theorem anyT_den (ρ : Env) : ∀ l : List Tm, ((anyT l).den ρ).asBool = true → ∃ t ∈ l, (t.den ρ).asBool = true
  | [], h => by simp [anyT, Tm.den] at h
  | a :: r, h => by
    simp only [anyT, Tm.den, Op2.ev, Sc.asBool_bool, Bool.or_eq_true] at h
    rcases h with h | h
    · exact ⟨a, by simp, h⟩
    · obtain ⟨t, h1, h2⟩ := anyT_den ρ r h
      exact ⟨t, by simp [h1], h2⟩

def Cas.cond (c : Cas) : Tm := allT c.pre

theorem findS_int {ρ : Env} : ∀ (l : List (Nat × Bool × Tm)), (∀ t ∈ condS l, (t.den ρ).asBool = true) → ∀ i, ((findS false l i).den ρ).asInt = (ρ.v i).asInt
  | [], _, i => rfl
  | (j, c, t) :: l, h, i => by
    unfold findS
    split
    · rename_i hb
      rw [Bool.and_eq_true, beq_iff_eq] at hb
      obtain ⟨h1, rfl⟩ := hb
      have := Nat.eq_of_beq_eq_true h1; subst this
      exact (eq_of_beq (h _ (List.mem_cons_self ..))).symm
    · exact findS_int l (fun t ht => h t (List.mem_cons_of_mem _ ht)) i

theorem findS_bool {ρ : Env} : ∀ (l : List (Nat × Bool × Tm)), (∀ t ∈ condS l, (t.den ρ).asBool = true) → ∀ i, ((findS true l i).den ρ).asBool = (ρ.v i).asBool
  | [], _, i => rfl
  | (j, c, t) :: l, h, i => by
    unfold findS
    split
    · rename_i hb
      rw [Bool.and_eq_true, beq_iff_eq] at hb
      obtain ⟨h1, rfl⟩ := hb
      have := Nat.eq_of_beq_eq_true h1; subst this
      exact (eq_of_beq (h _ (List.mem_cons_self ..))).symm
    · exact findS_bool l (fun t ht => h t (List.mem_cons_of_mem _ ht)) i

theorem subV_conc {ρ : Env} {l : List (Nat × Bool × Tm)} (h : ∀ t ∈ condS l, (t.den ρ).asBool = true) (ι : Nm) (v : SVal) : (subV l v).conc ρ ι = v.conc ρ ι ∧ (subV l v).concL ρ ι = v.concL ρ ι := by
  induction v with
  | int k t =>
    cases t with
    | var i => exact ⟨by have := findS_int l h i; simp only [subV, SVal.conc]; rw [this]; rfl, by simp [subV, SVal.concL]⟩
    | _ => exact ⟨rfl, rfl⟩
  | bool t =>
    cases t with
    | var i => exact ⟨by have := findS_bool l h i; simp only [subV, SVal.conc]; rw [this]; rfl, by simp [subV, SVal.concL]⟩
    | _ => exact ⟨rfl, rfl⟩
  | agg a ih => exact ⟨by simp only [subV, SVal.conc, ih.2], by simp [subV, SVal.concL]⟩
  | cons a r iha ihr => exact ⟨by simp [subV, SVal.conc], by simp only [subV, SVal.concL, iha.1, ihr.2]⟩
  | _ => exact ⟨rfl, rfl⟩

theorem subV_sc {n : Nat} {l : List (Nat × Bool × Tm)} (v : SVal) (h : v.sc n = true) : (subV l v).sc n = true := by
  induction v with
  | int k t => cases t <;> exact h
  | bool t => cases t <;> exact h
  | agg a ih => simp only [SVal.sc] at h; simp only [subV, SVal.sc]; exact ih h
  | cons a r iha ihr => simp only [SVal.sc, Bool.and_eq_true] at h; simp only [subV, SVal.sc, iha h.1, ihr h.2]; rfl
  | _ => exact h

/-- The law at a case; where the case is not so, nothing is asked. -/
def Cas.tree (cx : Cx) (S : Specs) (fuel : Nat) (f : FuncId) (pat : List SVal) (c : Cas) : Tree Res :=
  .ite c.cond (.assert (allT (condS c.sub ++ c.pc)) (callT cx S (run cx S fuel) f (pat.map (subV c.sub)) [] (c.pc.foldr mkAnd (.bit true)))) (.leaf ⟨.bool (.bit true), [], .bit true⟩)

theorem cas_px {ρ : Env} {cx : Cx} (ok : cx.Ok) {S : Specs} (hS : S.Ok ρ cx) (hB : ∀ f, S f ≠ none → ∃ fn c, cx.P.funcs[f]? = some fn ∧ fn.body = some c) {fuel : Nat} {f : FuncId} {pat : List SVal} {c : Cas}
    (hsc : ∀ v ∈ pat, v.sc 0 = true) (hc : (c.cond.den ρ).asBool = true) {sg : Sg} (so : sg.Ok ρ) {e : Kn} (hs : Sats ρ e) (hx : pxTree sg (c.tree cx S fuel f pat) e = true) (w : World)
    (hG : HR ρ cx.globs (ownK w) w ι0 [] w) :
    Calls cx.P f (pat.map (·.conc ρ ι0)).toArray w fun e w' => e = .returned (.bool true) ∧ Grown w w' := by
  obtain ⟨x, b, h1, h2, h3⟩ := pxTree_ok so _ _ hs hx
  simp only [Cas.tree, Tree.get, hc] at h1
  cases ha : ((allT (condS c.sub ++ c.pc)).den ρ).asBool with
  | false => rw [ha] at h1; cases h1
  | true =>
  rw [ha] at h1
  have hall := allT_den ρ _ ha
  have hcall := call_ok ok hS hB (conj_den ρ _ (fun t ht => hall t (by simp [ht]))) h1
  have := hcall (ownK w) w ι0 w hG (by
    intro v hv
    obtain ⟨u, hu, rfl⟩ := List.mem_map.1 hv
    exact subV_sc u (hsc u hu))
  have e : (pat.map (subV c.sub)).map (·.conc ρ ι0) = pat.map (·.conc ρ ι0) := by
    rw [List.map_map]
    exact List.map_congr_left fun v _ => (subV_conc (fun t ht => hall t (by simp [ht])) ι0 v).1
  rw [e] at this
  refine this.mono ?_
  rintro e w' ⟨ι', _, _, H, _, _, rfl⟩
  rw [h2]
  exact ⟨by simp [SVal.conc, h3], H.grown⟩

/-- Some case is so. -/
theorem cas_cov {ρ : Env} {sg : Sg} (so : sg.Ok ρ) {e : Kn} (hs : Sats ρ e) {l : List Cas} (h : pxT sg (anyT (l.map Cas.cond)) e (fun _ => true) = true) : ∃ c ∈ l, (c.cond.den ρ).asBool = true := by
  obtain ⟨t, h1, h2⟩ := anyT_den ρ _ (pxT_ok so hs h).1
  obtain ⟨c, hc, rfl⟩ := List.mem_map.1 h1
  exact ⟨c, hc, h2⟩

end Go.Sx
