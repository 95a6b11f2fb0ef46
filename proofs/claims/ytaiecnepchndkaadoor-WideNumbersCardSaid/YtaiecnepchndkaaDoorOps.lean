/- For the seat: what the signs stand for; how many ones a number has. -/
import Derived.Test.YtaiecnepchndkaaDoorCount
namespace Go.Proofs.YtaiecnepchndkaaDoor
open Go.Sx Go.ChangeShapes Go.WideShapes Go.RowKit Go.Joins Go.Deep Go.Sx.Ones

/-- The signs: 900 how many ones. -/
def F0 (g : Nat) (ss : List Sc) : Sc :=
  match Nat.beq g 900 with
  | true => .int (popI (ss.getD 0 (.int 0)).asInt)
  | false => .int 0

/-- 901 whether an instruction may be. -/
def F (g : Nat) (ss : List Sc) : Sc :=
  match Nat.beq g 901 with
  | true => Chk.chk.den (envOf F0 ss)
  | false => F0 g ss

theorem zero_has : kHas .i64 0 := by show -2 ^ 63 ≤ (0 : Int) ∧ (0 : Int) < 2 ^ 63; omega
theorem six_has : kHas .i64 6 := by show -2 ^ 63 ≤ (6 : Int) ∧ (6 : Int) < 2 ^ 63; omega

theorem F0_has (g : Nat) (ss : List Sc) : kHas .i64 (F0 g ss).asInt := by
  unfold F0
  split
  · exact popI_has _
  · exact zero_has

theorem chk_has (η : Env) : kHas .i64 (Chk.chk.den η).asInt := by
  unfold Chk.chk
  simp only [Tm.den]
  split
  · exact zero_has
  · exact six_has

theorem F_has (g : Nat) (ss : List Sc) : kHas .i64 (F g ss).asInt := by
  unfold F
  split
  · exact chk_has _
  · exact F0_has _ _

def sg : Sg := { defs := fun g => match Nat.beq g 901 with | true => some Chk.chk | false => none, ufs := [], pop := 900 }

theorem chk_signs : Chk.chk.signs (fun g => Nat.beq g 900) = true := by decide +kernel

theorem sg_ok {ρ : Env} (hF : ρ.f = F) : sg.Ok ρ := by
  refine ⟨?_, ?_, ?_⟩
  · intro g t h ss
    simp only [sg] at h
    split at h
    · rename_i hg
      have := Nat.eq_of_beq_eq_true hg
      subst this
      simp only [Option.some.injEq] at h; subst h
      rw [hF]
      show Chk.chk.den (envOf F0 ss) = _
      refine den_congr (P := fun g => Nat.beq g 900) rfl ?_ _ chk_signs
      intro g hg
      have := Nat.eq_of_beq_eq_true hg
      subst this
      rfl
    · cases h
  · intro g xs y hm; cases hm
  · intro s _
    rw [hF]
    rfl

noncomputable def onesTree : Tree Res := callT cx noS (run cx noS 400) 160 [.int .u64 (.var 0)] [] (.bit true)
set_option maxRecDepth 100000 in
theorem ones_run : leafInt .i64 onesTree = some onesE := by kernel_rfl

set_option maxRecDepth 100000 in
theorem ok0 : allN 64 (fun a => okAt a) = true := by kernel_rfl
set_option maxRecDepth 100000 in
theorem ok1 : allN 64 (fun a => okAt (64 + a)) = true := by kernel_rfl
set_option maxRecDepth 100000 in
theorem ok2 : allN 64 (fun a => okAt (128 + a)) = true := by kernel_rfl
set_option maxRecDepth 100000 in
theorem ok3 : allN 64 (fun a => okAt (192 + a)) = true := by kernel_rfl

theorem ones_pop (n : Nat) (h : n < 65536) : onesN n = popN 16 n := by
  have key : ∀ a, a < 256 → okAt a = true := by
    intro a ha
    by_cases h1 : a < 64
    · exact allN_get _ _ ok0 a h1
    by_cases h2 : a < 128
    · have := allN_get _ _ ok1 (a - 64) (by omega); rwa [show 64 + (a - 64) = a by omega] at this
    by_cases h3 : a < 192
    · have := allN_get _ _ ok2 (a - 128) (by omega); rwa [show 128 + (a - 128) = a by omega] at this
    · have := allN_get _ _ ok3 (a - 192) (by omega); rwa [show 192 + (a - 192) = a by omega] at this
  have h1 := allN_get _ _ (key (n / 256) (by omega)) (n % 256) (by omega)
  have h2 := Nat.eq_of_beq_eq_true h1
  have h3 : Nat.add (Nat.mul 256 (n / 256)) (n % 256) = n := Nat.div_add_mod n 256
  rw [h3] at h2
  exact h2

def onesPat : SVal := .cons (.int .u64 (.var 0)) .nil
def onesCond (ts : List Tm) : List Tm := [.op2 .le (ts.getD 0 (.num 0)) (.num 65535)]
def popR (t : Tm) : SVal := .int .i64 (.app 900 t)
def countPat : SVal := .cons (.int .i64 (.var 0)) .nil
def countCond (ts : List Tm) : List Tm := [.op2 .le (.num 0) (ts.getD 0 (.num 0))]

theorem ones_call {ρ : Env} (V : VarsOk ρ) (hF : ρ.f = F) : ∀ args h pc x, (pc.den ρ).asBool = true → (specC onesPat onesCond popR args h pc).get ρ = some x → CallOk ρ cx.globs cx.P 160 args h x := by
  refine specC_ok V globsC rfl (by intro u hu; simp [onesPat, SVal.toList] at hu; subst hu; rfl) (fun _ => rfl) ?_
  intro ts hl hp hc
  match ts, hl with
  | [t], _ =>
    have hp' : kHas .u64 (t.den ρ).asInt := hp.1
    have hp2 : 0 ≤ (t.den ρ).asInt ∧ (t.den ρ).asInt < 2 ^ 64 := hp'
    have hc' := hc (.op2 .le t (.num 65535)) (by simp [onesCond])
    have hc2 : (t.den ρ).asInt ≤ 65535 := of_decide_eq_true hc'
    obtain ⟨n, hn⟩ := Int.eq_ofNat_of_zero_le hp2.1
    have hn16 : n < 65536 := by omega
    obtain ⟨x, h1, h2⟩ := leafInt_get (envOf F0 [.int (n : Int)]) ones_run
    refine ⟨envOf F0 [.int (n : Int)], x, call_ok cxok (noS_ok _ _) (noS_body _) rfl h1, ?_, ?_⟩
    · intro ι
      simp only [onesPat, SVal.concL, SVal.conc, Tm.den, envOf, List.map_cons, List.map_nil, List.getD_cons_zero, Sc.asInt_int, hn]
    · intro u ι ι' hu
      rw [h2]
      have e := ones_den (ρ := envOf F0 [.int (n : Int)]) n hn16 rfl
      simp only [SVal.conc, popR, Tm.den, hu, hF]
      rw [e]
      have : F 900 [t.den ρ] = .int (popI (n : Int)) := by
        show Sc.int (popI (t.den ρ).asInt) = _
        rw [hn]
      simp only [List.map_cons, List.map_nil]
      rw [this, popI_small n hn16, ones_pop n hn16]

theorem count_call {ρ : Env} (V : VarsOk ρ) (hF : ρ.f = F) : ∀ args h pc x, (pc.den ρ).asBool = true → (specC countPat countCond popR args h pc).get ρ = some x → CallOk ρ cx.globs cx.P 107 args h x := by
  refine specC_ok V globsC rfl (by intro u hu; simp [countPat, SVal.toList] at hu; subst hu; rfl) (fun _ => rfl) ?_
  intro ts hl hp hc
  match ts, hl with
  | [t], _ =>
    have hp' : kHas .i64 (t.den ρ).asInt := hp.1
    have hp2 : -2 ^ 63 ≤ (t.den ρ).asInt ∧ (t.den ρ).asInt < 2 ^ 63 := hp'
    have hc' := hc (.op2 .le (.num 0) t) (by simp [countCond])
    have hc2 : 0 ≤ (t.den ρ).asInt := of_decide_eq_true hc'
    obtain ⟨n, hn⟩ := Int.eq_ofNat_of_zero_le hc2
    refine ⟨envOf F0 [.int (n : Int)], ⟨.int .i64 (.num (pop n : Int)), [], .bit true⟩, ?_, ?_, ?_⟩
    · refine callOk_of_same rfl ?_
      intro ι w
      exact count_any n w (by omega)
    · intro ι
      simp only [countPat, SVal.concL, SVal.conc, Tm.den, envOf, List.map_cons, List.map_nil, List.getD_cons_zero, Sc.asInt_int, hn]
    · intro u ι ι' hu
      simp only [SVal.conc, popR, Tm.den, hu, hF]
      have : F 900 [t.den ρ] = .int (popI (n : Int)) := by
        show Sc.int (popI (t.den ρ).asInt) = _
        rw [hn]
      simp only [List.map_cons, List.map_nil]
      rw [this]
      unfold popI
      rw [popB_nat]
      rfl

/-- How many ones: known. -/
def popS : Specs := fun f => match f with
  | 160 => some (specC onesPat onesCond popR)
  | 107 => some (specC countPat countCond popR)
  | _ => none

theorem popS_ok {ρ : Env} (V : VarsOk ρ) (hF : ρ.f = F) : popS.Ok ρ cx := by
  intro f sp h
  unfold popS at h
  split at h
  · simp only [Option.some.injEq] at h; subst h; exact ones_call V hF
  · simp only [Option.some.injEq] at h; subst h; exact count_call V hF
  · cases h

theorem popS_body : ∀ f, popS f ≠ none → ∃ fn c, cx.P.funcs[f]? = some fn ∧ fn.body = some c := by
  intro f h
  unfold popS at h
  split at h
  · exact ⟨Tryd.f160, _, Tryd.func160, rfl⟩
  · exact ⟨Tryd.f107, _, Tryd.func107, rfl⟩
  · exact (h rfl).elim

end Go.Proofs.YtaiecnepchndkaaDoor
