/- For the seat: the number of twelve bits (Expand, Valid) as signs. -/
import Derived.Test.YtaiecnepchndkaaDoorLaw
import Derived.Test.YtaiecnepchndkaaDoorSxBack
namespace Go.Proofs.YtaiecnepchndkaaDoor
open Go.Sx Go.ChangeShapes Go.WideShapes Go.RowKit Go.Joins Go.Deep

namespace ex
def x0 : Tm := .var 0
def and (a : Tm) (n : Int) : Tm := .op2 (.and .i64) a (.num n)
def is (a : Tm) (n : Int) : Tm := .op2 .eq a (.num n)
def top : Tm := and (.op2 (.shr .i64) x0 (.num 8)) 15
def b : Tm := .op1 (.conv .u32) (and x0 255)
def c : Tm := .op2 (.or .u32) b (.num 128)
def k : Tm := .op2 (.and .u64) (.op1 (.conv .u64) (and (.op2 (.shr .i64) x0 (.num 7)) 31)) (.num 31)
def by' (n : Int) : Tm := .op2 (.mul .u32) b (.num n)
/-- 920: the number that twelve bits tell. -/
def expT : Tm := .ite (is top 0) b (.ite (is top 1) (by' 65537) (.ite (is top 2) (by' 16777472) (.ite (is top 3) (by' 16843009) (.op2 (.or .u32) (.op2 (.shr .u32) c k) (.op2 (.shl .u32) c (.op2 (.sub .u64) (.num 32) k))))))
/-- 921: may they be told? -/
def valT : Tm := .op2 .band (.op2 .le (.num 0) x0) (.op2 .band (.op2 .lt x0 (.num 4096)) (.op2 .bor (is (.op2 (.shr .i64) x0 (.num 8)) 0) (.op2 .bor (.op2 .lt (.num 3) (.op2 (.shr .i64) x0 (.num 8))) (.op1 .not (is (and x0 255) 0)))))
def kn : Kn := ⟨[], [], [], [], [0]⟩
set_option maxRecDepth 100000 in
theorem exp_run : pxIs sg (.int .u32 expT) (callT cx noS (run cx noS 400) 167 [.int .i64 (.var 0)] [] (.bit true)) kn = true := by kernel_rfl
set_option maxRecDepth 100000 in
theorem val_run : pxIs sg (.bool valT) (callT cx noS (run cx noS 400) 168 [.int .i64 (.var 0)] [] (.bit true)) kn = true := by kernel_rfl
def pat1 : SVal := .cons (.int .i64 (.var 0)) .nil
def expR (t : Tm) : SVal := .int .u32 (.app 920 t)
def valR (t : Tm) : SVal := .bool (.app 921 t)
end ex

/-- The signs: those of before; 920, 921. -/
def F1 (g : Nat) (ss : List Sc) : Sc :=
  match Nat.beq g 920 with
  | true => .int (ex.expT.den (envOf F ss)).asInt
  | false => match Nat.beq g 921 with
    | true => .bool (ex.valT.den (envOf F ss)).asBool
    | false => F g ss

theorem exp_u32 (η : Env) : 0 ≤ (ex.expT.den η).asInt ∧ (ex.expT.den η).asInt < 2 ^ 32 := by
  have u : ∀ n, 0 ≤ IntKind.u32.wrap n ∧ IntKind.u32.wrap n < 2 ^ 32 := fun n => wrap_has .u32 n
  unfold ex.expT
  simp only [Tm.den]
  repeat' split
  all_goals exact u _

theorem F1_has (g : Nat) (ss : List Sc) : kHas .i64 (F1 g ss).asInt := by
  unfold F1
  split
  · have := exp_u32 (envOf F ss)
    show -2 ^ 63 ≤ (ex.expT.den (envOf F ss)).asInt ∧ (ex.expT.den (envOf F ss)).asInt < 2 ^ 63
    omega
  · split
    · exact zero_has
    · exact F_has _ _

/-- What is asked of an environment's signs. -/
structure Signs (f : Nat → List Sc → Sc) : Prop where
  s900 : f 900 = F 900
  s901 : f 901 = F 901

theorem F_signs : Signs F := ⟨rfl, rfl⟩
theorem F1_signs : Signs F1 := ⟨rfl, rfl⟩

theorem sg_ok' {ρ : Env} (hF : Signs ρ.f) : sg.Ok ρ := by
  refine ⟨?_, ?_, ?_⟩
  · intro g t h ss
    simp only [sg] at h
    split at h
    · rename_i hg
      have := Nat.eq_of_beq_eq_true hg
      subst this
      simp only [Option.some.injEq] at h; subst h
      rw [hF.s901]
      have hc : ∀ g, Nat.beq g 900 = true → (envOf F0 ss).f g = ρ.f g := by
        intro g hg
        have := Nat.eq_of_beq_eq_true hg
        subst this
        show F0 900 = ρ.f 900
        rw [hF.s900]
        funext l
        rfl
      exact den_congr (P := fun g => Nat.beq g 900) (η := envOf F0 ss) (η' := ⟨fun i => ss.getD i (.int 0), ρ.f, ρ.val⟩) rfl hc Chk.chk chk_signs
    · cases h
  · intro g xs y hm; cases hm
  · intro s _
    show (ρ.f 900 [s]).asInt = _
    rw [hF.s900]
    rfl

theorem chk_call' {f : Nat} (A : chk.All f) {ρ : Env} (V : VarsOk ρ) (hF : Signs ρ.f) : ∀ args h pc x, (pc.den ρ).asBool = true → (specR chkPat chkR args h pc).get ρ = some x → CallOk ρ cx.globs cx.P f args h x := by
  refine specR_ok V globsC rfl (by intro u hu; simp [chkPat, SVal.toList] at hu; subst hu; rfl) (fun _ => rfl) ?_
  intro L hL hp
  match L, hL with
  | [s0, s1, s2, s3, s4, s5, s6, s7, s8], _ =>
    obtain ⟨⟨p0, p1, p2, p3, p4, p5, p6, p7, _⟩, _⟩ := hp
    let x : Fields := ⟨s0.asInt, s1.asInt, s2.asInt, s3.asInt, s4.asInt, s5.asInt, s6.asInt, s7.asInt, s8.asBool⟩
    obtain ⟨x', hc, hv⟩ := chk_all A (x := x) ⟨p0, p1, p2, p3, p4, p5, p6, p7⟩
    refine ⟨envOf F x.scs, x', hc, fun ι => rfl, ?_⟩
    intro t ι ι' ht
    rw [hv ι']
    simp only [SVal.conc, chkR, Tm.den, ht, hF.s901]
    exact congrArg _ (chk_norm s0 s1 s2 s3 s4 s5 s6 s7 s8)

theorem one_vars {s : Sc} (h : kHas .i64 s.asInt) : VarsOk (envOf F [s]) := by
  refine ⟨?_, F_has⟩
  intro i
  match i with
  | 0 => exact h
  | k + 1 => exact zero_has

theorem exp_call {ρ : Env} (V : VarsOk ρ) (hF : ρ.f 920 = F1 920) : ∀ args h pc x, (pc.den ρ).asBool = true → (specR ex.pat1 ex.expR args h pc).get ρ = some x → CallOk ρ cx.globs cx.P 167 args h x := by
  refine specR_ok V globsC rfl (by intro u hu; simp [ex.pat1, SVal.toList] at hu; subst hu; rfl) (fun _ => rfl) ?_
  intro L hL hp
  match L, hL with
  | [s], _ =>
    have hs : kHas .i64 s.asInt := hp.1
    have S : Sats (envOf F [.int s.asInt]) ex.kn := by
      refine Sats.start (one_vars (s := .int s.asInt) hs) _ ?_
      intro i hi
      simp only [List.mem_cons, List.not_mem_nil, or_false] at hi
      subst hi
      exact ⟨_, rfl⟩
    obtain ⟨x', h1, h2⟩ := pxIs_ok (sg_ok' F_signs) _ _ S ex.exp_run
    refine ⟨envOf F [.int s.asInt], x', call_ok cxok (noS_ok _ _) (noS_body _) rfl h1, fun ι => rfl, ?_⟩
    intro t ι ι' ht
    rw [h2]
    simp only [SVal.conc, ex.expR, Tm.den, ht, hF]
    rfl

theorem val_call {ρ : Env} (V : VarsOk ρ) (hF : ρ.f 921 = F1 921) : ∀ args h pc x, (pc.den ρ).asBool = true → (specR ex.pat1 ex.valR args h pc).get ρ = some x → CallOk ρ cx.globs cx.P 168 args h x := by
  refine specR_ok V globsC rfl (by intro u hu; simp [ex.pat1, SVal.toList] at hu; subst hu; rfl) (fun _ => rfl) ?_
  intro L hL hp
  match L, hL with
  | [s], _ =>
    have hs : kHas .i64 s.asInt := hp.1
    have S : Sats (envOf F [.int s.asInt]) ex.kn := by
      refine Sats.start (one_vars (s := .int s.asInt) hs) _ ?_
      intro i hi
      simp only [List.mem_cons, List.not_mem_nil, or_false] at hi
      subst hi
      exact ⟨_, rfl⟩
    obtain ⟨x', h1, h2⟩ := pxIs_ok (sg_ok' F_signs) _ _ S ex.val_run
    refine ⟨envOf F [.int s.asInt], x', call_ok cxok (noS_ok _ _) (noS_body _) rfl h1, fun ι => rfl, ?_⟩
    intro t ι ι' ht
    rw [h2]
    simp only [SVal.conc, ex.valR, Tm.den, ht, hF]
    rfl

/-- What the walks know: 'Check' of both packages, Expand, Valid; 'awake'. -/
def expS (aw : Nat) : Specs := fun f => match Nat.beq f 167 with
  | true => some (specR ex.pat1 ex.expR)
  | false => match Nat.beq f 168 with
    | true => some (specR ex.pat1 ex.valR)
    | false => lawS aw f

theorem lawS_ok' {aw : Nat} (h0 : isTrue (callT cx noS (run cx noS 3000) aw [] [] (.bit true)) = true) {ρ : Env} (V : VarsOk ρ) (hF : Signs ρ.f) : (lawS aw).Ok ρ cx := by
  intro f sp h
  unfold lawS at h
  split at h
  · rename_i hf
    simp only [Option.some.injEq] at h; subst h
    simp only [Bool.or_eq_true] at hf
    rcases hf with hf | hf
    · have := Nat.eq_of_beq_eq_true hf; subst this; exact chk_call' chk.all_p V hF
    · have := Nat.eq_of_beq_eq_true hf; subst this; exact chk_call' chk.all_r V hF
  · split at h
    · rename_i hf
      have := Nat.eq_of_beq_eq_true hf; subst this
      simp only [Option.some.injEq] at h; subst h; exact awake_call h0 ρ
    · cases h

theorem expS_ok {aw : Nat} (h0 : isTrue (callT cx noS (run cx noS 3000) aw [] [] (.bit true)) = true) {ρ : Env} (V : VarsOk ρ) (hF : Signs ρ.f) (h920 : ρ.f 920 = F1 920) (h921 : ρ.f 921 = F1 921) : (expS aw).Ok ρ cx := by
  intro f sp h
  unfold expS at h
  split at h
  · rename_i hf
    have := Nat.eq_of_beq_eq_true hf; subst this
    simp only [Option.some.injEq] at h; subst h; exact exp_call V h920
  · split at h
    · rename_i hf
      have := Nat.eq_of_beq_eq_true hf; subst this
      simp only [Option.some.injEq] at h; subst h; exact val_call V h921
    · exact lawS_ok' h0 V hF f sp h

theorem expS_body {aw : Nat} (hb : ∃ fn c, cx.P.funcs[aw]? = some fn ∧ fn.body = some c) : ∀ f, expS aw f ≠ none → ∃ fn c, cx.P.funcs[f]? = some fn ∧ fn.body = some c := by
  intro f h
  unfold expS at h
  split at h
  · rename_i hf
    have := Nat.eq_of_beq_eq_true hf; subst this; exact ⟨Tryd.f167, _, Tryd.func167, rfl⟩
  · split at h
    · rename_i hf
      have := Nat.eq_of_beq_eq_true hf; subst this; exact ⟨Tryd.f168, _, Tryd.func168, rfl⟩
    · exact lawS_body hb f h

/-- Ways are not made one. -/
noncomputable def cxs' : Cx := { P := Tryd.prog, okT := [23], globs := [(0, kindsS)], sharp := true }
theorem cxsok' : cxs'.Ok := ⟨cxok.1, cxok.2, cxok.3⟩
end Go.Proofs.YtaiecnepchndkaaDoor
