/- For the seat: texts joined: Base, Count, Ops, ChkDef. -/
import Derived.Test.YtdeelhbckfmaeaaGreatDoorSxFlat
import Derived.Test.YtdeelhbckfmaeaaGreatDoorSxOnes
import Derived.Test.YtdeelhbckfmaeaaGreatDoorRows
import Derived.ChangeVars
import Derived.RowKit
import Derived.WalkKit
import Derived.LoopTactic
import Derived.Outline
/- For the seat: the executor over its program, and the package's variable that is laid. -/
namespace Go.Proofs.YtdeelhbckfmaeaaGreatDoor
open Go.Sx Go.ChangeShapes Go.WideShapes Go.RowKit Go.Joins Go.Deep

noncomputable def cx : Cx := { P := Tryz.prog, okT := [30], globs := [] }

set_option maxRecDepth 100000 in
theorem cxok : cx.Ok where
  okT := by
    intro t ht
    simp only [cx, List.mem_cons, List.not_mem_nil, or_false] at ht
    subst ht
    exact ⟨by kernel_rfl, by kernel_rfl⟩
  names := names_of (by kernel_rfl)
  mixed := by kernel_rfl

set_option maxRecDepth 100000 in
theorem globsC : Globs.Closed cx.globs := by
  intro g cs hg
  simp [cx] at hg

/-- Nothing is wanted of the world. -/
def Laid (_ : World) : Prop := True

set_option maxRecDepth 100000 in
theorem start (ρ : Env) {w : World} (_h : Laid w) (hB : ∀ q, ρ.ab.B q → ownK w q := by exact fun _ h => False.elim h) : HR ρ cx.globs (ownK w) w ι0 [] w := by
  refine ⟨rfl, rfl, rfl, Nat.le_refl _, fun _ _ => rfl, fun _ h => h, hB, ?_, ?_, ?_⟩
  · intro n b hb; simp at hb
  · intro n m b c hb; simp at hb
  · intro g cs hg
    simp [cx] at hg

set_option maxRecDepth 100000 in
theorem own : ownKnob Tryz.prog.godebug = none := by kernel_rfl

end Go.Proofs.YtdeelhbckfmaeaaGreatDoor
/- For the seat: the reference's count of ones, walked. -/
namespace Go.Proofs.YtdeelhbckfmaeaaGreatDoor
open Go.Sx Go.RowKit Go.Sx.Ones

set_option maxRecDepth 100000 in
theorem popN_le : ∀ k n, popN k n ≤ k
  | 0, _ => Nat.le_refl _
  | k + 1, n => by have := popN_le k (n / 2); simp only [popN]; omega

set_option maxRecDepth 100000 in
theorem pop_half (m : Nat) (h : m < 9223372036854775808) : popN 64 m = m % 2 + popN 64 (m / 2) := by
  have e1 : popN 64 m = m % 2 + popN 63 (m / 2) := rfl
  have e2 : popN (63 + 1) (m / 2) = popN 63 (m / 2) + popN 1 (m / 2 / 2 ^ 63) := popN_add 63 1 (m / 2)
  have e3 : m / 2 / 2 ^ 63 = 0 := Nat.div_eq_of_lt (by omega)
  rw [e3, popN_zero] at e2
  rw [e1, show 64 = 63 + 1 from rfl, e2, Nat.add_zero]

def pop (n : Nat) : Nat := popN 64 n
set_option maxRecDepth 100000 in
theorem pop_zero : pop 0 = 0 := popN_zero 64
set_option maxRecDepth 100000 in
theorem pop_le (n : Nat) : pop n ≤ 64 := popN_le 64 n
set_option maxRecDepth 100000 in
theorem pop_step (m : Nat) (h : m < 9223372036854775808) : pop m = m % 2 + pop (m / 2) := pop_half m h

set_option maxRecDepth 100000 in
set_option maxHeartbeats 1000000 in
theorem count_any (n : Nat) (w : World) (hn : n < 9223372036854775808) : Calls Tryz.prog 296 #[.int .i64 n] w fun e w' => e = .returned (.int .i64 (pop n)) ∧ w' = w := by
  go_enter Tryz.func296, Tryz.ntmps296
  go_wp2
  go_loop [0, 3] (fun l c => ∃ m k : Nat, m < 9223372036854775808 ∧ l = .int .i64 m ∧ c = .int .i64 k ∧ k + pop m = pop n) (fun l _ => (intOf l).toNat)
  case atStart => exact ⟨n, 0, hn, rfl, rfl, by omega⟩
  case round =>
    obtain ⟨m, k, hm, rfl, rfl, hk⟩ := hrel
    have hp := pop_step m hm
    have hle := pop_le n
    have HK : Hid (k + pop m = pop n) := hk
    have HP : Hid (pop m = m % 2 + pop (m / 2)) := hp
    have hk64 : k ≤ 64 := by omega
    clear hk hp
    by_cases h0 : 0 < m
    · go_wp2
      go_round
      case rel => exact ⟨m / 2, k + m % 2, by omega, by go_num, by go_num, by have := HK.out; have := HP.out; omega⟩
      case measure => simp [intOf]; omega
    · have hz : m = 0 := by omega
      subst hz
      go_wp2
      go_ret
      have := HK.out
      rw [pop_zero] at this
      exact ⟨by rw [← this]; rfl, rfl⟩

end Go.Proofs.YtdeelhbckfmaeaaGreatDoor
/- For the seat: what the signs stand for; how many ones a number has. -/
namespace Go.Proofs.YtdeelhbckfmaeaaGreatDoor
open Go.Sx Go.ChangeShapes Go.WideShapes Go.RowKit Go.Joins Go.Deep Go.Sx.Ones

/-- The signs: 900 how many ones. -/
def F0 (g : Nat) (ss : List Sc) : Sc :=
  match Nat.beq g 900 with
  | true => .int (popI (ss.getD 0 (.int 0)).asInt)
  | false => .int 0

/-- 901 whether an instruction may be. -/
def F (g : Nat) (ss : List Sc) : Sc :=
  match Nat.beq g 901 with
  | true => Chk.chk.den (envOf F0 ss)
  | false => F0 g ss

set_option maxRecDepth 100000 in
theorem zero_has : kHas .i64 0 := by show -2 ^ 63 ≤ (0 : Int) ∧ (0 : Int) < 2 ^ 63; omega
set_option maxRecDepth 100000 in
theorem six_has : kHas .i64 6 := by show -2 ^ 63 ≤ (6 : Int) ∧ (6 : Int) < 2 ^ 63; omega

set_option maxRecDepth 100000 in
theorem F0_has (g : Nat) (ss : List Sc) : kHas .i64 (F0 g ss).asInt := by
  unfold F0
  split
  · exact popI_has _
  · exact zero_has

set_option maxRecDepth 100000 in
theorem chk_has (η : Env) : kHas .i64 (Chk.chk.den η).asInt := by
  unfold Chk.chk
  simp only [Tm.den]
  split
  · exact zero_has
  · exact six_has

set_option maxRecDepth 100000 in
theorem F_has (g : Nat) (ss : List Sc) : kHas .i64 (F g ss).asInt := by
  unfold F
  split
  · exact chk_has _
  · exact F0_has _ _

def sg : Sg := { defs := fun g => match Nat.beq g 901 with | true => some Chk.chk | false => none, ufs := [], pop := 900 }

set_option maxRecDepth 100000 in
theorem chk_signs : Chk.chk.signs (fun g => Nat.beq g 900) = true := by decide +kernel

set_option maxRecDepth 100000 in
theorem sg_ok {ρ : Env} (hF : ρ.f = F) : sg.Ok ρ := by
  refine ⟨?_, ?_, ?_⟩
  · intro g t h ss
    simp only [sg] at h
    split at h
    · rename_i hg
      have := Nat.eq_of_beq_eq_true hg
      subst this
      simp only [Option.some.injEq] at h; subst h
      rw [hF]
      show Chk.chk.den (envOf F0 ss) = _
      refine den_congr (P := fun g => Nat.beq g 900) rfl ?_ _ chk_signs
      intro g hg
      have := Nat.eq_of_beq_eq_true hg
      subst this
      rfl
    · cases h
  · intro g xs y hm; cases hm
  · intro s _
    rw [hF]
    rfl

noncomputable def onesTree : Tree Res := callT cx noS (run cx noS 400) 313 [.int .u64 (.var 0)] [] (.bit true)
set_option maxRecDepth 100000 in
theorem ones_run : leafInt .i64 onesTree = some onesE := by kernel_rfl

set_option maxRecDepth 100000 in
theorem ok0 : allN 64 (fun a => okAt a) = true := by kernel_rfl
set_option maxRecDepth 100000 in
theorem ok1 : allN 64 (fun a => okAt (64 + a)) = true := by kernel_rfl
set_option maxRecDepth 100000 in
theorem ok2 : allN 64 (fun a => okAt (128 + a)) = true := by kernel_rfl
set_option maxRecDepth 100000 in
theorem ok3 : allN 64 (fun a => okAt (192 + a)) = true := by kernel_rfl

set_option maxRecDepth 100000 in
theorem ones_pop (n : Nat) (h : n < 65536) : onesN n = popN 16 n := by
  have key : ∀ a, a < 256 → okAt a = true := by
    intro a ha
    by_cases h1 : a < 64
    · exact allN_get _ _ ok0 a h1
    by_cases h2 : a < 128
    · have := allN_get _ _ ok1 (a - 64) (by omega); rwa [show 64 + (a - 64) = a by omega] at this
    by_cases h3 : a < 192
    · have := allN_get _ _ ok2 (a - 128) (by omega); rwa [show 128 + (a - 128) = a by omega] at this
    · have := allN_get _ _ ok3 (a - 192) (by omega); rwa [show 192 + (a - 192) = a by omega] at this
  have h1 := allN_get _ _ (key (n / 256) (by omega)) (n % 256) (by omega)
  have h2 := Nat.eq_of_beq_eq_true h1
  have h3 : Nat.add (Nat.mul 256 (n / 256)) (n % 256) = n := Nat.div_add_mod n 256
  rw [h3] at h2
  exact h2

def onesPat : SVal := .cons (.int .u64 (.var 0)) .nil
def onesCond (ts : List Tm) : List Tm := [.op2 .le (ts.getD 0 (.num 0)) (.num 65535)]
def popR (t : Tm) : SVal := .int .i64 (.app 900 t)
def countPat : SVal := .cons (.int .i64 (.var 0)) .nil
def countCond (ts : List Tm) : List Tm := [.op2 .le (.num 0) (ts.getD 0 (.num 0))]

set_option maxRecDepth 100000 in
theorem ones_call {ρ : Env} (V : VarsOk ρ) (hF : ρ.f = F) : ∀ args h pc x, (pc.den ρ).asBool = true → (specC onesPat onesCond popR args h pc).get ρ = some x → CallOk ρ cx.globs cx.P 313 args h x := by
  refine specC_ok V globsC rfl (by intro u hu; simp [onesPat, SVal.toList] at hu; subst hu; rfl) (fun _ => rfl) ?_
  intro ts hl hp hc
  match ts, hl with
  | [t], _ =>
    have hp' : kHas .u64 (t.den ρ).asInt := hp.1
    have hp2 : 0 ≤ (t.den ρ).asInt ∧ (t.den ρ).asInt < 2 ^ 64 := hp'
    have hc' := hc (.op2 .le t (.num 65535)) (by simp [onesCond])
    have hc2 : (t.den ρ).asInt ≤ 65535 := of_decide_eq_true hc'
    obtain ⟨n, hn⟩ := Int.eq_ofNat_of_zero_le hp2.1
    have hn16 : n < 65536 := by omega
    obtain ⟨x, h1, h2⟩ := leafInt_get (envOf F0 [.int (n : Int)]) ones_run
    refine ⟨envOf F0 [.int (n : Int)], x, rfl, call_ok cxok (noS_ok _ _) (noS_body _) rfl h1, ?_, ?_⟩
    · intro ι
      simp only [onesPat, SVal.concL, SVal.conc, Tm.den, envOf, envA, envA, List.map_cons, List.map_nil, List.getD_cons_zero, Sc.asInt_int, hn]
    · intro u ι ι' hu
      rw [h2]
      have e := ones_den (ρ := envOf F0 [.int (n : Int)]) n hn16 rfl
      simp only [SVal.conc, popR, Tm.den, hu, hF]
      rw [e]
      have : F 900 [t.den ρ] = .int (popI (n : Int)) := by
        show Sc.int (popI (t.den ρ).asInt) = _
        rw [hn]
      simp only [List.map_cons, List.map_nil]
      rw [this, popI_small n hn16, ones_pop n hn16]

set_option maxRecDepth 100000 in
theorem count_call {ρ : Env} (V : VarsOk ρ) (hF : ρ.f = F) : ∀ args h pc x, (pc.den ρ).asBool = true → (specC countPat countCond popR args h pc).get ρ = some x → CallOk ρ cx.globs cx.P 296 args h x := by
  refine specC_ok V globsC rfl (by intro u hu; simp [countPat, SVal.toList] at hu; subst hu; rfl) (fun _ => rfl) ?_
  intro ts hl hp hc
  match ts, hl with
  | [t], _ =>
    have hp' : kHas .i64 (t.den ρ).asInt := hp.1
    have hp2 : -2 ^ 63 ≤ (t.den ρ).asInt ∧ (t.den ρ).asInt < 2 ^ 63 := hp'
    have hc' := hc (.op2 .le (.num 0) t) (by simp [countCond])
    have hc2 : 0 ≤ (t.den ρ).asInt := of_decide_eq_true hc'
    obtain ⟨n, hn⟩ := Int.eq_ofNat_of_zero_le hc2
    refine ⟨envOf F0 [.int (n : Int)], ⟨.int .i64 (.num (pop n : Int)), [], .bit true⟩, rfl, ?_, ?_, ?_⟩
    · refine callOk_of_same rfl ?_
      intro ι w
      exact count_any n w (by omega)
    · intro ι
      simp only [countPat, SVal.concL, SVal.conc, Tm.den, envOf, envA, envA, List.map_cons, List.map_nil, List.getD_cons_zero, Sc.asInt_int, hn]
    · intro u ι ι' hu
      simp only [SVal.conc, popR, Tm.den, hu, hF]
      have : F 900 [t.den ρ] = .int (popI (n : Int)) := by
        show Sc.int (popI (t.den ρ).asInt) = _
        rw [hn]
      simp only [List.map_cons, List.map_nil]
      rw [this]
      unfold popI
      rw [popB_nat]
      rfl

/-- How many ones: known. -/
def popS : Specs := fun f => match f with
  | 313 => some (specC onesPat onesCond popR)
  | 296 => some (specC countPat countCond popR)
  | _ => none

set_option maxRecDepth 100000 in
theorem popS_ok {ρ : Env} (V : VarsOk ρ) (hF : ρ.f = F) : popS.Ok ρ cx := by
  intro f sp h
  unfold popS at h
  split at h
  · simp only [Option.some.injEq] at h; subst h; exact ones_call V hF
  · simp only [Option.some.injEq] at h; subst h; exact count_call V hF
  · cases h

set_option maxRecDepth 100000 in
theorem popS_body : ∀ f, popS f ≠ none → ∃ fn c, cx.P.funcs[f]? = some fn ∧ fn.body = some c := by
  intro f h
  unfold popS at h
  split at h
  · exact ⟨Tryz.f313, _, Tryz.func313, rfl⟩
  · exact ⟨Tryz.f296, _, Tryz.func296, rfl⟩
  · exact (h rfl).elim

end Go.Proofs.YtdeelhbckfmaeaaGreatDoor
/- For the seat: 'Check' of both packages: the cases of the input. -/
namespace Go.Proofs.YtdeelhbckfmaeaaGreatDoor
open Go.Sx

def argT (o c n i : Tm) : SVal :=
  .agg (.cons (.int .i64 o) (.cons (.int .i64 c) (.cons (.int .i64 (.var 2)) (.cons (.int .i64 n) (.cons (.int .i64 (.var 4)) (.cons (.int .i64 i) (.cons (.int .i64 (.var 6)) (.cons (.int .i64 (.var 7)) (.cons (.bool (.var 8)) .nil)))))))))
def argL (o c n i : Tm) : Tm :=
  .cons o (.cons c (.cons (.var 2) (.cons n (.cons (.var 4) (.cons i (.cons (.var 6) (.cons (.var 7) (.cons (.var 8) .nil))))))))

def kn0 : Kn := ⟨[], [], [], [], [0, 1, 2, 3, 4, 5, 6, 7]⟩

namespace chk
def v (i : Nat) : Tm := .var i
def lt (a : Tm) (k : Int) : Tm := .op2 .lt a (.num k)
def gt (a : Tm) (k : Int) : Tm := .op2 .lt (.num k) a
def no (a : Tm) : Tm := .op1 .not a

/-- The error's number at some inputs is the sign's. -/
noncomputable def at' (f : Nat) (o c n i : Tm) (l : List Tm) (e : Kn) : Bool := pxInt sg .i64 (.app 901 (argL o c n i)) (callT cx popS (run cx popS 400) f [argT o c n i] [] (l.foldr mkAnd (.bit true))) e
noncomputable def goes (f k : Nat) : Bool := at' f (.num (Int.ofNat k)) (v 1) (v 3) (v 5) [] kn0
noncomputable def its (f c : Nat) : Bool := (List.range' 1 15).all fun m => at' f (.num 42) (.num (Int.ofNat c)) (v 3) (.num (Int.ofNat m)) [] kn0
noncomputable def low (f : Nat) : Bool := at' f (v 0) (v 1) (v 3) (v 5) [lt (v 0) 1] (kn0.tell (.le 0 0) true)
noncomputable def high (f : Nat) : Bool := at' f (v 0) (v 1) (v 3) (v 5) [no (lt (v 0) 1), gt (v 0) 45] (kn0.tell (.le 0 45) false)
noncomputable def itA (f : Nat) : Bool := at' f (.num 42) (v 1) (v 3) (v 5) [lt (v 1) 0] (kn0.tell (.le 1 (-1)) true)
noncomputable def itB (f : Nat) : Bool := at' f (.num 42) (v 1) (v 3) (v 5) [no (lt (v 1) 0), gt (v 1) 14] (kn0.tell (.le 1 14) false)
noncomputable def itC (f : Nat) : Bool := at' f (.num 42) (v 1) (v 3) (v 5) [no (lt (v 1) 0), no (gt (v 1) 14), lt (v 5) 1] (kn0.tell (.le 5 0) true)
noncomputable def itD (f : Nat) : Bool := at' f (.num 42) (v 1) (v 3) (v 5) [no (lt (v 1) 0), no (gt (v 1) 14), no (lt (v 5) 1), gt (v 5) 15] (kn0.tell (.le 5 15) false)
end chk
end Go.Proofs.YtdeelhbckfmaeaaGreatDoor
