/- For the seat: texts joined: Chk, Spc, ExpDef, FindDef, WidDef, DcDef, Count5, McAll, MchCells, MchAns, Aft, MchCnd, RexN, FindW, FindC, McSh, Post. -/
import Derived.Test.YthbdmlcbdibiiaaGreatDoorJH0x1x0
import Derived.Test.YthbdmlcbdibiiaaGreatDoorJH0x1x1
import Derived.Test.YthbdmlcbdibiiaaGreatDoorJH0x1x2
import Derived.ChangeVars
import Derived.Test.YthbdmlcbdibiiaaGreatDoorJSxBack
import Derived.WalkKit
import Derived.LoopTactic
import Derived.Lib.Hide
import Derived.Test.YthbdmlcbdibiiaaGreatDoorJSxCasW
import Derived.Test.YthbdmlcbdibiiaaGreatDoorJSxEqx
import Derived.Test.YthbdmlcbdibiiaaGreatDoorJL0x1
import Derived.Test.YthbdmlcbdibiiaaGreatDoorJL0x0
import Derived.Test.YthbdmlcbdibiiaaGreatDoorTie
import Derived.Test.YthbdmlcbdibiiaaGreatDoorCards
import Derived.Carry
import Derived.ProofKit
import Derived.OpenShut
import Derived.Deep.Slices
import Derived.JoinedOf
import Derived.SevenTiedAt
/- For the seat: 'Check' of both packages answers as the sign 901 says. -/
namespace Go.Proofs.YthbdmlcbdibiiaaGreatDoor
open Go.Sx Go.ChangeShapes Go.WideShapes Go.RowKit Go.Joins Go.Deep
namespace chk
structure All (f : Nat) : Prop where
  lo : low f = true
  hi : high f = true
  a : itA f = true
  b : itB f = true
  c : itC f = true
  d : itD f = true
  go : ∀ k : Nat, 1 ≤ k → k ≤ 45 → k ≠ 42 → goes f k = true
  it : ∀ c : Nat, c ≤ 14 → its f c = true
set_option maxRecDepth 100000 in
theorem all_p : All 36 := by
  refine ⟨low_p, high_p, itA_p, itB_p, itC_p, itD_p, ?_, ?_⟩
  · intro k h h' h3
    match k, h, h', h3 with
    | 1, _, _, _ => exact go1_p
    | 2, _, _, _ => exact go2_p
    | 3, _, _, _ => exact go3_p
    | 4, _, _, _ => exact go4_p
    | 5, _, _, _ => exact go5_p
    | 6, _, _, _ => exact go6_p
    | 7, _, _, _ => exact go7_p
    | 8, _, _, _ => exact go8_p
    | 9, _, _, _ => exact go9_p
    | 10, _, _, _ => exact go10_p
    | 11, _, _, _ => exact go11_p
    | 12, _, _, _ => exact go12_p
    | 13, _, _, _ => exact go13_p
    | 14, _, _, _ => exact go14_p
    | 15, _, _, _ => exact go15_p
    | 16, _, _, _ => exact go16_p
    | 17, _, _, _ => exact go17_p
    | 18, _, _, _ => exact go18_p
    | 19, _, _, _ => exact go19_p
    | 20, _, _, _ => exact go20_p
    | 21, _, _, _ => exact go21_p
    | 22, _, _, _ => exact go22_p
    | 23, _, _, _ => exact go23_p
    | 24, _, _, _ => exact go24_p
    | 25, _, _, _ => exact go25_p
    | 26, _, _, _ => exact go26_p
    | 27, _, _, _ => exact go27_p
    | 28, _, _, _ => exact go28_p
    | 29, _, _, _ => exact go29_p
    | 30, _, _, _ => exact go30_p
    | 31, _, _, _ => exact go31_p
    | 32, _, _, _ => exact go32_p
    | 33, _, _, _ => exact go33_p
    | 34, _, _, _ => exact go34_p
    | 35, _, _, _ => exact go35_p
    | 36, _, _, _ => exact go36_p
    | 37, _, _, _ => exact go37_p
    | 38, _, _, _ => exact go38_p
    | 39, _, _, _ => exact go39_p
    | 40, _, _, _ => exact go40_p
    | 41, _, _, _ => exact go41_p
    | 43, _, _, _ => exact go43_p
    | 44, _, _, _ => exact go44_p
    | 45, _, _, _ => exact go45_p
    | 42, _, _, h3 => exact (h3 rfl).elim
    | n + 46, _, h', _ => omega
  · intro c h
    match c, h with
    | 0, _ => exact its0_p
    | 1, _ => exact its1_p
    | 2, _ => exact its2_p
    | 3, _ => exact its3_p
    | 4, _ => exact its4_p
    | 5, _ => exact its5_p
    | 6, _ => exact its6_p
    | 7, _ => exact its7_p
    | 8, _ => exact its8_p
    | 9, _ => exact its9_p
    | 10, _ => exact its10_p
    | 11, _ => exact its11_p
    | 12, _ => exact its12_p
    | 13, _ => exact its13_p
    | 14, _ => exact its14_p
    | n + 15, h => omega
set_option maxRecDepth 100000 in
theorem all_r : All 18 := by
  refine ⟨low_r, high_r, itA_r, itB_r, itC_r, itD_r, ?_, ?_⟩
  · intro k h h' h3
    match k, h, h', h3 with
    | 1, _, _, _ => exact go1_r
    | 2, _, _, _ => exact go2_r
    | 3, _, _, _ => exact go3_r
    | 4, _, _, _ => exact go4_r
    | 5, _, _, _ => exact go5_r
    | 6, _, _, _ => exact go6_r
    | 7, _, _, _ => exact go7_r
    | 8, _, _, _ => exact go8_r
    | 9, _, _, _ => exact go9_r
    | 10, _, _, _ => exact go10_r
    | 11, _, _, _ => exact go11_r
    | 12, _, _, _ => exact go12_r
    | 13, _, _, _ => exact go13_r
    | 14, _, _, _ => exact go14_r
    | 15, _, _, _ => exact go15_r
    | 16, _, _, _ => exact go16_r
    | 17, _, _, _ => exact go17_r
    | 18, _, _, _ => exact go18_r
    | 19, _, _, _ => exact go19_r
    | 20, _, _, _ => exact go20_r
    | 21, _, _, _ => exact go21_r
    | 22, _, _, _ => exact go22_r
    | 23, _, _, _ => exact go23_r
    | 24, _, _, _ => exact go24_r
    | 25, _, _, _ => exact go25_r
    | 26, _, _, _ => exact go26_r
    | 27, _, _, _ => exact go27_r
    | 28, _, _, _ => exact go28_r
    | 29, _, _, _ => exact go29_r
    | 30, _, _, _ => exact go30_r
    | 31, _, _, _ => exact go31_r
    | 32, _, _, _ => exact go32_r
    | 33, _, _, _ => exact go33_r
    | 34, _, _, _ => exact go34_r
    | 35, _, _, _ => exact go35_r
    | 36, _, _, _ => exact go36_r
    | 37, _, _, _ => exact go37_r
    | 38, _, _, _ => exact go38_r
    | 39, _, _, _ => exact go39_r
    | 40, _, _, _ => exact go40_r
    | 41, _, _, _ => exact go41_r
    | 43, _, _, _ => exact go43_r
    | 44, _, _, _ => exact go44_r
    | 45, _, _, _ => exact go45_r
    | 42, _, _, h3 => exact (h3 rfl).elim
    | n + 46, _, h', _ => omega
  · intro c h
    match c, h with
    | 0, _ => exact its0_r
    | 1, _ => exact its1_r
    | 2, _ => exact its2_r
    | 3, _ => exact its3_r
    | 4, _ => exact its4_r
    | 5, _ => exact its5_r
    | 6, _ => exact its6_r
    | 7, _ => exact its7_r
    | 8, _ => exact its8_r
    | 9, _ => exact its9_r
    | 10, _ => exact its10_r
    | 11, _ => exact its11_r
    | 12, _ => exact its12_r
    | 13, _ => exact its13_r
    | 14, _ => exact its14_r
    | n + 15, h => omega
end chk
structure Fields where
  x0 : Int
  x1 : Int
  x2 : Int
  x3 : Int
  x4 : Int
  x5 : Int
  x6 : Int
  x7 : Int
  b : Bool
def Fields.val (x : Fields) : Value := .agg #[.int .i64 x.x0, .int .i64 x.x1, .int .i64 x.x2, .int .i64 x.x3, .int .i64 x.x4, .int .i64 x.x5, .int .i64 x.x6, .int .i64 x.x7, .bool x.b]
def Fields.scs (x : Fields) : List Sc := [.int x.x0, .int x.x1, .int x.x2, .int x.x3, .int x.x4, .int x.x5, .int x.x6, .int x.x7, .bool x.b]
structure Fields.Ok (x : Fields) : Prop where
  h0 : kHas .i64 x.x0
  h1 : kHas .i64 x.x1
  h2 : kHas .i64 x.x2
  h3 : kHas .i64 x.x3
  h4 : kHas .i64 x.x4
  h5 : kHas .i64 x.x5
  h6 : kHas .i64 x.x6
  h7 : kHas .i64 x.x7
def insPat : SVal := .agg (.cons (.int .i64 (.var 0)) (.cons (.int .i64 (.var 1)) (.cons (.int .i64 (.var 2)) (.cons (.int .i64 (.var 3)) (.cons (.int .i64 (.var 4)) (.cons (.int .i64 (.var 5)) (.cons (.int .i64 (.var 6)) (.cons (.int .i64 (.var 7)) (.cons (.bool (.var 8)) .nil)))))))))
def chkPat : SVal := .cons insPat .nil
def chkR (t : Tm) : SVal := .int .i64 (.app 901 t)
set_option maxRecDepth 100000 in
theorem scs_ok {x : Fields} (h : x.Ok) : VarsOk (envOf F x.scs) := by
  refine ⟨?_, F_has⟩
  intro i
  match i with
  | 0 => exact h.h0
  | 1 => exact h.h1
  | 2 => exact h.h2
  | 3 => exact h.h3
  | 4 => exact h.h4
  | 5 => exact h.h5
  | 6 => exact h.h6
  | 7 => exact h.h7
  | 8 => exact zero_has
  | n + 9 => exact zero_has
set_option maxRecDepth 100000 in
theorem kn0_ok {x : Fields} (h : x.Ok) : Sats (envOf F x.scs) kn0 := by
  refine Sats.start (scs_ok h) _ ?_
  intro i hi
  simp only [List.mem_cons, List.not_mem_nil, or_false] at hi
  rcases hi with rfl | rfl | rfl | rfl | rfl | rfl | rfl | rfl
  all_goals exact ⟨_, rfl⟩
set_option maxRecDepth 100000 in
theorem arg_conc (x : Fields) {o c n i : Tm} (ho : o.den (envOf F x.scs) = .int x.x0) (hc : c.den (envOf F x.scs) = .int x.x1) (hn : n.den (envOf F x.scs) = .int x.x3) (hi : i.den (envOf F x.scs) = .int x.x5) (ι : Nm) : (argT o c n i).conc (envOf F x.scs) ι = x.val := by
  simp only [argT, SVal.conc, SVal.concL, ho, hc, hn, hi, Fields.val]
  rfl
set_option maxRecDepth 100000 in
theorem argL_den (x : Fields) {o c n i : Tm} (ho : o.den (envOf F x.scs) = .int x.x0) (hc : c.den (envOf F x.scs) = .int x.x1) (hn : n.den (envOf F x.scs) = .int x.x3) (hi : i.den (envOf F x.scs) = .int x.x5) : ((argL o c n i).den (envOf F x.scs)).asList = x.scs := by
  simp only [argL, Tm.den, ho, hc, hn, hi, Sc.asList_list]
  rfl
set_option maxRecDepth 100000 in
theorem chk_all {f : Nat} (A : chk.All f) {x : Fields} (hx : x.Ok) : ∃ x', CallOk (envOf F x.scs) cx.globs cx.P f chkPat.toList [] x' ∧ ∀ ι, x'.v.conc (envOf F x.scs) ι = .int .i64 (F 901 x.scs).asInt := by
  have so := sg_ok (ρ := envOf F x.scs) rfl
  have K := kn0_ok hx
  have go : ∀ (o c n i : Tm), o.den (envOf F x.scs) = .int x.x0 → c.den (envOf F x.scs) = .int x.x1 → n.den (envOf F x.scs) = .int x.x3 → i.den (envOf F x.scs) = .int x.x5 → o.signs (fun _ => false) = true → ∀ l e, Sats (envOf F x.scs) e → chk.at' f o c n i l e = true →
      (∀ t ∈ l, (t.den (envOf F x.scs)).asBool = true) → ∃ x', CallOk (envOf F x.scs) cx.globs cx.P f chkPat.toList [] x' ∧ ∀ ι, x'.v.conc (envOf F x.scs) ι = .int .i64 (F 901 x.scs).asInt := by
    intro o c n i ho hc hn hi _ l e hs hl hp
    obtain ⟨y, b, h1, h2, h3⟩ := pxInt_ok so _ _ hs hl
    have hc' := call_ok cxok (popS_ok (scs_ok hx) rfl) popS_body (conj_den _ l hp) h1
    refine ⟨y, hc'.args (by intro v hv; simp at hv; subst hv; rfl) ?_, ?_⟩
    · intro ι
      rw [List.map_cons, List.map_nil, arg_conc x ho hc hn hi]
      rfl
    · intro ι
      rw [h2]
      simp only [SVal.conc, h3, Tm.den, argL_den x ho hc hn hi]
      rfl
  have e0 : (chk.v 0).den (envOf F x.scs) = .int x.x0 := rfl
  have e1 : (chk.v 1).den (envOf F x.scs) = .int x.x1 := rfl
  have e3 : (chk.v 3).den (envOf F x.scs) = .int x.x3 := rfl
  have e5 : (chk.v 5).den (envOf F x.scs) = .int x.x5 := rfl
  by_cases h1 : x.x0 < 1
  · refine go _ _ _ _ e0 e1 e3 e5 rfl _ _ (K.tell (.le 0 0) ?_) A.lo ?_
    · exact decide_eq_true (show x.x0 ≤ 0 by omega)
    · simp [chk.lt, Tm.den, Op2.ev, e0, h1]
  by_cases h2 : 45 < x.x0
  · refine go _ _ _ _ e0 e1 e3 e5 rfl _ _ (K.tell (.le 0 45) ?_) A.hi ?_
    · exact decide_eq_false (show ¬ x.x0 ≤ 45 by omega)
    · simp [chk.lt, chk.gt, chk.no, Tm.den, Op1.ev, Op2.ev, e0, h1, h2]
  obtain ⟨k, hk⟩ := Int.eq_ofNat_of_zero_le (show 0 ≤ x.x0 by omega)
  have ek : (Tm.num (Int.ofNat k)).den (envOf F x.scs) = .int x.x0 := by rw [hk]; rfl
  by_cases h42 : k = 42
  · have e42 : (Tm.num 42).den (envOf F x.scs) = .int x.x0 := by rw [hk, h42]; rfl
    by_cases c1 : x.x1 < 0
    · refine go _ _ _ _ e42 e1 e3 e5 rfl _ _ (K.tell (.le 1 (-1)) ?_) A.a ?_
      · exact decide_eq_true (show x.x1 ≤ -1 by omega)
      · simp [chk.lt, Tm.den, Op2.ev, e1, c1]
    by_cases c2 : 14 < x.x1
    · refine go _ _ _ _ e42 e1 e3 e5 rfl _ _ (K.tell (.le 1 14) ?_) A.b ?_
      · exact decide_eq_false (show ¬ x.x1 ≤ 14 by omega)
      · simp [chk.lt, chk.gt, chk.no, Tm.den, Op1.ev, Op2.ev, e1, c1, c2]
    by_cases c3 : x.x5 < 1
    · refine go _ _ _ _ e42 e1 e3 e5 rfl _ _ (K.tell (.le 5 0) ?_) A.c ?_
      · exact decide_eq_true (show x.x5 ≤ 0 by omega)
      · simp [chk.lt, chk.gt, chk.no, Tm.den, Op1.ev, Op2.ev, e1, e5, c1, c2, c3]
    by_cases c4 : 15 < x.x5
    · refine go _ _ _ _ e42 e1 e3 e5 rfl _ _ (K.tell (.le 5 15) ?_) A.d ?_
      · exact decide_eq_false (show ¬ x.x5 ≤ 15 by omega)
      · simp [chk.lt, chk.gt, chk.no, Tm.den, Op1.ev, Op2.ev, e1, e5, c1, c2, c3, c4]
    obtain ⟨c, hc⟩ := Int.eq_ofNat_of_zero_le (show 0 ≤ x.x1 by omega)
    obtain ⟨m, hm⟩ := Int.eq_ofNat_of_zero_le (show 0 ≤ x.x5 by omega)
    have := List.all_eq_true.1 (A.it c (by omega)) m (by rw [List.mem_range'_1]; omega)
    exact go _ _ _ _ e42 (by rw [hc]; rfl) e3 (by rw [hm]; rfl) rfl _ _ K this (by simp)
  · exact go _ _ _ _ ek e1 e3 e5 rfl _ _ K (A.go k (by omega) (by omega) h42) (by simp)
set_option maxRecDepth 100000 in
theorem chk_norm (s0 s1 s2 s3 s4 s5 s6 s7 s8 : Sc) : (Chk.chk.den (envOf F0 [s0, s1, s2, s3, s4, s5, s6, s7, s8])).asInt = (Chk.chk.den (envOf F0 [.int s0.asInt, .int s1.asInt, .int s2.asInt, .int s3.asInt, .int s4.asInt, .int s5.asInt, .int s6.asInt, .int s7.asInt, .bool s8.asBool])).asInt := by
  kernel_rfl
end Go.Proofs.YthbdmlcbdibiiaaGreatDoor
/- For the seat: what the walks know of 'Check'; an instruction's fields. -/
namespace Go.Proofs.YthbdmlcbdibiiaaGreatDoor
open Go.Sx Go.ChangeShapes Go.WideShapes Go.RowKit Go.Joins Go.Deep
end Go.Proofs.YthbdmlcbdibiiaaGreatDoor
/- For the seat: the number of twelve bits (Expand, Valid) as signs. -/
namespace Go.Proofs.YthbdmlcbdibiiaaGreatDoor
open Go.Sx Go.ChangeShapes Go.WideShapes Go.RowKit Go.Joins Go.Deep
namespace ex
def x0 : Tm := .var 0
def and (a : Tm) (n : Int) : Tm := .op2 (.and .i64) a (.num n)
def is (a : Tm) (n : Int) : Tm := .op2 .eq a (.num n)
def top : Tm := and (.op2 (.shr .i64) x0 (.num 8)) 15
def b : Tm := .op1 (.conv .u32) (and x0 255)
def c : Tm := .op2 (.or .u32) b (.num 128)
def k : Tm := .op2 (.and .u64) (.op1 (.conv .u64) (and (.op2 (.shr .i64) x0 (.num 7)) 31)) (.num 31)
def by' (n : Int) : Tm := .op2 (.mul .u32) b (.num n)
def expT : Tm := .ite (is top 0) b (.ite (is top 1) (by' 65537) (.ite (is top 2) (by' 16777472) (.ite (is top 3) (by' 16843009) (.op2 (.or .u32) (.op2 (.shr .u32) c k) (.op2 (.shl .u32) c (.op2 (.sub .u64) (.num 32) k))))))
def valT : Tm := .op2 .band (.op2 .le (.num 0) x0) (.op2 .band (.op2 .lt x0 (.num 4096)) (.op2 .bor (is (.op2 (.shr .i64) x0 (.num 8)) 0) (.op2 .bor (.op2 .lt (.num 3) (.op2 (.shr .i64) x0 (.num 8))) (.op1 .not (is (and x0 255) 0)))))
def kn : Kn := ⟨[], [], [], [], [0]⟩
set_option maxRecDepth 100000 in
theorem exp_run : pxIs sg (.int .u32 expT) (callT cx noS (run cx noS 400) 149 [.int .i64 (.var 0)] [] (.bit true)) kn = true := by kernel_rfl
set_option maxRecDepth 100000 in
theorem val_run : pxIs sg (.bool valT) (callT cx noS (run cx noS 400) 148 [.int .i64 (.var 0)] [] (.bit true)) kn = true := by kernel_rfl
def pat1 : SVal := .cons (.int .i64 (.var 0)) .nil
def expR (t : Tm) : SVal := .int .u32 (.app 920 t)
def valR (t : Tm) : SVal := .bool (.app 921 t)
end ex
def F1 (g : Nat) (ss : List Sc) : Sc :=
  match Nat.beq g 920 with
  | true => .int (ex.expT.den (envOf F ss)).asInt
  | false => match Nat.beq g 921 with
    | true => .bool (ex.valT.den (envOf F ss)).asBool
    | false => F g ss
set_option maxRecDepth 100000 in
theorem exp_u32 (η : Env) : 0 ≤ (ex.expT.den η).asInt ∧ (ex.expT.den η).asInt < 2 ^ 32 := by
  have u : ∀ n, 0 ≤ IntKind.u32.wrap n ∧ IntKind.u32.wrap n < 2 ^ 32 := fun n => wrap_has .u32 n
  unfold ex.expT
  simp only [Tm.den]
  repeat' split
  all_goals exact u _
set_option maxRecDepth 100000 in
theorem F1_has (g : Nat) (ss : List Sc) : kHas .i64 (F1 g ss).asInt := by
  unfold F1
  split
  · have := exp_u32 (envOf F ss)
    show -2 ^ 63 ≤ (ex.expT.den (envOf F ss)).asInt ∧ (ex.expT.den (envOf F ss)).asInt < 2 ^ 63
    omega
  · split
    · exact zero_has
    · exact F_has _ _
structure Signs (f : Nat → List Sc → Sc) : Prop where
  s900 : f 900 = F 900
  s901 : f 901 = F 901
set_option maxRecDepth 100000 in
theorem F_signs : Signs F := ⟨rfl, rfl⟩
set_option maxRecDepth 100000 in
theorem sg_ok' {ρ : Env} (hF : Signs ρ.f) : sg.Ok ρ := by
  refine ⟨?_, ?_, ?_⟩
  · intro g t h ss
    simp only [sg] at h
    split at h
    · rename_i hg
      have := Nat.eq_of_beq_eq_true hg
      subst this
      simp only [Option.some.injEq] at h; subst h
      rw [hF.s901]
      have hc : ∀ g, Nat.beq g 900 = true → (envOf F0 ss).f g = ρ.f g := by
        intro g hg
        have := Nat.eq_of_beq_eq_true hg
        subst this
        show F0 900 = ρ.f 900
        rw [hF.s900]
        funext l
        rfl
      exact den_congr (P := fun g => Nat.beq g 900) (η := envOf F0 ss) (η' := ⟨fun i => ss.getD i (.int 0), ρ.f, ρ.val, ρ.ab⟩) rfl hc Chk.chk chk_signs
    · cases h
  · intro g xs y hm; cases hm
  · intro s _
    show (ρ.f 900 [s]).asInt = _
    rw [hF.s900]
    rfl
set_option maxRecDepth 100000 in
theorem chk_call' {f : Nat} (A : chk.All f) {ρ : Env} (V : VarsOk ρ) (hF : Signs ρ.f) : ∀ args h pc x, (pc.den ρ).asBool = true → (specR chkPat chkR args h pc).get ρ = some x → CallOk ρ cx.globs cx.P f args h x := by
  refine specR_ok V globsC rfl (by intro u hu; simp [chkPat, SVal.toList] at hu; subst hu; rfl) (fun _ => rfl) ?_
  intro L hL hp
  match L, hL with
  | [s0, s1, s2, s3, s4, s5, s6, s7, s8], _ =>
    obtain ⟨⟨p0, p1, p2, p3, p4, p5, p6, p7, _⟩, _⟩ := hp
    let x : Fields := ⟨s0.asInt, s1.asInt, s2.asInt, s3.asInt, s4.asInt, s5.asInt, s6.asInt, s7.asInt, s8.asBool⟩
    obtain ⟨x', hc, hv⟩ := chk_all A (x := x) ⟨p0, p1, p2, p3, p4, p5, p6, p7⟩
    refine ⟨envOf F x.scs, x', rfl, hc, fun ι => rfl, ?_⟩
    intro t ι ι' ht
    rw [hv ι']
    simp only [SVal.conc, chkR, Tm.den, ht, hF.s901]
    exact congrArg _ (chk_norm s0 s1 s2 s3 s4 s5 s6 s7 s8)
set_option maxRecDepth 100000 in
theorem one_vars {s : Sc} (h : kHas .i64 s.asInt) : VarsOk (envOf F [s]) := by
  refine ⟨?_, F_has⟩
  intro i
  match i with
  | 0 => exact h
  | k + 1 => exact zero_has
set_option maxRecDepth 100000 in
theorem exp_call {ρ : Env} (V : VarsOk ρ) (hF : ρ.f 920 = F1 920) : ∀ args h pc x, (pc.den ρ).asBool = true → (specR ex.pat1 ex.expR args h pc).get ρ = some x → CallOk ρ cx.globs cx.P 149 args h x := by
  refine specR_ok V globsC rfl (by intro u hu; simp [ex.pat1, SVal.toList] at hu; subst hu; rfl) (fun _ => rfl) ?_
  intro L hL hp
  match L, hL with
  | [s], _ =>
    have hs : kHas .i64 s.asInt := hp.1
    have S : Sats (envOf F [.int s.asInt]) ex.kn := by
      refine Sats.start (one_vars (s := .int s.asInt) hs) _ ?_
      intro i hi
      simp only [List.mem_cons, List.not_mem_nil, or_false] at hi
      subst hi
      exact ⟨_, rfl⟩
    obtain ⟨x', h1, h2⟩ := pxIs_ok (sg_ok' F_signs) _ _ S ex.exp_run
    refine ⟨envOf F [.int s.asInt], x', rfl, call_ok cxok (noS_ok _ _) (noS_body _) rfl h1, fun ι => rfl, ?_⟩
    intro t ι ι' ht
    rw [h2]
    simp only [SVal.conc, ex.expR, Tm.den, ht, hF]
    rfl
set_option maxRecDepth 100000 in
theorem val_call {ρ : Env} (V : VarsOk ρ) (hF : ρ.f 921 = F1 921) : ∀ args h pc x, (pc.den ρ).asBool = true → (specR ex.pat1 ex.valR args h pc).get ρ = some x → CallOk ρ cx.globs cx.P 148 args h x := by
  refine specR_ok V globsC rfl (by intro u hu; simp [ex.pat1, SVal.toList] at hu; subst hu; rfl) (fun _ => rfl) ?_
  intro L hL hp
  match L, hL with
  | [s], _ =>
    have hs : kHas .i64 s.asInt := hp.1
    have S : Sats (envOf F [.int s.asInt]) ex.kn := by
      refine Sats.start (one_vars (s := .int s.asInt) hs) _ ?_
      intro i hi
      simp only [List.mem_cons, List.not_mem_nil, or_false] at hi
      subst hi
      exact ⟨_, rfl⟩
    obtain ⟨x', h1, h2⟩ := pxIs_ok (sg_ok' F_signs) _ _ S ex.val_run
    refine ⟨envOf F [.int s.asInt], x', rfl, call_ok cxok (noS_ok _ _) (noS_body _) rfl h1, fun ι => rfl, ?_⟩
    intro t ι ι' ht
    rw [h2]
    simp only [SVal.conc, ex.valR, Tm.den, ht, hF]
    rfl
def chkS : Specs := fun f => match Nat.beq f 36 || Nat.beq f 18 with
  | true => some (specR chkPat chkR)
  | false => none
def expS : Specs := fun f => match Nat.beq f 149 with
  | true => some (specR ex.pat1 ex.expR)
  | false => match Nat.beq f 148 with
    | true => some (specR ex.pat1 ex.valR)
    | false => chkS f
set_option maxRecDepth 100000 in
theorem chkS_ok {ρ : Env} (V : VarsOk ρ) (hF : Signs ρ.f) : chkS.Ok ρ cx := by
  intro f sp h
  unfold chkS at h
  split at h
  · rename_i hf
    simp only [Option.some.injEq] at h; subst h
    simp only [Bool.or_eq_true] at hf
    rcases hf with hf | hf
    · have := Nat.eq_of_beq_eq_true hf; subst this; exact chk_call' chk.all_p V hF
    · have := Nat.eq_of_beq_eq_true hf; subst this; exact chk_call' chk.all_r V hF
  · cases h
set_option maxRecDepth 100000 in
theorem chkS_body : ∀ f, chkS f ≠ none → ∃ fn c, cx.P.funcs[f]? = some fn ∧ fn.body = some c := by
  intro f h
  unfold chkS at h
  split at h
  · rename_i hf
    simp only [Bool.or_eq_true] at hf
    rcases hf with hf | hf
    · have := Nat.eq_of_beq_eq_true hf; subst this; exact ⟨Tryz.f36, _, Tryz.func36, rfl⟩
    · have := Nat.eq_of_beq_eq_true hf; subst this; exact ⟨Tryz.f18, _, Tryz.func18, rfl⟩
  · exact (h rfl).elim
set_option maxRecDepth 100000 in
theorem expS_ok {ρ : Env} (V : VarsOk ρ) (hF : Signs ρ.f) (h920 : ρ.f 920 = F1 920) (h921 : ρ.f 921 = F1 921) : expS.Ok ρ cx := by
  intro f sp h
  unfold expS at h
  split at h
  · rename_i hf
    have := Nat.eq_of_beq_eq_true hf; subst this
    simp only [Option.some.injEq] at h; subst h; exact exp_call V h920
  · split at h
    · rename_i hf
      have := Nat.eq_of_beq_eq_true hf; subst this
      simp only [Option.some.injEq] at h; subst h; exact val_call V h921
    · exact chkS_ok V hF f sp h
set_option maxRecDepth 100000 in
theorem expS_body : ∀ f, expS f ≠ none → ∃ fn c, cx.P.funcs[f]? = some fn ∧ fn.body = some c := by
  intro f h
  unfold expS at h
  split at h
  · rename_i hf
    have := Nat.eq_of_beq_eq_true hf; subst this; exact ⟨Tryz.f149, _, Tryz.func149, rfl⟩
  · split at h
    · rename_i hf
      have := Nat.eq_of_beq_eq_true hf; subst this; exact ⟨Tryz.f148, _, Tryz.func148, rfl⟩
    · exact chkS_body f h
noncomputable def cxs' : Cx := { P := Tryz.prog, okT := [23], globs := [(0, kindsS)], sharp := true }
set_option maxRecDepth 100000 in
theorem cxsok' : cxs'.Ok := ⟨cxok.1, cxok.2, cxok.3⟩
end Go.Proofs.YthbdmlcbdibiiaaGreatDoor
/- For the seat: expand.Find by a walk: the least number of twelve bits that tells a number. -/
namespace Go.Proofs.YthbdmlcbdibiiaaGreatDoor
open Go.Sx Go.ChangeShapes Go.WideShapes Go.RowKit Go.Joins Go.Deep
def expI (k : Int) : Int := (ex.expT.den (envOf F [.int k])).asInt
def valB (k : Int) : Bool := (ex.valT.den (envOf F [.int k])).asBool
def hit (x : Int) (k : Nat) : Bool := valB k && (expI k == x)
noncomputable def findF : { f : Int → Option Nat // ∀ x, f x = (List.range 4096).find? (hit x) } := Classical.choice ⟨⟨_, fun _ => rfl⟩⟩
noncomputable def findN (x : Int) : Option Nat := findF.1 x
set_option maxRecDepth 100000 in
theorem findN_eq (x : Int) : findN x = (List.range 4096).find? (hit x) := findF.2 x
noncomputable def findI (x : Int) : Int := match findN x with | some n => n | none => 0
noncomputable def findB (x : Int) : Bool := (findN x).isSome
def Inv (K : Nat → Prop) (w0 : World) (ι : Nm) (w : World) : Prop := HR (envOf F []) cx.globs K w0 ι [] w
set_option maxRecDepth 100000 in
theorem inv_of {ρ : Env} {K : Nat → Prop} {w0 : World} {ι ι' : Nm} {h : Heap} {w : World} (H : HR ρ cx.globs K w0 ι h w) : Inv K w0 ι' w := by
  have H0 := (H.forget (h' := []) (by intro n b hb; simp at hb)).ext (ι' := ι') (by intro m hm; simp at hm)
  refine ⟨H0.os, H0.tape, H0.output, H0.size, H0.kept, H0.old, fun _ h => False.elim h, ?_, ?_, ?_⟩
  · intro n b hb; simp at hb
  · intro n m b c hb; simp at hb
  · intro g cs hg
    obtain ⟨h1, h2, arr, t, fz, h3, h4⟩ := H0.globs g cs hg
    exact ⟨h1, h2, arr, t, fz, h3, by rw [h4]; exact globsC g cs hg _ _ _⟩
set_option maxRecDepth 100000 in
theorem inv_env {K : Nat → Prop} {w0 : World} {ι : Nm} {w : World} (H : Inv K w0 ι w) (ρ : Env) (hB : ∀ q, ρ.ab.B q → K q := by exact fun _ h => False.elim h) : HR ρ cx.globs K w0 ι [] w := by
  refine ⟨H.os, H.tape, H.output, H.size, H.kept, H.old, hB, ?_, ?_, ?_⟩
  · intro n b hb; simp at hb
  · intro n m b c hb; simp at hb
  · intro g cs hg
    obtain ⟨h1, h2, arr, t, fz, h3, h4⟩ := H.globs g cs hg
    exact ⟨h1, h2, arr, t, fz, h3, by rw [h4]; exact globsC g cs hg _ _ _⟩
set_option maxRecDepth 100000 in
theorem nat_has {k : Nat} (h : k ≤ 4096) : kHas .i64 (k : Int) := by
  show -2 ^ 63 ≤ (k : Int) ∧ (k : Int) < 2 ^ 63
  omega
set_option maxRecDepth 100000 in
theorem find_hit {x : Int} {k : Nat} (hk : k < 4096) (h : hit x k = true) (hno : ∀ j, j < k → hit x j = false) : findN x = some k := by
  rw [findN_eq, List.find?_range_eq_some]
  exact ⟨h, List.mem_range.2 hk, fun j hj => by rw [hno j hj]; rfl⟩
set_option maxRecDepth 100000 in
theorem find_none {x : Int} (hno : ∀ j, j < 4096 → hit x j = false) : findN x = none := by
  rw [findN_eq, List.find?_eq_none]
  intro j hj
  rw [hno j (List.mem_range.1 hj)]
  exact Bool.false_ne_true
def Fnd (x : Int) (K : Nat → Prop) (w0 : World) (ι : Nm) (i : Value) (wr : World) : Prop := ∃ k : Nat, k ≤ 4096 ∧ i = .int .i64 k ∧ (∀ j, j < k → hit x j = false) ∧ Inv K w0 ι wr
def Fans (x : Int) (K : Nat → Prop) (w0 : World) (ι : Nm) (e : Ending) (w' : World) : Prop := e = .returned (.tuple #[.int .i64 (findI x), .bool (findB x)]) ∧ Inv K w0 ι w'
set_option maxRecDepth 100000 in
theorem fans_hit {x : Int} {k : Nat} {K : Nat → Prop} {w0 : World} {ι : Nm} {w' : World} (hk : k < 4096) (h : hit x k = true) (hno : ∀ j, j < k → hit x j = false) (hI : Inv K w0 ι w') : Fans x K w0 ι (.returned (.tuple #[.int .i64 (k : Int), .bool true])) w' := by
  refine ⟨?_, hI⟩
  unfold findI findB
  rw [find_hit hk h hno]
  rfl
set_option maxRecDepth 100000 in
theorem fans_none {x : Int} {K : Nat → Prop} {w0 : World} {ι : Nm} {w' : World} (hno : ∀ j, j < 4096 → hit x j = false) (hI : Inv K w0 ι w') : Fans x K w0 ι (.returned (.tuple #[.int .i64 0, .bool false])) w' := by
  refine ⟨?_, hI⟩
  unfold findI findB
  rw [find_none hno]
  rfl
set_option maxRecDepth 100000 in
theorem no_more {x : Int} {k : Nat} (h : hit x k = false) (hno : ∀ j, j < k → hit x j = false) : ∀ j, j < k + 1 → hit x j = false := by
  intro j hj
  by_cases e : j = k
  · subst e; exact h
  · exact hno j (by omega)
end Go.Proofs.YthbdmlcbdibiiaaGreatDoor
/- For the seat: laws of an instruction and its two halfwords. -/
namespace Go.Proofs.YthbdmlcbdibiiaaGreatDoor
open Go.Sx Go.ChangeShapes Go.WideShapes Go.RowKit Go.Joins Go.Deep
noncomputable def F2 (g : Nat) (ss : List Sc) : Sc :=
  match Nat.beq g 910 with
  | true => .int (findI (ss.getD 0 (.int 0)).asInt)
  | false => match Nat.beq g 911 with
    | true => .bool (findB (ss.getD 0 (.int 0)).asInt)
    | false => F1 g ss
set_option maxRecDepth 100000 in
theorem findI_range (x : Int) : 0 ≤ findI x ∧ findI x ≤ 4095 := by
  unfold findI
  split
  · rename_i n hn
    rw [findN_eq] at hn
    have := List.mem_range.1 (List.mem_of_find?_eq_some hn)
    omega
  · omega
set_option maxRecDepth 100000 in
theorem F2_has (g : Nat) (ss : List Sc) : kHas .i64 (F2 g ss).asInt := by
  unfold F2
  split
  · have := findI_range (ss.getD 0 (.int 0)).asInt
    show -2 ^ 63 ≤ findI (ss.getD 0 (.int 0)).asInt ∧ findI (ss.getD 0 (.int 0)).asInt < 2 ^ 63
    omega
  · split
    · exact zero_has
    · exact F1_has _ _
set_option maxRecDepth 100000 in
theorem F2_signs : Signs F2 := ⟨rfl, rfl⟩
namespace wid
def patU : SVal := .cons (.int .u32 (.var 0)) .nil
def findR (t : Tm) : SVal := .tup (.cons (.int .i64 (.app 910 t)) (.cons (.bool (.app 911 t)) .nil))
def sgL : Sg := { defs := fun g => match Nat.beq g 901 with | true => some Chk.chk | false => none, ufs := [(910, [5], 10), (911, [5], 11)], pop := 900 }
def kn : Kn := (((⟨[], [], [], [], [0, 1, 2, 3, 4, 5, 6, 7, 10]⟩ : Kn).tell (.le 10 4095) true).tell (.le 10 (-1)) false).tell (.lit 10 63) false
def ek (k : Nat) : Kn := kn.tell (.pt 0 (Int.ofNat k)) true
def withOp (k : Nat) (c : Cas) : Cas := ⟨c.pre, (0, false, .num (.ofNat k)) :: c.sub, c.pc⟩
end wid
def widS : Specs := fun f => match Nat.beq f 144 with
  | true => some (specC onesPat onesCond popR)
  | false => expS f
set_option maxRecDepth 100000 in
theorem ones_call' {ρ : Env} (V : VarsOk ρ) (hF : ρ.f 900 = F 900) : ∀ args h pc x, (pc.den ρ).asBool = true → (specC onesPat onesCond popR args h pc).get ρ = some x → CallOk ρ cx.globs cx.P 144 args h x := by
  refine specC_ok V globsC rfl (by intro u hu; simp [onesPat, SVal.toList] at hu; subst hu; rfl) (fun _ => rfl) ?_
  intro ts hl hp hc
  match ts, hl with
  | [t], _ =>
    have hp' : kHas .u64 (t.den ρ).asInt := hp.1
    have hp2 : 0 ≤ (t.den ρ).asInt ∧ (t.den ρ).asInt < 2 ^ 64 := hp'
    have hc' := hc (.op2 .le t (.num 65535)) (by simp [onesCond])
    have hc2 : (t.den ρ).asInt ≤ 65535 := of_decide_eq_true hc'
    obtain ⟨n, hn⟩ := Int.eq_ofNat_of_zero_le hp2.1
    have hn16 : n < 65536 := by omega
    obtain ⟨x, h1, h2⟩ := leafInt_get (envOf F0 [.int (n : Int)]) ones_run
    refine ⟨envOf F0 [.int (n : Int)], x, rfl, call_ok cxok (noS_ok _ _) (noS_body _) rfl h1, ?_, ?_⟩
    · intro ι
      simp only [onesPat, SVal.concL, SVal.conc, Tm.den, envOf, envA, envA, List.map_cons, List.map_nil, List.getD_cons_zero, Sc.asInt_int, hn]
    · intro u ι ι' hu
      rw [h2]
      have e := Ones.ones_den (ρ := envOf F0 [.int (n : Int)]) n hn16 rfl
      simp only [SVal.conc, popR, Tm.den, hu, hF]
      rw [e]
      have : F 900 [t.den ρ] = .int (popI (n : Int)) := by
        show Sc.int (popI (t.den ρ).asInt) = _
        rw [hn]
      simp only [List.map_cons, List.map_nil]
      rw [this, Ones.popI_small n hn16, ones_pop n hn16]
set_option maxRecDepth 100000 in
theorem widS_ok {ρ : Env} (V : VarsOk ρ) (hf : ρ.f = F2) : widS.Ok ρ cx := by
  intro f sp h
  unfold widS at h
  split at h
  · rename_i hg
    have := Nat.eq_of_beq_eq_true hg; subst this
    simp only [Option.some.injEq] at h; subst h; exact ones_call' V (by rw [hf]; rfl)
  · exact expS_ok V (by rw [hf]; exact F2_signs) (by rw [hf]; rfl) (by rw [hf]; rfl) f sp h
set_option maxRecDepth 100000 in
theorem widS_body : ∀ f, widS f ≠ none → ∃ fn c, cx.P.funcs[f]? = some fn ∧ fn.body = some c := by
  intro f h
  unfold widS at h
  split at h
  · rename_i hg
    have := Nat.eq_of_beq_eq_true hg; subst this; exact ⟨Tryz.f144, _, Tryz.func144, rfl⟩
  · exact expS_body f h
noncomputable def Fields.scsW (x : Fields) (it : Bool) : List Sc := [.int x.x0, .int x.x1, .int x.x2, .int x.x3, .int x.x4, .int x.x5, .int x.x6, .int x.x7, .bool x.b, .bool it, .int (findI x.x5), .bool (findB x.x5)]
set_option maxRecDepth 100000 in
theorem scsW_ok {x : Fields} (h : x.Ok) (it : Bool) : VarsOk (envOf F2 (x.scsW it)) := by
  refine ⟨?_, F2_has⟩
  intro i
  match i with
  | 0 => exact h.h0
  | 1 => exact h.h1
  | 2 => exact h.h2
  | 3 => exact h.h3
  | 4 => exact h.h4
  | 5 => exact h.h5
  | 6 => exact h.h6
  | 7 => exact h.h7
  | 8 => exact zero_has
  | 9 => exact zero_has
  | 10 =>
    have := findI_range x.x5
    show -2 ^ 63 ≤ findI x.x5 ∧ findI x.x5 < 2 ^ 63
    omega
  | 11 => exact zero_has
  | n + 12 => exact zero_has
set_option maxRecDepth 100000 in
theorem knW_ok {x : Fields} (h : x.Ok) (it : Bool) : Sats (envOf F2 (x.scsW it)) wid.kn := by
  have r := findI_range x.x5
  have S : Sats (envOf F2 (x.scsW it)) ⟨[], [], [], [], [0, 1, 2, 3, 4, 5, 6, 7, 10]⟩ := by
    refine Sats.start (scsW_ok h it) _ ?_
    intro i hi
    simp only [List.mem_cons, List.not_mem_nil, or_false] at hi
    rcases hi with rfl | rfl | rfl | rfl | rfl | rfl | rfl | rfl | rfl
    all_goals exact ⟨_, rfl⟩
  have hb : bitI (findI x.x5) 63 = false := by
    rw [bitI_high _ 63 63 (by omega) (by omega) (by omega)]
    exact decide_eq_false (by omega)
  exact ((S.tell (.le 10 4095) (decide_eq_true (show findI x.x5 ≤ 4095 from r.2))).tell (.le 10 (-1)) (decide_eq_false (show ¬ findI x.x5 ≤ -1 by omega))).tell (.lit 10 63) hb
set_option maxRecDepth 100000 in
theorem sgL_ok {x : Fields} (it : Bool) : wid.sgL.Ok (envOf F2 (x.scsW it)) := by
  have s := sg_ok' (ρ := envOf F2 (x.scsW it)) F2_signs
  refine ⟨s.defs, ?_, s.pop⟩
  intro g xs y hm ss hss
  simp only [wid.sgL, List.mem_cons, List.not_mem_nil, or_false, Prod.mk.injEq] at hm
  have one : ∀ i : Nat, ss.map Sc.asInt = [i].map (fun v => ((envOf F2 (x.scsW it)).v v).asInt) → ∃ s, ss = [s] ∧ s.asInt = ((envOf F2 (x.scsW it)).v i).asInt := by
    intro i h
    match ss, h with
    | [s], h => exact ⟨s, rfl, by simpa using h⟩
    | [], h => simp at h
    | _ :: _ :: _, h => simp at h
  rcases hm with ⟨rfl, rfl, rfl⟩ | ⟨rfl, rfl, rfl⟩
  · obtain ⟨s, rfl, hs⟩ := one 5 hss
    show Sc.int (findI s.asInt) = Sc.int (findI x.x5)
    rw [hs]; rfl
  · obtain ⟨s, rfl, hs⟩ := one 5 hss
    show Sc.bool (findB s.asInt) = Sc.bool (findB x.x5)
    rw [hs]; rfl
namespace wid
def knLow : Kn := kn.tell (.le 0 0) true
def knHigh : Kn := kn.tell (.le 0 45) false
def refused : Tm := .op1 .not (.op2 .eq (.app 901 (argL (.var 0) (.var 1) (.var 3) (.var 5))) (.num 0))
set_option maxRecDepth 100000 in
theorem ref_low : pxT sgL refused knLow (fun _ => true) = true := by kernel_rfl
set_option maxRecDepth 100000 in
theorem ref_high : pxT sgL refused knHigh (fun _ => true) = true := by kernel_rfl
end wid
end Go.Proofs.YthbdmlcbdibiiaaGreatDoor
/- For the seat: functions that answer, whatever the world; encoders and decoders, there and back. -/
namespace Go.Proofs.YthbdmlcbdibiiaaGreatDoor
open Go.Sx Go.ChangeShapes Go.WideShapes Go.RowKit Go.Joins Go.Deep
set_option maxRecDepth 100000 in
theorem laid_below {w w' : World} (h : Laid w) (hb : Below w.heap.size w w') : Laid w' := by
  obtain ⟨t, fz, hw⟩ := h
  exact ⟨t, fz, by rw [hb.block 0 (Array.getElem?_eq_some_iff.1 hw).1]; exact hw⟩
set_option maxRecDepth 100000 in
theorem inv_laid {K : Nat → Prop} {w0 : World} {ι : Nm} {w : World} (h : Inv K w0 ι w) : Laid w := by
  obtain ⟨h1, _, arr, t, fz, h3, h4⟩ := h.globs 0 kindsS (by simp [cx])
  refine ⟨t, fz, ?_⟩
  rw [h.kept 0 h1, h3]
  have : arr = cells12 := by
    apply Array.toList_inj.1
    rw [h4]; rfl
  rw [this]
noncomputable def lw : World := { (default : World) with heap := #[.cells cells12 0 (0, 0)] }
set_option maxRecDepth 100000 in
theorem lw_laid : Laid lw := ⟨0, (0, 0), rfl⟩
def Ans (f : Nat) (args : List Value) (v : Value) : Prop := ∀ w, Laid w → Calls Tryz.prog f args.toArray w fun e w' => e = .returned v ∧ Below w.heap.size w w'
set_option maxRecDepth 100000 in
theorem Ans.go {f : Nat} {args : List Value} {v : Value} (h : Ans f args v) {w : World} (hw : Laid w) : Calls Tryz.prog f args.toArray w fun e w' => e = .returned v ∧ Below w.heap.size w w' := h w hw
set_option maxRecDepth 100000 in
theorem Ans.inv {f : Nat} {args : List Value} {v : Value} (h : Ans f args v) {K : Nat → Prop} {w0 : World} {ι : Nm} {w : World} (hI : Inv K w0 ι w) :
    Calls Tryz.prog f args.toArray w fun e w' => e = .returned v ∧ Inv K w0 ι w' :=
  (h w (inv_laid hI)).mono fun _ _ ⟨he, hb⟩ => ⟨he, hI.under hb⟩
set_option maxRecDepth 100000 in
theorem ans_of {ρ : Env} {f : Nat} {args : List SVal} {x : Res} {l : List Value} {v : Value} (hc : CallOk ρ cx.globs cx.P f args [] x) (hsc : ∀ u ∈ args, u.sc 0 = true) (ha : args.map (·.conc ρ ι0) = l) (hv : ∀ ι, x.v.conc ρ ι = v) (hab : ∀ q, ¬ ρ.ab.B q := by exact fun _ h => h) : Ans f l v := by
  intro w hw
  have := hc (ownK w) w ι0 w (start ρ hw (fun q h => (hab q h).elim)) hsc
  rw [ha] at this
  refine Calls.mono (R := _) (show Calls Tryz.prog f l.toArray w _ from this) ?_
  rintro e w' ⟨ι', _, _, H, _, _, rfl⟩
  exact ⟨by rw [hv ι'], H.grown⟩
set_option maxRecDepth 100000 in
theorem Ans.one {f : Nat} (hi : Tryz.prog.inits.idxOf? f = none) {l : List Value} {u v : Value} (h1 : Ans f l u) (h2 : Ans f l v) : u = v := calls_one hi (h1 lw lw_laid) (h2 lw lw_laid)
set_option maxRecDepth 100000 in
theorem Ans.ok {ρ : Env} {f : Nat} {args : List SVal} {v : SVal} (h : ∀ ι, Ans f (args.map (·.conc ρ ι)) (v.conc ρ ι)) (hsc : v.sc 0 = true) (hab : ∀ q, ¬ ρ.ab.B q := by exact fun _ h => h) : CallOk ρ cx.globs cx.P f args [] ⟨v, [], .bit true⟩ := by
  intro K w0 ι w H _
  refine (((h ι).inv (inv_of (ι' := ι) H))).mono ?_
  rintro e w' ⟨rfl, hI⟩
  exact ⟨ι, Nm.Ext.refl _ _, Nat.le_refl _, inv_env hI _ (fun q h => (hab q h).elim), SVal.sc_mono (Nat.zero_le _) _ hsc, rfl, rfl⟩
structure EncP (E D n : Nat) (x : Fields) (it : Bool) (p : List Int × Bool) : Prop where
  len : p.1.length = n
  has : ∀ a ∈ p.1, kHas .i64 a
  enc : Ans E [x.val, .bool it] (.tuple (p.1.map (Value.int .i64) ++ [Value.bool p.2]).toArray)
  dec : p.2 = true → Ans D (p.1.map (Value.int .i64) ++ [Value.bool it]) (.tuple #[x.val, .bool true])
namespace apt
def ins : SVal := argT (.var 0) (.var 1) (.var 3) (.var 5)
def it : SVal := .bool (.var 9)
end apt
set_option maxRecDepth 100000 in
theorem insOf_conc {ρ : Env} {y v : SVal} {o : Tm} (h : insOf y = some (v, o)) (ι : Nm) : y.conc ρ ι = .tuple #[v.conc ρ ι, .bool (o.den ρ).asBool] := by
  unfold insOf at h
  split at h
  · simp only [Option.some.injEq, Prod.mk.injEq] at h
    obtain ⟨rfl, rfl⟩ := h
    rfl
  · cases h
/-! ### The cases -/
def sgF : Sg := { defs := fun g => match Nat.beq g 901 with | true => some Chk.chk | false => none, ufs := [(910, [5], 10), (911, [5], 11), (920, [10], 5), (921, [10], 11)], pop := 900 }
set_option maxRecDepth 100000 in
theorem find_some {x : Int} (h : findB x = true) : valB (findI x) = true ∧ expI (findI x) = x := by
  unfold findB at h
  unfold findI
  cases hn : findN x with
  | none => rw [hn] at h; cases h
  | some n =>
    rw [findN_eq] at hn
    have := List.find?_some hn
    unfold hit at this
    rw [Bool.and_eq_true] at this
    exact ⟨this.1, eq_of_beq this.2⟩
set_option maxRecDepth 100000 in
theorem sgF_ok {x : Fields} (it : Bool) (hf : findB x.x5 = true) : sgF.Ok (envOf F2 (x.scsW it)) := by
  have s := sgL_ok (x := x) it
  obtain ⟨hv, he⟩ := find_some hf
  refine ⟨s.defs, ?_, s.pop⟩
  intro g xs y hm ss hss
  simp only [sgF, List.mem_cons, List.not_mem_nil, or_false, Prod.mk.injEq] at hm
  have one : ∀ i : Nat, ss.map Sc.asInt = [i].map (fun v => ((envOf F2 (x.scsW it)).v v).asInt) → ∃ s, ss = [s] ∧ s.asInt = ((envOf F2 (x.scsW it)).v i).asInt := by
    intro i h
    match ss, h with
    | [s], h => exact ⟨s, rfl, by simpa using h⟩
    | [], h => simp at h
    | _ :: _ :: _, h => simp at h
  rcases hm with ⟨rfl, rfl, rfl⟩ | ⟨rfl, rfl, rfl⟩ | ⟨rfl, rfl, rfl⟩ | ⟨rfl, rfl, rfl⟩
  · exact s.ufs 910 [5] 10 (by simp [wid.sgL]) ss hss
  · exact s.ufs 911 [5] 11 (by simp [wid.sgL]) ss hss
  · obtain ⟨s, rfl, hs⟩ := one 10 hss
    have hs : s.asInt = findI x.x5 := hs
    show Sc.int (expI s.asInt) = Sc.int x.x5
    rw [hs, he]
  · obtain ⟨s, rfl, hs⟩ := one 10 hss
    have hs : s.asInt = findI x.x5 := hs
    show Sc.bool (valB s.asInt) = Sc.bool (findB x.x5)
    rw [hs, hv, hf]
namespace apt
def nthN (k j : Nat) : Cas := (Cb.casesN k).getD j ⟨[], [], []⟩
def covN (k : Nat) : Bool := pxT wid.sgL (anyT ((Cb.casesN k).map Cas.cond)) (wid.ek k) (fun _ => true)
def casesV (k : Nat) : List (Bool × Cas) := match Nat.beq k 31 || Nat.beq k 32 with
  | true => (false, Cb.refused k) :: (Cb.prod [Cb.zs [1, 2, 4, 5, 6], (List.range 15).map (fun n => Cb.lit 3 (Int.ofNat n)), [Cb.msk 7 65535]]).map fun c => (false, c)
  | false => Cb.casesW k
def nthV (k j : Nat) : Bool × Cas := (casesV k).getD j (false, ⟨[], [], []⟩)
def sgOf : Bool → Sg
  | true => sgF
  | false => wid.sgL
def covV (k : Nat) : Bool := pxT wid.sgL (anyT ((casesV k).map fun c => c.2.cond)) (wid.ek k) (fun _ => true)
def tells (c : Bool × Cas) : Bool := !c.1 || (c.2.pre.contains (Cb.fnd (Cb.V 5)) && (c.2.pre.contains (Cb.le (Cb.num 0) (Cb.V 5)) && c.2.pre.contains (Cb.le (Cb.V 5) (Cb.num 4294967295))))
def tellsV : Nat → Bool
  | 0 => true
  | n + 1 => (casesV (n + 1)).all tells && tellsV n
set_option maxRecDepth 100000 in
theorem tellsV45 : tellsV 45 = true := by kernel_rfl
set_option maxRecDepth 100000 in
theorem tellsV_get : ∀ n, tellsV n = true → ∀ k, 1 ≤ k → k ≤ n → (casesV k).all tells = true
  | 0, _, k, h, h' => by omega
  | n + 1, hc, k, h, h' => by
    simp only [tellsV, Bool.and_eq_true] at hc
    by_cases e : k = n + 1
    · subst e; exact hc.1
    · exact tellsV_get n hc.2 k h (by omega)
def cq : Cas := ⟨[wid.refused], [], [wid.refused]⟩
noncomputable def nat (S : Specs) (E D k j : Nat) : Bool := pxBoth wid.sgL (backTree cxs' S 3000 E D 1 ins it (wid.withOp k (nthN k j))) (wid.ek k)
noncomputable def vat (S : Specs) (E D k j : Nat) : Bool := pxBoth (sgOf (nthV k j).1) (backTree cxs' S 3000 E D 2 ins it (wid.withOp k (nthV k j).2)) (wid.ek k)
noncomputable def atq (S : Specs) (E D n : Nat) (e : Kn) : Bool := pxBoth wid.sgL (backTree cxs' S 3000 E D n ins it cq) e
end apt
set_option maxRecDepth 100000 in
theorem cq_cond {ρ : Env} (h : (wid.refused.den ρ).asBool = true) : (apt.cq.cond.den ρ).asBool = true := by
  show ((wid.refused.den ρ).asBool && true) = true
  rw [h]; rfl
set_option maxRecDepth 100000 in
theorem val_inj {x y : Fields} (h : x.val = y.val) : x = y := by
  cases x; cases y
  simp only [Fields.val, Value.agg.injEq] at h
  simp at h
  obtain ⟨rfl, rfl, rfl, rfl, rfl, rfl, rfl, rfl, rfl⟩ := h
  rfl
end Go.Proofs.YthbdmlcbdibiiaaGreatDoor
/- For the seat: the reference's registers of a list, and how many they are. -/
namespace Go.Proofs.YthbdmlcbdibiiaaGreatDoor
open Go.Sx Go.ChangeShapes Go.WideShapes Go.RowKit Go.Joins Go.Deep
namespace has5
def knR : Kn := ⟨[], [], [], [], [0]⟩
def hasT (r : Nat) : Tm := .op2 .eq (.op2 (.and .i64) (.op2 (.shr .i64) (.var 0) (.num (.ofNat r))) (.num 1)) (.num 1)
noncomputable def at' (r : Nat) : Bool := pxIs sg (.bool (hasT r)) (callT cx noS (run cx noS 400) 130 [.int .i64 (.var 0), .int .i64 (.num (.ofNat r))] [] (.bit true)) knR
def allR (p : Nat → Bool) : Nat → Bool
  | 0 => true
  | n + 1 => p n && allR p n
set_option maxRecDepth 100000 in
theorem allR_get {p : Nat → Bool} : ∀ n, allR p n = true → ∀ r, r < n → p r = true
  | 0, _, r, h => by omega
  | n + 1, hp, r, h => by
    simp only [allR, Bool.and_eq_true] at hp
    by_cases e : r = n
    · subst e; exact hp.1
    · exact allR_get n hp.2 r (by omega)
set_option maxRecDepth 100000 in
theorem run16 : allR at' 16 = true := by kernel_rfl
end has5
def hasB (l : Int) (r : Nat) : Bool := ((has5.hasT r).den (envOf F [.int l])).asBool
set_option maxRecDepth 100000 in
theorem has_ans (l : Int) (hl : kHas .i64 l) (r : Nat) (hr : r < 16) : Ans 130 [.int .i64 l, .int .i64 r] (.bool (hasB l r)) := by
  have S : Sats (envOf F [.int l]) has5.knR := by
    refine Sats.start (one_vars (s := .int l) hl) _ ?_
    intro i hi
    simp only [List.mem_cons, List.not_mem_nil, or_false] at hi
    subst hi
    exact ⟨_, rfl⟩
  have h := has5.allR_get 16 has5.run16 r hr
  unfold has5.at' at h
  obtain ⟨x', h1, h2⟩ := pxIs_ok (sg_ok' F_signs) _ _ S h
  refine ans_of (call_ok (ρ := envOf F [.int l]) cxok (noS_ok _ _) (noS_body _) rfl h1) (by intro v hv; simp at hv; rcases hv with rfl | rfl <;> rfl) rfl ?_
  intro ι
  rw [h2]
  rfl
def regsB (l : Int) (k : Nat) : List Int := ((List.range k).filter (hasB l)).map fun (r : Nat) => (r : Int)
set_option maxRecDepth 100000 in
theorem regsB_no {l : Int} {k : Nat} (h : hasB l k = false) : regsB l (k + 1) = regsB l k := by
  simp [regsB, List.range_succ, h]
set_option maxRecDepth 100000 in
theorem regsB_yes {l : Int} {k : Nat} (h : hasB l k = true) : regsB l (k + 1) = regsB l k ++ [(k : Int)] := by
  simp [regsB, List.range_succ, h]
set_option maxRecDepth 100000 in
theorem regsB_len (l : Int) (k : Nat) : (regsB l k).length ≤ k := by
  have := List.length_filter_le (hasB l) (List.range k)
  simpa [regsB] using this
def RetInts (e : TypeId) (base : Nat) (l : List Int) (en : Ending) (w : World) (w' : World) : Prop := ∃ v, en = .returned v ∧ w'.ownsRow base e 1 v l.length (encI l) ∧ Below base w w'
set_option maxRecDepth 100000 in
set_option maxHeartbeats 2000000 in
theorem all5_any (l : Int) (hl : kHas .i64 l) (w : World) (hw : Laid w) :
    Calls Tryz.prog 86 #[.int .i64 l] w fun e w' => RetInts 3 w.heap.size (regsB l 16) e w w' := by
  have HL := Lib.hid hl
  clear hl
  go_enter Tryz.func86, Tryz.ntmps86
  go_wp2
  go_loopw [3, 4] (fun o k wr => ∃ i : Nat, i ≤ 16 ∧ k = .int .i64 i ∧ wr.ownsRow w.heap.size 3 1 o (regsB l i).length (encI (regsB l i)) ∧ Below w.heap.size w wr) (fun _ k _ => 16 - (intOf k).toNat)
  case atStart => exact ⟨0, by omega, rfl, World.ownsRow_nil _ _ _ _, Below.refl _ _⟩
  case round =>
    obtain ⟨i, hi, rfl, hown, hbr⟩ := hrel
    have hbs := hbr.size
    have hlr := laid_below hw hbr
    have hlen := regsB_len l i
    have hc5 : (regsB l i).length ≤ 5000000000 := by omega
    by_cases hlt : i < 16
    · cases hb : hasB l i
      · have HB := Lib.hid hb
        have hA := has_ans l HL.out i hlt
        rw [hb] at hA
        clear hb
        go_wp2_with fail
        ((with_reducible refine (hA.go hlr).mono ?_); rintro e w1 ⟨rfl, hb1⟩)
        go_wp2
        go_roundw
        case rel => exact ⟨i + 1, by omega, by go_num, by rw [regsB_no HB.out]; exact own_below hown hb1, hbr.trans (hb1.mono hbs)⟩
        case measure => simp [intOf]; omega
      · have HB := Lib.hid hb
        have hA := has_ans l HL.out i hlt
        rw [hb] at hA
        clear hb
        go_wp2_with fail
        ((with_reducible refine (hA.go hlr).mono ?_); rintro e w1 ⟨rfl, hb1⟩)
        have hown1 := own_below hown hb1
        have hbs1 := Nat.le_trans hbs hb1.size
        go_wp2_with (at_builtin; refine app_int w1 rfl _ _ rfl w.heap.size hbs1 (regsB l i) i hc5 _ rfl ?_ _ rfl rfl ?_; exact hown1; intro v1 w2 hown2 hb2)
        go_roundw
        case rel => exact ⟨i + 1, by omega, by go_num, by rw [regsB_yes HB.out]; exact hown2, (hbr.trans (hb1.mono hbs)).trans hb2⟩
        case measure => simp [intOf]; omega
    · have e : i = 16 := by omega
      subst e
      go_wp2
      go_ret
      exact ⟨_, rfl, hown, hbr⟩
end Go.Proofs.YthbdmlcbdibiiaaGreatDoor
/- The registers of a list: regs.All. -/
namespace Go.Proofs.YthbdmlcbdibiiaaGreatDoor
open Go.Sx Go.ChangeShapes Go.WideShapes Go.RowKit Go.Joins Go.Deep
set_option maxRecDepth 100000 in
theorem hasB_walk (l : Int) (i : Nat) (hi : i < 16) : hasB l i = (bits .and .i64 (l / 2 ^ i) 1 == 1) := by
  have hs : shrOp .i64 l (i : Int) = l / 2 ^ i := by
    show l.fdiv (2 ^ (min (i : Int).toNat 64)) = _
    rw [Int.toNat_natCast, Nat.min_eq_left (by omega)]
    exact Int.fdiv_eq_ediv_of_nonneg _ (Int.le_of_lt (Int.pow_pos (by omega)))
  rw [← hs]
  rfl
set_option maxRecDepth 100000 in
set_option maxHeartbeats 2000000 in
theorem allP_any (l : Int) (w : World) :
    Calls Tryz.prog 123 #[.int .i64 l] w fun e w' => RetInts 3 w.heap.size (regsB l 16) e w w' := by
  go_enter Tryz.func123, Tryz.ntmps123
  go_wp2
  go_loopw [3, 5] (fun o k wr => ∃ i : Nat, i ≤ 16 ∧ k = .int .i64 i ∧ wr.ownsRow w.heap.size 3 1 o (regsB l i).length (encI (regsB l i)) ∧ Below w.heap.size w wr) (fun _ k _ => 16 - (intOf k).toNat)
  case atStart => exact ⟨0, by omega, rfl, World.ownsRow_nil _ _ _ _, Below.refl _ _⟩
  case round =>
    obtain ⟨i, hi, rfl, hown, hbr⟩ := hrel
    have hbs := hbr.size
    have hlen := regsB_len l i
    have hc5 : (regsB l i).length ≤ 5000000000 := by omega
    by_cases hlt : i < 16
    · cases hb : hasB l i
      · have HB := Lib.hid hb
        have hE : (bits .and .i64 (l / 2 ^ i) 1 == 1) = false := (hasB_walk l i hlt).symm.trans hb
        clear hb
        go_wp2
        go_roundw
        case rel => exact ⟨i + 1, by omega, by go_num, by rw [regsB_no HB.out]; exact hown, hbr⟩
        case measure => simp [intOf]; omega
      · have HB := Lib.hid hb
        have hE : (bits .and .i64 (l / 2 ^ i) 1 == 1) = true := (hasB_walk l i hlt).symm.trans hb
        clear hb
        go_wp2_with (at_builtin; refine app_int wr rfl _ _ rfl w.heap.size hbs (regsB l i) i hc5 _ rfl ?_ _ rfl rfl ?_; exact hown; intro v1 w2 hown2 hb2)
        go_roundw
        case rel => exact ⟨i + 1, by omega, by go_num, by rw [regsB_yes HB.out]; exact hown2, hbr.trans hb2⟩
        case measure => simp [intOf]; omega
    · have e : i = 16 := by omega
      subst e
      go_wp2
      go_ret
      exact ⟨_, rfl, hown, hbr⟩
end Go.Proofs.YthbdmlcbdibiiaaGreatDoor
/- The memory's Cells, and the registers of a list, as specs of data. -/
namespace Go.Proofs.YthbdmlcbdibiiaaGreatDoor
open Go.RowKit Go.Mem Go.Sx
section
variable {B : Nat → Prop} {ρ : Env}
def cellsD (t : Tm) : Tm := nthT 0 t
set_option maxRecDepth 100000 in
theorem cells_spec (hab : ρ.ab = mchAbs B) (ss : List Sc) (vs : List Value) (w : World) (h : AllOk ρ w [.dat 100] ss vs) :
    Calls Tryz.prog 42 vs.toArray w fun e w' => Below w.heap.size w w' ∧ ∃ (v : OneV) (F : Nat → Prop), e = .returned v.v ∧ (∀ q, F q → w.heap.size ≤ q) ∧ ∀ t : Tm, (t.den ρ).asList = ss → ρ.ab.P 2 ((cellsD t).den ρ) v.v F w' := by
  obtain ⟨s, v, F, rfl, rfl, hP⟩ := all_one h
  obtain ⟨pm, bm, c, rfl, rfl, hm, _⟩ := mem_of hab hP
  refine (cells_new w pm bm c hm).mono ?_
  rintro e w' ⟨A', cap', rfl, hcl, hn, hb⟩
  refine ⟨hb, ⟨.slice A' c.length cap', rfl⟩, fun q => c ≠ [] ∧ ∃ a, A' = some a ∧ q = a.block, rfl, ?_, fun t ht => ?_⟩
  · rintro q ⟨h0, a, ha, rfl⟩
    obtain ⟨a', ha', hle⟩ := hn h0
    rw [ha] at ha'
    simp only [Option.some.injEq] at ha'
    subst ha'
    exact hle
  · rw [hab]
    refine .inl ⟨by omega, c, A', cap', ?_, rfl, hcl, hm.is.2, ⟨length_le hm.is.1 hm.is.2, fun _ => hm.is.1⟩, rfl⟩
    unfold cellsD
    rw [nthT_den, ht]
    rfl
structure RSigns (ρ : Env) : Prop where
  s730 : ∀ ss, ρ.f 730 ss = .int ((regsB (get ss 0).asInt 16).length : Int)
  s731 : ∀ ss, ρ.f 731 ss = .int ((regsB (get ss 0).asInt 16).getD (get ss 1).asInt.toNat 0)
def cntT (t : Tm) : Tm := .app 730 (.cons t .nil)
def regT (t : Tm) (j : Nat) : Tm := .app 731 (.cons t (.cons (.num (.ofNat j)) .nil))
set_option maxRecDepth 100000 in
theorem laid_hr {K : Nat → Prop} {w0 : World} {ι : Nm} {h : Heap} {w : World} (H : HR ρ cx.globs K w0 ι h w) : Laid w := inv_laid (inv_of (ι' := ι) H)
set_option maxRecDepth 100000 in
theorem all_spec {f : FuncId} (V : VarsOk ρ) (R : RSigns ρ) (hf : ∀ (l : Int) (w : World), kHas .i64 l → Laid w → Calls Tryz.prog f #[.int .i64 l] w fun e w' => RetInts 3 w.heap.size (regsB l 16) e w w') :
    ∀ args h pc x, (pc.den ρ).asBool = true → (specInts 3 cntT regT args h pc).get ρ = some x → CallOk ρ cx.globs cx.P f args h x := by
  refine specInts_ok V (fun l => regsB l 16) Laid (fun _ _ _ _ _ H => laid_hr H) ?_ ?_ ?_
  · intro l w hl hw
    refine (hf l w hl hw).mono ?_
    rintro e w' ⟨v, rfl, ho, hb⟩
    exact ⟨v, rfl, ho, hb⟩
  · intro t
    simp [cntT, Tm.den, R.s730, get]
  · intro t j
    simp [regT, Tm.den, R.s731, get]
end
end Go.Proofs.YthbdmlcbdibiiaaGreatDoor
/- Functions of scalars, as specs. -/
namespace Go.Proofs.YthbdmlcbdibiiaaGreatDoor
open Go.RowKit Go.Mem Go.Sx
set_option maxRecDepth 100000 in
theorem ans_spec {ρ : Env} (V : VarsOk ρ) {f : FuncId} {pat : SVal} {res : Tm → SVal} (lit : List Sc → SVal) (hpv : patVars pat = List.range (patVars pat).length) (hps : ∀ u ∈ pat.toList, u.sc 0 = true) (hrs : ∀ t, (res t).sc 0 = true)
    (hl : ∀ L, (lit L).sc 0 = true) (ha : ∀ L : List Sc, L.length = (patVars pat).length → patHas L pat → ∀ ι, Ans f (pat.toList.map (·.conc (envOf ρ.f L) ι)) ((lit L).conc (envOf ρ.f L) ι))
    (hr : ∀ (L : List Sc) (t : Tm) (ι ι' : Nm), L.length = (patVars pat).length → (t.den ρ).asList = L → (res t).conc ρ ι = (lit L).conc (envOf ρ.f L) ι') :
    ∀ args h pc x, (pc.den ρ).asBool = true → (specR pat res args h pc).get ρ = some x → CallOk ρ cx.globs cx.P f args h x := by
  refine specR_ok V globsC hpv hps hrs ?_
  intro L hL hp
  exact ⟨envOf ρ.f L, ⟨lit L, [], .bit true⟩, rfl, Ans.ok (fun ι => ha L hL hp ι) (hl L), fun ι => rfl, fun t ι ι' ht => hr L t ι ι' hL ht⟩
structure ASigns (ρ : Env) : Prop where
  s765 : ∀ ss, ρ.f 765 ss = .int (quoL (get ss 0).asInt (get ss 1).asInt (get ss 2).asBool)
  s770 : ∀ ss, ρ.f 770 ss = .int (addR (get ss 0).asInt (get ss 1).asInt (get ss 2).asBool)
  s771 : ∀ ss, ρ.f 771 ss = .bool (addC (get ss 0).asInt (get ss 1).asInt (get ss 2).asBool)
  s772 : ∀ ss, ρ.f 772 ss = .bool (addV (get ss 0).asInt (get ss 1).asInt (get ss 2).asBool)
def pat3 : SVal := .cons (.int .u32 (.var 0)) (.cons (.int .u32 (.var 1)) (.cons (.bool (.var 2)) .nil))
def quoT (t : Tm) : SVal := .int .u32 (.app 765 t)
def addT (t : Tm) : SVal := .tup (.cons (.int .u32 (.app 770 t)) (.cons (.bool (.app 771 t)) (.cons (.bool (.app 772 t)) .nil)))
set_option maxRecDepth 100000 in
theorem three (L : List Sc) (h : L.length = 3) : ∃ a b c, L = [a, b, c] := by
  match L, h with
  | [a, b, c], _ => exact ⟨a, b, c, rfl⟩
set_option maxRecDepth 100000 in
theorem quo_spec {ρ : Env} (V : VarsOk ρ) (S : ASigns ρ) {f : FuncId} (hf : ∀ (a b : Int) (s : Bool) (w : World), 0 ≤ a → a < 4294967296 → 0 ≤ b → b < 4294967296 → Calls Tryz.prog f #[.int .u32 a, .int .u32 b, .bool s] w fun e w' => e = .returned (.int .u32 (quoL a b s)) ∧ w = w') :
    ∀ args h pc x, (pc.den ρ).asBool = true → (specR pat3 quoT args h pc).get ρ = some x → CallOk ρ cx.globs cx.P f args h x := by
  refine ans_spec V (fun L => .int .u32 (.num (quoL (get L 0).asInt (get L 1).asInt (get L 2).asBool))) rfl (by intro u hu; simp [pat3, SVal.toList] at hu; rcases hu with rfl | rfl | rfl <;> rfl) (fun _ => rfl) (fun _ => rfl) ?_ ?_
  · intro L hL hp ι w hw
    obtain ⟨a, b, c, rfl⟩ := three L hL
    obtain ⟨p0, p1, _⟩ := hp
    refine (hf a.asInt b.asInt c.asBool w p0.1 p0.2 p1.1 p1.2).mono ?_
    rintro e w' ⟨rfl, rfl⟩
    exact ⟨rfl, Below.refl _ _⟩
  · intro L t ι ι' _ ht
    simp [quoT, SVal.conc, Tm.den, S.s765, ht]
set_option maxRecDepth 100000 in
theorem add_spec {ρ : Env} (V : VarsOk ρ) (S : ASigns ρ) {f : FuncId} (hf : ∀ (a b : Int) (c : Bool) (w : World), 0 ≤ a → a < 4294967296 → 0 ≤ b → b < 4294967296 → Calls Tryz.prog f #[.int .u32 a, .int .u32 b, .bool c] w fun e w' => e = .returned (.tuple #[.int .u32 (addR a b c), .bool (addC a b c), .bool (addV a b c)]) ∧ w = w') :
    ∀ args h pc x, (pc.den ρ).asBool = true → (specR pat3 addT args h pc).get ρ = some x → CallOk ρ cx.globs cx.P f args h x := by
  refine ans_spec V (fun L => .tup (.cons (.int .u32 (.num (addR (get L 0).asInt (get L 1).asInt (get L 2).asBool))) (.cons (.bool (.bit (addC (get L 0).asInt (get L 1).asInt (get L 2).asBool))) (.cons (.bool (.bit (addV (get L 0).asInt (get L 1).asInt (get L 2).asBool))) .nil)))) rfl (by intro u hu; simp [pat3, SVal.toList] at hu; rcases hu with rfl | rfl | rfl <;> rfl) (fun _ => rfl) (fun _ => rfl) ?_ ?_
  · intro L hL hp ι w hw
    obtain ⟨a, b, c, rfl⟩ := three L hL
    obtain ⟨p0, p1, _⟩ := hp
    refine (hf a.asInt b.asInt c.asBool w p0.1 p0.2 p1.1 p1.2).mono ?_
    rintro e w' ⟨rfl, rfl⟩
    exact ⟨by simp [SVal.conc, SVal.concL, Tm.den, get], Below.refl _ _⟩
  · intro L t ι ι' _ ht
    simp [addT, SVal.conc, SVal.concL, Tm.den, S.s770, S.s771, S.s772, ht]
end Go.Proofs.YthbdmlcbdibiiaaGreatDoor
/- For the seat: the IT state behind an instruction, of both packages. -/
namespace Go.Proofs.YthbdmlcbdibiiaaGreatDoor
open Go.Sx Go.ChangeShapes Go.WideShapes Go.RowKit Go.Joins Go.Deep
namespace aft
def v (i : Nat) : Tm := .var i
def and (a : Tm) (n : Int) : Tm := .op2 (.and .i64) a (.num n)
def rem (a : Tm) (n : Int) : Tm := .op2 .rem a (.num n)
def nextOf (a : Tm) : Tm := .ite (.op2 .eq (and a 7) (.num 0)) (.num 0) (.op2 (.or .i64) (and a 224) (and (.op2 (.shl .i64) a (.num 1)) 31))
def nextRof (a : Tm) : Tm := .ite (.op2 .eq (rem a 8) (.num 0)) (.num 0) (.op2 (.add .i64) (.op2 (.mul .i64) (.op2 (.quo .i64) a (.num 32)) (.num 32)) (rem (.op2 (.mul .i64) (rem a 32) (.num 2)) 32))
def behind (n : Tm) : Tm := .ite (.op2 .eq (v 1) (.num 42)) (.op2 (.or .i64) (.op2 (.shl .i64) (v 2) (.num 4)) (v 6)) n
def low8 : Tm := and (v 0) 255
def aftT : Tm := behind (nextOf (v 0))
def aftR : Tm := behind (nextRof low8)
def ins : SVal := .agg (.ofList [.int .i64 (v 1), .int .i64 (v 2), .int .i64 (v 3), .int .i64 (v 4), .int .i64 (v 5), .int .i64 (v 6), .int .i64 (v 7), .int .i64 (v 8), .bool (v 9)])
def pat : List SVal := [.int .i64 (v 0), ins]
def kn : Kn := ⟨[], [], [], [], [0]⟩
set_option maxRecDepth 100000 in
theorem run_p : pxIs sg (.int .i64 aftT) (callT cx noS (run cx noS 400) 41 pat [] (.bit true)) kn = true := by kernel_rfl
set_option maxRecDepth 100000 in
theorem run_r : pxIs sg (.int .i64 aftR) (callT cx noS (run cx noS 400) 26 pat [] (.bit true)) kn = true := by kernel_rfl
set_option maxRecDepth 100000 in
theorem low_a : pxT sg (.op2 .eq (nextOf (v 0)) (nextOf low8)) kn (fun _ => true) = true := by kernel_rfl
set_option maxRecDepth 100000 in
theorem low_b : pxT sg (.op2 .le (.num 0) low8) kn (fun _ => true) = true := by kernel_rfl
set_option maxRecDepth 100000 in
theorem low_c : pxT sg (.op2 .le low8 (.num 255)) kn (fun _ => true) = true := by kernel_rfl
def ρ0 : Env := ⟨fun _ => .int 0, fun _ _ => .int 0, fun _ => undef, Abs.no⟩
def same (n : Nat) : Bool := ((nextOf (.num n)).den ρ0).asInt == ((nextRof (.num n)).den ρ0).asInt
def allR (p : Nat → Bool) : Nat → Bool
  | 0 => true
  | n + 1 => p n && allR p n
set_option maxRecDepth 100000 in
theorem allR_get {p : Nat → Bool} : ∀ n, allR p n = true → ∀ r, r < n → p r = true
  | 0, _, r, h => by omega
  | n + 1, hp, r, h => by
    simp only [allR, Bool.and_eq_true] at hp
    by_cases e : r = n
    · subst e; exact hp.1
    · exact allR_get n hp.2 r (by omega)
set_option maxRecDepth 100000 in
theorem same256 : allR same 256 = true := by kernel_rfl
set_option maxRecDepth 100000 in
theorem nextOf_den {ρ : Env} {a : Tm} {n : Int} (h : a.den ρ = .int n) : (nextOf a).den ρ = (nextOf (.num n)).den ρ0 := by
  simp only [nextOf, and, Tm.den, h]
set_option maxRecDepth 100000 in
theorem nextRof_den {ρ : Env} {a : Tm} {n : Int} (h : a.den ρ = .int n) : (nextRof a).den ρ = (nextRof (.num n)).den ρ0 := by
  simp only [nextRof, rem, Tm.den, h]
set_option maxRecDepth 100000 in
theorem next_same {ρ : Env} (so : sg.Ok ρ) (hs : Sats ρ kn) : ((nextOf (v 0)).den ρ).asInt = ((nextRof low8).den ρ).asInt := by
  have a : (((nextOf (v 0)).den ρ).asInt == ((nextOf low8).den ρ).asInt) = true := (pxT_ok so hs low_a).1
  have b : decide ((0 : Int) ≤ (low8.den ρ).asInt) = true := (pxT_ok so hs low_b).1
  have c : decide ((low8.den ρ).asInt ≤ (255 : Int)) = true := (pxT_ok so hs low_c).1
  rw [eq_of_beq a]
  obtain ⟨n, hn⟩ := Int.eq_ofNat_of_zero_le (of_decide_eq_true b)
  have c := of_decide_eq_true c
  have hd : low8.den ρ = .int n := by rw [← hn]; rfl
  rw [nextOf_den hd, nextRof_den hd]
  exact eq_of_beq (allR_get 256 same256 n (by omega))
set_option maxRecDepth 100000 in
theorem aft_same {ρ : Env} (so : sg.Ok ρ) (hs : Sats ρ kn) : (aftR.den ρ).asInt = (aftT.den ρ).asInt := by
  unfold aftR aftT behind
  simp only [Tm.den]
  split
  · rfl
  · exact (next_same so hs).symm
end aft
def scsA (it : Int) (x : Fields) : List Sc := [.int it, .int x.x0, .int x.x1, .int x.x2, .int x.x3, .int x.x4, .int x.x5, .int x.x6, .int x.x7, .bool x.b]
noncomputable def aftI (it : Int) (x : Fields) : Int := (aft.aftT.den (envOf F2 (scsA it x))).asInt
set_option maxRecDepth 100000 in
theorem scsA_ok {it : Int} {x : Fields} (hi : kHas .i64 it) (h : x.Ok) : VarsOk (envOf F2 (scsA it x)) := by
  refine ⟨?_, F2_has⟩
  intro i
  match i with
  | 0 => exact hi
  | 1 => exact h.h0
  | 2 => exact h.h1
  | 3 => exact h.h2
  | 4 => exact h.h3
  | 5 => exact h.h4
  | 6 => exact h.h5
  | 7 => exact h.h6
  | 8 => exact h.h7
  | 9 => exact zero_has
  | n + 10 => exact zero_has
set_option maxRecDepth 100000 in
theorem aft_kn {it : Int} {x : Fields} (hi : kHas .i64 it) (h : x.Ok) : Sats (envOf F2 (scsA it x)) aft.kn := by
  refine Sats.start (scsA_ok hi h) _ ?_
  intro i hi
  simp only [List.mem_cons, List.not_mem_nil, or_false] at hi
  subst hi
  exact ⟨_, rfl⟩
set_option maxRecDepth 100000 in
theorem aft_p {it : Int} {x : Fields} (hi : kHas .i64 it) (h : x.Ok) : Ans 41 [.int .i64 it, x.val] (.int .i64 (aftI it x)) := by
  obtain ⟨y, h1, h2⟩ := pxIs_ok (sg_ok' (ρ := envOf F2 (scsA it x)) F2_signs) _ _ (aft_kn hi h) aft.run_p
  refine ans_of (call_ok (ρ := envOf F2 (scsA it x)) cxok (noS_ok _ _) (noS_body _) rfl h1) (by intro v hv; simp [aft.pat] at hv; rcases hv with rfl | rfl <;> rfl) rfl ?_
  intro ι
  rw [h2]
  rfl
set_option maxRecDepth 100000 in
theorem aft_r {it : Int} {x : Fields} (hi : kHas .i64 it) (h : x.Ok) : Ans 26 [.int .i64 it, x.val] (.int .i64 (aftI it x)) := by
  have so := sg_ok' (ρ := envOf F2 (scsA it x)) F2_signs
  obtain ⟨y, h1, h2⟩ := pxIs_ok so _ _ (aft_kn hi h) aft.run_r
  refine ans_of (call_ok (ρ := envOf F2 (scsA it x)) cxok (noS_ok _ _) (noS_body _) rfl h1) (by intro v hv; simp [aft.pat] at hv; rcases hv with rfl | rfl <;> rfl) rfl ?_
  intro ι
  rw [h2]
  exact congrArg _ (aft.aft_same so (aft_kn hi h))
end Go.Proofs.YthbdmlcbdibiiaaGreatDoor
/- Conditions and IT states, as specs. -/
namespace Go.Proofs.YthbdmlcbdibiiaaGreatDoor
open Go.RowKit Go.Mem Go.Sx
/-! ### Whether a condition is true -/
def mapB (u : Tm) (t : Tree Res) : Tree Res := t.bind fun x => match x.v with
  | .bool b => .leaf { x with v := .bool (.op2 .beq b u) }
  | _ => .fail "no truth"
set_option maxRecDepth 100000 in
theorem mapB_get {ρ : Env} {u : Tm} {t : Tree Res} {x : Res} {b : Tm} (h : (mapB u t).get ρ = some x) (hx : x.v = .bool b) (hb : (b.den ρ).asBool = true) : ∃ y c, t.get ρ = some y ∧ y.v = .bool c ∧ (c.den ρ).asBool = (u.den ρ).asBool := by
  unfold mapB at h
  rw [Tree.get_bind] at h
  match ht : t.get ρ with
  | none => rw [ht] at h; cases h
  | some y =>
    rw [ht] at h
    simp only [Option.bind_some] at h
    split at h
    · rename_i c hc
      simp only [Tree.get, Option.some.injEq] at h
      subst h
      simp only [SVal.bool.injEq] at hx
      subst hx
      exact ⟨y, c, rfl, hc, eq_of_beq hb⟩
    · simp [Tree.get] at h
namespace cnd
def v (i : Nat) : Tm := .var i
def no (a : Tm) : Tm := .op1 .not a
def and (a b : Tm) : Tm := .op2 .band a b
def or (a b : Tm) : Tm := .op2 .bor a b
def same : Tm := .op2 .beq (v 1) (v 4)
def holdU : Nat → Tm
  | 0 => v 2 | 1 => no (v 2) | 2 => v 3 | 3 => no (v 3) | 4 => v 1 | 5 => no (v 1) | 6 => v 4 | 7 => no (v 4)
  | 8 => and (v 3) (no (v 2)) | 9 => or (no (v 3)) (v 2) | 10 => same | 11 => no same | 12 => and (no (v 2)) same | 13 => or (v 2) (no same)
  | _ => .bit true
def flags : SVal := .agg (.ofList [.bool (v 1), .bool (v 2), .bool (v 3), .bool (v 4)])
def kn : Kn := ⟨[], [], [], [], [0]⟩
noncomputable def at' (f : Nat) (c : Tm) (l : List Tm) (u : Tm) (e : Kn) : Bool := pxBoth sg (mapB u (callT cx noS (run cx noS 400) f [.int .i64 c, flags] [] (l.foldr mkAnd (.bit true)))) e
def lt (a : Tm) (k : Int) : Tm := .op2 .lt a (.num k)
def gt (a : Tm) (k : Int) : Tm := .op2 .lt (.num k) a
noncomputable def low (f : Nat) : Bool := at' f (v 0) [lt (v 0) 0] (.bit true) (kn.tell (.le 0 (-1)) true)
noncomputable def high (f : Nat) : Bool := at' f (v 0) [no (lt (v 0) 0), gt (v 0) 13] (.bit true) (kn.tell (.le 0 13) false)
noncomputable def goes (f n : Nat) : Bool := at' f (.num (.ofNat n)) [] (holdU n) kn
def allN (p : Nat → Bool) : Nat → Bool
  | 0 => true
  | n + 1 => p n && allN p n
set_option maxRecDepth 100000 in
theorem allN_get {p : Nat → Bool} : ∀ n, allN p n = true → ∀ r, r < n → p r = true
  | 0, _, r, h => by omega
  | n + 1, hp, r, h => by
    simp only [allN, Bool.and_eq_true] at hp
    by_cases e : r = n
    · subst e; exact hp.1
    · exact allN_get n hp.2 r (by omega)
structure All (f : Nat) : Prop where
  lo : low f = true
  hi : high f = true
  go : allN (goes f) 14 = true
set_option maxRecDepth 100000 in
theorem all_p : All 37 := ⟨by kernel_rfl, by kernel_rfl, by kernel_rfl⟩
set_option maxRecDepth 100000 in
theorem all_r : All 19 := ⟨by kernel_rfl, by kernel_rfl, by kernel_rfl⟩
end cnd
noncomputable def holdB (c : Int) (n z k v : Bool) : Bool := if 0 ≤ c ∧ c ≤ 13 then ((cnd.holdU c.toNat).den (envOf F2 [.int c, .bool n, .bool z, .bool k, .bool v])).asBool else true
set_option maxRecDepth 100000 in
theorem F2_vars (L : List Sc) (h : ∀ s ∈ L, kHas .i64 s.asInt) : VarsOk (envOf F2 L) := by
  refine ⟨fun i => ?_, F2_has⟩
  show kHas .i64 ((L.getD i (.int 0)).asInt)
  rw [List.getD_eq_getElem?_getD]
  cases hi : L[i]? with
  | none => exact zero_has
  | some s => exact h s (List.mem_of_getElem? hi)
set_option maxRecDepth 100000 in
theorem hold_ans {f : Nat} (A : cnd.All f) {c : Int} (hc : kHas .i64 c) (n z k v : Bool) : Ans f [.int .i64 c, .agg #[.bool n, .bool z, .bool k, .bool v]] (.bool (holdB c n z k v)) := by
  have V := F2_vars [.int c, .bool n, .bool z, .bool k, .bool v] (by
    intro s hs
    simp only [List.mem_cons, List.not_mem_nil, or_false] at hs
    rcases hs with rfl | rfl | rfl | rfl | rfl
    · exact hc
    all_goals exact zero_has)
  have S0 : Sats (envOf F2 [.int c, .bool n, .bool z, .bool k, .bool v]) cnd.kn := by
    refine Sats.start V _ ?_
    intro i hi
    simp only [List.mem_cons, List.not_mem_nil, or_false] at hi
    subst hi
    exact ⟨_, rfl⟩
  have so := sg_ok' (ρ := envOf F2 [.int c, .bool n, .bool z, .bool k, .bool v]) F2_signs
  have fin : ∀ (a u : Tm) (l : List Tm) (e : Kn), Sats (envOf F2 [.int c, .bool n, .bool z, .bool k, .bool v]) e → cnd.at' f a l u e = true → a.den (envOf F2 [.int c, .bool n, .bool z, .bool k, .bool v]) = .int c →
      (∀ t ∈ l, (t.den (envOf F2 [.int c, .bool n, .bool z, .bool k, .bool v])).asBool = true) → (u.den (envOf F2 [.int c, .bool n, .bool z, .bool k, .bool v])).asBool = holdB c n z k v →
      Ans f [.int .i64 c, .agg #[.bool n, .bool z, .bool k, .bool v]] (.bool (holdB c n z k v)) := by
    intro a u l e S h ha hl hu
    obtain ⟨x, b, h1, h2, h3⟩ := pxBoth_ok so _ _ S h
    obtain ⟨y, d, k1, k2, k3⟩ := mapB_get h1 h2 h3
    refine ans_of (call_ok (ρ := envOf F2 [.int c, .bool n, .bool z, .bool k, .bool v]) cxok (noS_ok _ _) (noS_body _) (conj_den _ _ hl) k1) (by intro v hv; simp at hv; rcases hv with rfl | rfl <;> rfl) ?_ ?_
    · simp only [List.map_cons, List.map_nil, SVal.conc, ha, Sc.asInt_int]
      rfl
    · intro ι
      rw [k2]
      simp only [SVal.conc, k3, hu]
  by_cases h1 : c < 0
  · refine fin (.var 0) (.bit true) [cnd.lt (.var 0) 0] _ (S0.tell (.le 0 (-1)) (b := true) (decide_eq_true (show c ≤ -1 by omega))) A.lo rfl ?_ ?_
    · intro t ht
      simp only [List.mem_cons, List.not_mem_nil, or_false] at ht
      subst ht
      exact decide_eq_true h1
    · unfold holdB
      rw [if_neg (by omega)]
      rfl
  · by_cases h2 : 13 < c
    · refine fin (.var 0) (.bit true) [cnd.no (cnd.lt (.var 0) 0), cnd.gt (.var 0) 13] _ (S0.tell (.le 0 13) (b := false) (decide_eq_false (show ¬ c ≤ 13 by omega))) A.hi rfl ?_ ?_
      · intro t ht
        simp only [List.mem_cons, List.not_mem_nil, or_false] at ht
        rcases ht with rfl | rfl
        · show (!decide (c < 0)) = true
          rw [decide_eq_false h1]; rfl
        · exact decide_eq_true h2
      · unfold holdB
        rw [if_neg (by omega)]
        rfl
    · obtain ⟨m, rfl⟩ := Int.eq_ofNat_of_zero_le (show 0 ≤ c by omega)
      refine fin (.num (.ofNat m)) (cnd.holdU m) [] _ S0 (cnd.allN_get 14 A.go m (by omega)) rfl (by simp) ?_
      unfold holdB
      rw [if_pos (by omega), Int.toNat_natCast]
/-! ### The IT state behind -/
namespace cnd
set_option maxRecDepth 100000 in
theorem next_p : pxIs sg (.int .i64 (aft.nextOf (v 0))) (callT cx noS (run cx noS 400) 39 [.int .i64 (v 0)] [] (.bit true)) kn = true := by kernel_rfl
set_option maxRecDepth 100000 in
theorem next_r : pxIs sg (.int .i64 (aft.nextRof aft.low8)) (callT cx noS (run cx noS 400) 24 [.int .i64 (v 0)] [] (.bit true)) kn = true := by kernel_rfl
end cnd
noncomputable def nextI (it : Int) : Int := ((aft.nextOf (.var 0)).den (envOf F2 [.int it])).asInt
set_option maxRecDepth 100000 in
theorem next_kn {it : Int} (h : kHas .i64 it) : Sats (envOf F2 [.int it]) cnd.kn := by
  refine Sats.start (F2_vars [.int it] (by intro s hs; simp at hs; subst hs; exact h)) _ ?_
  intro i hi
  simp only [List.mem_cons, List.not_mem_nil, or_false] at hi
  subst hi
  exact ⟨_, rfl⟩
set_option maxRecDepth 100000 in
theorem next_ansP {it : Int} (h : kHas .i64 it) : Ans 39 [.int .i64 it] (.int .i64 (nextI it)) := by
  obtain ⟨y, h1, h2⟩ := pxIs_ok (sg_ok' (ρ := envOf F2 [.int it]) F2_signs) _ _ (next_kn h) cnd.next_p
  refine ans_of (call_ok (ρ := envOf F2 [.int it]) cxok (noS_ok _ _) (noS_body _) rfl h1) (by intro v hv; simp at hv; subst hv; rfl) rfl ?_
  intro ι
  rw [h2]
  rfl
set_option maxRecDepth 100000 in
theorem next_ansR {it : Int} (h : kHas .i64 it) : Ans 24 [.int .i64 it] (.int .i64 (nextI it)) := by
  have so := sg_ok' (ρ := envOf F2 [.int it]) F2_signs
  obtain ⟨y, h1, h2⟩ := pxIs_ok so _ _ (next_kn h) cnd.next_r
  refine ans_of (call_ok (ρ := envOf F2 [.int it]) cxok (noS_ok _ _) (noS_body _) rfl h1) (by intro v hv; simp at hv; subst hv; rfl) rfl ?_
  intro ι
  rw [h2]
  exact congrArg _ (aft.next_same so (next_kn h)).symm
/-! ### Specs -/
structure CSigns (ρ : Env) : Prop where
  s940 : ∀ ss, ρ.f 940 ss = .bool (holdB (get ss 0).asInt (get ss 1).asBool (get ss 2).asBool (get ss 3).asBool (get ss 4).asBool)
  s942 : ∀ ss, ρ.f 942 ss = .int (nextI (get ss 0).asInt)
  s943 : ∀ ss, ρ.f 943 ss = .int (aftI (get ss 0).asInt ⟨(get ss 1).asInt, (get ss 2).asInt, (get ss 3).asInt, (get ss 4).asInt, (get ss 5).asInt, (get ss 6).asInt, (get ss 7).asInt, (get ss 8).asInt, (get ss 9).asBool⟩)
def holdPat : SVal := .cons (.int .i64 (.var 0)) (.cons (.agg (.cons (.bool (.var 1)) (.cons (.bool (.var 2)) (.cons (.bool (.var 3)) (.cons (.bool (.var 4)) .nil))))) .nil)
def nextPat : SVal := .cons (.int .i64 (.var 0)) .nil
def aftPat : SVal := .cons (.int .i64 (.var 0)) (.cons (.agg (.cons (.int .i64 (.var 1)) (.cons (.int .i64 (.var 2)) (.cons (.int .i64 (.var 3)) (.cons (.int .i64 (.var 4)) (.cons (.int .i64 (.var 5)) (.cons (.int .i64 (.var 6)) (.cons (.int .i64 (.var 7)) (.cons (.int .i64 (.var 8)) (.cons (.bool (.var 9)) .nil)))))))))) .nil)
def holdR (t : Tm) : SVal := .bool (.app 940 t)
def nextR (t : Tm) : SVal := .int .i64 (.app 942 t)
def aftR' (t : Tm) : SVal := .int .i64 (.app 943 t)
set_option maxRecDepth 100000 in
theorem hold_spec {ρ : Env} (V : VarsOk ρ) (S : CSigns ρ) {f : Nat} (A : cnd.All f) : ∀ args h pc x, (pc.den ρ).asBool = true → (specR holdPat holdR args h pc).get ρ = some x → CallOk ρ cx.globs cx.P f args h x := by
  refine ans_spec V (fun L => .bool (.bit (holdB (get L 0).asInt (get L 1).asBool (get L 2).asBool (get L 3).asBool (get L 4).asBool))) rfl (by intro u hu; simp [holdPat, SVal.toList] at hu; rcases hu with rfl | rfl <;> rfl) (fun _ => rfl) (fun _ => rfl) ?_ ?_
  · intro L hL hp ι
    match L, hL with
    | [a, b, c, d, e], _ =>
      obtain ⟨p0, _⟩ := hp
      exact hold_ans A p0 b.asBool c.asBool d.asBool e.asBool
  · intro L t ι ι' _ ht
    simp [holdR, SVal.conc, Tm.den, S.s940, ht]
set_option maxRecDepth 100000 in
theorem next_spec {ρ : Env} (V : VarsOk ρ) (S : CSigns ρ) {f : Nat} (A : ∀ it, kHas .i64 it → Ans f [.int .i64 it] (.int .i64 (nextI it))) : ∀ args h pc x, (pc.den ρ).asBool = true → (specR nextPat nextR args h pc).get ρ = some x → CallOk ρ cx.globs cx.P f args h x := by
  refine ans_spec V (fun L => .int .i64 (.num (nextI (get L 0).asInt))) rfl (by intro u hu; simp [nextPat, SVal.toList] at hu; subst hu; rfl) (fun _ => rfl) (fun _ => rfl) ?_ ?_
  · intro L hL hp ι
    match L, hL with
    | [a], _ =>
      obtain ⟨p0, _⟩ := hp
      exact A a.asInt p0
  · intro L t ι ι' _ ht
    simp [nextR, SVal.conc, Tm.den, S.s942, ht]
set_option maxRecDepth 100000 in
theorem aft_spec {ρ : Env} (V : VarsOk ρ) (S : CSigns ρ) {f : Nat} (A : ∀ (it : Int) (x : Fields), kHas .i64 it → x.Ok → Ans f [.int .i64 it, x.val] (.int .i64 (aftI it x))) : ∀ args h pc x, (pc.den ρ).asBool = true → (specR aftPat aftR' args h pc).get ρ = some x → CallOk ρ cx.globs cx.P f args h x := by
  refine ans_spec V (fun L => .int .i64 (.num (aftI (get L 0).asInt ⟨(get L 1).asInt, (get L 2).asInt, (get L 3).asInt, (get L 4).asInt, (get L 5).asInt, (get L 6).asInt, (get L 7).asInt, (get L 8).asInt, (get L 9).asBool⟩))) rfl (by intro u hu; simp [aftPat, SVal.toList] at hu; rcases hu with rfl | rfl <;> rfl) (fun _ => rfl) (fun _ => rfl) ?_ ?_
  · intro L hL hp ι
    match L, hL with
    | [a, b, c, d, e, f, g, h, i, j], _ =>
      obtain ⟨p0, ⟨p1, p2, p3, p4, p5, p6, p7, p8, _⟩, _⟩ := hp
      exact A a.asInt ⟨b.asInt, c.asInt, d.asInt, e.asInt, f.asInt, g.asInt, h.asInt, i.asInt, j.asBool⟩ p0 ⟨p1, p2, p3, p4, p5, p6, p7, p8⟩
  · intro L t ι ι' _ ht
    simp [aftR', SVal.conc, Tm.den, S.s943, ht]
end Go.Proofs.YthbdmlcbdibiiaaGreatDoor
/- For the seat: cartoucheref02's Valid and Expand at each number of twelve bits. -/
namespace Go.Proofs.YthbdmlcbdibiiaaGreatDoor
open Go.Sx Go.ChangeShapes Go.WideShapes Go.RowKit Go.Joins Go.Deep
namespace rex
def pat : List SVal := [.int .i64 (.var 0)]
def litC (k : Nat) : Cas := ⟨[.op2 .eq (.var 0) (.num (.ofNat k))], [(0, false, .num (.ofNat k))], []⟩
def kn : Kn := ((ex.kn.tell (.le 0 4095) true).tell (.le 0 (-1)) false).tell (.lit 0 63) false
noncomputable def expAt (k : Nat) : Bool := pxBoth sg (eqTree cx noS 3000 165 pat (.int .u32 ex.expT) (litC k)) kn
def all' : Cas := ⟨[], [], []⟩
set_option maxRecDepth 100000 in
theorem vals : pxBoth sg (eqTree cx noS 3000 164 pat (.bool ex.valT) all') kn = true := by kernel_rfl
end rex
end Go.Proofs.YthbdmlcbdibiiaaGreatDoor
/- For the seat: expand.Find by a walk: the least number of twelve bits that tells a number. -/
namespace Go.Proofs.YthbdmlcbdibiiaaGreatDoor
open Go.Sx Go.ChangeShapes Go.WideShapes Go.RowKit Go.Joins Go.Deep
set_option maxRecDepth 100000 in
theorem exp_inv (k : Int) (hk : kHas .i64 k) {K : Nat → Prop} {w0 : World} {ι : Nm} {w : World} (hI : Inv K w0 ι w) : Calls Tryz.prog 149 #[.int .i64 k] w fun e w' => e = .returned (.int .u32 (expI k)) ∧ Inv K w0 ι w' := by
  have S : Sats (envOf F [.int k]) ex.kn := by
    refine Sats.start (one_vars (s := .int k) hk) _ ?_
    intro i hi
    simp only [List.mem_cons, List.not_mem_nil, or_false] at hi
    subst hi
    exact ⟨_, rfl⟩
  obtain ⟨x', h1, h2⟩ := pxIs_ok (sg_ok' F_signs) _ _ S ex.exp_run
  have hc := call_ok (ρ := envOf F [.int k]) cxok (noS_ok _ _) (noS_body _) rfl h1
  have := hc K w0 ι w (inv_env hI _) (by intro v hv; simp at hv; subst hv; rfl)
  refine this.mono ?_
  rintro e w' ⟨ι', _, _, H, _, _, rfl⟩
  rw [h2]
  exact ⟨rfl, inv_of H⟩
set_option maxRecDepth 100000 in
theorem val_inv (k : Int) (hk : kHas .i64 k) {K : Nat → Prop} {w0 : World} {ι : Nm} {w : World} (hI : Inv K w0 ι w) : Calls Tryz.prog 148 #[.int .i64 k] w fun e w' => e = .returned (.bool (valB k)) ∧ Inv K w0 ι w' := by
  have S : Sats (envOf F [.int k]) ex.kn := by
    refine Sats.start (one_vars (s := .int k) hk) _ ?_
    intro i hi
    simp only [List.mem_cons, List.not_mem_nil, or_false] at hi
    subst hi
    exact ⟨_, rfl⟩
  obtain ⟨x', h1, h2⟩ := pxIs_ok (sg_ok' F_signs) _ _ S ex.val_run
  have hc := call_ok (ρ := envOf F [.int k]) cxok (noS_ok _ _) (noS_body _) rfl h1
  have := hc K w0 ι w (inv_env hI _) (by intro v hv; simp at hv; subst hv; rfl)
  refine this.mono ?_
  rintro e w' ⟨ι', _, _, H, _, _, rfl⟩
  rw [h2]
  exact ⟨rfl, inv_of H⟩
set_option maxHeartbeats 400000 in
set_option maxRecDepth 100000 in
theorem find_inv (x : Int) {K : Nat → Prop} {w0 : World} {ι : Nm} {w : World} (hI : Inv K w0 ι w) : Calls Tryz.prog 118 #[.int .u32 x] w (Fans x K w0 ι) := by
  go_enter Tryz.func118, Tryz.ntmps118
  go_wp2
  go_loopw [5] (fun i wr => Fnd x K w0 ι i wr) (fun i _ => 4096 - (intOf i).toNat)
  case atStart => exact ⟨0, by omega, rfl, (by intro j hj; omega), hI⟩
  case round =>
    obtain ⟨k, hk, rfl, hno, hr⟩ := hrel
    have HN := Lib.hid hno
    clear hno
    by_cases hlt : k < 4096
    · cases hv : valB k
      · have hh : hit x k = false := by unfold hit; rw [hv]; rfl
        have HH := Lib.hid hh
        clear hh
        go_wp2_with ((go_at_call 148; refine (val_inv _ (nat_has hk) hr).mono ?_; rintro e w' ⟨rfl, hr'⟩))
        go_roundw
        case rel => exact ⟨k + 1, by omega, by go_num, no_more HH.out HN.out, hr'⟩
        case measure => simp [intOf]; omega
      · cases he : (expI k == x)
        · have hh : hit x k = false := by unfold hit; rw [hv, he]; rfl
          have HH := Lib.hid hh
          clear hh
          go_wp2_with (first | ((go_at_call 148; refine (val_inv _ (nat_has hk) hr).mono ?_; rintro e w' ⟨rfl, hr'⟩)) | ((go_at_call 149; refine (exp_inv _ (nat_has hk) hr').mono ?_; rintro e w2 ⟨rfl, hr2⟩)))
          go_roundw
          case rel => exact ⟨k + 1, by omega, by go_num, no_more HH.out HN.out, hr2⟩
          case measure => simp [intOf]; omega
        · have hh : hit x k = true := by unfold hit; rw [hv, he]; rfl
          have HH := Lib.hid hh
          clear hh
          go_wp2_with (first | ((go_at_call 148; refine (val_inv _ (nat_has hk) hr).mono ?_; rintro e w' ⟨rfl, hr'⟩)) | ((go_at_call 149; refine (exp_inv _ (nat_has hk) hr').mono ?_; rintro e w2 ⟨rfl, hr2⟩)))
          go_ret2
          exact fans_hit hlt HH.out HN.out hr2
    · obtain rfl : k = 4096 := by omega
      go_wp2
      go_ret2
      exact fans_none HN.out hr
end Go.Proofs.YthbdmlcbdibiiaaGreatDoor
/- For the seat: expand.Find as signs. -/
namespace Go.Proofs.YthbdmlcbdibiiaaGreatDoor
open Go.Sx Go.ChangeShapes Go.WideShapes Go.RowKit Go.Joins Go.Deep
set_option maxRecDepth 100000 in
theorem find_call {ρ : Env} (V : VarsOk ρ) (h0 : ρ.f 910 = F2 910) (h1 : ρ.f 911 = F2 911) : ∀ args h pc x, (pc.den ρ).asBool = true → (specR wid.patU wid.findR args h pc).get ρ = some x → CallOk ρ cx.globs cx.P 118 args h x := by
  refine specR_ok V globsC rfl (by intro u hu; simp [wid.patU, SVal.toList] at hu; subst hu; rfl) (fun _ => rfl) ?_
  intro L hL hp
  match L, hL with
  | [s], _ =>
    refine ⟨envOf F [.int s.asInt], ⟨.tup (.cons (.int .i64 (.num (findI s.asInt))) (.cons (.bool (.bit (findB s.asInt))) .nil)), [], .bit true⟩, rfl, ?_, fun ι => rfl, ?_⟩
    · intro K w0 ι w H _
      refine (find_inv s.asInt (inv_of (ι' := ι) H)).mono ?_
      rintro e w' ⟨rfl, hI⟩
      exact ⟨ι, Nm.Ext.refl _ _, Nat.le_refl _, inv_env hI _, rfl, rfl, rfl⟩
    · intro t ι ι' ht
      simp only [SVal.conc, SVal.concL, wid.findR, Tm.den, ht, h0, h1]
      rfl
end Go.Proofs.YthbdmlcbdibiiaaGreatDoor
/- Shifts of both packages. -/
namespace Go.Proofs.YthbdmlcbdibiiaaGreatDoor
open Go.RowKit Go.Mem Go.Sx
def shStep (op : Int) (p : Int × Bool) : Int × Bool :=
  if op = 16 then (p.1 * 2 % 4294967296, p.1 / 2147483648 == 1)
  else if op = 17 then (p.1 / 2, p.1 % 2 == 1)
  else if op = 18 then (p.1 / 2 + p.1 / 2147483648 * 2147483648, p.1 % 2 == 1)
  else (p.1 / 2 + p.1 % 2 * 2147483648, p.1 % 2 == 1)
def shIter (op : Int) : Nat → Int × Bool → Int × Bool
  | 0, p => p
  | n + 1, p => shIter op n (shStep op p)
def shN (op n : Int) : Nat := if op < 16 ∨ 19 < op then 0 else if 64 < n then (if op = 19 then (32 + n % 32).toNat else 64) else n.toNat
def shR (op x n : Int) (c : Bool) : Int := (shIter op (shN op n) (x, c)).1 % 4294967296
def shC (op x n : Int) (c : Bool) : Bool := (shIter op (shN op n) (x, c)).2
set_option maxRecDepth 100000 in
theorem shR_small (op x n : Int) (c : Bool) : 0 ≤ shR op x n c ∧ shR op x n c < 4294967296 := by unfold shR; omega
structure ShSigns (ρ : Env) : Prop where
  s760 : ∀ ss, ρ.f 760 ss = .int (shR (get ss 0).asInt (get ss 1).asInt (get ss 2).asInt (get ss 3).asBool)
  s761 : ∀ ss, ρ.f 761 ss = .bool (shC (get ss 0).asInt (get ss 1).asInt (get ss 2).asInt (get ss 3).asBool)
def shPat : SVal := .cons (.int .i64 (.var 0)) (.cons (.int .u32 (.var 1)) (.cons (.int .i64 (.var 2)) (.cons (.bool (.var 3)) .nil)))
def shT (t : Tm) : SVal := .tup (.cons (.int .u32 (.app 760 t)) (.cons (.bool (.app 761 t)) .nil))
set_option maxRecDepth 100000 in
theorem sh_spec {ρ : Env} (V : VarsOk ρ) (S : ShSigns ρ) {f : FuncId} (hf : ∀ (op x n : Int) (c : Bool) (w : World), kHas .i64 op → 0 ≤ x → x < 4294967296 → kHas .i64 n → Calls Tryz.prog f #[.int .i64 op, .int .u32 x, .int .i64 n, .bool c] w fun e w' => e = .returned (.tuple #[.int .u32 (shR op x n c), .bool (shC op x n c)]) ∧ w = w') :
    ∀ args h pc x, (pc.den ρ).asBool = true → (specR shPat shT args h pc).get ρ = some x → CallOk ρ cx.globs cx.P f args h x := by
  refine ans_spec V (fun L => .tup (.cons (.int .u32 (.num (shR (get L 0).asInt (get L 1).asInt (get L 2).asInt (get L 3).asBool))) (.cons (.bool (.bit (shC (get L 0).asInt (get L 1).asInt (get L 2).asInt (get L 3).asBool))) .nil))) rfl (by intro u hu; simp [shPat, SVal.toList] at hu; rcases hu with rfl | rfl | rfl | rfl <;> rfl) (fun _ => rfl) (fun _ => rfl) ?_ ?_
  · intro L hL hp ι w hw
    match L, hL with
    | [a, b, c, d], _ =>
      obtain ⟨p0, p1, p2, _⟩ := hp
      refine (hf a.asInt b.asInt c.asInt d.asBool w p0 p1.1 p1.2 p2).mono ?_
      rintro e w' ⟨rfl, rfl⟩
      exact ⟨by simp [SVal.conc, SVal.concL, Tm.den, get], Below.refl _ _⟩
  · intro L t ι ι' _ ht
    simp [shT, SVal.conc, SVal.concL, Tm.den, S.s760, S.s761, ht]
/-! ### The reference's -/
set_option maxRecDepth 100000 in
theorem and_one32 {y : Int} (h0 : 0 ≤ y) (h1 : y < 4294967296) : bits .and .u32 y 1 = y % 2 := by
  obtain ⟨n, rfl⟩ := Int.eq_ofNat_of_zero_le h0
  have h := bitsOp_bit .u32 (fun a b => a &&& b) (· && ·) (by intro a b i _; simp) (n : Int) 1
  refine eq_of_has (k := .u32) (bitsOp_has .u32 (fun a b => a &&& b) _ _) (has32 (by omega) (by omega)) fun i hi => ?_
  rw [show bits .and .u32 (n : Int) 1 = bitsOp .u32 (fun a b => a &&& b) (n : Int) 1 from rfl, h i hi]
  have e1 : bitI 1 i = decide (i = 0) := by
    rw [show (1 : Int) = ((1 : Nat) : Int) from rfl, bitI_nat]
    cases i with
    | zero => rfl
    | succ i => simp [Nat.testBit_succ]
  rw [e1, bitI_nat]
  have e2 : ((n : Int) % 2) = ((n % 2 : Nat) : Int) := by omega
  rw [e2, bitI_nat]
  cases i with
  | zero => simp [Nat.testBit_zero]
  | succ i =>
    have : n % 2 / 2 = 0 := by omega
    simp [Nat.testBit_succ, this]
set_option maxRecDepth 100000 in
theorem or_top {a b : Int} (a0 : 0 ≤ a) (a1 : a < 2147483648) (b0 : 0 ≤ b) (b1 : b ≤ 1) : bits .or .u32 a (b * 2147483648) = a + b * 2147483648 := by
  rw [u32_or a (b * 2147483648) a0 (by omega) (by omega) (by omega)]
  obtain ⟨n, rfl⟩ := Int.eq_ofNat_of_zero_le a0
  obtain ⟨m, rfl⟩ := Int.eq_ofNat_of_zero_le b0
  have e : ((m : Int) * 2147483648).toNat = 2 ^ 31 * m := by omega
  rw [e, Int.toNat_natCast, Nat.or_comm, ← Nat.two_pow_add_eq_or_of_lt (by omega : n < 2 ^ 31)]
  omega
set_option maxRecDepth 100000 in
theorem step_small {op : Int} {p : Int × Bool} (h0 : 0 ≤ p.1) (h1 : p.1 < 4294967296) : 0 ≤ (shStep op p).1 ∧ (shStep op p).1 < 4294967296 := by
  unfold shStep
  split
  · simp only; omega
  · split
    · simp only; omega
    · split
      · simp only; omega
      · simp only; omega
set_option maxRecDepth 100000 in
theorem iter_small {op : Int} : ∀ (n : Nat) (p : Int × Bool), 0 ≤ p.1 → p.1 < 4294967296 → 0 ≤ (shIter op n p).1 ∧ (shIter op n p).1 < 4294967296
  | 0, _, h0, h1 => ⟨h0, h1⟩
  | n + 1, _, h0, h1 => iter_small n _ (step_small h0 h1).1 (step_small h0 h1).2
set_option maxRecDepth 100000 in
theorem shR_eq {op x n : Int} (c : Bool) (x0 : 0 ≤ x) (x1 : x < 4294967296) : shR op x n c = (shIter op (shN op n) (x, c)).1 := by
  have := iter_small (op := op) (shN op n) (x, c) x0 x1
  unfold shR
  omega
def rshN (op n : Int) : Int := if 64 < n then (if op = 19 then 32 + n % 32 else 64) else n
--WALKS
set_option maxRecDepth 100000 in
set_option maxHeartbeats 4000000 in
theorem rsh16 (x n : Int) (c : Bool) (w : World) (x0 : 0 ≤ x) (x1 : x < 4294967296) (hn1 : -9223372036854775808 ≤ n ∧ n < 9223372036854775808) : Calls Tryz.prog 83 #[.int .i64 16, .int .u32 x, .int .i64 n, .bool c] w fun e w' => e = .returned (.tuple #[.int .u32 (shIter 16 (rshN 16 n).toNat (x, c)).1, .bool (shIter 16 (rshN 16 n).toNat (x, c)).2]) ∧ w = w' := by
  by_cases h64 : 64 < n
  · have hr : rshN 16 n = (64 : Int) := by unfold rshN; rw [if_pos h64]; rfl
    have d64 : decide (64 < n) = true := decide_eq_true h64
    rw [hr]
    clear hr
    generalize hq : shIter 16 ((64 : Int)).toNat (x, c) = q
    go_enter Tryz.func83, Tryz.ntmps83
    go_wp2
    go_loop [1, 2, 3] (fun u k d => ∃ (j y : Int) (b : Bool), k = .int .i64 j ∧ u = .int .u32 y ∧ d = .bool b ∧ 0 ≤ y ∧ y < 4294967296 ∧ -9223372036854775808 ≤ j ∧ j < 9223372036854775808 ∧ Hid (shIter 16 j.toNat (y, b) = q)) (fun _ k _ => (intOf k).toNat)
    case atStart => exact ⟨_, x, c, rfl, rfl, rfl, x0, x1, by omega, by omega, Lib.hid hq⟩
    case round =>
      obtain ⟨j, y, b, rfl, rfl, rfl, y0, y1, j0, j1, HJ⟩ := hrel
      by_cases hj : 0 < j
      · have hnew : Hid (shIter 16 (j - 1).toNat (y * 2 % 4294967296, y / 2147483648 == 1) = q) := by
          have e1 := HJ.out
          obtain ⟨m, hm1⟩ : ∃ m, j.toNat = m + 1 := ⟨j.toNat - 1, by omega⟩
          have hm2 : (j - 1).toNat = m := by omega
          rw [hm1] at e1
          rw [hm2]
          exact e1
        clear HJ
        go_wp2
        go_round
        case rel => exact ⟨_, _, _, rfl, rfl, rfl, by omega, by omega, by omega, by omega, hnew⟩
        case measure => simp [intOf]; omega
      · have e0 : j.toNat = 0 := by omega
        have e1 := HJ.out
        rw [e0] at e1
        have E := Lib.hid e1
        clear e1 HJ
        go_wp2
        go_ret2
        rw [← E.out]
        exact ⟨rfl, rfl⟩
  · have hr : rshN 16 n = n := by unfold rshN; rw [if_neg h64]
    have d64 : decide (64 < n) = false := decide_eq_false h64
    rw [hr]
    clear hr
    generalize hq : shIter 16 (n).toNat (x, c) = q
    go_enter Tryz.func83, Tryz.ntmps83
    go_wp2
    go_loop [1, 2, 3] (fun u k d => ∃ (j y : Int) (b : Bool), k = .int .i64 j ∧ u = .int .u32 y ∧ d = .bool b ∧ 0 ≤ y ∧ y < 4294967296 ∧ -9223372036854775808 ≤ j ∧ j < 9223372036854775808 ∧ Hid (shIter 16 j.toNat (y, b) = q)) (fun _ k _ => (intOf k).toNat)
    case atStart => exact ⟨_, x, c, rfl, rfl, rfl, x0, x1, by omega, by omega, Lib.hid hq⟩
    case round =>
      obtain ⟨j, y, b, rfl, rfl, rfl, y0, y1, j0, j1, HJ⟩ := hrel
      by_cases hj : 0 < j
      · have hnew : Hid (shIter 16 (j - 1).toNat (y * 2 % 4294967296, y / 2147483648 == 1) = q) := by
          have e1 := HJ.out
          obtain ⟨m, hm1⟩ : ∃ m, j.toNat = m + 1 := ⟨j.toNat - 1, by omega⟩
          have hm2 : (j - 1).toNat = m := by omega
          rw [hm1] at e1
          rw [hm2]
          exact e1
        clear HJ
        go_wp2
        go_round
        case rel => exact ⟨_, _, _, rfl, rfl, rfl, by omega, by omega, by omega, by omega, hnew⟩
        case measure => simp [intOf]; omega
      · have e0 : j.toNat = 0 := by omega
        have e1 := HJ.out
        rw [e0] at e1
        have E := Lib.hid e1
        clear e1 HJ
        go_wp2
        go_ret2
        rw [← E.out]
        exact ⟨rfl, rfl⟩
set_option maxRecDepth 100000 in
set_option maxHeartbeats 4000000 in
theorem rsh17 (x n : Int) (c : Bool) (w : World) (x0 : 0 ≤ x) (x1 : x < 4294967296) (hn1 : -9223372036854775808 ≤ n ∧ n < 9223372036854775808) : Calls Tryz.prog 83 #[.int .i64 17, .int .u32 x, .int .i64 n, .bool c] w fun e w' => e = .returned (.tuple #[.int .u32 (shIter 17 (rshN 17 n).toNat (x, c)).1, .bool (shIter 17 (rshN 17 n).toNat (x, c)).2]) ∧ w = w' := by
  by_cases h64 : 64 < n
  · have hr : rshN 17 n = (64 : Int) := by unfold rshN; rw [if_pos h64]; rfl
    have d64 : decide (64 < n) = true := decide_eq_true h64
    rw [hr]
    clear hr
    generalize hq : shIter 17 ((64 : Int)).toNat (x, c) = q
    go_enter Tryz.func83, Tryz.ntmps83
    go_wp2
    go_loop [1, 2, 3] (fun u k d => ∃ (j y : Int) (b : Bool), k = .int .i64 j ∧ u = .int .u32 y ∧ d = .bool b ∧ 0 ≤ y ∧ y < 4294967296 ∧ -9223372036854775808 ≤ j ∧ j < 9223372036854775808 ∧ Hid (shIter 17 j.toNat (y, b) = q)) (fun _ k _ => (intOf k).toNat)
    case atStart => exact ⟨_, x, c, rfl, rfl, rfl, x0, x1, by omega, by omega, Lib.hid hq⟩
    case round =>
      obtain ⟨j, y, b, rfl, rfl, rfl, y0, y1, j0, j1, HJ⟩ := hrel
      by_cases hj : 0 < j
      · have hnew : Hid (shIter 17 (j - 1).toNat (y / 2, y % 2 == 1) = q) := by
          have e1 := HJ.out
          obtain ⟨m, hm1⟩ : ∃ m, j.toNat = m + 1 := ⟨j.toNat - 1, by omega⟩
          have hm2 : (j - 1).toNat = m := by omega
          rw [hm1] at e1
          rw [hm2]
          exact e1
        clear HJ
        have ha := and_one32 y0 y1
        go_wp2
        go_round
        case rel => exact ⟨_, _, _, rfl, rfl, rfl, by omega, by omega, by omega, by omega, hnew⟩
        case measure => simp [intOf]; omega
      · have e0 : j.toNat = 0 := by omega
        have e1 := HJ.out
        rw [e0] at e1
        have E := Lib.hid e1
        clear e1 HJ
        go_wp2
        go_ret2
        rw [← E.out]
        exact ⟨rfl, rfl⟩
  · have hr : rshN 17 n = n := by unfold rshN; rw [if_neg h64]
    have d64 : decide (64 < n) = false := decide_eq_false h64
    rw [hr]
    clear hr
    generalize hq : shIter 17 (n).toNat (x, c) = q
    go_enter Tryz.func83, Tryz.ntmps83
    go_wp2
    go_loop [1, 2, 3] (fun u k d => ∃ (j y : Int) (b : Bool), k = .int .i64 j ∧ u = .int .u32 y ∧ d = .bool b ∧ 0 ≤ y ∧ y < 4294967296 ∧ -9223372036854775808 ≤ j ∧ j < 9223372036854775808 ∧ Hid (shIter 17 j.toNat (y, b) = q)) (fun _ k _ => (intOf k).toNat)
    case atStart => exact ⟨_, x, c, rfl, rfl, rfl, x0, x1, by omega, by omega, Lib.hid hq⟩
    case round =>
      obtain ⟨j, y, b, rfl, rfl, rfl, y0, y1, j0, j1, HJ⟩ := hrel
      by_cases hj : 0 < j
      · have hnew : Hid (shIter 17 (j - 1).toNat (y / 2, y % 2 == 1) = q) := by
          have e1 := HJ.out
          obtain ⟨m, hm1⟩ : ∃ m, j.toNat = m + 1 := ⟨j.toNat - 1, by omega⟩
          have hm2 : (j - 1).toNat = m := by omega
          rw [hm1] at e1
          rw [hm2]
          exact e1
        clear HJ
        have ha := and_one32 y0 y1
        go_wp2
        go_round
        case rel => exact ⟨_, _, _, rfl, rfl, rfl, by omega, by omega, by omega, by omega, hnew⟩
        case measure => simp [intOf]; omega
      · have e0 : j.toNat = 0 := by omega
        have e1 := HJ.out
        rw [e0] at e1
        have E := Lib.hid e1
        clear e1 HJ
        go_wp2
        go_ret2
        rw [← E.out]
        exact ⟨rfl, rfl⟩
set_option maxRecDepth 100000 in
set_option maxHeartbeats 4000000 in
theorem rsh18 (x n : Int) (c : Bool) (w : World) (x0 : 0 ≤ x) (x1 : x < 4294967296) (hn1 : -9223372036854775808 ≤ n ∧ n < 9223372036854775808) : Calls Tryz.prog 83 #[.int .i64 18, .int .u32 x, .int .i64 n, .bool c] w fun e w' => e = .returned (.tuple #[.int .u32 (shIter 18 (rshN 18 n).toNat (x, c)).1, .bool (shIter 18 (rshN 18 n).toNat (x, c)).2]) ∧ w = w' := by
  by_cases h64 : 64 < n
  · have hr : rshN 18 n = (64 : Int) := by unfold rshN; rw [if_pos h64]; rfl
    have d64 : decide (64 < n) = true := decide_eq_true h64
    rw [hr]
    clear hr
    generalize hq : shIter 18 ((64 : Int)).toNat (x, c) = q
    go_enter Tryz.func83, Tryz.ntmps83
    go_wp2
    go_loop [1, 2, 3] (fun u k d => ∃ (j y : Int) (b : Bool), k = .int .i64 j ∧ u = .int .u32 y ∧ d = .bool b ∧ 0 ≤ y ∧ y < 4294967296 ∧ -9223372036854775808 ≤ j ∧ j < 9223372036854775808 ∧ Hid (shIter 18 j.toNat (y, b) = q)) (fun _ k _ => (intOf k).toNat)
    case atStart => exact ⟨_, x, c, rfl, rfl, rfl, x0, x1, by omega, by omega, Lib.hid hq⟩
    case round =>
      obtain ⟨j, y, b, rfl, rfl, rfl, y0, y1, j0, j1, HJ⟩ := hrel
      by_cases hj : 0 < j
      · have hnew : Hid (shIter 18 (j - 1).toNat (y / 2 + y / 2147483648 * 2147483648, y % 2 == 1) = q) := by
          have e1 := HJ.out
          obtain ⟨m, hm1⟩ : ∃ m, j.toNat = m + 1 := ⟨j.toNat - 1, by omega⟩
          have hm2 : (j - 1).toNat = m := by omega
          rw [hm1] at e1
          rw [hm2]
          exact e1
        clear HJ
        have ha := and_one32 y0 y1
        have hb := or_top (a := y / 2) (b := y / 2147483648) (by omega) (by omega) (by omega) (by omega)
        go_wp2
        go_round
        case rel => exact ⟨_, _, _, rfl, rfl, rfl, by omega, by omega, by omega, by omega, hnew⟩
        case measure => simp [intOf]; omega
      · have e0 : j.toNat = 0 := by omega
        have e1 := HJ.out
        rw [e0] at e1
        have E := Lib.hid e1
        clear e1 HJ
        go_wp2
        go_ret2
        rw [← E.out]
        exact ⟨rfl, rfl⟩
  · have hr : rshN 18 n = n := by unfold rshN; rw [if_neg h64]
    have d64 : decide (64 < n) = false := decide_eq_false h64
    rw [hr]
    clear hr
    generalize hq : shIter 18 (n).toNat (x, c) = q
    go_enter Tryz.func83, Tryz.ntmps83
    go_wp2
    go_loop [1, 2, 3] (fun u k d => ∃ (j y : Int) (b : Bool), k = .int .i64 j ∧ u = .int .u32 y ∧ d = .bool b ∧ 0 ≤ y ∧ y < 4294967296 ∧ -9223372036854775808 ≤ j ∧ j < 9223372036854775808 ∧ Hid (shIter 18 j.toNat (y, b) = q)) (fun _ k _ => (intOf k).toNat)
    case atStart => exact ⟨_, x, c, rfl, rfl, rfl, x0, x1, by omega, by omega, Lib.hid hq⟩
    case round =>
      obtain ⟨j, y, b, rfl, rfl, rfl, y0, y1, j0, j1, HJ⟩ := hrel
      by_cases hj : 0 < j
      · have hnew : Hid (shIter 18 (j - 1).toNat (y / 2 + y / 2147483648 * 2147483648, y % 2 == 1) = q) := by
          have e1 := HJ.out
          obtain ⟨m, hm1⟩ : ∃ m, j.toNat = m + 1 := ⟨j.toNat - 1, by omega⟩
          have hm2 : (j - 1).toNat = m := by omega
          rw [hm1] at e1
          rw [hm2]
          exact e1
        clear HJ
        have ha := and_one32 y0 y1
        have hb := or_top (a := y / 2) (b := y / 2147483648) (by omega) (by omega) (by omega) (by omega)
        go_wp2
        go_round
        case rel => exact ⟨_, _, _, rfl, rfl, rfl, by omega, by omega, by omega, by omega, hnew⟩
        case measure => simp [intOf]; omega
      · have e0 : j.toNat = 0 := by omega
        have e1 := HJ.out
        rw [e0] at e1
        have E := Lib.hid e1
        clear e1 HJ
        go_wp2
        go_ret2
        rw [← E.out]
        exact ⟨rfl, rfl⟩
set_option maxRecDepth 100000 in
set_option maxHeartbeats 4000000 in
theorem rsh19 (x n : Int) (c : Bool) (w : World) (x0 : 0 ≤ x) (x1 : x < 4294967296) (hn1 : -9223372036854775808 ≤ n ∧ n < 9223372036854775808) : Calls Tryz.prog 83 #[.int .i64 19, .int .u32 x, .int .i64 n, .bool c] w fun e w' => e = .returned (.tuple #[.int .u32 (shIter 19 (rshN 19 n).toNat (x, c)).1, .bool (shIter 19 (rshN 19 n).toNat (x, c)).2]) ∧ w = w' := by
  by_cases h64 : 64 < n
  · have hr : rshN 19 n = 32 + n % 32 := by unfold rshN; rw [if_pos h64]; rfl
    have d64 : decide (64 < n) = true := decide_eq_true h64
    have hm : n.tmod 32 = n % 32 := Int.tmod_eq_emod_of_nonneg (by omega)
    rw [hr]
    clear hr
    generalize hq : shIter 19 (32 + n % 32).toNat (x, c) = q
    go_enter Tryz.func83, Tryz.ntmps83
    go_wp2
    go_loop [1, 2, 3] (fun u k d => ∃ (j y : Int) (b : Bool), k = .int .i64 j ∧ u = .int .u32 y ∧ d = .bool b ∧ 0 ≤ y ∧ y < 4294967296 ∧ -9223372036854775808 ≤ j ∧ j < 9223372036854775808 ∧ Hid (shIter 19 j.toNat (y, b) = q)) (fun _ k _ => (intOf k).toNat)
    case atStart => exact ⟨_, x, c, rfl, rfl, rfl, x0, x1, by omega, by omega, Lib.hid hq⟩
    case round =>
      obtain ⟨j, y, b, rfl, rfl, rfl, y0, y1, j0, j1, HJ⟩ := hrel
      by_cases hj : 0 < j
      · have hnew : Hid (shIter 19 (j - 1).toNat (y / 2 + y % 2 * 2147483648, y % 2 == 1) = q) := by
          have e1 := HJ.out
          obtain ⟨m, hm1⟩ : ∃ m, j.toNat = m + 1 := ⟨j.toNat - 1, by omega⟩
          have hm2 : (j - 1).toNat = m := by omega
          rw [hm1] at e1
          rw [hm2]
          exact e1
        clear HJ
        have ha := and_one32 y0 y1
        have hb := or_top (a := y / 2) (b := y % 2) (by omega) (by omega) (by omega) (by omega)
        have hc : y * 2147483648 % 4294967296 = y % 2 * 2147483648 := by omega
        go_wp2
        go_round
        case rel => exact ⟨_, _, _, rfl, rfl, rfl, by omega, by omega, by omega, by omega, hnew⟩
        case measure => simp [intOf]; omega
      · have e0 : j.toNat = 0 := by omega
        have e1 := HJ.out
        rw [e0] at e1
        have E := Lib.hid e1
        clear e1 HJ
        go_wp2
        go_ret2
        rw [← E.out]
        exact ⟨rfl, rfl⟩
  · have hr : rshN 19 n = n := by unfold rshN; rw [if_neg h64]
    have d64 : decide (64 < n) = false := decide_eq_false h64
    rw [hr]
    clear hr
    generalize hq : shIter 19 (n).toNat (x, c) = q
    go_enter Tryz.func83, Tryz.ntmps83
    go_wp2
    go_loop [1, 2, 3] (fun u k d => ∃ (j y : Int) (b : Bool), k = .int .i64 j ∧ u = .int .u32 y ∧ d = .bool b ∧ 0 ≤ y ∧ y < 4294967296 ∧ -9223372036854775808 ≤ j ∧ j < 9223372036854775808 ∧ Hid (shIter 19 j.toNat (y, b) = q)) (fun _ k _ => (intOf k).toNat)
    case atStart => exact ⟨_, x, c, rfl, rfl, rfl, x0, x1, by omega, by omega, Lib.hid hq⟩
    case round =>
      obtain ⟨j, y, b, rfl, rfl, rfl, y0, y1, j0, j1, HJ⟩ := hrel
      by_cases hj : 0 < j
      · have hnew : Hid (shIter 19 (j - 1).toNat (y / 2 + y % 2 * 2147483648, y % 2 == 1) = q) := by
          have e1 := HJ.out
          obtain ⟨m, hm1⟩ : ∃ m, j.toNat = m + 1 := ⟨j.toNat - 1, by omega⟩
          have hm2 : (j - 1).toNat = m := by omega
          rw [hm1] at e1
          rw [hm2]
          exact e1
        clear HJ
        have ha := and_one32 y0 y1
        have hb := or_top (a := y / 2) (b := y % 2) (by omega) (by omega) (by omega) (by omega)
        have hc : y * 2147483648 % 4294967296 = y % 2 * 2147483648 := by omega
        go_wp2
        go_round
        case rel => exact ⟨_, _, _, rfl, rfl, rfl, by omega, by omega, by omega, by omega, hnew⟩
        case measure => simp [intOf]; omega
      · have e0 : j.toNat = 0 := by omega
        have e1 := HJ.out
        rw [e0] at e1
        have E := Lib.hid e1
        clear e1 HJ
        go_wp2
        go_ret2
        rw [← E.out]
        exact ⟨rfl, rfl⟩
--END
set_option maxRecDepth 100000 in
theorem shR_any (op x n : Int) (c : Bool) (w : World) (ho : kHas .i64 op) (x0 : 0 ≤ x) (x1 : x < 4294967296) (hn : kHas .i64 n) : Calls Tryz.prog 83 #[.int .i64 op, .int .u32 x, .int .i64 n, .bool c] w fun e w' => e = .returned (.tuple #[.int .u32 (shR op x n c), .bool (shC op x n c)]) ∧ w = w' := by
  have hn1 : -9223372036854775808 ≤ n ∧ n < 9223372036854775808 := hn
  have ho1 : -9223372036854775808 ≤ op ∧ op < 9223372036854775808 := ho
  clear hn ho
  rw [shR_eq c x0 x1]
  unfold shC
  by_cases h1 : op < 16
  · have e : shN op n = 0 := by unfold shN; rw [if_pos (.inl h1)]
    rw [e]
    have d1 : decide (op < 16) = true := decide_eq_true h1
    go_enter Tryz.func83, Tryz.ntmps83
    go_wp2
    go_ret2
    exact ⟨rfl, rfl⟩
  by_cases h2 : 19 < op
  · have e : shN op n = 0 := by unfold shN; rw [if_pos (.inr h2)]
    rw [e]
    have d1 : decide (op < 16) = false := decide_eq_false h1
    have d2 : decide (19 < op) = true := decide_eq_true h2
    go_enter Tryz.func83, Tryz.ntmps83
    go_wp2
    go_ret2
    exact ⟨rfl, rfl⟩
  have hop : op = 16 ∨ op = 17 ∨ op = 18 ∨ op = 19 := by omega
  have hN : shN op n = (rshN op n).toNat := by
    unfold shN rshN
    rw [if_neg (by omega)]
    split
    · split <;> rfl
    · rfl
  rw [hN]
  rcases hop with rfl | rfl | rfl | rfl
  · exact rsh16 x n c w x0 x1 hn1
  · exact rsh17 x n c w x0 x1 hn1
  · exact rsh18 x n c w x0 x1 hn1
  · exact rsh19 x n c w x0 x1 hn1
/-! ### The other one's -/
set_option maxRecDepth 100000 in
theorem iter_snoc (op : Int) : ∀ (n : Nat) (p : Int × Bool), shIter op (n + 1) p = shStep op (shIter op n p)
  | 0, _ => rfl
  | n + 1, p => by rw [shIter, iter_snoc op n]; rfl
set_option maxRecDepth 100000 in
theorem iter_add (op : Int) (b : Nat) : ∀ (a : Nat) (p : Int × Bool), shIter op (a + b) p = shIter op b (shIter op a p)
  | 0, p => by rw [Nat.zero_add]; rfl
  | a + 1, p => by rw [Nat.add_right_comm, shIter, iter_add op b a]; rfl
set_option maxRecDepth 100000 in
theorem it16 (x : Int) (c : Bool) (x0 : 0 ≤ x) (x1 : x < 4294967296) : ∀ m, (shIter 16 m (x, c)).1 = x * 2 ^ m % 4294967296
  | 0 => by show x = x * 1 % 4294967296; omega
  | m + 1 => by
    rw [iter_snoc, Int.pow_succ, ← Int.mul_assoc]
    show (shIter 16 m (x, c)).1 * 2 % 4294967296 = _
    rw [it16 x c x0 x1 m]
    generalize x * 2 ^ m = y
    omega
set_option maxRecDepth 100000 in
theorem ca16 (x : Int) (c : Bool) (x0 : 0 ≤ x) (x1 : x < 4294967296) (m : Nat) : (shIter 16 (m + 1) (x, c)).2 = (x * 2 ^ m % 4294967296 / 2147483648 == 1) := by
  rw [iter_snoc]
  show ((shIter 16 m (x, c)).1 / 2147483648 == 1) = _
  rw [it16 x c x0 x1 m]
set_option maxRecDepth 100000 in
theorem half_pow (x : Int) (m : Nat) : x / 2 ^ (m + 1) = x / 2 ^ m / 2 := by
  rw [Int.pow_succ, Int.ediv_ediv_of_nonneg (Int.le_of_lt (Int.pow_pos (by omega)))]
set_option maxRecDepth 100000 in
theorem it17 (x : Int) (c : Bool) : ∀ m, (shIter 17 m (x, c)).1 = x / 2 ^ m
  | 0 => by show x = x / 1; omega
  | m + 1 => by
    rw [iter_snoc, half_pow]
    show (shIter 17 m (x, c)).1 / 2 = _
    rw [it17 x c m]
set_option maxRecDepth 100000 in
theorem ca17 (x : Int) (c : Bool) (m : Nat) : (shIter 17 (m + 1) (x, c)).2 = (x / 2 ^ m % 2 == 1) := by
  rw [iter_snoc]
  show ((shIter 17 m (x, c)).1 % 2 == 1) = _
  rw [it17 x c m]
set_option maxRecDepth 100000 in
theorem div_bound {t : Int} (m : Nat) (h1 : -2147483648 ≤ t) (h2 : t < 2147483648) : -2147483648 ≤ t / 2 ^ m ∧ t / 2 ^ m < 2147483648 := by
  have hp : (0 : Int) < 2 ^ m := Int.pow_pos (by omega)
  constructor
  · rw [Int.le_ediv_iff_mul_le hp]
    have : (2147483648 : Int) * 1 ≤ 2147483648 * 2 ^ m := Int.mul_le_mul_of_nonneg_left (by omega) (by omega)
    rw [Int.neg_mul]
    omega
  · apply Int.ediv_lt_of_lt_mul hp
    have : (2147483648 : Int) * 1 ≤ 2147483648 * 2 ^ m := Int.mul_le_mul_of_nonneg_left (by omega) (by omega)
    omega
set_option maxRecDepth 100000 in
theorem s32_mod {x : Int} (x0 : 0 ≤ x) (x1 : x < 4294967296) : s32 x % 4294967296 = x := by unfold s32; split <;> omega
set_option maxRecDepth 100000 in
theorem it18 (x : Int) (c : Bool) (x0 : 0 ≤ x) (x1 : x < 4294967296) : ∀ m, (shIter 18 m (x, c)).1 = s32 x / 2 ^ m % 4294967296
  | 0 => by
    show x = s32 x / 1 % 4294967296
    rw [Int.ediv_one, s32_mod x0 x1]
  | m + 1 => by
    have hb := s32_small x x0 x1
    have hd := div_bound m hb.1 hb.2
    rw [iter_snoc, half_pow]
    show (shIter 18 m (x, c)).1 / 2 + (shIter 18 m (x, c)).1 / 2147483648 * 2147483648 = _
    rw [it18 x c x0 x1 m]
    generalize s32 x / 2 ^ m = t at *
    omega
set_option maxRecDepth 100000 in
theorem ca18 (x : Int) (c : Bool) (x0 : 0 ≤ x) (x1 : x < 4294967296) (m : Nat) : (shIter 18 (m + 1) (x, c)).2 = (s32 x / 2 ^ m % 2 == 1) := by
  rw [iter_snoc]
  show ((shIter 18 m (x, c)).1 % 2 == 1) = _
  rw [it18 x c x0 x1 m]
  generalize s32 x / 2 ^ m = t
  have e : t % 4294967296 % 2 = t % 2 := by omega
  rw [e]
def rotL (x : Int) : Nat → Int
  | 0 => x
  | r + 1 => rotL x r / 2 + rotL x r % 2 * 2147483648
set_option maxRecDepth 100000 in
theorem it19 (x : Int) (c : Bool) : ∀ m, (shIter 19 m (x, c)).1 = rotL x m
  | 0 => rfl
  | m + 1 => by
    rw [iter_snoc]
    show (shIter 19 m (x, c)).1 / 2 + (shIter 19 m (x, c)).1 % 2 * 2147483648 = _
    rw [it19 x c m]
    rfl
set_option maxRecDepth 100000 in
theorem ca19 (x : Int) (c : Bool) (m : Nat) : (shIter 19 (m + 1) (x, c)).2 = (rotL x m % 2 == 1) := by
  rw [iter_snoc]
  show ((shIter 19 m (x, c)).1 % 2 == 1) = _
  rw [it19 x c m]
set_option maxRecDepth 100000 in
theorem rotL_small {x : Int} (x0 : 0 ≤ x) (x1 : x < 4294967296) (m : Nat) : 0 ≤ rotL x m ∧ rotL x m < 4294967296 := by
  rw [← it19 x false m]
  exact iter_small m _ x0 x1
def rotC (x : Int) (r : Nat) : Int := x / 2 ^ r + x % 2 ^ r * 2 ^ (32 - r)
set_option maxRecDepth 100000 in
theorem rot_step {x : Int} (_x0 : 0 ≤ x) (_x1 : x < 4294967296) (r : Nat) (hr : r < 32) : rotC x (r + 1) = rotC x r / 2 + rotC x r % 2 * 2147483648 := by
  unfold rotC
  have h : r = 0 ∨ r = 1 ∨ r = 2 ∨ r = 3 ∨ r = 4 ∨ r = 5 ∨ r = 6 ∨ r = 7 ∨ r = 8 ∨ r = 9 ∨ r = 10 ∨ r = 11 ∨ r = 12 ∨ r = 13 ∨ r = 14 ∨ r = 15 ∨ r = 16 ∨ r = 17 ∨ r = 18 ∨ r = 19 ∨ r = 20 ∨ r = 21 ∨ r = 22 ∨ r = 23 ∨ r = 24 ∨ r = 25 ∨ r = 26 ∨ r = 27 ∨ r = 28 ∨ r = 29 ∨ r = 30 ∨ r = 31 := by omega
  rcases h with rfl | rfl | rfl | rfl | rfl | rfl | rfl | rfl | rfl | rfl | rfl | rfl | rfl | rfl | rfl | rfl | rfl | rfl | rfl | rfl | rfl | rfl | rfl | rfl | rfl | rfl | rfl | rfl | rfl | rfl | rfl | rfl
  all_goals
    simp only [Nat.reduceAdd, Nat.reduceSub, Int.reducePow]
    omega
set_option maxRecDepth 100000 in
theorem rotL_C {x : Int} (x0 : 0 ≤ x) (x1 : x < 4294967296) : ∀ r, r ≤ 32 → rotL x r = rotC x r
  | 0, _ => by show x = x / 1 + x % 1 * 4294967296; omega
  | r + 1, h => by
    rw [rot_step x0 x1 r (by omega), ← rotL_C x0 x1 r (by omega)]
    rfl
set_option maxRecDepth 100000 in
theorem rotL_32 {x : Int} (x0 : 0 ≤ x) (x1 : x < 4294967296) : rotL x 32 = x := by
  rw [rotL_C x0 x1 32 (by omega)]
  show x / 4294967296 + x % 4294967296 * 1 = x
  omega
set_option maxRecDepth 100000 in
theorem rotL_more {x : Int} (x0 : 0 ≤ x) (x1 : x < 4294967296) (r : Nat) : rotL x (32 + r) = rotL x r := by
  rw [← it19 x false (32 + r), iter_add]
  have e : shIter 19 32 (x, false) = (x, (shIter 19 32 (x, false)).2) := by
    apply Prod.ext
    · rw [it19, rotL_32 x0 x1]
    · rfl
  rw [e, it19]
set_option maxRecDepth 100000 in
theorem and_one64 {y : Int} (h0 : 0 ≤ y) (h1 : y < 18446744073709551616) : bits .and .u64 y 1 = y % 2 := by
  obtain ⟨n, rfl⟩ := Int.eq_ofNat_of_zero_le h0
  have h := bitsOp_bit .u64 (fun a b => a &&& b) (· && ·) (by intro a b i _; simp) (n : Int) 1
  have hm : ((n : Int) % 2) = ((n % 2 : Nat) : Int) := by omega
  refine eq_of_has (k := .u64) (bitsOp_has .u64 (fun a b => a &&& b) _ _) (show (0 : Int) ≤ _ ∧ _ < (2 : Int) ^ 64 by rw [hm]; omega) fun i hi => ?_
  rw [show bits .and .u64 (n : Int) 1 = bitsOp .u64 (fun a b => a &&& b) (n : Int) 1 from rfl, h i hi]
  have e1 : bitI 1 i = decide (i = 0) := by
    rw [show (1 : Int) = ((1 : Nat) : Int) from rfl, bitI_nat]
    cases i with
    | zero => rfl
    | succ i => simp [Nat.testBit_succ]
  rw [e1, bitI_nat, hm, bitI_nat]
  cases i with
  | zero => simp [Nat.testBit_zero]
  | succ i =>
    have : n % 2 / 2 = 0 := by omega
    simp [Nat.testBit_succ, this]
set_option maxRecDepth 100000 in
theorem left_ok {x : Int} (c : Bool) (x0 : 0 ≤ x) (x1 : x < 4294967296) {n : Int} (h1 : 0 < n) (m : Nat) (hm : m + 1 = if 64 < n then 64 else n.toNat) :
    IntKind.u64.wrap (x * 2 ^ (min n 33).toNat) % 4294967296 = (shIter 16 (m + 1) (x, c)).1 ∧ (bits .and .u64 (IntKind.u64.wrap (x * 2 ^ (min n 33).toNat) / 4294967296) 1 == 1) = (shIter 16 (m + 1) (x, c)).2 := by
  have w : ∀ z, IntKind.u64.wrap z = z % 18446744073709551616 := fun _ => rfl
  rw [it16 x c x0 x1, ca16 x c x0 x1, w]
  rw [and_one64 (by omega) (by omega)]
  by_cases h : n ≤ 33
  · have e : (min n 33).toNat = m + 1 := by
      rw [if_neg (by omega)] at hm
      omega
    rw [e, Int.pow_succ, ← Int.mul_assoc]
    have hp : 0 ≤ x * 2 ^ m := Int.mul_nonneg x0 (Int.le_of_lt (Int.pow_pos (by omega)))
    generalize x * 2 ^ m = y at *
    refine ⟨by omega, ?_⟩
    rw [Bool.eq_iff_iff]
    simp
    omega
  · have e : (min n 33).toNat = 33 := by omega
    obtain ⟨r, rfl⟩ : ∃ r, m = 33 + r := ⟨m - 33, by
      have : 34 ≤ m + 1 := by rw [hm]; split <;> omega
      omega⟩
    have e2 : x * 2 ^ (33 + r) = x * 2 ^ r * 8589934592 := by
      rw [Int.pow_add, show (2 : Int) ^ 33 = 8589934592 from rfl, Int.mul_comm 8589934592, Int.mul_assoc]
    rw [e, show (2 : Int) ^ 33 = 8589934592 from rfl, Int.pow_succ, ← Int.mul_assoc, e2]
    generalize x * 2 ^ r = y
    refine ⟨by omega, ?_⟩
    rw [Bool.eq_iff_iff]
    simp
    omega
set_option maxRecDepth 100000 in
theorem shP_far (op x n : Int) (c : Bool) (w : World) (h : op < 16 ∨ 19 < op ∨ n ≤ 0) : Calls Tryz.prog 119 #[.int .i64 op, .int .u32 x, .int .i64 n, .bool c] w fun e w' => e = .returned (.tuple #[.int .u32 x, .bool c]) ∧ w = w' := by
  by_cases h0 : n ≤ 0
  · have d0 : decide (n ≤ 0) = true := decide_eq_true h0
    go_enter Tryz.func119, Tryz.ntmps119
    go_wp2
    go_ret2
    exact ⟨rfl, rfl⟩
  · have d0 : decide (n ≤ 0) = false := decide_eq_false h0
    have d1 : (op == 16) = false := by simp; omega
    have d2 : (op == 17) = false := by simp; omega
    have d3 : (op == 18) = false := by simp; omega
    have d4 : (op == 19) = false := by simp; omega
    go_enter Tryz.func119, Tryz.ntmps119
    go_wp2
    go_ret2
    exact ⟨rfl, rfl⟩
set_option maxRecDepth 100000 in
theorem shP16 (x n : Int) (c : Bool) (w : World) (x0 : 0 ≤ x) (x1 : x < 4294967296) (hn1 : -9223372036854775808 ≤ n ∧ n < 9223372036854775808) (h1 : 0 < n) (m : Nat) (hm : m + 1 = if 64 < n then 64 else n.toNat) : Calls Tryz.prog 119 #[.int .i64 16, .int .u32 x, .int .i64 n, .bool c] w fun e w' => e = .returned (.tuple #[.int .u32 (shIter 16 (m + 1) (x, c)).1, .bool (shIter 16 (m + 1) (x, c)).2]) ∧ w = w' := by
  obtain ⟨g1, g2⟩ := left_ok c x0 x1 h1 m hm
  rw [← g1, ← g2]
  clear g1 g2 hm
  have d0 : decide (n ≤ 0) = false := decide_eq_false (by omega)
  go_enter Tryz.func119, Tryz.ntmps119
  go_wp2
  go_ret2
  exact ⟨rfl, rfl⟩
set_option maxRecDepth 100000 in
theorem two_div (y : Int) (m : Nat) : y * 2 / 2 ^ (m + 1) = y / 2 ^ m := by
  rw [Int.pow_succ]
  exact Int.mul_ediv_mul_of_pos_left _ _ (by omega)
set_option maxRecDepth 100000 in
theorem pow_big {m : Nat} (h : 32 ≤ m) : (4294967296 : Int) ≤ 2 ^ m := by
  have h1 : (2 : Nat) ^ 32 ≤ 2 ^ m := Nat.pow_le_pow_right (by omega) h
  have h2 : ((2 ^ 32 : Nat) : Int) ≤ ((2 ^ m : Nat) : Int) := Int.ofNat_le.2 h1
  rw [Int.natCast_pow, Int.natCast_pow] at h2
  exact h2
set_option maxRecDepth 100000 in
theorem far_div {y : Int} {m : Nat} (h : 32 ≤ m) (h1 : -2147483648 ≤ y) (h2 : y < 4294967296) : y / 2 ^ m = if y < 0 then -1 else 0 := by
  have hb := pow_big h
  generalize (2 : Int) ^ m = p at *
  split
  · have a := Int.ediv_neg_of_neg_of_pos (show y < 0 by omega) (show 0 < p by omega)
    have b : -1 ≤ y / p := by rw [Int.le_ediv_iff_mul_le (by omega)]; omega
    omega
  · exact Int.ediv_eq_zero_of_lt (by omega) (by omega)
set_option maxRecDepth 100000 in
theorem and_onei {y : Int} : bits .and .i64 y 1 = y % 2 := by
  have h := bitsOp_bit .i64 (fun a b => a &&& b) (· && ·) (by intro a b i _; simp) y 1
  refine eq_of_has (k := .i64) (bitsOp_has .i64 (fun a b => a &&& b) _ _) (has64 (by omega) (by omega)) fun i hi => ?_
  rw [show bits .and .i64 y 1 = bitsOp .i64 (fun a b => a &&& b) y 1 from rfl, h i hi]
  have e1 : bitI 1 i = decide (i = 0) := by
    rw [show (1 : Int) = ((1 : Nat) : Int) from rfl, bitI_nat]
    cases i with
    | zero => rfl
    | succ i => simp [Nat.testBit_succ]
  rw [e1]
  cases i with
  | zero => simp [bitI_zero]
  | succ i =>
    have : y % 2 / 2 = 0 := by omega
    rw [bitI_succ (y % 2), this]
    have z : bitI 0 i = false := by rw [show (0 : Int) = ((0 : Nat) : Int) from rfl, bitI_nat]; simp
    rw [z]
    simp
set_option maxRecDepth 100000 in
theorem right_ok {y : Int} (h1 : -2147483648 ≤ y) (h2 : y < 4294967296) {n : Int} (h0 : 0 < n) (m : Nat) (hm : m + 1 = if 64 < n then 64 else n.toNat) :
    y * 2 / 2 ^ (min n 33).toNat / 2 = y / 2 ^ (m + 1) ∧ (y * 2 / 2 ^ (min n 33).toNat) = y / 2 ^ m := by
  by_cases h : n ≤ 33
  · have e : (min n 33).toNat = m + 1 := by
      rw [if_neg (by omega)] at hm
      omega
    rw [e, two_div, half_pow]
    exact ⟨rfl, rfl⟩
  · have e : (min n 33).toNat = 32 + 1 := by omega
    have hm33 : 33 ≤ m := by
      have : 34 ≤ m + 1 := by rw [hm]; split <;> omega
      omega
    rw [e, two_div, far_div (m := 32) (by omega) h1 h2, far_div (m := m + 1) (by omega) h1 h2, far_div (m := m) (by omega) h1 h2]
    refine ⟨?_, rfl⟩
    split <;> rfl
set_option maxRecDepth 100000 in
theorem shP17 (x n : Int) (c : Bool) (w : World) (x0 : 0 ≤ x) (x1 : x < 4294967296) (hn1 : -9223372036854775808 ≤ n ∧ n < 9223372036854775808) (h1 : 0 < n) (m : Nat) (hm : m + 1 = if 64 < n then 64 else n.toNat) : Calls Tryz.prog 119 #[.int .i64 17, .int .u32 x, .int .i64 n, .bool c] w fun e w' => e = .returned (.tuple #[.int .u32 (shIter 17 (m + 1) (x, c)).1, .bool (shIter 17 (m + 1) (x, c)).2]) ∧ w = w' := by
  obtain ⟨r1, r2⟩ := right_ok (y := x) (by omega) x1 h1 m hm
  have b1 := iter_small (op := 17) (m + 1) (x, c) x0 x1
  have b2 := iter_small (op := 17) m (x, c) x0 x1
  rw [it17] at b1 b2
  have g1 : x * 2 / 2 ^ (min n 33).toNat / 2 % 4294967296 = (shIter 17 (m + 1) (x, c)).1 := by
    rw [it17, r1]
    exact Int.emod_eq_of_lt b1.1 b1.2
  have g2 : (bits .and .u64 (x * 2 / 2 ^ (min n 33).toNat) 1 == 1) = (shIter 17 (m + 1) (x, c)).2 := by
    rw [ca17, r2, and_one64 b2.1 (by omega)]
  rw [← g1, ← g2]
  clear g1 g2 b1 b2 r1 r2 hm
  have d0 : decide (n ≤ 0) = false := decide_eq_false (by omega)
  go_enter Tryz.func119, Tryz.ntmps119
  go_wp2
  go_ret2
  exact ⟨rfl, rfl⟩
set_option maxRecDepth 100000 in
theorem shP18 (x n : Int) (c : Bool) (w : World) (x0 : 0 ≤ x) (x1 : x < 4294967296) (hn1 : -9223372036854775808 ≤ n ∧ n < 9223372036854775808) (h1 : 0 < n) (m : Nat) (hm : m + 1 = if 64 < n then 64 else n.toNat) : Calls Tryz.prog 119 #[.int .i64 18, .int .u32 x, .int .i64 n, .bool c] w fun e w' => e = .returned (.tuple #[.int .u32 (shIter 18 (m + 1) (x, c)).1, .bool (shIter 18 (m + 1) (x, c)).2]) ∧ w = w' := by
  have sa := s32_small x x0 x1
  have wa : wrap32 x = s32 x := (IntWalk.i32_left x).symm.trans (wrap_s32 x x0 x1)
  obtain ⟨r1, r2⟩ := right_ok (y := s32 x) (by omega) (by omega) h1 m hm
  have g1 : s32 x * 2 / 2 ^ (min n 33).toNat / 2 % 4294967296 = (shIter 18 (m + 1) (x, c)).1 := by
    rw [it18 x c x0 x1, r1]
  have g2 : (bits .and .i64 (s32 x * 2 / 2 ^ (min n 33).toNat) 1 == 1) = (shIter 18 (m + 1) (x, c)).2 := by
    rw [ca18 x c x0 x1, r2, and_onei]
  rw [← g1, ← g2]
  clear g1 g2 r1 r2 hm
  have d0 : decide (n ≤ 0) = false := decide_eq_false (by omega)
  go_enter Tryz.func119, Tryz.ntmps119
  go_wp2
  go_ret2
  exact ⟨rfl, rfl⟩
set_option maxRecDepth 100000 in
theorem or_low {a : Int} {b : Int} (s : Nat) (hs : s ≤ 32) (a0 : 0 ≤ a) (a1 : a * 2 ^ s < 4294967296) (b0 : 0 ≤ b) (b1 : b < 2 ^ s) : bits .or .u32 (a * 2 ^ s) b = a * 2 ^ s + b := by
  have hp : (0 : Int) < 2 ^ s := Int.pow_pos (by omega)
  have hh : 0 ≤ a * 2 ^ s := Int.mul_nonneg a0 (by omega)
  have hl : b < 4294967296 := by
    have h2 : (2 : Nat) ^ s ≤ 2 ^ 32 := Nat.pow_le_pow_right (by omega) hs
    have h3 : ((2 ^ s : Nat) : Int) ≤ ((2 ^ 32 : Nat) : Int) := Int.ofNat_le.2 h2
    rw [Int.natCast_pow, Int.natCast_pow] at h3
    have h4 : ((2 : Nat) : Int) ^ 32 = 4294967296 := rfl
    rw [h4] at h3
    exact Int.lt_of_lt_of_le b1 h3
  rw [u32_or _ _ hh a1 b0 hl]
  obtain ⟨m, rfl⟩ := Int.eq_ofNat_of_zero_le a0
  obtain ⟨n, rfl⟩ := Int.eq_ofNat_of_zero_le b0
  have e1 : ((m : Int) * 2 ^ s) = ((2 ^ s * m : Nat) : Int) := by push_cast; rw [Int.mul_comm]
  have hb : n < 2 ^ s := by
    have : (n : Int) < ((2 ^ s : Nat) : Int) := by push_cast; exact b1
    omega
  rw [e1, Int.toNat_natCast, Int.toNat_natCast, ← Nat.two_pow_add_eq_or_of_lt hb]
  push_cast
  rfl
set_option maxRecDepth 100000 in
theorem or_turn {x : Int} (x0 : 0 ≤ x) (x1 : x < 4294967296) (r : Nat) (hr : r < 32) : bits .or .u32 (x * 2 ^ ((32 - r) % 32) % 4294967296) (x / 2 ^ (32 - (32 - r) % 32)) = rotC x r := by
  have h : r = 0 ∨ r = 1 ∨ r = 2 ∨ r = 3 ∨ r = 4 ∨ r = 5 ∨ r = 6 ∨ r = 7 ∨ r = 8 ∨ r = 9 ∨ r = 10 ∨ r = 11 ∨ r = 12 ∨ r = 13 ∨ r = 14 ∨ r = 15 ∨ r = 16 ∨ r = 17 ∨ r = 18 ∨ r = 19 ∨ r = 20 ∨ r = 21 ∨ r = 22 ∨ r = 23 ∨ r = 24 ∨ r = 25 ∨ r = 26 ∨ r = 27 ∨ r = 28 ∨ r = 29 ∨ r = 30 ∨ r = 31 := by omega
  have key : ∀ (s : Nat) (p q : Int), s ≤ 32 → p = 2 ^ s → p * q = 4294967296 → 0 < q → x * p % 4294967296 = x % q * p → x / q < p → bits .or .u32 (x * p % 4294967296) (x / q) = x % q * p + x / q := by
    intro s p q hs hp hpq hq e1 e2
    have p0 : 0 < p := by rw [hp]; exact Int.pow_pos (by omega)
    have m0 := Int.emod_nonneg x (Int.ne_of_gt hq)
    have m1 := Int.emod_lt_of_pos x hq
    have h1 : x % q * p < 4294967296 := by
      rw [← hpq, Int.mul_comm p q]
      exact Int.mul_lt_mul_of_pos_right m1 p0
    rw [e1]
    subst hp
    exact or_low s hs m0 h1 (Int.ediv_nonneg x0 (Int.le_of_lt hq)) e2
  unfold rotC
  rcases h with rfl | rfl | rfl | rfl | rfl | rfl | rfl | rfl | rfl | rfl | rfl | rfl | rfl | rfl | rfl | rfl | rfl | rfl | rfl | rfl | rfl | rfl | rfl | rfl | rfl | rfl | rfl | rfl | rfl | rfl | rfl | rfl
  all_goals
    simp only [Nat.reduceSub, Nat.reduceMod, Int.reducePow]
    first
      | (rw [key 0 1 4294967296 (by omega) (by rfl) (by rfl) (by omega) (by omega) (by omega)]; omega)
      | (rw [key 1 2 2147483648 (by omega) (by rfl) (by rfl) (by omega) (by omega) (by omega)]; omega)
      | (rw [key 2 4 1073741824 (by omega) (by rfl) (by rfl) (by omega) (by omega) (by omega)]; omega)
      | (rw [key 3 8 536870912 (by omega) (by rfl) (by rfl) (by omega) (by omega) (by omega)]; omega)
      | (rw [key 4 16 268435456 (by omega) (by rfl) (by rfl) (by omega) (by omega) (by omega)]; omega)
      | (rw [key 5 32 134217728 (by omega) (by rfl) (by rfl) (by omega) (by omega) (by omega)]; omega)
      | (rw [key 6 64 67108864 (by omega) (by rfl) (by rfl) (by omega) (by omega) (by omega)]; omega)
      | (rw [key 7 128 33554432 (by omega) (by rfl) (by rfl) (by omega) (by omega) (by omega)]; omega)
      | (rw [key 8 256 16777216 (by omega) (by rfl) (by rfl) (by omega) (by omega) (by omega)]; omega)
      | (rw [key 9 512 8388608 (by omega) (by rfl) (by rfl) (by omega) (by omega) (by omega)]; omega)
      | (rw [key 10 1024 4194304 (by omega) (by rfl) (by rfl) (by omega) (by omega) (by omega)]; omega)
      | (rw [key 11 2048 2097152 (by omega) (by rfl) (by rfl) (by omega) (by omega) (by omega)]; omega)
      | (rw [key 12 4096 1048576 (by omega) (by rfl) (by rfl) (by omega) (by omega) (by omega)]; omega)
      | (rw [key 13 8192 524288 (by omega) (by rfl) (by rfl) (by omega) (by omega) (by omega)]; omega)
      | (rw [key 14 16384 262144 (by omega) (by rfl) (by rfl) (by omega) (by omega) (by omega)]; omega)
      | (rw [key 15 32768 131072 (by omega) (by rfl) (by rfl) (by omega) (by omega) (by omega)]; omega)
      | (rw [key 16 65536 65536 (by omega) (by rfl) (by rfl) (by omega) (by omega) (by omega)]; omega)
      | (rw [key 17 131072 32768 (by omega) (by rfl) (by rfl) (by omega) (by omega) (by omega)]; omega)
      | (rw [key 18 262144 16384 (by omega) (by rfl) (by rfl) (by omega) (by omega) (by omega)]; omega)
      | (rw [key 19 524288 8192 (by omega) (by rfl) (by rfl) (by omega) (by omega) (by omega)]; omega)
      | (rw [key 20 1048576 4096 (by omega) (by rfl) (by rfl) (by omega) (by omega) (by omega)]; omega)
      | (rw [key 21 2097152 2048 (by omega) (by rfl) (by rfl) (by omega) (by omega) (by omega)]; omega)
      | (rw [key 22 4194304 1024 (by omega) (by rfl) (by rfl) (by omega) (by omega) (by omega)]; omega)
      | (rw [key 23 8388608 512 (by omega) (by rfl) (by rfl) (by omega) (by omega) (by omega)]; omega)
      | (rw [key 24 16777216 256 (by omega) (by rfl) (by rfl) (by omega) (by omega) (by omega)]; omega)
      | (rw [key 25 33554432 128 (by omega) (by rfl) (by rfl) (by omega) (by omega) (by omega)]; omega)
      | (rw [key 26 67108864 64 (by omega) (by rfl) (by rfl) (by omega) (by omega) (by omega)]; omega)
      | (rw [key 27 134217728 32 (by omega) (by rfl) (by rfl) (by omega) (by omega) (by omega)]; omega)
      | (rw [key 28 268435456 16 (by omega) (by rfl) (by rfl) (by omega) (by omega) (by omega)]; omega)
      | (rw [key 29 536870912 8 (by omega) (by rfl) (by rfl) (by omega) (by omega) (by omega)]; omega)
      | (rw [key 30 1073741824 4 (by omega) (by rfl) (by rfl) (by omega) (by omega) (by omega)]; omega)
      | (rw [key 31 2147483648 2 (by omega) (by rfl) (by rfl) (by omega) (by omega) (by omega)]; omega)
set_option maxRecDepth 100000 in
theorem and31 (n : Int) : bits .and .i64 n 31 = n % 32 := by
  have h0 : 0 ≤ n % 32 := by omega
  have h1 : n % 32 < 32 := by omega
  refine eq_of_has (k := .i64) (bitsOp_has .i64 (fun a b => a &&& b) _ _) (has64 (by omega) (by omega)) fun i hi => ?_
  rw [show bits .and .i64 n 31 = bitsOp .i64 (fun a b => a &&& b) n (.ofNat (2 ^ 5 - 1)) from rfl, andF_bit _ _ _ hi, low_bit]
  by_cases his : i < 5
  · rw [show (32 : Int) = 2 ^ 5 from rfl, bitI_emod _ _ _ his]; simp [his]
  · have e := bitI_high (n % 32) 5 i (by omega) h1 (by omega)
    rw [e, decide_eq_false his, Bool.and_false, decide_eq_false (by omega)]
set_option maxRecDepth 100000 in
theorem and31u (n : Int) : bits .and .u64 n 31 = n % 32 := by
  have h0 : 0 ≤ n % 32 := by omega
  have h1 : n % 32 < 32 := by omega
  refine eq_of_has (k := .u64) (bitsOp_has .u64 (fun a b => a &&& b) _ _) (show (0 : Int) ≤ _ ∧ _ < (2 : Int) ^ 64 by omega) fun i hi => ?_
  rw [show bits .and .u64 n 31 = bitsOp .u64 (fun a b => a &&& b) n (.ofNat (2 ^ 5 - 1)) from rfl, andF_bit _ _ _ hi, low_bit]
  by_cases his : i < 5
  · rw [show (32 : Int) = 2 ^ 5 from rfl, bitI_emod _ _ _ his]; simp [his]
  · have e := bitI_high (n % 32) 5 i (by omega) h1 (by omega)
    rw [e, decide_eq_false his, Bool.and_false, decide_eq_false (by omega)]
set_option maxRecDepth 100000 in
set_option maxHeartbeats 4000000 in
theorem rotl_any (x : Int) (k : Int) (s : Nat) (w : World) (x0 : 0 ≤ x) (x1 : x < 4294967296) (hs : s < 32) (hk : bits .and .u64 (IntKind.u64.wrap k) 31 = (s : Int)) :
    Calls Tryz.prog 150 #[.int .u32 x, .int .i64 k] w fun e w' => e = .returned (.int .u32 (bits .or .u32 (x * 2 ^ s % 4294967296) (x / 2 ^ (32 - s)))) ∧ w = w' := by
  have h : s = 0 ∨ s = 1 ∨ s = 2 ∨ s = 3 ∨ s = 4 ∨ s = 5 ∨ s = 6 ∨ s = 7 ∨ s = 8 ∨ s = 9 ∨ s = 10 ∨ s = 11 ∨ s = 12 ∨ s = 13 ∨ s = 14 ∨ s = 15 ∨ s = 16 ∨ s = 17 ∨ s = 18 ∨ s = 19 ∨ s = 20 ∨ s = 21 ∨ s = 22 ∨ s = 23 ∨ s = 24 ∨ s = 25 ∨ s = 26 ∨ s = 27 ∨ s = 28 ∨ s = 29 ∨ s = 30 ∨ s = 31 := by omega
  rcases h with rfl | rfl | rfl | rfl | rfl | rfl | rfl | rfl | rfl | rfl | rfl | rfl | rfl | rfl | rfl | rfl | rfl | rfl | rfl | rfl | rfl | rfl | rfl | rfl | rfl | rfl | rfl | rfl | rfl | rfl | rfl | rfl
  all_goals
    have hx : x % 4294967296 = x := Int.emod_eq_of_lt x0 x1
    simp only [Int.cast_ofNat_Int, Nat.reduceSub, Int.reducePow] at hk ⊢
    generalize hy : IntKind.u64.wrap k = y at *
    go_enter Tryz.func150, Tryz.ntmps150
    go_wp2
    go_ret
    first
      | exact ⟨rfl, rfl⟩
      | (refine ⟨?_, rfl⟩; simp [hx])
set_option maxRecDepth 100000 in
theorem shP19 (x n : Int) (c : Bool) (w : World) (x0 : 0 ≤ x) (x1 : x < 4294967296) (hn1 : -9223372036854775808 ≤ n ∧ n < 9223372036854775808) (h1 : 0 < n) : Calls Tryz.prog 119 #[.int .i64 19, .int .u32 x, .int .i64 n, .bool c] w fun e w' => e = .returned (.tuple #[.int .u32 (rotC x (n % 32).toNat), .bool (rotC x (n % 32).toNat / 2147483648 == 1)]) ∧ w = w' := by
  have d0 : decide (n ≤ 0) = false := decide_eq_false (by omega)
  have ha := and31 n
  have hr : (n % 32).toNat < 32 := by omega
  have hk : bits .and .u64 (IntKind.u64.wrap (-(n % 32))) 31 = (((32 - (n % 32).toNat) % 32 : Nat) : Int) := by
    rw [and31u]
    show -(n % 32) % 18446744073709551616 % 32 = _
    omega
  have hc := fun w => rotl_any x (-(n % 32)) _ w x0 x1 (by omega) hk
  have ht := or_turn x0 x1 (n % 32).toNat hr
  simp only [ht] at hc
  generalize rotC x (n % 32).toNat = v at *
  have hm : 0 ≤ n % 32 ∧ n % 32 < 32 := by omega
  clear ht hk
  go_enter Tryz.func119, Tryz.ntmps119
  go_wp2_with fail
  ((with_reducible refine (hc _).mono ?_); rintro e w1 ⟨rfl, rfl⟩)
  clear hc
  go_wp2
  go_ret2
  exact ⟨rfl, rfl⟩
set_option maxRecDepth 100000 in
theorem shP_any (op x n : Int) (c : Bool) (w : World) (ho : kHas .i64 op) (x0 : 0 ≤ x) (x1 : x < 4294967296) (hn : kHas .i64 n) : Calls Tryz.prog 119 #[.int .i64 op, .int .u32 x, .int .i64 n, .bool c] w fun e w' => e = .returned (.tuple #[.int .u32 (shR op x n c), .bool (shC op x n c)]) ∧ w = w' := by
  have hn1 : -9223372036854775808 ≤ n ∧ n < 9223372036854775808 := hn
  rw [shR_eq c x0 x1]
  unfold shC
  by_cases hf : op < 16 ∨ 19 < op ∨ n ≤ 0
  · have e : shN op n = 0 := by
      unfold shN
      split
      · rfl
      · rw [if_neg (by omega)]; omega
    rw [e]
    exact shP_far op x n c w hf
  · have h1 : 0 < n := by omega
    by_cases h19 : op = 19
    · subst h19
      have hN : shN 19 n = if 64 < n then (32 + n % 32).toNat else n.toNat := by
        unfold shN
        rw [if_neg (by omega)]
        rfl
      have hrot : rotL x (shN 19 n) = rotC x (n % 32).toNat := by
        rw [← rotL_C x0 x1 _ (by omega), hN]
        split
        · have : (32 + n % 32).toNat = 32 + (n % 32).toNat := by omega
          rw [this, rotL_more x0 x1]
        · by_cases a : n < 32
          · have : n.toNat = (n % 32).toNat := by omega
            rw [this]
          · by_cases b : n < 64
            · have : n.toNat = 32 + (n % 32).toNat := by omega
              rw [this, rotL_more x0 x1]
            · have : n.toNat = 32 + (32 + (n % 32).toNat) := by omega
              rw [this, rotL_more x0 x1, rotL_more x0 x1]
      obtain ⟨m, hm⟩ : ∃ m, shN 19 n = m + 1 := ⟨shN 19 n - 1, by rw [hN]; split <;> omega⟩
      have hv := shP19 x n c w x0 x1 hn1 h1
      rw [← hrot, hm] at hv
      rw [hm, it19, ca19]
      have hs := rotL_small x0 x1 m
      have hb : (rotL x (m + 1) / 2147483648 == 1) = (rotL x m % 2 == 1) := by
        have : rotL x (m + 1) = rotL x m / 2 + rotL x m % 2 * 2147483648 := rfl
        rw [this, Bool.eq_iff_iff]
        simp
        omega
      rw [← hb]
      exact hv
    · have hN : shN op n = if 64 < n then 64 else n.toNat := by
        unfold shN
        rw [if_neg (by omega), if_neg h19]
      obtain ⟨m, hm⟩ : ∃ m, shN op n = m + 1 := ⟨shN op n - 1, by rw [hN]; split <;> omega⟩
      have hm2 : m + 1 = if 64 < n then 64 else n.toNat := by rw [← hm, hN]
      rw [hm]
      have hop : op = 16 ∨ op = 17 ∨ op = 18 := by omega
      rcases hop with rfl | rfl | rfl
      · exact shP16 x n c w x0 x1 hn1 h1 m hm2
      · exact shP17 x n c w x0 x1 hn1 h1 m hm2
      · exact shP18 x n c w x0 x1 hn1 h1 m hm2
set_option maxRecDepth 100000 in
theorem shP_spec {ρ : Env} (V : VarsOk ρ) (S : ShSigns ρ) : ∀ args h pc x, (pc.den ρ).asBool = true → (specR shPat shT args h pc).get ρ = some x → CallOk ρ cx.globs cx.P 119 args h x := sh_spec V S fun op x n c w h1 h2 h3 h4 => shP_any op x n c w h1 h2 h3 h4
set_option maxRecDepth 100000 in
theorem shR_spec {ρ : Env} (V : VarsOk ρ) (S : ShSigns ρ) : ∀ args h pc x, (pc.den ρ).asBool = true → (specR shPat shT args h pc).get ρ = some x → CallOk ρ cx.globs cx.P 83 args h x := sh_spec V S fun op x n c w h1 h2 h3 h4 => shR_any op x n c w h1 h2 h3 h4
end Go.Proofs.YthbdmlcbdibiiaaGreatDoor
/- For the seat: a law that answers true and only makes new memory meets its row; arguments: instructions, rows of them, rows of numbers. -/
namespace Go.Proofs.YthbdmlcbdibiiaaGreatDoor
open Go.Sx Go.ChangeShapes Go.WideShapes Go.RowKit Go.Joins Go.Deep
section
variable {H : Type} {enc : TypeId × Value → H}
set_option maxRecDepth 100000 in
theorem trodAll_below {P : Program} (hl : laidOutB P = true) {W W' : World} (hb : Below W.heap.size W W') :
    ∀ {ts : List TypeId} {vs : List Value} {ds : List (DataW H)} {ps : List MemPlace}, (∀ t ∈ ts, P.readableRec t = true ∧ t < P.types.size) →
      DataW.TrodAll enc P W 0 (fun _ => true) true ts vs ds ps → (∀ x ∈ ps, x.block < W.heap.size) → DataW.TrodAll enc P W' 0 (fun b => decide (b < W.heap.size)) true ts vs ds ps
  | [], _, _, _, _, h, _ => by
    obtain ⟨rfl, rfl, rfl⟩ := trodAll_nil h
    exact trodAll_mk0
  | t :: ts, _, _, _, hr, h, hlt => by
    obtain ⟨v, vs, d, ds, p, q, rfl, rfl, rfl, h0, r0⟩ := trodAll_cons h
    have ht := hr t (by simp)
    exact trodAll_cons_mk (Below.trod hl ht.1 ht.2 h0 hb (fun x hx => hlt x (by simp [hx]))) (trodAll_below hl hb (fun u hu => hr u (by simp [hu])) r0 (fun x hx => hlt x (by simp [hx])))
set_option maxRecDepth 100000 in
theorem law_post {P : Program} (hl : laidOutB P = true) {f : Func} {s : ChangeSpec} {tb : TypeId} {W W' : World} {args : Array Value} {ds gs : List (DataW H)} {before : List MemPlace}
    (hs : s.vars = []) (hr : ∀ t ∈ f.params.toList, P.readableRec t = true ∧ t < P.types.size) (hW : DataW.Whole enc P f.params.toList s.vars false W args.toList ds gs before)
    (hb : Below W.heap.size W W') (ht : f.resultTypes = #[tb]) (hbool : P.underlying tb = some .bool) (hfn : s.fn H ds = { results := [.lit (.bool true)], args := ds }) :
    s.post enc P f false true false false W args (.bool true) W' := by
  have hlt := hW.lt
  have hW' := hW
  obtain ⟨p, q, hA, hV, rfl, _, _⟩ := hW
  rw [hs] at hV
  obtain ⟨rfl, rfl⟩ := trodVars_none hV
  refine ⟨ds, [], p ++ [], [], p, [], hW', ?_, ?_, ?_, ?_, fun h => by cases h⟩
  · rw [List.append_nil, hfn, ht]
    exact trodAll_mk1 (shut_bool hbool true)
  · rw [List.append_nil, hfn]
    exact trodAll_below hl hb hr hA (fun x hx => hlt x (by simp [hx]))
  · rw [List.append_nil, hfn, hs]
    rfl
  · exact hb.frame _
end
set_option maxRecDepth 100000 in
theorem laidOutQ : laidOutB Tryz.prog = true := by kernel_rfl
end Go.Proofs.YthbdmlcbdibiiaaGreatDoor
