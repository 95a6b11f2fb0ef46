/- For the seat: texts joined: Chk, Spc, ExpDef, FindDef, WidDef. -/
import Derived.Test.YtdeelhbckfmaeaaGreatDoorJK0
import Derived.Test.YtdeelhbckfmaeaaGreatDoorJK1
import Derived.Test.YtdeelhbckfmaeaaGreatDoorJK2
import Derived.ChangeVars
import Derived.Test.YtdeelhbckfmaeaaGreatDoorSxBack
import Derived.WalkKit
import Derived.LoopTactic
import Derived.Lib.Hide
import Derived.Test.YtdeelhbckfmaeaaGreatDoorSxCasW
/- For the seat: 'Check' of both packages answers as the sign 901 says. -/
namespace Go.Proofs.YtdeelhbckfmaeaaGreatDoor
open Go.Sx Go.ChangeShapes Go.WideShapes Go.RowKit Go.Joins Go.Deep
namespace chk

structure All (f : Nat) : Prop where
  lo : low f = true
  hi : high f = true
  a : itA f = true
  b : itB f = true
  c : itC f = true
  d : itD f = true
  go : ∀ k : Nat, 1 ≤ k → k ≤ 45 → k ≠ 42 → goes f k = true
  it : ∀ c : Nat, c ≤ 14 → its f c = true

set_option maxRecDepth 100000 in
theorem all_p : All 140 := by
  refine ⟨low_p, high_p, itA_p, itB_p, itC_p, itD_p, ?_, ?_⟩
  · intro k h h' h3
    match k, h, h', h3 with
    | 1, _, _, _ => exact go1_p
    | 2, _, _, _ => exact go2_p
    | 3, _, _, _ => exact go3_p
    | 4, _, _, _ => exact go4_p
    | 5, _, _, _ => exact go5_p
    | 6, _, _, _ => exact go6_p
    | 7, _, _, _ => exact go7_p
    | 8, _, _, _ => exact go8_p
    | 9, _, _, _ => exact go9_p
    | 10, _, _, _ => exact go10_p
    | 11, _, _, _ => exact go11_p
    | 12, _, _, _ => exact go12_p
    | 13, _, _, _ => exact go13_p
    | 14, _, _, _ => exact go14_p
    | 15, _, _, _ => exact go15_p
    | 16, _, _, _ => exact go16_p
    | 17, _, _, _ => exact go17_p
    | 18, _, _, _ => exact go18_p
    | 19, _, _, _ => exact go19_p
    | 20, _, _, _ => exact go20_p
    | 21, _, _, _ => exact go21_p
    | 22, _, _, _ => exact go22_p
    | 23, _, _, _ => exact go23_p
    | 24, _, _, _ => exact go24_p
    | 25, _, _, _ => exact go25_p
    | 26, _, _, _ => exact go26_p
    | 27, _, _, _ => exact go27_p
    | 28, _, _, _ => exact go28_p
    | 29, _, _, _ => exact go29_p
    | 30, _, _, _ => exact go30_p
    | 31, _, _, _ => exact go31_p
    | 32, _, _, _ => exact go32_p
    | 33, _, _, _ => exact go33_p
    | 34, _, _, _ => exact go34_p
    | 35, _, _, _ => exact go35_p
    | 36, _, _, _ => exact go36_p
    | 37, _, _, _ => exact go37_p
    | 38, _, _, _ => exact go38_p
    | 39, _, _, _ => exact go39_p
    | 40, _, _, _ => exact go40_p
    | 41, _, _, _ => exact go41_p
    | 43, _, _, _ => exact go43_p
    | 44, _, _, _ => exact go44_p
    | 45, _, _, _ => exact go45_p
    | 42, _, _, h3 => exact (h3 rfl).elim
    | n + 46, _, h', _ => omega
  · intro c h
    match c, h with
    | 0, _ => exact its0_p
    | 1, _ => exact its1_p
    | 2, _ => exact its2_p
    | 3, _ => exact its3_p
    | 4, _ => exact its4_p
    | 5, _ => exact its5_p
    | 6, _ => exact its6_p
    | 7, _ => exact its7_p
    | 8, _ => exact its8_p
    | 9, _ => exact its9_p
    | 10, _ => exact its10_p
    | 11, _ => exact its11_p
    | 12, _ => exact its12_p
    | 13, _ => exact its13_p
    | 14, _ => exact its14_p
    | n + 15, h => omega

set_option maxRecDepth 100000 in
theorem all_r : All 130 := by
  refine ⟨low_r, high_r, itA_r, itB_r, itC_r, itD_r, ?_, ?_⟩
  · intro k h h' h3
    match k, h, h', h3 with
    | 1, _, _, _ => exact go1_r
    | 2, _, _, _ => exact go2_r
    | 3, _, _, _ => exact go3_r
    | 4, _, _, _ => exact go4_r
    | 5, _, _, _ => exact go5_r
    | 6, _, _, _ => exact go6_r
    | 7, _, _, _ => exact go7_r
    | 8, _, _, _ => exact go8_r
    | 9, _, _, _ => exact go9_r
    | 10, _, _, _ => exact go10_r
    | 11, _, _, _ => exact go11_r
    | 12, _, _, _ => exact go12_r
    | 13, _, _, _ => exact go13_r
    | 14, _, _, _ => exact go14_r
    | 15, _, _, _ => exact go15_r
    | 16, _, _, _ => exact go16_r
    | 17, _, _, _ => exact go17_r
    | 18, _, _, _ => exact go18_r
    | 19, _, _, _ => exact go19_r
    | 20, _, _, _ => exact go20_r
    | 21, _, _, _ => exact go21_r
    | 22, _, _, _ => exact go22_r
    | 23, _, _, _ => exact go23_r
    | 24, _, _, _ => exact go24_r
    | 25, _, _, _ => exact go25_r
    | 26, _, _, _ => exact go26_r
    | 27, _, _, _ => exact go27_r
    | 28, _, _, _ => exact go28_r
    | 29, _, _, _ => exact go29_r
    | 30, _, _, _ => exact go30_r
    | 31, _, _, _ => exact go31_r
    | 32, _, _, _ => exact go32_r
    | 33, _, _, _ => exact go33_r
    | 34, _, _, _ => exact go34_r
    | 35, _, _, _ => exact go35_r
    | 36, _, _, _ => exact go36_r
    | 37, _, _, _ => exact go37_r
    | 38, _, _, _ => exact go38_r
    | 39, _, _, _ => exact go39_r
    | 40, _, _, _ => exact go40_r
    | 41, _, _, _ => exact go41_r
    | 43, _, _, _ => exact go43_r
    | 44, _, _, _ => exact go44_r
    | 45, _, _, _ => exact go45_r
    | 42, _, _, h3 => exact (h3 rfl).elim
    | n + 46, _, h', _ => omega
  · intro c h
    match c, h with
    | 0, _ => exact its0_r
    | 1, _ => exact its1_r
    | 2, _ => exact its2_r
    | 3, _ => exact its3_r
    | 4, _ => exact its4_r
    | 5, _ => exact its5_r
    | 6, _ => exact its6_r
    | 7, _ => exact its7_r
    | 8, _ => exact its8_r
    | 9, _ => exact its9_r
    | 10, _ => exact its10_r
    | 11, _ => exact its11_r
    | 12, _ => exact its12_r
    | 13, _ => exact its13_r
    | 14, _ => exact its14_r
    | n + 15, h => omega

end chk

/-- An instruction's fields. -/
structure Fields where
  x0 : Int
  x1 : Int
  x2 : Int
  x3 : Int
  x4 : Int
  x5 : Int
  x6 : Int
  x7 : Int
  b : Bool

def Fields.val (x : Fields) : Value := .agg #[.int .i64 x.x0, .int .i64 x.x1, .int .i64 x.x2, .int .i64 x.x3, .int .i64 x.x4, .int .i64 x.x5, .int .i64 x.x6, .int .i64 x.x7, .bool x.b]
def Fields.scs (x : Fields) : List Sc := [.int x.x0, .int x.x1, .int x.x2, .int x.x3, .int x.x4, .int x.x5, .int x.x6, .int x.x7, .bool x.b]

structure Fields.Ok (x : Fields) : Prop where
  h0 : kHas .i64 x.x0
  h1 : kHas .i64 x.x1
  h2 : kHas .i64 x.x2
  h3 : kHas .i64 x.x3
  h4 : kHas .i64 x.x4
  h5 : kHas .i64 x.x5
  h6 : kHas .i64 x.x6
  h7 : kHas .i64 x.x7

def insPat : SVal := .agg (.cons (.int .i64 (.var 0)) (.cons (.int .i64 (.var 1)) (.cons (.int .i64 (.var 2)) (.cons (.int .i64 (.var 3)) (.cons (.int .i64 (.var 4)) (.cons (.int .i64 (.var 5)) (.cons (.int .i64 (.var 6)) (.cons (.int .i64 (.var 7)) (.cons (.bool (.var 8)) .nil)))))))))
def chkPat : SVal := .cons insPat .nil
def chkR (t : Tm) : SVal := .int .i64 (.app 901 t)

set_option maxRecDepth 100000 in
theorem scs_ok {x : Fields} (h : x.Ok) : VarsOk (envOf F x.scs) := by
  refine ⟨?_, F_has⟩
  intro i
  match i with
  | 0 => exact h.h0
  | 1 => exact h.h1
  | 2 => exact h.h2
  | 3 => exact h.h3
  | 4 => exact h.h4
  | 5 => exact h.h5
  | 6 => exact h.h6
  | 7 => exact h.h7
  | 8 => exact zero_has
  | n + 9 => exact zero_has

set_option maxRecDepth 100000 in
theorem kn0_ok {x : Fields} (h : x.Ok) : Sats (envOf F x.scs) kn0 := by
  refine Sats.start (scs_ok h) _ ?_
  intro i hi
  simp only [List.mem_cons, List.not_mem_nil, or_false] at hi
  rcases hi with rfl | rfl | rfl | rfl | rfl | rfl | rfl | rfl
  all_goals exact ⟨_, rfl⟩

set_option maxRecDepth 100000 in
theorem arg_conc (x : Fields) {o c n i : Tm} (ho : o.den (envOf F x.scs) = .int x.x0) (hc : c.den (envOf F x.scs) = .int x.x1) (hn : n.den (envOf F x.scs) = .int x.x3) (hi : i.den (envOf F x.scs) = .int x.x5) (ι : Nm) : (argT o c n i).conc (envOf F x.scs) ι = x.val := by
  simp only [argT, SVal.conc, SVal.concL, ho, hc, hn, hi, Fields.val]
  rfl

set_option maxRecDepth 100000 in
theorem argL_den (x : Fields) {o c n i : Tm} (ho : o.den (envOf F x.scs) = .int x.x0) (hc : c.den (envOf F x.scs) = .int x.x1) (hn : n.den (envOf F x.scs) = .int x.x3) (hi : i.den (envOf F x.scs) = .int x.x5) : ((argL o c n i).den (envOf F x.scs)).asList = x.scs := by
  simp only [argL, Tm.den, ho, hc, hn, hi, Sc.asList_list]
  rfl

set_option maxRecDepth 100000 in
/-- At every instruction: an answer, and it is the sign's. -/
theorem chk_all {f : Nat} (A : chk.All f) {x : Fields} (hx : x.Ok) : ∃ x', CallOk (envOf F x.scs) cx.globs cx.P f chkPat.toList [] x' ∧ ∀ ι, x'.v.conc (envOf F x.scs) ι = .int .i64 (F 901 x.scs).asInt := by
  have so := sg_ok (ρ := envOf F x.scs) rfl
  have K := kn0_ok hx
  have go : ∀ (o c n i : Tm), o.den (envOf F x.scs) = .int x.x0 → c.den (envOf F x.scs) = .int x.x1 → n.den (envOf F x.scs) = .int x.x3 → i.den (envOf F x.scs) = .int x.x5 → o.signs (fun _ => false) = true → ∀ l e, Sats (envOf F x.scs) e → chk.at' f o c n i l e = true →
      (∀ t ∈ l, (t.den (envOf F x.scs)).asBool = true) → ∃ x', CallOk (envOf F x.scs) cx.globs cx.P f chkPat.toList [] x' ∧ ∀ ι, x'.v.conc (envOf F x.scs) ι = .int .i64 (F 901 x.scs).asInt := by
    intro o c n i ho hc hn hi _ l e hs hl hp
    obtain ⟨y, b, h1, h2, h3⟩ := pxInt_ok so _ _ hs hl
    have hc' := call_ok cxok (popS_ok (scs_ok hx) rfl) popS_body (conj_den _ l hp) h1
    refine ⟨y, hc'.args (by intro v hv; simp at hv; subst hv; rfl) ?_, ?_⟩
    · intro ι
      rw [List.map_cons, List.map_nil, arg_conc x ho hc hn hi]
      rfl
    · intro ι
      rw [h2]
      simp only [SVal.conc, h3, Tm.den, argL_den x ho hc hn hi]
      rfl
  have e0 : (chk.v 0).den (envOf F x.scs) = .int x.x0 := rfl
  have e1 : (chk.v 1).den (envOf F x.scs) = .int x.x1 := rfl
  have e3 : (chk.v 3).den (envOf F x.scs) = .int x.x3 := rfl
  have e5 : (chk.v 5).den (envOf F x.scs) = .int x.x5 := rfl
  by_cases h1 : x.x0 < 1
  · refine go _ _ _ _ e0 e1 e3 e5 rfl _ _ (K.tell (.le 0 0) ?_) A.lo ?_
    · exact decide_eq_true (show x.x0 ≤ 0 by omega)
    · simp [chk.lt, Tm.den, Op2.ev, e0, h1]
  by_cases h2 : 45 < x.x0
  · refine go _ _ _ _ e0 e1 e3 e5 rfl _ _ (K.tell (.le 0 45) ?_) A.hi ?_
    · exact decide_eq_false (show ¬ x.x0 ≤ 45 by omega)
    · simp [chk.lt, chk.gt, chk.no, Tm.den, Op1.ev, Op2.ev, e0, h1, h2]
  obtain ⟨k, hk⟩ := Int.eq_ofNat_of_zero_le (show 0 ≤ x.x0 by omega)
  have ek : (Tm.num (Int.ofNat k)).den (envOf F x.scs) = .int x.x0 := by rw [hk]; rfl
  by_cases h42 : k = 42
  · have e42 : (Tm.num 42).den (envOf F x.scs) = .int x.x0 := by rw [hk, h42]; rfl
    by_cases c1 : x.x1 < 0
    · refine go _ _ _ _ e42 e1 e3 e5 rfl _ _ (K.tell (.le 1 (-1)) ?_) A.a ?_
      · exact decide_eq_true (show x.x1 ≤ -1 by omega)
      · simp [chk.lt, Tm.den, Op2.ev, e1, c1]
    by_cases c2 : 14 < x.x1
    · refine go _ _ _ _ e42 e1 e3 e5 rfl _ _ (K.tell (.le 1 14) ?_) A.b ?_
      · exact decide_eq_false (show ¬ x.x1 ≤ 14 by omega)
      · simp [chk.lt, chk.gt, chk.no, Tm.den, Op1.ev, Op2.ev, e1, c1, c2]
    by_cases c3 : x.x5 < 1
    · refine go _ _ _ _ e42 e1 e3 e5 rfl _ _ (K.tell (.le 5 0) ?_) A.c ?_
      · exact decide_eq_true (show x.x5 ≤ 0 by omega)
      · simp [chk.lt, chk.gt, chk.no, Tm.den, Op1.ev, Op2.ev, e1, e5, c1, c2, c3]
    by_cases c4 : 15 < x.x5
    · refine go _ _ _ _ e42 e1 e3 e5 rfl _ _ (K.tell (.le 5 15) ?_) A.d ?_
      · exact decide_eq_false (show ¬ x.x5 ≤ 15 by omega)
      · simp [chk.lt, chk.gt, chk.no, Tm.den, Op1.ev, Op2.ev, e1, e5, c1, c2, c3, c4]
    obtain ⟨c, hc⟩ := Int.eq_ofNat_of_zero_le (show 0 ≤ x.x1 by omega)
    obtain ⟨m, hm⟩ := Int.eq_ofNat_of_zero_le (show 0 ≤ x.x5 by omega)
    have := List.all_eq_true.1 (A.it c (by omega)) m (by rw [List.mem_range'_1]; omega)
    exact go _ _ _ _ e42 (by rw [hc]; rfl) e3 (by rw [hm]; rfl) rfl _ _ K this (by simp)
  · exact go _ _ _ _ ek e1 e3 e5 rfl _ _ K (A.go k (by omega) (by omega) h42) (by simp)

set_option maxRecDepth 100000 in
theorem chk_norm (s0 s1 s2 s3 s4 s5 s6 s7 s8 : Sc) : (Chk.chk.den (envOf F0 [s0, s1, s2, s3, s4, s5, s6, s7, s8])).asInt = (Chk.chk.den (envOf F0 [.int s0.asInt, .int s1.asInt, .int s2.asInt, .int s3.asInt, .int s4.asInt, .int s5.asInt, .int s6.asInt, .int s7.asInt, .bool s8.asBool])).asInt := by
  kernel_rfl

set_option maxRecDepth 100000 in
theorem chk_call {f : Nat} (A : chk.All f) {ρ : Env} (V : VarsOk ρ) (hF : ρ.f = F) : ∀ args h pc x, (pc.den ρ).asBool = true → (specR chkPat chkR args h pc).get ρ = some x → CallOk ρ cx.globs cx.P f args h x := by
  refine specR_ok V globsC rfl (by intro u hu; simp [chkPat, SVal.toList] at hu; subst hu; rfl) (fun _ => rfl) ?_
  intro L hL hp
  match L, hL with
  | [s0, s1, s2, s3, s4, s5, s6, s7, s8], _ =>
    obtain ⟨⟨p0, p1, p2, p3, p4, p5, p6, p7, _⟩, _⟩ := hp
    let x : Fields := ⟨s0.asInt, s1.asInt, s2.asInt, s3.asInt, s4.asInt, s5.asInt, s6.asInt, s7.asInt, s8.asBool⟩
    obtain ⟨x', hc, hv⟩ := chk_all A (x := x) ⟨p0, p1, p2, p3, p4, p5, p6, p7⟩
    refine ⟨envOf F x.scs, x', rfl, hc, fun ι => rfl, ?_⟩
    intro t ι ι' ht
    rw [hv ι']
    simp only [SVal.conc, chkR, Tm.den, ht, hF]
    exact congrArg _ (chk_norm s0 s1 s2 s3 s4 s5 s6 s7 s8)

end Go.Proofs.YtdeelhbckfmaeaaGreatDoor
/- For the seat: what the walks know of 'Check'; an instruction's fields. -/
namespace Go.Proofs.YtdeelhbckfmaeaaGreatDoor
open Go.Sx Go.ChangeShapes Go.WideShapes Go.RowKit Go.Joins Go.Deep

set_option maxRecDepth 100000 in
theorem open_insR {H : Type} {enc : TypeId × Value → H} {w : World} {base : Nat} {spare : Nat → Bool} {held : Bool} {r : Reach} {b0 : Nat} {v : Value} {d : DataW H} {p : List MemPlace}
    (hv : Value.okWide Tryz.prog w r b0 30 v) (h : DataW.Trod enc Tryz.prog w base spare held 30 v d p) :
    ∃ x : Fields, x.Ok ∧ v = x.val ∧ p = [] ∧ ∀ (w' : World) (base' : Nat) (spare' : Nat → Bool) (held' : Bool), DataW.Trod enc Tryz.prog w' base' spare' held' 30 v d [] := by
  obtain ⟨vs, rfl, hl, hf, hp, ht⟩ := open_flat (ks := [some .i64, some .i64, some .i64, some .i64, some .i64, some .i64, some .i64, some .i64, none]) Tryz.underlying30 (by kernel_rfl) (by kernel_rfl) (by kernel_rfl) hv h
  match vs, hl with
  | [v0, v1, v2, v3, v4, v5, v6, v7, v8], _ =>
    obtain ⟨_, e0, n0, rfl, w0⟩ := hf 0 _ rfl
    obtain ⟨_, e1, n1, rfl, w1⟩ := hf 1 _ rfl
    obtain ⟨_, e2, n2, rfl, w2⟩ := hf 2 _ rfl
    obtain ⟨_, e3, n3, rfl, w3⟩ := hf 3 _ rfl
    obtain ⟨_, e4, n4, rfl, w4⟩ := hf 4 _ rfl
    obtain ⟨_, e5, n5, rfl, w5⟩ := hf 5 _ rfl
    obtain ⟨_, e6, n6, rfl, w6⟩ := hf 6 _ rfl
    obtain ⟨_, e7, n7, rfl, w7⟩ := hf 7 _ rfl
    obtain ⟨_, e8, b, rfl⟩ := hf 8 _ rfl
    simp only [List.getElem?_cons_zero, List.getElem?_cons_succ, Option.some.injEq] at e0 e1 e2 e3 e4 e5 e6 e7 e8
    subst e0 e1 e2 e3 e4 e5 e6 e7 e8
    exact ⟨⟨n0, n1, n2, n3, n4, n5, n6, n7, b⟩, ⟨wf_has w0, wf_has w1, wf_has w2, wf_has w3, wf_has w4, wf_has w5, wf_has w6, wf_has w7⟩, rfl, hp, ht⟩

def zeroIns : Value := .agg #[.int .i64 0, .int .i64 0, .int .i64 0, .int .i64 0, .int .i64 0, .int .i64 0, .int .i64 0, .int .i64 0, .bool false]
end Go.Proofs.YtdeelhbckfmaeaaGreatDoor
/- For the seat: the number of twelve bits (Expand, Valid) as signs. -/
namespace Go.Proofs.YtdeelhbckfmaeaaGreatDoor
open Go.Sx Go.ChangeShapes Go.WideShapes Go.RowKit Go.Joins Go.Deep

namespace ex
def x0 : Tm := .var 0
def and (a : Tm) (n : Int) : Tm := .op2 (.and .i64) a (.num n)
def is (a : Tm) (n : Int) : Tm := .op2 .eq a (.num n)
def top : Tm := and (.op2 (.shr .i64) x0 (.num 8)) 15
def b : Tm := .op1 (.conv .u32) (and x0 255)
def c : Tm := .op2 (.or .u32) b (.num 128)
def k : Tm := .op2 (.and .u64) (.op1 (.conv .u64) (and (.op2 (.shr .i64) x0 (.num 7)) 31)) (.num 31)
def by' (n : Int) : Tm := .op2 (.mul .u32) b (.num n)
/-- 920: the number that twelve bits tell. -/
def expT : Tm := .ite (is top 0) b (.ite (is top 1) (by' 65537) (.ite (is top 2) (by' 16777472) (.ite (is top 3) (by' 16843009) (.op2 (.or .u32) (.op2 (.shr .u32) c k) (.op2 (.shl .u32) c (.op2 (.sub .u64) (.num 32) k))))))
/-- 921: may they be told? -/
def valT : Tm := .op2 .band (.op2 .le (.num 0) x0) (.op2 .band (.op2 .lt x0 (.num 4096)) (.op2 .bor (is (.op2 (.shr .i64) x0 (.num 8)) 0) (.op2 .bor (.op2 .lt (.num 3) (.op2 (.shr .i64) x0 (.num 8))) (.op1 .not (is (and x0 255) 0)))))
def kn : Kn := ⟨[], [], [], [], [0]⟩
set_option maxRecDepth 100000 in
theorem exp_run : pxIs sg (.int .u32 expT) (callT cx noS (run cx noS 400) 320 [.int .i64 (.var 0)] [] (.bit true)) kn = true := by kernel_rfl
set_option maxRecDepth 100000 in
theorem val_run : pxIs sg (.bool valT) (callT cx noS (run cx noS 400) 321 [.int .i64 (.var 0)] [] (.bit true)) kn = true := by kernel_rfl
def pat1 : SVal := .cons (.int .i64 (.var 0)) .nil
def expR (t : Tm) : SVal := .int .u32 (.app 920 t)
def valR (t : Tm) : SVal := .bool (.app 921 t)
end ex

/-- The signs: those of before; 920, 921. -/
def F1 (g : Nat) (ss : List Sc) : Sc :=
  match Nat.beq g 920 with
  | true => .int (ex.expT.den (envOf F ss)).asInt
  | false => match Nat.beq g 921 with
    | true => .bool (ex.valT.den (envOf F ss)).asBool
    | false => F g ss

set_option maxRecDepth 100000 in
theorem exp_u32 (η : Env) : 0 ≤ (ex.expT.den η).asInt ∧ (ex.expT.den η).asInt < 2 ^ 32 := by
  have u : ∀ n, 0 ≤ IntKind.u32.wrap n ∧ IntKind.u32.wrap n < 2 ^ 32 := fun n => wrap_has .u32 n
  unfold ex.expT
  simp only [Tm.den]
  repeat' split
  all_goals exact u _

set_option maxRecDepth 100000 in
theorem F1_has (g : Nat) (ss : List Sc) : kHas .i64 (F1 g ss).asInt := by
  unfold F1
  split
  · have := exp_u32 (envOf F ss)
    show -2 ^ 63 ≤ (ex.expT.den (envOf F ss)).asInt ∧ (ex.expT.den (envOf F ss)).asInt < 2 ^ 63
    omega
  · split
    · exact zero_has
    · exact F_has _ _

/-- What is asked of an environment's signs. -/
structure Signs (f : Nat → List Sc → Sc) : Prop where
  s900 : f 900 = F 900
  s901 : f 901 = F 901

set_option maxRecDepth 100000 in
theorem F_signs : Signs F := ⟨rfl, rfl⟩
set_option maxRecDepth 100000 in
theorem F1_signs : Signs F1 := ⟨rfl, rfl⟩

set_option maxRecDepth 100000 in
theorem sg_ok' {ρ : Env} (hF : Signs ρ.f) : sg.Ok ρ := by
  refine ⟨?_, ?_, ?_⟩
  · intro g t h ss
    simp only [sg] at h
    split at h
    · rename_i hg
      have := Nat.eq_of_beq_eq_true hg
      subst this
      simp only [Option.some.injEq] at h; subst h
      rw [hF.s901]
      have hc : ∀ g, Nat.beq g 900 = true → (envOf F0 ss).f g = ρ.f g := by
        intro g hg
        have := Nat.eq_of_beq_eq_true hg
        subst this
        show F0 900 = ρ.f 900
        rw [hF.s900]
        funext l
        rfl
      exact den_congr (P := fun g => Nat.beq g 900) (η := envOf F0 ss) (η' := ⟨fun i => ss.getD i (.int 0), ρ.f, ρ.val, ρ.ab⟩) rfl hc Chk.chk chk_signs
    · cases h
  · intro g xs y hm; cases hm
  · intro s _
    show (ρ.f 900 [s]).asInt = _
    rw [hF.s900]
    rfl

set_option maxRecDepth 100000 in
theorem chk_call' {f : Nat} (A : chk.All f) {ρ : Env} (V : VarsOk ρ) (hF : Signs ρ.f) : ∀ args h pc x, (pc.den ρ).asBool = true → (specR chkPat chkR args h pc).get ρ = some x → CallOk ρ cx.globs cx.P f args h x := by
  refine specR_ok V globsC rfl (by intro u hu; simp [chkPat, SVal.toList] at hu; subst hu; rfl) (fun _ => rfl) ?_
  intro L hL hp
  match L, hL with
  | [s0, s1, s2, s3, s4, s5, s6, s7, s8], _ =>
    obtain ⟨⟨p0, p1, p2, p3, p4, p5, p6, p7, _⟩, _⟩ := hp
    let x : Fields := ⟨s0.asInt, s1.asInt, s2.asInt, s3.asInt, s4.asInt, s5.asInt, s6.asInt, s7.asInt, s8.asBool⟩
    obtain ⟨x', hc, hv⟩ := chk_all A (x := x) ⟨p0, p1, p2, p3, p4, p5, p6, p7⟩
    refine ⟨envOf F x.scs, x', rfl, hc, fun ι => rfl, ?_⟩
    intro t ι ι' ht
    rw [hv ι']
    simp only [SVal.conc, chkR, Tm.den, ht, hF.s901]
    exact congrArg _ (chk_norm s0 s1 s2 s3 s4 s5 s6 s7 s8)

set_option maxRecDepth 100000 in
theorem one_vars {s : Sc} (h : kHas .i64 s.asInt) : VarsOk (envOf F [s]) := by
  refine ⟨?_, F_has⟩
  intro i
  match i with
  | 0 => exact h
  | k + 1 => exact zero_has

set_option maxRecDepth 100000 in
theorem exp_call {ρ : Env} (V : VarsOk ρ) (hF : ρ.f 920 = F1 920) : ∀ args h pc x, (pc.den ρ).asBool = true → (specR ex.pat1 ex.expR args h pc).get ρ = some x → CallOk ρ cx.globs cx.P 320 args h x := by
  refine specR_ok V globsC rfl (by intro u hu; simp [ex.pat1, SVal.toList] at hu; subst hu; rfl) (fun _ => rfl) ?_
  intro L hL hp
  match L, hL with
  | [s], _ =>
    have hs : kHas .i64 s.asInt := hp.1
    have S : Sats (envOf F [.int s.asInt]) ex.kn := by
      refine Sats.start (one_vars (s := .int s.asInt) hs) _ ?_
      intro i hi
      simp only [List.mem_cons, List.not_mem_nil, or_false] at hi
      subst hi
      exact ⟨_, rfl⟩
    obtain ⟨x', h1, h2⟩ := pxIs_ok (sg_ok' F_signs) _ _ S ex.exp_run
    refine ⟨envOf F [.int s.asInt], x', rfl, call_ok cxok (noS_ok _ _) (noS_body _) rfl h1, fun ι => rfl, ?_⟩
    intro t ι ι' ht
    rw [h2]
    simp only [SVal.conc, ex.expR, Tm.den, ht, hF]
    rfl

set_option maxRecDepth 100000 in
theorem val_call {ρ : Env} (V : VarsOk ρ) (hF : ρ.f 921 = F1 921) : ∀ args h pc x, (pc.den ρ).asBool = true → (specR ex.pat1 ex.valR args h pc).get ρ = some x → CallOk ρ cx.globs cx.P 321 args h x := by
  refine specR_ok V globsC rfl (by intro u hu; simp [ex.pat1, SVal.toList] at hu; subst hu; rfl) (fun _ => rfl) ?_
  intro L hL hp
  match L, hL with
  | [s], _ =>
    have hs : kHas .i64 s.asInt := hp.1
    have S : Sats (envOf F [.int s.asInt]) ex.kn := by
      refine Sats.start (one_vars (s := .int s.asInt) hs) _ ?_
      intro i hi
      simp only [List.mem_cons, List.not_mem_nil, or_false] at hi
      subst hi
      exact ⟨_, rfl⟩
    obtain ⟨x', h1, h2⟩ := pxIs_ok (sg_ok' F_signs) _ _ S ex.val_run
    refine ⟨envOf F [.int s.asInt], x', rfl, call_ok cxok (noS_ok _ _) (noS_body _) rfl h1, fun ι => rfl, ?_⟩
    intro t ι ι' ht
    rw [h2]
    simp only [SVal.conc, ex.valR, Tm.den, ht, hF]
    rfl

/-- What the walks know: 'Check' of both packages, Expand, Valid. -/
def chkS : Specs := fun f => match Nat.beq f 140 || Nat.beq f 130 with
  | true => some (specR chkPat chkR)
  | false => none
def expS : Specs := fun f => match Nat.beq f 320 with
  | true => some (specR ex.pat1 ex.expR)
  | false => match Nat.beq f 321 with
    | true => some (specR ex.pat1 ex.valR)
    | false => chkS f

set_option maxRecDepth 100000 in
theorem chkS_ok {ρ : Env} (V : VarsOk ρ) (hF : Signs ρ.f) : chkS.Ok ρ cx := by
  intro f sp h
  unfold chkS at h
  split at h
  · rename_i hf
    simp only [Option.some.injEq] at h; subst h
    simp only [Bool.or_eq_true] at hf
    rcases hf with hf | hf
    · have := Nat.eq_of_beq_eq_true hf; subst this; exact chk_call' chk.all_p V hF
    · have := Nat.eq_of_beq_eq_true hf; subst this; exact chk_call' chk.all_r V hF
  · cases h

set_option maxRecDepth 100000 in
theorem chkS_body : ∀ f, chkS f ≠ none → ∃ fn c, cx.P.funcs[f]? = some fn ∧ fn.body = some c := by
  intro f h
  unfold chkS at h
  split at h
  · rename_i hf
    simp only [Bool.or_eq_true] at hf
    rcases hf with hf | hf
    · have := Nat.eq_of_beq_eq_true hf; subst this; exact ⟨Tryz.f140, _, Tryz.func140, rfl⟩
    · have := Nat.eq_of_beq_eq_true hf; subst this; exact ⟨Tryz.f130, _, Tryz.func130, rfl⟩
  · exact (h rfl).elim

set_option maxRecDepth 100000 in
theorem expS_ok {ρ : Env} (V : VarsOk ρ) (hF : Signs ρ.f) (h920 : ρ.f 920 = F1 920) (h921 : ρ.f 921 = F1 921) : expS.Ok ρ cx := by
  intro f sp h
  unfold expS at h
  split at h
  · rename_i hf
    have := Nat.eq_of_beq_eq_true hf; subst this
    simp only [Option.some.injEq] at h; subst h; exact exp_call V h920
  · split at h
    · rename_i hf
      have := Nat.eq_of_beq_eq_true hf; subst this
      simp only [Option.some.injEq] at h; subst h; exact val_call V h921
    · exact chkS_ok V hF f sp h

set_option maxRecDepth 100000 in
theorem expS_body : ∀ f, expS f ≠ none → ∃ fn c, cx.P.funcs[f]? = some fn ∧ fn.body = some c := by
  intro f h
  unfold expS at h
  split at h
  · rename_i hf
    have := Nat.eq_of_beq_eq_true hf; subst this; exact ⟨Tryz.f320, _, Tryz.func320, rfl⟩
  · split at h
    · rename_i hf
      have := Nat.eq_of_beq_eq_true hf; subst this; exact ⟨Tryz.f321, _, Tryz.func321, rfl⟩
    · exact chkS_body f h

/-- Ways are not made one. -/
noncomputable def cxs' : Cx := { P := Tryz.prog, okT := [30], globs := [], sharp := true }
set_option maxRecDepth 100000 in
theorem cxsok' : cxs'.Ok := { okT := cxok.okT, names := cxok.names, mixed := cxok.mixed }
end Go.Proofs.YtdeelhbckfmaeaaGreatDoor
/- For the seat: expand.Find by a walk: the least number of twelve bits that tells a number. -/
namespace Go.Proofs.YtdeelhbckfmaeaaGreatDoor
open Go.Sx Go.ChangeShapes Go.WideShapes Go.RowKit Go.Joins Go.Deep

def expI (k : Int) : Int := (ex.expT.den (envOf F [.int k])).asInt
def valB (k : Int) : Bool := (ex.valT.den (envOf F [.int k])).asBool
/-- It is the one. -/
def hit (x : Int) (k : Nat) : Bool := valB k && (expI k == x)
/-- The least one (kept from being reckoned out). -/
noncomputable def findF : { f : Int → Option Nat // ∀ x, f x = (List.range 4096).find? (hit x) } := Classical.choice ⟨⟨_, fun _ => rfl⟩⟩
noncomputable def findN (x : Int) : Option Nat := findF.1 x
set_option maxRecDepth 100000 in
theorem findN_eq (x : Int) : findN x = (List.range 4096).find? (hit x) := findF.2 x
noncomputable def findI (x : Int) : Int := match findN x with | some n => n | none => 0
noncomputable def findB (x : Int) : Bool := (findN x).isSome

/-- What a walk keeps of the world. -/
def Inv (K : Nat → Prop) (w0 : World) (ι : Nm) (w : World) : Prop := HR (envOf F []) cx.globs K w0 ι [] w

set_option maxRecDepth 100000 in
theorem inv_of {ρ : Env} {K : Nat → Prop} {w0 : World} {ι ι' : Nm} {h : Heap} {w : World} (H : HR ρ cx.globs K w0 ι h w) : Inv K w0 ι' w := by
  have H0 := (H.forget (h' := []) (by intro n b hb; simp at hb)).ext (ι' := ι') (by intro m hm; simp at hm)
  refine ⟨H0.os, H0.tape, H0.output, H0.size, H0.kept, H0.old, fun _ h => False.elim h, ?_, ?_, ?_⟩
  · intro n b hb; simp at hb
  · intro n m b c hb; simp at hb
  · intro g cs hg
    obtain ⟨h1, h2, arr, t, fz, h3, h4⟩ := H0.globs g cs hg
    exact ⟨h1, h2, arr, t, fz, h3, by rw [h4]; exact globsC g cs hg _ _ _⟩

set_option maxRecDepth 100000 in
theorem inv_env {K : Nat → Prop} {w0 : World} {ι : Nm} {w : World} (H : Inv K w0 ι w) (ρ : Env) (hB : ∀ q, ρ.ab.B q → K q := by exact fun _ h => False.elim h) : HR ρ cx.globs K w0 ι [] w := by
  refine ⟨H.os, H.tape, H.output, H.size, H.kept, H.old, hB, ?_, ?_, ?_⟩
  · intro n b hb; simp at hb
  · intro n m b c hb; simp at hb
  · intro g cs hg
    obtain ⟨h1, h2, arr, t, fz, h3, h4⟩ := H.globs g cs hg
    exact ⟨h1, h2, arr, t, fz, h3, by rw [h4]; exact globsC g cs hg _ _ _⟩

set_option maxRecDepth 100000 in
theorem nat_has {k : Nat} (h : k ≤ 4096) : kHas .i64 (k : Int) := by
  show -2 ^ 63 ≤ (k : Int) ∧ (k : Int) < 2 ^ 63
  omega

set_option maxRecDepth 100000 in
theorem find_hit {x : Int} {k : Nat} (hk : k < 4096) (h : hit x k = true) (hno : ∀ j, j < k → hit x j = false) : findN x = some k := by
  rw [findN_eq, List.find?_range_eq_some]
  exact ⟨h, List.mem_range.2 hk, fun j hj => by rw [hno j hj]; rfl⟩

set_option maxRecDepth 100000 in
theorem find_none {x : Int} (hno : ∀ j, j < 4096 → hit x j = false) : findN x = none := by
  rw [findN_eq, List.find?_eq_none]
  intro j hj
  rw [hno j (List.mem_range.1 hj)]
  exact Bool.false_ne_true

/-- The relation of the loop. -/
def Fnd (x : Int) (K : Nat → Prop) (w0 : World) (ι : Nm) (i : Value) (wr : World) : Prop := ∃ k : Nat, k ≤ 4096 ∧ i = .int .i64 k ∧ (∀ j, j < k → hit x j = false) ∧ Inv K w0 ι wr

/-- What is answered. -/
def Fans (x : Int) (K : Nat → Prop) (w0 : World) (ι : Nm) (e : Ending) (w' : World) : Prop := e = .returned (.tuple #[.int .i64 (findI x), .bool (findB x)]) ∧ Inv K w0 ι w'

set_option maxRecDepth 100000 in
theorem fans_hit {x : Int} {k : Nat} {K : Nat → Prop} {w0 : World} {ι : Nm} {w' : World} (hk : k < 4096) (h : hit x k = true) (hno : ∀ j, j < k → hit x j = false) (hI : Inv K w0 ι w') : Fans x K w0 ι (.returned (.tuple #[.int .i64 (k : Int), .bool true])) w' := by
  refine ⟨?_, hI⟩
  unfold findI findB
  rw [find_hit hk h hno]
  rfl

set_option maxRecDepth 100000 in
theorem fans_none {x : Int} {K : Nat → Prop} {w0 : World} {ι : Nm} {w' : World} (hno : ∀ j, j < 4096 → hit x j = false) (hI : Inv K w0 ι w') : Fans x K w0 ι (.returned (.tuple #[.int .i64 0, .bool false])) w' := by
  refine ⟨?_, hI⟩
  unfold findI findB
  rw [find_none hno]
  rfl

set_option maxRecDepth 100000 in
theorem no_more {x : Int} {k : Nat} (h : hit x k = false) (hno : ∀ j, j < k → hit x j = false) : ∀ j, j < k + 1 → hit x j = false := by
  intro j hj
  by_cases e : j = k
  · subst e; exact h
  · exact hno j (by omega)

end Go.Proofs.YtdeelhbckfmaeaaGreatDoor
/- For the seat: laws of an instruction and its two halfwords. -/
namespace Go.Proofs.YtdeelhbckfmaeaaGreatDoor
open Go.Sx Go.ChangeShapes Go.WideShapes Go.RowKit Go.Joins Go.Deep

/-- The signs: those of before; 910, 911: the twelve bits of a number, whether there are some. -/
noncomputable def F2 (g : Nat) (ss : List Sc) : Sc :=
  match Nat.beq g 910 with
  | true => .int (findI (ss.getD 0 (.int 0)).asInt)
  | false => match Nat.beq g 911 with
    | true => .bool (findB (ss.getD 0 (.int 0)).asInt)
    | false => F1 g ss

set_option maxRecDepth 100000 in
theorem findI_range (x : Int) : 0 ≤ findI x ∧ findI x ≤ 4095 := by
  unfold findI
  split
  · rename_i n hn
    rw [findN_eq] at hn
    have := List.mem_range.1 (List.mem_of_find?_eq_some hn)
    omega
  · omega

set_option maxRecDepth 100000 in
theorem F2_has (g : Nat) (ss : List Sc) : kHas .i64 (F2 g ss).asInt := by
  unfold F2
  split
  · have := findI_range (ss.getD 0 (.int 0)).asInt
    show -2 ^ 63 ≤ findI (ss.getD 0 (.int 0)).asInt ∧ findI (ss.getD 0 (.int 0)).asInt < 2 ^ 63
    omega
  · split
    · exact zero_has
    · exact F1_has _ _

set_option maxRecDepth 100000 in
theorem F2_signs : Signs F2 := ⟨rfl, rfl⟩

namespace wid
def patU : SVal := .cons (.int .u32 (.var 0)) .nil
def findR (t : Tm) : SVal := .tup (.cons (.int .i64 (.app 910 t)) (.cons (.bool (.app 911 t)) .nil))
def sgL : Sg := { defs := fun g => match Nat.beq g 901 with | true => some Chk.chk | false => none, ufs := [(910, [5], 10), (911, [5], 11)], pop := 900 }
def kn : Kn := (((⟨[], [], [], [], [0, 1, 2, 3, 4, 5, 6, 7, 10]⟩ : Kn).tell (.le 10 4095) true).tell (.le 10 (-1)) false).tell (.lit 10 63) false
def ek (k : Nat) : Kn := kn.tell (.pt 0 (Int.ofNat k)) true
def withOp (k : Nat) (c : Cas) : Cas := ⟨c.pre, (0, false, .num (.ofNat k)) :: c.sub, c.pc⟩
end wid

/-- What the walks know: 'Check', how many ones, Find; Expand, Valid; 'awake'. -/
def widS : Specs := fun f => match Nat.beq f 313 with
  | true => some (specC onesPat onesCond popR)
  | false => expS f

set_option maxRecDepth 100000 in
theorem ones_call' {ρ : Env} (V : VarsOk ρ) (hF : ρ.f 900 = F 900) : ∀ args h pc x, (pc.den ρ).asBool = true → (specC onesPat onesCond popR args h pc).get ρ = some x → CallOk ρ cx.globs cx.P 313 args h x := by
  refine specC_ok V globsC rfl (by intro u hu; simp [onesPat, SVal.toList] at hu; subst hu; rfl) (fun _ => rfl) ?_
  intro ts hl hp hc
  match ts, hl with
  | [t], _ =>
    have hp' : kHas .u64 (t.den ρ).asInt := hp.1
    have hp2 : 0 ≤ (t.den ρ).asInt ∧ (t.den ρ).asInt < 2 ^ 64 := hp'
    have hc' := hc (.op2 .le t (.num 65535)) (by simp [onesCond])
    have hc2 : (t.den ρ).asInt ≤ 65535 := of_decide_eq_true hc'
    obtain ⟨n, hn⟩ := Int.eq_ofNat_of_zero_le hp2.1
    have hn16 : n < 65536 := by omega
    obtain ⟨x, h1, h2⟩ := leafInt_get (envOf F0 [.int (n : Int)]) ones_run
    refine ⟨envOf F0 [.int (n : Int)], x, rfl, call_ok cxok (noS_ok _ _) (noS_body _) rfl h1, ?_, ?_⟩
    · intro ι
      simp only [onesPat, SVal.concL, SVal.conc, Tm.den, envOf, envA, envA, List.map_cons, List.map_nil, List.getD_cons_zero, Sc.asInt_int, hn]
    · intro u ι ι' hu
      rw [h2]
      have e := Ones.ones_den (ρ := envOf F0 [.int (n : Int)]) n hn16 rfl
      simp only [SVal.conc, popR, Tm.den, hu, hF]
      rw [e]
      have : F 900 [t.den ρ] = .int (popI (n : Int)) := by
        show Sc.int (popI (t.den ρ).asInt) = _
        rw [hn]
      simp only [List.map_cons, List.map_nil]
      rw [this, Ones.popI_small n hn16, ones_pop n hn16]

set_option maxRecDepth 100000 in
theorem widS_ok {ρ : Env} (V : VarsOk ρ) (hf : ρ.f = F2) : widS.Ok ρ cx := by
  intro f sp h
  unfold widS at h
  split at h
  · rename_i hg
    have := Nat.eq_of_beq_eq_true hg; subst this
    simp only [Option.some.injEq] at h; subst h; exact ones_call' V (by rw [hf]; rfl)
  · exact expS_ok V (by rw [hf]; exact F2_signs) (by rw [hf]; rfl) (by rw [hf]; rfl) f sp h

set_option maxRecDepth 100000 in
theorem widS_body : ∀ f, widS f ≠ none → ∃ fn c, cx.P.funcs[f]? = some fn ∧ fn.body = some c := by
  intro f h
  unfold widS at h
  split at h
  · rename_i hg
    have := Nat.eq_of_beq_eq_true hg; subst this; exact ⟨Tryz.f313, _, Tryz.func313, rfl⟩
  · exact expS_body f h

/-- The scalars: an instruction's, a truth; its number's twelve bits. -/
noncomputable def Fields.scsW (x : Fields) (it : Bool) : List Sc := [.int x.x0, .int x.x1, .int x.x2, .int x.x3, .int x.x4, .int x.x5, .int x.x6, .int x.x7, .bool x.b, .bool it, .int (findI x.x5), .bool (findB x.x5)]

set_option maxRecDepth 100000 in
theorem scsW_ok {x : Fields} (h : x.Ok) (it : Bool) : VarsOk (envOf F2 (x.scsW it)) := by
  refine ⟨?_, F2_has⟩
  intro i
  match i with
  | 0 => exact h.h0
  | 1 => exact h.h1
  | 2 => exact h.h2
  | 3 => exact h.h3
  | 4 => exact h.h4
  | 5 => exact h.h5
  | 6 => exact h.h6
  | 7 => exact h.h7
  | 8 => exact zero_has
  | 9 => exact zero_has
  | 10 =>
    have := findI_range x.x5
    show -2 ^ 63 ≤ findI x.x5 ∧ findI x.x5 < 2 ^ 63
    omega
  | 11 => exact zero_has
  | n + 12 => exact zero_has

set_option maxRecDepth 100000 in
theorem knW_ok {x : Fields} (h : x.Ok) (it : Bool) : Sats (envOf F2 (x.scsW it)) wid.kn := by
  have r := findI_range x.x5
  have S : Sats (envOf F2 (x.scsW it)) ⟨[], [], [], [], [0, 1, 2, 3, 4, 5, 6, 7, 10]⟩ := by
    refine Sats.start (scsW_ok h it) _ ?_
    intro i hi
    simp only [List.mem_cons, List.not_mem_nil, or_false] at hi
    rcases hi with rfl | rfl | rfl | rfl | rfl | rfl | rfl | rfl | rfl
    all_goals exact ⟨_, rfl⟩
  have hb : bitI (findI x.x5) 63 = false := by
    rw [bitI_high _ 63 63 (by omega) (by omega) (by omega)]
    exact decide_eq_false (by omega)
  exact ((S.tell (.le 10 4095) (decide_eq_true (show findI x.x5 ≤ 4095 from r.2))).tell (.le 10 (-1)) (decide_eq_false (show ¬ findI x.x5 ≤ -1 by omega))).tell (.lit 10 63) hb

set_option maxRecDepth 100000 in
theorem sgL_ok {x : Fields} (it : Bool) : wid.sgL.Ok (envOf F2 (x.scsW it)) := by
  have s := sg_ok' (ρ := envOf F2 (x.scsW it)) F2_signs
  refine ⟨s.defs, ?_, s.pop⟩
  intro g xs y hm ss hss
  simp only [wid.sgL, List.mem_cons, List.not_mem_nil, or_false, Prod.mk.injEq] at hm
  have one : ∀ i : Nat, ss.map Sc.asInt = [i].map (fun v => ((envOf F2 (x.scsW it)).v v).asInt) → ∃ s, ss = [s] ∧ s.asInt = ((envOf F2 (x.scsW it)).v i).asInt := by
    intro i h
    match ss, h with
    | [s], h => exact ⟨s, rfl, by simpa using h⟩
    | [], h => simp at h
    | _ :: _ :: _, h => simp at h
  rcases hm with ⟨rfl, rfl, rfl⟩ | ⟨rfl, rfl, rfl⟩
  · obtain ⟨s, rfl, hs⟩ := one 5 hss
    show Sc.int (findI s.asInt) = Sc.int (findI x.x5)
    rw [hs]; rfl
  · obtain ⟨s, rfl, hs⟩ := one 5 hss
    show Sc.bool (findB s.asInt) = Sc.bool (findB x.x5)
    rw [hs]; rfl

set_option maxRecDepth 100000 in
theorem argW_conc (x : Fields) (it : Bool) (ι : Nm) : (argT (.var 0) (.var 1) (.var 3) (.var 5)).conc (envOf F2 (x.scsW it)) ι = x.val := rfl

namespace wid
def knLow : Kn := kn.tell (.le 0 0) true
def knHigh : Kn := kn.tell (.le 0 45) false
def refused : Tm := .op1 .not (.op2 .eq (.app 901 (argL (.var 0) (.var 1) (.var 3) (.var 5))) (.num 0))
set_option maxRecDepth 100000 in
theorem ref_low : pxT sgL refused knLow (fun _ => true) = true := by kernel_rfl
set_option maxRecDepth 100000 in
theorem ref_high : pxT sgL refused knHigh (fun _ => true) = true := by kernel_rfl
end wid

end Go.Proofs.YtdeelhbckfmaeaaGreatDoor
