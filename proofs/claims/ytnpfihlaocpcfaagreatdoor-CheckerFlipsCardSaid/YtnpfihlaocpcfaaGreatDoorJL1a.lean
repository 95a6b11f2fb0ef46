/- For the seat: texts joined: Chk, Spc, ExpDef, FindDef, WidDef, DcDef, AnsDef, DecDef, Ins9. -/
import Derived.Test.YtnpfihlaocpcfaaGreatDoorJHChkP0
import Derived.Test.YtnpfihlaocpcfaaGreatDoorJHChkP1
import Derived.Test.YtnpfihlaocpcfaaGreatDoorJHChkP2
import Derived.Test.YtnpfihlaocpcfaaGreatDoorJHChkP3
import Derived.Test.YtnpfihlaocpcfaaGreatDoorJHChkP4
import Derived.Test.YtnpfihlaocpcfaaGreatDoorJHChkP5
import Derived.ChangeVars
import Derived.Test.YtnpfihlaocpcfaaGreatDoorSxBack
import Derived.WalkKit
import Derived.LoopTactic
import Derived.Lib.Hide
import Derived.Test.YtnpfihlaocpcfaaGreatDoorSxCasW
import Derived.Test.YtnpfihlaocpcfaaGreatDoorSxEqx
import Derived.Test.YtnpfihlaocpcfaaGreatDoorJL0a
import Derived.Deep.RegionHeld3
/- For the seat: 'Check' of both packages answers as the sign 901 says. -/
namespace Go.Proofs.YtnpfihlaocpcfaaGreatDoor
open Go.Sx Go.ChangeShapes Go.WideShapes Go.RowKit Go.Joins Go.Deep
namespace chk

structure All (f : Nat) : Prop where
  lo : low f = true
  hi : high f = true
  a : itA f = true
  b : itB f = true
  c : itC f = true
  d : itD f = true
  go : ∀ k : Nat, 1 ≤ k → k ≤ 45 → k ≠ 42 → goes f k = true
  it : ∀ c : Nat, c ≤ 14 → its f c = true

set_option maxRecDepth 100000 in
theorem all_p : All 52 := by
  refine ⟨low_p, high_p, itA_p, itB_p, itC_p, itD_p, ?_, ?_⟩
  · intro k h h' h3
    match k, h, h', h3 with
    | 1, _, _, _ => exact go1_p
    | 2, _, _, _ => exact go2_p
    | 3, _, _, _ => exact go3_p
    | 4, _, _, _ => exact go4_p
    | 5, _, _, _ => exact go5_p
    | 6, _, _, _ => exact go6_p
    | 7, _, _, _ => exact go7_p
    | 8, _, _, _ => exact go8_p
    | 9, _, _, _ => exact go9_p
    | 10, _, _, _ => exact go10_p
    | 11, _, _, _ => exact go11_p
    | 12, _, _, _ => exact go12_p
    | 13, _, _, _ => exact go13_p
    | 14, _, _, _ => exact go14_p
    | 15, _, _, _ => exact go15_p
    | 16, _, _, _ => exact go16_p
    | 17, _, _, _ => exact go17_p
    | 18, _, _, _ => exact go18_p
    | 19, _, _, _ => exact go19_p
    | 20, _, _, _ => exact go20_p
    | 21, _, _, _ => exact go21_p
    | 22, _, _, _ => exact go22_p
    | 23, _, _, _ => exact go23_p
    | 24, _, _, _ => exact go24_p
    | 25, _, _, _ => exact go25_p
    | 26, _, _, _ => exact go26_p
    | 27, _, _, _ => exact go27_p
    | 28, _, _, _ => exact go28_p
    | 29, _, _, _ => exact go29_p
    | 30, _, _, _ => exact go30_p
    | 31, _, _, _ => exact go31_p
    | 32, _, _, _ => exact go32_p
    | 33, _, _, _ => exact go33_p
    | 34, _, _, _ => exact go34_p
    | 35, _, _, _ => exact go35_p
    | 36, _, _, _ => exact go36_p
    | 37, _, _, _ => exact go37_p
    | 38, _, _, _ => exact go38_p
    | 39, _, _, _ => exact go39_p
    | 40, _, _, _ => exact go40_p
    | 41, _, _, _ => exact go41_p
    | 43, _, _, _ => exact go43_p
    | 44, _, _, _ => exact go44_p
    | 45, _, _, _ => exact go45_p
    | 42, _, _, h3 => exact (h3 rfl).elim
    | n + 46, _, h', _ => omega
  · intro c h
    match c, h with
    | 0, _ => exact its0_p
    | 1, _ => exact its1_p
    | 2, _ => exact its2_p
    | 3, _ => exact its3_p
    | 4, _ => exact its4_p
    | 5, _ => exact its5_p
    | 6, _ => exact its6_p
    | 7, _ => exact its7_p
    | 8, _ => exact its8_p
    | 9, _ => exact its9_p
    | 10, _ => exact its10_p
    | 11, _ => exact its11_p
    | 12, _ => exact its12_p
    | 13, _ => exact its13_p
    | 14, _ => exact its14_p
    | n + 15, h => omega

set_option maxRecDepth 100000 in
theorem all_r : All 42 := by
  refine ⟨low_r, high_r, itA_r, itB_r, itC_r, itD_r, ?_, ?_⟩
  · intro k h h' h3
    match k, h, h', h3 with
    | 1, _, _, _ => exact go1_r
    | 2, _, _, _ => exact go2_r
    | 3, _, _, _ => exact go3_r
    | 4, _, _, _ => exact go4_r
    | 5, _, _, _ => exact go5_r
    | 6, _, _, _ => exact go6_r
    | 7, _, _, _ => exact go7_r
    | 8, _, _, _ => exact go8_r
    | 9, _, _, _ => exact go9_r
    | 10, _, _, _ => exact go10_r
    | 11, _, _, _ => exact go11_r
    | 12, _, _, _ => exact go12_r
    | 13, _, _, _ => exact go13_r
    | 14, _, _, _ => exact go14_r
    | 15, _, _, _ => exact go15_r
    | 16, _, _, _ => exact go16_r
    | 17, _, _, _ => exact go17_r
    | 18, _, _, _ => exact go18_r
    | 19, _, _, _ => exact go19_r
    | 20, _, _, _ => exact go20_r
    | 21, _, _, _ => exact go21_r
    | 22, _, _, _ => exact go22_r
    | 23, _, _, _ => exact go23_r
    | 24, _, _, _ => exact go24_r
    | 25, _, _, _ => exact go25_r
    | 26, _, _, _ => exact go26_r
    | 27, _, _, _ => exact go27_r
    | 28, _, _, _ => exact go28_r
    | 29, _, _, _ => exact go29_r
    | 30, _, _, _ => exact go30_r
    | 31, _, _, _ => exact go31_r
    | 32, _, _, _ => exact go32_r
    | 33, _, _, _ => exact go33_r
    | 34, _, _, _ => exact go34_r
    | 35, _, _, _ => exact go35_r
    | 36, _, _, _ => exact go36_r
    | 37, _, _, _ => exact go37_r
    | 38, _, _, _ => exact go38_r
    | 39, _, _, _ => exact go39_r
    | 40, _, _, _ => exact go40_r
    | 41, _, _, _ => exact go41_r
    | 43, _, _, _ => exact go43_r
    | 44, _, _, _ => exact go44_r
    | 45, _, _, _ => exact go45_r
    | 42, _, _, h3 => exact (h3 rfl).elim
    | n + 46, _, h', _ => omega
  · intro c h
    match c, h with
    | 0, _ => exact its0_r
    | 1, _ => exact its1_r
    | 2, _ => exact its2_r
    | 3, _ => exact its3_r
    | 4, _ => exact its4_r
    | 5, _ => exact its5_r
    | 6, _ => exact its6_r
    | 7, _ => exact its7_r
    | 8, _ => exact its8_r
    | 9, _ => exact its9_r
    | 10, _ => exact its10_r
    | 11, _ => exact its11_r
    | 12, _ => exact its12_r
    | 13, _ => exact its13_r
    | 14, _ => exact its14_r
    | n + 15, h => omega

end chk

/-- An instruction's fields. -/
structure Fields where
  x0 : Int
  x1 : Int
  x2 : Int
  x3 : Int
  x4 : Int
  x5 : Int
  x6 : Int
  x7 : Int
  b : Bool

def Fields.val (x : Fields) : Value := .agg #[.int .i64 x.x0, .int .i64 x.x1, .int .i64 x.x2, .int .i64 x.x3, .int .i64 x.x4, .int .i64 x.x5, .int .i64 x.x6, .int .i64 x.x7, .bool x.b]
def Fields.scs (x : Fields) : List Sc := [.int x.x0, .int x.x1, .int x.x2, .int x.x3, .int x.x4, .int x.x5, .int x.x6, .int x.x7, .bool x.b]

structure Fields.Ok (x : Fields) : Prop where
  h0 : kHas .i64 x.x0
  h1 : kHas .i64 x.x1
  h2 : kHas .i64 x.x2
  h3 : kHas .i64 x.x3
  h4 : kHas .i64 x.x4
  h5 : kHas .i64 x.x5
  h6 : kHas .i64 x.x6
  h7 : kHas .i64 x.x7

def insPat : SVal := .agg (.cons (.int .i64 (.var 0)) (.cons (.int .i64 (.var 1)) (.cons (.int .i64 (.var 2)) (.cons (.int .i64 (.var 3)) (.cons (.int .i64 (.var 4)) (.cons (.int .i64 (.var 5)) (.cons (.int .i64 (.var 6)) (.cons (.int .i64 (.var 7)) (.cons (.bool (.var 8)) .nil)))))))))
def chkPat : SVal := .cons insPat .nil
def chkR (t : Tm) : SVal := .int .i64 (.app 901 t)

set_option maxRecDepth 100000 in
theorem scs_ok {x : Fields} (h : x.Ok) : VarsOk (envOf F x.scs) := by
  refine ⟨?_, F_has⟩
  intro i
  match i with
  | 0 => exact h.h0
  | 1 => exact h.h1
  | 2 => exact h.h2
  | 3 => exact h.h3
  | 4 => exact h.h4
  | 5 => exact h.h5
  | 6 => exact h.h6
  | 7 => exact h.h7
  | 8 => exact zero_has
  | n + 9 => exact zero_has

set_option maxRecDepth 100000 in
theorem kn0_ok {x : Fields} (h : x.Ok) : Sats (envOf F x.scs) kn0 := by
  refine Sats.start (scs_ok h) _ ?_
  intro i hi
  simp only [List.mem_cons, List.not_mem_nil, or_false] at hi
  rcases hi with rfl | rfl | rfl | rfl | rfl | rfl | rfl | rfl
  all_goals exact ⟨_, rfl⟩

set_option maxRecDepth 100000 in
theorem arg_conc (x : Fields) {o c n i : Tm} (ho : o.den (envOf F x.scs) = .int x.x0) (hc : c.den (envOf F x.scs) = .int x.x1) (hn : n.den (envOf F x.scs) = .int x.x3) (hi : i.den (envOf F x.scs) = .int x.x5) (ι : Nm) : (argT o c n i).conc (envOf F x.scs) ι = x.val := by
  simp only [argT, SVal.conc, SVal.concL, ho, hc, hn, hi, Fields.val]
  rfl

set_option maxRecDepth 100000 in
theorem argL_den (x : Fields) {o c n i : Tm} (ho : o.den (envOf F x.scs) = .int x.x0) (hc : c.den (envOf F x.scs) = .int x.x1) (hn : n.den (envOf F x.scs) = .int x.x3) (hi : i.den (envOf F x.scs) = .int x.x5) : ((argL o c n i).den (envOf F x.scs)).asList = x.scs := by
  simp only [argL, Tm.den, ho, hc, hn, hi, Sc.asList_list]
  rfl

set_option maxRecDepth 100000 in
/-- At every instruction: an answer, and it is the sign's. -/
theorem chk_all {f : Nat} (A : chk.All f) {x : Fields} (hx : x.Ok) : ∃ x', CallOk (envOf F x.scs) cx.globs cx.P f chkPat.toList [] x' ∧ ∀ ι, x'.v.conc (envOf F x.scs) ι = .int .i64 (F 901 x.scs).asInt := by
  have so := sg_ok (ρ := envOf F x.scs) rfl
  have K := kn0_ok hx
  have go : ∀ (o c n i : Tm), o.den (envOf F x.scs) = .int x.x0 → c.den (envOf F x.scs) = .int x.x1 → n.den (envOf F x.scs) = .int x.x3 → i.den (envOf F x.scs) = .int x.x5 → o.signs (fun _ => false) = true → ∀ l e, Sats (envOf F x.scs) e → chk.at' f o c n i l e = true →
      (∀ t ∈ l, (t.den (envOf F x.scs)).asBool = true) → ∃ x', CallOk (envOf F x.scs) cx.globs cx.P f chkPat.toList [] x' ∧ ∀ ι, x'.v.conc (envOf F x.scs) ι = .int .i64 (F 901 x.scs).asInt := by
    intro o c n i ho hc hn hi _ l e hs hl hp
    obtain ⟨y, b, h1, h2, h3⟩ := pxInt_ok so _ _ hs hl
    have hc' := call_ok cxok (popS_ok (scs_ok hx) rfl) popS_body (conj_den _ l hp) h1
    refine ⟨y, hc'.args (by intro v hv; simp at hv; subst hv; rfl) ?_, ?_⟩
    · intro ι
      rw [List.map_cons, List.map_nil, arg_conc x ho hc hn hi]
      rfl
    · intro ι
      rw [h2]
      simp only [SVal.conc, h3, Tm.den, argL_den x ho hc hn hi]
      rfl
  have e0 : (chk.v 0).den (envOf F x.scs) = .int x.x0 := rfl
  have e1 : (chk.v 1).den (envOf F x.scs) = .int x.x1 := rfl
  have e3 : (chk.v 3).den (envOf F x.scs) = .int x.x3 := rfl
  have e5 : (chk.v 5).den (envOf F x.scs) = .int x.x5 := rfl
  by_cases h1 : x.x0 < 1
  · refine go _ _ _ _ e0 e1 e3 e5 rfl _ _ (K.tell (.le 0 0) ?_) A.lo ?_
    · exact decide_eq_true (show x.x0 ≤ 0 by omega)
    · simp [chk.lt, Tm.den, Op2.ev, e0, h1]
  by_cases h2 : 45 < x.x0
  · refine go _ _ _ _ e0 e1 e3 e5 rfl _ _ (K.tell (.le 0 45) ?_) A.hi ?_
    · exact decide_eq_false (show ¬ x.x0 ≤ 45 by omega)
    · simp [chk.lt, chk.gt, chk.no, Tm.den, Op1.ev, Op2.ev, e0, h1, h2]
  obtain ⟨k, hk⟩ := Int.eq_ofNat_of_zero_le (show 0 ≤ x.x0 by omega)
  have ek : (Tm.num (Int.ofNat k)).den (envOf F x.scs) = .int x.x0 := by rw [hk]; rfl
  by_cases h42 : k = 42
  · have e42 : (Tm.num 42).den (envOf F x.scs) = .int x.x0 := by rw [hk, h42]; rfl
    by_cases c1 : x.x1 < 0
    · refine go _ _ _ _ e42 e1 e3 e5 rfl _ _ (K.tell (.le 1 (-1)) ?_) A.a ?_
      · exact decide_eq_true (show x.x1 ≤ -1 by omega)
      · simp [chk.lt, Tm.den, Op2.ev, e1, c1]
    by_cases c2 : 14 < x.x1
    · refine go _ _ _ _ e42 e1 e3 e5 rfl _ _ (K.tell (.le 1 14) ?_) A.b ?_
      · exact decide_eq_false (show ¬ x.x1 ≤ 14 by omega)
      · simp [chk.lt, chk.gt, chk.no, Tm.den, Op1.ev, Op2.ev, e1, c1, c2]
    by_cases c3 : x.x5 < 1
    · refine go _ _ _ _ e42 e1 e3 e5 rfl _ _ (K.tell (.le 5 0) ?_) A.c ?_
      · exact decide_eq_true (show x.x5 ≤ 0 by omega)
      · simp [chk.lt, chk.gt, chk.no, Tm.den, Op1.ev, Op2.ev, e1, e5, c1, c2, c3]
    by_cases c4 : 15 < x.x5
    · refine go _ _ _ _ e42 e1 e3 e5 rfl _ _ (K.tell (.le 5 15) ?_) A.d ?_
      · exact decide_eq_false (show ¬ x.x5 ≤ 15 by omega)
      · simp [chk.lt, chk.gt, chk.no, Tm.den, Op1.ev, Op2.ev, e1, e5, c1, c2, c3, c4]
    obtain ⟨c, hc⟩ := Int.eq_ofNat_of_zero_le (show 0 ≤ x.x1 by omega)
    obtain ⟨m, hm⟩ := Int.eq_ofNat_of_zero_le (show 0 ≤ x.x5 by omega)
    have := List.all_eq_true.1 (A.it c (by omega)) m (by rw [List.mem_range'_1]; omega)
    exact go _ _ _ _ e42 (by rw [hc]; rfl) e3 (by rw [hm]; rfl) rfl _ _ K this (by simp)
  · exact go _ _ _ _ ek e1 e3 e5 rfl _ _ K (A.go k (by omega) (by omega) h42) (by simp)

set_option maxRecDepth 100000 in
theorem chk_norm (s0 s1 s2 s3 s4 s5 s6 s7 s8 : Sc) : (Chk.chk.den (envOf F0 [s0, s1, s2, s3, s4, s5, s6, s7, s8])).asInt = (Chk.chk.den (envOf F0 [.int s0.asInt, .int s1.asInt, .int s2.asInt, .int s3.asInt, .int s4.asInt, .int s5.asInt, .int s6.asInt, .int s7.asInt, .bool s8.asBool])).asInt := by
  kernel_rfl

set_option maxRecDepth 100000 in
theorem chk_call {f : Nat} (A : chk.All f) {ρ : Env} (V : VarsOk ρ) (hF : ρ.f = F) : ∀ args h pc x, (pc.den ρ).asBool = true → (specR chkPat chkR args h pc).get ρ = some x → CallOk ρ cx.globs cx.P f args h x := by
  refine specR_ok V globsC rfl (by intro u hu; simp [chkPat, SVal.toList] at hu; subst hu; rfl) (fun _ => rfl) ?_
  intro L hL hp
  match L, hL with
  | [s0, s1, s2, s3, s4, s5, s6, s7, s8], _ =>
    obtain ⟨⟨p0, p1, p2, p3, p4, p5, p6, p7, _⟩, _⟩ := hp
    let x : Fields := ⟨s0.asInt, s1.asInt, s2.asInt, s3.asInt, s4.asInt, s5.asInt, s6.asInt, s7.asInt, s8.asBool⟩
    obtain ⟨x', hc, hv⟩ := chk_all A (x := x) ⟨p0, p1, p2, p3, p4, p5, p6, p7⟩
    refine ⟨envOf F x.scs, x', rfl, hc, fun ι => rfl, ?_⟩
    intro t ι ι' ht
    rw [hv ι']
    simp only [SVal.conc, chkR, Tm.den, ht, hF]
    exact congrArg _ (chk_norm s0 s1 s2 s3 s4 s5 s6 s7 s8)

end Go.Proofs.YtnpfihlaocpcfaaGreatDoor
/- For the seat: what the walks know of 'Check'; an instruction's fields. -/
namespace Go.Proofs.YtnpfihlaocpcfaaGreatDoor
open Go.Sx Go.ChangeShapes Go.WideShapes Go.RowKit Go.Joins Go.Deep

set_option maxRecDepth 100000 in
theorem open_insR {H : Type} {enc : TypeId × Value → H} {w : World} {base : Nat} {spare : Nat → Bool} {held : Bool} {r : Reach} {b0 : Nat} {v : Value} {d : DataW H} {p : List MemPlace}
    (hv : Value.okWide Tryz.prog w r b0 30 v) (h : DataW.Trod enc Tryz.prog w base spare held 30 v d p) :
    ∃ x : Fields, x.Ok ∧ v = x.val ∧ p = [] ∧ ∀ (w' : World) (base' : Nat) (spare' : Nat → Bool) (held' : Bool), DataW.Trod enc Tryz.prog w' base' spare' held' 30 v d [] := by
  obtain ⟨vs, rfl, hl, hf, hp, ht⟩ := open_flat (ks := [some .i64, some .i64, some .i64, some .i64, some .i64, some .i64, some .i64, some .i64, none]) Tryz.underlying30 (by kernel_rfl) (by kernel_rfl) (by kernel_rfl) hv h
  match vs, hl with
  | [v0, v1, v2, v3, v4, v5, v6, v7, v8], _ =>
    obtain ⟨_, e0, n0, rfl, w0⟩ := hf 0 _ rfl
    obtain ⟨_, e1, n1, rfl, w1⟩ := hf 1 _ rfl
    obtain ⟨_, e2, n2, rfl, w2⟩ := hf 2 _ rfl
    obtain ⟨_, e3, n3, rfl, w3⟩ := hf 3 _ rfl
    obtain ⟨_, e4, n4, rfl, w4⟩ := hf 4 _ rfl
    obtain ⟨_, e5, n5, rfl, w5⟩ := hf 5 _ rfl
    obtain ⟨_, e6, n6, rfl, w6⟩ := hf 6 _ rfl
    obtain ⟨_, e7, n7, rfl, w7⟩ := hf 7 _ rfl
    obtain ⟨_, e8, b, rfl⟩ := hf 8 _ rfl
    simp only [List.getElem?_cons_zero, List.getElem?_cons_succ, Option.some.injEq] at e0 e1 e2 e3 e4 e5 e6 e7 e8
    subst e0 e1 e2 e3 e4 e5 e6 e7 e8
    exact ⟨⟨n0, n1, n2, n3, n4, n5, n6, n7, b⟩, ⟨wf_has w0, wf_has w1, wf_has w2, wf_has w3, wf_has w4, wf_has w5, wf_has w6, wf_has w7⟩, rfl, hp, ht⟩

def zeroIns : Value := .agg #[.int .i64 0, .int .i64 0, .int .i64 0, .int .i64 0, .int .i64 0, .int .i64 0, .int .i64 0, .int .i64 0, .bool false]
end Go.Proofs.YtnpfihlaocpcfaaGreatDoor
/- For the seat: the number of twelve bits (Expand, Valid) as signs. -/
namespace Go.Proofs.YtnpfihlaocpcfaaGreatDoor
open Go.Sx Go.ChangeShapes Go.WideShapes Go.RowKit Go.Joins Go.Deep

namespace ex
def x0 : Tm := .var 0
def and (a : Tm) (n : Int) : Tm := .op2 (.and .i64) a (.num n)
def is (a : Tm) (n : Int) : Tm := .op2 .eq a (.num n)
def top : Tm := and (.op2 (.shr .i64) x0 (.num 8)) 15
def b : Tm := .op1 (.conv .u32) (and x0 255)
def c : Tm := .op2 (.or .u32) b (.num 128)
def k : Tm := .op2 (.and .u64) (.op1 (.conv .u64) (and (.op2 (.shr .i64) x0 (.num 7)) 31)) (.num 31)
def by' (n : Int) : Tm := .op2 (.mul .u32) b (.num n)
/-- 920: the number that twelve bits tell. -/
def expT : Tm := .ite (is top 0) b (.ite (is top 1) (by' 65537) (.ite (is top 2) (by' 16777472) (.ite (is top 3) (by' 16843009) (.op2 (.or .u32) (.op2 (.shr .u32) c k) (.op2 (.shl .u32) c (.op2 (.sub .u64) (.num 32) k))))))
/-- 921: may they be told? -/
def valT : Tm := .op2 .band (.op2 .le (.num 0) x0) (.op2 .band (.op2 .lt x0 (.num 4096)) (.op2 .bor (is (.op2 (.shr .i64) x0 (.num 8)) 0) (.op2 .bor (.op2 .lt (.num 3) (.op2 (.shr .i64) x0 (.num 8))) (.op1 .not (is (and x0 255) 0)))))
def kn : Kn := ⟨[], [], [], [], [0]⟩
set_option maxRecDepth 100000 in
theorem exp_run : pxIs sg (.int .u32 expT) (callT cx noS (run cx noS 400) 136 [.int .i64 (.var 0)] [] (.bit true)) kn = true := by kernel_rfl
set_option maxRecDepth 100000 in
theorem val_run : pxIs sg (.bool valT) (callT cx noS (run cx noS 400) 137 [.int .i64 (.var 0)] [] (.bit true)) kn = true := by kernel_rfl
def pat1 : SVal := .cons (.int .i64 (.var 0)) .nil
def expR (t : Tm) : SVal := .int .u32 (.app 920 t)
def valR (t : Tm) : SVal := .bool (.app 921 t)
end ex

/-- The signs: those of before; 920, 921. -/
def F1 (g : Nat) (ss : List Sc) : Sc :=
  match Nat.beq g 920 with
  | true => .int (ex.expT.den (envOf F ss)).asInt
  | false => match Nat.beq g 921 with
    | true => .bool (ex.valT.den (envOf F ss)).asBool
    | false => F g ss

set_option maxRecDepth 100000 in
theorem exp_u32 (η : Env) : 0 ≤ (ex.expT.den η).asInt ∧ (ex.expT.den η).asInt < 2 ^ 32 := by
  have u : ∀ n, 0 ≤ IntKind.u32.wrap n ∧ IntKind.u32.wrap n < 2 ^ 32 := fun n => wrap_has .u32 n
  unfold ex.expT
  simp only [Tm.den]
  repeat' split
  all_goals exact u _

set_option maxRecDepth 100000 in
theorem F1_has (g : Nat) (ss : List Sc) : kHas .i64 (F1 g ss).asInt := by
  unfold F1
  split
  · have := exp_u32 (envOf F ss)
    show -2 ^ 63 ≤ (ex.expT.den (envOf F ss)).asInt ∧ (ex.expT.den (envOf F ss)).asInt < 2 ^ 63
    omega
  · split
    · exact zero_has
    · exact F_has _ _

/-- What is asked of an environment's signs. -/
structure Signs (f : Nat → List Sc → Sc) : Prop where
  s900 : f 900 = F 900
  s901 : f 901 = F 901

set_option maxRecDepth 100000 in
theorem F_signs : Signs F := ⟨rfl, rfl⟩
set_option maxRecDepth 100000 in
theorem F1_signs : Signs F1 := ⟨rfl, rfl⟩

set_option maxRecDepth 100000 in
theorem sg_ok' {ρ : Env} (hF : Signs ρ.f) : sg.Ok ρ := by
  refine ⟨?_, ?_, ?_⟩
  · intro g t h ss
    simp only [sg] at h
    split at h
    · rename_i hg
      have := Nat.eq_of_beq_eq_true hg
      subst this
      simp only [Option.some.injEq] at h; subst h
      rw [hF.s901]
      have hc : ∀ g, Nat.beq g 900 = true → (envOf F0 ss).f g = ρ.f g := by
        intro g hg
        have := Nat.eq_of_beq_eq_true hg
        subst this
        show F0 900 = ρ.f 900
        rw [hF.s900]
        funext l
        rfl
      exact den_congr (P := fun g => Nat.beq g 900) (η := envOf F0 ss) (η' := ⟨fun i => ss.getD i (.int 0), ρ.f, ρ.val, ρ.ab⟩) rfl hc Chk.chk chk_signs
    · cases h
  · intro g xs y hm; cases hm
  · intro s _
    show (ρ.f 900 [s]).asInt = _
    rw [hF.s900]
    rfl

set_option maxRecDepth 100000 in
theorem chk_call' {f : Nat} (A : chk.All f) {ρ : Env} (V : VarsOk ρ) (hF : Signs ρ.f) : ∀ args h pc x, (pc.den ρ).asBool = true → (specR chkPat chkR args h pc).get ρ = some x → CallOk ρ cx.globs cx.P f args h x := by
  refine specR_ok V globsC rfl (by intro u hu; simp [chkPat, SVal.toList] at hu; subst hu; rfl) (fun _ => rfl) ?_
  intro L hL hp
  match L, hL with
  | [s0, s1, s2, s3, s4, s5, s6, s7, s8], _ =>
    obtain ⟨⟨p0, p1, p2, p3, p4, p5, p6, p7, _⟩, _⟩ := hp
    let x : Fields := ⟨s0.asInt, s1.asInt, s2.asInt, s3.asInt, s4.asInt, s5.asInt, s6.asInt, s7.asInt, s8.asBool⟩
    obtain ⟨x', hc, hv⟩ := chk_all A (x := x) ⟨p0, p1, p2, p3, p4, p5, p6, p7⟩
    refine ⟨envOf F x.scs, x', rfl, hc, fun ι => rfl, ?_⟩
    intro t ι ι' ht
    rw [hv ι']
    simp only [SVal.conc, chkR, Tm.den, ht, hF.s901]
    exact congrArg _ (chk_norm s0 s1 s2 s3 s4 s5 s6 s7 s8)

set_option maxRecDepth 100000 in
theorem one_vars {s : Sc} (h : kHas .i64 s.asInt) : VarsOk (envOf F [s]) := by
  refine ⟨?_, F_has⟩
  intro i
  match i with
  | 0 => exact h
  | k + 1 => exact zero_has

set_option maxRecDepth 100000 in
theorem exp_call {ρ : Env} (V : VarsOk ρ) (hF : ρ.f 920 = F1 920) : ∀ args h pc x, (pc.den ρ).asBool = true → (specR ex.pat1 ex.expR args h pc).get ρ = some x → CallOk ρ cx.globs cx.P 136 args h x := by
  refine specR_ok V globsC rfl (by intro u hu; simp [ex.pat1, SVal.toList] at hu; subst hu; rfl) (fun _ => rfl) ?_
  intro L hL hp
  match L, hL with
  | [s], _ =>
    have hs : kHas .i64 s.asInt := hp.1
    have S : Sats (envOf F [.int s.asInt]) ex.kn := by
      refine Sats.start (one_vars (s := .int s.asInt) hs) _ ?_
      intro i hi
      simp only [List.mem_cons, List.not_mem_nil, or_false] at hi
      subst hi
      exact ⟨_, rfl⟩
    obtain ⟨x', h1, h2⟩ := pxIs_ok (sg_ok' F_signs) _ _ S ex.exp_run
    refine ⟨envOf F [.int s.asInt], x', rfl, call_ok cxok (noS_ok _ _) (noS_body _) rfl h1, fun ι => rfl, ?_⟩
    intro t ι ι' ht
    rw [h2]
    simp only [SVal.conc, ex.expR, Tm.den, ht, hF]
    rfl

set_option maxRecDepth 100000 in
theorem val_call {ρ : Env} (V : VarsOk ρ) (hF : ρ.f 921 = F1 921) : ∀ args h pc x, (pc.den ρ).asBool = true → (specR ex.pat1 ex.valR args h pc).get ρ = some x → CallOk ρ cx.globs cx.P 137 args h x := by
  refine specR_ok V globsC rfl (by intro u hu; simp [ex.pat1, SVal.toList] at hu; subst hu; rfl) (fun _ => rfl) ?_
  intro L hL hp
  match L, hL with
  | [s], _ =>
    have hs : kHas .i64 s.asInt := hp.1
    have S : Sats (envOf F [.int s.asInt]) ex.kn := by
      refine Sats.start (one_vars (s := .int s.asInt) hs) _ ?_
      intro i hi
      simp only [List.mem_cons, List.not_mem_nil, or_false] at hi
      subst hi
      exact ⟨_, rfl⟩
    obtain ⟨x', h1, h2⟩ := pxIs_ok (sg_ok' F_signs) _ _ S ex.val_run
    refine ⟨envOf F [.int s.asInt], x', rfl, call_ok cxok (noS_ok _ _) (noS_body _) rfl h1, fun ι => rfl, ?_⟩
    intro t ι ι' ht
    rw [h2]
    simp only [SVal.conc, ex.valR, Tm.den, ht, hF]
    rfl

/-- What the walks know: 'Check' of both packages, Expand, Valid. -/
def chkS : Specs := fun f => match Nat.beq f 52 || Nat.beq f 42 with
  | true => some (specR chkPat chkR)
  | false => none
def expS : Specs := fun f => match Nat.beq f 136 with
  | true => some (specR ex.pat1 ex.expR)
  | false => match Nat.beq f 137 with
    | true => some (specR ex.pat1 ex.valR)
    | false => chkS f

set_option maxRecDepth 100000 in
theorem chkS_ok {ρ : Env} (V : VarsOk ρ) (hF : Signs ρ.f) : chkS.Ok ρ cx := by
  intro f sp h
  unfold chkS at h
  split at h
  · rename_i hf
    simp only [Option.some.injEq] at h; subst h
    simp only [Bool.or_eq_true] at hf
    rcases hf with hf | hf
    · have := Nat.eq_of_beq_eq_true hf; subst this; exact chk_call' chk.all_p V hF
    · have := Nat.eq_of_beq_eq_true hf; subst this; exact chk_call' chk.all_r V hF
  · cases h

set_option maxRecDepth 100000 in
theorem chkS_body : ∀ f, chkS f ≠ none → ∃ fn c, cx.P.funcs[f]? = some fn ∧ fn.body = some c := by
  intro f h
  unfold chkS at h
  split at h
  · rename_i hf
    simp only [Bool.or_eq_true] at hf
    rcases hf with hf | hf
    · have := Nat.eq_of_beq_eq_true hf; subst this; exact ⟨Tryz.f52, _, Tryz.func52, rfl⟩
    · have := Nat.eq_of_beq_eq_true hf; subst this; exact ⟨Tryz.f42, _, Tryz.func42, rfl⟩
  · exact (h rfl).elim

set_option maxRecDepth 100000 in
theorem expS_ok {ρ : Env} (V : VarsOk ρ) (hF : Signs ρ.f) (h920 : ρ.f 920 = F1 920) (h921 : ρ.f 921 = F1 921) : expS.Ok ρ cx := by
  intro f sp h
  unfold expS at h
  split at h
  · rename_i hf
    have := Nat.eq_of_beq_eq_true hf; subst this
    simp only [Option.some.injEq] at h; subst h; exact exp_call V h920
  · split at h
    · rename_i hf
      have := Nat.eq_of_beq_eq_true hf; subst this
      simp only [Option.some.injEq] at h; subst h; exact val_call V h921
    · exact chkS_ok V hF f sp h

set_option maxRecDepth 100000 in
theorem expS_body : ∀ f, expS f ≠ none → ∃ fn c, cx.P.funcs[f]? = some fn ∧ fn.body = some c := by
  intro f h
  unfold expS at h
  split at h
  · rename_i hf
    have := Nat.eq_of_beq_eq_true hf; subst this; exact ⟨Tryz.f136, _, Tryz.func136, rfl⟩
  · split at h
    · rename_i hf
      have := Nat.eq_of_beq_eq_true hf; subst this; exact ⟨Tryz.f137, _, Tryz.func137, rfl⟩
    · exact chkS_body f h

/-- Ways are not made one. -/
noncomputable def cxs' : Cx := { P := Tryz.prog, okT := [30], globs := [(0, kindsS)], sharp := true }
set_option maxRecDepth 100000 in
theorem cxsok' : cxs'.Ok := { okT := cxok.okT, names := cxok.names, mixed := cxok.mixed }
end Go.Proofs.YtnpfihlaocpcfaaGreatDoor
/- For the seat: expand.Find by a walk: the least number of twelve bits that tells a number. -/
namespace Go.Proofs.YtnpfihlaocpcfaaGreatDoor
open Go.Sx Go.ChangeShapes Go.WideShapes Go.RowKit Go.Joins Go.Deep

def expI (k : Int) : Int := (ex.expT.den (envOf F [.int k])).asInt
def valB (k : Int) : Bool := (ex.valT.den (envOf F [.int k])).asBool
/-- It is the one. -/
def hit (x : Int) (k : Nat) : Bool := valB k && (expI k == x)
/-- The least one (kept from being reckoned out). -/
noncomputable def findF : { f : Int → Option Nat // ∀ x, f x = (List.range 4096).find? (hit x) } := Classical.choice ⟨⟨_, fun _ => rfl⟩⟩
noncomputable def findN (x : Int) : Option Nat := findF.1 x
set_option maxRecDepth 100000 in
theorem findN_eq (x : Int) : findN x = (List.range 4096).find? (hit x) := findF.2 x
noncomputable def findI (x : Int) : Int := match findN x with | some n => n | none => 0
noncomputable def findB (x : Int) : Bool := (findN x).isSome

/-- What a walk keeps of the world. -/
def Inv (K : Nat → Prop) (w0 : World) (ι : Nm) (w : World) : Prop := HR (envOf F []) cx.globs K w0 ι [] w

set_option maxRecDepth 100000 in
theorem inv_of {ρ : Env} {K : Nat → Prop} {w0 : World} {ι ι' : Nm} {h : Heap} {w : World} (H : HR ρ cx.globs K w0 ι h w) : Inv K w0 ι' w := by
  have H0 := (H.forget (h' := []) (by intro n b hb; simp at hb)).ext (ι' := ι') (by intro m hm; simp at hm)
  refine ⟨H0.os, H0.tape, H0.output, H0.size, H0.kept, H0.old, fun _ h => False.elim h, ?_, ?_, ?_⟩
  · intro n b hb; simp at hb
  · intro n m b c hb; simp at hb
  · intro g cs hg
    obtain ⟨h1, h2, arr, t, fz, h3, h4⟩ := H0.globs g cs hg
    exact ⟨h1, h2, arr, t, fz, h3, by rw [h4]; exact globsC g cs hg _ _ _⟩

set_option maxRecDepth 100000 in
theorem inv_env {K : Nat → Prop} {w0 : World} {ι : Nm} {w : World} (H : Inv K w0 ι w) (ρ : Env) (hB : ∀ q, ρ.ab.B q → K q := by exact fun _ h => False.elim h) : HR ρ cx.globs K w0 ι [] w := by
  refine ⟨H.os, H.tape, H.output, H.size, H.kept, H.old, hB, ?_, ?_, ?_⟩
  · intro n b hb; simp at hb
  · intro n m b c hb; simp at hb
  · intro g cs hg
    obtain ⟨h1, h2, arr, t, fz, h3, h4⟩ := H.globs g cs hg
    exact ⟨h1, h2, arr, t, fz, h3, by rw [h4]; exact globsC g cs hg _ _ _⟩

set_option maxRecDepth 100000 in
theorem nat_has {k : Nat} (h : k ≤ 4096) : kHas .i64 (k : Int) := by
  show -2 ^ 63 ≤ (k : Int) ∧ (k : Int) < 2 ^ 63
  omega

set_option maxRecDepth 100000 in
theorem find_hit {x : Int} {k : Nat} (hk : k < 4096) (h : hit x k = true) (hno : ∀ j, j < k → hit x j = false) : findN x = some k := by
  rw [findN_eq, List.find?_range_eq_some]
  exact ⟨h, List.mem_range.2 hk, fun j hj => by rw [hno j hj]; rfl⟩

set_option maxRecDepth 100000 in
theorem find_none {x : Int} (hno : ∀ j, j < 4096 → hit x j = false) : findN x = none := by
  rw [findN_eq, List.find?_eq_none]
  intro j hj
  rw [hno j (List.mem_range.1 hj)]
  exact Bool.false_ne_true

/-- The relation of the loop. -/
def Fnd (x : Int) (K : Nat → Prop) (w0 : World) (ι : Nm) (i : Value) (wr : World) : Prop := ∃ k : Nat, k ≤ 4096 ∧ i = .int .i64 k ∧ (∀ j, j < k → hit x j = false) ∧ Inv K w0 ι wr

/-- What is answered. -/
def Fans (x : Int) (K : Nat → Prop) (w0 : World) (ι : Nm) (e : Ending) (w' : World) : Prop := e = .returned (.tuple #[.int .i64 (findI x), .bool (findB x)]) ∧ Inv K w0 ι w'

set_option maxRecDepth 100000 in
theorem fans_hit {x : Int} {k : Nat} {K : Nat → Prop} {w0 : World} {ι : Nm} {w' : World} (hk : k < 4096) (h : hit x k = true) (hno : ∀ j, j < k → hit x j = false) (hI : Inv K w0 ι w') : Fans x K w0 ι (.returned (.tuple #[.int .i64 (k : Int), .bool true])) w' := by
  refine ⟨?_, hI⟩
  unfold findI findB
  rw [find_hit hk h hno]
  rfl

set_option maxRecDepth 100000 in
theorem fans_none {x : Int} {K : Nat → Prop} {w0 : World} {ι : Nm} {w' : World} (hno : ∀ j, j < 4096 → hit x j = false) (hI : Inv K w0 ι w') : Fans x K w0 ι (.returned (.tuple #[.int .i64 0, .bool false])) w' := by
  refine ⟨?_, hI⟩
  unfold findI findB
  rw [find_none hno]
  rfl

set_option maxRecDepth 100000 in
theorem no_more {x : Int} {k : Nat} (h : hit x k = false) (hno : ∀ j, j < k → hit x j = false) : ∀ j, j < k + 1 → hit x j = false := by
  intro j hj
  by_cases e : j = k
  · subst e; exact h
  · exact hno j (by omega)

end Go.Proofs.YtnpfihlaocpcfaaGreatDoor
/- For the seat: laws of an instruction and its two halfwords. -/
namespace Go.Proofs.YtnpfihlaocpcfaaGreatDoor
open Go.Sx Go.ChangeShapes Go.WideShapes Go.RowKit Go.Joins Go.Deep

/-- The signs: those of before; 910, 911: the twelve bits of a number, whether there are some. -/
noncomputable def F2 (g : Nat) (ss : List Sc) : Sc :=
  match Nat.beq g 910 with
  | true => .int (findI (ss.getD 0 (.int 0)).asInt)
  | false => match Nat.beq g 911 with
    | true => .bool (findB (ss.getD 0 (.int 0)).asInt)
    | false => F1 g ss

set_option maxRecDepth 100000 in
theorem findI_range (x : Int) : 0 ≤ findI x ∧ findI x ≤ 4095 := by
  unfold findI
  split
  · rename_i n hn
    rw [findN_eq] at hn
    have := List.mem_range.1 (List.mem_of_find?_eq_some hn)
    omega
  · omega

set_option maxRecDepth 100000 in
theorem F2_has (g : Nat) (ss : List Sc) : kHas .i64 (F2 g ss).asInt := by
  unfold F2
  split
  · have := findI_range (ss.getD 0 (.int 0)).asInt
    show -2 ^ 63 ≤ findI (ss.getD 0 (.int 0)).asInt ∧ findI (ss.getD 0 (.int 0)).asInt < 2 ^ 63
    omega
  · split
    · exact zero_has
    · exact F1_has _ _

set_option maxRecDepth 100000 in
theorem F2_signs : Signs F2 := ⟨rfl, rfl⟩

namespace wid
def patU : SVal := .cons (.int .u32 (.var 0)) .nil
def findR (t : Tm) : SVal := .tup (.cons (.int .i64 (.app 910 t)) (.cons (.bool (.app 911 t)) .nil))
def sgL : Sg := { defs := fun g => match Nat.beq g 901 with | true => some Chk.chk | false => none, ufs := [(910, [5], 10), (911, [5], 11)], pop := 900 }
def kn : Kn := (((⟨[], [], [], [], [0, 1, 2, 3, 4, 5, 6, 7, 10]⟩ : Kn).tell (.le 10 4095) true).tell (.le 10 (-1)) false).tell (.lit 10 63) false
def ek (k : Nat) : Kn := kn.tell (.pt 0 (Int.ofNat k)) true
def withOp (k : Nat) (c : Cas) : Cas := ⟨c.pre, (0, false, .num (.ofNat k)) :: c.sub, c.pc⟩
end wid

/-- What the walks know: 'Check', how many ones, Find; Expand, Valid; 'awake'. -/
def widS : Specs := fun f => match Nat.beq f 129 with
  | true => some (specC onesPat onesCond popR)
  | false => expS f

set_option maxRecDepth 100000 in
theorem ones_call' {ρ : Env} (V : VarsOk ρ) (hF : ρ.f 900 = F 900) : ∀ args h pc x, (pc.den ρ).asBool = true → (specC onesPat onesCond popR args h pc).get ρ = some x → CallOk ρ cx.globs cx.P 129 args h x := by
  refine specC_ok V globsC rfl (by intro u hu; simp [onesPat, SVal.toList] at hu; subst hu; rfl) (fun _ => rfl) ?_
  intro ts hl hp hc
  match ts, hl with
  | [t], _ =>
    have hp' : kHas .u64 (t.den ρ).asInt := hp.1
    have hp2 : 0 ≤ (t.den ρ).asInt ∧ (t.den ρ).asInt < 2 ^ 64 := hp'
    have hc' := hc (.op2 .le t (.num 65535)) (by simp [onesCond])
    have hc2 : (t.den ρ).asInt ≤ 65535 := of_decide_eq_true hc'
    obtain ⟨n, hn⟩ := Int.eq_ofNat_of_zero_le hp2.1
    have hn16 : n < 65536 := by omega
    obtain ⟨x, h1, h2⟩ := leafInt_get (envOf F0 [.int (n : Int)]) ones_run
    refine ⟨envOf F0 [.int (n : Int)], x, rfl, call_ok cxok (noS_ok _ _) (noS_body _) rfl h1, ?_, ?_⟩
    · intro ι
      simp only [onesPat, SVal.concL, SVal.conc, Tm.den, envOf, envA, envA, List.map_cons, List.map_nil, List.getD_cons_zero, Sc.asInt_int, hn]
    · intro u ι ι' hu
      rw [h2]
      have e := Ones.ones_den (ρ := envOf F0 [.int (n : Int)]) n hn16 rfl
      simp only [SVal.conc, popR, Tm.den, hu, hF]
      rw [e]
      have : F 900 [t.den ρ] = .int (popI (n : Int)) := by
        show Sc.int (popI (t.den ρ).asInt) = _
        rw [hn]
      simp only [List.map_cons, List.map_nil]
      rw [this, Ones.popI_small n hn16, ones_pop n hn16]

set_option maxRecDepth 100000 in
theorem widS_ok {ρ : Env} (V : VarsOk ρ) (hf : ρ.f = F2) : widS.Ok ρ cx := by
  intro f sp h
  unfold widS at h
  split at h
  · rename_i hg
    have := Nat.eq_of_beq_eq_true hg; subst this
    simp only [Option.some.injEq] at h; subst h; exact ones_call' V (by rw [hf]; rfl)
  · exact expS_ok V (by rw [hf]; exact F2_signs) (by rw [hf]; rfl) (by rw [hf]; rfl) f sp h

set_option maxRecDepth 100000 in
theorem widS_body : ∀ f, widS f ≠ none → ∃ fn c, cx.P.funcs[f]? = some fn ∧ fn.body = some c := by
  intro f h
  unfold widS at h
  split at h
  · rename_i hg
    have := Nat.eq_of_beq_eq_true hg; subst this; exact ⟨Tryz.f129, _, Tryz.func129, rfl⟩
  · exact expS_body f h

/-- The scalars: an instruction's, a truth; its number's twelve bits. -/
noncomputable def Fields.scsW (x : Fields) (it : Bool) : List Sc := [.int x.x0, .int x.x1, .int x.x2, .int x.x3, .int x.x4, .int x.x5, .int x.x6, .int x.x7, .bool x.b, .bool it, .int (findI x.x5), .bool (findB x.x5)]

set_option maxRecDepth 100000 in
theorem scsW_ok {x : Fields} (h : x.Ok) (it : Bool) : VarsOk (envOf F2 (x.scsW it)) := by
  refine ⟨?_, F2_has⟩
  intro i
  match i with
  | 0 => exact h.h0
  | 1 => exact h.h1
  | 2 => exact h.h2
  | 3 => exact h.h3
  | 4 => exact h.h4
  | 5 => exact h.h5
  | 6 => exact h.h6
  | 7 => exact h.h7
  | 8 => exact zero_has
  | 9 => exact zero_has
  | 10 =>
    have := findI_range x.x5
    show -2 ^ 63 ≤ findI x.x5 ∧ findI x.x5 < 2 ^ 63
    omega
  | 11 => exact zero_has
  | n + 12 => exact zero_has

set_option maxRecDepth 100000 in
theorem knW_ok {x : Fields} (h : x.Ok) (it : Bool) : Sats (envOf F2 (x.scsW it)) wid.kn := by
  have r := findI_range x.x5
  have S : Sats (envOf F2 (x.scsW it)) ⟨[], [], [], [], [0, 1, 2, 3, 4, 5, 6, 7, 10]⟩ := by
    refine Sats.start (scsW_ok h it) _ ?_
    intro i hi
    simp only [List.mem_cons, List.not_mem_nil, or_false] at hi
    rcases hi with rfl | rfl | rfl | rfl | rfl | rfl | rfl | rfl | rfl
    all_goals exact ⟨_, rfl⟩
  have hb : bitI (findI x.x5) 63 = false := by
    rw [bitI_high _ 63 63 (by omega) (by omega) (by omega)]
    exact decide_eq_false (by omega)
  exact ((S.tell (.le 10 4095) (decide_eq_true (show findI x.x5 ≤ 4095 from r.2))).tell (.le 10 (-1)) (decide_eq_false (show ¬ findI x.x5 ≤ -1 by omega))).tell (.lit 10 63) hb

set_option maxRecDepth 100000 in
theorem sgL_ok {x : Fields} (it : Bool) : wid.sgL.Ok (envOf F2 (x.scsW it)) := by
  have s := sg_ok' (ρ := envOf F2 (x.scsW it)) F2_signs
  refine ⟨s.defs, ?_, s.pop⟩
  intro g xs y hm ss hss
  simp only [wid.sgL, List.mem_cons, List.not_mem_nil, or_false, Prod.mk.injEq] at hm
  have one : ∀ i : Nat, ss.map Sc.asInt = [i].map (fun v => ((envOf F2 (x.scsW it)).v v).asInt) → ∃ s, ss = [s] ∧ s.asInt = ((envOf F2 (x.scsW it)).v i).asInt := by
    intro i h
    match ss, h with
    | [s], h => exact ⟨s, rfl, by simpa using h⟩
    | [], h => simp at h
    | _ :: _ :: _, h => simp at h
  rcases hm with ⟨rfl, rfl, rfl⟩ | ⟨rfl, rfl, rfl⟩
  · obtain ⟨s, rfl, hs⟩ := one 5 hss
    show Sc.int (findI s.asInt) = Sc.int (findI x.x5)
    rw [hs]; rfl
  · obtain ⟨s, rfl, hs⟩ := one 5 hss
    show Sc.bool (findB s.asInt) = Sc.bool (findB x.x5)
    rw [hs]; rfl

set_option maxRecDepth 100000 in
theorem argW_conc (x : Fields) (it : Bool) (ι : Nm) : (argT (.var 0) (.var 1) (.var 3) (.var 5)).conc (envOf F2 (x.scsW it)) ι = x.val := rfl

namespace wid
def knLow : Kn := kn.tell (.le 0 0) true
def knHigh : Kn := kn.tell (.le 0 45) false
def refused : Tm := .op1 .not (.op2 .eq (.app 901 (argL (.var 0) (.var 1) (.var 3) (.var 5))) (.num 0))
set_option maxRecDepth 100000 in
theorem ref_low : pxT sgL refused knLow (fun _ => true) = true := by kernel_rfl
set_option maxRecDepth 100000 in
theorem ref_high : pxT sgL refused knHigh (fun _ => true) = true := by kernel_rfl
end wid

end Go.Proofs.YtnpfihlaocpcfaaGreatDoor
/- For the seat: functions that answer, whatever the world; encoders and decoders, there and back. -/
namespace Go.Proofs.YtnpfihlaocpcfaaGreatDoor
open Go.Sx Go.ChangeShapes Go.WideShapes Go.RowKit Go.Joins Go.Deep

set_option maxRecDepth 100000 in
theorem laid_below {w w' : World} (h : Laid w) (hb : Below w.heap.size w w') : Laid w' := by
  obtain ⟨t, fz, hw⟩ := h
  exact ⟨t, fz, by rw [hb.block 0 (Array.getElem?_eq_some_iff.1 hw).1]; exact hw⟩

set_option maxRecDepth 100000 in
theorem inv_laid {K : Nat → Prop} {w0 : World} {ι : Nm} {w : World} (h : Inv K w0 ι w) : Laid w := by
  obtain ⟨h1, _, arr, t, fz, h3, h4⟩ := h.globs 0 kindsS (by simp [cx])
  refine ⟨t, fz, ?_⟩
  rw [h.kept 0 h1, h3]
  have : arr = cells12 := by
    apply Array.toList_inj.1
    rw [h4]; rfl
  rw [this]

/-- Some world in which the variable is laid. -/
noncomputable def lw : World := { (default : World) with heap := #[.cells cells12 0 (0, 0)] }
set_option maxRecDepth 100000 in
theorem lw_laid : Laid lw := ⟨0, (0, 0), rfl⟩

/-- A function of scalars answers, whatever the world; nothing that was there is changed. -/
def Ans (f : Nat) (args : List Value) (v : Value) : Prop := ∀ w, Laid w → Calls Tryz.prog f args.toArray w fun e w' => e = .returned v ∧ Below w.heap.size w w'

set_option maxRecDepth 100000 in
theorem Ans.go {f : Nat} {args : List Value} {v : Value} (h : Ans f args v) {w : World} (hw : Laid w) : Calls Tryz.prog f args.toArray w fun e w' => e = .returned v ∧ Below w.heap.size w w' := h w hw

set_option maxRecDepth 100000 in
theorem Ans.inv {f : Nat} {args : List Value} {v : Value} (h : Ans f args v) {K : Nat → Prop} {w0 : World} {ι : Nm} {w : World} (hI : Inv K w0 ι w) :
    Calls Tryz.prog f args.toArray w fun e w' => e = .returned v ∧ Inv K w0 ι w' :=
  (h w (inv_laid hI)).mono fun _ _ ⟨he, hb⟩ => ⟨he, hI.under hb⟩

set_option maxRecDepth 100000 in
theorem ans_of {ρ : Env} {f : Nat} {args : List SVal} {x : Res} {l : List Value} {v : Value} (hc : CallOk ρ cx.globs cx.P f args [] x) (hsc : ∀ u ∈ args, u.sc 0 = true) (ha : args.map (·.conc ρ ι0) = l) (hv : ∀ ι, x.v.conc ρ ι = v) (hab : ∀ q, ¬ ρ.ab.B q := by exact fun _ h => h) : Ans f l v := by
  intro w hw
  have := hc (ownK w) w ι0 w (start ρ hw (fun q h => (hab q h).elim)) hsc
  rw [ha] at this
  refine Calls.mono (R := _) (show Calls Tryz.prog f l.toArray w _ from this) ?_
  rintro e w' ⟨ι', _, _, H, _, _, rfl⟩
  exact ⟨by rw [hv ι'], H.grown⟩

set_option maxRecDepth 100000 in
theorem Ans.one {f : Nat} (hi : Tryz.prog.inits.idxOf? f = none) {l : List Value} {u v : Value} (h1 : Ans f l u) (h2 : Ans f l v) : u = v := calls_one hi (h1 lw lw_laid) (h2 lw lw_laid)

set_option maxRecDepth 100000 in
/-- A function of scalars that answers, as something that is known to the walks. -/
theorem Ans.ok {ρ : Env} {f : Nat} {args : List SVal} {v : SVal} (h : ∀ ι, Ans f (args.map (·.conc ρ ι)) (v.conc ρ ι)) (hsc : v.sc 0 = true) (hab : ∀ q, ¬ ρ.ab.B q := by exact fun _ h => h) : CallOk ρ cx.globs cx.P f args [] ⟨v, [], .bit true⟩ := by
  intro K w0 ι w H _
  refine (((h ι).inv (inv_of (ι' := ι) H))).mono ?_
  rintro e w' ⟨rfl, hI⟩
  exact ⟨ι, Nm.Ext.refl _ _, Nat.le_refl _, inv_env hI _ (fun q h => (hab q h).elim), SVal.sc_mono (Nat.zero_le _) _ hsc, rfl, rfl⟩

/-- An encoder's answer; where there is one, the decoder gives the instruction back. -/
structure EncP (E D n : Nat) (x : Fields) (it : Bool) (p : List Int × Bool) : Prop where
  len : p.1.length = n
  has : ∀ a ∈ p.1, kHas .i64 a
  enc : Ans E [x.val, .bool it] (.tuple (p.1.map (Value.int .i64) ++ [Value.bool p.2]).toArray)
  dec : p.2 = true → Ans D (p.1.map (Value.int .i64) ++ [Value.bool it]) (.tuple #[x.val, .bool true])

namespace apt
def ins : SVal := argT (.var 0) (.var 1) (.var 3) (.var 5)
def it : SVal := .bool (.var 9)
end apt

set_option maxRecDepth 100000 in
theorem insOf_conc {ρ : Env} {y v : SVal} {o : Tm} (h : insOf y = some (v, o)) (ι : Nm) : y.conc ρ ι = .tuple #[v.conc ρ ι, .bool (o.den ρ).asBool] := by
  unfold insOf at h
  split at h
  · simp only [Option.some.injEq, Prod.mk.injEq] at h
    obtain ⟨rfl, rfl⟩ := h
    rfl
  · cases h

set_option maxRecDepth 100000 in
theorem encP_of {E D n : Nat} {x : Fields} (hx : x.Ok) (it : Bool)
    (h : ∃ (y : Res) (l : List Tm) (t : Tm), CallOk (envOf F2 (x.scsW it)) cx.globs cx.P E [apt.ins, apt.it] [] y ∧ answerOf y.v = some (l, t) ∧ l.length = n ∧
      ((t.den (envOf F2 (x.scsW it))).asBool = true → ∃ (y : Res) (v : SVal) (o : Tm), CallOk (envOf F2 (x.scsW it)) cx.globs cx.P D (l.map (.int .i64) ++ [apt.it]) [] y ∧ insOf y.v = some (v, o) ∧ (o.den (envOf F2 (x.scsW it))).asBool = true ∧ ∀ ι ι', v.conc (envOf F2 (x.scsW it)) ι = apt.ins.conc (envOf F2 (x.scsW it)) ι')) :
    ∃ p, EncP E D n x it p := by
  obtain ⟨y, l, t, hc, ha, hl, hd⟩ := h
  obtain ⟨a1, a2⟩ := answerOf_ok (ρ := envOf F2 (x.scsW it)) ha
  refine ⟨(l.map fun a => (a.den (envOf F2 (x.scsW it))).asInt, (t.den (envOf F2 (x.scsW it))).asBool), by simpa using hl, ?_, ?_, ?_⟩
  · intro a h
    obtain ⟨b, hb, rfl⟩ := List.mem_map.1 h
    exact inK_ok (scsW_ok hx it) .i64 b (a2 b hb)
  · refine ans_of hc (by intro v hv; simp only [List.mem_cons, List.not_mem_nil, or_false] at hv; rcases hv with rfl | rfl <;> rfl) rfl ?_
    intro ι'
    rw [a1 ι', List.map_map]
    rfl
  · intro ht
    obtain ⟨y2, v, o, hc2, hi, ho, hv⟩ := hd ht
    refine ans_of hc2 (by
      intro v hv
      simp only [List.mem_append, List.mem_map, List.mem_cons, List.not_mem_nil, or_false] at hv
      rcases hv with ⟨u, _, rfl⟩ | rfl <;> rfl) ?_ ?_
    · rw [List.map_append, List.map_map, List.map_map]
      rfl
    · intro ι'
      rw [insOf_conc hi ι', ho, hv ι' ι']
      rfl

/-! ### The cases -/

/-- The number's twelve bits are there, and tell it. -/
def sgF : Sg := { defs := fun g => match Nat.beq g 901 with | true => some Chk.chk | false => none, ufs := [(910, [5], 10), (911, [5], 11), (920, [10], 5), (921, [10], 11)], pop := 900 }

set_option maxRecDepth 100000 in
theorem find_some {x : Int} (h : findB x = true) : valB (findI x) = true ∧ expI (findI x) = x := by
  unfold findB at h
  unfold findI
  cases hn : findN x with
  | none => rw [hn] at h; cases h
  | some n =>
    rw [findN_eq] at hn
    have := List.find?_some hn
    unfold hit at this
    rw [Bool.and_eq_true] at this
    exact ⟨this.1, eq_of_beq this.2⟩

set_option maxRecDepth 100000 in
theorem sgF_ok {x : Fields} (it : Bool) (hf : findB x.x5 = true) : sgF.Ok (envOf F2 (x.scsW it)) := by
  have s := sgL_ok (x := x) it
  obtain ⟨hv, he⟩ := find_some hf
  refine ⟨s.defs, ?_, s.pop⟩
  intro g xs y hm ss hss
  simp only [sgF, List.mem_cons, List.not_mem_nil, or_false, Prod.mk.injEq] at hm
  have one : ∀ i : Nat, ss.map Sc.asInt = [i].map (fun v => ((envOf F2 (x.scsW it)).v v).asInt) → ∃ s, ss = [s] ∧ s.asInt = ((envOf F2 (x.scsW it)).v i).asInt := by
    intro i h
    match ss, h with
    | [s], h => exact ⟨s, rfl, by simpa using h⟩
    | [], h => simp at h
    | _ :: _ :: _, h => simp at h
  rcases hm with ⟨rfl, rfl, rfl⟩ | ⟨rfl, rfl, rfl⟩ | ⟨rfl, rfl, rfl⟩ | ⟨rfl, rfl, rfl⟩
  · exact s.ufs 910 [5] 10 (by simp [wid.sgL]) ss hss
  · exact s.ufs 911 [5] 11 (by simp [wid.sgL]) ss hss
  · obtain ⟨s, rfl, hs⟩ := one 10 hss
    have hs : s.asInt = findI x.x5 := hs
    show Sc.int (expI s.asInt) = Sc.int x.x5
    rw [hs, he]
  · obtain ⟨s, rfl, hs⟩ := one 10 hss
    have hs : s.asInt = findI x.x5 := hs
    show Sc.bool (valB s.asInt) = Sc.bool (findB x.x5)
    rw [hs, hv, hf]

namespace apt
def nthN (k j : Nat) : Cas := (Cb.casesN k).getD j ⟨[], [], []⟩
def covN (k : Nat) : Bool := pxT wid.sgL (anyT ((Cb.casesN k).map Cas.cond)) (wid.ek k) (fun _ => true)
/-- Ldm and Stm by each register. -/
def casesV (k : Nat) : List (Bool × Cas) := match Nat.beq k 31 || Nat.beq k 32 with
  | true => (false, Cb.refused k) :: (Cb.prod [Cb.zs [1, 2, 4, 5, 6], (List.range 15).map (fun n => Cb.lit 3 (Int.ofNat n)), [Cb.msk 7 65535]]).map fun c => (false, c)
  | false => Cb.casesW k
def nthV (k j : Nat) : Bool × Cas := (casesV k).getD j (false, ⟨[], [], []⟩)
def sgOf : Bool → Sg
  | true => sgF
  | false => wid.sgL
def covV (k : Nat) : Bool := pxT wid.sgL (anyT ((casesV k).map fun c => c.2.cond)) (wid.ek k) (fun _ => true)
/-- What such a case knows. -/
def tells (c : Bool × Cas) : Bool := !c.1 || (c.2.pre.contains (Cb.fnd (Cb.V 5)) && (c.2.pre.contains (Cb.le (Cb.num 0) (Cb.V 5)) && c.2.pre.contains (Cb.le (Cb.V 5) (Cb.num 4294967295))))
def tellsV : Nat → Bool
  | 0 => true
  | n + 1 => (casesV (n + 1)).all tells && tellsV n
set_option maxRecDepth 100000 in
theorem tellsV45 : tellsV 45 = true := by kernel_rfl
set_option maxRecDepth 100000 in
theorem tellsV_get : ∀ n, tellsV n = true → ∀ k, 1 ≤ k → k ≤ n → (casesV k).all tells = true
  | 0, _, k, h, h' => by omega
  | n + 1, hc, k, h, h' => by
    simp only [tellsV, Bool.and_eq_true] at hc
    by_cases e : k = n + 1
    · subst e; exact hc.1
    · exact tellsV_get n hc.2 k h (by omega)
def cq : Cas := ⟨[wid.refused], [], [wid.refused]⟩
/-- The walk at a case, with what is known of callees. -/
noncomputable def nat (S : Specs) (E D k j : Nat) : Bool := pxBoth wid.sgL (backTree cxs' S 3000 E D 1 ins it (wid.withOp k (nthN k j))) (wid.ek k)
noncomputable def vat (S : Specs) (E D k j : Nat) : Bool := pxBoth (sgOf (nthV k j).1) (backTree cxs' S 3000 E D 2 ins it (wid.withOp k (nthV k j).2)) (wid.ek k)
noncomputable def atq (S : Specs) (E D n : Nat) (e : Kn) : Bool := pxBoth wid.sgL (backTree cxs' S 3000 E D n ins it cq) e
end apt

set_option maxRecDepth 100000 in
theorem cq_cond {ρ : Env} (h : (wid.refused.den ρ).asBool = true) : (apt.cq.cond.den ρ).asBool = true := by
  show ((wid.refused.den ρ).asBool && true) = true
  rw [h]; rfl

set_option maxRecDepth 100000 in
theorem exN {S : Specs} (hS : ∀ {ρ : Env}, VarsOk ρ → ρ.f = F2 → S.Ok ρ cx) (hB : ∀ f, S f ≠ none → ∃ fn c, cx.P.funcs[f]? = some fn ∧ fn.body = some c) {E D : Nat} {x : Fields} (hx : x.Ok) (it : Bool)
    (hlo : apt.atq S E D 1 wid.knLow = true) (hhi : apt.atq S E D 1 wid.knHigh = true) (hcov : ∀ k : Nat, 1 ≤ k → k ≤ 45 → apt.covN k = true)
    (hgo : ∀ k : Nat, 1 ≤ k → k ≤ 45 → ∀ j : Nat, j < (Cb.casesN k).length → apt.nat S E D k j = true) : ∃ p, EncP E D 1 x it p := by
  have Kn := knW_ok hx it
  have so := sgL_ok (x := x) it
  have hSo := hS (scsW_ok hx it) rfl
  have H := start (envOf F2 (x.scsW it)) lw_laid
  by_cases h1 : x.x0 < 1
  · have S := Kn.tell (.le 0 0) (decide_eq_true (show x.x0 ≤ 0 by omega))
    exact encP_of hx it (back_ok cxsok' hSo hB rfl rfl (cq_cond (pxT_ok so S wid.ref_low).1) so S hlo H)
  by_cases h2 : 45 < x.x0
  · have S := Kn.tell (.le 0 45) (decide_eq_false (show ¬ x.x0 ≤ 45 by omega))
    exact encP_of hx it (back_ok cxsok' hSo hB rfl rfl (cq_cond (pxT_ok so S wid.ref_high).1) so S hhi H)
  obtain ⟨k, hk⟩ := Int.eq_ofNat_of_zero_le (show 0 ≤ x.x0 by omega)
  have S := Kn.tell (.pt 0 (Int.ofNat k)) (b := true) (decide_eq_true (show x.x0 = Int.ofNat k by rw [hk]; rfl))
  obtain ⟨c, hc, hcond⟩ := cas_cov so S (hcov k (by omega) (by omega))
  obtain ⟨j, hj, hjc⟩ := List.getElem_of_mem hc
  have hnth : apt.nthN k j = c := by simp only [apt.nthN, List.getD, List.getElem?_eq_getElem hj, Option.getD_some, hjc]
  have hgo' := hgo k (by omega) (by omega) j hj
  rw [apt.nat, hnth] at hgo'
  exact encP_of hx it (back_ok (c := wid.withOp k c) cxsok' hSo hB rfl rfl hcond so S hgo' H)

set_option maxRecDepth 100000 in
theorem exV {S : Specs} (hS : ∀ {ρ : Env}, VarsOk ρ → ρ.f = F2 → S.Ok ρ cx) (hB : ∀ f, S f ≠ none → ∃ fn c, cx.P.funcs[f]? = some fn ∧ fn.body = some c) {E D : Nat} {x : Fields} (hx : x.Ok) (it : Bool)
    (hlo : apt.atq S E D 2 wid.knLow = true) (hhi : apt.atq S E D 2 wid.knHigh = true) (hcov : ∀ k : Nat, 1 ≤ k → k ≤ 45 → apt.covV k = true)
    (hgo : ∀ k : Nat, 1 ≤ k → k ≤ 45 → ∀ j : Nat, j < (apt.casesV k).length → apt.vat S E D k j = true) : ∃ p, EncP E D 2 x it p := by
  have Kn := knW_ok hx it
  have so := sgL_ok (x := x) it
  have hSo := hS (scsW_ok hx it) rfl
  have H := start (envOf F2 (x.scsW it)) lw_laid
  by_cases h1 : x.x0 < 1
  · have S := Kn.tell (.le 0 0) (decide_eq_true (show x.x0 ≤ 0 by omega))
    exact encP_of hx it (back_ok cxsok' hSo hB rfl rfl (cq_cond (pxT_ok so S wid.ref_low).1) so S hlo H)
  by_cases h2 : 45 < x.x0
  · have S := Kn.tell (.le 0 45) (decide_eq_false (show ¬ x.x0 ≤ 45 by omega))
    exact encP_of hx it (back_ok cxsok' hSo hB rfl rfl (cq_cond (pxT_ok so S wid.ref_high).1) so S hhi H)
  obtain ⟨k, hk⟩ := Int.eq_ofNat_of_zero_le (show 0 ≤ x.x0 by omega)
  have S := Kn.tell (.pt 0 (Int.ofNat k)) (b := true) (decide_eq_true (show x.x0 = Int.ofNat k by rw [hk]; rfl))
  obtain ⟨t, ht, hcond⟩ := anyT_den _ _ (pxT_ok so S (hcov k (by omega) (by omega))).1
  obtain ⟨c, hc, rfl⟩ := List.mem_map.1 ht
  obtain ⟨j, hj, hjc⟩ := List.getElem_of_mem hc
  have hnth : apt.nthV k j = c := by simp only [apt.nthV, List.getD, List.getElem?_eq_getElem hj, Option.getD_some, hjc]
  have hgo' := hgo k (by omega) (by omega) j hj
  rw [apt.vat, hnth] at hgo'
  cases hb : c.1 with
  | false =>
    rw [hb] at hgo'
    exact encP_of hx it (back_ok (c := wid.withOp k c.2) cxsok' hSo hB rfl rfl hcond so S hgo' H)
  | true =>
    rw [hb] at hgo'
    have tl := List.all_eq_true.1 (apt.tellsV_get 45 apt.tellsV45 k (by omega) (by omega)) c hc
    simp only [apt.tells, hb, Bool.not_true, Bool.false_or, Bool.and_eq_true, List.contains_iff_mem] at tl
    have hall := allT_den _ _ hcond
    have q1 : (decide ((0 : Int) ≤ x.x5)) = true := hall _ tl.2.1
    have q2 : (decide (x.x5 ≤ (4294967295 : Int))) = true := hall _ tl.2.2
    have q3 : findB (IntKind.u32.wrap x.x5) = true := hall _ tl.1
    have r1 := of_decide_eq_true q1
    have r2 := of_decide_eq_true q2
    have hw : IntKind.u32.wrap x.x5 = x.x5 := wrap_eq (k := .u32) ⟨r1, by show x.x5 < 2 ^ 32; omega⟩ (fun _ _ => rfl)
    rw [hw] at q3
    exact encP_of hx it (back_ok (c := wid.withOp k c.2) cxsok' hSo hB rfl rfl hcond (sgF_ok it q3) S hgo' H)

set_option maxRecDepth 100000 in
/-- Two instructions of the same value are the same. -/
theorem val_inj {x y : Fields} (h : x.val = y.val) : x = y := by
  cases x; cases y
  simp only [Fields.val, Value.agg.injEq] at h
  simp at h
  obtain ⟨rfl, rfl, rfl, rfl, rfl, rfl, rfl, rfl, rfl⟩ := h
  rfl

end Go.Proofs.YtnpfihlaocpcfaaGreatDoor
/- For the seat: what a halfword, or two, are read as: there is always an answer. -/
namespace Go.Proofs.YtnpfihlaocpcfaaGreatDoor
open Go.Sx Go.ChangeShapes Go.WideShapes Go.RowKit Go.Joins Go.Deep

/-- An instruction's fields, as terms. -/
def fldsOf : SVal → Option (List Tm × Tm)
  | .cons (.int .i64 a0) (.cons (.int .i64 a1) (.cons (.int .i64 a2) (.cons (.int .i64 a3) (.cons (.int .i64 a4) (.cons (.int .i64 a5) (.cons (.int .i64 a6) (.cons (.int .i64 a7) (.cons (.bool b) .nil)))))))) =>
    match a0.inK .i64 && (a1.inK .i64 && (a2.inK .i64 && (a3.inK .i64 && (a4.inK .i64 && (a5.inK .i64 && (a6.inK .i64 && a7.inK .i64)))))) with
    | true => some ([a0, a1, a2, a3, a4, a5, a6, a7], b)
    | false => none
  | _ => none

set_option maxRecDepth 100000 in
theorem fldsOf_ok {ρ : Env} (V : VarsOk ρ) {v : SVal} {p : List Tm × Tm} (h : fldsOf v = some p) : ∃ x : Fields, x.Ok ∧ ∀ ι, (SVal.agg v).conc ρ ι = x.val := by
  unfold fldsOf at h
  split at h
  · rename_i a0 a1 a2 a3 a4 a5 a6 a7 b
    split at h
    · rename_i hk
      simp only [Bool.and_eq_true] at hk
      obtain ⟨k0, k1, k2, k3, k4, k5, k6, k7⟩ := hk
      exact ⟨⟨(a0.den ρ).asInt, (a1.den ρ).asInt, (a2.den ρ).asInt, (a3.den ρ).asInt, (a4.den ρ).asInt, (a5.den ρ).asInt, (a6.den ρ).asInt, (a7.den ρ).asInt, (b.den ρ).asBool⟩,
        ⟨inK_ok V .i64 a0 k0, inK_ok V .i64 a1 k1, inK_ok V .i64 a2 k2, inK_ok V .i64 a3 k3, inK_ok V .i64 a4 k4, inK_ok V .i64 a5 k5, inK_ok V .i64 a6 k6, inK_ok V .i64 a7 k7⟩, fun _ => rfl⟩
    · cases h
  · cases h

/-- Whether the answer is an instruction and a truth. -/
def ansD (x : Res) : Tree Res :=
  match insOf x.v with
  | some (.agg l, _) => match fldsOf l with
    | some _ => .leaf trueRes
    | none => .fail "no fields"
  | _ => .fail "no instruction"

/-- What a decoder answers. -/
structure DecP (D : Nat) (args : List Value) (p : Fields × Bool) : Prop where
  ok : p.1.Ok
  ans : Ans D args (.tuple #[p.1.val, .bool p.2])

noncomputable def ansTree (cx : Cx) (S : Specs) (fuel : Nat) (D : FuncId) (pat : List SVal) (c : Cas) : Tree Res :=
  .ite c.cond (.assert (allT (condS c.sub ++ c.pc)) ((callT cx S (run cx S fuel) D (pat.map (subV c.sub)) [] (c.pc.foldr mkAnd (.bit true))).bind ansD)) (.leaf trueRes)

set_option maxRecDepth 100000 in
theorem ans_ok {ρ : Env} {cx' : Cx} (ok : cx'.Ok) (hP : cx'.P = cx.P) (hG : cx'.globs = cx.globs) {S : Specs} (hS : S.Ok ρ cx') (hB : ∀ f, S f ≠ none → ∃ fn c, cx'.P.funcs[f]? = some fn ∧ fn.body = some c) (V : VarsOk ρ) {fuel : Nat} {D : FuncId} {pat : List SVal} {l : List Value} {c : Cas}
    (hsc : ∀ v ∈ pat, v.sc 0 = true) (hl : pat.map (·.conc ρ ι0) = l) (hc : (c.cond.den ρ).asBool = true) {sg : Sg} (so : sg.Ok ρ) {e : Kn} (hs : Sats ρ e) (hx : pxBoth sg (ansTree cx' S fuel D pat c) e = true) (hab : ∀ q, ¬ ρ.ab.B q := by exact fun _ h => h) :
    ∃ p, DecP D l p := by
  obtain ⟨z, b, h1, h2, h3⟩ := pxBoth_ok so _ _ hs hx
  simp only [ansTree, Tree.get, hc] at h1
  cases ha : ((allT (condS c.sub ++ c.pc)).den ρ).asBool with
  | false => rw [ha] at h1; cases h1
  | true =>
  rw [ha] at h1
  have hall := allT_den ρ _ ha
  have hsub : ∀ t ∈ condS c.sub, (t.den ρ).asBool = true := fun t ht => hall t (by simp [ht])
  simp only [Tree.get_bind, Option.bind_eq_some_iff] at h1
  obtain ⟨x, hx1, hx2⟩ := h1
  have hcall := call_ok ok hS hB (conj_den ρ _ (fun t ht => hall t (by simp [ht]))) hx1
  have hcall' : CallOk ρ cx.globs cx.P D pat [] x := by
    rw [← hP, ← hG]
    refine hcall.args ?_ ?_
    · intro v hv
      obtain ⟨u, hu, rfl⟩ := List.mem_map.1 hv
      exact subV_sc u (hsc u hu)
    · intro ι
      rw [List.map_map]
      exact List.map_congr_left fun v _ => (subV_conc hsub ι v).1
  unfold ansD at hx2
  split at hx2
  · rename_i l' o hi
    split at hx2
    · rename_i q hq
      obtain ⟨y, hy, hv⟩ := fldsOf_ok V hq
      exact ⟨(y, (o.den ρ).asBool), hy, ans_of hcall' hsc hl (fun ι => by rw [insOf_conc hi ι, hv ι]) hab⟩
    · cases hx2
  · cases hx2

namespace sho
def kn : Kn := ⟨[], [], [], [], [0]⟩
def bitsL : List (Nat × Nat) := [(65024, 0), (65024, 512), (65024, 1024), (65024, 1536), (65024, 2048), (65024, 2560), (65024, 3072), (65024, 3584), (65024, 4096), (65024, 4608), (65024, 5120), (65024, 5632), (65024, 6144), (65024, 6656), (65024, 7168), (65024, 7680), (65024, 8192), (65024, 8704), (65024, 9216), (65024, 9728), (65024, 10240), (65024, 10752), (65024, 11264), (65024, 11776), (65024, 12288), (65024, 12800), (65024, 13312), (65024, 13824), (65024, 14336), (65024, 14848), (65024, 15360), (65024, 15872), (65472, 16384), (65472, 16448), (65472, 16512), (65472, 16576), (65472, 16640), (65472, 16704), (65472, 16768), (65472, 16832), (65472, 16896), (65472, 16960), (65472, 17024), (65472, 17088), (65472, 17152), (65472, 17216), (65472, 17280), (65472, 17344), (65280, 17408), (65280, 17664), (65280, 17920), (65280, 18176), (63488, 18432), (65024, 20480), (65024, 20992), (65024, 21504), (65024, 22016), (65024, 22528), (65024, 23040), (65024, 23552), (65024, 24064), (63488, 24576), (63488, 26624), (63488, 28672), (63488, 30720), (63488, 32768), (63488, 34816), (63488, 36864), (63488, 38912), (63488, 40960), (63488, 43008), (65280, 45056), (65280, 45312), (65280, 45568), (65280, 45824), (65280, 46080), (65280, 46336), (65280, 46592), (65280, 46848), (65280, 47104), (65280, 47360), (65280, 47616), (65280, 47872), (65280, 48128), (65280, 48384), (65280, 48640), (65280, 48896), (63488, 49152), (63488, 51200), (61440, 53248), (63488, 57344), (63488, 59392), (63488, 61440), (63488, 63488)]
def cases : List Cas := bitsL.map fun c => Cb.bits 0 c.1 c.2
def pat : List SVal := [.int .i64 (.var 0), .bool (.var 1)]
def nth (j : Nat) : Cas := cases.getD j ⟨[], [], []⟩
set_option maxRecDepth 100000 in
theorem cov : pxT sg (anyT (cases.map Cas.cond)) kn (fun _ => true) = true := by kernel_rfl
set_option maxRecDepth 100000 in
theorem len : cases.length = 94 := by kernel_rfl
end sho

def scsH (n : Int) (it : Bool) : List Sc := [.int n, .bool it]

set_option maxRecDepth 100000 in
theorem scsH_ok {n : Int} (h : kHas .i64 n) (it : Bool) : VarsOk (envOf F2 (scsH n it)) := by
  refine ⟨?_, F2_has⟩
  intro i
  match i with
  | 0 => exact h
  | 1 => exact zero_has
  | k + 2 => exact zero_has

set_option maxRecDepth 100000 in
theorem knH_ok {n : Int} (h : kHas .i64 n) (it : Bool) : Sats (envOf F2 (scsH n it)) sho.kn := by
  refine Sats.start (scsH_ok h it) _ ?_
  intro i hi
  simp only [List.mem_cons, List.not_mem_nil, or_false] at hi
  subst hi
  exact ⟨_, rfl⟩


namespace tal
def kn : Kn := ⟨[], [], [], [], [0, 1]⟩
def pat3 : List SVal := [.int .i64 (.var 0), .int .i64 (.var 1), .bool (.var 2)]
def cases : List Cas :=
  [Cb.bits 0 0x8000 0, Cb.bits 0 0xC000 0x8000, Cb.bits 0 0xE000 0xC000, Cb.bits 0 0xF800 0xE000] ++
  (List.range 32).map (fun i => Cb.bits 0 0xFFF0 (0xE800 + 16 * i)) ++
  Cas.mul ((List.range 32).map fun i => Cb.bits 0 0xFFF0 (0xEA00 + 16 * i)) [Cb.bits 1 0x8000 0x8000, Cb.bits 1 0xC000 0x4000, Cb.bits 1 0xE000 0x2000, Cb.bits 1 0xF000 0x1000, Cb.bits 1 0xF080 0x80, Cb.bits 1 0xF0C0 0x40, Cb.bits 1 0xF0E0 0x20, Cb.bits 1 0xF0F0 0x10, Cb.bits 1 0xF0F0 0] ++
  (List.range 4).map (fun i => Cb.bits 0 0xFF00 (0xEC00 + 256 * i)) ++
  (List.range 32).map (fun i => Cb.bits 0 0xFFF0 (0xF000 + 16 * i)) ++
  (List.range 2).map (fun i => Cb.bits 0 0xFF00 (0xF200 + 256 * i)) ++
  (List.range 32).map (fun i => Cb.bits 0 0xFFF0 (0xF400 + 16 * i)) ++
  (List.range 2).map (fun i => Cb.bits 0 0xFF00 (0xF600 + 256 * i)) ++
  (List.range 16).map (fun i => Cb.bits 0 0xFFF0 (0xF800 + 16 * i)) ++
  (List.range 7).map (fun i => Cb.bits 0 0xFF00 (0xF900 + 256 * i))
def nth (j : Nat) : Cas := cases.getD j ⟨[], [], []⟩
set_option maxRecDepth 100000 in
theorem cov : pxT sg (anyT (cases.map Cas.cond)) kn (fun _ => true) = true := by kernel_rfl
set_option maxRecDepth 100000 in
theorem len : cases.length = 419 := by kernel_rfl
end tal

def scsT (a b : Int) (it : Bool) : List Sc := [.int a, .int b, .bool it]

set_option maxRecDepth 100000 in
theorem scsT_ok {a b : Int} (ha : kHas .i64 a) (hb : kHas .i64 b) (it : Bool) : VarsOk (envOf F2 (scsT a b it)) := by
  refine ⟨?_, F2_has⟩
  intro i
  match i with
  | 0 => exact ha
  | 1 => exact hb
  | 2 => exact zero_has
  | k + 3 => exact zero_has

set_option maxRecDepth 100000 in
theorem knT_ok {a b : Int} (ha : kHas .i64 a) (hb : kHas .i64 b) (it : Bool) : Sats (envOf F2 (scsT a b it)) tal.kn := by
  refine Sats.start (scsT_ok ha hb it) _ ?_
  intro i hi
  simp only [List.mem_cons, List.not_mem_nil, or_false] at hi
  rcases hi with rfl | rfl
  · exact ⟨_, rfl⟩
  · exact ⟨_, rfl⟩


namespace sho
noncomputable def at' (j : Nat) : Bool := pxBoth sg (ansTree cxs' widS 3000 37 pat (nth j)) kn
end sho
namespace tal
noncomputable def at' (j : Nat) : Bool := pxBoth sg (ansTree cxs' widS 3000 38 pat3 (nth j)) kn
end tal

set_option maxRecDepth 100000 in
theorem sho_dec (H : ∀ j : Nat, j < sho.cases.length → sho.at' j = true) {n : Int} (hn : kHas .i64 n) (it : Bool) : ∃ p, DecP 37 [.int .i64 n, .bool it] p := by
  have so := sg_ok' (ρ := envOf F2 (scsH n it)) F2_signs
  have S := knH_ok hn it
  obtain ⟨c, hc, hcond⟩ := cas_cov so S sho.cov
  obtain ⟨j, hj, hjc⟩ := List.getElem_of_mem hc
  have hnth : sho.nth j = c := by simp only [sho.nth, List.getD, List.getElem?_eq_getElem hj, Option.getD_some, hjc]
  have hgo := H j hj
  rw [sho.at', hnth] at hgo
  exact ans_ok cxsok' rfl rfl (widS_ok (scsH_ok hn it) rfl) widS_body (scsH_ok hn it) (by intro v hv; simp [sho.pat] at hv; rcases hv with rfl | rfl <;> rfl) rfl hcond so S hgo

set_option maxRecDepth 100000 in
theorem tal_dec (H : ∀ j : Nat, j < tal.cases.length → tal.at' j = true) {a b : Int} (ha : kHas .i64 a) (hb : kHas .i64 b) (it : Bool) : ∃ p, DecP 38 [.int .i64 a, .int .i64 b, .bool it] p := by
  have so := sg_ok' (ρ := envOf F2 (scsT a b it)) F2_signs
  have S := knT_ok ha hb it
  obtain ⟨c, hc, hcond⟩ := cas_cov so S tal.cov
  obtain ⟨j, hj, hjc⟩ := List.getElem_of_mem hc
  have hnth : tal.nth j = c := by simp only [tal.nth, List.getD, List.getElem?_eq_getElem hj, Option.getD_some, hjc]
  have hgo := H j hj
  rw [tal.at', hnth] at hgo
  exact ans_ok cxsok' rfl rfl (widS_ok (scsT_ok ha hb it) rfl) widS_body (scsT_ok ha hb it) (by intro v hv; simp [tal.pat3] at hv; rcases hv with rfl | rfl | rfl <;> rfl) rfl hcond so S hgo

end Go.Proofs.YtnpfihlaocpcfaaGreatDoor
/- For the seat: decode.Decode: what it answers at any halfwords. -/
namespace Go.Proofs.YtnpfihlaocpcfaaGreatDoor
open Go.Sx Go.ChangeShapes Go.WideShapes Go.RowKit Go.Joins Go.Deep

namespace lng
def and (n : Int) : Tm := .op2 (.and .i64) (.var 0) (.num n)
def longT : Tm := .op2 .band (.op2 .eq (and 57344) (.num 57344)) (.op1 .not (.op2 .eq (and 6144) (.num 0)))
def kn : Kn := ⟨[], [], [], [], [0]⟩
set_option maxRecDepth 100000 in
theorem run : pxIs sg (.bool longT) (callT cx noS (run cx noS 400) 36 [.int .i64 (.var 0)] [] (.bit true)) kn = true := by kernel_rfl
end lng

/-- Does a halfword begin an instruction of two? -/
def longB (a : Int) : Bool := (lng.longT.den (envOf F [.int a])).asBool

set_option maxRecDepth 100000 in
theorem long_ans {a : Int} (ha : kHas .i64 a) : Ans 36 [.int .i64 a] (.bool (longB a)) := by
  have S : Sats (envOf F [.int a]) lng.kn := by
    refine Sats.start (one_vars (s := .int a) ha) _ ?_
    intro i hi
    simp only [List.mem_cons, List.not_mem_nil, or_false] at hi
    subst hi
    exact ⟨_, rfl⟩
  obtain ⟨x', h1, h2⟩ := pxIs_ok (sg_ok' F_signs) _ _ S lng.run
  refine ans_of (call_ok (ρ := envOf F [.int a]) cxok (noS_ok _ _) (noS_body _) rfl h1) (by intro v hv; simp at hv; subst hv; rfl) rfl ?_
  intro ι
  rw [h2]
  rfl

abbrev zeroF : Fields := ⟨0, 0, 0, 0, 0, 0, 0, 0, false⟩
set_option maxRecDepth 100000 in
theorem zeroF_ok : zeroF.Ok := ⟨zero_has, zero_has, zero_has, zero_has, zero_has, zero_has, zero_has, zero_has⟩

/-- An instruction lies in a block. -/
def InsAt (W : World) (b : Nat) (x : Fields) : Prop := (W.cell? ⟨b, 0, none⟩ = some (.int .i64 x.x0) ∧ W.cell? ⟨b, 1, none⟩ = some (.int .i64 x.x1) ∧ W.cell? ⟨b, 2, none⟩ = some (.int .i64 x.x2) ∧ W.cell? ⟨b, 3, none⟩ = some (.int .i64 x.x3) ∧ W.cell? ⟨b, 4, none⟩ = some (.int .i64 x.x4) ∧ W.cell? ⟨b, 5, none⟩ = some (.int .i64 x.x5) ∧ W.cell? ⟨b, 6, none⟩ = some (.int .i64 x.x6) ∧ W.cell? ⟨b, 7, none⟩ = some (.int .i64 x.x7) ∧ W.cell? ⟨b, 8, none⟩ = some (.bool x.b)) ∧ (W.frozen? ⟨b, 0, none⟩ = false ∧ W.frozen? ⟨b, 1, none⟩ = false ∧ W.frozen? ⟨b, 2, none⟩ = false ∧ W.frozen? ⟨b, 3, none⟩ = false ∧ W.frozen? ⟨b, 4, none⟩ = false ∧ W.frozen? ⟨b, 5, none⟩ = false ∧ W.frozen? ⟨b, 6, none⟩ = false ∧ W.frozen? ⟨b, 7, none⟩ = false ∧ W.frozen? ⟨b, 8, none⟩ = false)
abbrev Fields.cells (x : Fields) : Array Value := #[.int .i64 x.x0, .int .i64 x.x1, .int .i64 x.x2, .int .i64 x.x3, .int .i64 x.x4, .int .i64 x.x5, .int .i64 x.x6, .int .i64 x.x7, .bool x.b]
set_option maxRecDepth 100000 in
theorem InsAt.new (W : World) (x : Fields) (t : TypeId) : InsAt (W.alloc (.cells x.cells t)) W.heap.size x := by
  have h : (W.alloc (.cells x.cells t)).heap[W.heap.size]? = some (.cells x.cells t (0, 0)) := heap_alloc_new W _
  have c : ∀ o, (W.alloc (.cells x.cells t)).cell? ⟨W.heap.size, o, none⟩ = x.cells[o]? := fun o => by simp only [World.cell?, h]; rfl
  have f : ∀ o, (W.alloc (.cells x.cells t)).frozen? ⟨W.heap.size, o, none⟩ = false := fun o => by simp only [World.frozen?, h]; simp
  exact ⟨⟨by rw [c]; rfl, by rw [c]; rfl, by rw [c]; rfl, by rw [c]; rfl, by rw [c]; rfl, by rw [c]; rfl, by rw [c]; rfl, by rw [c]; rfl, by rw [c]; rfl⟩, f 0, f 1, f 2, f 3, f 4, f 5, f 6, f 7, f 8⟩
set_option maxRecDepth 100000 in
theorem InsAt.drew {W : World} {b : Nat} {x : Fields} (h : InsAt W b x) : InsAt W.drew b x := h
set_option maxRecDepth 100000 in
theorem InsAt.below {W W' : World} {b B : Nat} {x : Fields} (h : InsAt W b x) (hb : Below B W W') (hB : b < B) : InsAt W' b x := by
  unfold InsAt at h ⊢
  have e := fun o => hb.cell (p := ⟨b, o, none⟩) hB
  have f := fun o => hb.frozen (p := ⟨b, o, none⟩) hB
  simp only [e, f]
  exact h

set_option maxRecDepth 100000 in
/-- Behind an instruction's store other cells are as they were. -/
theorem far9 {W : World} {b g : Nat} (h : b ≠ g) (o : Nat) (v0 v1 v2 v3 v4 v5 v6 v7 v8 : Value) : (((((((((W.setCell ⟨b, 0, none⟩ v0).setCell ⟨b, 1, none⟩ v1).setCell ⟨b, 2, none⟩ v2).setCell ⟨b, 3, none⟩ v3).setCell ⟨b, 4, none⟩ v4).setCell ⟨b, 5, none⟩ v5).setCell ⟨b, 6, none⟩ v6).setCell ⟨b, 7, none⟩ v7).setCell ⟨b, 8, none⟩ v8).cell? ⟨g, o, none⟩ = W.cell? ⟨g, o, none⟩ := by
  have e : ∀ (w : World) (k : Nat) (v : Value), (w.setCell ⟨b, k, none⟩ v).cell? ⟨g, o, none⟩ = w.cell? ⟨g, o, none⟩ := fun w k v => World.cell?_setCell_far w _ _ v h
  rw [e, e, e, e, e, e, e, e, e]

/-- The answer of Decode: the instruction, how many halfwords, the error's number. -/
def RetD (x : Fields) (n e : Int) (en : Ending) (w w' : World) : Prop := en = .returned (.tuple #[x.val, .int .i64 n, .int .i64 e]) ∧ Below w.heap.size w w'

set_option maxRecDepth 100000 in
theorem bcells {W w1 : World} {B : Nat} (hb : Below B W w1) : (∀ b o, b < B → w1.cell? ⟨b, o, none⟩ = W.cell? ⟨b, o, none⟩) ∧ (∀ b o, b < B → w1.frozen? ⟨b, o, none⟩ = W.frozen? ⟨b, o, none⟩) :=
  ⟨fun b o h => hb.cell (p := ⟨b, o, none⟩) h, fun b o h => hb.frozen (p := ⟨b, o, none⟩) h⟩

set_option maxRecDepth 100000 in
theorem dec_nil (A : Option Addr) (cap : Nat) (it : Bool) (w : World) : Calls Tryz.prog 26 #[.slice A 0 cap, .bool it] w fun e w' => RetD zeroF 0 2 e w w' := by
  go_enter Tryz.func26, Tryz.ntmps26
  go_wp2_with fail
  exact bodyPost_ret (v := .tuple #[.agg #[.int .i64 0, .int .i64 0, .int .i64 0, .int .i64 0, .int .i64 0, .int .i64 0, .int .i64 0, .int .i64 0, .bool false], .int .i64 0, .int .i64 2]) (by simp [results, Tryz.results26, go_sem]) rfl ⟨rfl, (Below.refl _ _).alloc (Nat.le_refl _) _⟩

set_option maxRecDepth 100000 in
set_option maxHeartbeats 1000000 in
theorem dec_short (a : Int) (r : List Int) (it : Bool) (A : Option Addr) (cap : Nat) (w : World) (h : IAt w w.heap.size A (a :: r)) (hlen : (a :: r).length ≤ maxLen) (hw : Laid w)
    (hL : Ans 36 [.int .i64 a] (.bool false)) (x0 x1 x2 x3 x4 x5 x6 x7 : Int) (xb ok : Bool)
    (hS : Ans 37 [.int .i64 a, .bool it] (.tuple #[.agg #[.int .i64 x0, .int .i64 x1, .int .i64 x2, .int .i64 x3, .int .i64 x4, .int .i64 x5, .int .i64 x6, .int .i64 x7, .bool xb], .bool ok])) :
    Calls Tryz.prog 26 #[.slice A (a :: r).length cap, .bool it] w fun e w' => RetD (if ok then ⟨x0, x1, x2, x3, x4, x5, x6, x7, xb⟩ else zeroF) (if ok then 1 else 0) (if ok then 0 else 10) e w w' := by
  obtain ⟨g, off, rfl, hg, hc⟩ := h.at_ (k := 0) (by simp)
  simp only [List.getElem_cons_zero, Nat.add_zero] at hc
  unfold maxLen at hlen
  have hn0 : 0 < (a :: r).length := by simp
  clear h
  generalize (a :: r).length = n at *
  have lay : ∀ w1 : World, Below w.heap.size w w1 → Laid w1 := fun w1 hb => laid_below hw hb
  have b0 : Below w.heap.size w (w.alloc (.cells zeroF.cells 30)) := (Below.refl _ _).alloc (Nat.le_refl _) _
  have i0 : InsAt (w.alloc (.cells zeroF.cells 30)) w.heap.size zeroF := InsAt.new _ _ _
  have IZ := Lib.hid i0
  clear i0
  go_enter Tryz.func26, Tryz.ntmps26
  go_wp2_with fail
  ((with_reducible refine (hL.go (lay _ b0)).mono ?_); rintro e w1 ⟨rfl, hb1⟩)
  have c1 := b0.trans (hb1.mono (by simp))
  have i1 : Hid (InsAt w1 w.heap.size zeroF) := Lib.hid (IZ.out.below hb1 (by simp))
  clear IZ
  have hc1 : w1.cell? ⟨g, off, none⟩ = some (.int .i64 a) := (c1.cell (p := ⟨g, off, none⟩) hg).trans hc
  go_wp2_with fail
  ((with_reducible refine (hS.go (lay _ c1)).mono ?_); rintro e w2 ⟨rfl, hb2⟩)
  have c2 := c1.trans (hb2.mono c1.size)
  have z1 : w.heap.size < w1.heap.size := by have := hb1.size; simp at this; omega
  have i2 : Hid (InsAt w2 w.heap.size zeroF) := Lib.hid (i1.out.below hb2 z1)
  clear i1
  have hc2 : w2.cell? ⟨g, off, none⟩ = some (.int .i64 a) := (c2.cell (p := ⟨g, off, none⟩) hg).trans hc
  have hg2 : g < w2.heap.size := Nat.lt_of_lt_of_le hg c2.size
  have z2 : w.heap.size < w2.heap.size := Nat.lt_of_lt_of_le z1 hb2.size
  go_wp2_with fail
  have b3 : Below w.heap.size w (w2.alloc (.cells (Fields.cells ⟨x0, x1, x2, x3, x4, x5, x6, x7, xb⟩) 30)) := c2.alloc c2.size _
  have bb : Below w2.heap.size w2 (w2.alloc (.cells (Fields.cells ⟨x0, x1, x2, x3, x4, x5, x6, x7, xb⟩) 30)) := (Below.refl _ _).alloc (Nat.le_refl _) _
  ((with_reducible refine (hL.go (lay _ b3)).mono ?_); rintro e w3 ⟨rfl, hb3⟩)
  have c3 := b3.trans (hb3.mono b3.size)
  have i3 : InsAt w3 w.heap.size zeroF := (i2.out.below bb z2).below hb3 (by simp; omega)
  have j3 : InsAt w3 w2.heap.size ⟨x0, x1, x2, x3, x4, x5, x6, x7, xb⟩ := (InsAt.new _ _ _).below hb3 (by simp)
  have hz3 : w2.heap.size < w3.heap.size := by have := hb3.size; simp at this; omega
  clear i2 bb b0 hc hc1 hc2 hL hS lay
  obtain ⟨⟨p0, p1, p2, p3, p4, p5, p6, p7, p8⟩, q0, q1, q2, q3, q4, q5, q6, q7, q8⟩ := i3
  obtain ⟨⟨r0, r1, r2, r3, r4, r5, r6, r7, r8⟩, _⟩ := j3
  simp only at p0 p1 p2 p3 p4 p5 p6 p7 p8
  simp only at r0 r1 r2 r3 r4 r5 r6 r7 r8
  have hne : ¬ w.heap.size = w2.heap.size := by omega
  cases ok
  · go_wp2_with fail
    exact bodyPost_ret (v := .tuple #[.agg #[.int .i64 0, .int .i64 0, .int .i64 0, .int .i64 0, .int .i64 0, .int .i64 0, .int .i64 0, .int .i64 0, .bool false], .int .i64 0, .int .i64 10]) (by simp [results, Tryz.results26, go_sem, p0, p1, p2, p3, p4, p5, p6, p7, p8]) rfl ⟨rfl, (((((((((c3).setCell (Nat.le_refl _) _).setCell (Nat.le_refl _) _).setCell (Nat.le_refl _) _).setCell (Nat.le_refl _) _).setCell (Nat.le_refl _) _).setCell (Nat.le_refl _) _).setCell (Nat.le_refl _) _).setCell (Nat.le_refl _) _).setCell (Nat.le_refl _) _⟩
  · go_wp2_with fail
    exact bodyPost_ret (v := .tuple #[.agg #[.int .i64 x0, .int .i64 x1, .int .i64 x2, .int .i64 x3, .int .i64 x4, .int .i64 x5, .int .i64 x6, .int .i64 x7, .bool xb], .int .i64 1, .int .i64 0]) (by simp [results, Tryz.results26, go_sem, p0, p1, p2, p3, p4, p5, p6, p7, p8]) rfl ⟨rfl, (((((((((c3).setCell (Nat.le_refl _) _).setCell (Nat.le_refl _) _).setCell (Nat.le_refl _) _).setCell (Nat.le_refl _) _).setCell (Nat.le_refl _) _).setCell (Nat.le_refl _) _).setCell (Nat.le_refl _) _).setCell (Nat.le_refl _) _).setCell (Nat.le_refl _) _⟩

set_option maxRecDepth 100000 in
set_option maxHeartbeats 1000000 in
theorem dec_end (a : Int) (it : Bool) (A : Option Addr) (cap : Nat) (w : World) (h : IAt w w.heap.size A [a]) (hw : Laid w) (hL : Ans 36 [.int .i64 a] (.bool true)) :
    Calls Tryz.prog 26 #[.slice A 1 cap, .bool it] w fun e w' => RetD zeroF 0 2 e w w' := by
  obtain ⟨g, off, rfl, hg, hc⟩ := h.at_ (k := 0) (by simp)
  simp only [List.getElem_cons_zero, Nat.add_zero] at hc
  clear h
  have b0 : Below w.heap.size w (w.alloc (.cells zeroF.cells 30)) := (Below.refl _ _).alloc (Nat.le_refl _) _
  have i0 : InsAt (w.alloc (.cells zeroF.cells 30)) w.heap.size zeroF := InsAt.new _ _ _
  have IZ := Lib.hid i0
  clear i0
  go_enter Tryz.func26, Tryz.ntmps26
  go_wp2_with fail
  ((with_reducible refine (hL.go (laid_below hw b0)).mono ?_); rintro e w1 ⟨rfl, hb1⟩)
  have c1 := b0.trans (hb1.mono (by simp))
  obtain ⟨⟨p0, p1, p2, p3, p4, p5, p6, p7, p8⟩, q0, q1, q2, q3, q4, q5, q6, q7, q8⟩ := IZ.out.below hb1 (by simp)
  simp only at p0 p1 p2 p3 p4 p5 p6 p7 p8
  clear IZ hL b0
  go_wp2_with fail
  exact bodyPost_ret (v := .tuple #[.agg #[.int .i64 0, .int .i64 0, .int .i64 0, .int .i64 0, .int .i64 0, .int .i64 0, .int .i64 0, .int .i64 0, .bool false], .int .i64 0, .int .i64 2]) (by simp [results, Tryz.results26, go_sem, p0, p1, p2, p3, p4, p5, p6, p7, p8]) rfl ⟨rfl, ((((((((c1.setCell (Nat.le_refl _) _).setCell (Nat.le_refl _) _).setCell (Nat.le_refl _) _).setCell (Nat.le_refl _) _).setCell (Nat.le_refl _) _).setCell (Nat.le_refl _) _).setCell (Nat.le_refl _) _).setCell (Nat.le_refl _) _).setCell (Nat.le_refl _) _⟩

set_option maxRecDepth 100000 in
set_option maxHeartbeats 2000000 in
theorem dec_long (a b : Int) (r : List Int) (it : Bool) (A : Option Addr) (cap : Nat) (w : World) (h : IAt w w.heap.size A (a :: b :: r)) (hlen : (a :: b :: r).length ≤ maxLen) (hw : Laid w)
    (hL : Ans 36 [.int .i64 a] (.bool true)) (x0 x1 x2 x3 x4 x5 x6 x7 : Int) (xb ok : Bool)
    (hS : Ans 37 [.int .i64 a, .bool it] (.tuple #[.agg #[.int .i64 x0, .int .i64 x1, .int .i64 x2, .int .i64 x3, .int .i64 x4, .int .i64 x5, .int .i64 x6, .int .i64 x7, .bool xb], .bool ok]))
    (y0 y1 y2 y3 y4 y5 y6 y7 : Int) (yb : Bool) (yk : Bool)
    (hT : Ans 38 [.int .i64 a, .int .i64 b, .bool it] (.tuple #[.agg #[.int .i64 y0, .int .i64 y1, .int .i64 y2, .int .i64 y3, .int .i64 y4, .int .i64 y5, .int .i64 y6, .int .i64 y7, .bool yb], .bool yk])) :
    Calls Tryz.prog 26 #[.slice A (a :: b :: r).length cap, .bool it] w fun e w' => RetD (if yk then ⟨y0, y1, y2, y3, y4, y5, y6, y7, yb⟩ else zeroF) (if yk then 2 else 0) (if yk then 0 else 10) e w w' := by
  obtain ⟨g, off, rfl, hg, hc⟩ := h.at_ (k := 0) (by simp)
  obtain ⟨g', off', hA, hg', hd⟩ := h.at_ (k := 1) (by simp)
  simp only [Option.some.injEq, Addr.mk.injEq, and_true] at hA
  obtain ⟨rfl, rfl⟩ := hA
  simp only [List.getElem_cons_zero, Nat.add_zero] at hc
  simp only [List.getElem_cons_succ, List.getElem_cons_zero] at hd
  unfold maxLen at hlen
  have hn0 : 2 ≤ (a :: b :: r).length := by simp
  clear h hg'
  generalize (a :: b :: r).length = n at *
  have lay : ∀ w1 : World, Below w.heap.size w w1 → Laid w1 := fun w1 hb => laid_below hw hb
  have b0 : Below w.heap.size w (w.alloc (.cells zeroF.cells 30)) := (Below.refl _ _).alloc (Nat.le_refl _) _
  have i0 : InsAt (w.alloc (.cells zeroF.cells 30)) w.heap.size zeroF := InsAt.new _ _ _
  have IZ := Lib.hid i0
  clear i0
  have hlt2 : decide ((n : Int) < 2) = false := decide_eq_false (by omega)
  have h1n : (1 : Int) < (n : Int) := by omega
  go_enter Tryz.func26, Tryz.ntmps26
  go_wp2_with fail
  ((with_reducible refine (hL.go (lay _ b0)).mono ?_); rintro e w1 ⟨rfl, hb1⟩)
  have c1 := b0.trans (hb1.mono (by simp))
  have i1 : Hid (InsAt w1 w.heap.size zeroF) := Lib.hid (IZ.out.below hb1 (by simp))
  clear IZ
  have hc1 : w1.cell? ⟨g, off, none⟩ = some (.int .i64 a) := (c1.cell (p := ⟨g, off, none⟩) hg).trans hc
  go_wp2_with fail
  ((with_reducible refine (hS.go (lay _ c1)).mono ?_); rintro e w2 ⟨rfl, hb2⟩)
  have c2 := c1.trans (hb2.mono c1.size)
  have z1 : w.heap.size < w1.heap.size := by have := hb1.size; simp at this; omega
  have i2 : Hid (InsAt w2 w.heap.size zeroF) := Lib.hid (i1.out.below hb2 z1)
  clear i1
  have hc2 : w2.cell? ⟨g, off, none⟩ = some (.int .i64 a) := (c2.cell (p := ⟨g, off, none⟩) hg).trans hc
  have hg2 : g < w2.heap.size := Nat.lt_of_lt_of_le hg c2.size
  have z2 : w.heap.size < w2.heap.size := Nat.lt_of_lt_of_le z1 hb2.size
  clear hc1
  go_wp2_with fail
  have b3 : Below w.heap.size w (w2.alloc (.cells (Fields.cells ⟨x0, x1, x2, x3, x4, x5, x6, x7, xb⟩) 30)) := c2.alloc c2.size _
  have bb : Below w2.heap.size w2 (w2.alloc (.cells (Fields.cells ⟨x0, x1, x2, x3, x4, x5, x6, x7, xb⟩) 30)) := (Below.refl _ _).alloc (Nat.le_refl _) _
  ((with_reducible refine (hL.go (lay _ b3)).mono ?_); rintro e w3 ⟨rfl, hb3⟩)
  have c3 := b3.trans (hb3.mono b3.size)
  have i3 : Hid (InsAt w3 w.heap.size zeroF) := Lib.hid ((i2.out.below bb z2).below hb3 (by simp; omega))
  have j3 : Hid (InsAt w3 w2.heap.size ⟨x0, x1, x2, x3, x4, x5, x6, x7, xb⟩) := Lib.hid ((InsAt.new _ _ _).below hb3 (by simp))
  have hz3 : w2.heap.size < w3.heap.size := by have := hb3.size; simp at this; omega
  have hc3 : w3.cell? ⟨g, off, none⟩ = some (.int .i64 a) := (c3.cell (p := ⟨g, off, none⟩) hg).trans hc
  have hd3 : w3.cell? ⟨g, off + 1, none⟩ = some (.int .i64 b) := (c3.cell (p := ⟨g, off + 1, none⟩) hg).trans hd
  clear i2 bb b0 hc2
  go_wp2_with fail
  have hT' := hT.go (lay _ c3.drew)
  have hg3 : g < w3.drew.heap.size := Nat.lt_of_lt_of_le hg c3.size
  have z23 : w2.heap.size < w3.drew.heap.size := hz3
  have z03 : w.heap.size < w3.drew.heap.size := Nat.lt_trans z2 hz3
  have nb : w2.heap.size ≠ g := by omega
  clear hL hS
  go_region_held3 (fun w' => w'.cell? ⟨g, off, none⟩ = some (.int .i64 a) ∧ w'.cell? ⟨g, off + 1, none⟩ = some (.int .i64 b))
    (first
      | (with_reducible exact ⟨hc4, hd4⟩)
      | (with_reducible exact ⟨(far9 nb _ _ _ _ _ _ _ _ _ _).trans hc4, (far9 nb _ _ _ _ _ _ _ _ _ _).trans hd4⟩)
      | go_keep)
    (first
      | (go_at_call 38; refine hT'.mono ?_; rintro e w4 ⟨rfl, hb4⟩; obtain ⟨⟨r0, r1, r2, r3, r4, r5, r6, r7, r8⟩, s0, s1, s2, s3, s4, s5, s6, s7, s8⟩ := j3.out.drew.below hb4 z23; have hc4 := (hb4.cell (p := ⟨g, off, none⟩) hg3).trans hc3; have hd4 := (hb4.cell (p := ⟨g, off + 1, none⟩) hg3).trans hd3))
  obtain ⟨⟨p0, p1, p2, p3, p4, p5, p6, p7, p8⟩, q0, q1, q2, q3, q4, q5, q6, q7, q8⟩ := i3.out.drew.below hb4 z03
  simp only at p0 p1 p2 p3 p4 p5 p6 p7 p8
  have c4 := c3.drew.trans (hb4.mono c3.size)
  have hne : ¬ w.heap.size = w2.heap.size := by omega
  have hne' : ¬ w2.heap.size = w.heap.size := by omega
  clear i3 j3 hc3 hd3 hT hT' b3 hb3 hb2 hb1
  cases yk
  · go_wp2_with fail
    exact bodyPost_ret (v := .tuple #[.agg #[.int .i64 0, .int .i64 0, .int .i64 0, .int .i64 0, .int .i64 0, .int .i64 0, .int .i64 0, .int .i64 0, .bool false], .int .i64 0, .int .i64 10]) (by simp [results, Tryz.results26, go_sem, p0, p1, p2, p3, p4, p5, p6, p7, p8]) rfl ⟨rfl, (((((((((((((((((c4.setCell (Nat.le_of_lt z2) _).setCell (Nat.le_of_lt z2) _).setCell (Nat.le_of_lt z2) _).setCell (Nat.le_of_lt z2) _).setCell (Nat.le_of_lt z2) _).setCell (Nat.le_of_lt z2) _).setCell (Nat.le_of_lt z2) _).setCell (Nat.le_of_lt z2) _).setCell (Nat.le_of_lt z2) _).setCell (Nat.le_refl _) _).setCell (Nat.le_refl _) _).setCell (Nat.le_refl _) _).setCell (Nat.le_refl _) _).setCell (Nat.le_refl _) _).setCell (Nat.le_refl _) _).setCell (Nat.le_refl _) _).setCell (Nat.le_refl _) _).setCell (Nat.le_refl _) _⟩
  · go_wp2_with fail
    exact bodyPost_ret (v := .tuple #[.agg #[.int .i64 y0, .int .i64 y1, .int .i64 y2, .int .i64 y3, .int .i64 y4, .int .i64 y5, .int .i64 y6, .int .i64 y7, .bool yb], .int .i64 2, .int .i64 0]) (by simp [results, Tryz.results26, go_sem, p0, p1, p2, p3, p4, p5, p6, p7, p8]) rfl ⟨rfl, (((((((((((((((((c4.setCell (Nat.le_of_lt z2) _).setCell (Nat.le_of_lt z2) _).setCell (Nat.le_of_lt z2) _).setCell (Nat.le_of_lt z2) _).setCell (Nat.le_of_lt z2) _).setCell (Nat.le_of_lt z2) _).setCell (Nat.le_of_lt z2) _).setCell (Nat.le_of_lt z2) _).setCell (Nat.le_of_lt z2) _).setCell (Nat.le_refl _) _).setCell (Nat.le_refl _) _).setCell (Nat.le_refl _) _).setCell (Nat.le_refl _) _).setCell (Nat.le_refl _) _).setCell (Nat.le_refl _) _).setCell (Nat.le_refl _) _).setCell (Nat.le_refl _) _).setCell (Nat.le_refl _) _⟩

end Go.Proofs.YtnpfihlaocpcfaaGreatDoor
/- For the seat: a store of an instruction's nine cells. -/
namespace Go.Proofs.YtnpfihlaocpcfaaGreatDoor
open Go.Sx Go.ChangeShapes Go.WideShapes Go.RowKit Go.Joins Go.Deep

set_option maxRecDepth 100000 in
/-- An instruction's store into a block that was not there. -/
theorem below9 {n : Nat} {w W : World} (h : Below n w W) {b : Nat} (hb : n ≤ b) (v0 v1 v2 v3 v4 v5 v6 v7 v8 : Value) : Below n w (((((((((W.setCell ⟨b, 0, none⟩ v0).setCell ⟨b, 1, none⟩ v1).setCell ⟨b, 2, none⟩ v2).setCell ⟨b, 3, none⟩ v3).setCell ⟨b, 4, none⟩ v4).setCell ⟨b, 5, none⟩ v5).setCell ⟨b, 6, none⟩ v6).setCell ⟨b, 7, none⟩ v7).setCell ⟨b, 8, none⟩ v8) :=
  (((((((((h).setCell (p := ⟨b, 0, none⟩) hb _).setCell (p := ⟨b, 1, none⟩) hb _).setCell (p := ⟨b, 2, none⟩) hb _).setCell (p := ⟨b, 3, none⟩) hb _).setCell (p := ⟨b, 4, none⟩) hb _).setCell (p := ⟨b, 5, none⟩) hb _).setCell (p := ⟨b, 6, none⟩) hb _).setCell (p := ⟨b, 7, none⟩) hb _).setCell (p := ⟨b, 8, none⟩) hb _

set_option maxRecDepth 100000 in
/-- Behind an instruction's store its cells are such, and others are as they were. -/
theorem st9 {W : World} {b : Nat} {x : Fields} (h : InsAt W b x) (z : Fields) (W3 : World) (h3 : (((((((((W.setCell ⟨b, 0, none⟩ (.int .i64 z.x0)).setCell ⟨b, 1, none⟩ (.int .i64 z.x1)).setCell ⟨b, 2, none⟩ (.int .i64 z.x2)).setCell ⟨b, 3, none⟩ (.int .i64 z.x3)).setCell ⟨b, 4, none⟩ (.int .i64 z.x4)).setCell ⟨b, 5, none⟩ (.int .i64 z.x5)).setCell ⟨b, 6, none⟩ (.int .i64 z.x6)).setCell ⟨b, 7, none⟩ (.int .i64 z.x7)).setCell ⟨b, 8, none⟩ (.bool z.b)) = W3) :
    (W3.cell? ⟨b, 0, none⟩ = some (.int .i64 z.x0) ∧ W3.cell? ⟨b, 1, none⟩ = some (.int .i64 z.x1) ∧ W3.cell? ⟨b, 2, none⟩ = some (.int .i64 z.x2) ∧ W3.cell? ⟨b, 3, none⟩ = some (.int .i64 z.x3) ∧ W3.cell? ⟨b, 4, none⟩ = some (.int .i64 z.x4) ∧ W3.cell? ⟨b, 5, none⟩ = some (.int .i64 z.x5) ∧ W3.cell? ⟨b, 6, none⟩ = some (.int .i64 z.x6) ∧ W3.cell? ⟨b, 7, none⟩ = some (.int .i64 z.x7) ∧ W3.cell? ⟨b, 8, none⟩ = some (.bool z.b)) ∧
    (∀ g o, b ≠ g → W3.cell? ⟨g, o, none⟩ = W.cell? ⟨g, o, none⟩) := by
  subst h3
  obtain ⟨⟨p0, p1, p2, p3, p4, p5, p6, p7, p8⟩, _⟩ := h
  refine ⟨⟨?_, ?_, ?_, ?_, ?_, ?_, ?_, ?_, ?_⟩, fun g o hg => far9 hg o _ _ _ _ _ _ _ _ _⟩ <;> simp [go_sem, p0, p1, p2, p3, p4, p5, p6, p7, p8]

end Go.Proofs.YtnpfihlaocpcfaaGreatDoor
