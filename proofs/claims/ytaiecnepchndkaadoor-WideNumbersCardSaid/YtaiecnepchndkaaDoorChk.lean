/- For the seat: 'Check' of both packages answers as the sign 901 says. -/
import Derived.Test.YtaiecnepchndkaaDoorChkP0
import Derived.Test.YtaiecnepchndkaaDoorChkP1
import Derived.Test.YtaiecnepchndkaaDoorChkP2
import Derived.Test.YtaiecnepchndkaaDoorChkP3
namespace Go.Proofs.YtaiecnepchndkaaDoor
open Go.Sx Go.ChangeShapes Go.WideShapes Go.RowKit Go.Joins Go.Deep
namespace chk

structure All (f : Nat) : Prop where
  lo : low f = true
  hi : high f = true
  a : itA f = true
  b : itB f = true
  c : itC f = true
  d : itD f = true
  go : ∀ k : Nat, 1 ≤ k → k ≤ 45 → k ≠ 42 → goes f k = true
  it : ∀ c : Nat, c ≤ 14 → its f c = true

theorem all_p : All 47 := by
  refine ⟨low_p, high_p, itA_p, itB_p, itC_p, itD_p, ?_, ?_⟩
  · intro k h h' h3
    match k, h, h', h3 with
    | 1, _, _, _ => exact go1_p
    | 2, _, _, _ => exact go2_p
    | 3, _, _, _ => exact go3_p
    | 4, _, _, _ => exact go4_p
    | 5, _, _, _ => exact go5_p
    | 6, _, _, _ => exact go6_p
    | 7, _, _, _ => exact go7_p
    | 8, _, _, _ => exact go8_p
    | 9, _, _, _ => exact go9_p
    | 10, _, _, _ => exact go10_p
    | 11, _, _, _ => exact go11_p
    | 12, _, _, _ => exact go12_p
    | 13, _, _, _ => exact go13_p
    | 14, _, _, _ => exact go14_p
    | 15, _, _, _ => exact go15_p
    | 16, _, _, _ => exact go16_p
    | 17, _, _, _ => exact go17_p
    | 18, _, _, _ => exact go18_p
    | 19, _, _, _ => exact go19_p
    | 20, _, _, _ => exact go20_p
    | 21, _, _, _ => exact go21_p
    | 22, _, _, _ => exact go22_p
    | 23, _, _, _ => exact go23_p
    | 24, _, _, _ => exact go24_p
    | 25, _, _, _ => exact go25_p
    | 26, _, _, _ => exact go26_p
    | 27, _, _, _ => exact go27_p
    | 28, _, _, _ => exact go28_p
    | 29, _, _, _ => exact go29_p
    | 30, _, _, _ => exact go30_p
    | 31, _, _, _ => exact go31_p
    | 32, _, _, _ => exact go32_p
    | 33, _, _, _ => exact go33_p
    | 34, _, _, _ => exact go34_p
    | 35, _, _, _ => exact go35_p
    | 36, _, _, _ => exact go36_p
    | 37, _, _, _ => exact go37_p
    | 38, _, _, _ => exact go38_p
    | 39, _, _, _ => exact go39_p
    | 40, _, _, _ => exact go40_p
    | 41, _, _, _ => exact go41_p
    | 43, _, _, _ => exact go43_p
    | 44, _, _, _ => exact go44_p
    | 45, _, _, _ => exact go45_p
    | 42, _, _, h3 => exact (h3 rfl).elim
    | n + 46, _, h', _ => omega
  · intro c h
    match c, h with
    | 0, _ => exact its0_p
    | 1, _ => exact its1_p
    | 2, _ => exact its2_p
    | 3, _ => exact its3_p
    | 4, _ => exact its4_p
    | 5, _ => exact its5_p
    | 6, _ => exact its6_p
    | 7, _ => exact its7_p
    | 8, _ => exact its8_p
    | 9, _ => exact its9_p
    | 10, _ => exact its10_p
    | 11, _ => exact its11_p
    | 12, _ => exact its12_p
    | 13, _ => exact its13_p
    | 14, _ => exact its14_p
    | n + 15, h => omega

theorem all_r : All 26 := by
  refine ⟨low_r, high_r, itA_r, itB_r, itC_r, itD_r, ?_, ?_⟩
  · intro k h h' h3
    match k, h, h', h3 with
    | 1, _, _, _ => exact go1_r
    | 2, _, _, _ => exact go2_r
    | 3, _, _, _ => exact go3_r
    | 4, _, _, _ => exact go4_r
    | 5, _, _, _ => exact go5_r
    | 6, _, _, _ => exact go6_r
    | 7, _, _, _ => exact go7_r
    | 8, _, _, _ => exact go8_r
    | 9, _, _, _ => exact go9_r
    | 10, _, _, _ => exact go10_r
    | 11, _, _, _ => exact go11_r
    | 12, _, _, _ => exact go12_r
    | 13, _, _, _ => exact go13_r
    | 14, _, _, _ => exact go14_r
    | 15, _, _, _ => exact go15_r
    | 16, _, _, _ => exact go16_r
    | 17, _, _, _ => exact go17_r
    | 18, _, _, _ => exact go18_r
    | 19, _, _, _ => exact go19_r
    | 20, _, _, _ => exact go20_r
    | 21, _, _, _ => exact go21_r
    | 22, _, _, _ => exact go22_r
    | 23, _, _, _ => exact go23_r
    | 24, _, _, _ => exact go24_r
    | 25, _, _, _ => exact go25_r
    | 26, _, _, _ => exact go26_r
    | 27, _, _, _ => exact go27_r
    | 28, _, _, _ => exact go28_r
    | 29, _, _, _ => exact go29_r
    | 30, _, _, _ => exact go30_r
    | 31, _, _, _ => exact go31_r
    | 32, _, _, _ => exact go32_r
    | 33, _, _, _ => exact go33_r
    | 34, _, _, _ => exact go34_r
    | 35, _, _, _ => exact go35_r
    | 36, _, _, _ => exact go36_r
    | 37, _, _, _ => exact go37_r
    | 38, _, _, _ => exact go38_r
    | 39, _, _, _ => exact go39_r
    | 40, _, _, _ => exact go40_r
    | 41, _, _, _ => exact go41_r
    | 43, _, _, _ => exact go43_r
    | 44, _, _, _ => exact go44_r
    | 45, _, _, _ => exact go45_r
    | 42, _, _, h3 => exact (h3 rfl).elim
    | n + 46, _, h', _ => omega
  · intro c h
    match c, h with
    | 0, _ => exact its0_r
    | 1, _ => exact its1_r
    | 2, _ => exact its2_r
    | 3, _ => exact its3_r
    | 4, _ => exact its4_r
    | 5, _ => exact its5_r
    | 6, _ => exact its6_r
    | 7, _ => exact its7_r
    | 8, _ => exact its8_r
    | 9, _ => exact its9_r
    | 10, _ => exact its10_r
    | 11, _ => exact its11_r
    | 12, _ => exact its12_r
    | 13, _ => exact its13_r
    | 14, _ => exact its14_r
    | n + 15, h => omega

end chk

/-- An instruction's fields. -/
structure Fields where
  x0 : Int
  x1 : Int
  x2 : Int
  x3 : Int
  x4 : Int
  x5 : Int
  x6 : Int
  x7 : Int
  b : Bool

def Fields.val (x : Fields) : Value := .agg #[.int .i64 x.x0, .int .i64 x.x1, .int .i64 x.x2, .int .i64 x.x3, .int .i64 x.x4, .int .i64 x.x5, .int .i64 x.x6, .int .i64 x.x7, .bool x.b]
def Fields.scs (x : Fields) : List Sc := [.int x.x0, .int x.x1, .int x.x2, .int x.x3, .int x.x4, .int x.x5, .int x.x6, .int x.x7, .bool x.b]

structure Fields.Ok (x : Fields) : Prop where
  h0 : kHas .i64 x.x0
  h1 : kHas .i64 x.x1
  h2 : kHas .i64 x.x2
  h3 : kHas .i64 x.x3
  h4 : kHas .i64 x.x4
  h5 : kHas .i64 x.x5
  h6 : kHas .i64 x.x6
  h7 : kHas .i64 x.x7

def insPat : SVal := .agg (.cons (.int .i64 (.var 0)) (.cons (.int .i64 (.var 1)) (.cons (.int .i64 (.var 2)) (.cons (.int .i64 (.var 3)) (.cons (.int .i64 (.var 4)) (.cons (.int .i64 (.var 5)) (.cons (.int .i64 (.var 6)) (.cons (.int .i64 (.var 7)) (.cons (.bool (.var 8)) .nil)))))))))
def chkPat : SVal := .cons insPat .nil
def chkR (t : Tm) : SVal := .int .i64 (.app 901 t)

theorem scs_ok {x : Fields} (h : x.Ok) : VarsOk (envOf F x.scs) := by
  refine ⟨?_, F_has⟩
  intro i
  match i with
  | 0 => exact h.h0
  | 1 => exact h.h1
  | 2 => exact h.h2
  | 3 => exact h.h3
  | 4 => exact h.h4
  | 5 => exact h.h5
  | 6 => exact h.h6
  | 7 => exact h.h7
  | 8 => exact zero_has
  | n + 9 => exact zero_has

theorem kn0_ok {x : Fields} (h : x.Ok) : Sats (envOf F x.scs) kn0 := by
  refine Sats.start (scs_ok h) _ ?_
  intro i hi
  simp only [List.mem_cons, List.not_mem_nil, or_false] at hi
  rcases hi with rfl | rfl | rfl | rfl | rfl | rfl | rfl | rfl
  all_goals exact ⟨_, rfl⟩

theorem arg_conc (x : Fields) {o c n i : Tm} (ho : o.den (envOf F x.scs) = .int x.x0) (hc : c.den (envOf F x.scs) = .int x.x1) (hn : n.den (envOf F x.scs) = .int x.x3) (hi : i.den (envOf F x.scs) = .int x.x5) (ι : Nm) : (argT o c n i).conc (envOf F x.scs) ι = x.val := by
  simp only [argT, SVal.conc, SVal.concL, ho, hc, hn, hi, Fields.val]
  rfl

theorem argL_den (x : Fields) {o c n i : Tm} (ho : o.den (envOf F x.scs) = .int x.x0) (hc : c.den (envOf F x.scs) = .int x.x1) (hn : n.den (envOf F x.scs) = .int x.x3) (hi : i.den (envOf F x.scs) = .int x.x5) : ((argL o c n i).den (envOf F x.scs)).asList = x.scs := by
  simp only [argL, Tm.den, ho, hc, hn, hi, Sc.asList_list]
  rfl

/-- At every instruction: an answer, and it is the sign's. -/
theorem chk_all {f : Nat} (A : chk.All f) {x : Fields} (hx : x.Ok) : ∃ x', CallOk (envOf F x.scs) cx.globs cx.P f chkPat.toList [] x' ∧ ∀ ι, x'.v.conc (envOf F x.scs) ι = .int .i64 (F 901 x.scs).asInt := by
  have so := sg_ok (ρ := envOf F x.scs) rfl
  have K := kn0_ok hx
  have go : ∀ (o c n i : Tm), o.den (envOf F x.scs) = .int x.x0 → c.den (envOf F x.scs) = .int x.x1 → n.den (envOf F x.scs) = .int x.x3 → i.den (envOf F x.scs) = .int x.x5 → o.signs (fun _ => false) = true → ∀ l e, Sats (envOf F x.scs) e → chk.at' f o c n i l e = true →
      (∀ t ∈ l, (t.den (envOf F x.scs)).asBool = true) → ∃ x', CallOk (envOf F x.scs) cx.globs cx.P f chkPat.toList [] x' ∧ ∀ ι, x'.v.conc (envOf F x.scs) ι = .int .i64 (F 901 x.scs).asInt := by
    intro o c n i ho hc hn hi _ l e hs hl hp
    obtain ⟨y, b, h1, h2, h3⟩ := pxInt_ok so _ _ hs hl
    have hc' := call_ok cxok (popS_ok (scs_ok hx) rfl) popS_body (conj_den _ l hp) h1
    refine ⟨y, hc'.args (by intro v hv; simp at hv; subst hv; rfl) ?_, ?_⟩
    · intro ι
      rw [List.map_cons, List.map_nil, arg_conc x ho hc hn hi]
      rfl
    · intro ι
      rw [h2]
      simp only [SVal.conc, h3, Tm.den, argL_den x ho hc hn hi]
      rfl
  have e0 : (chk.v 0).den (envOf F x.scs) = .int x.x0 := rfl
  have e1 : (chk.v 1).den (envOf F x.scs) = .int x.x1 := rfl
  have e3 : (chk.v 3).den (envOf F x.scs) = .int x.x3 := rfl
  have e5 : (chk.v 5).den (envOf F x.scs) = .int x.x5 := rfl
  by_cases h1 : x.x0 < 1
  · refine go _ _ _ _ e0 e1 e3 e5 rfl _ _ (K.tell (.le 0 0) ?_) A.lo ?_
    · exact decide_eq_true (show x.x0 ≤ 0 by omega)
    · simp [chk.lt, Tm.den, Op2.ev, e0, h1]
  by_cases h2 : 45 < x.x0
  · refine go _ _ _ _ e0 e1 e3 e5 rfl _ _ (K.tell (.le 0 45) ?_) A.hi ?_
    · exact decide_eq_false (show ¬ x.x0 ≤ 45 by omega)
    · simp [chk.lt, chk.gt, chk.no, Tm.den, Op1.ev, Op2.ev, e0, h1, h2]
  obtain ⟨k, hk⟩ := Int.eq_ofNat_of_zero_le (show 0 ≤ x.x0 by omega)
  have ek : (Tm.num (Int.ofNat k)).den (envOf F x.scs) = .int x.x0 := by rw [hk]; rfl
  by_cases h42 : k = 42
  · have e42 : (Tm.num 42).den (envOf F x.scs) = .int x.x0 := by rw [hk, h42]; rfl
    by_cases c1 : x.x1 < 0
    · refine go _ _ _ _ e42 e1 e3 e5 rfl _ _ (K.tell (.le 1 (-1)) ?_) A.a ?_
      · exact decide_eq_true (show x.x1 ≤ -1 by omega)
      · simp [chk.lt, Tm.den, Op2.ev, e1, c1]
    by_cases c2 : 14 < x.x1
    · refine go _ _ _ _ e42 e1 e3 e5 rfl _ _ (K.tell (.le 1 14) ?_) A.b ?_
      · exact decide_eq_false (show ¬ x.x1 ≤ 14 by omega)
      · simp [chk.lt, chk.gt, chk.no, Tm.den, Op1.ev, Op2.ev, e1, c1, c2]
    by_cases c3 : x.x5 < 1
    · refine go _ _ _ _ e42 e1 e3 e5 rfl _ _ (K.tell (.le 5 0) ?_) A.c ?_
      · exact decide_eq_true (show x.x5 ≤ 0 by omega)
      · simp [chk.lt, chk.gt, chk.no, Tm.den, Op1.ev, Op2.ev, e1, e5, c1, c2, c3]
    by_cases c4 : 15 < x.x5
    · refine go _ _ _ _ e42 e1 e3 e5 rfl _ _ (K.tell (.le 5 15) ?_) A.d ?_
      · exact decide_eq_false (show ¬ x.x5 ≤ 15 by omega)
      · simp [chk.lt, chk.gt, chk.no, Tm.den, Op1.ev, Op2.ev, e1, e5, c1, c2, c3, c4]
    obtain ⟨c, hc⟩ := Int.eq_ofNat_of_zero_le (show 0 ≤ x.x1 by omega)
    obtain ⟨m, hm⟩ := Int.eq_ofNat_of_zero_le (show 0 ≤ x.x5 by omega)
    have := List.all_eq_true.1 (A.it c (by omega)) m (by rw [List.mem_range'_1]; omega)
    exact go _ _ _ _ e42 (by rw [hc]; rfl) e3 (by rw [hm]; rfl) rfl _ _ K this (by simp)
  · exact go _ _ _ _ ek e1 e3 e5 rfl _ _ K (A.go k (by omega) (by omega) h42) (by simp)

set_option maxRecDepth 100000 in
theorem chk_norm (s0 s1 s2 s3 s4 s5 s6 s7 s8 : Sc) : (Chk.chk.den (envOf F0 [s0, s1, s2, s3, s4, s5, s6, s7, s8])).asInt = (Chk.chk.den (envOf F0 [.int s0.asInt, .int s1.asInt, .int s2.asInt, .int s3.asInt, .int s4.asInt, .int s5.asInt, .int s6.asInt, .int s7.asInt, .bool s8.asBool])).asInt := by
  kernel_rfl

theorem chk_call {f : Nat} (A : chk.All f) {ρ : Env} (V : VarsOk ρ) (hF : ρ.f = F) : ∀ args h pc x, (pc.den ρ).asBool = true → (specR chkPat chkR args h pc).get ρ = some x → CallOk ρ cx.globs cx.P f args h x := by
  refine specR_ok V globsC rfl (by intro u hu; simp [chkPat, SVal.toList] at hu; subst hu; rfl) (fun _ => rfl) ?_
  intro L hL hp
  match L, hL with
  | [s0, s1, s2, s3, s4, s5, s6, s7, s8], _ =>
    obtain ⟨⟨p0, p1, p2, p3, p4, p5, p6, p7, _⟩, _⟩ := hp
    let x : Fields := ⟨s0.asInt, s1.asInt, s2.asInt, s3.asInt, s4.asInt, s5.asInt, s6.asInt, s7.asInt, s8.asBool⟩
    obtain ⟨x', hc, hv⟩ := chk_all A (x := x) ⟨p0, p1, p2, p3, p4, p5, p6, p7⟩
    refine ⟨envOf F x.scs, x', hc, fun ι => rfl, ?_⟩
    intro t ι ι' ht
    rw [hv ι']
    simp only [SVal.conc, chkR, Tm.den, ht, hF]
    exact congrArg _ (chk_norm s0 s1 s2 s3 s4 s5 s6 s7 s8)

end Go.Proofs.YtaiecnepchndkaaDoor
